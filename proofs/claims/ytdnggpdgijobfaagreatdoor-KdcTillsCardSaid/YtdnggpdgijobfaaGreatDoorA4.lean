import Derived.Test.YtdnggpdgijobfaaGreatDoorA3
import Derived.Test.YtdnggpdgijobfaaGreatDoorA2
import Derived.Tactics
import Derived.Tactics2
import Derived.Defers
import Derived.Laws.Pointers
import Derived.Laws.LoneSync
import Derived.RegionTactic
import Derived.RegionCalls
set_option linter.all false
/- A call's new row becomes a value of its own. -/
namespace Ps
open Go
section
variable {P : Program}
structure Kept (H H1:PH):Prop where
 len:H1.length=H.length
 old:∀(id:Nat) (o':PObj),H1[id]? = some o'→∃o,H[id]? = some o∧∀c,c∈o'.cs→flatP c=true∨c∈o.cs
theorem CK.own {f:Nat} {args:List PV} {H:PH} {Q:PV→PH→Prop} {R:PH→Prop} {nn e0 sz:Nat} {cs:List PV} (h:CK P f args H Q) (hps:psize P e0=sz) (hsz:0<sz) (hcs:cs.length=nn*sz) (hfl:cs.all flatP=true)
  (hq:∀r H',Q r H'→∃H1 ext id cap o,H'=H1++ext∧Kept H H1∧R H1∧r=.sref id 0 nn cap∧H.length≤id∧H'[id]? = some o∧o.T=e0∧o.cs.length=cap*sz∧o.cs.take cs.length=cs) :
  CK P f args H fun r H'=>r=.slice nn cs (some e0)∧R H':=by
 intro g w vs hs hr
 refine (h g w vs hs hr).mono ?_
 rintro e w' ⟨v,r,H',g',rfl,q,hr',st,ho,hc⟩
 obtain ⟨H1,ext,id0,cap,ob,rfl,hkp,hR,rfl,hid0,hob,hT,hcp,htk⟩:=hq r H' q
 have hl1:=hkp.len
 have h0:VC P g' w' v (.sref id0 0 nn cap):=hr'.e 0
 have h0:V g' w' v (.sref id0 0 nn cap):=by
  rcases h0 with h0 | ⟨_,_,_,_,h0,_⟩
  ·exact h0
  ·cases h0
 obtain ⟨b0,rfl,hb0,hle⟩:=h0.inv_sref
 obtain ⟨us0,o1,o2,o3⟩:=hr'.h.obj id0 b0 ob hob hb0
 have hlen:g.ι.length=H.length:=hr.h.len
 have hcl:cs.length≤ob.cs.length:=by rw [hcp,hcs];exact Nat.mul_le_mul_right _ hle
 have hfull:∀(id b:Nat),id<H.length→g'.ι[id]? = some (some b)→∃b0,g.ι[id]? = some (some b0):=fun id b hl h=>by
  have hlt:id<g.ι.length:=by omega
  cases hx:g.ι[id] with
  | some b0=>exact ⟨b0,by rw [List.getElem?_eq_getElem hlt,hx]⟩
  | none =>
   have:=st.nil id (by rw [List.getElem?_eq_getElem hlt,hx])
   rw [h] at this;cases this
 have hnew:w.heap.size≤b0:=by
  rcases st.ι id0 b0 hb0 with h | h
  ·exact absurd (List.getElem?_eq_some_iff.1 h).1 (by omega)
  ·exact h
 let I2:Nat→Nat→Prop:=fun b o=>g'.I b o∨(b=b0∧o<cs.length)
 have hI2:∀b o,g'.I b o→I2 b o:=fun b o h=>.inl h
 have htake:∀(id b:Nat),(g'.ι.take H.length)[id]? = some (some b)→id<H.length∧g'.ι[id]? = some (some b):=fun id b hi=>by
  rw [List.getElem?_take] at hi
  split at hi
  ·exact ⟨by assumption,hi⟩
  ·cases hi
 have hmk:∀(id b:Nat),id<g.ι.length→g'.ι[id]? = some (some b)→(g'.ι.take H.length)[id]? = some (some b):=fun id b hl hi=>by
  rw [List.getElem?_take,if_pos (by omega)];exact hi
 have hsub:∀(id b:Nat),(g'.ι.take H.length)[id]? = some (some b)→g'.ι[id]? = some (some b):=fun id b hi=>(htake id b hi).2
 have hne:∀(id:Nat),(g'.ι.take H.length)[id]?≠some (some b0):=fun id hi=>by
  obtain ⟨k1,k2⟩:=htake id b0 hi
  have:=hr'.h.inj id id0 b0 k2 hb0
  omega
 have hcell:∀id j b,cellOwnAt ⟨g'.ι.take H.length,I2⟩ w' H1 id j b→cellOwnAt g' w' (H1++ext) id j b:=fun id j b ⟨o,c,b0,v,h1,h2,h3,h4,h5,h6⟩ =>
  ⟨o,c,b0,v,by rw [List.getElem?_append_left (List.getElem?_eq_some_iff.1 h1).1];exact h1,h2,h3,hsub _ _ h4,h5,h6⟩
 have hown:∀{u:Value} {n:Nat} {cs':List PV} {e b:Nat},OwnF P g' w' u n cs' e b→OwnF P ⟨g'.ι.take H.length,I2⟩ w' u n cs' e b:=fun hf =>
  ⟨hf.ex,fun id hi=>hf.obj id (hsub id _ hi),fun o ho hi=>by
   rcases hi with hi | ⟨rfl,_⟩
   ·exact hf.spare o ho hi
   ·exact hf.obj id0 hb0⟩
 have hv:V ⟨g'.ι.take H.length,I2⟩ w' (.slice (some ⟨b0,0,none⟩) nn cap) (.slice nn cs none):=by
  refine .slice b0 0 nn cap cs (fun j=>us0.getD j undef) hle (fun j c hj=>?_) fun j c hj=>?_
  ·have hlt:j<cs.length:=(List.getElem?_eq_some_iff.1 hj).1
   refine ⟨.inr ⟨rfl,by omega⟩,?_⟩
   rw [cell?_cells o1,Nat.zero_add]
   have:j<us0.size:=by rw [o2];omega
   simp [this]
  ·have hlt:j<cs.length:=(List.getElem?_eq_some_iff.1 hj).1
   have hoc:ob.cs[j]? = some c:=by
    rw [←htk,List.getElem?_take,if_pos hlt] at hj;exact hj
   obtain ⟨u,y1,y2⟩:=o3 j c hoc
   have hcf:flatP c=true:=List.all_eq_true.1 hfl c (List.mem_of_getElem? hj)
   simp only [Array.getD_eq_getD_getElem?,y1,Option.getD_some]
   exact (y2.flat hcf).flat hcf
 have hnI:∀o,¬g'.I b0 o:=fun o hi=>(hr'.h.imm b0 o hi).1 id0 hb0
 have hf:OwnF P ⟨g'.ι.take H.length,I2⟩ w' (.slice (some ⟨b0,0,none⟩) nn cap) nn cs e0 b0:=by
  refine ⟨⟨cap,us0,rfl,hle,by rw [←hT];exact o1,by rw [hps];exact hsz,by rw [hps];exact hcs,by rw [hps,o2];exact hcp⟩,hne,fun o ho hi=>?_⟩
  rcases hi with hi | ⟨_,hi⟩
  ·exact hnI o hi
  ·omega
 have hget:∀t,VC P ⟨g'.ι.take H.length,I2⟩ w' (one (.slice (some ⟨b0,0,none⟩) nn cap) t) (Env.get [(0,.slice nn cs (some e0))] t):=fun t=>by
  rw [Env.get_cons]
  unfold one
  by_cases e:t=0
  ·rw [if_pos e,if_pos e.symm];exact .inr ⟨nn,cs,e0,b0,rfl,hv,hf⟩
  ·rw [if_neg e,if_neg (Ne.symm e)];exact (V.undef _).vc
 have hwho:∀t i b,ownAt (one (.slice (some ⟨b0,0,none⟩) nn cap) t) (Env.get [(0,.slice nn cs (some e0))] t) i b→t=0∧i=0∧b=b0:=fun t i b h=>by
  rw [Env.get_cons] at h
  unfold one at h
  by_cases e:t=0
  ·rw [if_pos e,if_pos e.symm] at h
   exact ⟨e,h.1,(Option.some.inj h.2.2).symm⟩
  ·rw [if_neg (Ne.symm e)] at h;cases h.2.1
 have hnc:¬cellOwn g' w' (H1++ext) b0:=by
  rintro ⟨id,j,o,c,b1,u,h1,h2,h3,h4,h5,h6⟩
  obtain ⟨vs,k1,k2,k3⟩:=hr'.h.obj id b1 o h1 h4
  obtain ⟨u',y1,y2⟩:=k3 j c h2
  rw [cell?_cells k1,y1] at h5
  obtain rfl:=Option.some.inj h5
  rcases y2 with y2 | ⟨n,cs',e,bb,rfl,_,hf'⟩
  ·cases c with
   | slice n cs' o' =>
    cases o' with
    | some e =>
     obtain ⟨rfl,rfl,rfl⟩:=y2.own_nil
     cases y2;cases h6
    | none=>cases h3
   | _=>cases h3
  ·obtain ⟨cap',vs',rfl,_⟩:=hf'.ex
   have:bb=b0:=Option.some.inj h6
   subst this
   exact hf'.obj id0 hb0
 refine ⟨_,.slice nn cs (some e0),H1,⟨g'.ι.take H.length,I2⟩,rfl,⟨rfl,hR⟩,⟨⟨?_,fun id id' b h1 h2=>hr'.h.inj id id' b (hsub _ _ h1) (hsub _ _ h2),trivial,fun id b o h1 h2=>?_,fun b o hi=>?_⟩,hget,fun t i t' i' b h h'=>?_,fun t i b h hh=>?_,fun id j id' j' b h1 h2=>hr'.cc id j id' j' b (hcell _ _ _ h1) (hcell _ _ _ h2)⟩,
  ⟨⟨fun id o ho=>?_,fun id b o o' hi h1 h2 hv=>?_⟩,st.os,st.tape,st.output,st.size,⟨fun id b hi=>hmk id b (List.getElem?_eq_some_iff.1 hi).1 (st.keeps.ι id b hi),fun b o hi=>⟨.inl (st.keeps.I b o hi).1,(st.keeps.I b o hi).2⟩⟩,fun id b hi=>st.ι id b (hsub id b hi),fun b hb h1 h2=>?_,fun id h=>by
   have hlt:=(List.getElem?_eq_some_iff.1 h).1
   show (g'.ι.take H.length)[id]? = some none
   rw [List.getElem?_take,if_pos (by omega)];exact st.nil id h⟩,
  fun i b h=>?_,fun b ⟨id,j,h1⟩=>hc b ⟨id,j,hcell _ _ _ h1⟩⟩
 ·have:=hr'.h.len
  simp at this ⊢
  omega
 ·obtain ⟨hl,h2'⟩:=htake id b h2
  obtain ⟨us,k1,k2,k3⟩:=hr'.h.obj id b o (by rw [List.getElem?_append_left (by omega)];exact h1) h2'
  refine ⟨us,k1,k2,fun j c hj=>?_⟩
  obtain ⟨u,y1,y2⟩:=k3 j c hj
  refine ⟨u,y1,?_⟩
  obtain ⟨b1,hb1⟩:=hfull id b hl h2'
  obtain ⟨oo,q1,q2⟩:=hkp.old id o h1
  rcases q2 c (List.mem_of_getElem? hj) with hcf | hcm
  ·exact .inl ((y2.flat hcf).flat hcf)
  obtain ⟨j0,hj0⟩:=List.getElem?_of_mem hcm
  obtain ⟨us1,z1,z2,z3⟩:=hr.h.obj id b1 oo q1 hb1
  obtain ⟨u0,x1,x2⟩:=z3 j0 c hj0
  have both:∀(p:PV) (u u0:Value),V g w u0 p→V g' w' u p→V ⟨g'.ι.take H.length,I2⟩ w' u p:=fun p u u0 a0 a1=>V.both (g:=g') (h:=a1) (g0:=g) (g':=⟨g'.ι.take H.length,I2⟩) hI2 hmk a0
  rcases y2 with y2 | ⟨n,cs',e,bb,rfl,hv',hf⟩
  ·cases c with
   | slice n cs' o' =>
    cases o' with
    | some e =>
     obtain ⟨rfl,rfl,rfl⟩:=y2.own_nil
     exact .inl (.snil _)
    | none=>exact .inl (both _ _ _ x2.dem y2)
   | tup cs'=>exact x2.not_tup.elim
   | _=>exact .inl (both _ _ _ x2.dem y2)
  ·exact .inr ⟨n,cs',e,bb,rfl,both _ _ _ x2.dem hv',hown hf⟩
 ·rcases hi with hi | ⟨rfl,hi⟩
  ·obtain ⟨k1,k2⟩:=hr'.h.imm b o hi
   exact ⟨fun id h2=>k1 id (hsub _ _ h2),k2⟩
  ·exact ⟨hne,us0,_,_,o1,by rw [o2];omega⟩
 ·obtain ⟨rfl,rfl,_⟩:=hwho t i b h
  obtain ⟨rfl,rfl,_⟩:=hwho t' i' b h'
  exact ⟨rfl,rfl⟩
 ·obtain ⟨_,_,rfl⟩:=hwho t i b h
  obtain ⟨id,j,h2⟩:=hh
  exact hnc ⟨id,j,hcell _ _ _ h2⟩
 ·obtain ⟨o',k1,k2⟩:=st.fr.more id o ho
  have:=(List.getElem?_eq_some_iff.1 ho).1
  rw [List.getElem?_append_left (by omega)] at k1
  exact ⟨o',k1,k2⟩
 ·have:=(List.getElem?_eq_some_iff.1 h1).1
  exact st.fr.same id b o o' hi h1 (by rw [List.getElem?_append_left (by omega)];exact h2) hv
 ·obtain ⟨k1,k2⟩:=st.far b hb h1 h2
  refine ⟨k1,fun o hi=>?_⟩
  rcases hi with hi | ⟨rfl,_⟩
  ·exact k2 o hi
  ·omega
 ·have:b=b0:=(Option.some.inj h.2.2).symm
  subst this
  exact .inl hnew
end
end Ps
/- A call's own row becomes an object. -/
namespace Ps
open Go
section
variable {P : Program}
theorem Imm.flatAt {g:Gh} {w:World} {b off n cap:Nat} {cs:List PV} (h:V g w (.slice (some ⟨b,off,none⟩) n cap) (.slice n cs none)) {j:Nat} {c:PV} (hj:cs[j]? = some c):∃u,w.cell? ⟨b,off+j,none⟩=some u∧V g w u c:=by
 cases h with
 | slice _ _ _ _ _ u hn h1 h2=>exact ⟨u j,(h1 j c hj).2,h2 j c hj⟩
theorem CK.obj {f:Nat} {args:List PV} {H:PH} {n e0 sz:Nat} {cs:List PV} (h:CK P f args H fun r H'=>r=.slice n cs (some e0)∧H'=H) (hn:0<n) (hps:psize P e0=sz) (hfl:cs.all flatP=true) :
  CK P f args H fun r H'=>∃cap k,n≤cap∧cs.length+k=cap*sz∧r=.sref H.length 0 n cap∧H'=H++[⟨e0,cs++List.replicate k .undef,0⟩]:=by
 intro g w vs hs hr
 refine (h g w vs hs hr).mono ?_
 rintro e w' ⟨v,r,H',g',rfl,⟨rfl,rfl⟩,hr',st,ho,hc⟩
 have h0:VC P g' w' v (.slice n cs (some e0)):=hr'.e 0
 have h0:VH P g' w' v (.slice n cs (some e0)):=h0
 obtain ⟨b,hv,hf⟩:∃b,V g' w' v (.slice n cs none)∧OwnF P g' w' v n cs e0 b:=by
  rcases h0 with h0 | ⟨n',cs',e',b,he,hv,hf⟩
  ·have:=h0.own_nil.2.1
   omega
  ·cases he
   exact ⟨b,hv,hf⟩
 obtain ⟨cap,us,rfl,hle,hus,hp0,hcl,huz⟩:=hf.ex
 rw [hps] at hp0 hcl huz
 have hlen:g.ι.length=H'.length:=hr.h.len
 have hlen':g'.ι.length=H'.length:=hr'.h.len
 have hown:ownAt (one (.slice (some ⟨b,0,none⟩) n cap) 0) (Env.get [(0,.slice n cs (some e0))] 0) 0 b:=⟨rfl,rfl,rfl⟩
 have hnc:¬cellOwn g' w' H' b:=hr'.sc 0 0 b hown
 have hheap:∀(id b1:Nat) (o:PObj),g.ι[id]? = some (some b1)→H'[id]? = some o→w'.heap[b1]? = w.heap[b1]?:=fun id b1 o h1 h2=>(st.fr.same id b1 o o h1 h2 h2 rfl).2
 have hfull:∀(id b1:Nat),id<H'.length→g'.ι[id]? = some (some b1)→g.ι[id]? = some (some b1):=fun id b1 hl h=>by
  have hlt:id<g.ι.length:=by omega
  cases hx:g.ι[id] with
  | some b0 =>
   have k1:g.ι[id]? = some (some b0):=by rw [List.getElem?_eq_getElem hlt,hx]
   have k2:=st.keeps.ι id b0 k1
   rw [h] at k2
   cases k2
   exact k1
  | none =>
   have:=st.nil id (by rw [List.getElem?_eq_getElem hlt,hx])
   rw [h] at this;cases this
 have hcellold:∀id j b1,cellOwnAt g w H' id j b1→cellOwnAt g' w' H' id j b1:=fun id j b1 ⟨o,c,b0,u,h1,h2,h3,h4,h5,h6⟩ =>
  ⟨o,c,b0,u,h1,h2,h3,st.keeps.ι _ _ h4,by
   obtain ⟨vs1,k1,_⟩:=hr.h.obj id b0 o h1 h4
   have k2:=(hheap id b0 o h4 h1).trans k1
   rw [cell?_cells k2,←cell?_cells k1];exact h5,h6⟩
 have hnew:w.heap.size≤b:=by
  rcases ho 0 b ⟨rfl,rfl,rfl⟩ with h | ⟨id,j,h⟩
  ·exact h
  ·exact absurd ⟨id,j,hcellold id j b h⟩ hnc
 let g2:Gh:=⟨g'.ι++[some b],fun b1 o=>g'.I b1 o∧b1≠b⟩
 have hι:∀(id b1:Nat),g2.ι[id]? = some (some b1)→(id<H'.length∧g'.ι[id]? = some (some b1))∨(id=H'.length∧b1=b):=fun id b1 hi=>by
  by_cases hl:id<H'.length
  ·exact .inl ⟨hl,by rw [←hi];exact (List.getElem?_append_left (by omega)).symm⟩
  ·have hlt:=(List.getElem?_eq_some_iff.1 hi).1
   simp only [g2,List.length_append,List.length_cons,List.length_nil] at hlt
   have e:id=g'.ι.length:=by omega
   subst e
   have:(g'.ι++[some b])[g'.ι.length]? = some (some b):=by simp
   rw [show g2.ι[g'.ι.length]? = (g'.ι++[some b])[g'.ι.length]? from rfl,this] at hi
   cases hi
   exact .inr ⟨hlen',rfl⟩
 have hold:∀(id b1:Nat),g'.ι[id]? = some (some b1)→g2.ι[id]? = some (some b1):=fun id b1 hi=>by
  have hlt:=(List.getElem?_eq_some_iff.1 hi).1
  rw [←hi];exact List.getElem?_append_left hlt
 have hat:g2.ι[H'.length]? = some (some b):=by
  show (g'.ι++[some b])[H'.length]? = _
  rw [←hlen'];simp
 have hkeep:Keeps g w g2 w':=⟨fun id b1 hi=>hold _ _ (st.keeps.ι id b1 hi),fun b1 o hi=>⟨⟨(st.keeps.I b1 o hi).1,fun e=>by
  have:=hr.h.ilt hi
  omega⟩,(st.keeps.I b1 o hi).2⟩⟩
 have hget2:∀(t:Nat) (x:PObj),(H'++[x])[t]? = if t<H'.length then H'[t]? else if t=H'.length then some x else none:=fun t x=>by
  split
  ·exact List.getElem?_append_left (by assumption)
  ·split
   ·rename_i h1 h2;subst h2;simp
   ·rw [List.getElem?_eq_none (by simp;omega)]
 generalize hX:PObj.mk e0 (cs++List.replicate (cap*sz - cs.length) .undef) 0=X
 have hXc:∀(j:Nat) (c:PV),X.cs[j]? = some c→(flatP c=true∧cs[j]? = some c)∨(c=.undef∧j<cap*sz):=fun j c hj=>by
  subst hX
  by_cases hl:j<cs.length
  ·rw [List.getElem?_append_left hl] at hj
   exact .inl ⟨List.all_eq_true.1 hfl c (List.mem_of_getElem? hj),hj⟩
  ·rw [List.getElem?_append_right (by omega)] at hj
   have h1:=(List.getElem?_eq_some_iff.1 hj).1
   rw [List.length_replicate] at h1
   rw [List.getElem?_replicate,if_pos h1] at hj
   exact .inr ⟨(Option.some.inj hj).symm,by omega⟩
 have hcc:∀id j b1,cellOwnAt g2 w' (H'++[X]) id j b1→cellOwnAt g' w' H' id j b1:=fun id j b1 ⟨o,c,b0,u,h1,h2,h3,h4,h5,h6⟩=>by
  rcases hι _ _ h4 with ⟨k1,k2⟩ | ⟨k1,k2⟩
  ·rw [List.getElem?_append_left k1] at h1
   exact ⟨o,c,b0,u,h1,h2,h3,k2,h5,h6⟩
  ·subst k1
   have:(H'++[X])[H'.length]? = some X:=by simp
   rw [this] at h1;cases h1
   rcases hXc j c h2 with ⟨q,_⟩ | ⟨rfl,_⟩
   ·cases c <;> first | (cases q;done) | (cases h3;done)
   ·cases h3
 have hno:∀t i b1,¬ownAt (one (.slice (some ⟨b,0,none⟩) n cap) t) (Env.get [(0,.sref H'.length 0 n cap)] t) i b1:=fun t i b1 h=>by
  rw [Env.get_cons] at h
  unfold one at h
  by_cases e:t=0
  ·rw [if_pos e,if_pos e.symm] at h;cases h.2.1
  ·rw [if_neg (Ne.symm e)] at h;cases h.2.1
 have hcs:cs.length≤cap*sz:=by rw [hcl];exact Nat.mul_le_mul_right _ hle
 refine ⟨_,.sref H'.length 0 n cap,H'++[X],g2,rfl,⟨cap,cap*sz - cs.length,hle,by omega,rfl,by rw [hX]⟩,⟨⟨?_,fun id id' b1 h1 h2=>?_,trivial,fun id b1 o h1 h2=>?_,fun b1 o hi=>?_⟩,fun t=>?_,fun t i t' i' b1 h _=>absurd h (hno t i b1),fun t i b1 h _=>hno t i b1 h,fun id j id' j' b1 h1 h2=>hr'.cc id j id' j' b1 (hcc _ _ _ h1) (hcc _ _ _ h2)⟩,
  ⟨⟨fun id o h=>⟨o,by rw [List.getElem?_append_left (List.getElem?_eq_some_iff.1 h).1];exact h,Nat.le_refl _⟩,fun id b1 o o' hi h1 h2 hv=>?_⟩,st.os,st.tape,st.output,st.size,hkeep,fun id b1 hi=>?_,fun b1 hb h1 h2=>?_,fun id h=>?_⟩,
  fun i b1 h=>?_,fun b1 ⟨id,j,h1⟩=>hc b1 ⟨id,j,hcc _ _ _ h1⟩⟩
 ·show (g'.ι++[some b]).length=_
  simp [hlen']
 ·rcases hι _ _ h1 with ⟨a1,a2⟩ | ⟨a1,a2⟩ <;> rcases hι _ _ h2 with ⟨c1,c2⟩ | ⟨c1,c2⟩
  ·exact hr'.h.inj id id' b1 a2 c2
  ·subst c2;exact absurd a2 (hf.obj id)
  ·subst a2;exact absurd c2 (hf.obj id')
  ·omega
 ·rcases hι _ _ h2 with ⟨a1,a2⟩ | ⟨a1,a2⟩
  ·rw [List.getElem?_append_left a1] at h1
   obtain ⟨us1,k1,k2,k3⟩:=hr'.h.obj id b1 o h1 a2
   have hg:=hfull id b1 a1 a2
   obtain ⟨us2,z1,z2,z3⟩:=hr.h.obj id b1 o h1 hg
   have:=(hheap id b1 o hg h1).trans z1
   rw [k1] at this
   cases this
   refine ⟨us1,k1,k2,fun j c hj=>?_⟩
   obtain ⟨u,y1,y2⟩:=k3 j c hj
   obtain ⟨u',x1,x2⟩:=z3 j c hj
   rw [y1] at x1;cases x1
   refine ⟨u,y1,?_⟩
   rcases x2 with x2 | ⟨nn,cc,ee,bb,rfl,xv,xf⟩
   ·exact .inl (x2.mono hkeep)
   ·rcases y2 with y2 | ⟨_,_,_,bb',he,yv,yf⟩
    ·obtain ⟨rfl,rfl,rfl⟩:=y2.own_nil
     exact .inl (.snil _)
    ·cases he
     refine .inr ⟨nn,cc,ee,bb',rfl,xv.mono hkeep,⟨yf.ex,fun id2 hi=>?_,fun o2 ho2 hi=>yf.spare o2 ho2 hi.1⟩⟩
     rcases hι _ _ hi with ⟨_,q⟩ | ⟨_,q⟩
     ·exact yf.obj id2 q
     ·subst q
      exact hnc ⟨id,j,o,_,b1,u,h1,hj,rfl,a2,by rw [cell?_cells k1];exact y1,yf.blk⟩
  ·subst a1;subst a2
   have:(H'++[X])[H'.length]? = some X:=by simp
   rw [this] at h1;cases h1
   refine ⟨us,by rw [←hX];exact hus,?_,fun j c hj=>?_⟩
   ·rw [huz,←hX]
    simp only [List.length_append,List.length_replicate]
    omega
   ·rcases hXc j c hj with ⟨q1,q2⟩ | ⟨rfl,q2⟩
    ·obtain ⟨u,x1,x2⟩:=Imm.flatAt hv q2
     rw [Nat.zero_add,cell?_cells hus] at x1
     exact ⟨u,x1,.inl (x2.flat q1)⟩
    ·have hj2:j<us.size:=by omega
     exact ⟨us[j],by simp [hj2],.inl (.undef _)⟩
 ·obtain ⟨k1,k2⟩:=hr'.h.imm b1 o hi.1
  refine ⟨fun id h2=>?_,k2⟩
  rcases hι _ _ h2 with ⟨_,q⟩ | ⟨_,q⟩
  ·exact k1 id q
  ·exact hi.2 q
 ·rw [Env.get_cons]
  unfold one
  by_cases e:t=0
  ·rw [if_pos e,if_pos e.symm];exact (V.sref _ b 0 n cap hat hle).vc
  ·rw [if_neg e,if_neg (Ne.symm e)];exact (V.undef _).vc
 ·have hl:=(List.getElem?_eq_some_iff.1 h1).1
  rw [List.getElem?_append_left hl,h1] at h2
  cases h2
  exact ⟨rfl,hheap id b1 o hi h1⟩
 ·rcases hι _ _ hi with ⟨_,q⟩ | ⟨_,q⟩
  ·exact st.ι id b1 q
  ·subst q;exact .inr hnew
 ·obtain ⟨k1,k2⟩:=st.far b1 hb h1 h2
  exact ⟨k1,fun o hi=>k2 o hi.1⟩
 ·have:=st.nil id h
  have hlt:=(List.getElem?_eq_some_iff.1 this).1
  rw [←this];exact List.getElem?_append_left hlt
 ·cases h.2.1
end
end Ps
/- An argument that is nil is a row of nothing. -/
namespace Ps
open Go
end Ps
set_option maxRecDepth 100000
set_option maxHeartbeats 1000000
namespace Go.Proofs.Tryz
open Go Ps
def ow (b:List UInt8):PV:=.slice b.length (b.map bC) (some 5)
theorem psize5:psize prog 5=1:=by kernel_rfl
theorem allFlat (b:List UInt8):(b.map bC).all flatP=true:=List.all_eq_true.2 fun x hx=>by
 obtain ⟨b,_,rfl⟩:=List.mem_map.1 hx
 rfl
theorem clone140 (b:List UInt8) (hb:b.length≤140737488355328):Pure prog 224 [sl b] (ow b):=by
 intro H
 (refine fnS (imm:=imm224y) ttS_ok func224 ?_;(conv=>whnf))
 have happ:(0+b.length)*1≤140737488355328∧(b.map bC).length=b.length*1∧(b.map bC).all oneP=true:=⟨by omega,by simp,allOne b⟩
 refine ⟨fun h=>?_,fun h=>⟨?_,?_⟩⟩
 ·conv=>whnf
  refine ⟨happ,?_⟩
  conv=>whnf
  exact ⟨by rw [Nat.zero_add];rfl,rfl⟩
 ·conv=>whnf
  have e:b=[]:=List.length_eq_zero_iff.1 h
  subst e
  exact ⟨rfl,rfl⟩
 ·conv=>whnf
  refine ⟨happ,?_⟩
  conv=>whnf
  exact ⟨by rw [Nat.zero_add];rfl,rfl⟩
theorem c224o (b:List UInt8) (hb:b.length≤140737488355328) (h0:0<b.length) (H:PH) :
  CK prog 224 [sl b] H fun r H'=>∃cap k,r=.sref H.length 0 b.length cap∧b.length+k=cap∧H'=H++[⟨5,b.map bC++List.replicate k PV.undef,0⟩]:=by
 refine (CK.obj (n:=b.length) (cs:=b.map bC) (clone140 b hb H) h0 psize5 (allFlat b)).mono fun r H' hh=>?_
 obtain ⟨cap,k,h1,h2,h3,h4⟩:=hh
 rw [List.length_map] at h2
 exact ⟨cap,k,h3,by omega,h4⟩
def boxS (sid:Nat) (sp:List UInt8) (s o r:Int) (v:Nat):PObj:=⟨241,[.ptr (some (sid,0))]++sp.map bC++[.int .i64 s,.int .i64 o,.int .i64 r],v⟩
def tagV (sp:List UInt8) (u:Int) (ahead:List UInt8):List UInt8:=bigV (sipV sp (byteI u::ahead))
theorem bigV_len (n:Int):(bigV n).length=8:=rfl
theorem c174 (sid:Nat) (sp:List UInt8) (hsp:sp.length=16) (s o r:Int) (v:Nat) (u:Int) (ahead:List UInt8) (ha:ahead.length≤1000000) (bid:Nat) (H:PH) (hb:H[bid]? = some (boxS sid sp s o r v)) :
  CK prog 174 [.ptr (some (bid,0)),.int .i64 u,sl ahead] H fun x H'=>x=sl (tagV sp u ahead)∧H'=H:=by
 obtain ⟨k0,k1,k2,k3,k4,k5,k6,k7,k8,k9,ka,kb,kc,kd,ke,kf,rfl⟩:=len16 hsp
 (refine fnS (imm:=imm174) ttS_ok func174 ?_;(conv=>whnf))
 ((conv in (_[_]?)=>tactic=>exact hb);(conv=>whnf))
 have hfl:[[byteI u],ahead].flatten=byteI u::ahead:=by simp
 have hc:=c226 [k0,k1,k2,k3,k4,k5,k6,k7,k8,k9,ka,kb,kc,kd,ke,kf] (by simp) [[byteI u],ahead] (by simp) (by rw [hfl];simp;omega) (Reps.sl H [[byteI u],ahead])
 rw [hfl] at hc
 refine cA (args':=[.agg ([k0,k1,k2,k3,k4,k5,k6,k7,k8,k9,ka,kb,kc,kd,ke,kf].map bC),.slice 2 ([[byteI u],ahead].map sl) none]) ?_ (cO hc ?_)
 ·have:=byteC_I u
  show [PV.agg _,PV.slice 2 [.slice 1 [.int .u8 (IntKind.u8.wrap u)] none,sl ahead] none]=[PV.agg _,PV.slice 2 [.slice 1 [bC (byteI u)] none,sl ahead] none]
  rw [this]
  rfl
 rintro _ _ ⟨rfl,rfl⟩
 conv=>whnf
 refine cP (c172 _) ?_
 conv=>whnf
 exact ⟨rfl,rfl⟩
def xorL (p st:List UInt8):List UInt8:=List.zipWith (· ^^^ ·) p st
theorem xorL_len (p st:List UInt8) (h:st.length=p.length):(xorL p st).length=p.length:=by
 unfold xorL;rw [List.length_zipWith];omega
theorem xor8 (c d:UInt8):PV.int .u8 (ibits .xor .u8 (c.toNat:Int) (d.toNat:Int))=bC (c ^^^ d):=by
 show PV.int .u8 (IntKind.u8.wrap ((BitVec.ofInt 8 (c.toNat:Int) ^^^ BitVec.ofInt 8 (d.toNat:Int)).toNat:Int))=PV.int .u8 (((c ^^^ d).toNat:Nat):Int)
 have hb:∀{x:UInt8},BitVec.ofInt 8 (x.toNat:Int)=x.toBitVec:=fun {x}=>by
  apply BitVec.eq_of_toNat_eq
  rw [BitVec.toNat_ofInt]
  have:=x.toNat_lt
  show _=x.toNat
  omega
 rw [hb,hb]
 have:((c.toBitVec ^^^ d.toBitVec).toNat)=(c ^^^ d).toNat:=rfl
 rw [this]
 congr 1
 have:=(c ^^^ d).toNat_lt
 show (((c ^^^ d).toNat:Nat):Int) % (2 ^ IntKind.u8.bits:Int)=_
 have e:(2 ^ IntKind.u8.bits:Int)=256:=by decide
 rw [e];omega
def curX (p st:List UInt8) (i:Nat):List UInt8:=(xorL p st).take i++p.drop i
theorem curX_len (p st:List UInt8) (i:Nat) (h:st.length=p.length) (hi:i≤p.length):(curX p st i).length=p.length:=by
 unfold curX
 rw [List.length_append,List.length_take,List.length_drop,xorL_len p st h];omega
theorem curX_get (p st:List UInt8) (i:Nat) (h:st.length=p.length) (hi:i<p.length):(curX p st i)[i]? = some p[i]:=by
 unfold curX
 rw [List.getElem?_append_right (by rw [List.length_take,xorL_len p st h];omega),List.length_take,xorL_len p st h,List.getElem?_drop]
 have:i+(i - min i p.length)=i:=by omega
 rw [this];exact List.getElem?_eq_getElem hi
theorem curX_set (p st:List UInt8) (i:Nat) (h:st.length=p.length) (hi:i<p.length):(curX p st i).set i (p[i] ^^^ st[i])=curX p st (i+1):=by
 unfold curX
 have hx:i<(xorL p st).length:=by rw [xorL_len p st h];exact hi
 rw [List.set_append_right _ _ (by rw [List.length_take];omega),List.length_take,Nat.min_eq_left (by omega),Nat.sub_self,List.drop_eq_getElem_cons hi,List.set_cons_zero,List.take_succ_eq_append_getElem hx,List.append_assoc,List.singleton_append]
 congr 2
 have:∀(a b:List UInt8) (h:i<(List.zipWith (· ^^^ ·) a b).length) (ha:i<a.length) (hb:i<b.length),a[i] ^^^ b[i]=(List.zipWith (· ^^^ ·) a b)[i]:=fun a b h ha hb=>by simp
 exact this p st hx hi (by omega)
def mixN (nn u:Int):Int:=IntKind.u64.wrap (ishl .u64 nn 8+IntKind.u64.wrap u)
structure MixS where
 i:Nat
theorem c173x (OkS:PObj→Prop) (so:PObj) (sid:Nat) (nn u:Int) (p st:List UInt8) (hl:st.length=p.length) (hp:0<p.length) (hp2:p.length≤1000000)
  (hst:∀H:PH,H[sid]? = some so→CK prog 225 [.ptr (some (sid,0)),.int .u64 (mixN nn u),.int .i64 p.length] H fun r H'=>r=sl st∧∃o',OkS o'∧H'=H.set sid o')
  (sp:List UInt8) (hsp:sp.length=16) (s o r:Int) (v:Nat) (bid:Nat) (H:PH) (hb:H[bid]? = some (boxS sid sp s o r v)) (hs:H[sid]? = some so) :
  CK prog 173 [.ptr (some (bid,0)),.int .i64 u,.int .u64 nn,sl p] H fun x H'=>∃cap k o' vv,x=.sref H.length 0 p.length cap∧p.length+k=cap∧OkS o'∧H'=H.set sid o'++[⟨5,(xorL p st).map bC++List.replicate k PV.undef,vv⟩]:=by
 obtain ⟨k0,k1,k2,k3,k4,k5,k6,k7,k8,k9,ka,kb,kc,kd,ke,kf,rfl⟩:=len16 hsp
 have hsl:sid<H.length:=(List.getElem?_eq_some_iff.1 hs).1
 (refine fnS (imm:=imm173) ttS_ok func173 ?_;(conv=>whnf))
 refine cO (c224o p (by omega) hp H) ?_
 rintro _ _ ⟨cap,k,rfl,hk,rfl⟩
 conv=>whnf
 have hb':(H++[(⟨5,p.map bC++List.replicate k PV.undef,0⟩:PObj)])[bid]? = some (boxS sid [k0,k1,k2,k3,k4,k5,k6,k7,k8,k9,ka,kb,kc,kd,ke,kf] s o r v):=by
  rw [List.getElem?_append_left (List.getElem?_eq_some_iff.1 hb).1];exact hb
 ((conv in (_[_]?)=>tactic=>exact hb');(conv=>whnf))
 refine ⟨by decide,?_⟩
 conv=>whnf
 refine cO (Q:=fun r H'=>r=sl st∧∃o',OkS o'∧H'=H.set sid o'++[⟨5,(curX p st 0).map bC++List.replicate k PV.undef,0⟩]) ((hst (H++[_]) (by rw [List.getElem?_append_left hsl];exact hs)).mono fun r H' hh=>?_) ?_
 ·obtain ⟨h1,o',h2,h3⟩:=hh
  exact ⟨h1,o',h2,by rw [h3,List.set_append_left _ _ hsl];rfl⟩
 rintro _ _ ⟨rfl,o',ho',rfl⟩
 conv=>whnf
 have hKl:(H.set sid o').length=H.length:=List.length_set
 generalize hK:H.set sid o'=K at hKl
 refine lO MixS (fun x=>[(9,.sref H.length 0 p.length cap),(25,sl st),(26,.int .i64 st.length),(27,.int .i64 x.i)]) (fun x=>K++[⟨5,(curX p st x.i).map bC++List.replicate k PV.undef,x.i⟩]) (fun x=>x.i≤p.length) (fun x=>p.length - x.i) ⟨⟨0⟩,Nat.zero_le _,⟨rfl,rfl,rfl,rfl,trivial⟩,rfl⟩ ?_
 rintro ⟨i⟩ hi
 replace hi:i≤p.length:=hi
 have gx:∀x:PObj,(K++[x])[H.length]? = some x:=fun x=>by rw [←hKl];exact gL K x
 conv=>whnf
 refine ⟨fun h=>?_,fun h=>?_⟩
 ·have h:(i:Int)<st.length:=h
  have hi':i<p.length:=by omega
  have his:i<st.length:=by omega
  have hcl:=curX_len p st i hl hi
  conv=>whnf
  refine ⟨⟨by omega,h⟩,[bC st[i]],at1' (k:=(i:Int).toNat*1) (by rw [Int.toNat_natCast,Nat.mul_one,List.getElem?_map,List.getElem?_eq_getElem his];rfl),?_⟩
  conv=>whnf
  refine ⟨⟨by omega,by show (i:Int)<(p.length:Int);omega⟩,?_⟩
  conv=>whnf
  ((conv in (_[_]?)=>tactic=>exact (gx _));(conv=>whnf))
  ((conv in (dropN _ _)=>tactic=>exact (dropN_app (curX p st i) (List.replicate k PV.undef) (curX_get p st i hl hi')));(conv=>whnf))
  refine ⟨⟨by omega,by show (i:Int)<(p.length:Int);omega⟩,?_⟩
  conv=>whnf
  ((conv in (_[_]?)=>tactic=>exact (gx _));(conv=>whnf))
  ((conv in (Nat.ble _ _)=>tactic=>exact (show Nat.ble (0+(i:Int).toNat*1+1) ((curX p st i).map bC++List.replicate k PV.undef).length=true by rw [Nat.ble_eq];simp [hcl];omega));(conv=>whnf))
  refine ⟨⟨i+1⟩,by show i+1≤p.length;omega,⟨rfl,rfl,rfl,?_,trivial⟩,?_,by show p.length - (i+1)<p.length - i;omega⟩
  ·show PV.int _ (IntKind.i64.wrap ((i:Int)+1))=PV.int _ _
   rw [w64 (by omega) (by omega)];simp
  ·show (K++[_]).set H.length ⟨5,setCells (0+(i:Int).toNat*1) [.int .u8 (ibits .xor .u8 (p[i].toNat:Int) (st[i].toNat:Int))] ((curX p st i).map bC++List.replicate k PV.undef),i+1⟩=K++[⟨5,(curX p st (i+1)).map bC++List.replicate k PV.undef,i+1⟩]
   rw [←hKl,sL,xor8]
   have e:0+(i:Int).toNat*1=i:=by omega
   rw [e,setCells_app _ _ _ _ (by omega),curX_set p st i hl hi']
 ·have h:¬(i:Int)<st.length:=h
  have e:curX p st i=xorL p st:=by
   unfold curX
   rw [List.take_of_length_le (by rw [xorL_len p st hl];omega),List.drop_eq_nil_of_le (by omega),List.append_nil]
  rw [e]
  conv=>whnf
  exact ⟨cap,k,o',i,rfl,hk,ho',by rw [hK]⟩
theorem get_end {K:PH} {n:Nat} (h:K.length=n) (x:PObj):(K++[x])[n]? = some x:=by subst h;exact gL K x
theorem kept_set {H:PH} {sid:Nat} {o':PObj} (hs:sid<H.length) (hf:∀c∈o'.cs,flatP c=true∨c∈H[sid].cs):Kept H (H.set sid o'):=⟨List.length_set,fun id o h=>by
 by_cases e:id=sid
 ·subst e
  rw [List.getElem?_set_self hs] at h
  cases h
  exact ⟨H[id],List.getElem?_eq_getElem hs,hf⟩
 ·rw [List.getElem?_set_ne (Ne.symm e)] at h
  exact ⟨o,h,fun c hc=>.inr hc⟩⟩
theorem c173 (OkS:PObj→Prop) (hOk:∀o',OkS o'→o'.cs.all flatP=true) (so:PObj) (sid:Nat) (nn u:Int) (p st:List UInt8) (hl:st.length=p.length) (hp2:p.length≤1000000)
  (hst:∀H:PH,H[sid]? = some so→CK prog 225 [.ptr (some (sid,0)),.int .u64 (mixN nn u),.int .i64 p.length] H fun r H'=>r=sl st∧∃o',OkS o'∧H'=H.set sid o')
  (sp:List UInt8) (hsp:sp.length=16) (s o r:Int) (v:Nat) (bid:Nat) (H:PH) (hb:H[bid]? = some (boxS sid sp s o r v)) (hs:H[sid]? = some so) :
  CK prog 173 [.ptr (some (bid,0)),.int .i64 u,.int .u64 nn,sl p] H fun x H'=>x=sl (xorL p st)∧∃o',OkS o'∧H'=H.set sid o':=by
 have hsl:sid<H.length:=(List.getElem?_eq_some_iff.1 hs).1
 rcases Nat.eq_zero_or_pos p.length with hp | hp
 ·have hp':p=[]:=List.length_eq_zero_iff.1 hp
  have hst':st=[]:=List.length_eq_zero_iff.1 (by omega)
  subst hp' hst'
  obtain ⟨k0,k1,k2,k3,k4,k5,k6,k7,k8,k9,ka,kb,kc,kd,ke,kf,rfl⟩:=len16 hsp
  (refine fnS (imm:=imm173) ttS_ok func173 ?_;(conv=>whnf))
  refine cP (clone140 [] (by simp)) ?_
  conv=>whnf
  ((conv in (_[_]?)=>tactic=>exact hb);(conv=>whnf))
  refine ⟨by decide,?_⟩
  conv=>whnf
  refine cO (hst H hs) ?_
  rintro _ _ ⟨rfl,o',ho',rfl⟩
  conv=>whnf
  refine lO MixS (fun x=>[(9,ow []),(25,sl []),(26,.int .i64 0),(27,.int .i64 0)]) (fun x=>H.set sid o') (fun x=>True) (fun x=>0) ⟨⟨0⟩,trivial,⟨rfl,rfl,rfl,rfl,trivial⟩,rfl⟩ ?_
  rintro ⟨i⟩ _
  conv=>whnf
  refine ⟨fun h=>absurd h (by decide),fun _=>?_⟩
  conv=>whnf
  exact ⟨rfl,o',ho',rfl⟩
 ·have h:=c173x OkS so sid nn u p st hl hp hp2 hst sp hsp s o r v bid H hb hs
  refine (CK.own (nn:=p.length) (cs:=(xorL p st).map bC) (R:=fun H'=>∃o',OkS o'∧H'=H.set sid o') h psize5 (by decide) (by rw [List.length_map,xorL_len p st hl,Nat.mul_one]) (allFlat _) (fun x H' hh=>?_)).dem fun x H' hh=>?_
  ·obtain ⟨cap,k,o',vv,rfl,hk,ho',rfl⟩:=hh
   refine ⟨H.set sid o',_,H.length,cap,_,rfl,kept_set hsl fun c hc=>.inl (List.all_eq_true.1 (hOk o' ho') c hc),⟨o',ho',rfl⟩,rfl,Nat.le_refl _,get_end List.length_set _,rfl,?_,?_⟩
   ·show ((xorL p st).map bC++List.replicate k PV.undef).length=_
    rw [List.length_append,List.length_map,List.length_replicate,xorL_len p st hl];omega
   ·show List.take _ ((xorL p st).map bC++List.replicate k PV.undef)=_
    rw [List.take_left]
  ·obtain ⟨rfl,hh⟩:=hh
   refine ⟨fun cs hx=>(by cases hx),?_,hh⟩
   unfold sl
   rw [xorL_len p st hl];rfl
theorem Kept.refl (H:PH):Kept H H:=⟨rfl,fun id o h=>⟨o,h,fun c hc=>.inr hc⟩⟩
theorem c172w (n:Int):Pure prog 172 [.int .u64 n] (ow (bigV n)):=fun H=>by
 refine CK.own (nn:=8) (cs:=(bigV n).map bC) (R:=fun H'=>H'=H) (c172x n H) psize5 (by decide) rfl (allFlat _) fun r H' hh=>?_
 obtain ⟨rfl,v,rfl⟩:=hh
 exact ⟨H,_,H.length,8,_,rfl,Kept.refl H,rfl,rfl,Nat.le_refl _,gL H _,rfl,rfl,rfl⟩
theorem c225z (sid:Nat) (nn n:Int) (hn:n<1) (H:PH):CK prog 225 [.ptr (some (sid,0)),.int .u64 nn,.int .i64 n] H fun r H'=>r=sl []∧H'=H:=by
 refine CK.dem (Q:=fun r H'=>r=ow []∧H'=H) ?_ fun r H' hh=>⟨fun cs hx=>(by rw [hh.1] at hx;cases hx),(by rw [hh.1];rfl),hh.2⟩
 (refine fnS (imm:=imm225) ttS_ok func225 ?_;(conv=>whnf))
 refine ⟨fun _=>?_,fun h=>absurd hn h⟩
 conv=>whnf
 exact ⟨rfl,rfl⟩
def sealV (sp:List UInt8) (u nn:Int) (p st:List UInt8):List UInt8:=(bigV nn++xorL p st)++tagV sp u (bigV nn++xorL p st)
theorem ow_app (a b:List UInt8):PV.slice (a.length+b.length) (a.map bC++b.map bC) (some 5)=ow (a++b):=by
 unfold ow
 rw [List.length_append,List.map_append]
theorem c108 (OkS:PObj→Prop) (hOk:∀o',OkS o'→o'.cs.all flatP=true) (so:PObj) (sid:Nat) (n u:Int) (hu:isUseB u=true) (hn0:0≤n) (hn1:n≤1099511627776) (p st:List UInt8) (hl:st.length=p.length) (hp2:p.length≤784)
  (hst:∀H:PH,H[sid]? = some so→CK prog 225 [.ptr (some (sid,0)),.int .u64 (mixN (IntKind.u64.wrap n) u),.int .i64 p.length] H fun r H'=>r=sl st∧∃o',OkS o'∧H'=H.set sid o')
  (sp:List UInt8) (hsp:sp.length=16) (s o r:Int) (v:Nat) (bid:Nat) (H:PH) (hb:H[bid]? = some (boxS sid sp s o r v)) (hs:H[sid]? = some so) (hne:bid≠sid) :
  CK prog 108 [.ptr (some (bid,0)),.int .i64 u,.int .i64 n,sl p] H fun x H'=>x=.tup [ow (sealV sp u (IntKind.u64.wrap n) p st),.int .i64 0]∧∃o',OkS o'∧H'=(H.set bid (boxS sid sp (IntKind.i64.wrap (s+1)) o r (v+1))).set sid o':=by
 have hs':(H.set bid (boxS sid sp (IntKind.i64.wrap (s+1)) o r (v+1)))[sid]? = some so:=by rw [List.getElem?_set_ne hne];exact hs
 have hb':(H.set bid (boxS sid sp (IntKind.i64.wrap (s+1)) o r (v+1)))[bid]? = some (boxS sid sp (IntKind.i64.wrap (s+1)) o r (v+1)):=gS hb
 have hx:=xorL_len p st hl
 (refine fnS (imm:=imm108) ttS_ok func108 ?_;(conv=>whnf))
 refine cP (c171 u) ?_
 rw [hu]
 conv=>whnf
 refine ⟨fun h=>absurd h (by omega),fun _=>?_⟩
 conv=>whnf
 refine ⟨fun h=>absurd h (by omega),fun _=>?_⟩
 conv=>whnf
 refine ⟨fun h=>absurd (show (784:Int)<p.length from h) (by omega),fun _=>?_⟩
 conv=>whnf
 refine cO (Q:=fun x H'=>H'=H.set bid (boxS sid sp (IntKind.i64.wrap (s+1)) o r (v+1))) ((c110 (off:=17) (n:=s) 1 hb ?_).mono fun x H' hh=>?_) ?_
 ·obtain ⟨k0,k1,k2,k3,k4,k5,k6,k7,k8,k9,ka,kb,kc,kd,ke,kf,rfl⟩:=len16 hsp
  rfl
 ·obtain ⟨k0,k1,k2,k3,k4,k5,k6,k7,k8,k9,ka,kb,kc,kd,ke,kf,rfl⟩:=len16 hsp
  exact hh.2
 rintro x _ rfl
 conv=>whnf
 refine cP (c172w _) ?_
 conv=>whnf
 refine cO (c173 OkS hOk so sid (IntKind.u64.wrap n) u p st hl (by omega) hst sp hsp (IntKind.i64.wrap (s+1)) o r (v+1) bid _ hb' hs') ?_
 rintro _ _ ⟨rfl,o',ho',rfl⟩
 conv=>whnf
 refine ⟨⟨by show ((8+(xorL p st).length)*1≤_);omega,by simp,allOne _⟩,?_⟩
 conv=>whnf
 have hb2:((H.set bid (boxS sid sp (IntKind.i64.wrap (s+1)) o r (v+1))).set sid o')[bid]? = some (boxS sid sp (IntKind.i64.wrap (s+1)) o r (v+1)):=by rw [List.getElem?_set_ne (Ne.symm hne)];exact hb'
 have ha:(bigV (IntKind.u64.wrap n)++xorL p st).length≤1000000:=by rw [List.length_append,bigV_len];omega
 refine cA (args':=[.ptr (some (bid,0)),.int .i64 u,sl (bigV (IntKind.u64.wrap n)++xorL p st)]) ?_ (cO (c174 sid sp hsp (IntKind.i64.wrap (s+1)) o r (v+1) u (bigV (IntKind.u64.wrap n)++xorL p st) ha bid _ hb2) ?_)
 ·show [_,_,PV.slice ((bigV (IntKind.u64.wrap n)).length+(xorL p st).length) ((bigV (IntKind.u64.wrap n)).map bC++(xorL p st).map bC) none]=_
  unfold sl
  rw [List.length_append,List.map_append]
 rintro _ _ ⟨rfl,rfl⟩
 conv=>whnf
 refine ⟨⟨by show ((8+(xorL p st).length+8)*1≤_);omega,by simp,allOne _⟩,?_⟩
 conv=>whnf
 refine ⟨?_,o',ho',rfl⟩
 show PV.tup [.slice ((bigV (IntKind.u64.wrap n)).length+(xorL p st).length+(tagV sp u (bigV (IntKind.u64.wrap n)++xorL p st)).length) (((bigV (IntKind.u64.wrap n)).map bC++(xorL p st).map bC)++(tagV sp u (bigV (IntKind.u64.wrap n)++xorL p st)).map bC) (some 5),.int .i64 0]=_
 rw [←List.length_append,←List.map_append,ow_app]
 rfl
theorem c123z (u:Int) (hu:isUseB u=true) (b:List UInt8) (hb16:b.length<16∨800<b.length) (sid:Nat) (sp:List UInt8) (hsp:sp.length=16) (s o r:Int) (v bid:Nat) (H:PH) (hb:H[bid]? = some (boxS sid sp s o r v)) :
  CK prog 123 [.ptr (some (bid,0)),.int .i64 u,sl b] H fun x H'=>x=.tup [ow [],.int .i64 3]∧H'=H.set bid (boxS sid sp s o (IntKind.i64.wrap (r+1)) (v+1)):=by
 (refine fnS (imm:=imm123) ttS_ok func123 ?_;(conv=>whnf))
 have hb':(H.set bid (boxS sid sp s o (IntKind.i64.wrap (r+1)) (v+1)))[bid]? = some (boxS sid sp s o (IntKind.i64.wrap (r+1)) (v+1)):=gS hb
 have hc93:CK prog 110 [.ptr (some (bid,0+19)),.int .i64 1] H fun x H'=>H'=H.set bid (boxS sid sp s o (IntKind.i64.wrap (r+1)) (v+1)):=by
  obtain ⟨k0,k1,k2,k3,k4,k5,k6,k7,k8,k9,ka,kb,kc,kd,ke,kf,rfl⟩:=len16 hsp
  exact (c110 (off:=19) (n:=r) 1 hb rfl).mono fun x H' hh=>hh.2
 refine cP (c171 u) ?_
 rw [hu]
 conv=>whnf
 refine ⟨fun h=>?_,fun h=>?_⟩
 ·conv=>whnf
  have h:(16:Int)≤b.length:=h
  refine ⟨fun h2=>?_,fun h2=>?_⟩
  ·have h2:(b.length:Int)≤800:=h2
   omega
  ·conv=>whnf
   refine cO hc93 ?_
   rintro x _ rfl
   conv=>whnf
   exact ⟨rfl,rfl⟩
 ·conv=>whnf
  refine cO hc93 ?_
  rintro x _ rfl
  conv=>whnf
  exact ⟨rfl,rfl⟩
def isK (r n:List UInt8) (k:Int) (e:Ent):Bool:=isP r n e&&decide ((e.kv:Int)=k)
theorem c183 (e:Ent) (hk:e.key.length=32) (r n:List UInt8) (k:Int) (H:PH):CK prog 183 [.agg e.cells,.elem [.str r,.str n],.elem [.int .i64 k]] H fun x H'=>x=.bool (isK r n k e)∧H'=H:=by
 obtain ⟨er,en,kv,key,box⟩:=e
 match key,hk with
 | [a0,a1,a2,a3,a4,a5,a6,a7,a8,a9,a10,a11,a12,a13,a14,a15,b0,b1,b2,b3,b4,b5,b6,b7,b8,b9,b10,b11,b12,b13,b14,b15],_ =>
  (refine fnS (imm:=imm183) ttR_ok func183 ?_;(conv=>whnf))
  refine ⟨⟨fitPr _ _,fitPr _ _⟩,?_⟩
  conv=>whnf
  refine ⟨fun h=>?_,fun h=>?_⟩
  ·have h:[PV.str er,PV.str en]=[PV.str r,PV.str n]:=h
   have hp:er=r∧en=n:=by
    injection h with h1 h2
    injection h1 with h1
    injection h2 with h2 _
    injection h2 with h2
    exact ⟨h1,h2⟩
   conv=>whnf
   refine ⟨fun h3=>?_,fun h3=>?_⟩
   ·conv=>whnf
    have h3:(kv:Int)=k:=h3
    refine ⟨congrArg PV.bool ?_,rfl⟩
    unfold isK isP
    rw [decide_eq_true hp,decide_eq_true h3];rfl
   ·conv=>whnf
    have h3:¬(kv:Int)=k:=h3
    refine ⟨congrArg PV.bool ?_,rfl⟩
    unfold isK isP
    rw [decide_eq_true hp,decide_eq_false h3];rfl
  ·have h:¬[PV.str er,PV.str en]=[PV.str r,PV.str n]:=h
   conv=>whnf
   refine ⟨congrArg PV.bool ?_,rfl⟩
   unfold isK isP
   rw [decide_eq_false fun hh=>h (by have h1:er=r:=hh.1;have h2:en=n:=hh.2;rw [h1,h2])];rfl
def boxR:Option Ent→PV
 | none=>.tup [.ptr none,.int .i64 4]
 | some e=>.tup [.ptr (some (e.box,0)),.int .i64 0]
theorem c122 {H:PH} {rid v:Nat} {l:List Ent} (hid:H[rid]? = some (ringO l v)) (hl:l.length≤1000) (hk:∀e∈l,e.key.length=32) (r n:List UInt8) (k:Int) :
  CK prog 122 [.ptr (some (rid,0)),.agg [.str r,.str n],.int .i64 k] H fun x H'=>x=boxR (lastE (isK r n k) l)∧H'=H:=by
 (refine fnS (imm:=imm122) ttR_ok func122 ?_;(conv=>whnf))
 refine cO (c154 hid hl hk (isK r n k) 183 [] [.elem [.str r,.str n],.elem [.int .i64 k]] fun e he=>c183 e (hk e he) r n k H) ?_
 rintro x H' ⟨rfl,rfl⟩
 cases he:lastE (isK r n k) l with
 | none =>
  conv=>whnf
  exact ⟨rfl,rfl⟩
 | some e =>
  have hkey:e.key.length=32:=hk e (List.mem_reverse.1 (List.mem_of_find?_eq_some he))
  obtain ⟨er,en,kv,key,box⟩:=e
  match key,hkey with
  | [a0,a1,a2,a3,a4,a5,a6,a7,a8,a9,a10,a11,a12,a13,a14,a15,b0,b1,b2,b3,b4,b5,b6,b7,b8,b9,b10,b11,b12,b13,b14,b15],_ =>
   conv=>whnf
   exact ⟨rfl,rfl⟩
set_option maxHeartbeats 2000000
end Go.Proofs.Tryz
/- What a call made is forgotten; what it wrote stays. -/
namespace Ps
open Go
section
variable {P : Program}
theorem CK.gcK {f:Nat} {args:List PV} {H:PH} {Q R:PV→PH→Prop} (h:CK P f args H Q) (hq:∀r H',Q r H'→oldR r=true∧∃H1 ext,H'=H1++ext∧Kept H H1∧R r H1) :
  CK P f args H R:=by
 intro g w vs hs hr
 refine (h g w vs hs hr).mono ?_
 rintro e w' ⟨v,r,H',g',rfl,q,hr',st,ho,hc⟩
 obtain ⟨hold,H1,ext,rfl,hkp,hR⟩:=hq r H' q
 have hl1:=hkp.len
 have hlen:g.ι.length=H.length:=hr.h.len
 have hfull:∀(id b:Nat),id<H.length→g'.ι[id]? = some (some b)→∃b0,g.ι[id]? = some (some b0):=fun id b hl h=>by
  have hlt:id<g.ι.length:=by omega
  cases hx:g.ι[id] with
  | some b0=>exact ⟨b0,by rw [List.getElem?_eq_getElem hlt,hx]⟩
  | none =>
   have:=st.nil id (by rw [List.getElem?_eq_getElem hlt,hx])
   rw [h] at this;cases this
 have htake:∀(id b:Nat),(g'.ι.take H.length)[id]? = some (some b)→id<H.length∧g'.ι[id]? = some (some b):=fun id b hi=>by
  rw [List.getElem?_take] at hi
  split at hi
  ·exact ⟨by assumption,hi⟩
  ·cases hi
 have hmk:∀(id b:Nat),id<g.ι.length→g'.ι[id]? = some (some b)→(g'.ι.take H.length)[id]? = some (some b):=fun id b hl hi=>by
  rw [List.getElem?_take,if_pos (by omega)];exact hi
 have hsub:∀(id b:Nat),(g'.ι.take H.length)[id]? = some (some b)→g'.ι[id]? = some (some b):=fun id b hi=>(htake id b hi).2
 have hV:V (⟨g'.ι.take H.length,g'.I⟩) w'=V (⟨g'.ι.take H.length,g'.I⟩) w':=rfl
 have hcell:∀id j b,cellOwnAt ⟨g'.ι.take H.length,g'.I⟩ w' H1 id j b→cellOwnAt g' w' (H1++ext) id j b:=fun id j b ⟨o,c,b0,v,h1,h2,h3,h4,h5,h6⟩ =>
  ⟨o,c,b0,v,by rw [List.getElem?_append_left (List.getElem?_eq_some_iff.1 h1).1];exact h1,h2,h3,hsub _ _ h4,h5,h6⟩
 have hRV:∀(u:Value) (p:PV),oldP p=true→VH P g' w' u p→VH P ⟨g'.ι.take H.length,g'.I⟩ w' u p:=fun u p hp hu=>by
  rcases hu with hu | ⟨n,cs,e,b,rfl,hv,hf⟩
  ·exact .inl (V.old (g:=g') (h:=hu) (g':=⟨g'.ι.take H.length,g'.I⟩) (fun _ _ h=>h) hp)
  ·exact .inr ⟨n,cs,e,b,rfl,V.old (g:=g') (h:=hv) (g':=⟨g'.ι.take H.length,g'.I⟩) (fun _ _ h=>h) (by simpa [oldP] using hp),OwnF.sub (g:=g') (h:=hf) (g':=⟨g'.ι.take H.length,g'.I⟩) rfl hsub⟩
 have hRC:VC P ⟨g'.ι.take H.length,g'.I⟩ w' v r:=by
  have h0:=hr'.e 0
  have h0:VC P g' w' v r:=h0
  cases r with
  | tup cs =>
   obtain ⟨us,rfl,k1,k2⟩:=h0
   exact ⟨us,rfl,k1,fun j c hj=>hRV _ _ (oldPs_get hold j c hj) (k2 j c hj)⟩
  | _=>exact hRV _ _ hold h0
 have hget:∀t,VC P ⟨g'.ι.take H.length,g'.I⟩ w' (one v t) (Env.get [(0,r)] t):=fun t=>by
  rw [Env.get_cons]
  unfold one
  by_cases e:t=0
  ·rw [if_pos e,if_pos e.symm];exact hRC
  ·rw [if_neg e,if_neg (Ne.symm e)];exact (V.undef _).vc
 refine ⟨v,r,H1,⟨g'.ι.take H.length,g'.I⟩,rfl,hR,⟨⟨?_,fun id id' b h1 h2=>hr'.h.inj id id' b (hsub _ _ h1) (hsub _ _ h2),trivial,fun id b o h1 h2=>?_,fun b o hi=>?_⟩,hget,hr'.ss,fun t i b h1 h2=>?_,fun id j id' j' b h1 h2=>hr'.cc id j id' j' b (hcell _ _ _ h1) (hcell _ _ _ h2)⟩,
  ⟨⟨fun id o ho=>?_,fun id b o o' hi h1 h2 hv=>?_⟩,st.os,st.tape,st.output,st.size,⟨fun id b hi=>hmk id b (List.getElem?_eq_some_iff.1 hi).1 (st.keeps.ι id b hi),st.keeps.I⟩,fun id b hi=>st.ι id b (hsub id b hi),st.far,fun id h=>by
   have hlt:=(List.getElem?_eq_some_iff.1 h).1
   show (g'.ι.take H.length)[id]? = some none
   rw [List.getElem?_take,if_pos (by omega)];exact st.nil id h⟩,ho,fun b ⟨id,j,h1⟩=>hc b ⟨id,j,hcell _ _ _ h1⟩⟩
 ·have:=hr'.h.len
  simp at this ⊢
  omega
 ·obtain ⟨hl,h2'⟩:=htake id b h2
  obtain ⟨us,k1,k2,k3⟩:=hr'.h.obj id b o (by rw [List.getElem?_append_left (by omega)];exact h1) h2'
  refine ⟨us,k1,k2,fun j c hj=>?_⟩
  obtain ⟨u,y1,y2⟩:=k3 j c hj
  refine ⟨u,y1,?_⟩
  obtain ⟨b0,hb0⟩:=hfull id b hl h2'
  obtain ⟨oo,q1,q2⟩:=hkp.old id o h1
  rcases q2 c (List.mem_of_getElem? hj) with hcf | hcm
  ·exact .inl ((y2.flat hcf).flat hcf)
  obtain ⟨j0,hj0⟩:=List.getElem?_of_mem hcm
  obtain ⟨us0,z1,z2,z3⟩:=hr.h.obj id b0 oo q1 hb0
  obtain ⟨u0,x1,x2⟩:=z3 j0 c hj0
  have both:∀(p:PV) (u u0:Value),V g w u0 p→V g' w' u p→V ⟨g'.ι.take H.length,g'.I⟩ w' u p:=fun p u u0 a0 a1=>V.both (g:=g') (h:=a1) (g0:=g) (g':=⟨g'.ι.take H.length,g'.I⟩) (fun _ _ h=>h) hmk a0
  rcases y2 with y2 | ⟨n,cs,e,bb,rfl,hv,hf⟩
  ·cases c with
   | slice n cs o' =>
    cases o' with
    | some e =>
     obtain ⟨rfl,rfl,rfl⟩:=y2.own_nil
     exact .inl (.snil _)
    | none=>exact .inl (both _ _ _ x2.dem y2)
   | tup cs=>exact x2.not_tup.elim
   | _=>exact .inl (both _ _ _ x2.dem y2)
  ·exact .inr ⟨n,cs,e,bb,rfl,both _ _ _ x2.dem hv,OwnF.sub (g:=g') (h:=hf) (g':=⟨g'.ι.take H.length,g'.I⟩) rfl hsub⟩
 ·obtain ⟨k1,k2⟩:=hr'.h.imm b o hi
  exact ⟨fun id h2=>k1 id (hsub _ _ h2),k2⟩
 ·obtain ⟨id,j,h2⟩:=h2
  exact hr'.sc t i b h1 ⟨id,j,hcell _ _ _ h2⟩
 ·obtain ⟨o',k1,k2⟩:=st.fr.more id o ho
  have:=(List.getElem?_eq_some_iff.1 ho).1
  rw [List.getElem?_append_left (by omega)] at k1
  exact ⟨o',k1,k2⟩
 ·have:=(List.getElem?_eq_some_iff.1 h1).1
  exact st.fr.same id b o o' hi h1 (by rw [List.getElem?_append_left (by omega)];exact h2) hv
end
end Ps
namespace Go.Proofs.Tryz
open Go Ps
def ttO:TT:=[(1,⟨.fn,1,8,[.nilF]⟩),(3,⟨.int .i64,1,8,[.int .i64 0]⟩),(4,⟨.bool,1,1,[.bool false]⟩),(5,⟨.int .u8,1,1,[.int .u8 0]⟩),(21,⟨.int .i32,1,4,[.int .i32 0]⟩),(26,⟨.slice 5,1,24,[.slice 0 [] (some 5)]⟩),(238,⟨.ptr,1,8,[.ptr none]⟩),(221,⟨.arr 16 5,16,16,List.replicate 16 (.int .u8 0)⟩),(142,⟨.int .u64,1,8,[.int .u64 0]⟩),(155,⟨.int .u64,1,8,[.int .u64 0]⟩),(226,⟨.int .u32,1,4,[.int .u32 0]⟩),(227,⟨.arr 27 226,27,108,List.replicate 27 (.int .u32 0)⟩),(293,⟨.strB [(129,0),(226,0)],1,4,[.int .u32 0]⟩),(295,⟨.strct [(21,0),(226,1)],2,8,[.int .i32 0,.int .u32 0]⟩),(297,⟨.strB [(291,0),(295,0)],2,8,[.int .i32 0,.int .u32 0]⟩),(299,⟨.strB [(291,0),(293,0),(297,1)],3,12,[.int .u32 0,.int .i32 0,.int .u32 0]⟩),(301,⟨.strct [(221,0),(299,16),(227,19),(293,46)],47,140,List.replicate 16 (.int .u8 0)++[.int .u32 0,.int .i32 0]++List.replicate 29 (.int .u32 0)⟩),(282,⟨.slice 226,1,24,[.slice 0 [] (some 226)]⟩),(281,⟨.arr 4 226,4,16,[.int .u32 0,.int .u32 0,.int .u32 0,.int .u32 0]⟩),(395,⟨.ptr,1,8,[.ptr none]⟩),(399,⟨.ptr,1,8,[.ptr none]⟩)]
theorem ttO_ok:ttOk prog ttO=true:=by kernel_rfl
def imm298:List Nat:=[]
def imm308:List Nat:=[]
def imm310:List Nat:=[]
def imm297:List Nat:=[]
def imm282:List Nat:=[]
def imm257:List Nat:=[]
def imm283:List Nat:=[]
def imm317:List Nat:=[]
def rot32S (k:Int):Int:=ibits .and .u64 (IntKind.u64.wrap k) 31
def rot32 (x k:Int):Int:=ibits .or .u32 (ishl .u32 x (rot32S k)) (ishr .u32 x (IntKind.u64.wrap (32 - rot32S k)))
def add32 (x y:Int):Int:=IntKind.u32.wrap (x+y)
def xor32 (x y:Int):Int:=ibits .xor .u32 x y
theorem c283 (x k:Int):Pure prog 283 [.int .u32 x,.int .i64 k] (.int .u32 (rot32 x k)):=by
 intro H
 (refine fnS (imm:=imm283) ttO_ok func283 ?_;(conv=>whnf))
 refine ⟨u64_nonneg _,?_⟩
 conv=>whnf
 refine ⟨u64_nonneg _,?_⟩
 conv=>whnf
 exact ⟨rfl,rfl⟩
def S4.O4 (s:S4) (v:Nat):PObj:=⟨281,[.int .u32 s.a,.int .u32 s.b,.int .u32 s.c,.int .u32 s.d],v⟩
def orB (x:Int) (c:UInt8) (s:Int):Int:=ibits .or .u32 x (ishl .u32 (IntKind.u32.wrap (c.toNat:Int)) s)
def wN (k:List UInt8):Nat→S4
 | 0=>⟨0,0,0,0⟩
 | i+1=>match i / 4 with
  | 0=>{ wN k i with a:=orB (wN k i).a (k.getD i 0) (8*((i % 4:Nat):Int)) }
  | 1=>{ wN k i with b:=orB (wN k i).b (k.getD i 0) (8*((i % 4:Nat):Int)) }
  | 2=>{ wN k i with c:=orB (wN k i).c (k.getD i 0) (8*((i % 4:Nat):Int)) }
  | _=>{ wN k i with d:=orB (wN k i).d (k.getD i 0) (8*((i % 4:Nat):Int)) }
def spN (k:List UInt8):Nat→S4
 | 0=>wN k 16
 | i+1=>⟨xor32 (rot32 (spN k i).a 3) (xor32 (add32 (spN k i).a (rot32 (spN k i).b (-8))) (IntKind.u32.wrap (i:Int))),(spN k i).c,(spN k i).d,xor32 (add32 (spN k i).a (rot32 (spN k i).b (-8))) (IntKind.u32.wrap (i:Int))⟩
def u32C (x:Int):PV:=.int .u32 x
def keyO (k:List UInt8) (d m s:Int) (l:List Int) (md:Int) (v:Nat):PObj:=⟨301,(k.map bC++[.int .u32 d,.int .i32 m,.int .u32 s])++l.map u32C++[.int .u32 md],v⟩
theorem setCells_mid (p q:List PV) (l:List Int) (i n:Nat) (x:Int) (hi:i<l.length) (e:n=p.length+i):setCells n [u32C x] (p++l.map u32C++q)=p++(l.set i x).map u32C++q:=by
 subst e
 rw [setCells_eq _ _ _ (by simp;omega)]
 have h1:(p++l.map u32C++q).take (p.length+i)=p++(l.take i).map u32C:=by
  rw [List.append_assoc,List.take_length_add_append,List.take_append_of_le_length (by rw [List.length_map];omega),List.map_take]
 have h2:(p++l.map u32C++q).drop (p.length+i+[u32C x].length)=(l.drop (i+1)).map u32C++q:=by
  rw [List.append_assoc,Nat.add_assoc,List.drop_length_add_append,List.drop_append_of_le_length (by rw [List.length_map];simp;omega),List.map_drop];rfl
 rw [h1,h2,List.set_eq_take_append_cons_drop,if_pos hi,List.map_append,List.map_cons]
 simp
def D298_4:Draw:={ imp:=[12],win:=[] }
theorem S4.look4 (s:S4) (v:Nat) (H:PH):(H++[s.O4 v])[H.length]? = some ⟨281,[.int .u32 s.a,.int .u32 s.b,.int .u32 s.c,.int .u32 s.d],v⟩:=gL H _
structure MkS where
 i:Nat
 kv:Nat
 lid:Nat
 off:Nat
 cap:Nat
 ob:PObj
 K:PH
def spL (k:List UInt8) (l:List Int) (i:Nat):List Int:=(List.range i).map (fun j=>(spN k j).a)++l.drop i
theorem spL_len (k:List UInt8) (l:List Int) (i:Nat) (hl:l.length=27) (hi:i≤27):(spL k l i).length=27:=by
 unfold spL
 rw [List.length_append,List.length_map,List.length_range,List.length_drop];omega
theorem spL_set (k:List UInt8) (l:List Int) (i:Nat) (hl:l.length=27) (hi:i<27):(spL k l i).set i (spN k i).a=spL k l (i+1):=by
 unfold spL
 rw [List.set_append_right _ _ (by simp),List.length_map,List.length_range,Nat.sub_self,List.drop_eq_getElem_cons (by omega),List.set_cons_zero,List.range_succ,List.map_append,List.append_assoc]
 rfl
structure MkOk (k:List UInt8) (d m s md:Int) (l:List Int) (kid:Nat) (H:PH) (x:MkS):Prop where
 i:x.i≤27
 key:x.K[kid]? = some (keyO k d m s (spL k l x.i) md x.kv)
 ne:x.lid≠kid
 new:H.length≤x.lid
 lst:x.K[x.lid]? = some x.ob
 three:(x.ob.cs.drop x.off).take 3=[u32C (spN k x.i).b,u32C (spN k x.i).c,u32C (spN k x.i).d]
 room:x.off+x.cap≤x.ob.cs.length
 cap:3≤x.cap
 len:H.length≤x.K.length
 fr:∀j,j<H.length→j≠kid→x.K[j]? = H[j]?
def spW (k:List UInt8):List Int:=(List.range 27).map fun j=>(spN k j).a
theorem setCells_len (k:Nat) (xs cs:List PV) (h:k+xs.length≤cs.length):(setCells k xs cs).length=cs.length:=by
 rw [setCells_eq _ _ _ h]
 simp only [List.length_append,List.length_take,List.length_drop];omega
theorem slide (cs:List PV) (off:Nat) (b c d:PV) (r:List PV) (h:cs.drop off=b::c::d::r) (hr:off+4≤cs.length) (n:PV):((setCells (off+1+2) [n] cs).drop (off+1)).take 3=[c,d,n]:=by
 have hcs:cs=cs.take off++b::c::d::r:=by rw [←h,List.take_append_drop]
 have hp:(cs.take off).length=off:=by rw [List.length_take];omega
 generalize cs.take off=p at hcs hp
 subst hcs
 subst hp
 match r,hr with
 | [],hr=>simp at hr
 | e::r',_ =>
  rw [setCells_eq _ _ _ (by simp;omega)]
  have h1:(p++b::c::d::e::r').take (p.length+1+2)=p++[b,c,d]:=by
   rw [Nat.add_assoc,List.take_length_add_append];rfl
  rw [h1,List.append_assoc,List.append_assoc,List.drop_length_add_append]
  rfl
theorem c316 {H:PH} {id off:Nat} {o:PObj} {n:Int} (m:Int) (ho:H[id]? = some o) (hc:o.cs[off]? = some (.int .u32 n)) :
  CK prog 316 [.ptr (some (id,off)),.int .u32 m] H fun r H'=>r=.tup []∧H'=H.set id ⟨o.T,setCells off [.int .u32 m] o.cs,o.ver+1⟩ :=
 callOk_store func316 (by kernel_rfl) (by kernel_rfl) (by kernel_rfl) .u32 (by kernel_rfl) m ho hc
theorem c317:Pure prog 317 [.bool true] (.int .u32 1):=by
 intro H
 (refine fnS (imm:=imm317) ttO_ok func317 ?_;(conv=>whnf))
 exact ⟨rfl,rfl⟩
def D310:Draw:={ imp:=[5],win:=[] }
theorem c310 {H:PH} {id off:Nat} {o:PObj} {n:Int} (ho:H[id]? = some o) (hc:o.cs[off]? = some (.int .u32 n)) :
  CK prog 310 [.ptr (some (id,off)),.bool true] H fun r H'=>r=.tup []∧H'=H.set id ⟨o.T,setCells off [.int .u32 1] o.cs,o.ver+1⟩:=by
 (refine fnS (imm:=imm310) ttO_ok func310 ?_;(conv=>whnf))
 refine dO2 D310 [H,H.set id ⟨o.T,setCells off [.int .u32 1] o.cs,o.ver+1⟩] (by kernel_rfl) rfl trivial ?_
 conv=>whnf
 iterate 4 (refine dS ?_;(conv=>whnf))
 refine ⟨_,cP c317 ⟨rfl,rfl,trivial⟩,?_⟩
 conv=>whnf
 refine ⟨_,cO (c316 1 ho hc) (by rintro _ _ ⟨rfl,rfl⟩;exact ⟨rfl,rfl,trivial⟩),?_⟩
 conv=>whnf
 exact ⟨rfl,rfl⟩
theorem c298x (k:List UInt8) (hk:k.length=16) (d m s md:Int) (l:List Int) (hl:l.length=27) (v kid:Nat) (H:PH) (hid:H[kid]? = some (keyO k d m s l md v)) :
  CK prog 298 [.ptr (some (kid,0))] H fun r H'=>r=.tup []∧∃(K:PH) (kv:Nat),K[kid]? = some (keyO k d m s (spW k) md kv)∧H.length≤K.length∧(∀j,j<H.length→j≠kid→K[j]? = H[j]?)∧H'=K.set kid (keyO k d m s (spW k) 1 (kv+1)):=by
 obtain ⟨k0,k1,k2,k3,k4,k5,k6,k7,k8,k9,ka,kb,kc,kd,ke,kf,rfl⟩:=len16 hk
 have hlt:kid<H.length:=(List.getElem?_eq_some_iff.1 hid).1
 (refine fnS (imm:=imm298) ttO_ok func298 ?_;(conv=>whnf))
 have hid1:(H++[(⟨281,[.int .u32 0,.int .u32 0,.int .u32 0,.int .u32 0],0⟩:PObj)])[kid]? = some (keyO [k0,k1,k2,k3,k4,k5,k6,k7,k8,k9,ka,kb,kc,kd,ke,kf] d m s l md v):=by rw [List.getElem?_append_left hlt];exact hid
 ((conv in (_[_]?)=>tactic=>exact hid1);(conv=>whnf))
 obtain ⟨kk,hkk⟩:∃kk:List UInt8,kk=[k0,k1,k2,k3,k4,k5,k6,k7,k8,k9,ka,kb,kc,kd,ke,kf]:=⟨_,rfl⟩
 refine lO Nat (fun x=>[(0,.ptr (some (kid,0))),(2,.ptr (some (H.length,0))),(12,.agg ([k0,k1,k2,k3,k4,k5,k6,k7,k8,k9,ka,kb,kc,kd,ke,kf].map bC)),(13,.int .i64 x)]) (fun x=>H++[(wN kk x).O4 x]) (fun x=>x≤16) (fun x=>16 - x) ⟨0,Nat.zero_le _,⟨rfl,rfl,rfl,rfl,trivial⟩,rfl⟩ ?_
 intro i hi
 match i,hi with
 | 0,_ =>
  conv=>whnf
  refine ⟨fun _=>?_,fun h=>absurd (show ((0:Nat):Int)<16 by decide) h⟩
  conv=>whnf
  refine ⟨⟨by decide,by decide⟩,?_⟩
  conv=>whnf
  generalize hz:wN kk 0=z
  refine dO2 D298_4 [H++[z.O4 0],H++[S4.O4 { z with a:=orB z.a k0 0 } 1]] (by kernel_rfl) rfl trivial ?_
  conv=>whnf
  (refine dS ?_;(conv=>whnf))
  apply Exists.intro
  apply And.intro
  ·conv=>whnf
   exact oD
  conv=>whnf
  apply Exists.intro
  apply And.intro
  ·conv=>whnf
   exact oD
  conv=>whnf
  apply Exists.intro
  apply And.intro
  ·conv=>whnf
   ((conv in (_[_]?)=>tactic=>exact (z.look4 0 H));(conv=>whnf))
   exact ⟨rfl,rfl,trivial⟩
  conv=>whnf
  iterate 3 (refine dS ?_;(conv=>whnf))
  apply Exists.intro
  apply And.intro
  ·conv=>whnf
   exact oD
  conv=>whnf
  (refine dS ?_;(conv=>whnf))
  apply Exists.intro
  apply And.intro
  ·conv=>whnf
   exact oD
  conv=>whnf
  (refine dS ?_;(conv=>whnf))
  apply Exists.intro
  apply And.intro
  ·conv=>whnf
   exact oD
  conv=>whnf
  apply Exists.intro
  apply And.intro
  ·conv=>whnf
   ((conv in (_[_]?)=>tactic=>exact (z.look4 0 H));(conv=>whnf))
   exact ⟨rfl,sL H _ _,trivial⟩
  conv=>whnf
  refine ⟨1,by decide,⟨rfl,rfl,rfl,rfl,trivial⟩,?_,by decide⟩
  subst hz hkk
  rfl
 | 1,_ =>
  conv=>whnf
  refine ⟨fun _=>?_,fun h=>absurd (show ((1:Nat):Int)<16 by decide) h⟩
  conv=>whnf
  refine ⟨⟨by decide,by decide⟩,?_⟩
  conv=>whnf
  generalize hz:wN kk 1=z
  refine dO2 D298_4 [H++[z.O4 1],H++[S4.O4 { z with a:=orB z.a k1 8 } 2]] (by kernel_rfl) rfl trivial ?_
  conv=>whnf
  (refine dS ?_;(conv=>whnf))
  apply Exists.intro
  apply And.intro
  ·conv=>whnf
   exact oD
  conv=>whnf
  apply Exists.intro
  apply And.intro
  ·conv=>whnf
   exact oD
  conv=>whnf
  apply Exists.intro
  apply And.intro
  ·conv=>whnf
   ((conv in (_[_]?)=>tactic=>exact (z.look4 1 H));(conv=>whnf))
   exact ⟨rfl,rfl,trivial⟩
  conv=>whnf
  iterate 3 (refine dS ?_;(conv=>whnf))
  apply Exists.intro
  apply And.intro
  ·conv=>whnf
   exact oD
  conv=>whnf
  (refine dS ?_;(conv=>whnf))
  apply Exists.intro
  apply And.intro
  ·conv=>whnf
   exact oD
  conv=>whnf
  (refine dS ?_;(conv=>whnf))
  apply Exists.intro
  apply And.intro
  ·conv=>whnf
   exact oD
  conv=>whnf
  apply Exists.intro
  apply And.intro
  ·conv=>whnf
   ((conv in (_[_]?)=>tactic=>exact (z.look4 1 H));(conv=>whnf))
   exact ⟨rfl,sL H _ _,trivial⟩
  conv=>whnf
  refine ⟨2,by decide,⟨rfl,rfl,rfl,rfl,trivial⟩,?_,by decide⟩
  subst hz hkk
  rfl
 | 2,_ =>
  conv=>whnf
  refine ⟨fun _=>?_,fun h=>absurd (show ((2:Nat):Int)<16 by decide) h⟩
  conv=>whnf
  refine ⟨⟨by decide,by decide⟩,?_⟩
  conv=>whnf
  generalize hz:wN kk 2=z
  refine dO2 D298_4 [H++[z.O4 2],H++[S4.O4 { z with a:=orB z.a k2 16 } 3]] (by kernel_rfl) rfl trivial ?_
  conv=>whnf
  (refine dS ?_;(conv=>whnf))
  apply Exists.intro
  apply And.intro
  ·conv=>whnf
   exact oD
  conv=>whnf
  apply Exists.intro
  apply And.intro
  ·conv=>whnf
   exact oD
  conv=>whnf
  apply Exists.intro
  apply And.intro
  ·conv=>whnf
   ((conv in (_[_]?)=>tactic=>exact (z.look4 2 H));(conv=>whnf))
   exact ⟨rfl,rfl,trivial⟩
  conv=>whnf
  iterate 3 (refine dS ?_;(conv=>whnf))
  apply Exists.intro
  apply And.intro
  ·conv=>whnf
   exact oD
  conv=>whnf
  (refine dS ?_;(conv=>whnf))
  apply Exists.intro
  apply And.intro
  ·conv=>whnf
   exact oD
  conv=>whnf
  (refine dS ?_;(conv=>whnf))
  apply Exists.intro
  apply And.intro
  ·conv=>whnf
   exact oD
  conv=>whnf
  apply Exists.intro
  apply And.intro
  ·conv=>whnf
   ((conv in (_[_]?)=>tactic=>exact (z.look4 2 H));(conv=>whnf))
   exact ⟨rfl,sL H _ _,trivial⟩
  conv=>whnf
  refine ⟨3,by decide,⟨rfl,rfl,rfl,rfl,trivial⟩,?_,by decide⟩
  subst hz hkk
  rfl
 | 3,_ =>
  conv=>whnf
  refine ⟨fun _=>?_,fun h=>absurd (show ((3:Nat):Int)<16 by decide) h⟩
  conv=>whnf
  refine ⟨⟨by decide,by decide⟩,?_⟩
  conv=>whnf
  generalize hz:wN kk 3=z
  refine dO2 D298_4 [H++[z.O4 3],H++[S4.O4 { z with a:=orB z.a k3 24 } 4]] (by kernel_rfl) rfl trivial ?_
  conv=>whnf
  (refine dS ?_;(conv=>whnf))
  apply Exists.intro
  apply And.intro
  ·conv=>whnf
   exact oD
  conv=>whnf
  apply Exists.intro
  apply And.intro
  ·conv=>whnf
   exact oD
  conv=>whnf
  apply Exists.intro
  apply And.intro
  ·conv=>whnf
   ((conv in (_[_]?)=>tactic=>exact (z.look4 3 H));(conv=>whnf))
   exact ⟨rfl,rfl,trivial⟩
  conv=>whnf
  iterate 3 (refine dS ?_;(conv=>whnf))
  apply Exists.intro
  apply And.intro
  ·conv=>whnf
   exact oD
  conv=>whnf
  (refine dS ?_;(conv=>whnf))
  apply Exists.intro
  apply And.intro
  ·conv=>whnf
   exact oD
  conv=>whnf
  (refine dS ?_;(conv=>whnf))
  apply Exists.intro
  apply And.intro
  ·conv=>whnf
   exact oD
  conv=>whnf
  apply Exists.intro
  apply And.intro
  ·conv=>whnf
   ((conv in (_[_]?)=>tactic=>exact (z.look4 3 H));(conv=>whnf))
   exact ⟨rfl,sL H _ _,trivial⟩
  conv=>whnf
  refine ⟨4,by decide,⟨rfl,rfl,rfl,rfl,trivial⟩,?_,by decide⟩
  subst hz hkk
  rfl
 | 4,_ =>
  conv=>whnf
  refine ⟨fun _=>?_,fun h=>absurd (show ((4:Nat):Int)<16 by decide) h⟩
  conv=>whnf
  refine ⟨⟨by decide,by decide⟩,?_⟩
  conv=>whnf
  generalize hz:wN kk 4=z
  refine dO2 D298_4 [H++[z.O4 4],H++[S4.O4 { z with b:=orB z.b k4 0 } 5]] (by kernel_rfl) rfl trivial ?_
  conv=>whnf
  (refine dS ?_;(conv=>whnf))
  apply Exists.intro
  apply And.intro
  ·conv=>whnf
   exact oD
  conv=>whnf
  apply Exists.intro
  apply And.intro
  ·conv=>whnf
   exact oD
  conv=>whnf
  apply Exists.intro
  apply And.intro
  ·conv=>whnf
   ((conv in (_[_]?)=>tactic=>exact (z.look4 4 H));(conv=>whnf))
   exact ⟨rfl,rfl,trivial⟩
  conv=>whnf
  iterate 3 (refine dS ?_;(conv=>whnf))
  apply Exists.intro
  apply And.intro
  ·conv=>whnf
   exact oD
  conv=>whnf
  (refine dS ?_;(conv=>whnf))
  apply Exists.intro
  apply And.intro
  ·conv=>whnf
   exact oD
  conv=>whnf
  (refine dS ?_;(conv=>whnf))
  apply Exists.intro
  apply And.intro
  ·conv=>whnf
   exact oD
  conv=>whnf
  apply Exists.intro
  apply And.intro
  ·conv=>whnf
   ((conv in (_[_]?)=>tactic=>exact (z.look4 4 H));(conv=>whnf))
   exact ⟨rfl,sL H _ _,trivial⟩
  conv=>whnf
  refine ⟨5,by decide,⟨rfl,rfl,rfl,rfl,trivial⟩,?_,by decide⟩
  subst hz hkk
  rfl
 | 5,_ =>
  conv=>whnf
  refine ⟨fun _=>?_,fun h=>absurd (show ((5:Nat):Int)<16 by decide) h⟩
  conv=>whnf
  refine ⟨⟨by decide,by decide⟩,?_⟩
  conv=>whnf
  generalize hz:wN kk 5=z
  refine dO2 D298_4 [H++[z.O4 5],H++[S4.O4 { z with b:=orB z.b k5 8 } 6]] (by kernel_rfl) rfl trivial ?_
  conv=>whnf
  (refine dS ?_;(conv=>whnf))
  apply Exists.intro
  apply And.intro
  ·conv=>whnf
   exact oD
  conv=>whnf
  apply Exists.intro
  apply And.intro
  ·conv=>whnf
   exact oD
  conv=>whnf
  apply Exists.intro
  apply And.intro
  ·conv=>whnf
   ((conv in (_[_]?)=>tactic=>exact (z.look4 5 H));(conv=>whnf))
   exact ⟨rfl,rfl,trivial⟩
  conv=>whnf
  iterate 3 (refine dS ?_;(conv=>whnf))
  apply Exists.intro
  apply And.intro
  ·conv=>whnf
   exact oD
  conv=>whnf
  (refine dS ?_;(conv=>whnf))
  apply Exists.intro
  apply And.intro
  ·conv=>whnf
   exact oD
  conv=>whnf
  (refine dS ?_;(conv=>whnf))
  apply Exists.intro
  apply And.intro
  ·conv=>whnf
   exact oD
  conv=>whnf
  apply Exists.intro
  apply And.intro
  ·conv=>whnf
   ((conv in (_[_]?)=>tactic=>exact (z.look4 5 H));(conv=>whnf))
   exact ⟨rfl,sL H _ _,trivial⟩
  conv=>whnf
  refine ⟨6,by decide,⟨rfl,rfl,rfl,rfl,trivial⟩,?_,by decide⟩
  subst hz hkk
  rfl
 | 6,_ =>
  conv=>whnf
  refine ⟨fun _=>?_,fun h=>absurd (show ((6:Nat):Int)<16 by decide) h⟩
  conv=>whnf
  refine ⟨⟨by decide,by decide⟩,?_⟩
  conv=>whnf
  generalize hz:wN kk 6=z
  refine dO2 D298_4 [H++[z.O4 6],H++[S4.O4 { z with b:=orB z.b k6 16 } 7]] (by kernel_rfl) rfl trivial ?_
  conv=>whnf
  (refine dS ?_;(conv=>whnf))
  apply Exists.intro
  apply And.intro
  ·conv=>whnf
   exact oD
  conv=>whnf
  apply Exists.intro
  apply And.intro
  ·conv=>whnf
   exact oD
  conv=>whnf
  apply Exists.intro
  apply And.intro
  ·conv=>whnf
   ((conv in (_[_]?)=>tactic=>exact (z.look4 6 H));(conv=>whnf))
   exact ⟨rfl,rfl,trivial⟩
  conv=>whnf
  iterate 3 (refine dS ?_;(conv=>whnf))
  apply Exists.intro
  apply And.intro
  ·conv=>whnf
   exact oD
  conv=>whnf
  (refine dS ?_;(conv=>whnf))
  apply Exists.intro
  apply And.intro
  ·conv=>whnf
   exact oD
  conv=>whnf
  (refine dS ?_;(conv=>whnf))
  apply Exists.intro
  apply And.intro
  ·conv=>whnf
   exact oD
  conv=>whnf
  apply Exists.intro
  apply And.intro
  ·conv=>whnf
   ((conv in (_[_]?)=>tactic=>exact (z.look4 6 H));(conv=>whnf))
   exact ⟨rfl,sL H _ _,trivial⟩
  conv=>whnf
  refine ⟨7,by decide,⟨rfl,rfl,rfl,rfl,trivial⟩,?_,by decide⟩
  subst hz hkk
  rfl
 | 7,_ =>
  conv=>whnf
  refine ⟨fun _=>?_,fun h=>absurd (show ((7:Nat):Int)<16 by decide) h⟩
  conv=>whnf
  refine ⟨⟨by decide,by decide⟩,?_⟩
  conv=>whnf
  generalize hz:wN kk 7=z
  refine dO2 D298_4 [H++[z.O4 7],H++[S4.O4 { z with b:=orB z.b k7 24 } 8]] (by kernel_rfl) rfl trivial ?_
  conv=>whnf
  (refine dS ?_;(conv=>whnf))
  apply Exists.intro
  apply And.intro
  ·conv=>whnf
   exact oD
  conv=>whnf
  apply Exists.intro
  apply And.intro
  ·conv=>whnf
   exact oD
  conv=>whnf
  apply Exists.intro
  apply And.intro
  ·conv=>whnf
   ((conv in (_[_]?)=>tactic=>exact (z.look4 7 H));(conv=>whnf))
   exact ⟨rfl,rfl,trivial⟩
  conv=>whnf
  iterate 3 (refine dS ?_;(conv=>whnf))
  apply Exists.intro
  apply And.intro
  ·conv=>whnf
   exact oD
  conv=>whnf
  (refine dS ?_;(conv=>whnf))
  apply Exists.intro
  apply And.intro
  ·conv=>whnf
   exact oD
  conv=>whnf
  (refine dS ?_;(conv=>whnf))
  apply Exists.intro
  apply And.intro
  ·conv=>whnf
   exact oD
  conv=>whnf
  apply Exists.intro
  apply And.intro
  ·conv=>whnf
   ((conv in (_[_]?)=>tactic=>exact (z.look4 7 H));(conv=>whnf))
   exact ⟨rfl,sL H _ _,trivial⟩
  conv=>whnf
  refine ⟨8,by decide,⟨rfl,rfl,rfl,rfl,trivial⟩,?_,by decide⟩
  subst hz hkk
  rfl
 | 8,_ =>
  conv=>whnf
  refine ⟨fun _=>?_,fun h=>absurd (show ((8:Nat):Int)<16 by decide) h⟩
  conv=>whnf
  refine ⟨⟨by decide,by decide⟩,?_⟩
  conv=>whnf
  generalize hz:wN kk 8=z
  refine dO2 D298_4 [H++[z.O4 8],H++[S4.O4 { z with c:=orB z.c k8 0 } 9]] (by kernel_rfl) rfl trivial ?_
  conv=>whnf
  (refine dS ?_;(conv=>whnf))
  apply Exists.intro
  apply And.intro
  ·conv=>whnf
   exact oD
  conv=>whnf
  apply Exists.intro
  apply And.intro
  ·conv=>whnf
   exact oD
  conv=>whnf
  apply Exists.intro
  apply And.intro
  ·conv=>whnf
   ((conv in (_[_]?)=>tactic=>exact (z.look4 8 H));(conv=>whnf))
   exact ⟨rfl,rfl,trivial⟩
  conv=>whnf
  iterate 3 (refine dS ?_;(conv=>whnf))
  apply Exists.intro
  apply And.intro
  ·conv=>whnf
   exact oD
  conv=>whnf
  (refine dS ?_;(conv=>whnf))
  apply Exists.intro
  apply And.intro
  ·conv=>whnf
   exact oD
  conv=>whnf
  (refine dS ?_;(conv=>whnf))
  apply Exists.intro
  apply And.intro
  ·conv=>whnf
   exact oD
  conv=>whnf
  apply Exists.intro
  apply And.intro
  ·conv=>whnf
   ((conv in (_[_]?)=>tactic=>exact (z.look4 8 H));(conv=>whnf))
   exact ⟨rfl,sL H _ _,trivial⟩
  conv=>whnf
  refine ⟨9,by decide,⟨rfl,rfl,rfl,rfl,trivial⟩,?_,by decide⟩
  subst hz hkk
  rfl
 | 9,_ =>
  conv=>whnf
  refine ⟨fun _=>?_,fun h=>absurd (show ((9:Nat):Int)<16 by decide) h⟩
  conv=>whnf
  refine ⟨⟨by decide,by decide⟩,?_⟩
  conv=>whnf
  generalize hz:wN kk 9=z
  refine dO2 D298_4 [H++[z.O4 9],H++[S4.O4 { z with c:=orB z.c k9 8 } 10]] (by kernel_rfl) rfl trivial ?_
  conv=>whnf
  (refine dS ?_;(conv=>whnf))
  apply Exists.intro
  apply And.intro
  ·conv=>whnf
   exact oD
  conv=>whnf
  apply Exists.intro
  apply And.intro
  ·conv=>whnf
   exact oD
  conv=>whnf
  apply Exists.intro
  apply And.intro
  ·conv=>whnf
   ((conv in (_[_]?)=>tactic=>exact (z.look4 9 H));(conv=>whnf))
   exact ⟨rfl,rfl,trivial⟩
  conv=>whnf
  iterate 3 (refine dS ?_;(conv=>whnf))
  apply Exists.intro
  apply And.intro
  ·conv=>whnf
   exact oD
  conv=>whnf
  (refine dS ?_;(conv=>whnf))
  apply Exists.intro
  apply And.intro
  ·conv=>whnf
   exact oD
  conv=>whnf
  (refine dS ?_;(conv=>whnf))
  apply Exists.intro
  apply And.intro
  ·conv=>whnf
   exact oD
  conv=>whnf
  apply Exists.intro
  apply And.intro
  ·conv=>whnf
   ((conv in (_[_]?)=>tactic=>exact (z.look4 9 H));(conv=>whnf))
   exact ⟨rfl,sL H _ _,trivial⟩
  conv=>whnf
  refine ⟨10,by decide,⟨rfl,rfl,rfl,rfl,trivial⟩,?_,by decide⟩
  subst hz hkk
  rfl
 | 10,_ =>
  conv=>whnf
  refine ⟨fun _=>?_,fun h=>absurd (show ((10:Nat):Int)<16 by decide) h⟩
  conv=>whnf
  refine ⟨⟨by decide,by decide⟩,?_⟩
  conv=>whnf
  generalize hz:wN kk 10=z
  refine dO2 D298_4 [H++[z.O4 10],H++[S4.O4 { z with c:=orB z.c ka 16 } 11]] (by kernel_rfl) rfl trivial ?_
  conv=>whnf
  (refine dS ?_;(conv=>whnf))
  apply Exists.intro
  apply And.intro
  ·conv=>whnf
   exact oD
  conv=>whnf
  apply Exists.intro
  apply And.intro
  ·conv=>whnf
   exact oD
  conv=>whnf
  apply Exists.intro
  apply And.intro
  ·conv=>whnf
   ((conv in (_[_]?)=>tactic=>exact (z.look4 10 H));(conv=>whnf))
   exact ⟨rfl,rfl,trivial⟩
  conv=>whnf
  iterate 3 (refine dS ?_;(conv=>whnf))
  apply Exists.intro
  apply And.intro
  ·conv=>whnf
   exact oD
  conv=>whnf
  (refine dS ?_;(conv=>whnf))
  apply Exists.intro
  apply And.intro
  ·conv=>whnf
   exact oD
  conv=>whnf
  (refine dS ?_;(conv=>whnf))
  apply Exists.intro
  apply And.intro
  ·conv=>whnf
   exact oD
  conv=>whnf
  apply Exists.intro
  apply And.intro
  ·conv=>whnf
   ((conv in (_[_]?)=>tactic=>exact (z.look4 10 H));(conv=>whnf))
   exact ⟨rfl,sL H _ _,trivial⟩
  conv=>whnf
  refine ⟨11,by decide,⟨rfl,rfl,rfl,rfl,trivial⟩,?_,by decide⟩
  subst hz hkk
  rfl
 | 11,_ =>
  conv=>whnf
  refine ⟨fun _=>?_,fun h=>absurd (show ((11:Nat):Int)<16 by decide) h⟩
  conv=>whnf
  refine ⟨⟨by decide,by decide⟩,?_⟩
  conv=>whnf
  generalize hz:wN kk 11=z
  refine dO2 D298_4 [H++[z.O4 11],H++[S4.O4 { z with c:=orB z.c kb 24 } 12]] (by kernel_rfl) rfl trivial ?_
  conv=>whnf
  (refine dS ?_;(conv=>whnf))
  apply Exists.intro
  apply And.intro
  ·conv=>whnf
   exact oD
  conv=>whnf
  apply Exists.intro
  apply And.intro
  ·conv=>whnf
   exact oD
  conv=>whnf
  apply Exists.intro
  apply And.intro
  ·conv=>whnf
   ((conv in (_[_]?)=>tactic=>exact (z.look4 11 H));(conv=>whnf))
   exact ⟨rfl,rfl,trivial⟩
  conv=>whnf
  iterate 3 (refine dS ?_;(conv=>whnf))
  apply Exists.intro
  apply And.intro
  ·conv=>whnf
   exact oD
  conv=>whnf
  (refine dS ?_;(conv=>whnf))
  apply Exists.intro
  apply And.intro
  ·conv=>whnf
   exact oD
  conv=>whnf
  (refine dS ?_;(conv=>whnf))
  apply Exists.intro
  apply And.intro
  ·conv=>whnf
   exact oD
  conv=>whnf
  apply Exists.intro
  apply And.intro
  ·conv=>whnf
   ((conv in (_[_]?)=>tactic=>exact (z.look4 11 H));(conv=>whnf))
   exact ⟨rfl,sL H _ _,trivial⟩
  conv=>whnf
  refine ⟨12,by decide,⟨rfl,rfl,rfl,rfl,trivial⟩,?_,by decide⟩
  subst hz hkk
  rfl
 | 12,_ =>
  conv=>whnf
  refine ⟨fun _=>?_,fun h=>absurd (show ((12:Nat):Int)<16 by decide) h⟩
  conv=>whnf
  refine ⟨⟨by decide,by decide⟩,?_⟩
  conv=>whnf
  generalize hz:wN kk 12=z
  refine dO2 D298_4 [H++[z.O4 12],H++[S4.O4 { z with d:=orB z.d kc 0 } 13]] (by kernel_rfl) rfl trivial ?_
  conv=>whnf
  (refine dS ?_;(conv=>whnf))
  apply Exists.intro
  apply And.intro
  ·conv=>whnf
   exact oD
  conv=>whnf
  apply Exists.intro
  apply And.intro
  ·conv=>whnf
   exact oD
  conv=>whnf
  apply Exists.intro
  apply And.intro
  ·conv=>whnf
   ((conv in (_[_]?)=>tactic=>exact (z.look4 12 H));(conv=>whnf))
   exact ⟨rfl,rfl,trivial⟩
  conv=>whnf
  iterate 3 (refine dS ?_;(conv=>whnf))
  apply Exists.intro
  apply And.intro
  ·conv=>whnf
   exact oD
  conv=>whnf
  (refine dS ?_;(conv=>whnf))
  apply Exists.intro
  apply And.intro
  ·conv=>whnf
   exact oD
  conv=>whnf
  (refine dS ?_;(conv=>whnf))
  apply Exists.intro
  apply And.intro
  ·conv=>whnf
   exact oD
  conv=>whnf
  apply Exists.intro
  apply And.intro
  ·conv=>whnf
   ((conv in (_[_]?)=>tactic=>exact (z.look4 12 H));(conv=>whnf))
   exact ⟨rfl,sL H _ _,trivial⟩
  conv=>whnf
  refine ⟨13,by decide,⟨rfl,rfl,rfl,rfl,trivial⟩,?_,by decide⟩
  subst hz hkk
  rfl
 | 13,_ =>
  conv=>whnf
  refine ⟨fun _=>?_,fun h=>absurd (show ((13:Nat):Int)<16 by decide) h⟩
  conv=>whnf
  refine ⟨⟨by decide,by decide⟩,?_⟩
  conv=>whnf
  generalize hz:wN kk 13=z
  refine dO2 D298_4 [H++[z.O4 13],H++[S4.O4 { z with d:=orB z.d kd 8 } 14]] (by kernel_rfl) rfl trivial ?_
  conv=>whnf
  (refine dS ?_;(conv=>whnf))
  apply Exists.intro
  apply And.intro
  ·conv=>whnf
   exact oD
  conv=>whnf
  apply Exists.intro
  apply And.intro
  ·conv=>whnf
   exact oD
  conv=>whnf
  apply Exists.intro
  apply And.intro
  ·conv=>whnf
   ((conv in (_[_]?)=>tactic=>exact (z.look4 13 H));(conv=>whnf))
   exact ⟨rfl,rfl,trivial⟩
  conv=>whnf
  iterate 3 (refine dS ?_;(conv=>whnf))
  apply Exists.intro
  apply And.intro
  ·conv=>whnf
   exact oD
  conv=>whnf
  (refine dS ?_;(conv=>whnf))
  apply Exists.intro
  apply And.intro
  ·conv=>whnf
   exact oD
  conv=>whnf
  (refine dS ?_;(conv=>whnf))
  apply Exists.intro
  apply And.intro
  ·conv=>whnf
   exact oD
  conv=>whnf
  apply Exists.intro
  apply And.intro
  ·conv=>whnf
   ((conv in (_[_]?)=>tactic=>exact (z.look4 13 H));(conv=>whnf))
   exact ⟨rfl,sL H _ _,trivial⟩
  conv=>whnf
  refine ⟨14,by decide,⟨rfl,rfl,rfl,rfl,trivial⟩,?_,by decide⟩
  subst hz hkk
  rfl
 | 14,_ =>
  conv=>whnf
  refine ⟨fun _=>?_,fun h=>absurd (show ((14:Nat):Int)<16 by decide) h⟩
  conv=>whnf
  refine ⟨⟨by decide,by decide⟩,?_⟩
  conv=>whnf
  generalize hz:wN kk 14=z
  refine dO2 D298_4 [H++[z.O4 14],H++[S4.O4 { z with d:=orB z.d ke 16 } 15]] (by kernel_rfl) rfl trivial ?_
  conv=>whnf
  (refine dS ?_;(conv=>whnf))
  apply Exists.intro
  apply And.intro
  ·conv=>whnf
   exact oD
  conv=>whnf
  apply Exists.intro
  apply And.intro
  ·conv=>whnf
   exact oD
  conv=>whnf
  apply Exists.intro
  apply And.intro
  ·conv=>whnf
   ((conv in (_[_]?)=>tactic=>exact (z.look4 14 H));(conv=>whnf))
   exact ⟨rfl,rfl,trivial⟩
  conv=>whnf
  iterate 3 (refine dS ?_;(conv=>whnf))
  apply Exists.intro
  apply And.intro
  ·conv=>whnf
   exact oD
  conv=>whnf
  (refine dS ?_;(conv=>whnf))
  apply Exists.intro
  apply And.intro
  ·conv=>whnf
   exact oD
  conv=>whnf
  (refine dS ?_;(conv=>whnf))
  apply Exists.intro
  apply And.intro
  ·conv=>whnf
   exact oD
  conv=>whnf
  apply Exists.intro
  apply And.intro
  ·conv=>whnf
   ((conv in (_[_]?)=>tactic=>exact (z.look4 14 H));(conv=>whnf))
   exact ⟨rfl,sL H _ _,trivial⟩
  conv=>whnf
  refine ⟨15,by decide,⟨rfl,rfl,rfl,rfl,trivial⟩,?_,by decide⟩
  subst hz hkk
  rfl
 | 15,_ =>
  conv=>whnf
  refine ⟨fun _=>?_,fun h=>absurd (show ((15:Nat):Int)<16 by decide) h⟩
  conv=>whnf
  refine ⟨⟨by decide,by decide⟩,?_⟩
  conv=>whnf
  generalize hz:wN kk 15=z
  refine dO2 D298_4 [H++[z.O4 15],H++[S4.O4 { z with d:=orB z.d kf 24 } 16]] (by kernel_rfl) rfl trivial ?_
  conv=>whnf
  (refine dS ?_;(conv=>whnf))
  apply Exists.intro
  apply And.intro
  ·conv=>whnf
   exact oD
  conv=>whnf
  apply Exists.intro
  apply And.intro
  ·conv=>whnf
   exact oD
  conv=>whnf
  apply Exists.intro
  apply And.intro
  ·conv=>whnf
   ((conv in (_[_]?)=>tactic=>exact (z.look4 15 H));(conv=>whnf))
   exact ⟨rfl,rfl,trivial⟩
  conv=>whnf
  iterate 3 (refine dS ?_;(conv=>whnf))
  apply Exists.intro
  apply And.intro
  ·conv=>whnf
   exact oD
  conv=>whnf
  (refine dS ?_;(conv=>whnf))
  apply Exists.intro
  apply And.intro
  ·conv=>whnf
   exact oD
  conv=>whnf
  (refine dS ?_;(conv=>whnf))
  apply Exists.intro
  apply And.intro
  ·conv=>whnf
   exact oD
  conv=>whnf
  apply Exists.intro
  apply And.intro
  ·conv=>whnf
   ((conv in (_[_]?)=>tactic=>exact (z.look4 15 H));(conv=>whnf))
   exact ⟨rfl,sL H _ _,trivial⟩
  conv=>whnf
  refine ⟨16,by decide,⟨rfl,rfl,rfl,rfl,trivial⟩,?_,by decide⟩
  subst hz hkk
  rfl
 | 16,_ =>
  conv=>whnf
  refine ⟨fun h=>absurd h (by decide),fun _=>?_⟩
  conv=>whnf
  refine dP2 (by kernel_rfl) ?_
  conv=>whnf
  apply Exists.intro
  apply And.intro
  ·conv=>whnf
   exact ⟨by decide,rfl,rfl,trivial⟩
  conv=>whnf
  apply Exists.intro
  apply And.intro
  ·conv=>whnf
   ((conv in (_[_]?)=>tactic=>exact ((wN kk 16).look4 16 H));(conv=>whnf))
   exact ⟨rfl,rfl,trivial⟩
  conv=>whnf
  apply Exists.intro
  apply And.intro
  ·conv=>whnf
   refine ⟨by decide,fun _=>?_,fun h=>absurd (show (1:Int)<4 by decide) h⟩
   conv=>whnf
   exact ⟨rfl,rfl,trivial⟩
  conv=>whnf
  iterate 2 (refine dS ?_;(conv=>whnf))
  subst hkk
  refine lO MkS (fun x=>[(0,.ptr (some (kid,0))),(5,.int .u32 (spN [k0,k1,k2,k3,k4,k5,k6,k7,k8,k9,ka,kb,kc,kd,ke,kf] x.i).a),(6,.sref x.lid x.off 3 x.cap),(33,.int .i64 x.i)]) (fun x=>x.K) (fun x=>MkOk [k0,k1,k2,k3,k4,k5,k6,k7,k8,k9,ka,kb,kc,kd,ke,kf] d m s md l kid H x) (fun x=>27 - x.i)
   ⟨⟨0,v,H.length,1,3,(wN [k0,k1,k2,k3,k4,k5,k6,k7,k8,k9,ka,kb,kc,kd,ke,kf] 16).O4 16,H++[(wN [k0,k1,k2,k3,k4,k5,k6,k7,k8,k9,ka,kb,kc,kd,ke,kf] 16).O4 16]⟩,⟨Nat.zero_le _,by rw [List.getElem?_append_left hlt];exact hid,by show H.length≠kid;omega,Nat.le_refl _,gL H _,rfl,by show 1+3≤4;omega,by show 3≤3;omega,by simp,fun j hj _=>List.getElem?_append_left hj⟩,⟨rfl,rfl,rfl,rfl,trivial⟩,rfl⟩ ?_
  rintro x hx
  obtain ⟨i,kv,lid,off,cap,ob,K⟩:=x
  have hx:MkOk [k0,k1,k2,k3,k4,k5,k6,k7,k8,k9,ka,kb,kc,kd,ke,kf] d m s md l kid H ⟨i,kv,lid,off,cap,ob,K⟩:=hx
  have hi:i≤27:=hx.i
  have hKk:K[kid]? = some (keyO [k0,k1,k2,k3,k4,k5,k6,k7,k8,k9,ka,kb,kc,kd,ke,kf] d m s (spL [k0,k1,k2,k3,k4,k5,k6,k7,k8,k9,ka,kb,kc,kd,ke,kf] l i) md kv):=hx.key
  conv=>whnf
  refine ⟨fun h=>?_,fun h=>?_⟩
  ·have h:(i:Int)<27:=h
   have hspl:(spL [k0,k1,k2,k3,k4,k5,k6,k7,k8,k9,ka,kb,kc,kd,ke,kf] l i).length=27:=by rw [spL_len _ _ _ hl hi]
   conv=>whnf
   refine ⟨⟨by omega,h⟩,?_⟩
   conv=>whnf
   ((conv in (_[_]?)=>tactic=>exact hKk);(conv=>whnf))
   ((conv in (Nat.ble _ _)=>tactic=>exact (show Nat.ble (0+19+(i:Int).toNat*1+1) (([k0,k1,k2,k3,k4,k5,k6,k7,k8,k9,ka,kb,kc,kd,ke,kf].map bC++[PV.int .u32 d,PV.int .i32 m,PV.int .u32 s])++(spL [k0,k1,k2,k3,k4,k5,k6,k7,k8,k9,ka,kb,kc,kd,ke,kf] l i).map u32C++[PV.int .u32 md]).length=true by rw [Nat.ble_eq];simp [hspl];omega));(conv=>whnf))
   generalize hg:setH kid _ _ _=K1
   have hK1:K1=K.set kid (keyO [k0,k1,k2,k3,k4,k5,k6,k7,k8,k9,ka,kb,kc,kd,ke,kf] d m s (spL [k0,k1,k2,k3,k4,k5,k6,k7,k8,k9,ka,kb,kc,kd,ke,kf] l (i+1)) md (kv+1)):=by
    rw [←hg]
    show K.set kid ⟨301,setCells (0+19+(i:Int).toNat*1) [u32C (spN [k0,k1,k2,k3,k4,k5,k6,k7,k8,k9,ka,kb,kc,kd,ke,kf] i).a] (([k0,k1,k2,k3,k4,k5,k6,k7,k8,k9,ka,kb,kc,kd,ke,kf].map bC++[PV.int .u32 d,PV.int .i32 m,PV.int .u32 s])++(spL [k0,k1,k2,k3,k4,k5,k6,k7,k8,k9,ka,kb,kc,kd,ke,kf] l i).map u32C++[PV.int .u32 md]),kv+1⟩=_
    rw [setCells_mid _ _ _ i _ _ (by omega) (by simp),spL_set _ _ _ hl (by omega)]
    rfl
   have h1:K1[lid]? = some ob:=by rw [hK1,List.getElem?_set_ne (Ne.symm hx.ne)];exact hx.lst
   have hk1:K1[kid]? = some (keyO [k0,k1,k2,k3,k4,k5,k6,k7,k8,k9,ka,kb,kc,kd,ke,kf] d m s (spL [k0,k1,k2,k3,k4,k5,k6,k7,k8,k9,ka,kb,kc,kd,ke,kf] l (i+1)) md (kv+1)):=by rw [hK1];exact gS hKk
   have hl1:K1.length=K.length:=by rw [hK1,List.length_set]
   have ht:(ob.cs.drop off).take 3=[u32C (spN [k0,k1,k2,k3,k4,k5,k6,k7,k8,k9,ka,kb,kc,kd,ke,kf] i).b,u32C (spN [k0,k1,k2,k3,k4,k5,k6,k7,k8,k9,ka,kb,kc,kd,ke,kf] i).c,u32C (spN [k0,k1,k2,k3,k4,k5,k6,k7,k8,k9,ka,kb,kc,kd,ke,kf] i).d]:=hx.three
   have ht2:ob.cs.drop off=u32C (spN [k0,k1,k2,k3,k4,k5,k6,k7,k8,k9,ka,kb,kc,kd,ke,kf] i).b::u32C (spN [k0,k1,k2,k3,k4,k5,k6,k7,k8,k9,ka,kb,kc,kd,ke,kf] i).c::u32C (spN [k0,k1,k2,k3,k4,k5,k6,k7,k8,k9,ka,kb,kc,kd,ke,kf] i).d::(ob.cs.drop off).drop 3:=by
    conv=>lhs;rw [←List.take_append_drop 3 (ob.cs.drop off),ht]
    rfl
   clear hg
   conv=>whnf
   refine ⟨⟨by decide,by show (0:Int)<((3:Nat):Int);decide⟩,?_⟩
   conv=>whnf
   ((conv in (_[_]?)=>tactic=>exact h1);(conv=>whnf))
   ((conv in (dropN _ _)=>tactic=>exact ((dropN_eq _ _).trans ht2));(conv=>whnf))
   refine cP (c283 _ _) ?_
   conv=>whnf
   refine cP (c283 _ _) ?_
   conv=>whnf
   refine ⟨⟨by decide,by show (1:Int)≤((3:Nat):Int);decide,by show ((3:Nat):Int)≤((3:Nat):Int);decide⟩,fun _=>?_,fun h=>absurd (show (1:Int)<((3:Nat):Int) by decide) h⟩
   conv=>whnf
   ((conv in (_[_]?)=>tactic=>exact h1);(conv=>whnf))
   have hr1:off+cap≤ob.cs.length:=hx.room
   have hr2:3≤cap:=hx.cap
   have hlid:H.length≤lid:=hx.new
   have hlen:H.length≤K.length:=hx.len
   refine ⟨⟨by decide,rfl,rfl,by show off+1+2≤ob.cs.length;omega⟩,fun h4=>?_,fun h4 cap' hc=>?_⟩
   ·have h4:3≤cap - 1:=h4
    refine ⟨by show off+1+3≤ob.cs.length;omega,?_⟩
    conv=>whnf
    refine ⟨⟨i+1,kv+1,lid,off+1,cap - 1,⟨ob.T,setCells (off+1+2) [u32C (spN [k0,k1,k2,k3,k4,k5,k6,k7,k8,k9,ka,kb,kc,kd,ke,kf] (i+1)).d] ob.cs,ob.ver+1⟩,K1.set lid ⟨ob.T,setCells (off+1+2) [u32C (spN [k0,k1,k2,k3,k4,k5,k6,k7,k8,k9,ka,kb,kc,kd,ke,kf] (i+1)).d] ob.cs,ob.ver+1⟩⟩,⟨by show i+1≤27;omega,by rw [List.getElem?_set_ne hx.ne];exact hk1,hx.ne,hx.new,gS h1,slide ob.cs off _ _ _ _ ht2 (by omega) _,?_,by show 3≤cap - 1;omega,by show H.length≤(K1.set lid _).length;rw [List.length_set];omega,fun j hj hjk=>?_⟩,⟨rfl,rfl,rfl,?_,trivial⟩,rfl,by show 27 - (i+1)<27 - i;omega⟩
    ·show off+1+(cap - 1)≤(setCells _ _ _).length
     rw [setCells_len _ _ _ (by show off+1+2+1≤_;omega)];omega
    ·rw [List.getElem?_set_ne (by omega),hK1,List.getElem?_set_ne (Ne.symm hjk)]
     exact hx.fr j hj hjk
    ·show PV.int _ (IntKind.i64.wrap ((i:Int)+1))=PV.int _ _
     rw [w64 (by omega) (by omega)];simp
   ·have hc:3≤cap':=hc
    conv=>whnf
    have ht3:ob.cs.drop (off+1)=u32C (spN [k0,k1,k2,k3,k4,k5,k6,k7,k8,k9,ka,kb,kc,kd,ke,kf] i).c::u32C (spN [k0,k1,k2,k3,k4,k5,k6,k7,k8,k9,ka,kb,kc,kd,ke,kf] i).d::(ob.cs.drop off).drop 3:=by
     rw [←List.drop_drop,ht2];rfl
    have hcell:((ob.cs.drop (off+1)).take 2).map dem=[u32C (spN [k0,k1,k2,k3,k4,k5,k6,k7,k8,k9,ka,kb,kc,kd,ke,kf] i).c,u32C (spN [k0,k1,k2,k3,k4,k5,k6,k7,k8,k9,ka,kb,kc,kd,ke,kf] i).d]:=by rw [ht3];rfl
    refine ⟨⟨i+1,kv+1,K1.length,0,cap',⟨226,((ob.cs.drop (off+1)).take 2).map dem++[u32C (spN [k0,k1,k2,k3,k4,k5,k6,k7,k8,k9,ka,kb,kc,kd,ke,kf] (i+1)).d]++zerosOf [PV.int .u32 0] (cap' - 3),0⟩,K1++[⟨226,((ob.cs.drop (off+1)).take 2).map dem++[u32C (spN [k0,k1,k2,k3,k4,k5,k6,k7,k8,k9,ka,kb,kc,kd,ke,kf] (i+1)).d]++zerosOf [PV.int .u32 0] (cap' - 3),0⟩]⟩,⟨by show i+1≤27;omega,by rw [List.getElem?_append_left (List.getElem?_eq_some_iff.1 hk1).1];exact hk1,by show K1.length≠kid;omega,by show H.length≤K1.length;omega,gL K1 _,?_,?_,hc,by show H.length≤(K1++[_]).length;rw [List.length_append];omega,fun j hj hjk=>?_⟩,⟨rfl,rfl,rfl,?_,trivial⟩,rfl,by show 27 - (i+1)<27 - i;omega⟩
    ·rw [hcell];rfl
    ·show 0+cap'≤(((ob.cs.drop (off+1)).take 2).map dem++[u32C (spN [k0,k1,k2,k3,k4,k5,k6,k7,k8,k9,ka,kb,kc,kd,ke,kf] (i+1)).d]++zerosOf [PV.int .u32 0] (cap' - 3)).length
     rw [hcell,List.length_append,(zerosOf_get (z:=[PV.int .u32 0]) (sz:=1) rfl (by omega) (cap' - 3)).1]
     show 0+cap'≤3+(cap' - 3)*1
     omega
    ·rw [List.getElem?_append_left (by omega),hK1,List.getElem?_set_ne (Ne.symm hjk)]
     exact hx.fr j hj hjk
    ·show PV.int _ (IntKind.i64.wrap ((i:Int)+1))=PV.int _ _
     rw [w64 (by omega) (by omega)];simp
  ·have h:¬(i:Int)<27:=h
   have e:i=27:=by omega
   subst e
   have hspl:spL [k0,k1,k2,k3,k4,k5,k6,k7,k8,k9,ka,kb,kc,kd,ke,kf] l 27=spW [k0,k1,k2,k3,k4,k5,k6,k7,k8,k9,ka,kb,kc,kd,ke,kf]:=by
    unfold spL spW
    rw [List.drop_of_length_le (by omega),List.append_nil]
   rw [hspl] at hKk
   conv=>whnf
   refine cO (c310 (o:=keyO [k0,k1,k2,k3,k4,k5,k6,k7,k8,k9,ka,kb,kc,kd,ke,kf] d m s (spW [k0,k1,k2,k3,k4,k5,k6,k7,k8,k9,ka,kb,kc,kd,ke,kf]) md kv) (n:=md) hKk rfl) ?_
   rintro _ _ ⟨rfl,rfl⟩
   conv=>whnf
   exact ⟨rfl,K,kv,hKk,hx.len,hx.fr,rfl⟩
 | j+17,hj=>exact absurd hj (by omega)
set_option maxHeartbeats 1000000
theorem keyO_flat (k:List UInt8) (d m s:Int) (l:List Int) (md:Int) (v:Nat):∀c∈(keyO k d m s l md v).cs,flatP c=true:=by
 intro c hc
 simp only [keyO,List.mem_append,List.mem_map,List.mem_cons,List.not_mem_nil,or_false] at hc
 rcases hc with ((⟨b,_,rfl⟩ | rfl | rfl | rfl) | ⟨x,_,rfl⟩) | rfl <;> rfl
theorem split_set {H K:PH} {kid:Nat} {o:PObj} (hlt:kid<H.length) (hl:H.length≤K.length) (hf:∀j,j<H.length→j≠kid→K[j]? = H[j]?):K.set kid o=H.set kid o++K.drop H.length:=by
 apply List.ext_getElem?
 intro j
 by_cases h:j<H.length
 ·rw [List.getElem?_append_left (by rw [List.length_set];exact h)]
  by_cases e:j=kid
  ·subst e
   rw [List.getElem?_set_self (by omega),List.getElem?_set_self h]
  ·rw [List.getElem?_set_ne (Ne.symm e),List.getElem?_set_ne (Ne.symm e)]
   exact hf j h e
 ·rw [List.getElem?_append_right (by rw [List.length_set];omega),List.length_set,List.getElem?_drop,List.getElem?_set_ne (by omega)]
  congr 1;omega
theorem c298 (k:List UInt8) (hk:k.length=16) (d m s md:Int) (l:List Int) (hl:l.length=27) (v kid:Nat) (H:PH) (hid:H[kid]? = some (keyO k d m s l md v)) :
  CK prog 298 [.ptr (some (kid,0))] H fun r H'=>r=.tup []∧∃v',H'=H.set kid (keyO k d m s (spW k) 1 v'):=by
 have hlt:kid<H.length:=(List.getElem?_eq_some_iff.1 hid).1
 refine CK.gcK (c298x k hk d m s md l hl v kid H hid) fun r H' hh=>?_
 obtain ⟨rfl,K,kv,h1,h2,h3,rfl⟩:=hh
 exact ⟨rfl,H.set kid (keyO k d m s (spW k) 1 (kv+1)),_,split_set hlt h2 h3,kept_set hlt fun c hc=>.inl (keyO_flat _ _ _ _ _ _ _ c hc),rfl,_,rfl⟩
def WordsOk:Prop:=∀(k:List UInt8) (hk:k.length=16) (kid:Nat) (H:PH),(∃v,H[kid]? = some (keyO k 0 0 0 (List.replicate 27 0) 0 v))∨(∃v,H[kid]? = some (keyO k 1 0 0 (spW k) 1 v)) →
 CK prog 282 [.ptr (some (kid,0))] H fun r H'=>r=.sref kid 19 27 27∧∃v',H'=H.set kid (keyO k 1 0 0 (spW k) 1 v')
def spR (w:Int) (p:Int×Int):Int×Int:=(xor32 (add32 (rot32 p.1 (-8)) p.2) w,xor32 (rot32 p.2 3) (xor32 (add32 (rot32 p.1 (-8)) p.2) w))
def spB (ws:List Int) (p:Int×Int):Int×Int:=ws.foldl (fun p w=>spR w p) p
theorem spB_snoc (ws:List Int) (w:Int) (p:Int×Int):spB (ws++[w]) p=spR w (spB ws p):=by unfold spB;rw [List.foldl_append];rfl
theorem spW_len (k:List UInt8):(spW k).length=27:=by unfold spW;simp
theorem c257 (hw:WordsOk) (k:List UInt8) (hk:k.length=16) (kid:Nat) (H:PH) (h0:(∃v,H[kid]? = some (keyO k 0 0 0 (List.replicate 27 0) 0 v))∨(∃v,H[kid]? = some (keyO k 1 0 0 (spW k) 1 v))) (x y:Int) :
  CK prog 257 [.ptr (some (kid,0)),.int .u32 x,.int .u32 y] H fun r H'=>r=.tup [.int .u32 (spB (spW k) (x,y)).1,.int .u32 (spB (spW k) (x,y)).2]∧∃v',H'=H.set kid (keyO k 1 0 0 (spW k) 1 v'):=by
 have hlt:kid<H.length:=by
  rcases h0 with ⟨v,h⟩ | ⟨v,h⟩ <;> exact (List.getElem?_eq_some_iff.1 h).1
 (refine fnS (imm:=imm257) ttO_ok func257 ?_;(conv=>whnf))
 refine cO (hw k hk kid H h0) ?_
 rintro _ _ ⟨rfl,v',rfl⟩
 have hK:(H.set kid (keyO k 1 0 0 (spW k) 1 v'))[kid]? = some (keyO k 1 0 0 (spW k) 1 v'):=List.getElem?_set_self hlt
 generalize hKK:H.set kid (keyO k 1 0 0 (spW k) 1 v')=K at hK
 conv=>whnf
 refine lO Nat (fun i=>[(13,.sref kid 19 27 27),(14,.int .i64 27),(15,.int .i64 i),(1,.int .u32 (spB ((spW k).take i) (x,y)).1),(2,.int .u32 (spB ((spW k).take i) (x,y)).2)]) (fun _=>K) (fun i=>i≤27) (fun i=>27 - i) ⟨0,Nat.zero_le _,⟨rfl,rfl,rfl,rfl,rfl,trivial⟩,rfl⟩ ?_
 intro i hi
 conv=>whnf
 refine ⟨fun h=>?_,fun h=>?_⟩
 ·have h:(i:Int)<27:=h
  have hi':i<(spW k).length:=by rw [spW_len];omega
  conv=>whnf
  refine ⟨⟨by omega,by show (i:Int)<((27:Nat):Int);exact h⟩,?_⟩
  conv=>whnf
  ((conv in (_[_]?)=>tactic=>exact hK);(conv=>whnf))
  have hd:dropN (19+(i:Int).toNat*1) (keyO k 1 0 0 (spW k) 1 v').cs=u32C (spW k)[i]::(((spW k).drop (i+1)).map u32C++[u32C 1]):=by
   rw [dropN_eq]
   show ((k.map bC++[PV.int .u32 1,PV.int .i32 0,PV.int .u32 0])++(spW k).map u32C++[PV.int .u32 1]).drop _=_
   have e:19+(i:Int).toNat*1=(k.map bC++[PV.int .u32 1,PV.int .i32 0,PV.int .u32 0]).length+i:=by simp [hk]
   rw [e,List.append_assoc,List.drop_length_add_append,List.drop_append_of_le_length (by rw [List.length_map];omega),←List.map_drop,List.drop_eq_getElem_cons hi']
   rfl
  ((conv in (dropN _ _)=>tactic=>exact hd);(conv=>whnf))
  refine cP (c283 _ _) ?_
  conv=>whnf
  refine cP (c283 _ _) ?_
  conv=>whnf
  have et:spB ((spW k).take (i+1)) (x,y)=spR (spW k)[i] (spB ((spW k).take i) (x,y)):=by rw [List.take_succ_eq_append_getElem hi',spB_snoc]
  refine ⟨i+1,by omega,⟨rfl,rfl,?_,?_,?_,trivial⟩,rfl,by omega⟩
  ·show PV.int _ (IntKind.i64.wrap ((i:Int)+1))=PV.int _ _
   rw [w64 (by omega) (by omega)];simp
  ·rw [et];rfl
  ·rw [et];rfl
 ·have h:¬(i:Int)<27:=h
  have e:(spW k).take i=spW k:=List.take_of_length_le (by rw [spW_len];omega)
  rw [e]
  conv=>whnf
  exact ⟨rfl,v',hKK.symm⟩
def KeySt (k:List UInt8) (o:PObj):Prop:=(∃v,o=keyO k 0 0 0 (List.replicate 27 0) 0 v)∨(∃v,o=keyO k 1 0 0 (spW k) 1 v)
theorem KeySt.flat {k:List UInt8} {o:PObj} (h:KeySt k o):o.cs.all flatP=true:=by
 rcases h with ⟨v,rfl⟩ | ⟨v,rfl⟩ <;> exact List.all_eq_true.2 fun c hc=>keyO_flat _ _ _ _ _ _ _ c hc
def le4 (w:Int):List UInt8:=[byteI w,byteI (ishr .u32 w 8),byteI (ishr .u32 w 16),byteI (ishr .u32 w 24)]
def blkP (k:List UInt8) (nn:Int) (i:Nat):Int×Int:=spB (spW k) (IntKind.u32.wrap (ishr .u64 nn 32),add32 (IntKind.u32.wrap nn) i)
def strN (k:List UInt8) (nn:Int):Nat→List UInt8
 | 0=>[]
 | i+1=>strN k nn i++(le4 (blkP k nn i).1++le4 (blkP k nn i).2)
theorem strN_len (k:List UInt8) (nn:Int):∀i,(strN k nn i).length=8*i
 | 0=>rfl
 | i+1=>by
  show (strN k nn i++(le4 _++le4 _)).length=_
  rw [List.length_append,strN_len k nn i]
  show 8*i+8=_
  omega
def streamV (k:List UInt8) (nn:Int) (n:Nat):List UInt8:=(strN k nn ((n+7) / 8)).take n
theorem streamV_len (k:List UInt8) (nn:Int) (n:Nat):(streamV k nn n).length=n:=by
 unfold streamV
 rw [List.length_take,strN_len];omega
theorem le4_cells (w:Int):[PV.int .u8 (IntKind.u8.wrap w),.int .u8 (IntKind.u8.wrap (ishr .u32 w 8)),.int .u8 (IntKind.u8.wrap (ishr .u32 w 16)),.int .u8 (IntKind.u8.wrap (ishr .u32 w 24))]=(le4 w).map bC:=by
 rw [byteC_I,byteC_I,byteC_I,byteC_I];rfl
theorem ow_app' (a b:List UInt8) {n:Nat} (hn:n=b.length):PV.slice (a.length+n) (a.map bC++b.map bC) (some 5)=ow (a++b):=by subst hn;exact ow_app a b
structure StS where
 i:Nat
 o:PObj
theorem wrap32 {n:Nat} (h:n<4294967296):IntKind.u32.wrap (n:Int)=(n:Int):=by
 show (n:Int) % _=_
 have:(2 ^ IntKind.u32.bits:Int)=4294967296:=by decide
 rw [this];omega
theorem c225 (hw:WordsOk) (k:List UInt8) (hk:k.length=16) (kid:Nat) (nn:Int) (n:Nat) (hn:n≤1000000) (so:PObj) (hso:KeySt k so) (H:PH) (hid:H[kid]? = some so) :
  CK prog 225 [.ptr (some (kid,0)),.int .u64 nn,.int .i64 n] H fun r H'=>r=sl (streamV k nn n)∧∃o',KeySt k o'∧H'=H.set kid o':=by
 have hlt:kid<H.length:=(List.getElem?_eq_some_iff.1 hid).1
 rcases Nat.eq_zero_or_pos n with h0 | h0
 ·subst h0
  exact (c225z kid nn 0 (by decide) H).mono fun r H' hh=>⟨hh.1,so,hso,by rw [hh.2];exact (set_self hid).symm⟩
 (refine fnS (imm:=imm225) ttS_ok func225 ?_;(conv=>whnf))
 refine ⟨fun h=>absurd h (by omega),fun _=>?_⟩
 conv=>whnf
 have hw8:IntKind.i64.wrap ((n:Int)+8)=(n:Int)+8:=w64 (by omega) (by omega)
 refine ⟨⟨by decide,by rw [hw8];omega,by rw [hw8];show ((n:Int)+8)*((1:Nat):Int)≤_;omega⟩,?_⟩
 conv=>whnf
 refine lO StS (fun x=>[(0,.ptr (some (kid,0))),(1,.int .u64 nn),(2,.int .i64 n),(7,ow (strN k nn x.i)),(8,.int .u32 x.i)]) (fun x=>H.set kid x.o) (fun x=>x.i≤(n+7) / 8∧KeySt k x.o) (fun x=>(n+7) / 8 - x.i) ⟨⟨0,so⟩,⟨Nat.zero_le _,hso⟩,⟨rfl,rfl,rfl,rfl,rfl,trivial⟩,(set_self hid).symm⟩ ?_
 rintro ⟨i,o⟩ ⟨hi,ho⟩
 replace hi:i≤(n+7) / 8:=hi
 replace ho:KeySt k o:=ho
 have hsl:=strN_len k nn i
 conv=>whnf
 refine ⟨fun h=>?_,fun h=>?_⟩
 ·have h:((strN k nn i).length:Int)<n:=h
  rw [hsl] at h
  conv=>whnf
  refine ⟨by decide,?_⟩
  conv=>whnf
  have hst:(∃v,(H.set kid o)[kid]? = some (keyO k 0 0 0 (List.replicate 27 0) 0 v))∨(∃v,(H.set kid o)[kid]? = some (keyO k 1 0 0 (spW k) 1 v)):=by
   rw [List.getElem?_set_self hlt]
   rcases ho with ⟨v,rfl⟩ | ⟨v,rfl⟩
   ·exact .inl ⟨v,rfl⟩
   ·exact .inr ⟨v,rfl⟩
  refine cO (Q:=fun r H'=>r=.tup [.int .u32 (blkP k nn i).1,.int .u32 (blkP k nn i).2]∧∃v',H'=H.set kid (keyO k 1 0 0 (spW k) 1 v')) ((c257 hw k hk kid (H.set kid o) hst _ _).mono fun r H' hh=>?_) ?_
  ·obtain ⟨h1,v',h2⟩:=hh
   exact ⟨h1,v',by rw [h2,List.set_set]⟩
  rintro _ _ ⟨rfl,v',rfl⟩
  conv=>whnf
  generalize hx:(blkP k nn i).1=x
  generalize hy:(blkP k nn i).2=y
  refine lO Nat (fun j=>[(0,.ptr (some (kid,0))),(1,.int .u64 nn),(2,.int .i64 n),(7,ow (strN k nn i++(le4 x++le4 y).take (4*j))),(8,.int .u32 i),(42,.slice 2 [.int .u32 x,.int .u32 y] (some 226)),(43,.int .i64 2),(44,.int .i64 j)]) (fun _=>H.set kid (keyO k 1 0 0 (spW k) 1 v')) (fun j=>j≤2) (fun j=>2 - j) ⟨0,Nat.zero_le _,⟨rfl,rfl,rfl,?_,rfl,rfl,rfl,rfl,trivial⟩,rfl⟩ ?_
  ·show ow (strN k nn i)=ow (strN k nn i++[])
   rw [List.append_nil]
  intro j hj
  have happ:∀(a b:List UInt8),b.length=4→a.length≤2000000→(a.length+4)*1≤140737488355328∧(b.map bC).length=4*1∧(b.map bC).all oneP=true:=fun a b hb ha=>⟨by omega,by simp [hb],allOne b⟩
  match j,hj with
  | 0,_ =>
   conv=>whnf
   refine ⟨fun _=>?_,fun h=>absurd (show ((0:Nat):Int)<2 by decide) h⟩
   conv=>whnf
   refine ⟨⟨by decide,by decide⟩,[.int .u32 x],at1' (k:=0) rfl,?_⟩
   conv=>whnf
   refine ⟨by decide,?_⟩
   conv=>whnf
   refine ⟨by decide,?_⟩
   conv=>whnf
   refine ⟨by decide,?_⟩
   conv=>whnf
   refine ⟨⟨by show ((strN k nn i++(le4 x++le4 y).take (4*0)).length+4)*1≤_;rw [List.length_append,hsl];simp;omega,rfl,rfl⟩,?_⟩
   conv=>whnf
   refine ⟨1,by decide,⟨rfl,rfl,rfl,?_,rfl,rfl,rfl,rfl,trivial⟩,rfl,by decide⟩
   show PV.slice ((strN k nn i++(le4 x++le4 y).take (4*0)).length+4) ((strN k nn i++(le4 x++le4 y).take (4*0)).map bC++[PV.int .u8 (IntKind.u8.wrap x),.int .u8 (IntKind.u8.wrap (ishr .u32 x 8)),.int .u8 (IntKind.u8.wrap (ishr .u32 x 16)),.int .u8 (IntKind.u8.wrap (ishr .u32 x 24))]) (some 5)=ow (strN k nn i++(le4 x++le4 y).take (4*1))
   rw [le4_cells,ow_app' _ (le4 x) (n:=4) rfl,List.append_assoc]
   rfl
  | 1,_ =>
   conv=>whnf
   refine ⟨fun _=>?_,fun h=>absurd (show ((1:Nat):Int)<2 by decide) h⟩
   conv=>whnf
   refine ⟨⟨by decide,by decide⟩,[.int .u32 y],at1' (k:=1) rfl,?_⟩
   conv=>whnf
   refine ⟨by decide,?_⟩
   conv=>whnf
   refine ⟨by decide,?_⟩
   conv=>whnf
   refine ⟨by decide,?_⟩
   conv=>whnf
   refine ⟨⟨by show ((strN k nn i++(le4 x++le4 y).take (4*1)).length+4)*1≤_;rw [List.length_append,hsl];simp;omega,rfl,rfl⟩,?_⟩
   conv=>whnf
   refine ⟨2,by decide,⟨rfl,rfl,rfl,?_,rfl,rfl,rfl,rfl,trivial⟩,rfl,by decide⟩
   show PV.slice ((strN k nn i++(le4 x++le4 y).take (4*1)).length+4) ((strN k nn i++(le4 x++le4 y).take (4*1)).map bC++[PV.int .u8 (IntKind.u8.wrap y),.int .u8 (IntKind.u8.wrap (ishr .u32 y 8)),.int .u8 (IntKind.u8.wrap (ishr .u32 y 16)),.int .u8 (IntKind.u8.wrap (ishr .u32 y 24))]) (some 5)=ow (strN k nn i++(le4 x++le4 y).take (4*2))
   rw [le4_cells,ow_app' _ (le4 y) (n:=4) rfl,List.append_assoc]
   rfl
  | 2,_ =>
   conv=>whnf
   refine ⟨fun h=>absurd h (by decide),fun _=>?_⟩
   conv=>whnf
   refine ⟨⟨i+1,keyO k 1 0 0 (spW k) 1 v'⟩,⟨by show i+1≤(n+7) / 8;omega,.inr ⟨v',rfl⟩⟩,⟨rfl,rfl,rfl,?_,?_,trivial⟩,rfl,by show (n+7) / 8 - (i+1)<(n+7) / 8 - i;omega⟩
   ·subst hx hy
    rfl
   ·show PV.int _ (IntKind.u32.wrap ((i:Int)+1))=PV.int _ ((i+1:Nat):Int)
    rw [←wrap32 (n:=i+1) (by omega)];rfl
 ·have h:¬((strN k nn i).length:Int)<n:=h
  rw [hsl] at h
  have e:i=(n+7) / 8:=by omega
  conv=>whnf
  refine ⟨⟨by decide,by omega,by show (n:Int)≤((strN k nn i).length:Int);omega⟩,?_⟩
  conv=>whnf
  refine ⟨?_,o,ho,rfl⟩
  refine (sl_cut2 (strN k nn i) 0 n ⟨by omega,by omega,by omega⟩).trans ?_
  rw [Int.toNat_natCast,e]
  rfl
set_option maxHeartbeats 1600000
open Go
theorem mDisable (w:World):(callFunc 322 #[]).run prog w=.ok (.value (.tuple #[])) w:=run_call_mark0 func322 (by kernel_rfl) (by kernel_rfl) (by kernel_rfl) .disable (by kernel_rfl) w
theorem mEnable (w:World):(callFunc 324 #[]).run prog w=.ok (.value (.tuple #[])) w:=run_call_mark0 func324 (by kernel_rfl) (by kernel_rfl) (by kernel_rfl) .enable (by kernel_rfl) w
theorem mAcquire (a:Addr) (w:World):(callFunc 325 #[.pointer (some a)]).run prog w=.ok (.value (.tuple #[])) w:=run_call_marked func325 (by kernel_rfl) (by kernel_rfl) (by kernel_rfl) .acquire (by kernel_rfl) a w
theorem mRelease (a:Addr) (w:World):(callFunc 327 #[.pointer (some a)]).run prog w=.ok (.value (.tuple #[])) w:=run_call_marked func327 (by kernel_rfl) (by kernel_rfl) (by kernel_rfl) .releaseMerge (by kernel_rfl) a w
theorem lock_free (a:Addr) (w:World) (hc:w.cell? a=some (.int .i32 0)) (hz:w.frozen? a=false) :
  Calls prog 314 #[.pointer (some a)] w fun e w'=>e=.returned (.tuple #[])∧w'=w.setCell a (.int .i32 1):=by
 have hd:=mDisable
 have he:=mEnable
 have ha:=mAcquire
 have hcas:=run_call_cas_hit (P:=prog) func323 (by kernel_rfl) (by kernel_rfl) (by kernel_rfl) .i32 (by kernel_rfl) (y:=1) hc hz
 have hc':(w.setCell a (.int .i32 1)).cell? a=some (.int .i32 1):=World.cell?_setCell_same w a _ hc
 have hcv:=run_convert_to_unsafe (P:=prog) (src:=404) (dst:=388) underlying404 underlying388 (by kernel_rfl) hc'
 go_enter func314,ntmps314
 go_wp2
 first | go_end0 | (simp only [Exit.inBlock,Exit.then];refine bodyPost_ret (results_none rfl _ _ _) rfl ?_) | refine bodyPost_ret (results_none rfl _ _ _) rfl ?_
 go_wp2
 go_end0
 exact ⟨rfl,rfl⟩
theorem unlock_deferred (a:Addr) (u:FrameMode) (w:World) (hc:w.cell? a=some (.int .i32 1)) (hz:w.frozen? a=false) :
  CallsD prog 315 #[.pointer (some a)] u w fun e u' w'=>u'=u∧(e=.returned (.tuple #[])∧w'=w.setCell a (.int .i32 0)):=by
 have hd:=mDisable
 have he:=mEnable
 have hr:=mRelease
 have hadd:=run_call_add (P:=prog) func328 (by kernel_rfl) (by kernel_rfl) (by kernel_rfl) .i32 (by kernel_rfl) (y:=-1) (s:=0) hc hz (by simp [go_sem];rfl)
 have hcv:=run_convert_to_unsafe (P:=prog) (src:=404) (dst:=388) underlying404 underlying388 (by kernel_rfl) hc
 go_enter_d func315,ntmps315
 go_wp2
 go_end0
 go_wp2
 go_end0
 exact ⟨rfl,rfl⟩
end Go.Proofs.Tryz
/- Calls that were deferred; and a walk of the kit's over what the calculus knows. -/
namespace Ps
open Go
def CallDOk (P:Program) (f:Nat) (args:List PV) (H:PH) (Q:PV→PH→Prop):Prop :=
 ∀(g:Gh) (w:World) (vs:Array Value) (u:FrameMode),vs.size=args.length→Rel P g w (valOf vs) (args0 0 args) H →
  (callFunc f vs).run P w=.ok (.enter f vs) w∧CallsD P f vs u w fun e u' w'=>u'=u∧∃v r H' g',e=.returned v∧Q r H'∧Rel P g' w' (one v) [(0,r)] H'∧Step g w H (cellOwn g w H) g' w' H' ∧
   (∀i b,ownAt v r i b→w.heap.size≤b∨cellOwn g w H b)∧∀b,cellOwn g' w' H' b→w.heap.size≤b∨cellOwn g w H b
section
variable {P : Program} {tt : TT} {imm : List Nat}
theorem callDOk_of_pFun {f:Nat} {fn:Func} {args:List PV} {H:PH} {Q:PV→PH→Prop} (hm:P.follows .mixedOrders=true) (hT:ttOk P tt=true) (hd:6≤P.depth) (hf:P.funcs[f]? = some fn)
  (hname : (fn.name == "runtime.NumGoroutine") = false) (hp : pFun P tt imm fn args H Q) : CallDOk P f args H Q := by
 intro g w vs u hs hr
 unfold pFun at hp
 split at hp
 ·rename_i c hc
  split at hp
  ·rename_i hle
   have hle:args.length≤fn.ntmps:=Nat.le_of_ble_eq_true hle
   refine ⟨run_callFunc_body hf hname (by rw [hc];rfl),callsD_of_wp hf hc ?_⟩
   have hval:∀t,vals { tmps:=vs++Array.replicate (fn.ntmps - vs.size) undef,defers:=[] } t=valOf vs t:=fun t=>by
    simp only [vals,valOf,Array.getD_eq_getD_getElem?]
    rcases Nat.lt_or_ge t vs.size with h | h
    ·rw [Array.getElem?_append_left h]
    ·rw [Array.getElem?_append_right h,Array.getElem?_eq_none h,Array.getElem?_replicate]
     split <;> rfl
   have hV:∀t,V g w (valOf vs t) (Env.get (args0 0 (args.map dem)) t):=fun t=>by
    have:=(hr.e t).dem
    rw [args0_get] at this ⊢
    simp only [Nat.zero_le,if_true,Nat.sub_zero,List.getD_eq_getElem?_getD,List.getElem?_map] at this ⊢
    cases h:args[t]? with
    | none=>exact .undef _
    | some p=>rw [h] at this;exact this
   have hinv:Inv P g w H (cellOwn g w H) fn.ntmps g w { tmps:=vs++Array.replicate (fn.ntmps - vs.size) undef,defers:=[] } (args0 0 (args.map dem)) H:=by
    have hrel:Rel P g w (valOf vs) (args0 0 (args.map dem)) H:=⟨hr.h,fun t=>(hV t).vc,fun t i t' i' b h=>absurd h (no_own (hV t) i b),fun t i b h=>absurd h (no_own (hV t) i b),hr.cc⟩
    refine ⟨?_,by simp;omega,rfl,⟨Same.refl _ _ _,rfl,rfl,rfl,Nat.le_refl _,Keeps.refl _ _,fun _ _ h=>.inl h,fun b _ _ _=>⟨rfl,fun o h=>h⟩,fun _ h=>h⟩,fun t i b h=>?_,fun b h=>.inr h⟩
    ·rw [show vals { tmps:=vs++Array.replicate (fn.ntmps - vs.size) undef,defers:=[] }=valOf vs from funext hval];exact hrel
    ·rw [hval] at h;exact absurd h (no_own (hV t) i b)
   refine pCode_sound hm hT hd c _ _ (fun e g' w' a E H' inv hk=>?_) _ _ _ _ _ hinv hp
   have fin:∀(hk:pRes tt H' fn.results.toList E fun vs=>Q (tupOf vs) H'),a.defers=[]∧∃v,(results fn a.tmps).run P w'=.ok v w' ∧
     ∃v' r H2 g2,Ending.returned v=.returned v'∧Q r H2∧Rel P g2 w' (one v') [(0,r)] H2∧Step g w H (cellOwn g w H) g2 w' H2∧(∀i b,ownAt v' r i b→w.heap.size≤b∨cellOwn g w H b) ∧
      ∀b,cellOwn g2 w' H2 b→w.heap.size≤b∨cellOwn g w H b:=fun hk=>by
    obtain ⟨us,ps,h1,h2,h3,h4,h5,h6⟩:=pRes_sound hT fn.results.toList E _ inv hk
    obtain ⟨j1,j2⟩:=res_VC h3 h4
    refine ⟨inv.defers,valRes us,results_eq fn a h1,_,tupOf ps,H',g',rfl,h2,⟨inv.rel.h,fun t=>?_,fun t i t' i' b ho ho'=>?_,fun t i b ho=>?_,inv.rel.cc⟩,inv.step,fun i b ho=>?_,inv.cown⟩
    ·rw [Env.get_cons]
     unfold one
     by_cases e:t=0
     ·rw [if_pos e,if_pos e.symm];exact j1
     ·rw [if_neg e,if_neg (Ne.symm e)];exact (V.undef _).vc
    ·rw [Env.get_cons] at ho ho'
     unfold one at ho ho'
     by_cases e:t=0
     ·by_cases e':t'=0
      ·rw [if_pos e,if_pos e.symm] at ho
       rw [if_pos e',if_pos e'.symm] at ho'
       obtain ⟨c,u,y1,y2,y3,y4⟩:=j2 i b ho
       obtain ⟨c',u',z1,z2,z3,z4⟩:=j2 i' b ho'
       exact ⟨e.trans e'.symm,h6 i i' c c' u u' b y1 y2 y3 y4 z1 z2 z3 z4⟩
      ·rw [if_neg (Ne.symm e')] at ho';cases ho'.2.1
     ·rw [if_neg (Ne.symm e)] at ho;cases ho.2.1
    ·rw [Env.get_cons] at ho
     unfold one at ho
     by_cases e:t=0
     ·rw [if_pos e,if_pos e.symm] at ho
      obtain ⟨c,u,y1,y2,y3,y4⟩:=j2 i b ho
      obtain ⟨t',ht'⟩:=h5 i c u b y1 y2 y3 y4
      exact inv.rel.sc t' 0 b ht'
     ·rw [if_neg (Ne.symm e)] at ho;cases ho.2.1
    ·obtain ⟨c,u,y1,y2,y3,y4⟩:=j2 i b ho
     obtain ⟨t',ht'⟩:=h5 i c u b y1 y2 y3 y4
     exact inv.own t' 0 b ht'
   cases e with
   | normal=>exact fin hk
   | ret=>exact fin hk
   | exit i=>exact hk.elim
  ·exact hp.elim
 ·exact hp.elim
end
theorem callDOk_of_pFun2 {P:Program} {tt:TT} {imm:List Nat} (hm:P.follows .mixedOrders=true) (hT:ttOk P tt=true) (hd:6≤P.depth) {f:Nat} {fn:Func} (hf:P.funcs[f]? = some fn)
  (hn : (fn.name == "runtime.NumGoroutine") = false) {args : List PV} {H : PH} {Q : PV → PH → Prop} (h : pFun2 P tt imm fn args H Q) : CallDOk P f args H Q :=
 callDOk_of_pFun hm hT hd hf hn (by rw [←pFunX.2];exact h)
section
variable {P : Program}
def St (P:Program) (g0:Gh) (w0:World) (H0:PH) (g:Gh) (w:World) (H:PH):Prop:=Inv P g0 w0 H0 (cellOwn g0 w0 H0) 0 g w { tmps:=#[],defers:=[] } [] H
theorem St.start {g:Gh} {w:World} {H:PH} {val:Nat→Value} {E:Env} (hr:Rel P g w val E H):St P g w H g w H :=
 ⟨⟨hr.h,fun t=>(V.undef _).vc,fun t i t' i' b h=>(by cases h.2.1),fun t i b h=>(by cases h.2.1),hr.cc⟩,rfl,rfl,
  ⟨Same.refl _ _ _,rfl,rfl,rfl,Nat.le_refl _,Keeps.refl _ _,fun _ _ h=>.inl h,fun b _ _ _=>⟨rfl,fun o h=>h⟩,fun _ h=>h⟩,fun t i b h=>(by cases h.2.1),fun b h=>.inr h⟩
theorem St.call {g0 g : Gh} {w0 w : World} {H0 H : PH} (h : St P g0 w0 H0 g w H) {f : Nat} {fn : Func} (hf : P.funcs[f]? = some fn) (hname : (fn.name == "runtime.NumGoroutine") = false) (hb : fn.body.isNone = false)
  {args:List PV} {Q:PV→PH→Prop} (hc:CK P f args H Q) {vs:Array Value} (hs:vs.size=args.length) (hv:∀(j:Nat) (c:PV),args[j]? = some c→V g w (vs.getD j undef) c) :
  Calls P f vs w fun e w'=>∃v r H' g',e=.returned v∧Q r H'∧St P g0 w0 H0 g' w' H'∧Keeps g w g' w'∧VC P g' w' v r:=by
 rcases hc g w vs hs (Rel.args h.rel.h h.rel.cc hs hv) with ⟨_,h2⟩ | ⟨v,w',h1,_⟩
 ·refine h2.mono ?_
  rintro e w' ⟨v,r,H',g',rfl,q,hr,hst,ho,hcc⟩
  obtain ⟨i1,i2,_⟩:=Inv.call h hr hst ho hcc
  exact ⟨v,r,H',g',rfl,q,i1,hst.keeps,i2⟩
 ·rw [run_callFunc_body hf hname hb] at h1
  cases h1
theorem St.callD {g0 g:Gh} {w0 w:World} {H0 H:PH} (h:St P g0 w0 H0 g w H) {f:Nat}
  {args:List PV} {Q:PV→PH→Prop} (hc:CallDOk P f args H Q) {vs:Array Value} (u:FrameMode) (hs:vs.size=args.length) (hv:∀(j:Nat) (c:PV),args[j]? = some c→V g w (vs.getD j undef) c) :
  (callFunc f vs).run P w=.ok (.enter f vs) w∧CallsD P f vs u w fun e u' w'=>u'=u∧∃v r H' g',e=.returned v∧Q r H'∧St P g0 w0 H0 g' w' H'∧Keeps g w g' w':=by
 obtain ⟨h1,h2⟩:=hc g w vs u hs (Rel.args h.rel.h h.rel.cc hs hv)
 refine ⟨h1,h2.mono ?_⟩
 rintro e u' w' ⟨hu,v,r,H',g',rfl,q,hr,hst,ho,hcc⟩
 exact ⟨hu,v,r,H',g',rfl,q,(Inv.call h hr hst ho hcc).1,hst.keeps⟩
theorem St.fin {g0 g:Gh} {w0 w:World} {H0 H:PH} (h:St P g0 w0 H0 g w H):Rel P g w (one (.tuple #[])) [(0,.tup [])] H∧Step g0 w0 H0 (cellOwn g0 w0 H0) g w H ∧
  (∀i b,ownAt (.tuple #[]) (.tup []) i b→w0.heap.size≤b∨cellOwn g0 w0 H0 b)∧∀b,cellOwn g w H b→w0.heap.size≤b∨cellOwn g0 w0 H0 b:=by
 refine ⟨⟨h.rel.h,fun t=>?_,fun t i t' i' b k=>?_,fun t i b k=>?_,h.rel.cc⟩,h.step,fun i b k=>absurd k (unit_own i b),h.cown⟩
 ·rw [Env.get_cons]
  unfold one
  by_cases e:t=0
  ·rw [if_pos e,if_pos e.symm];exact unit_vc
  ·rw [if_neg e,if_neg (Ne.symm e)];exact (V.undef _).vc
 ·rw [Env.get_cons] at k
  unfold one at k
  by_cases e:t=0
  ·rw [if_pos e,if_pos e.symm] at k;exact absurd k (unit_own i b)
  ·rw [if_neg (Ne.symm e)] at k;cases k.2.1
 ·rw [Env.get_cons] at k
  unfold one at k
  by_cases e:t=0
  ·rw [if_pos e,if_pos e.symm] at k;exact absurd k (unit_own i b)
  ·rw [if_neg (Ne.symm e)] at k;cases k.2.1
end
end Ps
set_option maxHeartbeats 3000000
namespace Go.Proofs.Tryz
open Go Ps
theorem c207D {H:PH} {id off:Nat} {o:PObj} {n:Int} (ho:H[id]? = some o) (hc:o.cs[off]? = some (.int .u32 n)) :
  CallDOk prog 310 [.ptr (some (id,off)),.bool true] H fun r H'=>r=.tup []∧H'=H.set id ⟨o.T,setCells off [.int .u32 1] o.cs,o.ver+1⟩:=by
 refine callDOk_of_pFun2 (tt:=ttO) (imm:=imm310) follows ttO_ok depth6 func310 (by kernel_rfl) ?_
 conv=>whnf
 refine dO2 D310 [H,H.set id ⟨o.T,setCells off [.int .u32 1] o.cs,o.ver+1⟩] (by kernel_rfl) rfl trivial ?_
 conv=>whnf
 iterate 4 (refine dS ?_;(conv=>whnf))
 refine ⟨_,cP c317 ⟨rfl,rfl,trivial⟩,?_⟩
 conv=>whnf
 refine ⟨_,cO (c316 1 ho hc) (by rintro _ _ ⟨rfl,rfl⟩;exact ⟨rfl,rfl,trivial⟩),?_⟩
 conv=>whnf
 exact ⟨rfl,rfl⟩
theorem keyO_at (k:List UInt8) (hk:k.length=16) (d m s:Int) (l:List Int) (md:Int) (v:Nat):(keyO k d m s l md v).cs[16]? = some (.int .u32 d)∧(keyO k d m s l md v).cs[17]? = some (.int .i32 m):=by
 obtain ⟨k0,k1,k2,k3,k4,k5,k6,k7,k8,k9,ka,kb,kc,kd,ke,kf,rfl⟩:=len16 hk
 exact ⟨rfl,rfl⟩
theorem keyO_set16 (k:List UInt8) (hk:k.length=16) (d m s:Int) (l:List Int) (md:Int) (v:Nat) (x:Int):setCells 16 [.int .u32 x] (keyO k d m s l md v).cs=(keyO k x m s l md v).cs:=by
 obtain ⟨k0,k1,k2,k3,k4,k5,k6,k7,k8,k9,ka,kb,kc,kd,ke,kf,rfl⟩:=len16 hk
 rfl
theorem keyO_set17 (k:List UInt8) (hk:k.length=16) (d m s:Int) (l:List Int) (md:Int) (v:Nat) (x:Int):setCells 17 [.int .i32 x] (keyO k d m s l md v).cs=(keyO k d x s l md v).cs:=by
 obtain ⟨k0,k1,k2,k3,k4,k5,k6,k7,k8,k9,ka,kb,kc,kd,ke,kf,rfl⟩:=len16 hk
 rfl
theorem load_none (a:Addr) (w:World) (hc:w.cell? a=some (.int .u32 0)) :
  Calls prog 308 #[.pointer (some a)] w fun e w'=>e=.returned (.bool false)∧w'=w:=by
 have hl:=run_call_load (P:=prog) func313 (by kernel_rfl) (by kernel_rfl) (by kernel_rfl) .u32 (by kernel_rfl) (w:=w) (a:=a) (x:=0) hc
 go_enter func308,ntmps308
 go_wp2
 exact ⟨rfl,.bool false,by simp [results,f205,go_sem,Act.eval],rfl,rfl⟩
theorem c309 (k:List UInt8) (hk:k.length=16) (kid v:Nat) (H:PH) (hid:H[kid]? = some (keyO k 0 0 0 (List.replicate 27 0) 0 v)) :
  CK prog 309 [.ptr (some (kid,16)),.func 298 [.ptr (some (kid,0))] []] H fun r H'=>r=.tup []∧∃v',H'=H.set kid (keyO k 1 0 0 (spW k) 1 v'):=by
 intro g w vs hs hr
 obtain ⟨a,y,rfl,ha,hy⟩:=args2 hs hr.e
 obtain ⟨b,rfl,hι⟩:=(plain_of ha (by simp) (by simp)).inv_ptr
 obtain ⟨first,caps,rfl,e2,e3,e4,e5⟩:=(plain_of hy (by simp) (by simp)).inv_func
 have st0:=St.start hr
 obtain ⟨b1,q1,hd1,fd1,_⟩:=cell_at hr.h ha hid (keyO_at k hk 0 0 0 _ 0 v).1
 cases q1
 obtain ⟨b2,q2,hm1,fm1,hset1⟩:=cell_at hr.h ((V.ptr kid b 17 hι).vc) hid (keyO_at k hk 0 0 0 _ 0 v).2
 cases q2
 have st1:St prog g w H g (w.setCell ⟨b,17,none⟩ (.int .i32 1)) _:=hset1 1 _ _ _ st0
 rw [keyO_set17 k hk] at st1
 obtain ⟨p,rfl⟩:∃p,first=#[p]:=by
  match first,e2 with
  | ⟨[p]⟩,_=>exact ⟨p,rfl⟩
 obtain rfl:caps=#[]:=Array.eq_empty_of_size_eq_zero e3
 have hp:V g w p (.ptr (some (kid,0))):=e4 0 _ rfl
 obtain ⟨b3,rfl,hι3⟩:=hp.inv_ptr
 rw [hι] at hι3
 cases hι3
 refine .inl ⟨run_callFunc_body func309 (by kernel_rfl) (by kernel_rfl),?_⟩
 have hd1':(w.setCell ⟨b,17,none⟩ (.int .i32 1)).cell? ⟨b,16,none⟩=some (.int .u32 0):=(World.cell?_setCell_other _ ⟨b,17,none⟩ ⟨b,16,none⟩ _ (by simp)).trans hd1
 have hid1:(H.set kid ⟨(keyO k 0 0 0 (List.replicate 27 0) 0 v).T,(keyO k 0 1 0 (List.replicate 27 0) 0 v).cs,(keyO k 0 0 0 (List.replicate 27 0) 0 v).ver+1⟩)[kid]? = some (keyO k 0 1 0 (List.replicate 27 0) 0 (v+1)):=gS hid
 have hmake:=St.call st1 func298 (by kernel_rfl) (by kernel_rfl) (c298 k hk 0 1 0 0 (List.replicate 27 0) rfl (v+1) kid _ hid1) (vs:=#[.pointer (some ⟨b,0,none⟩)]) rfl (fun j c hj=>by
  match j,hj with
  | 0,hj=>cases hj;exact .ptr kid b 0 hι
  | j+1,hj=>simp at hj)
 have hnot:∀(x:Bool) (w:World),(Op.unary .not (.bool x)).run prog w=.ok (.bool (!x)) w:=fun _ _=>rfl
 go_enter_defers func309,ntmps309
 go_wp2_with (go_at_call 314;refine (lock_free ⟨b,17,none⟩ _ hm1 fm1).mono ?_;rintro e w' ⟨rfl,rfl⟩)
 refine (load_none ⟨b,16,none⟩ _ hd1').mono ?_
 rintro e w' ⟨rfl,rfl⟩
 go_wp2_with (go_at_call 298;refine hmake.mono ?_;rintro e w' ⟨v',r,H2,g2,rfl,⟨rfl,v2,rfl⟩,st2,kp,hv2⟩)
 have hidk:((H.set kid ⟨(keyO k 0 0 0 (List.replicate 27 0) 0 v).T,(keyO k 0 1 0 (List.replicate 27 0) 0 v).cs,(keyO k 0 0 0 (List.replicate 27 0) 0 v).ver+1⟩).set kid (keyO k 0 1 0 (spW k) 1 v2))[kid]? = some (keyO k 0 1 0 (spW k) 1 v2):=gS hid1
 have hι2:g2.ι[kid]? = some (some b):=kp.ι kid b hι
 obtain ⟨hinv,hstore⟩:=St.callD st2 (c207D hidk (keyO_at k hk 0 1 0 (spW k) 1 v2).1) (vs:=#[.pointer (some ⟨b,16,none⟩),.bool true]) .returning rfl (fun j c hj=>by
  match j,hj with
  | 0,hj=>cases hj;exact .ptr kid b 16 hι2
  | 1,hj=>cases hj;exact .bool true
  | j+2,hj=>simp at hj)
 show Leaves prog f309 _ _ _ .returning w'
 refine leaves_cons (f:=310) (args:=#[.pointer (some ⟨b,16,none⟩),.bool true]) (by simp) (by simp [invoke,hinv]) ?_
 refine hstore.mono ?_
 rintro e u' w3 ⟨rfl,v3,r3,H3,g3,rfl,⟨rfl,rfl⟩,st3,kp3⟩
 rw [keyO_set16 k hk] at st3
 have hid3:=gS (o':=⟨(keyO k 0 1 0 (spW k) 1 v2).T,(keyO k 1 1 0 (spW k) 1 v2).cs,(keyO k 0 1 0 (spW k) 1 v2).ver+1⟩) hidk
 have hι3:g3.ι[kid]? = some (some b):=kp3.ι kid b hι2
 obtain ⟨b5,q5,hm3,fm3,hset3⟩:=cell_at st3.rel.h ((V.ptr kid b 17 hι3).vc) hid3 (keyO_at k hk 1 1 0 (spW k) 1 v2).2
 cases q5
 have st4:St prog g w H g3 (w3.setCell ⟨b,17,none⟩ (.int .i32 0)) _:=hset3 0 _ _ _ st3
 rw [show setCells 17 [PV.int .i32 0] (PObj.mk (keyO k 0 1 0 (spW k) 1 v2).T (keyO k 1 1 0 (spW k) 1 v2).cs ((keyO k 0 1 0 (spW k) 1 v2).ver+1)).cs=(keyO k 1 0 0 (spW k) 1 v2).cs from keyO_set17 k hk 1 1 0 (spW k) 1 v2 0] at st4
 refine leaves_cons (f:=315) (args:=#[.pointer (some ⟨b,17,none⟩)]) (by simp [settle]) (by
  have:=run_callFunc_body (P:=prog) (vs:=#[.pointer (some ⟨b,17,none⟩)]) (w:=w3) func315 (by kernel_rfl) (by kernel_rfl)
  simp [invoke,this]) ?_
 refine (unlock_deferred ⟨b,17,none⟩ _ _ hm3 fm3).mono ?_
 rintro e u' w4 ⟨rfl,rfl,rfl⟩
 obtain ⟨f1,f2,f3,f4⟩:=st4.fin
 refine ⟨.tuple #[],results_none rfl _ _ _,.tuple #[],.tup [],_,g3,rfl,⟨rfl,v2+1+1,?_⟩,f1,f2,f3,f4⟩
 rw [List.set_set,List.set_set,List.set_set]
 rfl
set_option maxHeartbeats 1000000
theorem c313 {H:PH} {id off:Nat} {o:PObj} {n:Int} (ho:H[id]? = some o) (hc:o.cs[off]? = some (.int .u32 n)) :
  CK prog 313 [.ptr (some (id,off))] H fun r H'=>r=.int .u32 n∧H'=H :=
 callOk_load func313 (by kernel_rfl) (by kernel_rfl) (by kernel_rfl) .u32 (by kernel_rfl) ho hc
theorem c308 {H:PH} {id off:Nat} {o:PObj} {n:Int} (ho:H[id]? = some o) (hc:o.cs[off]? = some (.int .u32 n)) :
  CK prog 308 [.ptr (some (id,off))] H fun r H'=>r=.bool (!decide (n=0))∧H'=H:=by
 (refine fnS (imm:=imm308) ttO_ok func308 ?_;(conv=>whnf))
 refine cO (c313 ho hc) ?_
 rintro _ _ ⟨rfl,rfl⟩
 conv=>whnf
 refine ⟨fun h=>?_,fun h=>?_⟩
 ·conv=>whnf
  have h:n=0:=h
  exact ⟨congrArg PV.bool (by rw [decide_eq_true h];rfl),rfl⟩
 ·conv=>whnf
  have h:¬n=0:=h
  exact ⟨congrArg PV.bool (by rw [decide_eq_false h];rfl),rfl⟩
theorem c297a (k:List UInt8) (hk:k.length=16) (kid v:Nat) (H:PH) (hid:H[kid]? = some (keyO k 0 0 0 (List.replicate 27 0) 0 v)) :
  CK prog 297 [.ptr (some (kid,16)),.func 298 [.ptr (some (kid,0))] []] H fun r H'=>r=.tup []∧∃v',H'=H.set kid (keyO k 1 0 0 (spW k) 1 v'):=by
 (refine fnS (imm:=imm297) ttO_ok func297 ?_;(conv=>whnf))
 refine cO (c308 hid (keyO_at k hk 0 0 0 _ 0 v).1) ?_
 rintro _ _ ⟨rfl,rfl⟩
 conv=>whnf
 refine cO (c309 k hk kid v _ hid) ?_
 rintro _ _ ⟨rfl,v',rfl⟩
 conv=>whnf
 exact ⟨rfl,v',rfl⟩
theorem c297b (k:List UInt8) (hk:k.length=16) (kid v:Nat) (H:PH) (hid:H[kid]? = some (keyO k 1 0 0 (spW k) 1 v)) :
  CK prog 297 [.ptr (some (kid,16)),.func 298 [.ptr (some (kid,0))] []] H fun r H'=>r=.tup []∧∃v',H'=H.set kid (keyO k 1 0 0 (spW k) 1 v'):=by
 (refine fnS (imm:=imm297) ttO_ok func297 ?_;(conv=>whnf))
 refine cO (c308 hid (keyO_at k hk 1 0 0 _ 1 v).1) ?_
 rintro _ _ ⟨rfl,rfl⟩
 conv=>whnf
 exact ⟨rfl,v,(set_self hid).symm⟩
theorem wordsOk:WordsOk:=by
 intro k hk kid H h0
 have hlt:kid<H.length:=by
  rcases h0 with ⟨v,h⟩ | ⟨v,h⟩ <;> exact (List.getElem?_eq_some_iff.1 h).1
 have hc:CK prog 297 [.ptr (some (kid,16)),.func 298 [.ptr (some (kid,0))] []] H fun r H'=>r=.tup []∧∃v',H'=H.set kid (keyO k 1 0 0 (spW k) 1 v'):=by
  rcases h0 with ⟨v,h⟩ | ⟨v,h⟩
  ·exact c297a k hk kid v H h
  ·exact c297b k hk kid v H h
 (refine fnS (imm:=imm282) ttO_ok func282 ?_;(conv=>whnf))
 refine cO hc ?_
 rintro _ _ ⟨rfl,v',rfl⟩
 conv=>whnf
 refine ⟨by decide,fun _=>?_,fun h=>absurd (show (0:Int)<((27:Nat):Int) by decide) h⟩
 conv=>whnf
 exact ⟨rfl,v',rfl⟩
set_option maxHeartbeats 2000000
def imm185:List Nat:=[]
theorem byte_int (a b:UInt8):((a.toNat:Int)=(b.toNat:Int))↔a=b:=by
 constructor
 ·intro h
  have:a.toNat=b.toNat:=by omega
  exact UInt8.toNat_inj.1 this
 ·rintro rfl;rfl
theorem c185 (a b:List UInt8) (ha:a.length≤1000000):Pure prog 185 [sl a,sl b] (.bool (decide (a=b))):=by
 intro H
 (refine fnS (imm:=imm185) ttS_ok func185 ?_;(conv=>whnf))
 refine ⟨fun h=>?_,fun h=>?_⟩
 rotate_left
 ·conv=>whnf
  have h:¬(a.length:Int)=b.length:=h
  exact ⟨congrArg PV.bool (decide_eq_false fun e=>h (by rw [e])).symm,rfl⟩
 have h:(a.length:Int)=b.length:=h
 have hl:a.length=b.length:=by omega
 conv=>whnf
 refine lO Nat (fun i=>[(0,sl a),(1,sl b),(12,.int .i64 a.length),(13,.int .i64 i)]) (fun _=>H) (fun i=>i≤a.length∧a.take i=b.take i) (fun i=>a.length - i) ⟨0,⟨Nat.zero_le _,rfl⟩,⟨rfl,rfl,rfl,rfl,trivial⟩,rfl⟩ ?_
 rintro i ⟨hi,he⟩
 conv=>whnf
 refine ⟨fun h=>?_,fun h=>?_⟩
 ·have h:(i:Int)<a.length:=h
  have hia:i<a.length:=by omega
  have hib:i<b.length:=by omega
  conv=>whnf
  refine dP2 (by kernel_rfl) ?_
  conv=>whnf
  iterate 2 (refine dS ?_;(conv=>whnf))
  refine ⟨.elem [bC a[i]],⟨⟨by omega,h⟩,[bC a[i]],at1' (k:=(i:Int).toNat*1) (by rw [Int.toNat_natCast,Nat.mul_one,List.getElem?_map,List.getElem?_eq_getElem hia];rfl),rfl,rfl,trivial⟩,?_⟩
  conv=>whnf
  iterate 3 (refine dS ?_;(conv=>whnf))
  refine ⟨.elem [bC b[i]],⟨⟨by omega,by omega⟩,[bC b[i]],at1' (k:=(i:Int).toNat*1) (by rw [Int.toNat_natCast,Nat.mul_one,List.getElem?_map,List.getElem?_eq_getElem hib];rfl),rfl,rfl,trivial⟩,?_⟩
  conv=>whnf
  (refine dS ?_;(conv=>whnf))
  by_cases hq:a[i]=b[i]
  ·refine ⟨.bool false,?_,?_⟩
   ·conv=>whnf
    exact ⟨fun _=>⟨rfl,rfl,trivial⟩,fun h2=>absurd ((byte_int _ _).2 hq) h2⟩
   conv=>whnf
   refine ⟨i+1,⟨by omega,?_⟩,⟨rfl,rfl,rfl,?_,trivial⟩,rfl,by omega⟩
   ·rw [List.take_succ_eq_append_getElem hia,List.take_succ_eq_append_getElem hib,he,hq]
   ·show PV.int _ (IntKind.i64.wrap ((i:Int)+1))=PV.int _ _
    rw [w64 (by omega) (by omega)];simp
  ·refine ⟨.bool true,?_,?_⟩
   ·conv=>whnf
    exact ⟨fun h2=>absurd ((byte_int _ _).1 h2) hq,fun _=>⟨rfl,rfl,trivial⟩⟩
   conv=>whnf
   refine ⟨congrArg PV.bool (decide_eq_false fun e=>hq ?_).symm,rfl⟩
   subst e;rfl
 ·have h:¬(i:Int)<a.length:=h
  conv=>whnf
  refine ⟨congrArg PV.bool (decide_eq_true ?_).symm,rfl⟩
  rw [←List.take_of_length_le (l:=a) (i:=i) (by omega),he,List.take_of_length_le (by omega)]
def openB (sp:List UInt8) (u:Int) (b:List UInt8):Bool:=decide (16≤b.length)&&decide (b.length≤800)&&decide (beN (b.take 8)≤1099511627776)&&decide (tagV sp u (b.take (b.length - 8))=b.drop (b.length - 8))
theorem c123o (k:List UInt8) (hk:k.length=16) (so:PObj) (hso:KeySt k so) (sid:Nat) (u:Int) (hu:isUseB u=true) (b:List UInt8) (sp:List UInt8) (hsp:sp.length=16) (s o r:Int) (v bid:Nat) (H:PH)
  (hb:H[bid]? = some (boxS sid sp s o r v)) (hs:H[sid]? = some so) (hne:bid≠sid) (h16:16≤b.length) (h800:b.length≤800) :
  CK prog 123 [.ptr (some (bid,0)),.int .i64 u,sl b] H fun x H'=>match openB sp u b with
   | true=>x=.tup [sl (xorL ((b.take (b.length - 8)).drop 8) (streamV k (mixN (beN (b.take 8):Nat) u) (b.length - 16))),.int .i64 0]∧∃o',KeySt k o'∧H'=(H.set bid (boxS sid sp s (IntKind.i64.wrap (o+1)) r (v+1))).set sid o'
   | false=>x=.tup [ow [],.int .i64 3]∧H'=H.set bid (boxS sid sp s o (IntKind.i64.wrap (r+1)) (v+1)):=by
 have hc93r:CK prog 110 [.ptr (some (bid,0+19)),.int .i64 1] H fun x H'=>H'=H.set bid (boxS sid sp s o (IntKind.i64.wrap (r+1)) (v+1)):=by
  obtain ⟨k0,k1,k2,k3,k4,k5,k6,k7,k8,k9,ka,kb,kc,kd,ke,kf,rfl⟩:=len16 hsp
  exact (c110 (off:=19) (n:=r) 1 hb rfl).mono fun x H' hh=>hh.2
 have hc93o:CK prog 110 [.ptr (some (bid,0+18)),.int .i64 1] H fun x H'=>H'=H.set bid (boxS sid sp s (IntKind.i64.wrap (o+1)) r (v+1)):=by
  obtain ⟨k0,k1,k2,k3,k4,k5,k6,k7,k8,k9,ka,kb,kc,kd,ke,kf,rfl⟩:=len16 hsp
  exact (c110 (off:=18) (n:=o) 1 hb rfl).mono fun x H' hh=>hh.2
 have hw8:IntKind.i64.wrap ((b.length:Int) - 8)=((b.length - 8:Nat):Int):=by rw [w64 (by omega) (by omega)];omega
 have hfst:decide (16≤b.length)=true:=decide_eq_true h16
 have hsnd:decide (b.length≤800)=true:=decide_eq_true h800
 (refine fnS (imm:=imm123) ttS_ok func123 ?_;(conv=>whnf))
 refine cP (c171 u) ?_
 rw [hu]
 conv=>whnf
 refine ⟨fun _=>?_,fun h=>absurd (show (16:Int)≤b.length by omega) h⟩
 conv=>whnf
 refine ⟨fun _=>?_,fun h=>absurd (show (b.length:Int)≤800 by omega) h⟩
 conv=>whnf
 refine dP2 (by kernel_rfl) ?_
 conv=>whnf
 iterate 3 (refine dS ?_;(conv=>whnf))
 refine ⟨.int .i64 ((b.length - 8:Nat):Int),⟨congrArg (PV.int _) hw8,rfl,trivial⟩,?_⟩
 conv=>whnf
 refine ⟨sl ((b.take (b.length - 8)).drop 0),⟨⟨by omega,by omega,by omega⟩,sl_cut2 b 0 ((b.length - 8:Nat):Int) ⟨by omega,by omega,by omega⟩,rfl,trivial⟩,?_⟩
 conv=>whnf
 (refine dS ?_;(conv=>whnf))
 refine ⟨sl ((b.take 8).drop 0),⟨⟨by omega,by omega,by omega⟩,sl_cut2 b 0 8 ⟨by omega,by omega,by omega⟩,rfl,trivial⟩,?_⟩
 conv=>whnf
 refine ⟨_,cP (c184 ((b.take 8).drop 0) (by rw [List.length_drop,List.length_take];omega)) ⟨rfl,rfl,trivial⟩,?_⟩
 conv=>whnf
 iterate 2 (refine dS ?_;(conv=>whnf))
 refine dP2 (by kernel_rfl) ?_
 conv=>whnf
 (refine dS ?_;(conv=>whnf))
 have e0:(b.take (b.length - 8)).drop 0=b.take (b.length - 8):=rfl
 have hal:(b.take (b.length - 8)).length=b.length - 8:=by rw [List.length_take];omega
 have hpl:((b.take (b.length - 8)).drop 8).length=b.length - 16:=by rw [List.length_drop,hal];omega
 by_cases hn:beN (b.take 8)≤1099511627776
 ·refine ⟨.bool true,?_,?_⟩
  ·conv=>whnf
   exact ⟨fun _=>⟨rfl,rfl,trivial⟩,fun h=>absurd (show ((beN (b.take 8):Nat):Int)≤1099511627776 by omega) h⟩
  conv=>whnf
  iterate 4 (refine dS ?_;(conv=>whnf))
  refine ⟨_,cO (c174 sid sp hsp s o r v u (b.take (b.length - 8)) (by omega) bid H hb) (by rintro _ _ ⟨rfl,rfl⟩;exact ⟨rfl,rfl,trivial⟩),?_⟩
  conv=>whnf
  iterate 3 (refine dS ?_;(conv=>whnf))
  refine ⟨.int .i64 ((b.length - 8:Nat):Int),⟨congrArg (PV.int _) hw8,rfl,trivial⟩,?_⟩
  conv=>whnf
  refine ⟨sl ((b.take b.length).drop (b.length - 8)),⟨⟨by omega,by omega,by omega⟩,sl_cut2 b ((b.length - 8:Nat):Int) (b.length:Int) ⟨by omega,by omega,by omega⟩,rfl,trivial⟩,?_⟩
  conv=>whnf
  refine ⟨_,cP (c185 (tagV sp u (b.take (b.length - 8))) ((b.take b.length).drop (b.length - 8)) (by show 8≤_;omega)) ⟨rfl,rfl,trivial⟩,?_⟩
  rw [List.take_length]
  by_cases hq:tagV sp u (b.take (b.length - 8))=b.drop (b.length - 8)
  ·have hop:openB sp u b=true:=by unfold openB;rw [hfst,hsnd,decide_eq_true hn,decide_eq_true hq];rfl
   rw [decide_eq_true hq,hop]
   conv=>whnf
   (refine dS ?_;(conv=>whnf))
   refine cO hc93o ?_
   rintro x _ rfl
   have hb':(H.set bid (boxS sid sp s (IntKind.i64.wrap (o+1)) r (v+1)))[bid]? = some (boxS sid sp s (IntKind.i64.wrap (o+1)) r (v+1)):=gS hb
   have hs':(H.set bid (boxS sid sp s (IntKind.i64.wrap (o+1)) r (v+1)))[sid]? = some so:=by rw [List.getElem?_set_ne hne];exact hs
   conv=>whnf
   refine ⟨⟨by decide,by show (8:Int)≤((b.take (b.length - 8)).length:Int);omega,by omega⟩,?_⟩
   conv=>whnf
   have ec:=sl_cut2 (b.take (b.length - 8)) 8 ((b.take (b.length - 8)).length:Int) ⟨by omega,by omega,by omega⟩
   rw [Int.toNat_natCast,List.take_length] at ec
   refine cA (args':=[.ptr (some (bid,0)),.int .i64 u,.int .u64 (beN (b.take 8):Nat),sl ((b.take (b.length - 8)).drop 8)]) ?_ (cO (c173 (KeySt k) (fun o' h=>h.flat) so sid (beN (b.take 8):Nat) u ((b.take (b.length - 8)).drop 8) (streamV k (mixN (beN (b.take 8):Nat) u) (b.length - 16)) (by rw [streamV_len,hpl]) (by omega) (fun H hs=>by
    rw [hpl]
    exact c225 wordsOk k hk sid _ (b.length - 16) (by omega) so hso H hs) sp hsp s (IntKind.i64.wrap (o+1)) r (v+1) bid _ hb' hs') ?_)
   ·exact congrArg (fun z=>[PV.ptr (some (bid,0)),PV.int .i64 u,PV.int .u64 (beN (b.take 8):Nat),z]) ec
   rintro _ _ ⟨rfl,o',ho',rfl⟩
   conv=>whnf
   exact ⟨rfl,o',ho',rfl⟩
  ·have hop:openB sp u b=false:=by unfold openB;rw [decide_eq_false hq,Bool.and_false]
   rw [decide_eq_false hq,hop]
   conv=>whnf
   (refine dS ?_;(conv=>whnf))
   refine cO hc93r ?_
   rintro x _ rfl
   conv=>whnf
   exact ⟨rfl,rfl⟩
 ·have hop:openB sp u b=false:=by unfold openB;rw [decide_eq_false hn,Bool.and_false,Bool.false_and]
  rw [hop]
  refine ⟨.bool false,?_,?_⟩
  ·conv=>whnf
   exact ⟨fun h=>absurd (show ((beN (b.take 8):Nat):Int)≤1099511627776 from h) (by omega),fun _=>⟨rfl,rfl,trivial⟩⟩
  conv=>whnf
  iterate 12 (refine dS ?_;(conv=>whnf))
  refine cO hc93r ?_
  rintro x _ rfl
  conv=>whnf
  exact ⟨rfl,rfl⟩
def ttQ3:TT:=[(3,⟨.int .i64,1,8,[.int .i64 0]⟩),(5,⟨.int .u8,1,1,[.int .u8 0]⟩),(26,⟨.slice 5,1,24,[.slice 0 [] (some 5)]⟩),(221,⟨.arr 16 5,16,16,List.replicate 16 (.int .u8 0)⟩),(142,⟨.int .u64,1,8,[.int .u64 0]⟩),(155,⟨.int .u64,1,8,[.int .u64 0]⟩),(275,⟨.ptr,1,8,[.ptr none]⟩),(277,⟨.arr 4 142,4,32,[.int .u64 0,.int .u64 0,.int .u64 0,.int .u64 0]⟩)]
theorem ttQ3_ok:ttOk prog ttQ3=true:=by kernel_rfl
def imm227:List Nat:=[]
def imm178:List Nat:=[]
def imm177:List Nat:=[]
def imm176:List Nat:=[]
def imm113:List Nat:=[2]
def rotR (x n:Int):Int:=ibits .or .u64 (ishl .u64 x n) (ishr .u64 x (IntKind.u64.wrap (64 - n)))
theorem c227 (x n:Int) (hn:0≤n):Pure prog 227 [.int .u64 x,.int .u64 n] (.int .u64 (rotR x n)):=by
 intro H
 (refine fnS (imm:=imm227) ttQ3_ok func227 ?_;(conv=>whnf))
 refine ⟨hn,?_⟩
 conv=>whnf
 refine ⟨u64_nonneg _,?_⟩
 conv=>whnf
 exact ⟨rfl,rfl⟩
theorem rot13 (x:Int):rotR x 13=rotC x 13:=by unfold rotC;rw [show rotS 13=13 by decide];rfl
theorem rot32' (x:Int):rotR x 32=rotC x 32:=by unfold rotC;rw [show rotS 32=32 by decide];rfl
theorem rot16 (x:Int):rotR x 16=rotC x 16:=by unfold rotC;rw [show rotS 16=16 by decide];rfl
theorem rot21 (x:Int):rotR x 21=rotC x 21:=by unfold rotC;rw [show rotS 21=21 by decide];rfl
theorem rot17 (x:Int):rotR x 17=rotC x 17:=by unfold rotC;rw [show rotS 17=17 by decide];rfl
def S4.Q (s:S4) (v:Nat):PObj:=⟨277,[.int .u64 s.a,.int .u64 s.b,.int .u64 s.c,.int .u64 s.d],v⟩
theorem S4.lookQ (s:S4) (v:Nat) {id:Nat} {H:PH} {o:PObj} (h:H[id]? = some o):(H.set id (s.Q v))[id]? = some ⟨277,[.int .u64 s.a,.int .u64 s.b,.int .u64 s.c,.int .u64 s.d],v⟩:=gS h
def D178_0:Draw:={ imp:=[12],win:=[] }
def D178_1:Draw:={ imp:=[13],win:=[] }
def D178_2:Draw:={ imp:=[8],win:=[] }
def D178_3:Draw:={ imp:=[12],win:=[] }
def D178_4:Draw:={ imp:=[13],win:=[] }
def D178_5:Draw:={ imp:=[12],win:=[] }
def D178_6:Draw:={ imp:=[13],win:=[] }
def D178_7:Draw:={ imp:=[12],win:=[] }
def D178_8:Draw:={ imp:=[13],win:=[] }
def D178_9:Draw:={ imp:=[8],win:=[] }
theorem c178 (z0:S4) (id w:Nat) (H:PH) (hid:H[id]? = some (z0.Q w)) :
  CK prog 178 [.ptr (some (id,0))] H fun r H'=>r=.tup []∧∃v',H'=H.set id (z0.rnd.Q v'):=by
 (refine fnS (imm:=imm178) ttQ3_ok func178 ?_;(conv=>whnf))
 refine dO2 D178_0 [H,H.set id (z0.s0.Q (w+1))] (by kernel_rfl) rfl trivial ?_
 conv=>whnf
 iterate 4 (refine dS ?_;(conv=>whnf))
 apply Exists.intro
 apply And.intro
 ·conv=>whnf
  ((conv in (_[_]?)=>tactic=>exact (show H[id]? = some ⟨277,[.int .u64 z0.a,.int .u64 z0.b,.int .u64 z0.c,.int .u64 z0.d],w⟩ from hid));(conv=>whnf))
  exact ⟨rfl,rfl,trivial⟩
 conv=>whnf
 iterate 3 (refine dS ?_;(conv=>whnf))
 apply Exists.intro
 apply And.intro
 ·conv=>whnf
  ((conv in (_[_]?)=>tactic=>exact (show H[id]? = some ⟨277,[.int .u64 z0.a,.int .u64 z0.b,.int .u64 z0.c,.int .u64 z0.d],w⟩ from hid));(conv=>whnf))
  exact ⟨rfl,rfl,trivial⟩
 conv=>whnf
 iterate 3 (refine dS ?_;(conv=>whnf))
 apply Exists.intro
 apply And.intro
 ·conv=>whnf
  ((conv in (_[_]?)=>tactic=>exact (show H[id]? = some ⟨277,[.int .u64 z0.a,.int .u64 z0.b,.int .u64 z0.c,.int .u64 z0.d],w⟩ from hid));(conv=>whnf))
  exact ⟨rfl,rfl,trivial⟩
 conv=>whnf
 generalize hs1:S4.s0 z0=z1
 refine dO2 D178_1 [H.set id (z1.Q (w+1)),H.set id (z1.s1.Q (w+2))] (by kernel_rfl) rfl trivial ?_
 conv=>whnf
 iterate 4 (refine dS ?_;(conv=>whnf))
 apply Exists.intro
 apply And.intro
 ·conv=>whnf
  ((conv in (_[_]?)=>tactic=>exact (z1.lookQ (w+1) hid));(conv=>whnf))
  exact ⟨rfl,rfl,trivial⟩
 conv=>whnf
 refine ⟨_,cP ((c227 _ 13 (by decide)).of_eq (congrArg _ (rot13 _))) ⟨rfl,rfl,trivial⟩,?_⟩
 conv=>whnf
 iterate 3 (refine dS ?_;(conv=>whnf))
 apply Exists.intro
 apply And.intro
 ·conv=>whnf
  ((conv in (_[_]?)=>tactic=>exact (z1.lookQ (w+1) hid));(conv=>whnf))
  exact ⟨rfl,rfl,trivial⟩
 conv=>whnf
 iterate 3 (refine dS ?_;(conv=>whnf))
 apply Exists.intro
 apply And.intro
 ·conv=>whnf
  ((conv in (_[_]?)=>tactic=>exact (z1.lookQ (w+1) hid));(conv=>whnf))
  exact ⟨rfl,List.set_set ..,trivial⟩
 conv=>whnf
 generalize hs2:S4.s1 z1=z2
 refine dO2 D178_2 [H.set id (z2.Q (w+2)),H.set id (z2.s2.Q (w+3))] (by kernel_rfl) rfl trivial ?_
 conv=>whnf
 iterate 4 (refine dS ?_;(conv=>whnf))
 apply Exists.intro
 apply And.intro
 ·conv=>whnf
  ((conv in (_[_]?)=>tactic=>exact (z2.lookQ (w+2) hid));(conv=>whnf))
  exact ⟨rfl,rfl,trivial⟩
 conv=>whnf
 refine ⟨_,cP ((c227 _ 32 (by decide)).of_eq (congrArg _ (rot32' _))) ⟨rfl,rfl,trivial⟩,?_⟩
 conv=>whnf
 iterate 2 (refine dS ?_;(conv=>whnf))
 apply Exists.intro
 apply And.intro
 ·conv=>whnf
  ((conv in (_[_]?)=>tactic=>exact (z2.lookQ (w+2) hid));(conv=>whnf))
  exact ⟨rfl,List.set_set ..,trivial⟩
 conv=>whnf
 generalize hs3:S4.s2 z2=z3
 refine dO2 D178_3 [H.set id (z3.Q (w+3)),H.set id (z3.s3.Q (w+4))] (by kernel_rfl) rfl trivial ?_
 conv=>whnf
 iterate 4 (refine dS ?_;(conv=>whnf))
 apply Exists.intro
 apply And.intro
 ·conv=>whnf
  ((conv in (_[_]?)=>tactic=>exact (z3.lookQ (w+3) hid));(conv=>whnf))
  exact ⟨rfl,rfl,trivial⟩
 conv=>whnf
 iterate 3 (refine dS ?_;(conv=>whnf))
 apply Exists.intro
 apply And.intro
 ·conv=>whnf
  ((conv in (_[_]?)=>tactic=>exact (z3.lookQ (w+3) hid));(conv=>whnf))
  exact ⟨rfl,rfl,trivial⟩
 conv=>whnf
 iterate 3 (refine dS ?_;(conv=>whnf))
 apply Exists.intro
 apply And.intro
 ·conv=>whnf
  ((conv in (_[_]?)=>tactic=>exact (z3.lookQ (w+3) hid));(conv=>whnf))
  exact ⟨rfl,List.set_set ..,trivial⟩
 conv=>whnf
 generalize hs4:S4.s3 z3=z4
 refine dO2 D178_4 [H.set id (z4.Q (w+4)),H.set id (z4.s4.Q (w+5))] (by kernel_rfl) rfl trivial ?_
 conv=>whnf
 iterate 4 (refine dS ?_;(conv=>whnf))
 apply Exists.intro
 apply And.intro
 ·conv=>whnf
  ((conv in (_[_]?)=>tactic=>exact (z4.lookQ (w+4) hid));(conv=>whnf))
  exact ⟨rfl,rfl,trivial⟩
 conv=>whnf
 refine ⟨_,cP ((c227 _ 16 (by decide)).of_eq (congrArg _ (rot16 _))) ⟨rfl,rfl,trivial⟩,?_⟩
 conv=>whnf
 iterate 3 (refine dS ?_;(conv=>whnf))
 apply Exists.intro
 apply And.intro
 ·conv=>whnf
  ((conv in (_[_]?)=>tactic=>exact (z4.lookQ (w+4) hid));(conv=>whnf))
  exact ⟨rfl,rfl,trivial⟩
 conv=>whnf
 iterate 3 (refine dS ?_;(conv=>whnf))
 apply Exists.intro
 apply And.intro
 ·conv=>whnf
  ((conv in (_[_]?)=>tactic=>exact (z4.lookQ (w+4) hid));(conv=>whnf))
  exact ⟨rfl,List.set_set ..,trivial⟩
 conv=>whnf
 generalize hs5:S4.s4 z4=z5
 refine dO2 D178_5 [H.set id (z5.Q (w+5)),H.set id (z5.s5.Q (w+6))] (by kernel_rfl) rfl trivial ?_
 conv=>whnf
 iterate 4 (refine dS ?_;(conv=>whnf))
 apply Exists.intro
 apply And.intro
 ·conv=>whnf
  ((conv in (_[_]?)=>tactic=>exact (z5.lookQ (w+5) hid));(conv=>whnf))
  exact ⟨rfl,rfl,trivial⟩
 conv=>whnf
 iterate 3 (refine dS ?_;(conv=>whnf))
 apply Exists.intro
 apply And.intro
 ·conv=>whnf
  ((conv in (_[_]?)=>tactic=>exact (z5.lookQ (w+5) hid));(conv=>whnf))
  exact ⟨rfl,rfl,trivial⟩
 conv=>whnf
 iterate 3 (refine dS ?_;(conv=>whnf))
 apply Exists.intro
 apply And.intro
 ·conv=>whnf
  ((conv in (_[_]?)=>tactic=>exact (z5.lookQ (w+5) hid));(conv=>whnf))
  exact ⟨rfl,List.set_set ..,trivial⟩
 conv=>whnf
 generalize hs6:S4.s5 z5=z6
 refine dO2 D178_6 [H.set id (z6.Q (w+6)),H.set id (z6.s6.Q (w+7))] (by kernel_rfl) rfl trivial ?_
 conv=>whnf
 iterate 4 (refine dS ?_;(conv=>whnf))
 apply Exists.intro
 apply And.intro
 ·conv=>whnf
  ((conv in (_[_]?)=>tactic=>exact (z6.lookQ (w+6) hid));(conv=>whnf))
  exact ⟨rfl,rfl,trivial⟩
 conv=>whnf
 refine ⟨_,cP ((c227 _ 21 (by decide)).of_eq (congrArg _ (rot21 _))) ⟨rfl,rfl,trivial⟩,?_⟩
 conv=>whnf
 iterate 3 (refine dS ?_;(conv=>whnf))
 apply Exists.intro
 apply And.intro
 ·conv=>whnf
  ((conv in (_[_]?)=>tactic=>exact (z6.lookQ (w+6) hid));(conv=>whnf))
  exact ⟨rfl,rfl,trivial⟩
 conv=>whnf
 iterate 3 (refine dS ?_;(conv=>whnf))
 apply Exists.intro
 apply And.intro
 ·conv=>whnf
  ((conv in (_[_]?)=>tactic=>exact (z6.lookQ (w+6) hid));(conv=>whnf))
  exact ⟨rfl,List.set_set ..,trivial⟩
 conv=>whnf
 generalize hs7:S4.s6 z6=z7
 refine dO2 D178_7 [H.set id (z7.Q (w+7)),H.set id (z7.s7.Q (w+8))] (by kernel_rfl) rfl trivial ?_
 conv=>whnf
 iterate 4 (refine dS ?_;(conv=>whnf))
 apply Exists.intro
 apply And.intro
 ·conv=>whnf
  ((conv in (_[_]?)=>tactic=>exact (z7.lookQ (w+7) hid));(conv=>whnf))
  exact ⟨rfl,rfl,trivial⟩
 conv=>whnf
 iterate 3 (refine dS ?_;(conv=>whnf))
 apply Exists.intro
 apply And.intro
 ·conv=>whnf
  ((conv in (_[_]?)=>tactic=>exact (z7.lookQ (w+7) hid));(conv=>whnf))
  exact ⟨rfl,rfl,trivial⟩
 conv=>whnf
 iterate 3 (refine dS ?_;(conv=>whnf))
 apply Exists.intro
 apply And.intro
 ·conv=>whnf
  ((conv in (_[_]?)=>tactic=>exact (z7.lookQ (w+7) hid));(conv=>whnf))
  exact ⟨rfl,List.set_set ..,trivial⟩
 conv=>whnf
 generalize hs8:S4.s7 z7=z8
 refine dO2 D178_8 [H.set id (z8.Q (w+8)),H.set id (z8.s8.Q (w+9))] (by kernel_rfl) rfl trivial ?_
 conv=>whnf
 iterate 4 (refine dS ?_;(conv=>whnf))
 apply Exists.intro
 apply And.intro
 ·conv=>whnf
  ((conv in (_[_]?)=>tactic=>exact (z8.lookQ (w+8) hid));(conv=>whnf))
  exact ⟨rfl,rfl,trivial⟩
 conv=>whnf
 refine ⟨_,cP ((c227 _ 17 (by decide)).of_eq (congrArg _ (rot17 _))) ⟨rfl,rfl,trivial⟩,?_⟩
 conv=>whnf
 iterate 3 (refine dS ?_;(conv=>whnf))
 apply Exists.intro
 apply And.intro
 ·conv=>whnf
  ((conv in (_[_]?)=>tactic=>exact (z8.lookQ (w+8) hid));(conv=>whnf))
  exact ⟨rfl,rfl,trivial⟩
 conv=>whnf
 iterate 3 (refine dS ?_;(conv=>whnf))
 apply Exists.intro
 apply And.intro
 ·conv=>whnf
  ((conv in (_[_]?)=>tactic=>exact (z8.lookQ (w+8) hid));(conv=>whnf))
  exact ⟨rfl,List.set_set ..,trivial⟩
 conv=>whnf
 generalize hs9:S4.s8 z8=z9
 refine dO2 D178_9 [H.set id (z9.Q (w+9)),H.set id (z9.s9.Q (w+10))] (by kernel_rfl) rfl trivial ?_
 conv=>whnf
 iterate 4 (refine dS ?_;(conv=>whnf))
 apply Exists.intro
 apply And.intro
 ·conv=>whnf
  ((conv in (_[_]?)=>tactic=>exact (z9.lookQ (w+9) hid));(conv=>whnf))
  exact ⟨rfl,rfl,trivial⟩
 conv=>whnf
 refine ⟨_,cP ((c227 _ 32 (by decide)).of_eq (congrArg _ (rot32' _))) ⟨rfl,rfl,trivial⟩,?_⟩
 conv=>whnf
 iterate 2 (refine dS ?_;(conv=>whnf))
 apply Exists.intro
 apply And.intro
 ·conv=>whnf
  ((conv in (_[_]?)=>tactic=>exact (z9.lookQ (w+9) hid));(conv=>whnf))
  exact ⟨rfl,List.set_set ..,trivial⟩
 conv=>whnf
 refine ⟨rfl,w+10,?_⟩
 subst hs1 hs2 hs3 hs4 hs5 hs6 hs7 hs8 hs9
 rfl
def D177:Draw:={ imp:=[9],win:=[] }
theorem c177 (s:S4) (m:Int) (id v:Nat) (H:PH) (hid:H[id]? = some (s.Q v)) :
  CK prog 177 [.ptr (some (id,0)),.int .u64 m] H fun r H'=>r=.tup []∧∃v',H'=H.set id ((s.takes m).Q v'):=by
 (refine fnS (imm:=imm177) ttQ3_ok func177 ?_;(conv=>whnf))
 refine dO2 D177 [H,H.set id (S4.Q { s with d:=xorW s.d m } (v+1))] (by kernel_rfl) rfl trivial ?_
 have g0:H[id]? = some ⟨277,[.int .u64 s.a,.int .u64 s.b,.int .u64 s.c,.int .u64 s.d],v⟩:=hid
 conv=>whnf
 iterate 4 (refine dS ?_;(conv=>whnf))
 apply Exists.intro
 apply And.intro
 ·conv=>whnf
  ((conv in (_[_]?)=>tactic=>exact g0);(conv=>whnf))
  exact ⟨rfl,rfl,trivial⟩
 conv=>whnf
 iterate 4 (refine dS ?_;(conv=>whnf))
 apply Exists.intro
 apply And.intro
 ·conv=>whnf
  ((conv in (_[_]?)=>tactic=>exact g0);(conv=>whnf))
  exact ⟨rfl,rfl,trivial⟩
 conv=>whnf
 refine cO (Q:=fun r H'=>r=.tup []∧∃v',H'=H.set id ((S4.rnds 1 { s with d:=xorW s.d m }).Q v')) ((c178 { s with d:=xorW s.d m } id (v+1) (H.set id _) (gS hid)).mono fun r H' hh=>?_) ?_
 ·obtain ⟨h1,v',h2⟩:=hh
  exact ⟨h1,v',by rw [h2,List.set_set];rfl⟩
 rintro _ _ ⟨rfl,v1,rfl⟩
 conv=>whnf
 refine cO (Q:=fun r H'=>r=.tup []∧∃v',H'=H.set id ((S4.rnds 2 { s with d:=xorW s.d m }).Q v')) ((c178 (S4.rnds 1 { s with d:=xorW s.d m }) id v1 (H.set id _) (gS hid)).mono fun r H' hh=>?_) ?_
 ·obtain ⟨h1,v',h2⟩:=hh
  exact ⟨h1,v',by rw [h2,List.set_set];rfl⟩
 rintro _ _ ⟨rfl,v',rfl⟩
 conv=>whnf
 generalize hs:S4.rnds 2 { s with d:=xorW s.d m }=z
 refine dO2 D177 [H.set id (z.Q v'),H.set id (S4.Q { z with a:=xorW z.a m } (v'+1))] (by kernel_rfl) rfl trivial ?_
 conv=>whnf
 iterate 4 (refine dS ?_;(conv=>whnf))
 apply Exists.intro
 apply And.intro
 ·conv=>whnf
  ((conv in (_[_]?)=>tactic=>exact (z.lookQ v' hid));(conv=>whnf))
  exact ⟨rfl,rfl,trivial⟩
 conv=>whnf
 iterate 4 (refine dS ?_;(conv=>whnf))
 apply Exists.intro
 apply And.intro
 ·conv=>whnf
  ((conv in (_[_]?)=>tactic=>exact (z.lookQ v' hid));(conv=>whnf))
  exact ⟨rfl,List.set_set ..,trivial⟩
 conv=>whnf
 refine ⟨rfl,v'+1,?_⟩
 subst hs
 rfl
theorem le_step2 (l:List UInt8) (c:UInt8) (h:l.length<8):ibits .or .u64 (ishl .u64 (leN l:Nat) 8) (IntKind.u64.wrap c.toNat)=((leN (c::l):Nat):Int):=by
 have hc:=c.toNat_lt
 have h1:=leN_lt l
 rw [pow8] at h1
 have h3:2 ^ (8*(l.length+1))≤18446744073709551616:=pow_le8 (by omega)
 have h4:2 ^ (8*(l.length+1))=256*2 ^ (8*l.length):=by rw [Nat.mul_add,Nat.pow_add];omega
 have h5:leN l*256<18446744073709551616:=by omega
 have e:ishl .u64 (leN l:Nat) 8=((leN l*256:Nat):Int):=by
  show IntKind.u64.wrap ((leN l:Int)*2 ^ (min (8:Int).toNat 64))=_
  have:((leN l:Int)*2 ^ (min (8:Int).toNat 64))=((leN l*256:Nat):Int):=by push_cast;rfl
  rw [this]
  exact wrapU64 h5
 rw [e,wrapU64 (by omega),or_u64 h5 (by omega),show leN l*256=2 ^ 8*leN l by omega,←Nat.two_pow_add_eq_or_of_lt (by omega:c.toNat<2 ^ 8)]
 congr 1
 show _=c.toNat+256*leN l
 omega
theorem c176 (b:List UInt8) (hb:b.length≤8):Pure prog 176 [sl b] (.int .u64 (leN b)):=by
 intro H
 (refine fnS (imm:=imm176) ttQ3_ok func176 ?_;(conv=>whnf))
 refine lO Nat (fun k=>[(0,sl b),(4,.int .i64 ((k:Int) - 1)),(3,.int .u64 (leN (b.drop k)))]) (fun _=>H) (fun k=>k≤b.length) (fun k=>k) ⟨b.length,Nat.le_refl _,⟨rfl,?_,?_,trivial⟩,rfl⟩ ?_
 ·show PV.int _ (IntKind.i64.wrap ((b.length:Int) - 1))=_
  rw [w64 (by omega) (by omega)]
 ·rw [List.drop_length];rfl
 intro k hk
 conv=>whnf
 refine ⟨fun h=>?_,fun h=>?_⟩
 ·have h:(0:Int)≤(k:Int) - 1:=h
  have hi:k - 1<b.length:=by omega
  conv=>whnf
  refine ⟨by decide,?_⟩
  conv=>whnf
  refine ⟨⟨h,by show (k:Int) - 1<(b.length:Int);omega⟩,[bC b[k - 1]],at1' (k:=((k:Int) - 1).toNat*1) (by rw [show ((k:Int) - 1).toNat*1=k - 1 by omega,List.getElem?_map,List.getElem?_eq_getElem hi];rfl),?_⟩
  conv=>whnf
  refine ⟨k - 1,by omega,⟨rfl,?_,?_,trivial⟩,rfl,by omega⟩
  ·show PV.int _ (IntKind.i64.wrap ((k:Int) - 1 - 1))=PV.int _ _
   rw [w64 (by omega) (by omega)]
   congr 1;omega
  ·show PV.int _ (ibits .or .u64 (ishl .u64 (leN (b.drop k):Nat) 8) (IntKind.u64.wrap (b[k - 1].toNat:Int)))=PV.int _ _
   have e:b.drop (k - 1)=b[k - 1]::b.drop k:=by
    rw [List.drop_eq_getElem_cons hi,show k - 1+1=k by omega]
   rw [e,le_step2 _ _ (by rw [List.length_drop];omega)]
 ·have h:¬(0:Int)≤(k:Int) - 1:=h
  have e:k=0:=by omega
  subst e
  conv=>whnf
  exact ⟨rfl,rfl⟩
theorem or_comm64 (x y:Int):ibits .or .u64 x y=ibits .or .u64 y x:=by
 show IntKind.u64.wrap _=IntKind.u64.wrap _
 rw [BitVec.or_comm]
theorem and255 (n:Nat) (h:n≤1099511627776):ibits .and .i64 (n:Int) 255=IntKind.u8.wrap (n:Int):=by
 show IntKind.i64.wrap ((BitVec.ofInt 64 (n:Int) &&& BitVec.ofInt 64 255).toNat:Int)=(n:Int) % (2 ^ IntKind.u8.bits:Int)
 have e:(2 ^ IntKind.u8.bits:Int)=256:=by decide
 have h1:(BitVec.ofInt 64 (n:Int)).toNat=n:=by rw [BitVec.toNat_ofInt];omega
 have h2:(BitVec.ofInt 64 255).toNat=2 ^ 8 - 1:=by decide
 rw [e,BitVec.toNat_and,h1,h2,Nat.and_two_pow_sub_one_eq_mod,w64 (by omega) (by omega)]
 omega
def D113_8:Draw:={ imp:=[8],win:=[] }
theorem c113x (k:List UInt8) (hk:k.length=16) (p:List UInt8) (hp:p.length≤1000000) (H:PH) :
  CK prog 113 [.agg (k.map bC),sl p] H fun r H'=>r=.int .u64 (sipV k p)∧∃ext,H'=H++ext:=by
 obtain ⟨k0,k1,k2,k3,k4,k5,k6,k7,k8,k9,ka,kb,kc,kd,ke,kf,rfl⟩:=len16 hk
 have hk2:sipI [k0,k1,k2,k3,k4,k5,k6,k7,k8,k9,ka,kb,kc,kd,ke,kf]=⟨xorW 8317987319222330741 (leN [k0,k1,k2,k3,k4,k5,k6,k7]:Nat),xorW 7237128888997146477 (leN [k8,k9,ka,kb,kc,kd,ke,kf]:Nat),xorW 7816392313619706465 (leN [k0,k1,k2,k3,k4,k5,k6,k7]:Nat),xorW 8387220255154660723 (leN [k8,k9,ka,kb,kc,kd,ke,kf]:Nat)⟩:=rfl
 unfold sipV
 generalize hs0:sipI [k0,k1,k2,k3,k4,k5,k6,k7,k8,k9,ka,kb,kc,kd,ke,kf]=s0
 rw [hk2] at hs0
 (refine fnS (imm:=imm113) ttQ3_ok func113 ?_;(conv=>whnf))
 refine dP2 (by kernel_rfl) ?_
 conv=>whnf
 (refine dS ?_;(conv=>whnf))
 refine ⟨_,cA rfl (cP (c176 [k0,k1,k2,k3,k4,k5,k6,k7] (by simp)) ⟨rfl,rfl,trivial⟩),?_⟩
 conv=>whnf
 (refine dS ?_;(conv=>whnf))
 refine ⟨_,cA rfl (cP (c176 [k8,k9,ka,kb,kc,kd,ke,kf] (by simp)) ⟨rfl,rfl,trivial⟩),?_⟩
 conv=>whnf
 iterate 2 (refine dS ?_;(conv=>whnf))
 have hO:(PObj.mk 277 [.int .u64 (ibits .xor .u64 8317987319222330741 (leN [k0,k1,k2,k3,k4,k5,k6,k7]:Nat)),.int .u64 (ibits .xor .u64 7237128888997146477 (leN [k8,k9,ka,kb,kc,kd,ke,kf]:Nat)),.int .u64 (ibits .xor .u64 7816392313619706465 (leN [k0,k1,k2,k3,k4,k5,k6,k7]:Nat)),.int .u64 (ibits .xor .u64 8387220255154660723 (leN [k8,k9,ka,kb,kc,kd,ke,kf]:Nat))] 0)=s0.Q 0:=by subst hs0;rfl
 refine lO SipS (fun x=>[(1,sl p),(7,.ptr (some (H.length,0))),(8,.int .i64 ((8*x.i:Nat):Int))]) (fun x=>H++[(sipN s0 p x.i).Q x.v]) (fun x=>x.i≤p.length / 8) (fun x=>p.length / 8 - x.i) ⟨⟨0,0⟩,Nat.zero_le _,⟨rfl,rfl,rfl,trivial⟩,congrArg (fun o=>H++[o]) hO⟩ ?_
 rintro ⟨i,v⟩ hi
 replace hi:i≤p.length / 8:=hi
 have hl:(p.drop (8*i)).length=p.length - 8*i:=List.length_drop
 have hsub:IntKind.i64.wrap ((p.length:Int) - ((8*i:Nat):Int))=(p.length:Int) - ((8*i:Nat):Int):=w64 (by omega) (by omega)
 have hadd:IntKind.i64.wrap (((8*i:Nat):Int)+8)=((8*i+8:Nat):Int):=by rw [w64 (by omega) (by omega)];omega
 conv=>whnf
 refine ⟨fun h=>?_,fun h=>?_⟩
 ·have h:(8:Int)≤IntKind.i64.wrap ((p.length:Int) - ((8*i:Nat):Int)):=h
  rw [hsub] at h
  conv=>whnf
  refine ⟨⟨by show (0:Int)≤((8*i:Nat):Int);omega,by show ((8*i:Nat):Int)≤IntKind.i64.wrap (((8*i:Nat):Int)+8);rw [hadd];omega,by show IntKind.i64.wrap (((8*i:Nat):Int)+8)≤(p.length:Int);rw [hadd];omega⟩,?_⟩
  conv=>whnf
  have ecut:(p.take (8*i+8)).drop (8*i)=(p.drop (8*i)).take 8:=by
   rw [List.drop_take,show 8*i+8 - 8*i=8 by omega]
  refine cA (args':=[sl ((p.drop (8*i)).take 8)]) ?_ (cP (c176 ((p.drop (8*i)).take 8) (by rw [List.length_take];omega)) ?_)
  ·refine congrArg (fun z=>[z]) ?_
   have e:=sl_cut2 p ((8*i:Nat):Int) ((8*i+8:Nat):Int) ⟨by omega,by omega,by omega⟩
   rw [Int.toNat_natCast,Int.toNat_natCast,ecut] at e
   show PV.slice ((IntKind.i64.wrap (((8*i:Nat):Int)+8)).toNat - ((8*i:Nat):Int).toNat) (((p.map bC).take ((IntKind.i64.wrap (((8*i:Nat):Int)+8)).toNat*1)).drop (((8*i:Nat):Int).toNat*1)) none=_
   rw [hadd,Int.toNat_natCast,Int.toNat_natCast]
   exact e
  conv=>whnf
  refine cO (Q:=fun r H'=>r=.tup []∧∃v',H'=H++[(sipN s0 p (i+1)).Q v']) ((c177 (sipN s0 p i) (leN ((p.drop (8*i)).take 8):Nat) H.length v _ (gL H _)).mono fun r H' hh=>?_) ?_
  ·obtain ⟨h1,v',h2⟩:=hh
   exact ⟨h1,v',by rw [h2,sL];rfl⟩
  rintro _ _ ⟨rfl,v',rfl⟩
  conv=>whnf
  refine ⟨⟨i+1,v'⟩,by show i+1≤p.length / 8;omega,⟨rfl,rfl,?_,trivial⟩,rfl,by show p.length / 8 - (i+1)<p.length / 8 - i;omega⟩
  show PV.int _ (IntKind.i64.wrap (((8*i:Nat):Int)+8))=PV.int _ ((8*(i+1):Nat):Int)
  rw [hadd];rfl
 ·have h:¬(8:Int)≤IntKind.i64.wrap ((p.length:Int) - ((8*i:Nat):Int)):=h
  rw [hsub] at h
  have hi2:i=p.length / 8:=by omega
  rw [←hi2]
  conv=>whnf
  refine ⟨⟨by show (0:Int)≤((8*i:Nat):Int);omega,by show ((8*i:Nat):Int)≤(p.length:Int);omega,by omega⟩,?_⟩
  conv=>whnf
  have hcut:=sl_cut2 p ((8*i:Nat):Int) (p.length:Int) ⟨by omega,by omega,by omega⟩
  rw [Int.toNat_natCast,Int.toNat_natCast,List.take_length] at hcut
  refine cA (args':=[sl (p.drop (8*i))]) (congrArg (fun z=>[z]) hcut) (cP (c176 (p.drop (8*i)) (by omega)) ?_)
  conv=>whnf
  refine ⟨by decide,?_⟩
  conv=>whnf
  have hm:ibits .or .u64 (leN (p.drop (8*i)):Nat) (ishl .u64 (IntKind.u64.wrap (ibits .and .i64 (p.length:Int) 255)) 56)=ibits .or .u64 (lastW p.length) (leN (p.drop (8*i)):Nat):=by
   rw [or_comm64,and255 _ (by omega)];rfl
  generalize hm2:ibits .or .u64 (lastW p.length) (leN (p.drop (8*i)):Nat)=m at hm
  generalize hs1:sipN s0 p i=s1
  refine cA (args':=[.ptr (some (H.length,0)),.int .u64 m]) (congrArg (fun z=>[PV.ptr (some (H.length,0)),PV.int .u64 z]) hm) (cO (Q:=fun r H'=>r=.tup []∧∃v',H'=H++[(s1.takes m).Q v']) ?_ ?_)
  ·refine (c177 s1 m H.length v _ (gL H _)).mono fun r H' hh=>?_
   obtain ⟨h1,v',h2⟩:=hh
   exact ⟨h1,v',by rw [h2,sL]⟩
  rintro _ _ ⟨rfl,v1,rfl⟩
  conv=>whnf
  generalize hs2:s1.takes m=s2
  refine dO2 D113_8 [H++[s2.Q v1],H++[S4.Q { s2 with c:=xorW s2.c 255 } (v1+1)]] (by kernel_rfl) rfl trivial ?_
  have g0:(H++[s2.Q v1])[H.length]? = some ⟨277,[.int .u64 s2.a,.int .u64 s2.b,.int .u64 s2.c,.int .u64 s2.d],v1⟩:=gL H _
  conv=>whnf
  iterate 4 (refine dS ?_;(conv=>whnf))
  apply Exists.intro
  apply And.intro
  ·conv=>whnf
   ((conv in (_[_]?)=>tactic=>exact g0);(conv=>whnf))
   exact ⟨rfl,rfl,trivial⟩
  conv=>whnf
  iterate 3 (refine dS ?_;(conv=>whnf))
  apply Exists.intro
  apply And.intro
  ·conv=>whnf
   ((conv in (_[_]?)=>tactic=>exact g0);(conv=>whnf))
   exact ⟨rfl,sL H _ _,trivial⟩
  conv=>whnf
  refine lO SipS (fun x=>[(7,.ptr (some (H.length,0))),(9,.int .i64 x.i)]) (fun x=>H++[(S4.rnds x.i { s2 with c:=xorW s2.c 255 }).Q x.v]) (fun x=>x.i≤4) (fun x=>4 - x.i) ⟨⟨0,v1+1⟩,Nat.zero_le _,⟨rfl,rfl,trivial⟩,rfl⟩ ?_
  rintro ⟨j,w⟩ hj
  replace hj:j≤4:=hj
  conv=>whnf
  refine ⟨fun h=>?_,fun h=>?_⟩
  ·have h:(j:Int)<4:=h
   conv=>whnf
   refine cO (Q:=fun r H'=>r=.tup []∧∃v',H'=H++[(S4.rnds (j+1) { s2 with c:=xorW s2.c 255 }).Q v']) ((c178 (S4.rnds j { s2 with c:=xorW s2.c 255 }) H.length w _ (gL H _)).mono fun r H' hh=>?_) ?_
   ·obtain ⟨h1,v',h2⟩:=hh
    exact ⟨h1,v',by rw [h2,sL];rfl⟩
   rintro _ _ ⟨rfl,v',rfl⟩
   conv=>whnf
   refine ⟨⟨j+1,v'⟩,by show j+1≤4;omega,⟨rfl,?_,trivial⟩,rfl,by show 4 - (j+1)<4 - j;omega⟩
   show PV.int _ (IntKind.i64.wrap ((j:Int)+1))=PV.int _ _
   rw [w64 (by omega) (by omega)];simp
  have h:¬(j:Int)<4:=h
  have e4:j=4:=by omega
  subst e4
  conv=>whnf
  have hf:S4.rnds 4 { s2 with c:=xorW s2.c 255 }=s2.fin:=rfl
  rw [hf]
  generalize hs3:s2.fin=s3
  have g1:(H++[s3.Q w])[H.length]? = some ⟨277,[.int .u64 s3.a,.int .u64 s3.b,.int .u64 s3.c,.int .u64 s3.d],w⟩:=gL H _
  refine dP2 (by kernel_rfl) ?_
  conv=>whnf
  iterate 3 (refine dS ?_;(conv=>whnf))
  apply Exists.intro
  apply And.intro
  ·conv=>whnf
   ((conv in (_[_]?)=>tactic=>exact g1);(conv=>whnf))
   exact ⟨rfl,rfl,trivial⟩
  conv=>whnf
  iterate 3 (refine dS ?_;(conv=>whnf))
  apply Exists.intro
  apply And.intro
  ·conv=>whnf
   ((conv in (_[_]?)=>tactic=>exact g1);(conv=>whnf))
   exact ⟨rfl,rfl,trivial⟩
  conv=>whnf
  iterate 4 (refine dS ?_;(conv=>whnf))
  apply Exists.intro
  apply And.intro
  ·conv=>whnf
   ((conv in (_[_]?)=>tactic=>exact g1);(conv=>whnf))
   exact ⟨rfl,rfl,trivial⟩
  conv=>whnf
  iterate 4 (refine dS ?_;(conv=>whnf))
  apply Exists.intro
  apply And.intro
  ·conv=>whnf
   ((conv in (_[_]?)=>tactic=>exact g1);(conv=>whnf))
   exact ⟨rfl,rfl,trivial⟩
  conv=>whnf
  iterate 2 (refine dS ?_;(conv=>whnf))
  exact ⟨rfl,_,rfl⟩
theorem c113 (k:List UInt8) (hk:k.length=16) (p:List UInt8) (hp:p.length≤1000000):Pure prog 113 [.agg (k.map bC),sl p] (.int .u64 (sipV k p)) :=
 Pure.of_gc rfl fun H=>c113x k hk p hp H
def ttQ2:TT:=[(3,⟨.int .i64,1,8,[.int .i64 0]⟩),(5,⟨.int .u8,1,1,[.int .u8 0]⟩),(26,⟨.slice 5,1,24,[.slice 0 [] (some 5)]⟩),(221,⟨.arr 16 5,16,16,List.replicate 16 (.int .u8 0)⟩),(142,⟨.int .u64,1,8,[.int .u64 0]⟩),(155,⟨.int .u64,1,8,[.int .u64 0]⟩),(226,⟨.int .u32,1,4,[.int .u32 0]⟩),(227,⟨.arr 27 226,27,108,List.replicate 27 (.int .u32 0)⟩),(282,⟨.slice 226,1,24,[.slice 0 [] (some 226)]⟩),(281,⟨.arr 4 226,4,16,[.int .u32 0,.int .u32 0,.int .u32 0,.int .u32 0]⟩)]
theorem ttQ2_ok:ttOk prog ttQ2=true:=by kernel_rfl
def imm180:List Nat:=[]
def imm181:List Nat:=[]
def imm115:List Nat:=[1]
def imm179:List Nat:=[3]
def imm114:List Nat:=[3]
def right32 (x n:Int):Int:=ibits .or .u32 (ishr .u32 x n) (ishl .u32 x (IntKind.u64.wrap (32 - n)))
def left32 (x n:Int):Int:=ibits .or .u32 (ishl .u32 x n) (ishr .u32 x (IntKind.u64.wrap (32 - n)))
theorem c180' (x n:Int) (hn:0≤n):Pure prog 180 [.int .u32 x,.int .u64 n] (.int .u32 (right32 x n)):=by
 intro H
 (refine fnS (imm:=imm180) ttQ2_ok func180 ?_;(conv=>whnf))
 refine ⟨hn,?_⟩
 conv=>whnf
 refine ⟨u64_nonneg _,?_⟩
 conv=>whnf
 exact ⟨rfl,rfl⟩
theorem c181' (x n:Int) (hn:0≤n):Pure prog 181 [.int .u32 x,.int .u64 n] (.int .u32 (left32 x n)):=by
 intro H
 (refine fnS (imm:=imm181) ttQ2_ok func181 ?_;(conv=>whnf))
 refine ⟨hn,?_⟩
 conv=>whnf
 refine ⟨u64_nonneg _,?_⟩
 conv=>whnf
 exact ⟨rfl,rfl⟩
theorem or_comm32 (x y:Int):ibits .or .u32 x y=ibits .or .u32 y x:=by
 show IntKind.u32.wrap _=IntKind.u32.wrap _
 rw [BitVec.or_comm]
theorem c180 (x:Int):Pure prog 180 [.int .u32 x,.int .u64 8] (.int .u32 (rot32 x (-8))) :=
 (c180' x 8 (by decide)).of_eq (congrArg _ (by
  unfold rot32 right32
  rw [show rot32S (-8)=24 by decide,or_comm32]
  rfl))
theorem c181 (x:Int):Pure prog 181 [.int .u32 x,.int .u64 3] (.int .u32 (rot32 x 3)) :=
 (c181' x 3 (by decide)).of_eq (congrArg _ (by
  unfold rot32 left32
  rw [show rot32S 3=3 by decide]))
theorem c179 (ws:List Int) (hws:ws.length=27) (x y:Int):Pure prog 179 [.agg (ws.map u32C),.int .u32 x,.int .u32 y] (.tup [.int .u32 (spB ws (x,y)).1,.int .u32 (spB ws (x,y)).2]):=by
 intro H
 (refine fnS (imm:=imm179) ttQ2_ok func179 ?_;(conv=>whnf))
 refine lO Nat (fun i=>[(3,.elem (ws.map u32C)),(1,.int .u32 (spB (ws.take i) (x,y)).1),(2,.int .u32 (spB (ws.take i) (x,y)).2),(8,.int .i64 i)]) (fun _=>H) (fun i=>i≤27) (fun i=>27 - i) ⟨0,Nat.zero_le _,⟨rfl,rfl,rfl,rfl,trivial⟩,rfl⟩ ?_
 intro i hi
 conv=>whnf
 refine ⟨fun h=>?_,fun h=>?_⟩
 ·have h:(i:Int)<27:=h
  have hi':i<ws.length:=by omega
  conv=>whnf
  refine dP2 (by kernel_rfl) ?_
  conv=>whnf
  (refine dS ?_;(conv=>whnf))
  refine ⟨_,cP (c180 _) ⟨rfl,rfl,trivial⟩,?_⟩
  conv=>whnf
  iterate 3 (refine dS ?_;(conv=>whnf))
  refine ⟨.elem [u32C ws[i]],⟨⟨by omega,by show (i:Int)<((27:Nat):Int);exact h⟩,[u32C ws[i]],at1' (k:=(i:Int).toNat*1) (by rw [Int.toNat_natCast,Nat.mul_one,List.getElem?_map,List.getElem?_eq_getElem hi'];rfl),rfl,rfl,trivial⟩,?_⟩
  conv=>whnf
  iterate 3 (refine dS ?_;(conv=>whnf))
  refine cP (c181 _) ?_
  conv=>whnf
  have et:spB (ws.take (i+1)) (x,y)=spR ws[i] (spB (ws.take i) (x,y)):=by rw [List.take_succ_eq_append_getElem hi',spB_snoc]
  refine ⟨i+1,by omega,⟨rfl,?_,?_,?_,trivial⟩,rfl,by omega⟩
  ·rw [et];rfl
  ·rw [et];rfl
  ·show PV.int _ (IntKind.i64.wrap ((i:Int)+1))=PV.int _ _
   rw [w64 (by omega) (by omega)];simp
 ·have h:¬(i:Int)<27:=h
  have e:ws.take i=ws:=List.take_of_length_le (by omega)
  rw [e]
  conv=>whnf
  exact ⟨rfl,rfl⟩
theorem agg27 (ws:List Int) (hws:ws.length=27):((dropN 0 (ws.map u32C)).take 27).map dem=ws.map u32C:=by
 rw [dropN_eq,List.drop_zero,List.take_of_length_le (by rw [List.length_map];omega),List.map_map]
 rfl
theorem c114 (k:List UInt8) (nn:Int) (n:Nat) (hn:n≤1000000):Pure prog 114 [.agg ((spW k).map u32C),.int .u64 nn,.int .i64 n] (sl (streamV k nn n)):=by
 intro H
 (refine fnS (imm:=imm114) ttQ2_ok func114 ?_;(conv=>whnf))
 refine lO Nat (fun i=>[(1,.int .u64 nn),(2,.int .i64 n),(3,.elem ((spW k).map u32C)),(7,ow (strN k nn i)),(8,.int .i64 i)]) (fun _=>H) (fun i=>i≤(n+7) / 8) (fun i=>(n+7) / 8 - i) ⟨0,Nat.zero_le _,⟨rfl,rfl,rfl,rfl,rfl,trivial⟩,rfl⟩ ?_
 intro i hi
 have hsl:=strN_len k nn i
 conv=>whnf
 refine ⟨fun h=>?_,fun h=>?_⟩
 ·have h:((strN k nn i).length:Int)<n:=h
  rw [hsl] at h
  conv=>whnf
  refine ⟨by decide,?_⟩
  conv=>whnf
  have eargs:[PV.agg (((dropN 0 ((spW k).map u32C)).take 27).map dem),PV.int .u32 (IntKind.u32.wrap (ishr .u64 nn 32)),PV.int .u32 (IntKind.u32.wrap (IntKind.u32.wrap nn+IntKind.u32.wrap (i:Int)))]=[.agg ((spW k).map u32C),.int .u32 (IntKind.u32.wrap (ishr .u64 nn 32)),.int .u32 (add32 (IntKind.u32.wrap nn) i)]:=by
   rw [agg27 _ (spW_len k),wrap32 (n:=i) (by omega)];rfl
  refine cA eargs (cP ((c179 (spW k) (spW_len k) _ _).of_eq (show _=PV.tup [.int .u32 (blkP k nn i).1,.int .u32 (blkP k nn i).2] from rfl)) ?_)
  conv=>whnf
  generalize hx:(blkP k nn i).1=x
  generalize hy:(blkP k nn i).2=y
  refine ⟨by decide,?_⟩
  conv=>whnf
  refine ⟨by decide,?_⟩
  conv=>whnf
  refine ⟨by decide,?_⟩
  conv=>whnf
  refine ⟨by decide,?_⟩
  conv=>whnf
  refine ⟨by decide,?_⟩
  conv=>whnf
  refine ⟨by decide,?_⟩
  conv=>whnf
  refine ⟨⟨by show ((strN k nn i).length+8)*1≤_;omega,rfl,rfl⟩,?_⟩
  conv=>whnf
  refine ⟨i+1,by omega,⟨rfl,rfl,rfl,?_,?_,trivial⟩,rfl,by omega⟩
  ·have e8:[PV.int .u8 (IntKind.u8.wrap x),.int .u8 (IntKind.u8.wrap (ishr .u32 x 8)),.int .u8 (IntKind.u8.wrap (ishr .u32 x 16)),.int .u8 (IntKind.u8.wrap (ishr .u32 x 24)),.int .u8 (IntKind.u8.wrap y),.int .u8 (IntKind.u8.wrap (ishr .u32 y 8)),.int .u8 (IntKind.u8.wrap (ishr .u32 y 16)),.int .u8 (IntKind.u8.wrap (ishr .u32 y 24))]=(le4 x++le4 y).map bC:=by
    rw [List.map_append,←le4_cells,←le4_cells];rfl
   show PV.slice ((strN k nn i).length+8) ((strN k nn i).map bC++[PV.int .u8 (IntKind.u8.wrap x),.int .u8 (IntKind.u8.wrap (ishr .u32 x 8)),.int .u8 (IntKind.u8.wrap (ishr .u32 x 16)),.int .u8 (IntKind.u8.wrap (ishr .u32 x 24)),.int .u8 (IntKind.u8.wrap y),.int .u8 (IntKind.u8.wrap (ishr .u32 y 8)),.int .u8 (IntKind.u8.wrap (ishr .u32 y 16)),.int .u8 (IntKind.u8.wrap (ishr .u32 y 24))]) (some 5)=_
   rw [e8,ow_app' _ (le4 x++le4 y) (n:=8) rfl]
   subst hx hy
   rfl
  ·show PV.int _ (IntKind.i64.wrap ((i:Int)+1))=PV.int _ _
   rw [w64 (by omega) (by omega)];simp
 ·have h:¬((strN k nn i).length:Int)<n:=h
  rw [hsl] at h
  have e:i=(n+7) / 8:=by omega
  conv=>whnf
  have hmax:max (n:Int) 0=(n:Int):=by omega
  refine ⟨⟨by decide,by rw [hmax];omega,by rw [hmax];omega⟩,?_⟩
  conv=>whnf
  refine ⟨?_,rfl⟩
  have ec:=sl_cut2 (strN k nn i) 0 n ⟨by omega,by omega,by omega⟩
  show PV.slice ((max (n:Int) 0).toNat - (0:Int).toNat) ((((strN k nn i).map bC).take ((max (n:Int) 0).toNat*1)).drop ((0:Int).toNat*1)) none=_
  rw [hmax]
  refine ec.trans ?_
  rw [Int.toNat_natCast,e]
  rfl
set_option maxHeartbeats 4000000
def D115_5:Draw:={ imp:=[17],win:=[] }
def D115_12:Draw:={ cons:=[(14,[6]),(15,[57])],imp:=[],win:=[],fs:=[(0,14,.slot 6)],looks:=[(0,6)] }
def D115_13:Draw:={ imp:=[13],win:=[] }
def z27:List Int:=List.replicate 27 0
theorem spN_c (k:List UInt8) (i:Nat):(spN k i).c=(spN k (i+1)).b:=by rw [spN]
theorem spN_d' (k:List UInt8) (i:Nat):(spN k i).d=(spN k (i+1)).c:=by rw [spN]
theorem spN_d (k:List UInt8) (i:Nat):(spN k i).d=(spN k (i+2)).b:=by rw [spN_d',spN_c]
theorem spN_next (k:List UInt8) (i:Nat):(spN k (i+1)).d=xor32 (add32 (spN k i).a (rot32 (spN k i).b (-8))) (IntKind.u32.wrap (i:Int)):=by rw [spN]
theorem spN_a (k:List UInt8) (i:Nat):(spN k (i+1)).a=xor32 (rot32 (spN k i).a 3) (spN k (i+1)).d:=by rw [spN]
def spL2 (k:List UInt8) (i:Nat):List Int:=(List.range (i+3)).map fun j=>(spN k j).b
theorem spN_zero (k:List UInt8):spN k 0=wN k 16:=by rw [spN]
theorem spL2_zero (k:List UInt8):spL2 k 0=[(wN k 16).b,(wN k 16).c,(wN k 16).d]:=by
 rw [←spN_zero,spN_c,spN_d]
 generalize hb:(fun j=>(spN k j).b)=f
 have e:∀j,(spN k j).b=f j:=fun j=>by rw [←hb]
 unfold spL2
 rw [hb,e,e,e]
 rfl
theorem spL_one (k:List UInt8):spL k z27 (0+1)=(wN k 16).a::z27.drop 1:=by
 rw [←spN_zero]
 generalize hb:(fun j=>(spN k j).a)=f
 have e:(spN k 0).a=f 0:=by rw [←hb]
 unfold spL
 rw [hb,e]
 rfl
theorem spL2_len (k:List UInt8) (i:Nat):(spL2 k i).length=i+3:=by unfold spL2;simp
theorem spL2_get (k:List UInt8) (i j:Nat) (h:j<i+3):(spL2 k i)[j]? = some (spN k j).b:=by
 unfold spL2
 rw [List.getElem?_map,List.getElem?_range h];rfl
theorem spL2_succ (k:List UInt8) (i:Nat):spL2 k (i+1)=spL2 k i++[(spN k (i+3)).b]:=by
 unfold spL2
 rw [show i+1+3=(i+3)+1 by omega,List.range_succ,List.map_append];rfl
theorem spL_at (k:List UInt8) (i j:Nat) (hi:i≤27) (h:j<i):(spL k z27 i)[j]? = some (spN k j).a:=by
 unfold spL
 rw [List.getElem?_append_left (by simp;omega),List.getElem?_map,List.getElem?_range h];rfl
theorem drop_u32 {l:List Int} {j:Nat} {x:Int} (h:l[j]? = some x):∃r,dropN (0+(j:Int).toNat*1) (l.map u32C)=u32C x::r:=by
 have hlt:=(List.getElem?_eq_some_iff.1 h).1
 refine ⟨(l.drop (j+1)).map u32C,?_⟩
 rw [dropN_eq,Int.toNat_natCast,Nat.mul_one,Nat.zero_add,←List.map_drop,List.drop_eq_getElem_cons hlt,(List.getElem?_eq_some_iff.1 h).2];rfl
theorem ext_of {H K:PH} (hl:H.length≤K.length) (hf:∀j,j<H.length→K[j]? = H[j]?):∃ext,K=H++ext:=⟨K.drop H.length,List.ext_getElem? fun j=>by
 by_cases h:j<H.length
 ·rw [List.getElem?_append_left h];exact hf j h
 ·rw [List.getElem?_append_right (by omega),List.getElem?_drop]
  congr 1;omega⟩
theorem c115x (k:List UInt8) (hk:k.length=16) (H:PH):CK prog 115 [.agg (k.map bC)] H fun r H'=>r=.agg ((spW k).map u32C)∧∃ext,H'=H++ext:=by
 obtain ⟨k0,k1,k2,k3,k4,k5,k6,k7,k8,k9,ka,kb,kc,kd,ke,kf,rfl⟩:=len16 hk
 obtain ⟨kk,hkk⟩:∃kk:List UInt8,kk=[k0,k1,k2,k3,k4,k5,k6,k7,k8,k9,ka,kb,kc,kd,ke,kf]:=⟨_,rfl⟩
 rw [←hkk]
 (refine fnS (imm:=imm115) ttQ2_ok func115 ?_;(conv=>whnf))
 obtain ⟨H1,hH1⟩:∃H1:PH,H1=H++[⟨227,z27.map u32C,0⟩]:=⟨_,rfl⟩
 have hl1:H1.length=H.length+1:=by rw [hH1];simp
 have hr1:H1[H.length]? = some ⟨227,z27.map u32C,0⟩:=by rw [hH1];exact gL H _
 refine lO Nat (fun x=>[(1,.elem (kk.map bC)),(2,.ptr (some (H.length,0))),(3,.ptr (some (H1.length,0))),(4,.int .i64 x)]) (fun x=>H1++[(wN kk x).O4 x]) (fun x=>x≤16) (fun x=>16 - x) ⟨0,Nat.zero_le _,⟨rfl,rfl,?_,rfl,trivial⟩,?_⟩ ?_
 ·subst hH1;rfl
 ·subst hH1;rfl
 intro i hi
 match i,hi with
 | 0,_ =>
  conv=>whnf
  refine ⟨fun _=>?_,fun h=>absurd (show ((0:Nat):Int)<16 by decide) h⟩
  conv=>whnf
  generalize hz:wN kk 0=z
  refine dO2 D115_5 [H1++[z.O4 0],H1++[S4.O4 { z with a:=orB z.a k0 0 } 1]] (by kernel_rfl) rfl trivial ?_
  conv=>whnf
  (refine dS ?_;(conv=>whnf))
  apply Exists.intro
  apply And.intro
  ·conv=>whnf
   exact oD
  conv=>whnf
  (refine dS ?_;(conv=>whnf))
  apply Exists.intro
  apply And.intro
  ·conv=>whnf
   exact oD
  conv=>whnf
  apply Exists.intro
  apply And.intro
  ·conv=>whnf
   exact oD
  conv=>whnf
  apply Exists.intro
  apply And.intro
  ·conv=>whnf
   ((conv in (_[_]?)=>tactic=>exact (z.look4 0 H1));(conv=>whnf))
   exact ⟨rfl,rfl,trivial⟩
  conv=>whnf
  (refine dS ?_;(conv=>whnf))
  refine ⟨.elem [bC k0],⟨⟨by decide,by decide⟩,[bC k0],at1' (k:=0) (by rw [hkk];rfl),rfl,rfl,trivial⟩,?_⟩
  conv=>whnf
  iterate 3 (refine dS ?_;(conv=>whnf))
  apply Exists.intro
  apply And.intro
  ·conv=>whnf
   exact oD
  conv=>whnf
  iterate 2 (refine dS ?_;(conv=>whnf))
  apply Exists.intro
  apply And.intro
  ·conv=>whnf
   exact oD
  conv=>whnf
  (refine dS ?_;(conv=>whnf))
  apply Exists.intro
  apply And.intro
  ·conv=>whnf
   exact oD
  conv=>whnf
  apply Exists.intro
  apply And.intro
  ·conv=>whnf
   ((conv in (_[_]?)=>tactic=>exact (z.look4 0 H1));(conv=>whnf))
   exact ⟨rfl,sL H1 _ _,trivial⟩
  conv=>whnf
  refine ⟨1,by decide,⟨rfl,rfl,rfl,rfl,trivial⟩,?_,by decide⟩
  subst hz hkk
  rfl
 | 1,_ =>
  conv=>whnf
  refine ⟨fun _=>?_,fun h=>absurd (show ((1:Nat):Int)<16 by decide) h⟩
  conv=>whnf
  generalize hz:wN kk 1=z
  refine dO2 D115_5 [H1++[z.O4 1],H1++[S4.O4 { z with a:=orB z.a k1 8 } 2]] (by kernel_rfl) rfl trivial ?_
  conv=>whnf
  (refine dS ?_;(conv=>whnf))
  apply Exists.intro
  apply And.intro
  ·conv=>whnf
   exact oD
  conv=>whnf
  (refine dS ?_;(conv=>whnf))
  apply Exists.intro
  apply And.intro
  ·conv=>whnf
   exact oD
  conv=>whnf
  apply Exists.intro
  apply And.intro
  ·conv=>whnf
   exact oD
  conv=>whnf
  apply Exists.intro
  apply And.intro
  ·conv=>whnf
   ((conv in (_[_]?)=>tactic=>exact (z.look4 1 H1));(conv=>whnf))
   exact ⟨rfl,rfl,trivial⟩
  conv=>whnf
  (refine dS ?_;(conv=>whnf))
  refine ⟨.elem [bC k1],⟨⟨by decide,by decide⟩,[bC k1],at1' (k:=1) (by rw [hkk];rfl),rfl,rfl,trivial⟩,?_⟩
  conv=>whnf
  iterate 3 (refine dS ?_;(conv=>whnf))
  apply Exists.intro
  apply And.intro
  ·conv=>whnf
   exact oD
  conv=>whnf
  iterate 2 (refine dS ?_;(conv=>whnf))
  apply Exists.intro
  apply And.intro
  ·conv=>whnf
   exact oD
  conv=>whnf
  (refine dS ?_;(conv=>whnf))
  apply Exists.intro
  apply And.intro
  ·conv=>whnf
   exact oD
  conv=>whnf
  apply Exists.intro
  apply And.intro
  ·conv=>whnf
   ((conv in (_[_]?)=>tactic=>exact (z.look4 1 H1));(conv=>whnf))
   exact ⟨rfl,sL H1 _ _,trivial⟩
  conv=>whnf
  refine ⟨2,by decide,⟨rfl,rfl,rfl,rfl,trivial⟩,?_,by decide⟩
  subst hz hkk
  rfl
 | 2,_ =>
  conv=>whnf
  refine ⟨fun _=>?_,fun h=>absurd (show ((2:Nat):Int)<16 by decide) h⟩
  conv=>whnf
  generalize hz:wN kk 2=z
  refine dO2 D115_5 [H1++[z.O4 2],H1++[S4.O4 { z with a:=orB z.a k2 16 } 3]] (by kernel_rfl) rfl trivial ?_
  conv=>whnf
  (refine dS ?_;(conv=>whnf))
  apply Exists.intro
  apply And.intro
  ·conv=>whnf
   exact oD
  conv=>whnf
  (refine dS ?_;(conv=>whnf))
  apply Exists.intro
  apply And.intro
  ·conv=>whnf
   exact oD
  conv=>whnf
  apply Exists.intro
  apply And.intro
  ·conv=>whnf
   exact oD
  conv=>whnf
  apply Exists.intro
  apply And.intro
  ·conv=>whnf
   ((conv in (_[_]?)=>tactic=>exact (z.look4 2 H1));(conv=>whnf))
   exact ⟨rfl,rfl,trivial⟩
  conv=>whnf
  (refine dS ?_;(conv=>whnf))
  refine ⟨.elem [bC k2],⟨⟨by decide,by decide⟩,[bC k2],at1' (k:=2) (by rw [hkk];rfl),rfl,rfl,trivial⟩,?_⟩
  conv=>whnf
  iterate 3 (refine dS ?_;(conv=>whnf))
  apply Exists.intro
  apply And.intro
  ·conv=>whnf
   exact oD
  conv=>whnf
  iterate 2 (refine dS ?_;(conv=>whnf))
  apply Exists.intro
  apply And.intro
  ·conv=>whnf
   exact oD
  conv=>whnf
  (refine dS ?_;(conv=>whnf))
  apply Exists.intro
  apply And.intro
  ·conv=>whnf
   exact oD
  conv=>whnf
  apply Exists.intro
  apply And.intro
  ·conv=>whnf
   ((conv in (_[_]?)=>tactic=>exact (z.look4 2 H1));(conv=>whnf))
   exact ⟨rfl,sL H1 _ _,trivial⟩
  conv=>whnf
  refine ⟨3,by decide,⟨rfl,rfl,rfl,rfl,trivial⟩,?_,by decide⟩
  subst hz hkk
  rfl
 | 3,_ =>
  conv=>whnf
  refine ⟨fun _=>?_,fun h=>absurd (show ((3:Nat):Int)<16 by decide) h⟩
  conv=>whnf
  generalize hz:wN kk 3=z
  refine dO2 D115_5 [H1++[z.O4 3],H1++[S4.O4 { z with a:=orB z.a k3 24 } 4]] (by kernel_rfl) rfl trivial ?_
  conv=>whnf
  (refine dS ?_;(conv=>whnf))
  apply Exists.intro
  apply And.intro
  ·conv=>whnf
   exact oD
  conv=>whnf
  (refine dS ?_;(conv=>whnf))
  apply Exists.intro
  apply And.intro
  ·conv=>whnf
   exact oD
  conv=>whnf
  apply Exists.intro
  apply And.intro
  ·conv=>whnf
   exact oD
  conv=>whnf
  apply Exists.intro
  apply And.intro
  ·conv=>whnf
   ((conv in (_[_]?)=>tactic=>exact (z.look4 3 H1));(conv=>whnf))
   exact ⟨rfl,rfl,trivial⟩
  conv=>whnf
  (refine dS ?_;(conv=>whnf))
  refine ⟨.elem [bC k3],⟨⟨by decide,by decide⟩,[bC k3],at1' (k:=3) (by rw [hkk];rfl),rfl,rfl,trivial⟩,?_⟩
  conv=>whnf
  iterate 3 (refine dS ?_;(conv=>whnf))
  apply Exists.intro
  apply And.intro
  ·conv=>whnf
   exact oD
  conv=>whnf
  iterate 2 (refine dS ?_;(conv=>whnf))
  apply Exists.intro
  apply And.intro
  ·conv=>whnf
   exact oD
  conv=>whnf
  (refine dS ?_;(conv=>whnf))
  apply Exists.intro
  apply And.intro
  ·conv=>whnf
   exact oD
  conv=>whnf
  apply Exists.intro
  apply And.intro
  ·conv=>whnf
   ((conv in (_[_]?)=>tactic=>exact (z.look4 3 H1));(conv=>whnf))
   exact ⟨rfl,sL H1 _ _,trivial⟩
  conv=>whnf
  refine ⟨4,by decide,⟨rfl,rfl,rfl,rfl,trivial⟩,?_,by decide⟩
  subst hz hkk
  rfl
 | 4,_ =>
  conv=>whnf
  refine ⟨fun _=>?_,fun h=>absurd (show ((4:Nat):Int)<16 by decide) h⟩
  conv=>whnf
  generalize hz:wN kk 4=z
  refine dO2 D115_5 [H1++[z.O4 4],H1++[S4.O4 { z with b:=orB z.b k4 0 } 5]] (by kernel_rfl) rfl trivial ?_
  conv=>whnf
  (refine dS ?_;(conv=>whnf))
  apply Exists.intro
  apply And.intro
  ·conv=>whnf
   exact oD
  conv=>whnf
  (refine dS ?_;(conv=>whnf))
  apply Exists.intro
  apply And.intro
  ·conv=>whnf
   exact oD
  conv=>whnf
  apply Exists.intro
  apply And.intro
  ·conv=>whnf
   exact oD
  conv=>whnf
  apply Exists.intro
  apply And.intro
  ·conv=>whnf
   ((conv in (_[_]?)=>tactic=>exact (z.look4 4 H1));(conv=>whnf))
   exact ⟨rfl,rfl,trivial⟩
  conv=>whnf
  (refine dS ?_;(conv=>whnf))
  refine ⟨.elem [bC k4],⟨⟨by decide,by decide⟩,[bC k4],at1' (k:=4) (by rw [hkk];rfl),rfl,rfl,trivial⟩,?_⟩
  conv=>whnf
  iterate 3 (refine dS ?_;(conv=>whnf))
  apply Exists.intro
  apply And.intro
  ·conv=>whnf
   exact oD
  conv=>whnf
  iterate 2 (refine dS ?_;(conv=>whnf))
  apply Exists.intro
  apply And.intro
  ·conv=>whnf
   exact oD
  conv=>whnf
  (refine dS ?_;(conv=>whnf))
  apply Exists.intro
  apply And.intro
  ·conv=>whnf
   exact oD
  conv=>whnf
  apply Exists.intro
  apply And.intro
  ·conv=>whnf
   ((conv in (_[_]?)=>tactic=>exact (z.look4 4 H1));(conv=>whnf))
   exact ⟨rfl,sL H1 _ _,trivial⟩
  conv=>whnf
  refine ⟨5,by decide,⟨rfl,rfl,rfl,rfl,trivial⟩,?_,by decide⟩
  subst hz hkk
  rfl
 | 5,_ =>
  conv=>whnf
  refine ⟨fun _=>?_,fun h=>absurd (show ((5:Nat):Int)<16 by decide) h⟩
  conv=>whnf
  generalize hz:wN kk 5=z
  refine dO2 D115_5 [H1++[z.O4 5],H1++[S4.O4 { z with b:=orB z.b k5 8 } 6]] (by kernel_rfl) rfl trivial ?_
  conv=>whnf
  (refine dS ?_;(conv=>whnf))
  apply Exists.intro
  apply And.intro
  ·conv=>whnf
   exact oD
  conv=>whnf
  (refine dS ?_;(conv=>whnf))
  apply Exists.intro
  apply And.intro
  ·conv=>whnf
   exact oD
  conv=>whnf
  apply Exists.intro
  apply And.intro
  ·conv=>whnf
   exact oD
  conv=>whnf
  apply Exists.intro
  apply And.intro
  ·conv=>whnf
   ((conv in (_[_]?)=>tactic=>exact (z.look4 5 H1));(conv=>whnf))
   exact ⟨rfl,rfl,trivial⟩
  conv=>whnf
  (refine dS ?_;(conv=>whnf))
  refine ⟨.elem [bC k5],⟨⟨by decide,by decide⟩,[bC k5],at1' (k:=5) (by rw [hkk];rfl),rfl,rfl,trivial⟩,?_⟩
  conv=>whnf
  iterate 3 (refine dS ?_;(conv=>whnf))
  apply Exists.intro
  apply And.intro
  ·conv=>whnf
   exact oD
  conv=>whnf
  iterate 2 (refine dS ?_;(conv=>whnf))
  apply Exists.intro
  apply And.intro
  ·conv=>whnf
   exact oD
  conv=>whnf
  (refine dS ?_;(conv=>whnf))
  apply Exists.intro
  apply And.intro
  ·conv=>whnf
   exact oD
  conv=>whnf
  apply Exists.intro
  apply And.intro
  ·conv=>whnf
   ((conv in (_[_]?)=>tactic=>exact (z.look4 5 H1));(conv=>whnf))
   exact ⟨rfl,sL H1 _ _,trivial⟩
  conv=>whnf
  refine ⟨6,by decide,⟨rfl,rfl,rfl,rfl,trivial⟩,?_,by decide⟩
  subst hz hkk
  rfl
 | 6,_ =>
  conv=>whnf
  refine ⟨fun _=>?_,fun h=>absurd (show ((6:Nat):Int)<16 by decide) h⟩
  conv=>whnf
  generalize hz:wN kk 6=z
  refine dO2 D115_5 [H1++[z.O4 6],H1++[S4.O4 { z with b:=orB z.b k6 16 } 7]] (by kernel_rfl) rfl trivial ?_
  conv=>whnf
  (refine dS ?_;(conv=>whnf))
  apply Exists.intro
  apply And.intro
  ·conv=>whnf
   exact oD
  conv=>whnf
  (refine dS ?_;(conv=>whnf))
  apply Exists.intro
  apply And.intro
  ·conv=>whnf
   exact oD
  conv=>whnf
  apply Exists.intro
  apply And.intro
  ·conv=>whnf
   exact oD
  conv=>whnf
  apply Exists.intro
  apply And.intro
  ·conv=>whnf
   ((conv in (_[_]?)=>tactic=>exact (z.look4 6 H1));(conv=>whnf))
   exact ⟨rfl,rfl,trivial⟩
  conv=>whnf
  (refine dS ?_;(conv=>whnf))
  refine ⟨.elem [bC k6],⟨⟨by decide,by decide⟩,[bC k6],at1' (k:=6) (by rw [hkk];rfl),rfl,rfl,trivial⟩,?_⟩
  conv=>whnf
  iterate 3 (refine dS ?_;(conv=>whnf))
  apply Exists.intro
  apply And.intro
  ·conv=>whnf
   exact oD
  conv=>whnf
  iterate 2 (refine dS ?_;(conv=>whnf))
  apply Exists.intro
  apply And.intro
  ·conv=>whnf
   exact oD
  conv=>whnf
  (refine dS ?_;(conv=>whnf))
  apply Exists.intro
  apply And.intro
  ·conv=>whnf
   exact oD
  conv=>whnf
  apply Exists.intro
  apply And.intro
  ·conv=>whnf
   ((conv in (_[_]?)=>tactic=>exact (z.look4 6 H1));(conv=>whnf))
   exact ⟨rfl,sL H1 _ _,trivial⟩
  conv=>whnf
  refine ⟨7,by decide,⟨rfl,rfl,rfl,rfl,trivial⟩,?_,by decide⟩
  subst hz hkk
  rfl
 | 7,_ =>
  conv=>whnf
  refine ⟨fun _=>?_,fun h=>absurd (show ((7:Nat):Int)<16 by decide) h⟩
  conv=>whnf
  generalize hz:wN kk 7=z
  refine dO2 D115_5 [H1++[z.O4 7],H1++[S4.O4 { z with b:=orB z.b k7 24 } 8]] (by kernel_rfl) rfl trivial ?_
  conv=>whnf
  (refine dS ?_;(conv=>whnf))
  apply Exists.intro
  apply And.intro
  ·conv=>whnf
   exact oD
  conv=>whnf
  (refine dS ?_;(conv=>whnf))
  apply Exists.intro
  apply And.intro
  ·conv=>whnf
   exact oD
  conv=>whnf
  apply Exists.intro
  apply And.intro
  ·conv=>whnf
   exact oD
  conv=>whnf
  apply Exists.intro
  apply And.intro
  ·conv=>whnf
   ((conv in (_[_]?)=>tactic=>exact (z.look4 7 H1));(conv=>whnf))
   exact ⟨rfl,rfl,trivial⟩
  conv=>whnf
  (refine dS ?_;(conv=>whnf))
  refine ⟨.elem [bC k7],⟨⟨by decide,by decide⟩,[bC k7],at1' (k:=7) (by rw [hkk];rfl),rfl,rfl,trivial⟩,?_⟩
  conv=>whnf
  iterate 3 (refine dS ?_;(conv=>whnf))
  apply Exists.intro
  apply And.intro
  ·conv=>whnf
   exact oD
  conv=>whnf
  iterate 2 (refine dS ?_;(conv=>whnf))
  apply Exists.intro
  apply And.intro
  ·conv=>whnf
   exact oD
  conv=>whnf
  (refine dS ?_;(conv=>whnf))
  apply Exists.intro
  apply And.intro
  ·conv=>whnf
   exact oD
  conv=>whnf
  apply Exists.intro
  apply And.intro
  ·conv=>whnf
   ((conv in (_[_]?)=>tactic=>exact (z.look4 7 H1));(conv=>whnf))
   exact ⟨rfl,sL H1 _ _,trivial⟩
  conv=>whnf
  refine ⟨8,by decide,⟨rfl,rfl,rfl,rfl,trivial⟩,?_,by decide⟩
  subst hz hkk
  rfl
 | 8,_ =>
  conv=>whnf
  refine ⟨fun _=>?_,fun h=>absurd (show ((8:Nat):Int)<16 by decide) h⟩
  conv=>whnf
  generalize hz:wN kk 8=z
  refine dO2 D115_5 [H1++[z.O4 8],H1++[S4.O4 { z with c:=orB z.c k8 0 } 9]] (by kernel_rfl) rfl trivial ?_
  conv=>whnf
  (refine dS ?_;(conv=>whnf))
  apply Exists.intro
  apply And.intro
  ·conv=>whnf
   exact oD
  conv=>whnf
  (refine dS ?_;(conv=>whnf))
  apply Exists.intro
  apply And.intro
  ·conv=>whnf
   exact oD
  conv=>whnf
  apply Exists.intro
  apply And.intro
  ·conv=>whnf
   exact oD
  conv=>whnf
  apply Exists.intro
  apply And.intro
  ·conv=>whnf
   ((conv in (_[_]?)=>tactic=>exact (z.look4 8 H1));(conv=>whnf))
   exact ⟨rfl,rfl,trivial⟩
  conv=>whnf
  (refine dS ?_;(conv=>whnf))
  refine ⟨.elem [bC k8],⟨⟨by decide,by decide⟩,[bC k8],at1' (k:=8) (by rw [hkk];rfl),rfl,rfl,trivial⟩,?_⟩
  conv=>whnf
  iterate 3 (refine dS ?_;(conv=>whnf))
  apply Exists.intro
  apply And.intro
  ·conv=>whnf
   exact oD
  conv=>whnf
  iterate 2 (refine dS ?_;(conv=>whnf))
  apply Exists.intro
  apply And.intro
  ·conv=>whnf
   exact oD
  conv=>whnf
  (refine dS ?_;(conv=>whnf))
  apply Exists.intro
  apply And.intro
  ·conv=>whnf
   exact oD
  conv=>whnf
  apply Exists.intro
  apply And.intro
  ·conv=>whnf
   ((conv in (_[_]?)=>tactic=>exact (z.look4 8 H1));(conv=>whnf))
   exact ⟨rfl,sL H1 _ _,trivial⟩
  conv=>whnf
  refine ⟨9,by decide,⟨rfl,rfl,rfl,rfl,trivial⟩,?_,by decide⟩
  subst hz hkk
  rfl
 | 9,_ =>
  conv=>whnf
  refine ⟨fun _=>?_,fun h=>absurd (show ((9:Nat):Int)<16 by decide) h⟩
  conv=>whnf
  generalize hz:wN kk 9=z
  refine dO2 D115_5 [H1++[z.O4 9],H1++[S4.O4 { z with c:=orB z.c k9 8 } 10]] (by kernel_rfl) rfl trivial ?_
  conv=>whnf
  (refine dS ?_;(conv=>whnf))
  apply Exists.intro
  apply And.intro
  ·conv=>whnf
   exact oD
  conv=>whnf
  (refine dS ?_;(conv=>whnf))
  apply Exists.intro
  apply And.intro
  ·conv=>whnf
   exact oD
  conv=>whnf
  apply Exists.intro
  apply And.intro
  ·conv=>whnf
   exact oD
  conv=>whnf
  apply Exists.intro
  apply And.intro
  ·conv=>whnf
   ((conv in (_[_]?)=>tactic=>exact (z.look4 9 H1));(conv=>whnf))
   exact ⟨rfl,rfl,trivial⟩
  conv=>whnf
  (refine dS ?_;(conv=>whnf))
  refine ⟨.elem [bC k9],⟨⟨by decide,by decide⟩,[bC k9],at1' (k:=9) (by rw [hkk];rfl),rfl,rfl,trivial⟩,?_⟩
  conv=>whnf
  iterate 3 (refine dS ?_;(conv=>whnf))
  apply Exists.intro
  apply And.intro
  ·conv=>whnf
   exact oD
  conv=>whnf
  iterate 2 (refine dS ?_;(conv=>whnf))
  apply Exists.intro
  apply And.intro
  ·conv=>whnf
   exact oD
  conv=>whnf
  (refine dS ?_;(conv=>whnf))
  apply Exists.intro
  apply And.intro
  ·conv=>whnf
   exact oD
  conv=>whnf
  apply Exists.intro
  apply And.intro
  ·conv=>whnf
   ((conv in (_[_]?)=>tactic=>exact (z.look4 9 H1));(conv=>whnf))
   exact ⟨rfl,sL H1 _ _,trivial⟩
  conv=>whnf
  refine ⟨10,by decide,⟨rfl,rfl,rfl,rfl,trivial⟩,?_,by decide⟩
  subst hz hkk
  rfl
 | 10,_ =>
  conv=>whnf
  refine ⟨fun _=>?_,fun h=>absurd (show ((10:Nat):Int)<16 by decide) h⟩
  conv=>whnf
  generalize hz:wN kk 10=z
  refine dO2 D115_5 [H1++[z.O4 10],H1++[S4.O4 { z with c:=orB z.c ka 16 } 11]] (by kernel_rfl) rfl trivial ?_
  conv=>whnf
  (refine dS ?_;(conv=>whnf))
  apply Exists.intro
  apply And.intro
  ·conv=>whnf
   exact oD
  conv=>whnf
  (refine dS ?_;(conv=>whnf))
  apply Exists.intro
  apply And.intro
  ·conv=>whnf
   exact oD
  conv=>whnf
  apply Exists.intro
  apply And.intro
  ·conv=>whnf
   exact oD
  conv=>whnf
  apply Exists.intro
  apply And.intro
  ·conv=>whnf
   ((conv in (_[_]?)=>tactic=>exact (z.look4 10 H1));(conv=>whnf))
   exact ⟨rfl,rfl,trivial⟩
  conv=>whnf
  (refine dS ?_;(conv=>whnf))
  refine ⟨.elem [bC ka],⟨⟨by decide,by decide⟩,[bC ka],at1' (k:=10) (by rw [hkk];rfl),rfl,rfl,trivial⟩,?_⟩
  conv=>whnf
  iterate 3 (refine dS ?_;(conv=>whnf))
  apply Exists.intro
  apply And.intro
  ·conv=>whnf
   exact oD
  conv=>whnf
  iterate 2 (refine dS ?_;(conv=>whnf))
  apply Exists.intro
  apply And.intro
  ·conv=>whnf
   exact oD
  conv=>whnf
  (refine dS ?_;(conv=>whnf))
  apply Exists.intro
  apply And.intro
  ·conv=>whnf
   exact oD
  conv=>whnf
  apply Exists.intro
  apply And.intro
  ·conv=>whnf
   ((conv in (_[_]?)=>tactic=>exact (z.look4 10 H1));(conv=>whnf))
   exact ⟨rfl,sL H1 _ _,trivial⟩
  conv=>whnf
  refine ⟨11,by decide,⟨rfl,rfl,rfl,rfl,trivial⟩,?_,by decide⟩
  subst hz hkk
  rfl
 | 11,_ =>
  conv=>whnf
  refine ⟨fun _=>?_,fun h=>absurd (show ((11:Nat):Int)<16 by decide) h⟩
  conv=>whnf
  generalize hz:wN kk 11=z
  refine dO2 D115_5 [H1++[z.O4 11],H1++[S4.O4 { z with c:=orB z.c kb 24 } 12]] (by kernel_rfl) rfl trivial ?_
  conv=>whnf
  (refine dS ?_;(conv=>whnf))
  apply Exists.intro
  apply And.intro
  ·conv=>whnf
   exact oD
  conv=>whnf
  (refine dS ?_;(conv=>whnf))
  apply Exists.intro
  apply And.intro
  ·conv=>whnf
   exact oD
  conv=>whnf
  apply Exists.intro
  apply And.intro
  ·conv=>whnf
   exact oD
  conv=>whnf
  apply Exists.intro
  apply And.intro
  ·conv=>whnf
   ((conv in (_[_]?)=>tactic=>exact (z.look4 11 H1));(conv=>whnf))
   exact ⟨rfl,rfl,trivial⟩
  conv=>whnf
  (refine dS ?_;(conv=>whnf))
  refine ⟨.elem [bC kb],⟨⟨by decide,by decide⟩,[bC kb],at1' (k:=11) (by rw [hkk];rfl),rfl,rfl,trivial⟩,?_⟩
  conv=>whnf
  iterate 3 (refine dS ?_;(conv=>whnf))
  apply Exists.intro
  apply And.intro
  ·conv=>whnf
   exact oD
  conv=>whnf
  iterate 2 (refine dS ?_;(conv=>whnf))
  apply Exists.intro
  apply And.intro
  ·conv=>whnf
   exact oD
  conv=>whnf
  (refine dS ?_;(conv=>whnf))
  apply Exists.intro
  apply And.intro
  ·conv=>whnf
   exact oD
  conv=>whnf
  apply Exists.intro
  apply And.intro
  ·conv=>whnf
   ((conv in (_[_]?)=>tactic=>exact (z.look4 11 H1));(conv=>whnf))
   exact ⟨rfl,sL H1 _ _,trivial⟩
  conv=>whnf
  refine ⟨12,by decide,⟨rfl,rfl,rfl,rfl,trivial⟩,?_,by decide⟩
  subst hz hkk
  rfl
 | 12,_ =>
  conv=>whnf
  refine ⟨fun _=>?_,fun h=>absurd (show ((12:Nat):Int)<16 by decide) h⟩
  conv=>whnf
  generalize hz:wN kk 12=z
  refine dO2 D115_5 [H1++[z.O4 12],H1++[S4.O4 { z with d:=orB z.d kc 0 } 13]] (by kernel_rfl) rfl trivial ?_
  conv=>whnf
  (refine dS ?_;(conv=>whnf))
  apply Exists.intro
  apply And.intro
  ·conv=>whnf
   exact oD
  conv=>whnf
  (refine dS ?_;(conv=>whnf))
  apply Exists.intro
  apply And.intro
  ·conv=>whnf
   exact oD
  conv=>whnf
  apply Exists.intro
  apply And.intro
  ·conv=>whnf
   exact oD
  conv=>whnf
  apply Exists.intro
  apply And.intro
  ·conv=>whnf
   ((conv in (_[_]?)=>tactic=>exact (z.look4 12 H1));(conv=>whnf))
   exact ⟨rfl,rfl,trivial⟩
  conv=>whnf
  (refine dS ?_;(conv=>whnf))
  refine ⟨.elem [bC kc],⟨⟨by decide,by decide⟩,[bC kc],at1' (k:=12) (by rw [hkk];rfl),rfl,rfl,trivial⟩,?_⟩
  conv=>whnf
  iterate 3 (refine dS ?_;(conv=>whnf))
  apply Exists.intro
  apply And.intro
  ·conv=>whnf
   exact oD
  conv=>whnf
  iterate 2 (refine dS ?_;(conv=>whnf))
  apply Exists.intro
  apply And.intro
  ·conv=>whnf
   exact oD
  conv=>whnf
  (refine dS ?_;(conv=>whnf))
  apply Exists.intro
  apply And.intro
  ·conv=>whnf
   exact oD
  conv=>whnf
  apply Exists.intro
  apply And.intro
  ·conv=>whnf
   ((conv in (_[_]?)=>tactic=>exact (z.look4 12 H1));(conv=>whnf))
   exact ⟨rfl,sL H1 _ _,trivial⟩
  conv=>whnf
  refine ⟨13,by decide,⟨rfl,rfl,rfl,rfl,trivial⟩,?_,by decide⟩
  subst hz hkk
  rfl
 | 13,_ =>
  conv=>whnf
  refine ⟨fun _=>?_,fun h=>absurd (show ((13:Nat):Int)<16 by decide) h⟩
  conv=>whnf
  generalize hz:wN kk 13=z
  refine dO2 D115_5 [H1++[z.O4 13],H1++[S4.O4 { z with d:=orB z.d kd 8 } 14]] (by kernel_rfl) rfl trivial ?_
  conv=>whnf
  (refine dS ?_;(conv=>whnf))
  apply Exists.intro
  apply And.intro
  ·conv=>whnf
   exact oD
  conv=>whnf
  (refine dS ?_;(conv=>whnf))
  apply Exists.intro
  apply And.intro
  ·conv=>whnf
   exact oD
  conv=>whnf
  apply Exists.intro
  apply And.intro
  ·conv=>whnf
   exact oD
  conv=>whnf
  apply Exists.intro
  apply And.intro
  ·conv=>whnf
   ((conv in (_[_]?)=>tactic=>exact (z.look4 13 H1));(conv=>whnf))
   exact ⟨rfl,rfl,trivial⟩
  conv=>whnf
  (refine dS ?_;(conv=>whnf))
  refine ⟨.elem [bC kd],⟨⟨by decide,by decide⟩,[bC kd],at1' (k:=13) (by rw [hkk];rfl),rfl,rfl,trivial⟩,?_⟩
  conv=>whnf
  iterate 3 (refine dS ?_;(conv=>whnf))
  apply Exists.intro
  apply And.intro
  ·conv=>whnf
   exact oD
  conv=>whnf
  iterate 2 (refine dS ?_;(conv=>whnf))
  apply Exists.intro
  apply And.intro
  ·conv=>whnf
   exact oD
  conv=>whnf
  (refine dS ?_;(conv=>whnf))
  apply Exists.intro
  apply And.intro
  ·conv=>whnf
   exact oD
  conv=>whnf
  apply Exists.intro
  apply And.intro
  ·conv=>whnf
   ((conv in (_[_]?)=>tactic=>exact (z.look4 13 H1));(conv=>whnf))
   exact ⟨rfl,sL H1 _ _,trivial⟩
  conv=>whnf
  refine ⟨14,by decide,⟨rfl,rfl,rfl,rfl,trivial⟩,?_,by decide⟩
  subst hz hkk
  rfl
 | 14,_ =>
  conv=>whnf
  refine ⟨fun _=>?_,fun h=>absurd (show ((14:Nat):Int)<16 by decide) h⟩
  conv=>whnf
  generalize hz:wN kk 14=z
  refine dO2 D115_5 [H1++[z.O4 14],H1++[S4.O4 { z with d:=orB z.d ke 16 } 15]] (by kernel_rfl) rfl trivial ?_
  conv=>whnf
  (refine dS ?_;(conv=>whnf))
  apply Exists.intro
  apply And.intro
  ·conv=>whnf
   exact oD
  conv=>whnf
  (refine dS ?_;(conv=>whnf))
  apply Exists.intro
  apply And.intro
  ·conv=>whnf
   exact oD
  conv=>whnf
  apply Exists.intro
  apply And.intro
  ·conv=>whnf
   exact oD
  conv=>whnf
  apply Exists.intro
  apply And.intro
  ·conv=>whnf
   ((conv in (_[_]?)=>tactic=>exact (z.look4 14 H1));(conv=>whnf))
   exact ⟨rfl,rfl,trivial⟩
  conv=>whnf
  (refine dS ?_;(conv=>whnf))
  refine ⟨.elem [bC ke],⟨⟨by decide,by decide⟩,[bC ke],at1' (k:=14) (by rw [hkk];rfl),rfl,rfl,trivial⟩,?_⟩
  conv=>whnf
  iterate 3 (refine dS ?_;(conv=>whnf))
  apply Exists.intro
  apply And.intro
  ·conv=>whnf
   exact oD
  conv=>whnf
  iterate 2 (refine dS ?_;(conv=>whnf))
  apply Exists.intro
  apply And.intro
  ·conv=>whnf
   exact oD
  conv=>whnf
  (refine dS ?_;(conv=>whnf))
  apply Exists.intro
  apply And.intro
  ·conv=>whnf
   exact oD
  conv=>whnf
  apply Exists.intro
  apply And.intro
  ·conv=>whnf
   ((conv in (_[_]?)=>tactic=>exact (z.look4 14 H1));(conv=>whnf))
   exact ⟨rfl,sL H1 _ _,trivial⟩
  conv=>whnf
  refine ⟨15,by decide,⟨rfl,rfl,rfl,rfl,trivial⟩,?_,by decide⟩
  subst hz hkk
  rfl
 | 15,_ =>
  conv=>whnf
  refine ⟨fun _=>?_,fun h=>absurd (show ((15:Nat):Int)<16 by decide) h⟩
  conv=>whnf
  generalize hz:wN kk 15=z
  refine dO2 D115_5 [H1++[z.O4 15],H1++[S4.O4 { z with d:=orB z.d kf 24 } 16]] (by kernel_rfl) rfl trivial ?_
  conv=>whnf
  (refine dS ?_;(conv=>whnf))
  apply Exists.intro
  apply And.intro
  ·conv=>whnf
   exact oD
  conv=>whnf
  (refine dS ?_;(conv=>whnf))
  apply Exists.intro
  apply And.intro
  ·conv=>whnf
   exact oD
  conv=>whnf
  apply Exists.intro
  apply And.intro
  ·conv=>whnf
   exact oD
  conv=>whnf
  apply Exists.intro
  apply And.intro
  ·conv=>whnf
   ((conv in (_[_]?)=>tactic=>exact (z.look4 15 H1));(conv=>whnf))
   exact ⟨rfl,rfl,trivial⟩
  conv=>whnf
  (refine dS ?_;(conv=>whnf))
  refine ⟨.elem [bC kf],⟨⟨by decide,by decide⟩,[bC kf],at1' (k:=15) (by rw [hkk];rfl),rfl,rfl,trivial⟩,?_⟩
  conv=>whnf
  iterate 3 (refine dS ?_;(conv=>whnf))
  apply Exists.intro
  apply And.intro
  ·conv=>whnf
   exact oD
  conv=>whnf
  iterate 2 (refine dS ?_;(conv=>whnf))
  apply Exists.intro
  apply And.intro
  ·conv=>whnf
   exact oD
  conv=>whnf
  (refine dS ?_;(conv=>whnf))
  apply Exists.intro
  apply And.intro
  ·conv=>whnf
   exact oD
  conv=>whnf
  apply Exists.intro
  apply And.intro
  ·conv=>whnf
   ((conv in (_[_]?)=>tactic=>exact (z.look4 15 H1));(conv=>whnf))
   exact ⟨rfl,sL H1 _ _,trivial⟩
  conv=>whnf
  refine ⟨16,by decide,⟨rfl,rfl,rfl,rfl,trivial⟩,?_,by decide⟩
  subst hz hkk
  rfl
 | 16,_ =>
  conv=>whnf
  refine ⟨fun h=>absurd h (by decide),fun _=>?_⟩
  conv=>whnf
  have hs0:spN kk 0=wN kk 16:=spN_zero kk
  have hl2:(spL2 kk 0).map u32C=[u32C (wN kk 16).b,u32C (wN kk 16).c,u32C (wN kk 16).d]:=by rw [spL2_zero,List.map_cons,List.map_cons,List.map_cons,List.map_nil]
  have hl1':(spL kk z27 (0+1)).map u32C=u32C (wN kk 16).a::(z27.drop 1).map u32C:=by rw [spL_one,List.map_cons]
  generalize wN kk 16=w16 at hs0 hl2 hl1' ⊢
  obtain ⟨H2,hH2⟩:∃H2:PH,H2=H1++[w16.O4 16]:=⟨_,rfl⟩
  have hw2:∀x:PObj,(H2++[x])[H1.length]? = some ⟨281,[.int .u32 w16.a,.int .u32 w16.b,.int .u32 w16.c,.int .u32 w16.d],16⟩:=fun x=>by
   rw [List.getElem?_append_left (by rw [hH2];simp),hH2];exact gL H1 _
  rw [←hH2]
  refine ⟨by decide,?_⟩
  conv=>whnf
  ((conv in (_[_]?)=>tactic=>exact (hw2 _));(conv=>whnf))
  refine ⟨by decide,?_⟩
  conv=>whnf
  ((conv in (_[_]?)=>tactic=>exact (hw2 _));(conv=>whnf))
  refine ⟨by decide,?_⟩
  conv=>whnf
  ((conv in (_[_]?)=>tactic=>exact (hw2 _));(conv=>whnf))
  refine ⟨by decide,?_⟩
  conv=>whnf
  ((conv in (_[_]?)=>tactic=>exact (hw2 _));(conv=>whnf))
  refine ⟨by decide,?_⟩
  conv=>whnf
  ((conv in (_[_]?)=>tactic=>exact (gL H2 _));(conv=>whnf))
  refine lO Nat (fun i=>[(2,.ptr (some (H.length,0))),(5,.ptr (some (H2.length,0))),(6,.slice (i+3) ((spL2 kk i).map u32C) (some 226)),(7,.int .i64 i)]) (fun i=>H2++[PObj.mk 227 ((spL kk z27 (i+1)).map u32C) (i+1)]) (fun i=>i≤26) (fun i=>26 - i) ⟨0,Nat.zero_le _,⟨rfl,rfl,?_,rfl,trivial⟩,?_⟩ ?_
  ·exact congrArg (fun z=>PV.slice 3 z (some 226)) hl2.symm
  ·rw [hl1'];exact sL H2 _ _
  intro i hi
  conv=>whnf
  refine ⟨fun h=>?_,fun h=>?_⟩
  ·have h:(i:Int)<26:=h
   have hlen1:(spL kk z27 (i+1)).length=27:=spL_len kk z27 (i+1) rfl (by omega)
   have g0:=gL H2 (PObj.mk 227 ((spL kk z27 (i+1)).map u32C) (i+1))
   obtain ⟨r0,hr0⟩:=drop_u32 (spL_at kk (i+1) i (by omega) (by omega))
   conv=>whnf
   refine dO2 D115_12 [H2++[PObj.mk 227 ((spL kk z27 (i+1)).map u32C) (i+1)]] (by kernel_rfl) rfl ⟨trivial,trivial⟩ ?_
   conv=>whnf
   apply Exists.intro
   apply And.intro
   ·conv=>whnf
    exact ⟨rfl,rfl,rfl,trivial⟩
   conv=>whnf
   (refine dS ?_;(conv=>whnf))
   apply Exists.intro
   apply And.intro
   ·conv=>whnf
    refine ⟨⟨by show (0:Int)≤(i:Int);omega,by show (i:Int)<((27:Nat):Int);omega⟩,rfl,rfl,trivial⟩
   conv=>whnf
   apply Exists.intro
   apply And.intro
   ·conv=>whnf
    ((conv in (_[_]?)=>tactic=>exact g0);(conv=>whnf))
    ((conv in (dropN _ _)=>tactic=>exact hr0);(conv=>whnf))
    exact ⟨rfl,rfl,trivial⟩
   conv=>whnf
   iterate 2 (refine dS ?_;(conv=>whnf))
   refine ⟨.elem [u32C (spN kk i).b],⟨⟨by show (0:Int)≤(i:Int);omega,by show (i:Int)<((i+3:Nat):Int);omega⟩,[u32C (spN kk i).b],at1' (k:=(i:Int).toNat*1) (by rw [Int.toNat_natCast,Nat.mul_one,List.getElem?_map,spL2_get kk i i (by omega)];rfl),rfl,rfl,trivial⟩,?_⟩
   conv=>whnf
   (refine dS ?_;(conv=>whnf))
   refine ⟨_,cP (c180 _) ⟨rfl,rfl,trivial⟩,?_⟩
   conv=>whnf
   iterate 5 (refine dS ?_;(conv=>whnf))
   apply Exists.intro
   apply And.intro
   ·conv=>whnf
    refine ⟨⟨by show (i+3+1)*4≤_;omega,rfl,rfl⟩,?_⟩
    conv=>whnf
    exact ⟨rfl,rfl,trivial⟩
   conv=>whnf
   (refine dS ?_;(conv=>whnf))
   have hw1:IntKind.i64.wrap ((i:Int)+1)=((i+1:Nat):Int):=by rw [w64 (by omega) (by omega)];omega
   have hw3:IntKind.i64.wrap ((i:Int)+3)=((i+3:Nat):Int):=by rw [w64 (by omega) (by omega)];omega
   have hnx:PV.int .u32 (ibits .xor .u32 (IntKind.u32.wrap ((spN kk i).a+rot32 (spN kk i).b (-8))) (IntKind.u32.wrap (i:Int)))=u32C (spN kk (i+1)).d:=by rw [spN_next];rfl
   refine dO2 D115_13 [H2++[PObj.mk 227 ((spL kk z27 (i+1)).map u32C) (i+1)],H2++[PObj.mk 227 ((spL kk z27 (i+1+1)).map u32C) (i+1+1)]] (by kernel_rfl) rfl trivial ?_
   conv=>whnf
   (refine dS ?_;(conv=>whnf))
   refine ⟨.int .i64 ((i+1:Nat):Int),⟨congrArg (PV.int _) hw1,rfl,trivial⟩,?_⟩
   conv=>whnf
   (refine dS ?_;(conv=>whnf))
   apply Exists.intro
   apply And.intro
   ·conv=>whnf
    refine ⟨⟨by show (0:Int)≤(i:Int);omega,by show (i:Int)<((27:Nat):Int);omega⟩,rfl,rfl,trivial⟩
   conv=>whnf
   apply Exists.intro
   apply And.intro
   ·conv=>whnf
    ((conv in (_[_]?)=>tactic=>exact g0);(conv=>whnf))
    ((conv in (dropN _ _)=>tactic=>exact hr0);(conv=>whnf))
    exact ⟨rfl,rfl,trivial⟩
   conv=>whnf
   refine ⟨_,cP (c181 _) ⟨rfl,rfl,trivial⟩,?_⟩
   conv=>whnf
   iterate 2 (refine dS ?_;(conv=>whnf))
   refine ⟨.int .i64 ((i+3:Nat):Int),⟨congrArg (PV.int _) hw3,rfl,trivial⟩,?_⟩
   conv=>whnf
   refine ⟨.elem [u32C (spN kk (i+1)).d],⟨⟨by show (0:Int)≤((i+3:Nat):Int);omega,by show ((i+3:Nat):Int)<((i+3+1:Nat):Int);omega⟩,[u32C (spN kk (i+1)).d],at1' (k:=((i+3:Nat):Int).toNat*1) (by
    have e:((i+3:Nat):Int).toNat*1=i+3:=by omega
    rw [e,List.getElem?_append_right (by rw [List.length_map,spL2_len];omega),List.length_map,spL2_len,Nat.sub_self]
    exact congrArg some hnx),rfl,rfl,trivial⟩,?_⟩
   conv=>whnf
   iterate 2 (refine dS ?_;(conv=>whnf))
   apply Exists.intro
   apply And.intro
   ·conv=>whnf
    refine ⟨⟨by show (0:Int)≤((i+1:Nat):Int);omega,by show ((i+1:Nat):Int)<((27:Nat):Int);omega⟩,rfl,rfl,trivial⟩
   conv=>whnf
   apply Exists.intro
   apply And.intro
   ·conv=>whnf
    ((conv in (_[_]?)=>tactic=>exact g0);(conv=>whnf))
    ((conv in (Nat.ble _ _)=>tactic=>exact (show Nat.ble (0+((i+1:Nat):Int).toNat*1+1) ((spL kk z27 (i+1)).map u32C).length=true by rw [Nat.ble_eq,List.length_map,hlen1];omega));(conv=>whnf))
    refine ⟨rfl,?_,trivial⟩
    refine (sL H2 _ _).trans (congrArg (fun o=>H2++[o]) ?_)
    show PObj.mk 227 (setCells (0+((i+1:Nat):Int).toNat*1) [u32C (xor32 (rot32 (spN kk i).a 3) (spN kk (i+1)).d)] ((spL kk z27 (i+1)).map u32C)) (i+1+1)=_
    rw [←spN_a]
    have:=setCells_mid [] [] (spL kk z27 (i+1)) (i+1) (0+((i+1:Nat):Int).toNat*1) (spN kk (i+1)).a (by omega) (by simp)
    rw [List.nil_append,List.append_nil,List.nil_append,List.append_nil,spL_set kk z27 (i+1) rfl (by omega)] at this
    rw [this]
   conv=>whnf
   refine ⟨i+1,by omega,⟨rfl,rfl,?_,?_,trivial⟩,rfl,by omega⟩
   ·show PV.slice (i+3+1) ((spL2 kk i).map u32C++[PV.int .u32 (ibits .xor .u32 (IntKind.u32.wrap ((spN kk i).a+rot32 (spN kk i).b (-8))) (IntKind.u32.wrap (i:Int)))]) (some 226)=PV.slice (i+1+3) ((spL2 kk (i+1)).map u32C) (some 226)
    rw [hnx,spL2_succ,List.map_append,spN_d,List.map_cons,List.map_nil,show i+3+1=i+1+3 by omega,show i+1+2=i+3 by omega]
   ·exact congrArg (PV.int _) hw1
  ·have h:¬(i:Int)<26:=h
   have e:i=26:=by omega
   subst e
   have hspl:spL kk z27 (26+1)=spW kk:=by
    unfold spL spW
    rw [List.drop_of_length_le (by show 27≤26+1;omega),List.append_nil]
   rw [hspl]
   conv=>whnf
   ((conv in (_[_]?)=>tactic=>exact (gL H2 _));(conv=>whnf))
   have hR:∀x:PObj,(H2++[x])[H.length]? = some ⟨227,z27.map u32C,0⟩:=fun x=>by
    rw [List.getElem?_append_left (by rw [hH2];simp;omega),hH2,List.getElem?_append_left (by omega)];exact hr1
   ((conv in (_[_]?)=>tactic=>exact (hR _));(conv=>whnf))
   have hW:setCells 0 (((dropN 0 ((spW kk).map u32C)).take 27).map dem) (z27.map u32C)=(spW kk).map u32C:=by
    rw [agg27 _ (spW_len kk),setCells_eq _ _ _ (by rw [List.length_map,List.length_map,spW_len];exact Nat.le_refl _),List.take_zero,List.drop_of_length_le (by rw [List.length_map,List.length_map,spW_len];exact Nat.le_refl _),List.nil_append,List.append_nil]
   have h2:((H2++[PObj.mk 227 ((spW kk).map u32C) (26+1)]).set H.length (PObj.mk 227 (setCells 0 (((dropN 0 ((spW kk).map u32C)).take 27).map dem) (z27.map u32C)) (0+1)))[H.length]? = some (PObj.mk 227 ((spW kk).map u32C) 1):=by
    rw [gS (hR _),hW]
   generalize hh:(setH _ _ _ _)[List.length H]? = X
   rw [show X=some (PObj.mk 227 ((spW kk).map u32C) 1) from hh.symm.trans h2]
   conv=>whnf
   refine ⟨congrArg PV.agg (agg27 _ (spW_len kk)),?_⟩
   refine ext_of ?_ fun j hj=>?_
   ·show H.length≤((H2++[_]).set _ _).length
    rw [List.length_set,List.length_append,hH2,List.length_append];omega
   ·show ((H2++[_]).set H.length _)[j]? = _
    rw [List.getElem?_set_ne (by omega),List.getElem?_append_left (by rw [hH2,List.length_append];omega),hH2,List.getElem?_append_left (by omega),hH1,List.getElem?_append_left hj]
 | j+17,hj=>exact absurd hj (by omega)
theorem oldPs_u32 (l:List Int):oldPs (l.map u32C)=true:=by
 induction l with
 | nil=>rfl
 | cons x l ih=>simp [oldPs,oldP,u32C,ih]
theorem c115 (k:List UInt8) (hk:k.length=16):Pure prog 115 [.agg (k.map bC)] (.agg ((spW k).map u32C)) :=
 Pure.of_gc (by simp [oldR,oldP,oldPs_u32]) fun H=>c115x k hk H
set_option maxHeartbeats 2000000
def ttQ4:TT:=[(3,⟨.int .i64,1,8,[.int .i64 0]⟩),(5,⟨.int .u8,1,1,[.int .u8 0]⟩),(9,⟨.str,1,16,[.str []]⟩),(26,⟨.slice 5,1,24,[.slice 0 [] (some 5)]⟩),(43,⟨.arr 32 5,32,32,List.replicate 32 (.int .u8 0)⟩),(221,⟨.arr 16 5,16,16,List.replicate 16 (.int .u8 0)⟩),(142,⟨.int .u64,1,8,[.int .u64 0]⟩),(155,⟨.int .u64,1,8,[.int .u64 0]⟩),(226,⟨.int .u32,1,4,[.int .u32 0]⟩),(227,⟨.arr 27 226,27,108,List.replicate 27 (.int .u32 0)⟩)]
theorem ttQ4_ok:ttOk prog ttQ4=true:=by kernel_rfl
def imm85:List Nat:=[2000002]
def imm54:List Nat:=[]
def imm112:List Nat:=[1]
def imm55:List Nat:=[3]
def imm56:List Nat:=[4]
def imm34:List Nat:=[4]
def imm22:List Nat:=[3]
theorem c85 (n:Int):Pure prog 85 [.int .u64 n] (ow (bigV n)):=by
 intro H
 (refine fnS (imm:=imm85) ttQ4_ok func85 ?_;(conv=>whnf))
 refine lO Nat (fun k=>[(0,.int .u64 n),(3,ow ((bigV n).take k)),(4,.int .i64 (7 - (k:Int)))]) (fun _=>H) (fun k=>k≤8) (fun k=>8 - k) ⟨0,Nat.zero_le _,⟨rfl,rfl,rfl,trivial⟩,rfl⟩ ?_
 intro i hi
 match i,hi with
 | 0,_ =>
  conv=>whnf
  refine ⟨fun _=>?_,fun h=>absurd (show (0:Int)≤7 - ((0:Nat):Int) by decide) h⟩
  conv=>whnf
  refine ⟨by decide,?_⟩
  conv=>whnf
  refine ⟨⟨by show (0+1)*1≤140737488355328;decide,rfl,rfl⟩,?_⟩
  conv=>whnf
  refine ⟨1,by decide,⟨rfl,?_,rfl,trivial⟩,rfl,by decide⟩
  show PV.slice 1 (((bigV n).take 0).map bC++[.int .u8 (IntKind.u8.wrap (ishr .u64 n 56))]) (some 5)=ow ((bigV n).take 1)
  rw [byteC_I]
  rfl
 | 1,_ =>
  conv=>whnf
  refine ⟨fun _=>?_,fun h=>absurd (show (0:Int)≤7 - ((1:Nat):Int) by decide) h⟩
  conv=>whnf
  refine ⟨by decide,?_⟩
  conv=>whnf
  refine ⟨⟨by show (1+1)*1≤140737488355328;decide,rfl,rfl⟩,?_⟩
  conv=>whnf
  refine ⟨2,by decide,⟨rfl,?_,rfl,trivial⟩,rfl,by decide⟩
  show PV.slice 2 (((bigV n).take 1).map bC++[.int .u8 (IntKind.u8.wrap (ishr .u64 n 48))]) (some 5)=ow ((bigV n).take 2)
  rw [byteC_I]
  rfl
 | 2,_ =>
  conv=>whnf
  refine ⟨fun _=>?_,fun h=>absurd (show (0:Int)≤7 - ((2:Nat):Int) by decide) h⟩
  conv=>whnf
  refine ⟨by decide,?_⟩
  conv=>whnf
  refine ⟨⟨by show (2+1)*1≤140737488355328;decide,rfl,rfl⟩,?_⟩
  conv=>whnf
  refine ⟨3,by decide,⟨rfl,?_,rfl,trivial⟩,rfl,by decide⟩
  show PV.slice 3 (((bigV n).take 2).map bC++[.int .u8 (IntKind.u8.wrap (ishr .u64 n 40))]) (some 5)=ow ((bigV n).take 3)
  rw [byteC_I]
  rfl
 | 3,_ =>
  conv=>whnf
  refine ⟨fun _=>?_,fun h=>absurd (show (0:Int)≤7 - ((3:Nat):Int) by decide) h⟩
  conv=>whnf
  refine ⟨by decide,?_⟩
  conv=>whnf
  refine ⟨⟨by show (3+1)*1≤140737488355328;decide,rfl,rfl⟩,?_⟩
  conv=>whnf
  refine ⟨4,by decide,⟨rfl,?_,rfl,trivial⟩,rfl,by decide⟩
  show PV.slice 4 (((bigV n).take 3).map bC++[.int .u8 (IntKind.u8.wrap (ishr .u64 n 32))]) (some 5)=ow ((bigV n).take 4)
  rw [byteC_I]
  rfl
 | 4,_ =>
  conv=>whnf
  refine ⟨fun _=>?_,fun h=>absurd (show (0:Int)≤7 - ((4:Nat):Int) by decide) h⟩
  conv=>whnf
  refine ⟨by decide,?_⟩
  conv=>whnf
  refine ⟨⟨by show (4+1)*1≤140737488355328;decide,rfl,rfl⟩,?_⟩
  conv=>whnf
  refine ⟨5,by decide,⟨rfl,?_,rfl,trivial⟩,rfl,by decide⟩
  show PV.slice 5 (((bigV n).take 4).map bC++[.int .u8 (IntKind.u8.wrap (ishr .u64 n 24))]) (some 5)=ow ((bigV n).take 5)
  rw [byteC_I]
  rfl
 | 5,_ =>
  conv=>whnf
  refine ⟨fun _=>?_,fun h=>absurd (show (0:Int)≤7 - ((5:Nat):Int) by decide) h⟩
  conv=>whnf
  refine ⟨by decide,?_⟩
  conv=>whnf
  refine ⟨⟨by show (5+1)*1≤140737488355328;decide,rfl,rfl⟩,?_⟩
  conv=>whnf
  refine ⟨6,by decide,⟨rfl,?_,rfl,trivial⟩,rfl,by decide⟩
  show PV.slice 6 (((bigV n).take 5).map bC++[.int .u8 (IntKind.u8.wrap (ishr .u64 n 16))]) (some 5)=ow ((bigV n).take 6)
  rw [byteC_I]
  rfl
 | 6,_ =>
  conv=>whnf
  refine ⟨fun _=>?_,fun h=>absurd (show (0:Int)≤7 - ((6:Nat):Int) by decide) h⟩
  conv=>whnf
  refine ⟨by decide,?_⟩
  conv=>whnf
  refine ⟨⟨by show (6+1)*1≤140737488355328;decide,rfl,rfl⟩,?_⟩
  conv=>whnf
  refine ⟨7,by decide,⟨rfl,?_,rfl,trivial⟩,rfl,by decide⟩
  show PV.slice 7 (((bigV n).take 6).map bC++[.int .u8 (IntKind.u8.wrap (ishr .u64 n 8))]) (some 5)=ow ((bigV n).take 7)
  rw [byteC_I]
  rfl
 | 7,_ =>
  conv=>whnf
  refine ⟨fun _=>?_,fun h=>absurd (show (0:Int)≤7 - ((7:Nat):Int) by decide) h⟩
  conv=>whnf
  refine ⟨by decide,?_⟩
  conv=>whnf
  refine ⟨⟨by show (7+1)*1≤140737488355328;decide,rfl,rfl⟩,?_⟩
  conv=>whnf
  refine ⟨8,by decide,⟨rfl,?_,rfl,trivial⟩,rfl,by decide⟩
  show PV.slice 8 (((bigV n).take 7).map bC++[.int .u8 (IntKind.u8.wrap (ishr .u64 n 0))]) (some 5)=ow ((bigV n).take 8)
  rw [byteC_I]
  rfl
 | 8,_ =>
  conv=>whnf
  refine ⟨fun h=>absurd h (by decide),fun _=>?_⟩
  conv=>whnf
  exact ⟨rfl,rfl⟩
theorem be_step2 (l:List UInt8) (c:UInt8) (h:l.length<8):ibits .or .u64 (ishl .u64 (beN l:Nat) 8) (IntKind.u64.wrap c.toNat)=((beN (l++[c]):Nat):Int):=by
 have hc:=c.toNat_lt
 have h1:=beN_lt l rfl
 rw [pow8] at h1
 have h3:2 ^ (8*(l.length+1))≤18446744073709551616:=pow_le8 (by omega)
 have h4:2 ^ (8*(l.length+1))=256*2 ^ (8*l.length):=by rw [Nat.mul_add,Nat.pow_add];omega
 have h5:beN l*256<18446744073709551616:=by omega
 have e:ishl .u64 (beN l:Nat) 8=((beN l*256:Nat):Int):=by
  show IntKind.u64.wrap ((beN l:Int)*2 ^ (min (8:Int).toNat 64))=_
  have:((beN l:Int)*2 ^ (min (8:Int).toNat 64))=((beN l*256:Nat):Int):=by push_cast;rfl
  rw [this]
  exact wrapU64 h5
 rw [e,wrapU64 (by omega),or_u64 h5 (by omega),beN_snoc,show beN l*256=2 ^ 8*beN l by omega,←Nat.two_pow_add_eq_or_of_lt (by omega:c.toNat<2 ^ 8)]
theorem c54 (b:List UInt8) (hb:8≤b.length):Pure prog 54 [sl b] (.int .u64 (beN (b.take 8))):=by
 intro H
 (refine fnS (imm:=imm54) ttQ4_ok func54 ?_;(conv=>whnf))
 refine lO Nat (fun i=>[(0,sl b),(3,.int .u64 (beN (b.take i))),(4,.int .i64 i)]) (fun _=>H) (fun i=>i≤8) (fun i=>8 - i) ⟨0,Nat.zero_le _,⟨rfl,rfl,rfl,trivial⟩,rfl⟩ ?_
 intro i hi
 conv=>whnf
 refine ⟨fun h=>?_,fun h=>?_⟩
 ·have h:(i:Int)<8:=h
  have hi':i<b.length:=by omega
  conv=>whnf
  refine ⟨by decide,?_⟩
  conv=>whnf
  refine ⟨⟨by omega,by show (i:Int)<(b.length:Int);omega⟩,[bC b[i]],at1' (k:=(i:Int).toNat*1) (by rw [Int.toNat_natCast,Nat.mul_one,List.getElem?_map,List.getElem?_eq_getElem hi'];rfl),?_⟩
  conv=>whnf
  refine ⟨i+1,by omega,⟨rfl,?_,?_,trivial⟩,rfl,by omega⟩
  ·show PV.int _ (ibits .or .u64 (ishl .u64 (beN (b.take i):Nat) 8) (IntKind.u64.wrap (b[i].toNat:Int)))=PV.int _ _
   have hl:(b.take i).length=i:=by rw [List.length_take];omega
   rw [List.take_succ_eq_append_getElem hi',be_step2 (b.take i) b[i] (by omega)]
  ·show PV.int _ (IntKind.i64.wrap ((i:Int)+1))=PV.int _ _
   rw [w64 (by omega) (by omega)];simp
 ·have h:¬(i:Int)<8:=h
  have e:i=8:=by omega
  subst e
  conv=>whnf
  exact ⟨rfl,rfl⟩
def cur16 (l:List UInt8) (i:Nat):List UInt8:=l.take i++List.replicate (16 - i) 0
theorem cur16_len (l:List UInt8) (i:Nat) (hl:16≤l.length) (hi:i≤16):(cur16 l i).length=16:=by
 unfold cur16
 rw [List.length_append,List.length_take,List.length_replicate];omega
theorem cur16_set (l:List UInt8) (i:Nat) (hl:16≤l.length) (hi:i<16):(cur16 l i).set i (l[i]'(by omega))=cur16 l (i+1):=by
 unfold cur16
 rw [List.set_append_right _ _ (by rw [List.length_take];omega),List.length_take,Nat.min_eq_left (by omega),Nat.sub_self,show 16 - i=(16 - (i+1))+1 by omega,List.replicate_succ,List.set_cons_zero,List.take_succ_eq_append_getElem (by omega),List.append_assoc]
 rfl
theorem get2a (H:PH) (a b:PObj):(H++[a,b])[H.length]? = some a:=by simp
theorem get2b (H:PH) (a b:PObj):(H++[a,b])[H.length+1]? = some b:=by simp
theorem set2a (H:PH) (a b o:PObj):(H++[a,b]).set H.length o=H++[o,b]:=by simp
theorem set2b (H:PH) (a b o:PObj):(H++[a,b]).set (H.length+1) o=H++[a,o]:=by
 rw [List.set_append_right _ _ (by omega),show H.length+1 - H.length=1 by omega];rfl
def B16 (l:List UInt8) (v:Nat):PObj:=⟨221,l.map bC,v⟩
def D112_5:Draw:={ imp:=[10,12],win:=[(1,0,1),(5,0,1),(6,0,1),(7,0,1),(8,0,1),(11,1,1),(12,1,1)] }
def D112_6:Draw:={ imp:=[2,3],win:=[(1,0,1),(3,1,1)] }
theorem setCells_app0 (cs:List UInt8) (i:Nat) (x:UInt8) (h:i<cs.length):setCells i [bC x] (cs.map bC)=(cs.set i x).map bC:=by
 have:=setCells_app cs [] i x h
 rw [List.append_nil,List.append_nil] at this
 exact this
theorem agg16 (l:List UInt8) (hl:l.length=16):((dropN 0 (l.map bC)).take 16).map dem=l.map bC:=by
 rw [dropN_eq,List.drop_zero,List.take_of_length_le (by rw [List.length_map];omega),List.map_map]
 rfl
theorem set16 (l:List UInt8) (hl:l.length=16):setCells 0 (l.map bC) ((List.replicate 16 (0:UInt8)).map bC)=l.map bC:=by
 rw [setCells_eq _ _ _ (by rw [List.length_map,hl];exact Nat.le_refl _),List.take_zero,List.drop_of_length_le (by simp [hl]),List.nil_append,List.append_nil]
theorem oldPs_bytesY (l:List UInt8):oldPs (l.map bC)=true:=by
 induction l with
 | nil=>rfl
 | cons x l ih=>simp [oldPs,oldP,bC,ih]
theorem c112x (k:List UInt8) (hk:k.length=32) (H:PH):CK prog 112 [.agg (k.map bC)] H fun r H'=>r=.tup [.agg ((k.take 16).map bC),.agg ((k.drop 16).map bC)]∧∃ext,H'=H++ext:=by
 (refine fnS (imm:=imm112) ttQ4_ok func112 ?_;(conv=>whnf))
 obtain ⟨H3,hH3⟩:∃H3:PH,H3=H++[B16 (List.replicate 16 0) 0,B16 (List.replicate 16 0) 0]:=⟨_,rfl⟩
 have hd16:16≤(k.drop 16).length:=by rw [List.length_drop];omega
 refine lO Nat (fun i=>[(1,.elem (k.map bC)),(2,.ptr (some (H.length,0))),(3,.ptr (some (H.length+1,0))),(4,.ptr (some (H3.length,0))),(5,.ptr (some (H3.length+1,0))),(6,.int .i64 i)]) (fun i=>H3++[B16 (cur16 k i) i,B16 (cur16 (k.drop 16) i) i]) (fun i=>i≤16) (fun i=>16 - i) ⟨0,Nat.zero_le _,⟨rfl,rfl,?_,?_,?_,rfl,trivial⟩,?_⟩ ?_
 ·show PV.ptr (some ((H++[_]).length,0))=_
  simp
 ·show PV.ptr (some ((H++[_]++[_]).length,0))=_
  simp [hH3]
 ·show PV.ptr (some ((H++[_]++[_]++[_]).length,0))=_
  simp [hH3]
 ·subst hH3
  show H++[_]++[_]++[_]++[_]=_
  simp only [List.append_assoc,List.cons_append,List.nil_append]
  rfl
 intro i hi
 conv=>whnf
 refine ⟨fun h=>?_,fun h=>?_⟩
 ·have h:(i:Int)<16:=h
  have hia:i<k.length:=by omega
  have hib:i<(k.drop 16).length:=by omega
  have hib2:16+i<k.length:=by omega
  have hw:IntKind.i64.wrap (16+(i:Int))=((16+i:Nat):Int):=by rw [w64 (by omega) (by omega)];omega
  have hgb:(k.drop 16)[i]=k[16+i]:=by rw [List.getElem_drop]
  have lA:=cur16_len k i (by omega) (by omega)
  have lB:=cur16_len (k.drop 16) i hd16 (by omega)
  conv=>whnf
  refine dO2 D112_5 [H3++[B16 (cur16 k i) i,B16 (cur16 (k.drop 16) i) i],H3++[B16 (cur16 k (i+1)) (i+1),B16 (cur16 (k.drop 16) i) i],H3++[B16 (cur16 k (i+1)) (i+1),B16 (cur16 (k.drop 16) (i+1)) (i+1)]] (by kernel_rfl) rfl trivial ?_
  conv=>whnf
  (refine dS ?_;(conv=>whnf))
  (refine dS2 ?_;(conv=>whnf))
  (refine dS ?_;(conv=>whnf))
  refine ⟨.elem [bC k[i]],⟨⟨by show (0:Int)≤(i:Int);omega,by show (i:Int)<((32:Nat):Int);omega⟩,[bC k[i]],at1' (k:=(i:Int).toNat*1) (by rw [Int.toNat_natCast,Nat.mul_one,List.getElem?_map,List.getElem?_eq_getElem hia];rfl),rfl,rfl,trivial⟩,?_⟩
  conv=>whnf
  (refine dS ?_;(conv=>whnf))
  (refine dS2 ?_;(conv=>whnf))
  refine ⟨.int .i64 ((16+i:Nat):Int),⟨⟨congrArg (PV.int _) hw,rfl,trivial⟩,⟨congrArg (PV.int _) hw,rfl,trivial⟩⟩,?_⟩
  conv=>whnf
  refine ⟨.elem [bC k[16+i]],?_,?_⟩
  ·conv=>whnf
   have hq:∀(j:Nat) (c:PV),[bC k[16+i]][j]? = some c→(k.map bC)[((16+i:Nat):Int).toNat*1+j]? = some c:=at1' (by rw [Int.toNat_natCast,Nat.mul_one,List.getElem?_map,List.getElem?_eq_getElem hib2];rfl)
   exact ⟨⟨⟨by omega,by show ((16+i:Nat):Int)<((32:Nat):Int);omega⟩,_,hq,rfl,rfl,trivial⟩,⟨⟨by omega,by show ((16+i:Nat):Int)<((32:Nat):Int);omega⟩,_,hq,rfl,rfl,trivial⟩⟩
  conv=>whnf
  (refine dS2 ?_;(conv=>whnf))
  apply Exists.intro
  apply And.intro
  ·conv=>whnf
   refine ⟨⟨by show (0:Int)≤(i:Int);omega,by show (i:Int)<((16:Nat):Int);omega⟩,rfl,rfl,trivial⟩
  conv=>whnf
  apply Exists.intro
  apply And.intro
  ·conv=>whnf
   ((conv in (_[_]?)=>tactic=>exact (get2a H3 _ _));(conv=>whnf))
   ((conv in (Nat.ble _ _)=>tactic=>exact (show Nat.ble (0+(i:Int).toNat*1+1) ((cur16 k i).map bC).length=true by rw [Nat.ble_eq,List.length_map,lA];omega));(conv=>whnf))
   refine ⟨rfl,?_,trivial⟩
   refine (set2a H3 _ _ _).trans (congrArg (fun o=>H3++[o,_]) ?_)
   show PObj.mk 221 (setCells (0+(i:Int).toNat*1) [bC k[i]] ((cur16 k i).map bC)) (i+1)=_
   rw [show 0+(i:Int).toNat*1=i by omega,setCells_app0 _ _ _ (by omega),cur16_set k i (by omega) (by omega)];rfl
  conv=>whnf
  apply Exists.intro
  apply And.intro
  ·conv=>whnf
   refine ⟨⟨by show (0:Int)≤(i:Int);omega,by show (i:Int)<((16:Nat):Int);omega⟩,rfl,rfl,trivial⟩
  conv=>whnf
  apply Exists.intro
  apply And.intro
  ·conv=>whnf
   ((conv in (_[_]?)=>tactic=>exact (get2b H3 _ _));(conv=>whnf))
   ((conv in (Nat.ble _ _)=>tactic=>exact (show Nat.ble (0+(i:Int).toNat*1+1) ((cur16 (k.drop 16) i).map bC).length=true by rw [Nat.ble_eq,List.length_map,lB];omega));(conv=>whnf))
   refine ⟨rfl,?_,trivial⟩
   refine (set2b H3 _ _ _).trans (congrArg (fun o=>H3++[_,o]) ?_)
   show PObj.mk 221 (setCells (0+(i:Int).toNat*1) [bC k[16+i]] ((cur16 (k.drop 16) i).map bC)) (i+1)=_
   rw [show 0+(i:Int).toNat*1=i by omega,setCells_app0 _ _ _ (by omega),←hgb,cur16_set (k.drop 16) i hd16 (by omega)];rfl
  conv=>whnf
  refine ⟨i+1,by omega,⟨rfl,rfl,rfl,rfl,rfl,?_,trivial⟩,rfl,by omega⟩
  show PV.int _ (IntKind.i64.wrap ((i:Int)+1))=PV.int _ _
  rw [w64 (by omega) (by omega)];simp
 ·have h:¬(i:Int)<16:=h
  have e:i=16:=by omega
  subst e
  have e1:cur16 k 16=k.take 16:=by unfold cur16;exact List.append_nil _
  have e2:cur16 (k.drop 16) 16=k.drop 16:=by
   unfold cur16
   rw [List.take_of_length_le (by rw [List.length_drop];omega)];exact List.append_nil _
  rw [e1,e2]
  have h1:(k.take 16).length=16:=by rw [List.length_take];omega
  have h2:(k.drop 16).length=16:=by rw [List.length_drop];omega
  have g1:(H3++[B16 (k.take 16) 16,B16 (k.drop 16) 16])[H.length]? = some (B16 (List.replicate 16 0) 0):=by
   rw [List.getElem?_append_left (by rw [hH3];simp),hH3];exact get2a H _ _
  have g2:(H3++[B16 (k.take 16) 16,B16 (k.drop 16) 16])[H.length+1]? = some (B16 (List.replicate 16 0) 0):=by
   rw [List.getElem?_append_left (by rw [hH3];simp),hH3];exact get2b H _ _
  have g3:(H3++[B16 (k.take 16) 16,B16 (k.drop 16) 16])[H3.length]? = some (B16 (k.take 16) 16):=get2a H3 _ _
  have g4:(H3++[B16 (k.take 16) 16,B16 (k.drop 16) 16])[H3.length+1]? = some (B16 (k.drop 16) 16):=get2b H3 _ _
  have b1:Nat.ble 16 (dropN 0 ((k.take 16).map bC)).length=true:=by rw [Nat.ble_eq,dropN_eq,List.drop_zero,List.length_map,h1];exact Nat.le_refl _
  have b2:Nat.ble 16 (dropN 0 ((k.drop 16).map bC)).length=true:=by rw [Nat.ble_eq,dropN_eq,List.drop_zero,List.length_map,h2];exact Nat.le_refl _
  have q1:Nat.beq ((k.take 16).map bC).length 16=true:=by rw [List.length_map,h1];rfl
  have q2:Nat.beq ((k.drop 16).map bC).length 16=true:=by rw [List.length_map,h2];rfl
  have hlen3:H3.length=H.length+2:=by rw [hH3];simp
  have hXl:(H3++[B16 (k.take 16) 16,B16 (k.drop 16) 16]).length=H3.length+2:=by simp
  have hfr:∀j,j<H.length→(H3++[B16 (k.take 16) 16,B16 (k.drop 16) 16])[j]? = H[j]?:=fun j hj=>by
   rw [List.getElem?_append_left (by omega),hH3,List.getElem?_append_left hj]
  generalize H3++[B16 (k.take 16) 16,B16 (k.drop 16) 16]=X at g1 g2 g3 g4 hXl hfr ⊢
  have g4':(X.set H.length (B16 (k.take 16) 1))[H3.length+1]? = some (B16 (k.drop 16) 16):=by rw [List.getElem?_set_ne (by omega)];exact g4
  have g2':(X.set H.length (B16 (k.take 16) 1))[H.length+1]? = some (B16 (List.replicate 16 0) 0):=by rw [List.getElem?_set_ne (by omega)];exact g2
  conv=>whnf
  refine dO2 D112_6 [X,X.set H.length (B16 (k.take 16) 1),(X.set H.length (B16 (k.take 16) 1)).set (H.length+1) (B16 (k.drop 16) 1)] (by kernel_rfl) rfl trivial ?_
  conv=>whnf
  refine ⟨.agg ((k.take 16).map bC),?_,?_⟩
  ·conv=>whnf
   ((conv in (_[_]?)=>tactic=>exact g3);(conv=>whnf))
   ((conv in (Nat.ble _ _)=>tactic=>exact b1);(conv=>whnf))
   exact ⟨congrArg PV.agg (agg16 _ h1),rfl,trivial⟩
  conv=>whnf
  refine ⟨.agg ((k.drop 16).map bC),?_,?_⟩
  ·conv=>whnf
   refine ⟨?_,?_⟩
   ·conv=>whnf
    ((conv in (_[_]?)=>tactic=>exact g4);(conv=>whnf))
    ((conv in (Nat.ble _ _)=>tactic=>exact b2);(conv=>whnf))
    exact ⟨congrArg PV.agg (agg16 _ h2),rfl,trivial⟩
   ·conv=>whnf
    ((conv in (_[_]?)=>tactic=>exact g4');(conv=>whnf))
    ((conv in (Nat.ble _ _)=>tactic=>exact b2);(conv=>whnf))
    exact ⟨congrArg PV.agg (agg16 _ h2),rfl,trivial⟩
  conv=>whnf
  apply Exists.intro
  apply And.intro
  ·conv=>whnf
   ((conv in (_[_]?)=>tactic=>exact g1);(conv=>whnf))
   (conv in (Nat.beq _ _)=>tactic=>exact q1)
   conv=>whnf
   (conv in (List.all _ _)=>tactic=>exact allOne (k.take 16))
   conv=>whnf
   refine ⟨rfl,?_,trivial⟩
   show X.set H.length (PObj.mk 221 (setCells 0 ((k.take 16).map bC) ((List.replicate 16 (0:UInt8)).map bC)) (0+1))=_
   rw [set16 _ h1];rfl
  conv=>whnf
  apply Exists.intro
  apply And.intro
  ·conv=>whnf
   ((conv in (_[_]?)=>tactic=>exact g2');(conv=>whnf))
   (conv in (Nat.beq _ _)=>tactic=>exact q2)
   conv=>whnf
   (conv in (List.all _ _)=>tactic=>exact allOne (k.drop 16))
   conv=>whnf
   refine ⟨rfl,?_,trivial⟩
   show (X.set H.length _).set (H.length+1) (PObj.mk 221 (setCells 0 ((k.drop 16).map bC) ((List.replicate 16 (0:UInt8)).map bC)) (0+1))=_
   rw [set16 _ h2];rfl
  conv=>whnf
  have r1:((X.set H.length (B16 (k.take 16) 1)).set (H.length+1) (B16 (k.drop 16) 1))[H.length]? = some (B16 (k.take 16) 1):=by
   rw [List.getElem?_set_ne (by omega)];exact gS g1
  have r2:((X.set H.length (B16 (k.take 16) 1)).set (H.length+1) (B16 (k.drop 16) 1))[H.length+1]? = some (B16 (k.drop 16) 1):=gS g2'
  ((conv in (_[_]?)=>tactic=>exact r1);(conv=>whnf))
  ((conv in (Nat.ble _ _)=>tactic=>exact b1);(conv=>whnf))
  ((conv in (_[_]?)=>tactic=>exact r2);(conv=>whnf))
  ((conv in (Nat.ble _ _)=>tactic=>exact b2);(conv=>whnf))
  refine ⟨?_,?_⟩
  ·show PV.tup [.agg (((dropN 0 ((k.take 16).map bC)).take 16).map dem),.agg (((dropN 0 ((k.drop 16).map bC)).take 16).map dem)]=_
   rw [agg16 _ h1,agg16 _ h2]
  ·refine ext_of (by show H.length≤((X.set _ _).set _ _).length;rw [List.length_set,List.length_set];omega) fun j hj=>?_
   show ((X.set H.length _).set (H.length+1) _)[j]? = _
   rw [List.getElem?_set_ne (by omega),List.getElem?_set_ne (by omega)]
   exact hfr j hj
theorem c112 (k:List UInt8) (hk:k.length=32):Pure prog 112 [.agg (k.map bC)] (.tup [.agg ((k.take 16).map bC),.agg ((k.drop 16).map bC)]) :=
 Pure.of_gc (by show (oldPs ((k.take 16).map bC)&&(oldPs ((k.drop 16).map bC)&&true))=true;rw [oldPs_bytesY,oldPs_bytesY];rfl) fun H=>c112x k hk H
theorem agg32 (l:List UInt8) (hl:l.length=32):((dropN 0 (l.map bC)).take 32).map dem=l.map bC:=by
 rw [dropN_eq,List.drop_zero,List.take_of_length_le (by rw [List.length_map];omega),List.map_map]
 rfl
theorem gA (H:PH) (a b:PObj):(H++[a]++[b])[H.length]? = some a:=by simp
theorem gB (H:PH) (a b c:PObj):((H++[a]++[b]).set H.length c)[(H++[a]).length]? = some b:=by
 rw [List.getElem?_set_ne (by simp)];exact gL _ b
def D55:Draw:={ cons:=[(5,[17])] }
theorem c55x (k:List UInt8) (hk:k.length=32) (u:Int) (b:List UInt8) (hb:b.length≤900000) (H:PH):CK prog 55 [.agg (k.map bC),.int .i64 u,sl b] H fun r H'=>r=sl (tagV (k.drop 16) u b)∧∃ext,H'=H++ext:=by
 have h1:(k.take 16).length=16:=by rw [List.length_take];omega
 have h2:(k.drop 16).length=16:=by rw [List.length_drop];omega
 have q1:Nat.beq ((k.take 16).map bC).length 16=true:=by rw [List.length_map,h1];rfl
 have q2:Nat.beq ((k.drop 16).map bC).length 16=true:=by rw [List.length_map,h2];rfl
 have b2:Nat.ble 16 (dropN 0 ((k.drop 16).map bC)).length=true:=by rw [Nat.ble_eq,dropN_eq,List.drop_zero,List.length_map,h2];exact Nat.le_refl _
 have b32:Nat.ble 32 (dropN 0 (k.map bC)).length=true:=by rw [Nat.ble_eq,dropN_eq,List.drop_zero,List.length_map,hk];exact Nat.le_refl _
 have hs:=set16 (k.drop 16) h2
 have b2':Nat.ble 16 (dropN 0 (setCells 0 ((k.drop 16).map bC) ((List.replicate 16 (0:UInt8)).map bC))).length=true:=by rw [hs];exact b2
 have e2:((dropN 0 (setCells 0 ((k.drop 16).map bC) ((List.replicate 16 (0:UInt8)).map bC))).take 16).map dem=(k.drop 16).map bC:=by rw [hs];exact agg16 _ h2
 (refine fnS (imm:=imm55) ttQ4_ok func55 ?_;(conv=>whnf))
 ((conv in (Nat.ble _ _)=>tactic=>exact b32);(conv=>whnf))
 refine cA (congrArg (fun z=>[PV.agg z]) (agg32 k hk)) (cP (c112 k hk) ?_)
 conv=>whnf
 ((conv in (_[_]?)=>tactic=>exact (gA H _ _));(conv=>whnf))
 (conv in (Nat.beq _ _)=>tactic=>exact q1)
 conv=>whnf
 (conv in (List.all _ _)=>tactic=>exact allOne (k.take 16))
 conv=>whnf
 ((conv in (_[_]?)=>tactic=>exact (gB H _ _ _));(conv=>whnf))
 (conv in (Nat.beq _ _)=>tactic=>exact q2)
 conv=>whnf
 (conv in (List.all _ _)=>tactic=>exact allOne (k.drop 16))
 conv=>whnf
 refine dO2 D55 [_] (by kernel_rfl) rfl trivial ?_
 conv=>whnf
 refine ⟨.agg ((k.drop 16).map bC),?_,?_⟩
 ·conv=>whnf
  ((conv in (_[_]?)=>tactic=>exact (gS (gB H _ _ _)));(conv=>whnf))
  ((conv in (Nat.ble _ _)=>tactic=>exact b2');(conv=>whnf))
  exact ⟨congrArg PV.agg e2,rfl,trivial⟩
 conv=>whnf
 iterate 4 (refine dS ?_;(conv=>whnf))
 apply Exists.intro
 apply And.intro
 ·conv=>whnf
  refine ⟨⟨by show (1+b.length)*1≤140737488355328;omega,by rw [List.length_map,Nat.mul_one],allOne b⟩,?_⟩
  conv=>whnf
  exact ⟨rfl,rfl,trivial⟩
 conv=>whnf
 have ea:PV.slice (1+b.length) ([PV.int .u8 (IntKind.u8.wrap u)]++b.map bC) none=sl (byteI u::b):=by
  rw [byteC_I,Nat.add_comm];rfl
 refine ⟨_,cA (congrArg (fun z=>[PV.agg ((k.drop 16).map bC),z]) ea) (cP (c113 (k.drop 16) h2 (byteI u::b) (by show b.length+1≤_;omega)) ⟨rfl,rfl,trivial⟩),?_⟩
 conv=>whnf
 refine ⟨_,cP (c85 _) ⟨rfl,rfl,trivial⟩,?_⟩
 conv=>whnf
 (refine dS ?_;(conv=>whnf))
 exact ⟨rfl,(((Ext.refl H).push _).push _).set (Nat.le_refl _) _ |>.set (by simp) _⟩
theorem c55 (k:List UInt8) (hk:k.length=32) (u:Int) (b:List UInt8) (hb:b.length≤900000):Pure prog 55 [.agg (k.map bC),.int .i64 u,sl b] (sl (tagV (k.drop 16) u b)) :=
 Pure.of_gc (by show oldPs _=true;exact oldPs_bytesY _) fun H=>c55x k hk u b hb H
def D56_7:Draw:={ cons:=[(11,[12]),(12,[46])],fs:=[(0,11,.slot 12)],looks:=[(0,12)] }
theorem xorL_take (p st:List UInt8) (i:Nat) (h:st.length=p.length) (hi:i<p.length):(xorL p st).take (i+1)=(xorL p st).take i++[p[i] ^^^ st[i]]:=by
 have hx:i<(xorL p st).length:=by rw [xorL_len p st h];exact hi
 rw [List.take_succ_eq_append_getElem hx]
 have:∀(a b:List UInt8) (h:i<(List.zipWith (· ^^^ ·) a b).length) (ha:i<a.length) (hb:i<b.length),(List.zipWith (· ^^^ ·) a b)[i]=a[i] ^^^ b[i]:=fun a b h ha hb=>by simp
 rw [show (xorL p st)[i]=p[i] ^^^ st[i] from this p st hx hi (by omega)]
theorem gC (H:PH) (a b c d:PObj):(((H++[a]++[b]).set H.length c).set (H++[a]).length d)[H.length]? = some c:=by
 rw [List.getElem?_set_ne (by simp),List.getElem?_set_self (by simp)]
theorem c56x (k:List UInt8) (hk:k.length=32) (u nn:Int) (p:List UInt8) (hp:p.length≤900000) (H:PH):CK prog 56 [.agg (k.map bC),.int .i64 u,.int .u64 nn,sl p] H fun r H'=>r=sl (xorL p (streamV (k.take 16) (mixN nn u) p.length))∧∃ext,H'=H++ext:=by
 have h1:(k.take 16).length=16:=by rw [List.length_take];omega
 have h2:(k.drop 16).length=16:=by rw [List.length_drop];omega
 have q1:Nat.beq ((k.take 16).map bC).length 16=true:=by rw [List.length_map,h1];rfl
 have q2:Nat.beq ((k.drop 16).map bC).length 16=true:=by rw [List.length_map,h2];rfl
 have b1:Nat.ble 16 (dropN 0 ((k.take 16).map bC)).length=true:=by rw [Nat.ble_eq,dropN_eq,List.drop_zero,List.length_map,h1];exact Nat.le_refl _
 have b32:Nat.ble 32 (dropN 0 (k.map bC)).length=true:=by rw [Nat.ble_eq,dropN_eq,List.drop_zero,List.length_map,hk];exact Nat.le_refl _
 have hs:=set16 (k.take 16) h1
 have b1':Nat.ble 16 (dropN 0 (setCells 0 ((k.take 16).map bC) ((List.replicate 16 (0:UInt8)).map bC))).length=true:=by rw [hs];exact b1
 have e1:((dropN 0 (setCells 0 ((k.take 16).map bC) ((List.replicate 16 (0:UInt8)).map bC))).take 16).map dem=(k.take 16).map bC:=by rw [hs];exact agg16 _ h1
 (refine fnS (imm:=imm56) ttQ4_ok func56 ?_;(conv=>whnf))
 ((conv in (Nat.ble _ _)=>tactic=>exact b32);(conv=>whnf))
 refine cA (congrArg (fun z=>[PV.agg z]) (agg32 k hk)) (cP (c112 k hk) ?_)
 conv=>whnf
 ((conv in (_[_]?)=>tactic=>exact (gA H _ _));(conv=>whnf))
 (conv in (Nat.beq _ _)=>tactic=>exact q1)
 conv=>whnf
 (conv in (List.all _ _)=>tactic=>exact allOne (k.take 16))
 conv=>whnf
 ((conv in (_[_]?)=>tactic=>exact (gB H _ _ _));(conv=>whnf))
 (conv in (Nat.beq _ _)=>tactic=>exact q2)
 conv=>whnf
 (conv in (List.all _ _)=>tactic=>exact allOne (k.drop 16))
 conv=>whnf
 ((conv in (_[_]?)=>tactic=>exact (gC H _ _ _ _));(conv=>whnf))
 ((conv in (Nat.ble _ _)=>tactic=>exact b1');(conv=>whnf))
 refine cA (congrArg (fun z=>[PV.agg z]) e1) (cP (c115 (k.take 16) h1) ?_)
 conv=>whnf
 refine cA rfl (cP (c114 (k.take 16) (mixN nn u) p.length (by omega)) ?_)
 conv=>whnf
 generalize hst:streamV (k.take 16) (mixN nn u) p.length=st
 have hl:st.length=p.length:=by rw [←hst,streamV_len]
 refine lO Nat (fun i=>[(3,sl p),(11,sl st),(12,ow ((xorL p st).take i)),(13,.int .i64 i)]) (fun _=>_) (fun i=>i≤p.length) (fun i=>p.length - i) ⟨0,Nat.zero_le _,⟨rfl,rfl,rfl,rfl,trivial⟩,rfl⟩ ?_
 intro i hi
 conv=>whnf
 refine ⟨fun h=>?_,fun h=>?_⟩
 ·have h:(i:Int)<p.length:=h
  have hip:i<p.length:=by omega
  have his:i<st.length:=by omega
  conv=>whnf
  refine dO2 D56_7 [_] (by kernel_rfl) rfl ⟨trivial,trivial⟩ ?_
  conv=>whnf
  apply Exists.intro
  apply And.intro
  ·conv=>whnf
   exact ⟨rfl,rfl,rfl,trivial⟩
  conv=>whnf
  iterate 2 (refine dS ?_;(conv=>whnf))
  refine ⟨.elem [bC p[i]],⟨⟨by show (0:Int)≤(i:Int);omega,h⟩,[bC p[i]],at1' (k:=(i:Int).toNat*1) (by rw [Int.toNat_natCast,Nat.mul_one,List.getElem?_map,List.getElem?_eq_getElem hip];rfl),rfl,rfl,trivial⟩,?_⟩
  conv=>whnf
  iterate 3 (refine dS ?_;(conv=>whnf))
  refine ⟨.elem [bC st[i]],⟨⟨by show (0:Int)≤(i:Int);omega,by show (i:Int)<(st.length:Int);omega⟩,[bC st[i]],at1' (k:=(i:Int).toNat*1) (by rw [Int.toNat_natCast,Nat.mul_one,List.getElem?_map,List.getElem?_eq_getElem his];rfl),rfl,rfl,trivial⟩,?_⟩
  conv=>whnf
  iterate 3 (refine dS ?_;(conv=>whnf))
  have hlt:((xorL p st).take i).length=i:=by rw [List.length_take,xorL_len p st hl];omega
  apply Exists.intro
  apply And.intro
  ·conv=>whnf
   refine ⟨⟨by show (((xorL p st).take i).length+1)*1≤140737488355328;omega,rfl,rfl⟩,?_⟩
   conv=>whnf
   exact ⟨rfl,rfl,trivial⟩
  conv=>whnf
  (refine dS ?_;(conv=>whnf))
  refine ⟨i+1,by omega,⟨rfl,rfl,?_,?_,trivial⟩,rfl,by omega⟩
  ·show PV.slice (((xorL p st).take i).length+1) (((xorL p st).take i).map bC++[.int .u8 (ibits .xor .u8 (p[i].toNat:Int) (st[i].toNat:Int))]) (some 5)=ow ((xorL p st).take (i+1))
   rw [xor8,xorL_take p st i hl hip,←ow_app]
   rfl
  ·show PV.int _ (IntKind.i64.wrap ((i:Int)+1))=PV.int _ _
   rw [w64 (by omega) (by omega)];simp
 ·have h:¬(i:Int)<p.length:=h
  have e:(xorL p st).take i=xorL p st:=List.take_of_length_le (by rw [xorL_len p st hl];omega)
  rw [e]
  conv=>whnf
  exact ⟨rfl,((((Ext.refl H).push _).push _).set (Nat.le_refl _) _).set (by simp) _⟩
theorem c56 (k:List UInt8) (hk:k.length=32) (u nn:Int) (p:List UInt8) (hp:p.length≤900000):Pure prog 56 [.agg (k.map bC),.int .i64 u,.int .u64 nn,sl p] (sl (xorL p (streamV (k.take 16) (mixN nn u) p.length))) :=
 Pure.of_gc (by show oldPs _=true;exact oldPs_bytesY _) fun H=>c56x k hk u nn p hp H
def D34:Draw:={ cons:=[(9,[32]),(10,[39])] }
theorem c34 (k:List UInt8) (hk:k.length=32) (u n:Int) (hu:isUseB u=true) (hn0:0≤n) (hn1:n≤1099511627776) (p:List UInt8) (hp:p.length≤784) :
  Pure prog 34 [.agg (k.map bC),.int .i64 u,.int .i64 n,sl p] (.tup [ow (sealV (k.drop 16) u (IntKind.u64.wrap n) p (streamV (k.take 16) (mixN (IntKind.u64.wrap n) u) p.length)),.int .i64 0]):=by
 intro H
 have hu':0≤u∧u≤255:=by
  unfold isUseB at hu
  rw [Bool.and_eq_true] at hu
  exact ⟨of_decide_eq_true hu.1,of_decide_eq_true hu.2⟩
 have b32:Nat.ble 32 (dropN 0 (k.map bC)).length=true:=by rw [Nat.ble_eq,dropN_eq,List.drop_zero,List.length_map,hk];exact Nat.le_refl _
 (refine fnS (imm:=imm34) ttQ4_ok func34 ?_;(conv=>whnf))
 refine ⟨fun h=>absurd h (by omega),fun _=>?_⟩
 conv=>whnf
 refine ⟨fun h=>absurd h (by omega),fun _=>?_⟩
 conv=>whnf
 refine ⟨fun h=>absurd h (by omega),fun _=>?_⟩
 conv=>whnf
 refine ⟨fun h=>absurd h (by omega),fun _=>?_⟩
 conv=>whnf
 refine ⟨fun h=>absurd (show (784:Int)<p.length from h) (by omega),fun _=>?_⟩
 conv=>whnf
 generalize hst:streamV (k.take 16) (mixN (IntKind.u64.wrap n) u) p.length=st
 have hl:st.length=p.length:=by rw [←hst,streamV_len]
 have hx:=xorL_len p st hl
 refine dO2 D34 [H] (by kernel_rfl) rfl trivial ?_
 conv=>whnf
 iterate 2 (refine dS ?_;(conv=>whnf))
 refine ⟨_,cP (c85 _) ⟨rfl,rfl,trivial⟩,?_⟩
 conv=>whnf
 refine ⟨.agg (k.map bC),?_,?_⟩
 ·conv=>whnf
  ((conv in (Nat.ble _ _)=>tactic=>exact b32);(conv=>whnf))
  exact ⟨congrArg PV.agg (agg32 k hk),rfl,trivial⟩
 conv=>whnf
 iterate 4 (refine dS ?_;(conv=>whnf))
 refine ⟨sl (xorL p st),cP ((c56 k hk u (IntKind.u64.wrap n) p (by omega)).of_eq (by rw [hst])) ⟨rfl,rfl,trivial⟩,?_⟩
 conv=>whnf
 apply Exists.intro
 apply And.intro
 ·conv=>whnf
  refine ⟨⟨by show ((8+(xorL p st).length)*1≤_);omega,by simp,allOne _⟩,?_⟩
  conv=>whnf
  exact ⟨rfl,rfl,trivial⟩
 conv=>whnf
 (refine dS ?_;(conv=>whnf))
 ((conv in (Nat.ble _ _)=>tactic=>exact b32);(conv=>whnf))
 have ha:(bigV (IntKind.u64.wrap n)++xorL p st).length≤900000:=by rw [List.length_append,bigV_len];omega
 refine cA (args':=[.agg (k.map bC),.int .i64 u,sl (bigV (IntKind.u64.wrap n)++xorL p st)]) ?_ (cP (c55 k hk u _ ha) ?_)
 ·have ek:((k.map bC).take 32).map dem=k.map bC:=agg32 k hk
  show [PV.agg (((k.map bC).take 32).map dem),PV.int .i64 u,PV.slice ((bigV (IntKind.u64.wrap n)).length+(xorL p st).length) ((bigV (IntKind.u64.wrap n)).map bC++(xorL p st).map bC) none]=_
  rw [ek]
  unfold sl
  rw [List.length_append,List.map_append]
 conv=>whnf
 refine ⟨⟨by show ((8+(xorL p st).length+8)*1≤_);omega,by simp,allOne _⟩,?_⟩
 conv=>whnf
 refine ⟨?_,rfl⟩
 show PV.tup [.slice ((bigV (IntKind.u64.wrap n)).length+(xorL p st).length+(tagV (k.drop 16) u (bigV (IntKind.u64.wrap n)++xorL p st)).length) (((bigV (IntKind.u64.wrap n)).map bC++(xorL p st).map bC)++(tagV (k.drop 16) u (bigV (IntKind.u64.wrap n)++xorL p st)).map bC) (some 5),.int .i64 0]=_
 rw [←List.length_append,←List.map_append,ow_app]
 rfl
theorem c22o (k:List UInt8) (hk:k.length=32) (u:Int) (hu:isUseB u=true) (b:List UInt8) (h16:16≤b.length) (h800:b.length≤800) (H:PH) :
  CK prog 22 [.agg (k.map bC),.int .i64 u,sl b] H fun x H'=>(match openB (k.drop 16) u b with
   | true=>x=.tup [sl (xorL ((b.take (b.length - 8)).drop 8) (streamV (k.take 16) (mixN (beN (b.take 8):Nat) u) (b.length - 16))),.int .i64 0]
   | false=>x=.tup [ow [],.int .i64 3])∧H'=H:=by
 have hu':0≤u∧u≤255:=by
  unfold isUseB at hu
  rw [Bool.and_eq_true] at hu
  exact ⟨of_decide_eq_true hu.1,of_decide_eq_true hu.2⟩
 have b32:Nat.ble 32 (dropN 0 (k.map bC)).length=true:=by rw [Nat.ble_eq,dropN_eq,List.drop_zero,List.length_map,hk];exact Nat.le_refl _
 have hw8:IntKind.i64.wrap ((b.length:Int) - 8)=((b.length - 8:Nat):Int):=by rw [w64 (by omega) (by omega)];omega
 have hfst:decide (16≤b.length)=true:=decide_eq_true h16
 have hsnd:decide (b.length≤800)=true:=decide_eq_true h800
 have hal:(b.take (b.length - 8)).length=b.length - 8:=by rw [List.length_take];omega
 have hpl:((b.take (b.length - 8)).drop 8).length=b.length - 16:=by rw [List.length_drop,hal];omega
 (refine fnS (imm:=imm22) ttQ4_ok func22 ?_;(conv=>whnf))
 refine ⟨fun h=>absurd h (by omega),fun _=>?_⟩
 conv=>whnf
 refine ⟨fun h=>absurd h (by omega),fun _=>?_⟩
 conv=>whnf
 refine ⟨fun h=>absurd (show (b.length:Int)<16 from h) (by omega),fun _=>?_⟩
 conv=>whnf
 refine ⟨fun h=>absurd (show (800:Int)<b.length from h) (by omega),fun _=>?_⟩
 conv=>whnf
 refine cP (c54 b (by omega)) ?_
 conv=>whnf
 refine dO2 {} [H] (by kernel_rfl) rfl trivial ?_
 conv=>whnf
 (refine dS ?_;(conv=>whnf))
 by_cases hn:beN (b.take 8)≤1099511627776
 ·refine ⟨.bool false,?_,?_⟩
  ·conv=>whnf
   exact ⟨fun h=>absurd (show (1099511627776:Int)<((beN (b.take 8):Nat):Int) from h) (by omega),fun _=>⟨rfl,rfl,trivial⟩⟩
  conv=>whnf
  (refine dS ?_;(conv=>whnf))
  refine ⟨.agg (k.map bC),?_,?_⟩
  ·conv=>whnf
   ((conv in (Nat.ble _ _)=>tactic=>exact b32);(conv=>whnf))
   exact ⟨congrArg PV.agg (agg32 k hk),rfl,trivial⟩
  conv=>whnf
  iterate 2 (refine dS ?_;(conv=>whnf))
  refine ⟨.int .i64 ((b.length - 8:Nat):Int),⟨congrArg (PV.int _) hw8,rfl,trivial⟩,?_⟩
  conv=>whnf
  refine ⟨sl ((b.take (b.length - 8)).drop 0),⟨⟨by omega,by omega,by omega⟩,sl_cut2 b 0 ((b.length - 8:Nat):Int) ⟨by omega,by omega,by omega⟩,rfl,trivial⟩,?_⟩
  conv=>whnf
  refine ⟨_,cP (c55 k hk u (b.take (b.length - 8)) (by omega)) ⟨rfl,rfl,trivial⟩,?_⟩
  conv=>whnf
  refine ⟨.str (tagV (k.drop 16) u (b.take (b.length - 8))),⟨tagV (k.drop 16) u (b.take (b.length - 8)),⟨rfl,rfl⟩,rfl,rfl,trivial⟩,?_⟩
  conv=>whnf
  (refine dS ?_;(conv=>whnf))
  refine ⟨.int .i64 ((b.length - 8:Nat):Int),⟨congrArg (PV.int _) hw8,rfl,trivial⟩,?_⟩
  conv=>whnf
  refine ⟨sl ((b.take b.length).drop (b.length - 8)),⟨⟨by omega,by omega,by omega⟩,sl_cut2 b ((b.length - 8:Nat):Int) (b.length:Int) ⟨by omega,by omega,by omega⟩,rfl,trivial⟩,?_⟩
  conv=>whnf
  refine ⟨.str ((b.take b.length).drop (b.length - 8)),⟨(b.take b.length).drop (b.length - 8),⟨rfl,rfl⟩,rfl,rfl,trivial⟩,?_⟩
  rw [List.take_length]
  conv=>whnf
  by_cases hq:tagV (k.drop 16) u (b.take (b.length - 8))=b.drop (b.length - 8)
  ·have hop:openB (k.drop 16) u b=true:=by unfold openB;rw [hfst,hsnd,decide_eq_true hn,decide_eq_true hq];rfl
   rw [hop]
   refine ⟨.bool false,?_,?_⟩
   ·conv=>whnf
    exact ⟨fun _=>⟨rfl,rfl,trivial⟩,fun h=>absurd hq h⟩
   conv=>whnf
   (refine dS ?_;(conv=>whnf))
   refine dO2 {} [H] (by kernel_rfl) rfl trivial ?_
   conv=>whnf
   refine ⟨.agg (k.map bC),?_,?_⟩
   ·conv=>whnf
    ((conv in (Nat.ble _ _)=>tactic=>exact b32);(conv=>whnf))
    exact ⟨congrArg PV.agg (agg32 k hk),rfl,trivial⟩
   conv=>whnf
   iterate 3 (refine dS ?_;(conv=>whnf))
   refine ⟨.int .i64 ((b.length - 8:Nat):Int),⟨congrArg (PV.int _) hw8,rfl,trivial⟩,?_⟩
   conv=>whnf
   refine ⟨sl ((b.take (b.length - 8)).drop 8),⟨⟨by omega,by omega,by omega⟩,sl_cut2 b 8 ((b.length - 8:Nat):Int) ⟨by omega,by omega,by omega⟩,rfl,trivial⟩,?_⟩
   conv=>whnf
   refine ⟨_,cP ((c56 k hk u (beN (b.take 8):Nat) ((b.take (b.length - 8)).drop 8) (by omega)).of_eq (by rw [hpl])) ⟨rfl,rfl,trivial⟩,?_⟩
   conv=>whnf
   iterate 2 (refine dS ?_;(conv=>whnf))
   exact ⟨rfl,rfl⟩
  ·have hop:openB (k.drop 16) u b=false:=by unfold openB;rw [decide_eq_false hq,Bool.and_false]
   rw [hop]
   refine ⟨.bool true,?_,?_⟩
   ·conv=>whnf
    exact ⟨fun h=>absurd h hq,fun _=>⟨rfl,rfl,trivial⟩⟩
   conv=>whnf
   (refine dS ?_;(conv=>whnf))
   exact ⟨rfl,rfl⟩
 ·have hop:openB (k.drop 16) u b=false:=by unfold openB;rw [decide_eq_false hn,Bool.and_false,Bool.false_and]
  rw [hop]
  refine ⟨.bool true,?_,?_⟩
  ·conv=>whnf
   exact ⟨fun _=>⟨rfl,rfl,trivial⟩,fun h=>absurd (show (1099511627776:Int)<((beN (b.take 8):Nat):Int) by omega) h⟩
  conv=>whnf
  iterate 14 (refine dS ?_;(conv=>whnf))
  exact ⟨rfl,rfl⟩
end Go.Proofs.Tryz
