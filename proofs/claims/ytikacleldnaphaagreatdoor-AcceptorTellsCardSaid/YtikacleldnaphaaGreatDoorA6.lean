import Derived.Test.YtikacleldnaphaaGreatDoorA2
import Derived.Test.YtikacleldnaphaaGreatDoorA4
set_option linter.all false
/- PSem, part 35: what is known of a call in a world of which nothing is named holds in every world. -/
namespace Ps
open Go Go.RowKit
section
variable {P : Program}
def constP:PV→Bool
 | .bool _=>true
 | .int _ _=>true
 | .str _=>true
 | _=>false
theorem constP.move {p:PV} (hc:constP p=true) {g g':Gh} {w w':World} {v:Value} (h:VC P g w v p):V g' w' v p:=by
 cases p with
 | bool b =>
  rcases h with h | ⟨_,_,_,_,h,_⟩
  ·cases h;exact .bool b
  ·cases h
 | int k n =>
  rcases h with h | ⟨_,_,_,_,h,_⟩
  ·cases h;exact .int k n
  ·cases h
 | str s =>
  rcases h with h | ⟨_,_,_,_,h,_⟩
  ·cases h;exact .str s
  ·cases h
 | _=>cases hc
theorem CK.frame {f:Nat} {args:List PV} {p:PV} (hp:constP p=true) (ha:args.all constP=true) (h:CK P f args [] fun r _=>r=p) (H:PH):CK P f args H fun r H'=>r=p∧H'=H:=by
 intro g w vs hs hrel
 have hh:=hrel.h
 have harg:∀(l:List PV) (i t:Nat),l.all constP=true→constP ((args0 i l).get t)=true∨(args0 i l).get t=.undef:=by
  intro l
  induction l with
  | nil=>intro i t _;exact .inr rfl
  | cons x l ih =>
   intro i t hl
   rw [List.all_cons,zqb] at hl
   show constP (Env.get ((i,x)::args0 (i+1) l) t)=true∨Env.get ((i,x)::args0 (i+1) l) t=.undef
   rw [Env.get_cons]
   by_cases e:i=t
   ·rw [zqp e];exact .inl hl.1
   ·rw [zqo e];exact ih (i+1) t hl.2
 have h0:∀t,V (⟨[],g.I⟩:Gh) w (valOf vs t) ((args0 0 args).get t):=fun t=>by
  rcases harg args 0 t ha with hc | hu
  ·exact constP.move hc (hrel.e t)
  ·rw [hu];exact .undef _
 have hr0:Rel P (⟨[],g.I⟩:Gh) w (valOf vs) (args0 0 args) []:=by
  refine ⟨⟨rfl,fun id id' b k=>(by cases k),fun id b o k=>(by cases k),fun id b o k=>(by cases k),fun b o k=>⟨fun id k2=>(by cases k2),(hh.imm b o k).2⟩⟩,fun t=>(h0 t).vc,fun t i t' i' b k=>absurd k (zat (h0 t) i b),fun t i b k=>absurd k (zat (h0 t) i b),fun id j id' j' b k=>?_⟩
  obtain ⟨_,_,_,_,k,_⟩:=k
  cases k
 refine (h _ w vs hs hr0).mono ?_
 rintro e w' ⟨v,r,H',g',rfl,rfl,hr',hb,_,_⟩
 have heq:∀b,b<w.heap.size→w'.heap[b]? = w.heap[b]?:=fun b hlt=>(hb.far b hlt (fun id k=>by cases k) (fun ⟨_,_,_,_,_,_,k,_⟩=>by cases k)).1
 have hkeep:Keeps g w g w':=⟨fun _ _ h=>h,fun b o hi=>⟨hi,zak (heq b (hh.ilt hi)) o⟩,fun _ b hi=>zay (heq b (hh.lt hi))⟩
 have hquiet:∀b,b<w.heap.size→(∀(id:Nat),g.ι[id]?≠some (some b))→Quiet g w g w' b:=fun b h1 h2=>⟨heq b h1,fun _ h=>h,h2⟩
 have hcell:∀id j b,zag g w' H id j b→zag g w H id j b:=by
  rintro id j b ⟨o,c,b0,u,k1,k2,k3,k4,k5,k6⟩
  exact ⟨o,c,b0,u,k1,k2,k3,k4,(zak (heq b0 (hh.lt k4)) j).symm.trans k5,k6⟩
 have hv':V g w' v r:=constP.move hp (hr'.e 0)
 refine ⟨v,r,H,g,rfl,⟨rfl,rfl⟩,⟨⟨hh.len,hh.inj,fun id b o k1 k2=>hh.fullKeep hkeep (heq b (hh.lt k2)) k1 k2,fun id b o k1 k2 hk1=>?_,fun b o k=>?_⟩,fun t=>?_,fun t i t' i' b k=>?_,fun t i b k=>?_,fun id j id' j' b k k'=>hrel.cc id j id' j' b (hcell _ _ _ k) (hcell _ _ _ k')⟩,
  ⟨⟨fun _ o h=>⟨o,h,zqn _⟩,fun _ _ _ _ hi k1 k2 _=>⟨Option.some.inj (k2.symm.trans k1),heq _ (hh.lt hi)⟩⟩,hb.os,hb.tape,hb.output,hb.size,hkeep,fun _ _ h=>.inl h,fun b hlt _ _=>⟨heq b hlt,fun o h=>h⟩,fun _ h=>h⟩,
  fun i b k=>absurd k (zat hv' i b),fun b ⟨id,j,k⟩=>.inr ⟨id,j,hcell _ _ _ k⟩⟩
 ·obtain ⟨vs',k3,k4,k5⟩:=hh.obj id b o k1 k2 ((hkeep.kind id b k2).symm.trans hk1)
  refine ⟨vs',(heq b (zb2 k3)).trans k3,k4,fun j c hj=>?_⟩
  obtain ⟨u,k6,k7⟩:=k5 j c hj
  refine ⟨u,k6,k7.mono hkeep fun b' ho hb'=>?_⟩
  obtain ⟨n,cs,e',_,_,hf⟩:=k7.own ho hb'
  exact hquiet b' (zd8 hf) hf.obj
 ·obtain ⟨k1,vs',e',fr',k2,k3⟩:=hh.imm b o k
  exact ⟨k1,vs',e',fr',(heq b (zb2 k2)).trans k2,k3⟩
 ·rw [Env.get_cons]
  unfold one
  by_cases e:t=0
  ·rw [zqp e,zqp e.symm];exact hv'.vc
  ·rw [zqo e,zqo (Ne.symm e)];exact (V.undef _).vc
 ·rw [Env.get_cons] at k
  unfold one at k
  by_cases e:t=0
  ·rw [zqp e,zqp e.symm] at k;exact absurd k (zat hv' i b)
  ·rw [zqo (Ne.symm e)] at k;cases k.2.1
 ·rw [Env.get_cons] at k
  unfold one at k
  by_cases e:t=0
  ·rw [zqp e,zqp e.symm] at k;exact absurd k (zat hv' i b)
  ·rw [zqo (Ne.symm e)] at k;cases k.2.1
end
end Ps
