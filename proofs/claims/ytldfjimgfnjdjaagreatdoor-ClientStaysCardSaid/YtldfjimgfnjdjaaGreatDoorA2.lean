import Derived.Test.YtldfjimgfnjdjaaGreatDoorA1
import Derived.Carry
import Derived.OpenShut
import Derived.Deep.Slices
import Derived.Below
import Derived.Laws.LoneSync
import Derived.Laws.Rows
import Derived.Test.YtldfjimgfnjdjaaGreatDoorProg
set_option linter.all false
/- PSem, part 23: from an argument's reading to pure values; from a contract at the root to what a row's form asks. -/
namespace Ps
open Go Go.RowKit
def gAll (w:World):Gh:=⟨[],fun b o=>∃(vs:Array Value) (e:Nat) (fr:Nat×Nat),w.heap[b]? = some (.cells vs e fr)∧o<vs.size⟩
theorem cell_gAll {w:World} {b o:Nat} {v:Value} (h:w.cell? ⟨b,o,none⟩=some v):(gAll w).I b o:=by
 unfold World.cell? at h
 simp only at h
 split at h
 ·rename_i c t fr hb
  simp only [Option.isSome_none,Bool.false_eq_true,if_false] at h
  exact ⟨_,_,_,hb,(Array.getElem?_eq_some_iff.1 h).1⟩
 ·cases h
def tile (P:Program):Nat→List Field→Nat→Bool
 | o,[],tot=>Nat.beq o tot
 | o,f::fs,tot=>Nat.beq f.offset o&&tile P (o+P.cellsOf f.type) fs tot
def okT (P:Program):Nat→Bool→Nat→Bool
 | 0,_,_=>false
 | n+1,sl,t=>match P.underlying t with
  | some .bool=>true
  | some (.int _)=>true
  | some .string=>true
  | some (.slice e)=>sl&&okT P n false e
  | some (.struct fs)=>(fs.toList.all fun f=>okT P n sl f.type)&&tile P 0 fs.toList (P.cellsOf t)
  | some (.array m e)=>okT P n sl e&&Nat.beq (m*P.cellsOf e) (P.cellsOf t)
  | _=>false
def RdL (R:Nat→List PV→Prop):List Field→List PV→Prop
 | [],ps=>ps=[]
 | f::fs,ps=>∃a b,ps=a++b∧R f.type a∧RdL R fs b
def RdP (P:Program) (B:Nat):Nat→Nat→List PV→Prop
 | 0,_,_=>False
 | n+1,t,ps=>match P.underlying t with
  | some .bool=>∃b,ps=[.bool b]
  | some (.int k)=>∃i,ps=[.int k i]∧(Lit.int k i).wf=true
  | some .string=>∃s:List UInt8,ps=[.str s]∧s.length≤B
  | some (.slice e)=>∃rs:List (List PV),ps=[.slice rs.length rs.flatten none]∧rs.length*P.bytesOf e≤B∧rs.length≤9223372036854775807∧∀r∈rs,r.length=P.cellsOf e∧RdP P B n e r
  | some (.struct fs)=>RdL (RdP P B n) fs.toList ps
  | some (.array m e)=>∃rs:List (List PV),rs.length=m∧ps=rs.flatten∧∀r∈rs,RdP P B n e r
  | _=>False
def spotOk:Value→Prop
 | .slice (some a) _ _=>a.spot=none
 | _=>True
def VW (g:Gh) (w:World) (cs:List Value) (ps:List PV):Prop:=ps.length=cs.length∧∀(j:Nat) (v:Value) (c:PV),cs[j]? = some v→ps[j]? = some c→V g w v c
theorem VW.nil {g:Gh} {w:World}:VW g w [] []:=⟨rfl,fun j v c h _=>by simp at h⟩
theorem VW.one {g:Gh} {w:World} {v:Value} {p:PV} (h:V g w v p):VW g w [v] [p]:=by
 refine ⟨rfl,fun j u c hu hj=>?_⟩
 match j with
 | 0=>simp at hj hu;subst hj;subst hu;exact h
 | _+1=>simp at hj
theorem VW.append {g:Gh} {w:World} {cs cs':List Value} {ps ps':List PV} (h:VW g w cs ps) (h':VW g w cs' ps'):VW g w (cs++cs') (ps++ps'):=by
 refine ⟨by simp [h.1,h'.1],fun j v c hv hc=>?_⟩
 by_cases hj:j<cs.length
 ·rw [zq2 hj] at hv
  rw [zq2 (by rw [h.1];exact hj)] at hc
  exact h.2 j v c hv hc
 ·rw [zqi (by omega)] at hv
  rw [zqi (by rw [h.1];omega),h.1] at hc
  exact h'.2 _ v c hv hc
theorem list_choice {α:Type} {n:Nat} {Q:Nat→α→Prop} (h:∀i,i<n→∃a,Q i a):∃l:List α,l.length=n∧∀i a,l[i]? = some a→Q i a:=by
 induction n with
 | zero=>exact ⟨[],rfl,fun i a h=>by simp at h⟩
 | succ n ih =>
  obtain ⟨l,h1,h2⟩:=ih fun i hi=>h i (Nat.lt_succ_of_lt hi)
  obtain ⟨a,ha⟩:=h n (Nat.lt_succ_self n)
  refine ⟨l++[a],by simp [h1],fun i b hb=>?_⟩
  by_cases hi:i<l.length
  ·rw [zq2 hi] at hb;exact h2 i b hb
  ·rw [zqi (by omega)] at hb
   match e:i - l.length with
   | 0=>rw [e] at hb;simp at hb;subst hb;rw [show i=n by omega];exact ha
   | _+1=>rw [e] at hb;simp at hb
theorem mem_weightsAll {H:Type} {P:Program} {e:TypeId} {d:DataW H} {y:Nat}:∀{l:List (DataW H)},d∈l→y∈d.weights P e→y∈DataW.weightsAll P e l
 | [],h,_=>by simp at h
 | c::l,h,hy=>by
  simp only [DataW.weightsAll,List.mem_append]
  rcases List.mem_cons.1 h with rfl | h
  ·exact .inl hy
  ·exact .inr (mem_weightsAll h hy)
theorem mem_weightsEach {H:Type} {P:Program} {y:Nat}:∀{ts:List TypeId} {l:List (DataW H)} {i:Nat} {t:TypeId} {d:DataW H},ts[i]? = some t→l[i]? = some d→y∈d.weights P t→y∈DataW.weightsEach P ts l
 | [],_,_,_,_,h,_,_=>by simp at h
 | _::_,[],_,_,_,_,h,_=>by simp at h
 | u::ts,c::l,0,t,d,h,h',hy=>by
  simp only [List.getElem?_cons_zero,Option.some.injEq] at h h'
  subst h;subst h'
  simp only [DataW.weightsEach,List.mem_append]
  exact .inl hy
 | u::ts,c::l,i+1,t,d,h,h',hy=>by
  simp only [List.getElem?_cons_succ] at h h'
  simp only [DataW.weightsEach,List.mem_append]
  exact .inr (mem_weightsEach h h' hy)
section
variable {H : Type} {enc : TypeId × Value → H} {P : Program} {w : World}
theorem trod_fields {n m B:Nat} {sl:Bool} (ih:∀t cs (x:DataW H×List MemPlace),okT P n sl t=true→DataW.trod enc P w 0 (fun _=>true) true m t cs=some x→(∀y∈x.1.weights P t,y≤B)→(sl=true→∀v∈cs,spotOk v)→∃ps,VW (gAll w) w cs ps∧RdP P B n t ps)
  (cs:List Value) (hsp:sl=true→∀v∈cs,spotOk v):∀(fs:List Field) (o:Nat),(∀f∈fs,okT P n sl f.type=true)→tile P o fs cs.length=true →
   (∀f∈fs,∃x:DataW H×List MemPlace,DataW.trod enc P w 0 (fun _=>true) true m f.type ((cs.drop f.offset).take (P.cellsOf f.type))=some x∧∀y∈x.1.weights P f.type,y≤B) →
   ∃ps,VW (gAll w) w (cs.drop o) ps∧RdL (RdP P B n) fs ps
 | [],o,_,ht,_=>by
  have:o=cs.length:=zqg ht
  exact ⟨[],by rw [List.drop_of_length_le (by omega)];exact VW.nil,rfl⟩
 | f::fs,o,hok,ht,hx=>by
  simp only [tile,zqb] at ht
  have ho:f.offset=o:=zqg ht.1
  obtain ⟨x,hx0,hxw⟩:=hx f List.mem_cons_self
  rw [ho] at hx0
  obtain ⟨a,ha,ra⟩:=ih _ _ x (hok f List.mem_cons_self) hx0 hxw fun h v hv=>hsp h v (List.mem_of_mem_drop (List.mem_of_mem_take hv))
  obtain ⟨b,hb,rb⟩:=trod_fields ih cs hsp fs _ (fun g hg=>hok g (List.mem_cons_of_mem _ hg)) ht.2 fun g hg=>hx g (List.mem_cons_of_mem _ hg)
  refine ⟨a++b,?_,a,b,rfl,ra,rb⟩
  have:=ha.append hb
  rwa [←List.drop_drop,List.take_append_drop] at this
theorem rows_V {sz:Nat} {b off:Nat}:∀(rs:List (List PV)) (css:List (List Value)) (k:Nat),rs.length=css.length→(∀(i:Nat) (r:List PV) (cs:List Value),rs[i]? = some r→css[i]? = some cs→cs.length=sz∧VW (gAll w) w cs r∧∀j,j<sz→w.cell? ⟨b,off+(k+i)*sz+j,none⟩=cs[j]?) →
  ∀(j:Nat) (c:PV),rs.flatten[j]? = some c→∃v,w.cell? ⟨b,off+(k*sz+j),none⟩=some v∧V (gAll w) w v c
 | [],_,_,_,_,j,c,hj=>by simp at hj
 | r::rs,[],_,hl,_,_,_,_=>by simp at hl
 | r::rs,cs::css,k,hl,h,j,c,hj=>by
  obtain ⟨h1,h2,h3⟩:=h 0 r cs rfl rfl
  rw [zqk] at hj
  by_cases hlt:j<r.length
  ·rw [zq2 hlt] at hj
   have hjc:j<cs.length:=by rw [←h2.1];exact hlt
   refine ⟨cs[j],?_,h2.2 j _ _ (zqc hjc) hj⟩
   have:=h3 j (by omega)
   rw [zqc hjc] at this
   rw [←this];congr 2;simp only [Nat.add_zero];omega
  ·rw [zqi (by omega)] at hj
   obtain ⟨v,e1,e2⟩:=rows_V rs css (k+1) (by simpa using hl) (fun i r' cs' hr hc=>by
    obtain ⟨g1,g2,g3⟩:=h (i+1) r' cs' (by simpa using hr) (by simpa using hc)
    exact ⟨g1,g2,fun j hj=>by rw [←g3 j hj];congr 3;rw [show k+1+i=k+(i+1) by omega]⟩) _ c hj
   refine ⟨v,?_,e2⟩
   rw [←e1];congr 2
   have:r.length=sz:=by rw [h2.1,h1]
   rw [Nat.succ_mul];omega
theorem trod_rd {B:Nat}:∀(n:Nat) (m:Nat) (sl:Bool) (t:Nat) (cs:List Value) (x:DataW H×List MemPlace),okT P n sl t=true→DataW.trod enc P w 0 (fun _=>true) true m t cs=some x→(∀y∈x.1.weights P t,y≤B)→(sl=true→∀v∈cs,spotOk v) →
  ∃ps,VW (gAll w) w cs ps∧RdP P B n t ps
 | 0,_,_,_,_,_,h,_,_,_=>by simp [okT] at h
 | n+1,m,sl,t,cs,x,hok,h,hwt,hsp=>by
  unfold okT at hok
  unfold RdP
  cases hu:P.underlying t with
  | none=>rw [hu] at hok;cases hok
  | some u =>
   rw [hu] at hok
   cases u with
   | bool =>
    obtain ⟨b,rfl,_⟩:=DataW.trod_bool hu h
    exact ⟨[.bool b],VW.one (.bool b),b,rfl⟩
   | int k =>
    obtain ⟨i,rfl,_,hw⟩:=DataW.trod_int hu h
    exact ⟨[.int k i],VW.one (.int k i),i,rfl,hw⟩
   | string =>
    obtain ⟨s,rfl,rfl,hs⟩:=DataW.trod_string hu h
    exact ⟨[.str s.data.toList],VW.one (.str s.data.toList),_,rfl,hwt _ (by simp [DataW.weights])⟩
   | slice e =>
    have hok:(sl&&okT P n false e)=true:=hok
    rw [zqb] at hok
    rcases Go.Deep.open_slice hu h with ⟨rfl,_⟩ | ⟨a,len,cap,m',k,D,Pl,rfl,_,hl,hm,hmm,rfl,hx⟩
    ·exact ⟨[.slice 0 [] none],VW.one (.snil none),[],rfl,by simp,by simp,fun r hr=>by simp at hr⟩
    ·have hspot:a.spot=none:=hsp hok.1 _ (List.mem_singleton.2 rfl)
     simp only [if_true] at hmm
     simp only [DataW.weights,hu,List.mem_cons,List.mem_append,zqq,List.length_range] at hwt
     have hlen:len*P.bytesOf e≤B:=Nat.le_trans (Nat.mul_le_mul_right _ (by omega)) (hwt _ (.inl rfl))
     obtain ⟨cws,hcl,hcw⟩:=list_choice (n:=len) (Q:=fun i (y:List Value×List PV)=>w.cells? 0 (a.add (i*P.cellsOf e)) (P.cellsOf e)=some y.1∧VW (gAll w) w y.1 y.2∧RdP P B n e y.2) fun i hi=>by
      obtain ⟨cs',h1,h2⟩:=hx i (by omega)
      obtain ⟨ps,g1,g2⟩:=trod_rd n _ false e cs' _ hok.2 h2 (fun y hy=>hwt y (.inr (.inl (mem_weightsAll (List.mem_map.2 ⟨i,List.mem_range.2 hi,rfl⟩) hy)))) fun hc=>by cases hc
      exact ⟨(cs',ps),h1,g1,g2⟩
     have hadd:∀x y:Nat,(a.add x).add y=⟨a.block,a.off+x+y,none⟩:=fun x y=>by
      cases a with | mk b o s=>subst hspot;unfold Addr.add;split <;> split <;> simp_all
     have hrow:=rows_V (w:=w) (sz:=P.cellsOf e) (b:=a.block) (off:=a.off) (cws.map (·.2)) (cws.map (·.1)) 0 (by simp) fun i r cs hr hc=>by
      rw [List.getElem?_map,Option.map_eq_some_iff] at hr hc
      obtain ⟨y,hy,rfl⟩:=hr
      obtain ⟨z,hz,rfl⟩:=hc
      rw [hy] at hz;cases hz
      obtain ⟨g1,g2,g3⟩:=hcw i y hy
      obtain ⟨_,e1,e2⟩:=World.cells?_some g1
      exact ⟨e1,g2,fun j hj=>by rw [←e2 j hj,hadd,Nat.zero_add]⟩
     refine ⟨[.slice len (cws.map (·.2)).flatten none],VW.one ?_,cws.map (·.2),by simp [hcl],by simp only [zqq,hcl];exact hlen,by simp only [zqq,hcl];simp [maxLen] at hm;omega,fun r hr=>?_⟩
     ·cases a with
      | mk b o s =>
       subst hspot
       refine .slice b o len cap _ (fun j=>(w.cell? ⟨b,o+j,none⟩).getD Go.undef) hl (fun j c hj=>?_) fun j c hj=>?_
       ·obtain ⟨v,e1,_⟩:=hrow j c hj
        rw [Nat.zero_mul,Nat.zero_add] at e1
        exact ⟨cell_gAll e1,by rw [e1];rfl⟩
       ·obtain ⟨v,e1,e2⟩:=hrow j c hj
        rw [Nat.zero_mul,Nat.zero_add] at e1
        rw [e1];exact e2
     ·rw [List.mem_map] at hr
      obtain ⟨y,hy,rfl⟩:=hr
      obtain ⟨i,hi⟩:=List.getElem?_of_mem hy
      obtain ⟨g1,g2,g3⟩:=hcw i y hi
      exact ⟨by rw [g2.1];exact (World.cells?_some g1).2.1,g3⟩
   | struct fs =>
    have hok:((fs.toList.all fun f=>okT P n sl f.type)&&tile P 0 fs.toList (P.cellsOf t))=true:=hok
    rw [zqb,List.all_eq_true] at hok
    obtain ⟨xs,k,_,rfl,hl,hlen,hx⟩:=DataW.trod_struct hu h
    simp only [DataW.weights,hu] at hwt
    obtain ⟨ps,h1,h2⟩:=trod_fields (enc:=enc) (m:=k) (fun t cs x a b c d=>trod_rd n k sl t cs x a b c d) cs hsp fs.toList 0 hok.1 (by rw [hl];exact hok.2) fun f hf=>by
     obtain ⟨i,hi⟩:=List.getElem?_of_mem hf
     have hi':fs[i]? = some f:=by simpa using hi
     have hlt:i<xs.length:=by rw [hlen];exact (Array.getElem?_eq_some_iff.1 hi').1
     exact ⟨xs[i],by rw [hx i f hi',zqc hlt],fun y hy=>hwt y (mem_weightsEach (i:=i) (by simp [hi]) (by simp [hlt]) hy)⟩
    exact ⟨ps,h1,h2⟩
   | array k e =>
    have hok:(okT P n sl e&&Nat.beq (k*P.cellsOf e) (P.cellsOf t))=true:=hok
    rw [zqb] at hok
    obtain ⟨xs,f,_,rfl,hl,hlen,hx⟩:=DataW.trod_array hu h
    simp only [DataW.weights,hu] at hwt
    have htot:k*P.cellsOf e=cs.length:=by rw [hl];exact zqg hok.2
    have key:∀i,i≤k→∃rs:List (List PV),rs.length=k - i∧VW (gAll w) w (cs.drop (i*P.cellsOf e)) rs.flatten∧∀r∈rs,RdP P B n e r:=by
     intro i hi
     induction hd:k - i generalizing i with
     | zero =>
      refine ⟨[],rfl,?_,fun r hr=>by simp at hr⟩
      rw [show i=k by omega,htot,List.drop_length];exact VW.nil
     | succ d ihd =>
      obtain ⟨rs,g1,g2,g3⟩:=ihd (i+1) (by omega) (by omega)
      have hlt:i<xs.length:=by omega
      obtain ⟨r,r1,r2⟩:=trod_rd n f sl e _ xs[i] hok.1 (by rw [hx i (by omega),zqc hlt]) (fun y hy=>hwt y (mem_weightsAll (List.mem_map.2 ⟨xs[i],List.getElem_mem hlt,rfl⟩) hy)) fun hh v hv=>hsp hh v (List.mem_of_mem_drop (List.mem_of_mem_take hv))
      refine ⟨r::rs,by simp [g1],?_,fun r' hr'=>?_⟩
      ·have:=r1.append g2
       rw [Nat.succ_mul,←List.drop_drop,List.take_append_drop] at this
       simpa using this
      ·rcases List.mem_cons.1 hr' with rfl | hr'
       ·exact r2
       ·exact g3 _ hr'
    obtain ⟨rs,g1,g2,g3⟩:=key 0 (Nat.zero_le _)
    exact ⟨rs.flatten,by simpa using g2,rs,by simpa using g1,rfl,g3⟩
   | _=>cases hok
end
end Ps
/- PSem, part 24: a contract that answers true, at the root: what the row's form asks of the walk. -/
namespace Ps
open Go Go.RowKit
section
variable {P : Program}
theorem root_true {f : Nat} {fn : Func} {args : List PV} (h : CK P f args [] fun r _ => r = .bool true) (hf : P.funcs[f]? = some fn) (hname : (fn.name == "runtime.NumGoroutine") = false)
  (hb:fn.body.isSome=true) {w:World} {vs:Array Value} (hV:VW (gAll w) w vs.toList args) :
  Calls P f vs w fun e w'=>e=.returned (.bool true)∧Below w.heap.size w w':=by
 obtain ⟨c,hc⟩:=Option.isSome_iff_exists.1 hb
 have hs:vs.size=args.length:=by rw [hV.1];simp
 have hVt:∀t,V (gAll w) w (valOf vs t) (Env.get (args0 0 args) t):=fun t=>by
  rw [args0_get]
  simp only [Nat.zero_le,if_true,Nat.sub_zero,List.getD_eq_getElem?_getD]
  cases ha:args[t]? with
  | none=>exact .undef _
  | some p =>
   have hlt:t<vs.size:=by rw [hs];exact (zq1.1 ha).1
   have hv:vs.toList[t]? = some vs[t]:=by simp [hlt]
   have:=hV.2 t _ p hv ha
   simpa [valOf,hlt] using this
 have hno:∀b,¬cellOwn (gAll w) w [] b:=fun b ⟨id,j,o,_,_,_,h1,_⟩=>by simp at h1
 have hrel:Rel P (gAll w) w (valOf vs) (args0 0 args) []:=by
  refine ⟨⟨rfl,fun id id' b h=>?_,fun id b o h=>by simp at h,fun id b o h=>?_,fun b o h=>⟨fun id h=>?_,h⟩⟩,fun t=>(hVt t).vc,fun t i t' i' b h=>absurd h (no_own (hVt t) i b),fun t i b h=>absurd h (no_own (hVt t) i b),fun id j id' j' b h=>?_⟩
  ·simp [gAll] at h
  ·simp at h
  ·simp [gAll] at h
  ·obtain ⟨o,_,_,_,h1,_⟩:=h
   simp at h1
 have hx:=h (gAll w) w vs hs hrel
 have hrun:=run_callFunc_body (vs:=vs) (w:=w) hf hname (by rw [hc];rfl)
 rcases hx with ⟨_,hx⟩ | ⟨v,w',hx,_⟩
 ·refine hx.mono fun e w' ⟨v,r,H',g',he,hr,hrel',hst,_,_⟩=>?_
  subst hr
  have e0:VC P g' w' (one v 0) (.bool true):=hrel'.e 0
  have e1:v=.bool true:=by
   rcases e0 with e0 | ⟨_,_,_,_,e0,_⟩
   ·cases e0;rfl
   ·cases e0
  subst e1
  exact ⟨he,hst.os,hst.tape,hst.output,hst.size,fun k hk=>(hst.far k hk (fun id h=>by simp [gAll] at h) (hno k)).1⟩
 ·rw [hrun] at hx;cases hx
theorem VW.agg {g:Gh} {w:World} {vs:Array Value} {ps:List PV} (h:VW g w vs.toList ps):V g w (.agg vs) (.agg ps):=by
 refine .agg vs ps (by simpa using h.1.symm) fun j c hj=>?_
 have hlt:j<vs.size:=by
  have:=(zq1.1 hj).1
  rw [h.1] at this;simpa using this
 have:=h.2 j vs[j] c (by simp [hlt]) hj
 simpa [hlt] using this
theorem VW.cons {g:Gh} {w:World} {v:Value} {p:PV} {vs:List Value} {ps:List PV} (h:V g w v p) (h':VW g w vs ps):VW g w (v::vs) (p::ps):=(VW.one h).append h'
def argP (P:Program) (t:Nat) (ps:List PV):PV:=match P.underlying t with
 | some (.struct _)=>.agg ps
 | some (.array _ _)=>.agg ps
 | _=>match ps with
  | [p]=>p
  | _=>.undef
def RdA (P:Program) (B n:Nat):List Nat→List PV→Prop
 | [],xas=>xas=[]
 | t::ts,xas=>∃ps xas',xas=argP P t ps::xas'∧RdP P B n t ps∧RdA P B n ts xas'
theorem cell_spot {w:World} {r:Reach} {base:Nat} {t:TypeId} {v:Value} (h:Cell.okWide P w r base t v):spotOk v:=by
 cases v with
 | slice a len cap =>
  cases a with
  | none=>exact trivial
  | some a =>
   unfold Cell.okWide at h
   split at h <;> first | (rename_i e;cases e;done) | skip
   all_goals first | (exact absurd ‹_› (by simp;done)) | skip
   all_goals (unfold Cell.ok at h;split at h <;> simp_all [World.has,spotOk])
 | _=>exact trivial
section
variable {H : Type} {enc : TypeId × Value → H}
theorem args_rd {W:World} {base B n:Nat}:∀(ts:List Nat) (vs:List Value) (ds:List (DataW H)) (p:List MemPlace),(∀(j:Nat) t v,ts[j]? = some t→vs[j]? = some v→Value.okWide P W .any base t v) →
  DataW.TrodAll enc P W 0 (fun _=>true) true ts vs ds p→(∀y∈DataW.weightsEach P ts ds,y≤B)→(∀t∈ts,okT P n true t=true)→∃xas,VW (gAll W) W vs xas∧RdA P B n ts xas
 | [],[],[],_,_,_,_,_=>⟨[],VW.nil,rfl⟩
 | t::ts,v::vs,d::ds,p,hval,⟨p1,p2,⟨m,hm⟩,h2,_⟩,hw,hok=>by
  obtain ⟨xas,ha,ra⟩:=args_rd ts vs ds p2 (fun j t v h h'=>hval (j+1) t v h h') h2 (fun y hy=>hw y (by simp only [DataW.weightsEach,List.mem_append];exact .inr hy)) (fun t ht=>hok t (List.mem_cons_of_mem _ ht))
  have hv:=hval 0 t v rfl rfl
  have hwd:∀y∈d.weights P t,y≤B:=fun y hy=>hw y (by simp only [DataW.weightsEach,List.mem_append];exact .inl hy)
  have ht:=hok t List.mem_cons_self
  have one:∀q,(∀ps,RdP P B n t ps→∃p,ps=[p])→v.cells.toList=[q]→v=q→spotOk v→(∀p,argP P t [p]=p)→∃xas,VW (gAll W) W (v::vs) xas∧RdA P B n (t::ts) xas:=by
   intro q hps hc hq hsp harg
   rw [hc] at hm
   obtain ⟨ps,g1,g2⟩:=trod_rd n m true t [q] _ ht hm hwd fun _ u hu=>by
    rw [List.mem_singleton.1 hu,←hq];exact hsp
   obtain ⟨pv,rfl⟩:=hps ps g2
   exact ⟨pv::xas,VW.cons (by rw [hq];exact g1.2 0 q pv rfl rfl) ha,_,xas,by rw [harg],g2,ra⟩
  have agg:∀cs:Array Value,v=.agg cs→(∀u∈cs.toList,spotOk u)→(∀ps,argP P t ps=.agg ps)→∃xas,VW (gAll W) W (v::vs) xas∧RdA P B n (t::ts) xas:=by
   intro cs hcs hsp harg
   subst hcs
   obtain ⟨ps,g1,g2⟩:=trod_rd n m true t cs.toList _ ht hm hwd fun _ u hu=>hsp u hu
   exact ⟨.agg ps::xas,VW.cons g1.agg ha,ps,xas,by rw [harg],g2,ra⟩
  have row:∀cs:Array Value,Row.okWide P W .any base t cs→∀u∈cs.toList,spotOk u:=fun cs ⟨_,_,_,hc⟩ u hu=>by
   obtain ⟨i,hi⟩:=List.getElem?_of_mem hu
   obtain ⟨_,_,h⟩:=hc i u (by simpa using hi)
   exact cell_spot h
  cases n with
  | zero=>simp [okT] at ht
  | succ n =>
   cases hu:P.underlying t with
   | none=>unfold okT at ht;rw [hu] at ht;cases ht
   | some u =>
    have hcell:(∀fs,u≠.struct fs)→(∀k e,u≠.array k e)→Cell.okWide P W .any base t v:=fun h1 h2=>by
     unfold Value.okWide at hv
     rw [hu] at hv
     cases u <;> first | exact hv | exact absurd rfl (h1 _) | exact absurd rfl (h2 _ _)
    cases u with
    | bool =>
     obtain ⟨b,hb⟩:=WideShapes.okWide_bool hu hv
     exact one v (fun ps h=>by unfold RdP at h;rw [hu] at h;obtain ⟨_,h⟩:=h;exact ⟨_,h⟩) (by rw [hb];rfl) rfl (cell_spot (hcell (fun _ h=>by cases h) (fun _ _ h=>by cases h))) (fun p=>by unfold argP;rw [hu])
    | int k =>
     obtain ⟨b,hb⟩:=WideShapes.okWide_int hu hv
     exact one v (fun ps h=>by unfold RdP at h;rw [hu] at h;obtain ⟨_,h,_⟩:=h;exact ⟨_,h⟩) (by rw [hb];rfl) rfl (cell_spot (hcell (fun _ h=>by cases h) (fun _ _ h=>by cases h))) (fun p=>by unfold argP;rw [hu])
    | string =>
     obtain ⟨b,hb⟩:=WideShapes.okWide_string hu hv
     exact one v (fun ps h=>by unfold RdP at h;rw [hu] at h;obtain ⟨_,h,_⟩:=h;exact ⟨_,h⟩) (by rw [hb];rfl) rfl (cell_spot (hcell (fun _ h=>by cases h) (fun _ _ h=>by cases h))) (fun p=>by unfold argP;rw [hu])
    | slice e =>
     obtain ⟨a,l,c,hb⟩:=WideShapes.okWide_slice hu hv
     exact one v (fun ps h=>by unfold RdP at h;rw [hu] at h;obtain ⟨_,h,_⟩:=h;exact ⟨_,h⟩) (by rw [hb];rfl) rfl (cell_spot (hcell (fun _ h=>by cases h) (fun _ _ h=>by cases h))) (fun p=>by unfold argP;rw [hu])
    | struct fs =>
     unfold Value.okWide at hv
     rw [hu] at hv
     obtain ⟨cs,h1,_,h3⟩:=hv
     exact agg cs h1 (row cs h3) (fun ps=>by unfold argP;rw [hu])
    | array k e =>
     unfold Value.okWide at hv
     rw [hu] at hv
     obtain ⟨cs,h1,_,h3⟩:=hv
     exact agg cs h1 (row cs h3) (fun ps=>by unfold argP;rw [hu])
    | _=>unfold okT at ht;rw [hu] at ht;cases ht
 | [],_::_,_,_,_,h,_,_=>by cases h
 | [],[],_::_,_,_,h,_,_=>by cases h
 | _::_,[],_,_,_,h,_,_=>by cases h
 | _::_,_::_,[],_,_,h,_,_=>by cases h
theorem args_again {W W':World} (hl:laidOutB P=true) (hb:Below W.heap.size W W') {sp:Nat→Bool}:∀{ts:List Nat} {vs:List Value} {ds:List (DataW H)} {p:List MemPlace},(∀t∈ts,P.readableRec t=true∧t<P.types.size) →
  DataW.TrodAll enc P W 0 (fun _=>true) true ts vs ds p→(∀x∈p,x.block<W.heap.size)→(∀x∈p,sp x.block=true)→DataW.TrodAll enc P W' 0 sp true ts vs ds p
 | [],[],[],_,_,h,_,_=>h
 | t::ts,v::vs,d::ds,p,ht,⟨p1,p2,h1,h2,e⟩,hlt,hsp=>by
  subst e
  exact ⟨p1,p2,WideElems.Trod_stays hl (ht t List.mem_cons_self).1 (ht t List.mem_cons_self).2 h1 (fun x hx=>hb.same (hlt x (List.mem_append_left _ hx))) (fun x hx=>hsp x (List.mem_append_left _ hx)),
   args_again hl hb (fun t ht'=>ht t (List.mem_cons_of_mem _ ht')) h2 (fun x hx=>hlt x (List.mem_append_right _ hx)) (fun x hx=>hsp x (List.mem_append_right _ hx)),rfl⟩
 | [],_::_,_,_,_,h,_,_=>by cases h
 | [],[],_::_,_,_,h,_,_=>by cases h
 | _::_,[],_,_,_,h,_,_=>by cases h
 | _::_,_::_,[],_,_,h,_,_=>by cases h
theorem trodAll_len {W:World}:∀{ts:List Nat} {vs:List Value} {ds:List (DataW H)} {p:List MemPlace},DataW.TrodAll enc P W 0 (fun _=>true) true ts vs ds p→ds.length=ts.length
 | [],[],[],_,_=>rfl
 | _::_,_::_,_::_,_,⟨_,_,_,h,_⟩=>by simp [trodAll_len h]
 | [],_::_,_,_,h=>by cases h
 | [],[],_::_,_,h=>by cases h
 | _::_,[],_,_,h=>by cases h
 | _::_,_::_,[],_,h=>by cases h
theorem law_true {f : FuncId} {fn : Func} {s : ChangeSpec} {apart fresh handsOn again : Bool} {n tb : Nat} (hl : laidOutB P = true) (hf : P.funcs[f]? = some fn) (hname : (fn.name == "runtime.NumGoroutine") = false)
  (hb:fn.body.isSome=true) (hv:s.vars=[]) (hs:∀ds:List (DataW H),ds.length=fn.params.toList.length→s.fn H ds={ results:=[.lit (.bool true)],args:=ds })
  (hts:(fn.params.toList.all fun t=>okT P n true t&&P.readableRec t&&Nat.blt t P.types.size)=true) (hr:fn.resultTypes=#[tb]) (htb:P.underlying tb=some .bool)
  (hcall:∀xas,RdA P reachBytes n fn.params.toList xas→CK P f xas [] fun r _=>r=.bool true)
  {W:World} {base:Nat} {args:Array Value} {ds gs:List (DataW H)} {before:List MemPlace} (hval:∀(j:Nat) t v,fn.params[j]? = some t→args[j]? = some v→Value.okWide P W .any base t v)
  (hW:DataW.Whole enc P fn.params.toList s.vars apart W args.toList ds gs before) {vt:List TypeId} (hvt:vt=[]) (hwt:(DataW.weightsEach P (fn.params.toList++vt) (ds++gs)).all (·≤reachBytes)=true) :
  Calls P f args W fun e W'=>∃v,e=.returned v∧s.post enc P fn apart fresh handsOn again W args v W':=by
 have hW':=hW
 obtain ⟨p,q,hA,hV,rfl,hfz,hnd⟩:=hW
 rw [hv] at hV
 obtain ⟨rfl,rfl⟩:=ChangeShapes.trodVars_none hV
 subst hvt
 simp only [List.append_nil] at hwt hW' hfz hnd
 simp only [List.all_eq_true,zqb] at hts
 obtain ⟨xas,h1,h2⟩:=args_rd (B:=reachBytes) (n:=n) fn.params.toList args.toList ds p (fun j t v h h'=>hval j t v (by simpa using h) (by simpa using h')) hA (fun y hy=>by simpa using List.all_eq_true.1 hwt y hy) (fun t ht=>(hts t ht).1.1)
 refine (root_true (hcall xas h2) hf hname hb h1).mono fun e W' ⟨he,hbe⟩=>⟨_,he,?_⟩
 have hlt:∀x∈p,x.block<W.heap.size:=fun x hx=>by simpa using hW'.lt x hx
 have hfn:=hs ds (by rw [trodAll_len hA])
 have hargs:∀sp:Nat→Bool,(∀x∈p,sp x.block=true)→DataW.TrodAll enc P W' 0 sp true fn.params.toList args.toList ds p:=fun sp hsp =>
  args_again hl hbe (fun t ht=>⟨(hts t ht).1.2,by simpa using (hts t ht).2⟩) hA hlt hsp
 have hres:∀(b:Nat) (sp:Nat→Bool) (hd:Bool),DataW.TrodAll enc P W' b sp hd fn.resultTypes.toList ((Value.bool true).resultList fn.resultTypes.size) [.lit (.bool true)] []:=fun b sp hd=>by
  rw [hr]
  exact ⟨[],[],⟨1,by simp [DataW.trod,htb,Value.cells]⟩,rfl,rfl⟩
 refine ⟨ds,[],p,[],p,[],hW',?_,?_,?_,hbe.frame _,fun _=>⟨fun j t r ht hr'=>?_,ds.cons (.lit (.bool true)),[],p,⟨p,[],?_,?_,by simp,fun b off hp=>?_,fun ha=>by simpa using hnd ha⟩,fun x hx _=>hx⟩⟩
 ·rw [List.append_nil,hfn];exact hres _ _ _
 ·rw [List.append_nil,hfn];exact hargs _ fun x hx=>by simpa using hlt x hx
 ·rw [List.append_nil,hfn,hv];rfl
 ·rw [hr] at ht hr'
  match j with
  | 0 =>
   simp at ht
   have hr':Value.bool true=r:=by simpa [Value.resultList] using hr'
   subst ht;subst hr'
   unfold Value.okWide
   rw [htb]
   simp [Cell.okWide,htb,Cell.ok]
  | j+1=>simp at ht
 ·rw [hr]
  exact ⟨[],p,⟨1,by simp [DataW.trod,htb,Value.cells]⟩,hargs _ (fun _ _=>rfl),rfl⟩
 ·rw [hv];rfl
 ·rw [hbe.frozen (hlt _ hp)]
  exact hfz b off hp
end
end
end Ps
/- PSem, part 25: contracts of the kit's own kind ('Calls .. Below'), taken as contracts here. -/
namespace Ps
open Go Go.RowKit
section
variable {P : Program}
end
end Ps
/- PSem, part 26: sync/atomic's externs, marks; what has no body and writes an object's cell. -/
namespace Ps
open Go
section
variable {P : Program}
theorem CK.dem {f:Nat} {args:List PV} {H:PH} {Q Q':PV→PH→Prop} (h:CK P f args H Q) (hq:∀r H',Q r H'→(∀cs,r≠.tup cs)∧Q' (Ps.dem r) H'):CK P f args H Q':=fun g w vs hs hr =>
 (h g w vs hs hr).mono fun e w' ⟨v,r,H',g',he,q,hrel,hst,ho,hc⟩=>by
  obtain ⟨hnt,hq'⟩:=hq r H' q
  have hv:V g' w' v (Ps.dem r):=(hrel.e 0).dem
  refine ⟨v,Ps.dem r,H',g',he,hq',⟨hrel.h,fun t=>?_,fun t i t' i' b k=>?_,fun t i b k=>?_,hrel.cc⟩,hst,fun i b k=>absurd k (no_own hv i b),hc⟩
  ·rw [Env.get_cons]
   unfold one
   by_cases e:t=0
   ·rw [zqp e,zqp e.symm];exact hv.vc
   ·rw [zqo e,zqo (Ne.symm e)];exact (V.undef _).vc
  ·rw [Env.get_cons] at k
   unfold one at k
   by_cases e:t=0
   ·rw [zqp e,zqp e.symm] at k;exact absurd k (no_own hv i b)
   ·rw [zqo (Ne.symm e)] at k;cases k.2.1
  ·rw [Env.get_cons] at k
   unfold one at k
   by_cases e:t=0
   ·rw [zqp e,zqp e.symm] at k;exact absurd k (no_own hv i b)
   ·rw [zqo (Ne.symm e)] at k;cases k.2.1
theorem CK.demT {f:Nat} {args:List PV} {H:PH} {Q Q':PV→PH→Prop} (h:CK P f args H Q) (hq:∀r H',Q r H'→∃cs,r=.tup cs∧Q' (.tup (cs.map Ps.dem)) H'):CK P f args H Q':=fun g w vs hs hr =>
 (h g w vs hs hr).mono fun e w' ⟨v,r,H',g',he,q,hrel,hst,ho,hc⟩=>by
  obtain ⟨cs,rfl,hq'⟩:=hq r H' q
  obtain ⟨us,h1,h2,h3⟩:VC P g' w' v (.tup cs):=hrel.e 0
  have hv:VC P g' w' v (.tup (cs.map Ps.dem)):=⟨us,h1,by rw [zqq];exact h2,fun j c hj=>by
   rw [List.getElem?_map] at hj
   obtain ⟨c0,k1,k2⟩:=Option.map_eq_some_iff.1 hj
   subst k2
   exact .inl (h3 j c0 k1).dem⟩
  have hno:∀i b,¬ownAt v (.tup (cs.map Ps.dem)) i b:=fun i b ⟨c,k1,k2,_⟩=>by
   rw [List.getElem?_map] at k1
   obtain ⟨c0,_,k4⟩:=Option.map_eq_some_iff.1 k1
   rw [←k4,dem_own] at k2
   cases k2
  refine ⟨v,.tup (cs.map Ps.dem),H',g',he,hq',⟨hrel.h,fun t=>?_,fun t i t' i' b k=>?_,fun t i b k=>?_,hrel.cc⟩,hst,fun i b k=>absurd k (hno i b),hc⟩
  ·rw [Env.get_cons]
   unfold one
   by_cases e:t=0
   ·rw [zqp e,zqp e.symm];exact hv
   ·rw [zqo e,zqo (Ne.symm e)];exact (V.undef _).vc
  ·rw [Env.get_cons] at k
   unfold one at k
   by_cases e:t=0
   ·rw [zqp e,zqp e.symm] at k;exact absurd k (hno i b)
   ·rw [zqo (Ne.symm e)] at k;cases k.2.1
  ·rw [Env.get_cons] at k
   unfold one at k
   by_cases e:t=0
   ·rw [zqp e,zqp e.symm] at k;exact absurd k (hno i b)
   ·rw [zqo (Ne.symm e)] at k;cases k.2.1
theorem Pure.demT {f:Nat} {args cs:List PV} (h:Pure P f args (.tup cs)):Pure P f args (.tup (cs.map Ps.dem)):=fun H=>(h H).demT fun r H' ⟨h1,h2⟩=>⟨cs,h1,rfl,h2⟩
theorem callOk_run {f:Nat} {args:List PV} {H:PH} {Q:PV→PH→Prop}
  (h:∀(g:Gh) (w:World) (vs:Array Value),vs.size=args.length→(∀t,VC P g w (valOf vs t) ((args0 0 args).get t))→RelH P g w H →
   ∃(v:Value) (w':World) (r:PV) (H':PH),(callFunc f vs).run P w=.ok (.value v) w'∧VC P g w' v r∧(∀i b,¬ownAt v r i b)∧Q r H' ∧
    ∀(N:Nat) (a:Act) (E:Env),Inv P g w H (cellOwn g w H) N g w a E H→Inv P g w H (cellOwn g w H) N g w' a E H'):CK P f args H Q:=by
 intro g w vs hs hr
 obtain ⟨v,w',r,H',h1,h2,h3,h4,h5⟩:=h g w vs hs hr.e hr.h
 have hV:∀t,V g w (valOf vs t) (Env.get (args0 0 (args.map dem)) t):=fun t=>by
  have:=(hr.e t).dem
  rw [args0_get] at this ⊢
  simp only [Nat.zero_le,if_true,Nat.sub_zero,List.getD_eq_getElem?_getD,List.getElem?_map] at this ⊢
  cases h:args[t]? with
  | none=>exact .undef _
  | some p=>rw [h] at this;exact this
 have hinv:Inv P g w H (cellOwn g w H) vs.size g w { tmps:=vs,defers:=[] } (args0 0 (args.map dem)) H:=by
  have hrel:Rel P g w (valOf vs) (args0 0 (args.map dem)) H:=⟨hr.h,fun t=>(hV t).vc,fun t i t' i' b h=>absurd h (no_own (hV t) i b),fun t i b h=>absurd h (no_own (hV t) i b),hr.cc⟩
  exact ⟨hrel,rfl,rfl,⟨Same.refl _ _ _,rfl,rfl,rfl,zqn _,Keeps.refl _ _,fun _ _ h=>.inl h,fun b _ _ _=>⟨rfl,fun o h=>h⟩,fun _ h=>h⟩,fun t i b h=>absurd h (no_own (hV t) i b),fun b h=>.inr h⟩
 have inv:=h5 _ _ _ hinv
 refine .inr ⟨v,w',h1,v,r,H',g,rfl,h4,⟨inv.rel.h,fun t=>?_,fun t i t' i' b k=>?_,fun t i b k=>?_,inv.rel.cc⟩,inv.step,fun i b k=>absurd k (h3 i b),inv.cown⟩
 ·rw [Env.get_cons]
  unfold one
  by_cases e:t=0
  ·rw [zqp e,zqp e.symm];exact h2
  ·rw [zqo e,zqo (Ne.symm e)];exact (V.undef _).vc
 ·rw [Env.get_cons] at k
  unfold one at k
  by_cases e:t=0
  ·rw [zqp e,zqp e.symm] at k;exact absurd k (h3 i b)
  ·rw [zqo (Ne.symm e)] at k;cases k.2.1
 ·rw [Env.get_cons] at k
  unfold one at k
  by_cases e:t=0
  ·rw [zqp e,zqp e.symm] at k;exact absurd k (h3 i b)
  ·rw [zqo (Ne.symm e)] at k;cases k.2.1
theorem unit_vc {g:Gh} {w:World}:VC P g w (.tuple #[]) (.tup []):=⟨#[],rfl,rfl,fun j c h=>by simp at h⟩
theorem unit_own:∀i b,¬ownAt (.tuple #[]) (.tup []) i b:=fun i b ⟨c,h,_⟩=>by simp at h
theorem cell_at {g:Gh} {w:World} {H:PH} {id off:Nat} {o:PObj} {k:IntKind} {n:Int} {v:Value} (hh:RelH P g w H) (hv:VC P g w v (.ptr (some (id,off)))) (ho:H[id]? = some o) (hc:o.cs[off]? = some (.int k n)) :
  ∃b,v=.pointer (some ⟨b,off,none⟩)∧w.cell? ⟨b,off,none⟩=some (.int k n)∧w.frozen? ⟨b,off,none⟩=false ∧
   ∀m,∀{g0:Gh} {w0:World} {H0:PH} {F0:Nat→Prop} (N:Nat) (a:Act) (E:Env),Inv P g0 w0 H0 F0 N g w a E H→Inv P g0 w0 H0 F0 N g (w.setCell ⟨b,off,none⟩ (.int k m)) a E (H.set id ⟨o.T,setCells off [.int k m] o.cs,o.ver+1⟩):=by
 obtain ⟨b,e1,e2,hkd⟩:=(plain_of hv (by simp) (by simp)).inv_ptr
 obtain ⟨u,h1,h2⟩:=Cells.obj hh ho e2 hkd off _ hc
 rw [Nat.zero_add] at h1
 have hu:u=.int k n:=VC.int h2.vc
 subst hu
 obtain ⟨vs,k1,k2,k3⟩:=hh.obj id b o ho e2 hkd
 refine ⟨b,e1,h1,by simp [World.frozen?,k1],fun m=>fun N a E inv=>?_⟩
 have hl:off+[PV.int k m].length≤o.cs.length:=(zq1.1 hc).1
 have hw:(w.setCell ⟨b,off,none⟩ (.int k m)).heap[b]? = some (.cells (vs.setIfInBounds off (.int k m)) o.T (0,0)):=heap_setCell_same w b off vs o.T _ k1
 have hW:Writes w (w.setCell ⟨b,off,none⟩ (.int k m)) b (.cells (vs.setIfInBounds off (.int k m)) o.T (0,0)):=by
  refine ⟨hw,fun b' hb=>?_,?_,?_,?_,?_⟩
  ·exact heap_setCell_other w _ b' _ hb
  ·simp [World.setCell]
  all_goals rfl
 refine inv.store ho e2 hkd hW (by rw [setCells_length _ _ _ hl];simpa using k2) (fun j c hj=>?_) off (fun j c v' bb hj ho' hv' hb=>?_)
 ·rw [setCells_get _ _ _ hl] at hj
  rw [Array.getElem?_setIfInBounds]
  have hlt:off<vs.size:=Nat.lt_of_lt_of_le hl k2
  split at hj
  ·rename_i hc'
   have hjo:j=off:=by have:=hc'.2;simp at this;omega
   subst hjo
   simp at hj
   subst hj
   exact ⟨_,by rw [zqp rfl,zqp hlt],.inl (.int _ _)⟩
  ·rename_i hc'
   rw [zqo (fun e=>hc' ⟨by omega,by simp;omega⟩)]
   exact k3 j c hj
 ·rw [setCells_get _ _ _ hl] at hj
  rw [Array.getElem?_setIfInBounds] at hv'
  split at hj
  ·rename_i hc'
   have hjo:j=off:=by have:=hc'.2;simp at this;omega
   subst hjo
   simp at hj
   subst hj
   cases ho'
  ·rename_i hc'
   rw [zqo (fun e=>hc' ⟨by omega,by simp;omega⟩)] at hv'
   exact .inl ⟨o,c,b,v',ho,hj,ho',e2,by rw [cell?_cells k1];exact hv',hb⟩
theorem args1 {g:Gh} {w:World} {vs:Array Value} {x:PV} (hs:vs.size=1) (hv:∀t,VC P g w (valOf vs t) ((args0 0 [x]).get t)):∃a,vs=#[a]∧VC P g w a x:=by
 have h0:=hv 0
 match vs,hs with
 | ⟨[a]⟩,_=>exact ⟨a,rfl,h0⟩
theorem args2 {g:Gh} {w:World} {vs:Array Value} {x y:PV} (hs:vs.size=2) (hv:∀t,VC P g w (valOf vs t) ((args0 0 [x,y]).get t)):∃a b,vs=#[a,b]∧VC P g w a x∧VC P g w b y:=by
 have h0:=hv 0
 have h1:=hv 1
 match vs,hs with
 | ⟨[a,b]⟩,_=>exact ⟨a,b,rfl,h0,h1⟩
variable {f : Nat} {fn : Func} (hf : P.funcs[f]? = some fn) (hname : (fn.name == "runtime.NumGoroutine") = false) (hb : fn.body.isNone = true) (hn : Extern.findNext fn = none)
include hf hname hb hn
theorem callOk_load (k:IntKind) (he:Extern.find fn=some (Extern.Atomic.loadT (.int k))) {H:PH} {id off:Nat} {o:PObj} {n:Int} (ho:H[id]? = some o) (hc:o.cs[off]? = some (.int k n)) :
  CK P f [.ptr (some (id,off))] H fun r H'=>r=.int k n∧H'=H:=callOk_run fun g w vs hs hv hh=>by
 obtain ⟨a,rfl,ha⟩:=args1 hs hv
 obtain ⟨b,rfl,h1,h2,h3⟩:=cell_at hh ha ho hc
 exact ⟨_,w,.int k n,H,run_call_load hf hname hb hn k he h1,(V.int _ _).vc,no_own (g:=g) (w:=w) (.int _ _),⟨rfl,rfl⟩,fun _ _ _ inv=>inv⟩
theorem callOk_store (k:IntKind) (he:Extern.find fn=some Extern.Atomic.storeT) {H:PH} {id off:Nat} {o:PObj} {n:Int} (m:Int) (ho:H[id]? = some o) (hc:o.cs[off]? = some (.int k n)) :
  CK P f [.ptr (some (id,off)),.int k m] H fun r H'=>r=.tup []∧H'=H.set id ⟨o.T,setCells off [.int k m] o.cs,o.ver+1⟩:=callOk_run fun g w vs hs hv hh=>by
 obtain ⟨a,y,rfl,ha,hy⟩:=args2 hs hv
 obtain ⟨b,rfl,h1,h2,h3⟩:=cell_at hh ha ho hc
 have hy:=hy.int
 subst hy
 exact ⟨_,_,.tup [],_,run_call_store hf hname hb hn he h1 h2,unit_vc,unit_own,⟨rfl,rfl⟩,fun N a E inv=>h3 m N a E inv⟩
theorem callOk_add (k:IntKind) (he:Extern.find fn=some (Extern.Atomic.update (Op.intArith .add) k true)) {H:PH} {id off:Nat} {o:PObj} {n:Int} (m:Int) (ho:H[id]? = some o) (hc:o.cs[off]? = some (.int k n)) :
  CK P f [.ptr (some (id,off)),.int k m] H fun r H'=>r=.int k (k.wrap (n+m))∧H'=H.set id ⟨o.T,setCells off [.int k (k.wrap (n+m))] o.cs,o.ver+1⟩:=callOk_run fun g w vs hs hv hh=>by
 obtain ⟨a,y,rfl,ha,hy⟩:=args2 hs hv
 obtain ⟨b,rfl,h1,h2,h3⟩:=cell_at hh ha ho hc
 have hy:=hy.int
 subst hy
 exact ⟨_,_,.int k (k.wrap (n+m)),_,run_call_add hf hname hb hn k he h1 h2 rfl,(V.int _ _).vc,no_own (g:=g) (w:=w) (.int _ _),⟨rfl,rfl⟩,fun N a E inv=>h3 _ N a E inv⟩
end
end Ps
/- The words that the walks use at home; export.py writes them out. -/
namespace Ps
open Go
end Ps
set_option maxRecDepth 100000
namespace Go.Proofs.Tryz
open Go Ps
theorem follows:prog.follows .mixedOrders=true:=by kernel_rfl
theorem depth6:6≤prog.depth:=by
 have h:Nat.ble 6 prog.depth=true:=by kernel_rfl
 exact zqh h
theorem fnS {tt : TT} {imm : List Nat} {f : Nat} {fn : Func} {args : List PV} {H : PH} {Q : PV → PH → Prop} (hT : ttOk prog tt = true) (hf : prog.funcs[f]? = some fn) (h : pFun2 prog tt imm fn args H Q) (hn : (fn.name == "runtime.NumGoroutine") = false := by kernel_rfl) : CK prog f args H Q :=
  callOk_of_pFun2 follows hT depth6 hf hn h
def tt184:TT:=[(3,⟨.int .i64,1,8,[.int .i64 0]⟩),(9,⟨.str,1,16,[.str []]⟩)]
theorem tt184_ok:ttOk prog tt184=true:=by kernel_rfl
def imm184:List Nat:=[]
def tt201:TT:=[(9,⟨.str,1,16,[.str []]⟩)]
theorem tt201_ok:ttOk prog tt201=true:=by kernel_rfl
def imm201:List Nat:=[]
def tt167:TT:=[(4,⟨.bool,1,1,[.bool false]⟩),(9,⟨.str,1,16,[.str []]⟩)]
theorem tt167_ok:ttOk prog tt167=true:=by kernel_rfl
def imm167:List Nat:=[]
def tt128:TT:=[(9,⟨.str,1,16,[.str []]⟩)]
theorem tt128_ok:ttOk prog tt128=true:=by kernel_rfl
def imm128:List Nat:=[]
theorem take_of_prefix {p s:List UInt8} (h:p.length≤s.length):(s.take p.length=p)↔p.isPrefixOf s=true:=by
 rw [List.isPrefixOf_iff_prefix,List.prefix_iff_eq_take];exact eq_comm
theorem c184 (s p:List UInt8):Pure prog 184 [.str s,.str p] (.bool (p.isPrefixOf s)):=by
 intro H
 (refine fnS (imm:=imm184) tt184_ok func184 ?_;(conv=>whnf))
 refine ⟨fun h=>?_,fun h=>?_⟩
 ·conv=>whnf
  have h:p.length≤s.length:=by omega
  refine ⟨⟨by omega,by omega,by omega⟩,?_⟩
  conv=>whnf
  simp only [Int.toNat_natCast,Int.toNat_zero,List.drop_zero]
  refine ⟨fun h2=>?_,fun h2=>?_⟩
  ·conv=>whnf
   exact ⟨by rw [(take_of_prefix h).1 h2];rfl,rfl⟩
  ·conv=>whnf
   have:p.isPrefixOf s=false:=by
    cases hb:p.isPrefixOf s with
    | false=>rfl
    | true=>exact absurd ((take_of_prefix h).2 hb) h2
   exact ⟨by rw [this];rfl,rfl⟩
 ·conv=>whnf
  have:p.isPrefixOf s=false:=by
   cases hb:p.isPrefixOf s with
   | false=>rfl
   | true =>
    have:=(List.isPrefixOf_iff_prefix.1 hb).length_le
    omega
  exact ⟨by rw [this];rfl,rfl⟩
theorem c201 (s p:List UInt8):Pure prog 201 [.str s,.str p] (.bool (p.isPrefixOf s)):=by
 intro H
 (refine fnS (imm:=imm201) tt201_ok func201 ?_;(conv=>whnf))
 (refine cP ((c184 s p)) ?_;try (conv=>whnf))
 exact ⟨rfl,rfl⟩
def cutP (s p:List UInt8):PV:=if p.isPrefixOf s then .tup [.str (s.drop p.length),.bool true] else .tup [.str s,.bool false]
theorem c167 (s p:List UInt8):Pure prog 167 [.str s,.str p] (cutP s p):=by
 intro H
 (refine fnS (imm:=imm167) tt167_ok func167 ?_;(conv=>whnf))
 refine cP (c184 s p) ?_
 unfold cutP
 cases hb:p.isPrefixOf s
 ·conv=>whnf
  exact ⟨rfl,rfl⟩
 ·conv=>whnf
  have:=(List.isPrefixOf_iff_prefix.1 hb).length_le
  refine ⟨⟨by omega,by omega,by omega⟩,?_⟩
  conv=>whnf
  refine ⟨?_,rfl⟩
  simp [tupOf]
theorem c128 (s p:List UInt8):Pure prog 128 [.str s,.str p] (cutP s p):=by
 intro H
 (refine fnS (imm:=imm128) tt128_ok func128 ?_;(conv=>whnf))
 refine cP (c167 s p) ?_
 unfold cutP
 cases hb:p.isPrefixOf s
 ·conv=>whnf
  exact ⟨rfl,rfl⟩
 ·conv=>whnf
  exact ⟨rfl,rfl⟩
def tt232:TT:=[(5,⟨.int .u8,1,1,[.int .u8 0]⟩),(9,⟨.str,1,16,[.str []]⟩)]
theorem tt232_ok:ttOk prog tt232=true:=by kernel_rfl
def imm232:List Nat:=[]
def tt231:TT:=[(3,⟨.int .i64,1,8,[.int .i64 0]⟩),(5,⟨.int .u8,1,1,[.int .u8 0]⟩),(9,⟨.str,1,16,[.str []]⟩)]
theorem tt231_ok:ttOk prog tt231=true:=by kernel_rfl
def imm231:List Nat:=[]
def tt221:TT:=[(9,⟨.str,1,16,[.str []]⟩)]
theorem tt221_ok:ttOk prog tt221=true:=by kernel_rfl
def imm221:List Nat:=[]
def tt220:TT:=[(3,⟨.int .i64,1,8,[.int .i64 0]⟩),(5,⟨.int .u8,1,1,[.int .u8 0]⟩),(9,⟨.str,1,16,[.str []]⟩)]
theorem tt220_ok:ttOk prog tt220=true:=by kernel_rfl
def imm220:List Nat:=[]
def tt212:TT:=[(3,⟨.int .i64,1,8,[.int .i64 0]⟩),(9,⟨.str,1,16,[.str []]⟩),(22,⟨.slice 9,1,24,[.slice 0 [] (some 9)]⟩)]
theorem tt212_ok:ttOk prog tt212=true:=by kernel_rfl
def tt200:TT:=[(3,⟨.int .i64,1,8,[.int .i64 0]⟩),(9,⟨.str,1,16,[.str []]⟩),(22,⟨.slice 9,1,24,[.slice 0 [] (some 9)]⟩)]
theorem tt200_ok:ttOk prog tt200=true:=by kernel_rfl
def imm200:List Nat:=[]
theorem c230 (s:List UInt8) (c:UInt8):Pure prog 230 [.str s,bC c] (.int .i64 (Lib.countByte s c)) :=
 pure_extern2 (e:=Extern.BytealgCount.count) func230 (by kernel_rfl) (by kernel_rfl) (by kernel_rfl) (by kernel_rfl) (run_count s c)
theorem c239 (s:List UInt8) (c:UInt8):Pure prog 239 [.str s,bC c] (.int .i64 (Lib.indexByte s c)) :=
 pure_extern2 (e:=Extern.BytealgIndexByte.indexByte) func239 (by kernel_rfl) (by kernel_rfl) (by kernel_rfl) (by kernel_rfl) (run_index s c)
theorem c232 (s:List UInt8) (c:UInt8):Pure prog 232 [.str s,bC c] (.int .i64 (Lib.indexByte s c)):=by
 intro H
 (refine fnS (imm:=imm232) tt232_ok func232 ?_;(conv=>whnf))
 (refine cP ((c239 s c)) ?_;try (conv=>whnf))
 exact ⟨rfl,rfl⟩
theorem c231 (s:List UInt8) (c:UInt8):Pure prog 231 [.str s,.str [c]] (.int .i64 (Lib.indexByte s c)):=by
 intro H
 (refine fnS (imm:=imm231) tt231_ok func231 ?_;(conv=>whnf))
 refine ⟨fun h=>absurd h (by simp),fun h=>?_⟩
 conv=>whnf
 refine ⟨fun h=>?_,fun h=>?_⟩
 ·subst h
  conv=>whnf
  exact ⟨by simp [Lib.indexByte,tupOf],rfl⟩
 ·conv=>whnf
  refine ⟨fun h1=>?_,fun h1=>absurd (by simp) h1⟩
  conv=>whnf
  refine ⟨⟨by omega,by simp⟩,c,rfl,?_⟩
  conv=>whnf
  (refine cP ((c232 s c)) ?_;try (conv=>whnf))
  exact ⟨rfl,rfl⟩
theorem c221 (s:List UInt8) (c:UInt8):Pure prog 221 [.str s,.str [c]] (.int .i64 (Lib.indexByte s c)):=by
 intro H
 (refine fnS (imm:=imm221) tt221_ok func221 ?_;(conv=>whnf))
 (refine cP ((c231 s c)) ?_;try (conv=>whnf))
 exact ⟨rfl,rfl⟩
theorem c220 (s:List UInt8) (c:UInt8):Pure prog 220 [.str s,.str [c]] (.int .i64 (Lib.countByte s c)):=by
 intro H
 (refine fnS (imm:=imm220) tt220_ok func220 ?_;(conv=>whnf))
 refine ⟨fun h=>absurd h (by simp),fun h=>?_⟩
 conv=>whnf
 refine ⟨fun h1=>?_,fun h1=>absurd (by simp) h1⟩
 conv=>whnf
 refine ⟨⟨by omega,by simp⟩,c,rfl,?_⟩
 conv=>whnf
 (refine cP ((c230 s c)) ?_;try (conv=>whnf))
 exact ⟨rfl,rfl⟩
def imm212':List Nat:=[31]
theorem c212 (s:List UInt8) (c:UInt8) (H:PH) (hs:s.length≤1099511627776) :
  CK prog 212 [.str s,.str [c],.int .i64 0,.int .i64 (-1)] H fun r H' =>
   r=.sref H.length 0 (splitB c s).length (splitB c s).length∧∃v,H'=H++[⟨9,(splitB c s).map .str,v⟩]:=by
 have hcl:=countB_le c s
 have hsl:=splitB_len c s
 refine callOk_of_pFun (tt:=tt212) (imm:=imm212') follows tt212_ok depth6 func212 (by kernel_rfl) ?_
 conv=>whnf
 refine ⟨fun h=>absurd h (by decide),fun h=>?_⟩
 conv=>whnf
 refine ⟨fun h=>absurd h (by simp),fun h=>?_⟩
 conv=>whnf
 refine ⟨fun h=>?_,fun h=>absurd (by decide) h⟩
 conv=>whnf
 refine cP (c220 s c) ?_
 conv=>whnf
 rw [w64 (by omega) (by omega),w64 (by omega) (by omega),Int.min_eq_left (by omega)]
 refine ⟨⟨by omega,by omega,by simp;omega⟩,?_⟩
 conv=>whnf
 refine lO (List UInt8×List (List UInt8)) (fun x=>[(0,.str x.1),(1,.str [c]),(2,.int .i64 0),(3,.int .i64 (Lib.countByte s c)),(9,.sref H.length 0 (splitB c s).length (splitB c s).length),(10,.int .i64 x.2.length)])
  (fun x=>H++[⟨9,x.2.map .str++List.replicate (Lib.countByte x.1 c+1) (.str []),x.2.length⟩])
  (fun x=>x.2++splitB c x.1=splitB c s∧x.1.length≤s.length) (fun x=>x.1.length) ⟨(s,[]),⟨rfl,zqn _⟩,?_,?_⟩ ?_
 ·refine ⟨rfl,rfl,rfl,?_,?_,rfl,zqv⟩
  ·show PV.int _ _=PV.int _ _
   rw [w64 (by omega) (by omega)];congr 1;omega
  ·show PV.sref _ _ _ _=PV.sref _ _ _ _
   congr 1 <;> omega
 ·show H++[PObj.mk _ _ _]=H++[PObj.mk _ _ _]
  rw [zerosOf_one]
  simp
 ·rintro ⟨r,done⟩ ⟨h1,h2⟩
  have hl:done.length+(splitB c r).length=(splitB c s).length:=by rw [←h1,zqf]
  have hrl:=splitB_len c r
  have h1:done++splitB c r=splitB c s:=h1
  have h2:r.length≤s.length:=h2
  have tail:splitB c r=[r]→setCells (0+(done.length:Int).toNat*1) [PV.str r] (done.map .str++List.replicate (Lib.countByte r c+1) (.str []))=(splitB c s).map .str:=fun hr=>by
   have hz:Lib.countByte r c=0:=by rw [hr] at hrl;simp at hrl;exact hrl
   rw [hz,←h1,hr]
   exact (setCells_one _ _ _ _ _ (by simp)).trans (by simp)
  conv=>whnf
  refine ⟨fun h3=>?_,fun h3=>?_⟩
  ·conv=>whnf
   refine cP (c221 r c) ?_
   conv=>whnf
   refine ⟨fun h4=>?_,fun h4=>?_⟩
   ·conv=>whnf
    rcases splitB_idx c r with ⟨i1,i2,i3⟩ | ⟨i,i1,_⟩
    ·have h3:(done.length:Int)<(Lib.countByte s c:Int):=h3
     refine ⟨⟨by omega,by omega⟩,?_⟩
     conv=>whnf
     rw [gL]
     conv=>whnf
     ((conv in (Nat.ble _ _)=>tactic=>exact (show Nat.ble (0+(done.length:Int).toNat*1+1) (done.map PV.str++List.replicate (Lib.countByte r c+1) (PV.str [])).length=true by rw [Nat.ble_eq];simp));(conv=>whnf))
     rw [w64 (by simp;omega) (by simp;omega)]
     refine ⟨⟨by omega,by simp;omega,by simp;omega⟩,fun _=>?_,fun hc=>absurd (by omega) hc⟩
     conv=>whnf
     refine ⟨?_,done.length+1,?_⟩
     ·show PV.sref _ _ _ _=PV.sref _ _ _ _
      congr 1 <;> simp <;> omega
     ·show (H++[_]).set _ _=_
      rw [sL]
      show H++[PObj.mk _ (setCells (0+(done.length:Int).toNat*1) [PV.str r] (done.map .str++List.replicate (Lib.countByte r c+1) (.str []))) _]=_
      rw [tail i2]
    ·omega
   ·conv=>whnf
    rcases splitB_idx c r with ⟨i1,_⟩ | ⟨i,i1,i2,i3,i4⟩
    ·omega
    ·have h3:(done.length:Int)<(Lib.countByte s c:Int):=h3
     rw [w64 (by omega) (by omega)]
     refine ⟨⟨by omega,by omega,by show Lib.indexByte r c+0≤(r.length:Int);omega⟩,?_⟩
     conv=>whnf
     refine ⟨⟨by show (0:Int)≤done.length;omega,by show (done.length:Int)<_;omega⟩,?_⟩
     conv=>whnf
     rw [gL]
     conv=>whnf
     ((conv in (Nat.ble _ _)=>tactic=>exact (show Nat.ble (0+(done.length:Int).toNat*1+1) (done.map PV.str++List.replicate (Lib.countByte r c+1) (PV.str [])).length=true by rw [Nat.ble_eq];simp));(conv=>whnf))
     rw [w64 (by simp;omega) (by simp;omega)]
     refine ⟨⟨by simp;omega,by simp;omega,by simp⟩,?_⟩
     conv=>whnf
     have e1:((Lib.indexByte r c+([c].length:Int)).toNat)=i+1:=by rw [i1];simp
     have e2:(Lib.indexByte r c+0).toNat=i:=by rw [i1];simp
     refine ⟨(r.drop (i+1),done++[r.take i]),⟨?_,?_⟩,⟨?_,rfl,rfl,rfl,rfl,?_,zqv⟩,?_,?_⟩
     ·show (done++[r.take i])++splitB c (r.drop (i+1))=_
      rw [←h1,i3];simp
     ·show (r.drop (i+1)).length≤_
      rw [List.length_drop];omega
     ·show PV.str ((r.take ((r.length:Int).toNat)).drop ((Lib.indexByte r c+([c].length:Int)).toNat))=PV.str _
      rw [e1];simp
     ·show PV.int _ (IntKind.i64.wrap ((done.length:Int)+1))=PV.int _ _
      rw [w64 (by omega) (by omega)];simp
     ·show (H++[_]).set _ _=_
      rw [sL]
      show H++[PObj.mk _ (setCells (0+(done.length:Int).toNat*1) [PV.str ((r.take (Lib.indexByte r c+0).toNat).drop 0)] (done.map .str++List.replicate (Lib.countByte r c+1) (.str []))) _]=_
      rw [e2,i4,List.replicate_succ,setCells_one _ _ _ _ _ (by simp)]
      simp
     ·show (r.drop (i+1)).length<r.length
      rw [List.length_drop];omega
  ·conv=>whnf
   have h3:¬(done.length:Int)<(Lib.countByte s c:Int):=h3
   have i2:splitB c r=[r]:=by
    rcases splitB_idx c r with ⟨_,i2,_⟩ | ⟨i,_,_,_,i4⟩
    ·exact i2
    ·omega
   have i3:Lib.countByte r c=0:=by rw [i2] at hrl;simp at hrl;exact hrl
   refine ⟨⟨by show (0:Int)≤(done.length:Int);omega,by show (done.length:Int)<_;omega⟩,?_⟩
   conv=>whnf
   rw [gL]
   conv=>whnf
   ((conv in (Nat.ble _ _)=>tactic=>exact (show Nat.ble (0+(done.length:Int).toNat*1+1) (done.map PV.str++List.replicate (Lib.countByte r c+1) (PV.str [])).length=true by rw [Nat.ble_eq];simp));(conv=>whnf))
   rw [w64 (by simp;omega) (by simp;omega)]
   refine ⟨⟨by omega,by simp;omega,by simp;omega⟩,fun _=>?_,fun hc=>absurd (by omega) hc⟩
   conv=>whnf
   refine ⟨?_,done.length+1,?_⟩
   ·show PV.sref _ _ _ _=PV.sref _ _ _ _
    congr 1 <;> simp <;> omega
   ·show (H++[_]).set _ _=_
    rw [sL]
    show H++[PObj.mk _ (setCells (0+(done.length:Int).toNat*1) [PV.str r] (done.map .str++List.replicate (Lib.countByte r c+1) (.str []))) _]=_
    rw [tail i2]
def tt213:TT:=[(3,⟨.int .i64,1,8,[.int .i64 0]⟩),(9,⟨.str,1,16,[.str []]⟩),(22,⟨.slice 9,1,24,[.slice 0 [] (some 9)]⟩)]
theorem tt213_ok:ttOk prog tt213=true:=by kernel_rfl
def imm213:List Nat:=[]
def tt204:TT:=[(3,⟨.int .i64,1,8,[.int .i64 0]⟩),(9,⟨.str,1,16,[.str []]⟩),(22,⟨.slice 9,1,24,[.slice 0 [] (some 9)]⟩),(44,⟨.fn,1,8,[.nilF]⟩)]
theorem tt204_ok:ttOk prog tt204=true:=by kernel_rfl
def imm204:List Nat:=[]
theorem c200 (s:List UInt8) (c:UInt8) (H:PH) (hs:s.length≤1099511627776) :
  CK prog 200 [.str s,.str [c]] H fun r H' =>
   r=.sref H.length 0 (splitB c s).length (splitB c s).length∧∃v,H'=H++[⟨9,(splitB c s).map .str,v⟩]:=by
 (refine fnS (imm:=imm200) tt200_ok func200 ?_;(conv=>whnf))
 refine cO (c212 s c H hs) ?_
 rintro _ _ ⟨rfl,v,rfl⟩
 conv=>whnf
 exact ⟨rfl,v,rfl⟩
def idxF (p:List UInt8→Bool):List (List UInt8)→Int
 | []=>-1
 | x::l=>if p x then 0 else (if idxF p l<0 then -1 else idxF p l+1)
theorem idxF_cons (p:List UInt8→Bool) (x:List UInt8) (l:List (List UInt8)):idxF p (x::l)=if p x then 0 else (if idxF p l<0 then -1 else idxF p l+1):=rfl
theorem idxF_ge (p:List UInt8→Bool):∀l,-1≤idxF p l
 | []=>by simp [idxF]
 | x::l=>by
  have:=idxF_ge p l
  unfold idxF
  split
  ·omega
  ·split <;> omega
theorem idxF_neg (p:List UInt8→Bool):∀l,0≤idxF p l↔l.any p=true
 | []=>by simp [idxF]
 | x::l=>by
  have:=idxF_neg p l
  have h2:=idxF_ge p l
  unfold idxF
  cases hp:p x
  ·simp only [hp,List.any_cons,zq7]
   rw [←this]
   by_cases h:idxF p l<0
   ·simp [h]
   ·simp [h];omega
  ·simp [hp]
theorem c213 (f id n:Nat) (p:List UInt8→Bool) (l:List (List UInt8)) (T v:Nat) (H:PH) (hid:H[id]? = some ⟨T,l.map .str,v⟩) (hn:n=l.length) (hs:l.length≤1099511627776)
  (hp:∀x∈l,Pure prog f [.str x] (.bool (p x))):CK prog 213 [.sref id 0 n n,.func f [] []] H fun r H'=>r=.int .i64 (idxF p l)∧H'=H:=by
 subst hn
 (refine fnS (imm:=imm213) tt213_ok func213 ?_;(conv=>whnf))
 refine lO Nat (fun i=>[(0,.sref id 0 l.length l.length),(1,.func f [] []),(7,.int .i64 l.length),(8,.int .i64 i)]) (fun _=>H)
  (fun i=>i≤l.length∧idxF p l=if idxF p (l.drop i)<0 then -1 else idxF p (l.drop i)+i) (fun i=>l.length - i) ⟨0,⟨Nat.zero_le _,by have:=idxF_ge p l;simp;omega⟩,⟨rfl,rfl,rfl,rfl,zqv⟩,rfl⟩ ?_
 rintro i ⟨h1,h2⟩
 conv=>whnf
 refine ⟨fun h3=>?_,fun h3=>?_⟩
 ·conv=>whnf
  have h3:(i:Int)<l.length:=h3
  have hi:i<l.length:=by omega
  have hgi:=zqc hi
  refine ⟨⟨by omega,by omega⟩,?_⟩
  conv=>whnf
  rw [hid]
  conv=>whnf
  generalize hd:dropN _ _=L
  have hL:=dropN_cells PV.str l hgi
  rw [show L=_ from hd.symm.trans hL]
  conv=>whnf
  refine cP (hp _ (List.getElem_mem hi)) ?_
  have hdr:=List.drop_eq_getElem_cons hi
  have hge:=idxF_ge p (l.drop (i+1))
  rw [hdr,idxF_cons] at h2
  cases hb:p l[i]
  ·conv=>whnf
   rw [hb] at h2
   refine ⟨i+1,⟨by omega,?_⟩,⟨rfl,rfl,rfl,?_,zqv⟩,rfl,by omega⟩
   ·rw [h2]
    simp only [Bool.false_eq_true,if_false]
    split <;> split <;> (try split) <;> omega
   ·show PV.int _ (IntKind.i64.wrap ((i:Int)+1))=PV.int _ _
    rw [w64 (by omega) (by omega)];simp
  ·conv=>whnf
   rw [hb] at h2
   refine ⟨?_,rfl⟩
   show PV.int _ _=PV.int _ _
   rw [h2];simp
 ·conv=>whnf
  have h3:¬(i:Int)<l.length:=h3
  refine ⟨?_,rfl⟩
  show PV.int _ _=PV.int _ _
  rw [h2,List.drop_eq_nil_of_le (by omega)];simp [idxF]
theorem c204 (f id n:Nat) (p:List UInt8→Bool) (l:List (List UInt8)) (T v:Nat) (H:PH) (hid:H[id]? = some ⟨T,l.map .str,v⟩) (hn:n=l.length) (hs:l.length≤1099511627776)
  (hp:∀x∈l,Pure prog f [.str x] (.bool (p x))):CK prog 204 [.sref id 0 n n,.func f [] []] H fun r H'=>r=.bool (l.any p)∧H'=H:=by
 (refine fnS (imm:=imm204) tt204_ok func204 ?_;(conv=>whnf))
 refine cO (c213 f id n p l T v H hid hn hs hp) ?_
 rintro _ _ ⟨rfl,rfl⟩
 conv=>whnf
 have:=idxF_neg p l
 refine ⟨fun h=>?_,fun h=>?_⟩
 ·conv=>whnf
  exact ⟨by rw [this.1 h];rfl,rfl⟩
 ·conv=>whnf
  refine ⟨?_,rfl⟩
  cases hb:l.any p with
  | false=>rfl
  | true=>exact absurd (this.2 hb) h
def tt202:TT:=[(3,⟨.int .i64,1,8,[.int .i64 0]⟩),(9,⟨.str,1,16,[.str []]⟩),(22,⟨.slice 9,1,24,[.slice 0 [] (some 9)]⟩)]
theorem tt202_ok:ttOk prog tt202=true:=by kernel_rfl
def imm202:List Nat:=[]
def D202:Draw:={ imp:=[13,15],win:=[(2,0,1),(3,0,1),(14,1,1),(15,1,1)] }
structure RevS where
 i:Nat
 cur:List (List UInt8)
 v:Nat
theorem c202 (id n:Nat) (l:List (List UInt8)) (T v:Nat) (H:PH) (hid:H[id]? = some ⟨T,l.map .str,v⟩) (hn:n=l.length) (hs:l.length≤1099511627776) :
  CK prog 202 [.sref id 0 n n] H fun r H'=>r=.tup []∧∃v',H'=H.set id ⟨T,l.reverse.map .str,v'⟩:=by
 subst hn
 (refine fnS (imm:=imm202) tt202_ok func202 ?_;(conv=>whnf))
 refine lO RevS (fun x=>[(0,.sref id 0 l.length l.length),(2,.int .i64 x.i),(3,.int .i64 ((l.length:Int) - 1 - x.i))]) (fun x=>H.set id ⟨T,x.cur.map .str,x.v⟩)
  (fun x=>x.i≤l.length∧x.cur.length=l.length∧∀k,k<l.length→x.cur[k]? = if k<x.i∨l.length - x.i≤k then l[l.length - 1 - k]? else l[k]?) (fun x=>l.length - x.i)
  ⟨⟨0,l,v⟩,⟨Nat.zero_le _,rfl,fun k hk=>by rw [zqo (by show ¬(k<0∨l.length - 0≤k);omega)]⟩,⟨rfl,rfl,?_,zqv⟩,(set_self hid).symm⟩ ?_
 ·show PV.int _ (IntKind.i64.wrap ((l.length:Int) - 1))=PV.int _ ((l.length:Int) - 1 - 0)
  rw [w64 (by omega) (by omega)];simp
 rintro ⟨i,cur,v⟩ ⟨h1,h2,h3⟩
 conv=>whnf
 refine ⟨fun h4=>?_,fun h4=>?_⟩
 ·conv=>whnf
  have h4:(i:Int)<(l.length:Int) - 1 - i:=h4
  have h2:cur.length=l.length:=h2
  have hi:i<cur.length:=by omega
  have hj:cur.length - 1 - i<cur.length:=by omega
  refine dO2 D202 [H.set id ⟨T,cur.map .str,v⟩,H.set id ⟨T,(cur.set i cur[cur.length - 1 - i]).map .str,v+1⟩,H.set id ⟨T,((cur.set i cur[cur.length - 1 - i]).set (cur.length - 1 - i) cur[i]).map .str,v+1+1⟩] (by kernel_rfl) rfl trivial ?_
  have g0:=gS (o':=⟨T,cur.map .str,v⟩) hid
  have hlen:H.length=H.length:=rfl
  conv=>whnf
  iterate 2 (refine dS ?_;(conv=>whnf))
  iterate 2 (refine dS2 ?_;(conv=>whnf))
  iterate 2 (refine dS ?_;(conv=>whnf))
  apply exA
  ·conv=>whnf
   refine ⟨⟨by omega,by omega⟩,rfl,rfl,zqv⟩
  conv=>whnf
  apply exA
  ·conv=>whnf
   ((conv in (_[_]?)=>tactic=>exact g0);(conv=>whnf))
   have e:((l.length:Int) - 1 - i).toNat=cur.length - 1 - i:=by omega
   have hL:dropN (0+((l.length:Int) - 1 - i).toNat*1) (cur.map PV.str)=PV.str cur[cur.length - 1 - i]::(cur.drop (cur.length - 1 - i+1)).map PV.str:=by rw [e];exact dropN_cells PV.str cur (zqc hj)
   generalize hd:dropN _ _=L
   rw [show L=_ from hd.symm.trans hL]
   conv=>whnf
   exact ⟨rfl,rfl,zqv⟩
  conv=>whnf
  iterate 2 (refine dS ?_;(conv=>whnf))
  apply exA
  ·conv=>whnf
   refine ⟨⟨by show (0:Int)≤(i:Int);omega,by show (i:Int)<l.length;omega⟩,rfl,rfl,zqv⟩
  conv=>whnf
  apply exA
  ·conv=>whnf
   ((conv in (_[_]?)=>tactic=>exact g0);(conv=>whnf))
   ((conv in (dropN _ _)=>tactic=>exact (dropN_cells PV.str cur (zqc hi)));(conv=>whnf))
   exact ⟨rfl,rfl,zqv⟩
  conv=>whnf
  apply exA
  ·conv=>whnf
   refine ⟨⟨by show (0:Int)≤(i:Int);omega,by show (i:Int)<l.length;omega⟩,rfl,rfl,zqv⟩
  conv=>whnf
  apply exA
  ·conv=>whnf
   ((conv in (_[_]?)=>tactic=>exact g0);(conv=>whnf))
   ((conv in (Nat.ble _ _)=>tactic=>exact (show Nat.ble (0+(i:Int).toNat*1+1) (cur.map PV.str).length=true by rw [Nat.ble_eq];simp;omega));(conv=>whnf))
   refine ⟨rfl,?_,zqv⟩
   show (H.set id ⟨T,cur.map .str,v⟩).set id ⟨T,setCells (0+(i:Int).toNat*1) [PV.str cur[cur.length - 1 - i]] (cur.map .str),v+1⟩=H.set id ⟨T,(cur.set i cur[cur.length - 1 - i]).map .str,v+1⟩
   rw [List.set_set,←setCells_map _ _ _ _ hi]
   simp
  conv=>whnf
  apply exA
  ·conv=>whnf
   refine ⟨⟨by omega,by omega⟩,rfl,rfl,zqv⟩
  conv=>whnf
  apply exA
  ·conv=>whnf
   ((conv in (_[_]?)=>tactic=>exact (gS (o':=⟨T,(cur.set i cur[cur.length - 1 - i]).map .str,v+1⟩) hid));(conv=>whnf))
   ((conv in (Nat.ble _ _)=>tactic=>exact (show Nat.ble (0+((l.length:Int) - 1 - i).toNat*1+1) ((cur.set i cur[cur.length - 1 - i]).map PV.str).length=true by rw [Nat.ble_eq];simp;omega));(conv=>whnf))
   refine ⟨rfl,?_,zqv⟩
   show (H.set id ⟨T,(cur.set i cur[cur.length - 1 - i]).map .str,v+1⟩).set id ⟨T,setCells (0+((l.length:Int) - 1 - i).toNat*1) [PV.str cur[i]] ((cur.set i cur[cur.length - 1 - i]).map .str),v+1+1⟩=H.set id _
   have e:0+((l.length:Int) - 1 - i).toNat*1=cur.length - 1 - i:=by omega
   rw [List.set_set,e,setCells_map PV.str (cur.set i cur[cur.length - 1 - i]) (cur.length - 1 - i) cur[i] (by simpa using hj)]
  conv=>whnf
  refine ⟨⟨i+1,(cur.set i cur[cur.length - 1 - i]).set (cur.length - 1 - i) cur[i],v+1+1⟩,⟨?_,?_,?_⟩,⟨rfl,?_,?_,zqv⟩,rfl,?_⟩
  ·show i+1≤l.length;omega
  ·show List.length _=_;simp;exact h2
  ·intro k hk
   show ((cur.set i _).set _ _)[k]? = if k<i+1∨l.length - (i+1)≤k then _ else _
   have h3k:=h3 k hk
   have h3k:cur[k]? = if k<i∨l.length - i≤k then l[l.length - 1 - k]? else l[k]?:=h3k
   have h3i:cur[i]? = if i<i∨l.length - i≤i then l[l.length - 1 - i]? else l[i]?:=h3 i (by omega)
   have h3j:cur[cur.length - 1 - i]? = if cur.length - 1 - i<i∨l.length - i≤cur.length - 1 - i then l[l.length - 1 - (cur.length - 1 - i)]? else l[cur.length - 1 - i]?:=h3 _ (by omega)
   rw [zqo (by omega),zqc hi] at h3i
   rw [zqo (by omega),zqc hj] at h3j
   simp only [List.getElem?_set]
   by_cases e1:cur.length - 1 - i=k
   ·subst e1
    rw [zqp rfl,zqp (by simpa using hj),zqp (by omega),h3i]
    congr 1;omega
   ·rw [zqo e1]
    by_cases e2:i=k
    ·subst e2
     rw [zqp rfl,zqp hi,zqp (by omega),h3j]
     congr 1;omega
    ·rw [zqo e2,h3k]
     by_cases e3:k<i∨l.length - i≤k
     ·rw [zqp e3,zqp (by omega)]
     ·rw [zqo e3,zqo (by omega)]
  ·show PV.int _ (IntKind.i64.wrap ((i:Int)+1))=PV.int _ _
   rw [w64 (by omega) (by omega)];simp
  ·show PV.int _ (IntKind.i64.wrap ((l.length:Int) - 1 - i - 1))=PV.int _ ((l.length:Int) - 1 - ((i+1:Nat):Int))
   rw [w64 (by omega) (by omega)];congr 1;omega
  ·show l.length - (i+1)<l.length - i
   omega
 ·conv=>whnf
  have h2:cur.length=l.length:=h2
  have h4:¬(i:Int)<(l.length:Int) - 1 - i:=h4
  have h1:i≤l.length:=h1
  refine ⟨rfl,v,?_⟩
  have hc:cur=l.reverse:=by
   apply List.ext_getElem?
   intro k
   rcases Nat.lt_or_ge k l.length with hk | hk
   ·have h3k:cur[k]? = if k<i∨l.length - i≤k then l[l.length - 1 - k]? else l[k]?:=h3 k hk
    rw [h3k,List.getElem?_reverse hk]
    by_cases e3:k<i∨l.length - i≤k
    ·rw [zqp e3]
    ·rw [zqo e3];congr 1;omega
   ·rw [List.getElem?_eq_none (by omega),List.getElem?_eq_none (by simpa using hk)]
  show H.set id ⟨T,cur.map PV.str,v⟩=_
  rw [hc]
def tt205:TT:=[(4,⟨.bool,1,1,[.bool false]⟩),(259,⟨.arr 256 4,256,256,List.replicate 256 (.bool false)⟩)]
theorem tt205_ok:ttOk prog tt205=true:=by kernel_rfl
def imm205:List Nat:=[]
def tt188:TT:=[(3,⟨.int .i64,1,8,[.int .i64 0]⟩),(4,⟨.bool,1,1,[.bool false]⟩),(5,⟨.int .u8,1,1,[.int .u8 0]⟩),(9,⟨.str,1,16,[.str []]⟩),(259,⟨.arr 256 4,256,256,List.replicate 256 (.bool false)⟩)]
theorem tt188_ok:ttOk prog tt188=true:=by kernel_rfl
def imm188:List Nat:=[]
def tt189:TT:=[(3,⟨.int .i64,1,8,[.int .i64 0]⟩),(4,⟨.bool,1,1,[.bool false]⟩),(5,⟨.int .u8,1,1,[.int .u8 0]⟩),(9,⟨.str,1,16,[.str []]⟩),(263,⟨.ptr,1,8,[.ptr none]⟩)]
theorem tt189_ok:ttOk prog tt189=true:=by kernel_rfl
def imm189:List Nat:=[]
def tt190:TT:=[(3,⟨.int .i64,1,8,[.int .i64 0]⟩),(4,⟨.bool,1,1,[.bool false]⟩),(5,⟨.int .u8,1,1,[.int .u8 0]⟩),(9,⟨.str,1,16,[.str []]⟩),(263,⟨.ptr,1,8,[.ptr none]⟩)]
theorem tt190_ok:ttOk prog tt190=true:=by kernel_rfl
def imm190:List Nat:=[]
def tt169:TT:=[(3,⟨.int .i64,1,8,[.int .i64 0]⟩),(4,⟨.bool,1,1,[.bool false]⟩),(5,⟨.int .u8,1,1,[.int .u8 0]⟩),(9,⟨.str,1,16,[.str []]⟩),(259,⟨.arr 256 4,256,256,List.replicate 256 (.bool false)⟩),(263,⟨.ptr,1,8,[.ptr none]⟩)]
theorem tt169_ok:ttOk prog tt169=true:=by kernel_rfl
def imm169:List Nat:=[]
def tt130:TT:=[(3,⟨.int .i64,1,8,[.int .i64 0]⟩),(9,⟨.str,1,16,[.str []]⟩)]
theorem tt130_ok:ttOk prog tt130=true:=by kernel_rfl
def imm130:List Nat:=[]
def tabB (p:Nat→Bool):List PV:=(List.range 256).map fun k=>.bool (p k)
theorem tabB_get (p:Nat→Bool) (c:UInt8):dropN (0+(c.toNat:Int).toNat*1) (tabB p)=.bool (p c.toNat)::(((List.range 256).drop (c.toNat+1)).map fun k=>.bool (p k)):=by
 have hc:c.toNat<256:=c.toNat_lt
 have h:(List.range 256)[c.toNat]? = some c.toNat:=by simp [hc]
 exact dropN_cells (fun k=>PV.bool (p k)) _ h
theorem c205 (p:Nat→Bool) (id T v:Nat) (c:UInt8) (H:PH) (hid:H[id]? = some ⟨T,tabB p,v⟩):CK prog 205 [.ptr (some (id,0)),bC c] H fun r H'=>r=.bool (p c.toNat)∧H'=H:=by
 have hc:c.toNat<256:=c.toNat_lt
 (refine fnS (imm:=imm205) tt205_ok func205 ?_;(conv=>whnf))
 refine ⟨⟨by omega,by omega⟩,?_⟩
 conv=>whnf
 ((conv in (_[_]?)=>tactic=>exact hid);(conv=>whnf))
 ((conv in (dropN _ _)=>tactic=>exact (tabB_get p c));(conv=>whnf))
 exact ⟨rfl,rfl⟩
theorem c189 (p:Nat→Bool) (id T v:Nat) (s:List UInt8) (H:PH) (hid:H[id]? = some ⟨T,tabB p,v⟩) (hs:s.length≤1099511627776) :
  CK prog 189 [.str s,.ptr (some (id,0))] H fun r H'=>r=.str (s.dropWhile fun c=>p c.toNat)∧H'=H:=by
 (refine fnS (imm:=imm189) tt189_ok func189 ?_;(conv=>whnf))
 refine lO (List UInt8) (fun x=>[(0,.str x),(1,.ptr (some (id,0)))]) (fun _=>H) (fun x=>x.dropWhile (fun c=>p c.toNat)=s.dropWhile (fun c=>p c.toNat)) (fun x=>x.length) ⟨s,rfl,⟨rfl,rfl,zqv⟩,rfl⟩ ?_
 intro x hx
 conv=>whnf
 refine ⟨fun h=>?_,fun h=>?_⟩
 ·conv=>whnf
  cases x with
  | nil=>simp at h
  | cons c x =>
   refine ⟨⟨by omega,by simp⟩,c,rfl,?_⟩
   conv=>whnf
   refine cO (c205 p id T v c H hid) ?_
   rintro _ _ ⟨rfl,rfl⟩
   cases hb:p c.toNat
   ·conv=>whnf
    refine ⟨?_,rfl⟩
    rw [←hx];simp [hb,tupOf]
   ·conv=>whnf
    refine ⟨⟨by omega,by simp <;> omega,by simp⟩,?_⟩
    conv=>whnf
    refine ⟨x,?_,⟨?_,rfl,zqv⟩,rfl,by simp⟩
    ·rw [←hx];simp [hb]
    ·show PV.str _=PV.str _
     simp
 ·conv=>whnf
  have:x=[]:=by
   cases x with
   | nil=>rfl
   | cons c x=>exact absurd (by simp <;> omega) h
  subst this
  refine ⟨?_,rfl⟩
  rw [←hx];rfl
def trimR (p:UInt8→Bool) (s:List UInt8):List UInt8:=(s.reverse.dropWhile p).reverse
theorem trimR_concat (p:UInt8→Bool) (x:List UInt8) (c:UInt8):trimR p (x++[c])=if p c then trimR p x else x++[c]:=by
 unfold trimR
 simp only [List.reverse_append,List.reverse_cons,List.reverse_nil,List.nil_append,List.singleton_append,List.dropWhile_cons]
 split <;> simp
theorem c190 (p:Nat→Bool) (id T v:Nat) (s:List UInt8) (H:PH) (hid:H[id]? = some ⟨T,tabB p,v⟩) (hs:s.length≤1099511627776) :
  CK prog 190 [.str s,.ptr (some (id,0))] H fun r H'=>r=.str (trimR (fun c=>p c.toNat) s)∧H'=H:=by
 (refine fnS (imm:=imm190) tt190_ok func190 ?_;(conv=>whnf))
 refine lO (List UInt8) (fun x=>[(0,.str x),(1,.ptr (some (id,0)))]) (fun _=>H) (fun x=>x.length≤s.length∧trimR (fun c=>p c.toNat) x=trimR (fun c=>p c.toNat) s) (fun x=>x.length) ⟨s,⟨zqn _,rfl⟩,⟨rfl,rfl,zqv⟩,rfl⟩ ?_
 rintro x ⟨hl,hx⟩
 conv=>whnf
 rcases List.eq_nil_or_concat x with rfl | ⟨x,c,rfl⟩
 ·refine ⟨fun h=>absurd h (by simp),fun h=>?_⟩
  conv=>whnf
  refine ⟨?_,rfl⟩
  rw [←hx];rfl
 ·refine ⟨fun h=>?_,fun h=>absurd (by simp <;> omega) h⟩
  simp only [List.concat_eq_append] at *
  have hl':x.length+1≤s.length:=by simpa using hl
  conv=>whnf
  have e:((IntKind.i64.wrap (((x++[c]).length:Int) - 1)))=(x.length:Int):=by
   rw [w64 (by simp <;> omega) (by simp <;> omega)];simp
  refine ⟨by show 0≤IntKind.i64.wrap _∧IntKind.i64.wrap _<_;rw [e];simp;omega,c,?_,?_⟩
  ·show (x++[c])[(IntKind.i64.wrap (((x++[c]).length:Int) - 1)).toNat]? = some c
   rw [e];simp
  conv=>whnf
  refine cO (c205 p id T v c H hid) ?_
  rintro _ _ ⟨rfl,rfl⟩
  rw [trimR_concat] at hx
  cases hb:p c.toNat
  ·conv=>whnf
   refine ⟨?_,rfl⟩
   rw [←hx];simp [hb,tupOf]
  ·conv=>whnf
   refine ⟨by show 0≤0∧0≤IntKind.i64.wrap _∧IntKind.i64.wrap _≤_;rw [e];simp;omega,?_⟩
   conv=>whnf
   refine ⟨x,⟨by omega,?_⟩,⟨?_,rfl,zqv⟩,rfl,by simp⟩
   ·rw [←hx];simp [hb]
   ·show PV.str (((x++[c]).take (IntKind.i64.wrap (((x++[c]).length:Int) - 1)).toNat).drop (Int.toNat 0))=PV.str _
    rw [e];simp
theorem tabB_len (p:Nat→Bool):(tabB p).length=256:=by simp [tabB]
theorem tabB_set (p:Nat→Bool) (c:UInt8):setCells (0+(c.toNat:Int).toNat*1) [.bool true] (tabB p)=tabB fun k=>p k||(c.toNat==k):=by
 have hc:c.toNat<256:=c.toNat_lt
 apply List.ext_getElem?
 intro j
 rw [setCells_get _ _ _ (by simp [tabB];omega)]
 simp only [tabB,List.getElem?_map,List.length_cons,List.length_nil]
 by_cases hj:j<256
 ·rw [List.getElem?_range hj]
  by_cases e:j=c.toNat
  ·subst e;simp
  ·rw [zqo (by omega)]
   have:(c.toNat==j)=false:=by simpa using fun h=>e h.symm
   simp [this]
 ·have hn:(List.range 256)[j]? = none:=List.getElem?_eq_none (by simpa using hj)
  rw [zqo (by omega),hn];rfl
theorem tabB_self (p:Nat→Bool):setCells 0 (cellsOf (.agg (((tabB p).take 256).map dem))) (tabB p)=tabB p:=by
 have h:((tabB p).take 256).map dem=tabB p:=by
  rw [List.take_of_length_le (by simp [tabB])]
  simp [tabB,dem]
 rw [h,setCells_eq _ _ _ (by simp [cellsOf])]
 simp [cellsOf]
theorem tabB_dem (p:Nat→Bool):((tabB p).take 256).map dem=tabB p:=by
 rw [List.take_of_length_le (by simp [tabB])]
 simp [tabB,dem]
theorem oldPs_tab (p:Nat→Bool):oldPs (tabB p)=true:=by
 unfold tabB
 generalize List.range 256=l
 induction l with
 | nil=>rfl
 | cons a l ih=>simp [oldPs,oldP,ih]
def inB (s:List UInt8) (k:Nat):Bool:=s.any fun c=>c.toNat==k
theorem c188 (s:List UInt8) (h0:∀c∈s,c.toNat<128) (hs:s.length≤1099511627776):Pure prog 188 [.str s] (.tup [.agg (tabB (inB s)),.bool true]):=by
 refine Pure.of_gc (by simp [oldR,oldPs,oldP,oldPs_tab]) fun H=>?_
 (refine fnS (imm:=imm188) tt188_ok func188 ?_;(conv=>whnf))
 refine lO Nat (fun i=>[(0,.str s),(2,.ptr (some (H.length,0))),(4,.int .i64 i)]) (fun i=>H++[⟨259,tabB (inB (s.take i)),i⟩]) (fun i=>i≤s.length) (fun i=>s.length - i) ⟨0,Nat.zero_le _,⟨rfl,rfl,rfl,zqv⟩,?_⟩ ?_
 ·show H++[PObj.mk _ _ _]=H++[PObj.mk _ _ _]
  congr 3
 rintro i hi
 conv=>whnf
 refine ⟨fun h=>?_,fun h=>?_⟩
 ·conv=>whnf
  have h:(i:Int)<s.length:=h
  have hi':i<s.length:=by omega
  refine ⟨⟨by omega,h⟩,s[i],zqc hi',?_⟩
  conv=>whnf
  have hc:=h0 s[i] (List.getElem_mem hi')
  refine ⟨fun h2=>absurd h2 (by omega),fun _=>?_⟩
  conv=>whnf
  refine ⟨⟨by omega,by omega⟩,?_⟩
  conv=>whnf
  ((conv in (_[_]?)=>tactic=>exact (gL H ⟨259,tabB (inB (s.take i)),i⟩));(conv=>whnf))
  ((conv in (Nat.ble _ _)=>tactic=>exact (show Nat.ble (0+(s[i].toNat:Int).toNat*1+1) (tabB (inB (s.take i))).length=true by rw [Nat.ble_eq,tabB_len];omega));(conv=>whnf))
  refine ⟨i+1,by omega,⟨rfl,rfl,?_,zqv⟩,?_,by omega⟩
  ·show PV.int _ (IntKind.i64.wrap ((i:Int)+1))=PV.int _ _
   rw [w64 (by omega) (by omega)];simp
  ·show (H++[_]).set _ _=_
   rw [sL]
   show H++[PObj.mk _ (setCells (0+(s[i].toNat:Int).toNat*1) [.bool true] (tabB (inB (s.take i)))) _]=H++[PObj.mk _ _ _]
   rw [tabB_set]
   have:inB (s.take (i+1))=fun k=>inB (s.take i) k||(s[i].toNat==k):=by
    funext k
    unfold inB
    rw [List.take_succ_eq_append_getElem hi',List.any_append]
    simp only [List.any_cons,List.any_nil,zq8]
   rw [this]
 ·conv=>whnf
  have h:¬(i:Int)<s.length:=h
  have e:s.take i=s:=List.take_of_length_le (by omega)
  rw [e,gL]
  conv=>whnf
  rw [gL]
  conv=>whnf
  have h2:((H++[PObj.mk 259 (tabB (inB s)) i]).set H.length ⟨259,setCells 0 (cellsOf (.agg (((tabB (inB s)).take 256).map dem))) (tabB (inB s)),i+1⟩)[H.length]? = some ⟨259,tabB (inB s),i+1⟩:=by
   rw [sL,tabB_self,gL]
  generalize hh:(setH _ _ _ _)[List.length H]? = X
  rw [show X=_ from hh.symm.trans h2]
  conv=>whnf
  refine ⟨?_,[⟨259,tabB (inB s),i+1⟩],?_⟩
  ·show PV.tup [.agg (((tabB (inB s)).take 256).map dem),.bool true]=_
   rw [tabB_dem]
  ·show (H++[PObj.mk 259 (tabB (inB s)) i]).set H.length ⟨259,setCells 0 (cellsOf (.agg (((tabB (inB s)).take 256).map dem))) (tabB (inB s)),i+1⟩=_
   rw [sL,tabB_self]
def trimB (s set:List UInt8):List UInt8:=(trimR (fun c=>inB set c.toNat) s).dropWhile fun c=>inB set c.toNat
theorem c169 (s set:List UInt8) (h0:∀c∈set,c.toNat<128) (h1:2≤set.length) (h2:set.length≤1099511627776) (hs:s.length≤1099511627776) :
  Pure prog 169 [.str s,.str set] (.str (trimB s set)):=by
 refine Pure.of_gc rfl fun H=>?_
 (refine fnS (imm:=imm169) tt169_ok func169 ?_;(conv=>whnf))
 refine ⟨fun h=>?_,fun h=>?_⟩
 ·have h:s=[]:=h
  subst h
  conv=>whnf
  exact ⟨rfl,[],by simp⟩
 conv=>whnf
 refine ⟨fun h=>?_,fun h=>?_⟩
 ·have h:set=[]:=h
  subst h
  simp at h1
 conv=>whnf
 refine ⟨fun h=>absurd h (by omega),fun h=>?_⟩
 conv=>whnf
 refine cP (c188 set h0 h2) ?_
 conv=>whnf
 rw [gL]
 conv=>whnf
 have hz:setCells 0 (tabB (inB set)) (List.replicate 256 (PV.bool false))=tabB (inB set):=by
  rw [setCells_eq _ _ _ (by simp [tabB])]
  simp [tabB]
 have hone:(tabB (inB set)).all oneP=true:=by simp [tabB,oneP]
 have hH:(H++[PObj.mk 259 (List.replicate 256 (PV.bool false)) 0]).set H.length ⟨259,setCells 0 (tabB (inB set)) (List.replicate 256 (PV.bool false)),0+1⟩=H++[⟨259,tabB (inB set),0+1⟩]:=by
  rw [sL,hz]
 refine cO (Q:=fun r H'=>r=.str (trimR (fun c=>inB set c.toNat) s)∧H'=H++[⟨259,tabB (inB set),0+1⟩]) ?_ ?_
 ·show CK prog 190 _ ((H++[PObj.mk 259 (List.replicate 256 (PV.bool false)) 0]).set H.length ⟨259,setCells 0 (tabB (inB set)) (List.replicate 256 (PV.bool false)),0+1⟩) _
  rw [hH]
  exact c190 (inB set) H.length 259 (0+1) s _ (gL H _) hs
 rintro _ _ ⟨rfl,rfl⟩
 conv=>whnf
 have hl:(trimR (fun c=>inB set c.toNat) s).length≤s.length:=by
  unfold trimR
  rw [List.length_reverse]
  exact Nat.le_trans (List.dropWhile_sublist _).length_le (by simp)
 refine cO (c189 (inB set) H.length 259 (0+1) (trimR (fun c=>inB set c.toNat) s) _ (gL H _) (by omega)) ?_
 rintro _ _ ⟨rfl,rfl⟩
 conv=>whnf
 exact ⟨rfl,_,rfl⟩
theorem takeWhile_mem {p:UInt8→Bool} {c:UInt8}:∀{l:List UInt8},c∈l.takeWhile p→p c=true
 | [],h=>by simp at h
 | x::l,h=>by
  rw [List.takeWhile_cons] at h
  split at h
  ·rcases List.mem_cons.1 h with rfl | h
   ·assumption
   ·exact takeWhile_mem h
  ·simp at h
theorem dropWhile_nil' (p:UInt8→Bool):∀l:List UInt8,l.dropWhile p=[]↔∀x∈l,p x=true
 | []=>by simp
 | x::l=>by
  have:=dropWhile_nil' p l
  rw [List.dropWhile_cons]
  cases h:p x
  ·simp [h]
  ·simp [h,this]
theorem trimB_nil (s set:List UInt8):trimB s set=[]↔s.all (fun c=>inB set c.toNat)=true:=by
 unfold trimB trimR
 rw [dropWhile_nil']
 constructor
 ·intro h
  rw [List.all_eq_true]
  intro c hc
  by_cases hd:c∈(s.reverse.dropWhile fun c=>inB set c.toNat).reverse
  ·exact h c hd
  ·have:c∈s.reverse:=by simpa using hc
   rw [←List.takeWhile_append_dropWhile (p:=fun c=>inB set c.toNat) (l:=s.reverse)] at this
   rcases List.mem_append.1 this with h2 | h2
   ·exact takeWhile_mem h2
   ·exact absurd (by simpa using h2) hd
 ·intro h c hc
  rw [List.all_eq_true] at h
  have hc2:c∈s.reverse:=(List.dropWhile_sublist _).subset (by simpa using hc)
  exact h c (by simpa using hc2)
def tt203:TT:=[(4,⟨.bool,1,1,[.bool false]⟩),(9,⟨.str,1,16,[.str []]⟩)]
theorem tt203_ok:ttOk prog tt203=true:=by kernel_rfl
def imm203:List Nat:=[]
def tt185:TT:=[(3,⟨.int .i64,1,8,[.int .i64 0]⟩),(9,⟨.str,1,16,[.str []]⟩),(22,⟨.slice 9,1,24,[.slice 0 [] (some 9)]⟩),(44,⟨.fn,1,8,[.nilF]⟩)]
theorem tt185_ok:ttOk prog tt185=true:=by kernel_rfl
def imm185:List Nat:=[]
def tt168:TT:=[(9,⟨.str,1,16,[.str []]⟩)]
theorem tt168_ok:ttOk prog tt168=true:=by kernel_rfl
def imm168:List Nat:=[]
def tt129:TT:=[(3,⟨.int .i64,1,8,[.int .i64 0]⟩),(9,⟨.str,1,16,[.str []]⟩)]
theorem tt129_ok:ttOk prog tt129=true:=by kernel_rfl
def imm129:List Nat:=[]
def tt78:TT:=[(4,⟨.bool,1,1,[.bool false]⟩),(9,⟨.str,1,16,[.str []]⟩)]
theorem tt78_ok:ttOk prog tt78=true:=by kernel_rfl
def imm78:List Nat:=[]
def tt79:TT:=[(9,⟨.str,1,16,[.str []]⟩),(36,⟨.strct [(9,0),(9,1)],2,32,[.str [],.str []]⟩)]
theorem tt79_ok:ttOk prog tt79=true:=by kernel_rfl
def imm79:List Nat:=[1]
def isWordB (s set:List UInt8):Bool:=decide (s≠[])&&(decide (s.length≤8)&&s.all (fun c=>inB set c.toNat))
theorem c130 (s set:List UInt8) (h0:∀c∈set,c.toNat<128) (h1:2≤set.length) (h2:set.length≤1099511627776):Pure prog 130 [.str s,.str set] (.bool (isWordB s set)):=by
 intro H
 (refine fnS (imm:=imm130) tt130_ok func130 ?_;(conv=>whnf))
 refine ⟨fun h=>?_,fun h=>?_⟩
 ·have h:s=[]:=h
  subst h
  conv=>whnf
  exact ⟨rfl,rfl⟩
 conv=>whnf
 have h:¬s=[]:=h
 refine ⟨fun h3=>?_,fun h3=>?_⟩
 ·conv=>whnf
  refine cP (c169 s set h0 h1 h2 (by omega)) ?_
  conv=>whnf
  refine ⟨fun h4=>?_,fun h4=>?_⟩
  ·conv=>whnf
   have:=(trimB_nil s set).1 h4
   refine ⟨?_,rfl⟩
   show PV.bool true=_
   unfold isWordB
   rw [this]
   have:s.length≤8:=by omega
   simp [h,this]
  ·conv=>whnf
   refine ⟨?_,rfl⟩
   show PV.bool false=_
   have:¬s.all (fun c=>inB set c.toNat)=true:=fun e=>h4 ((trimB_nil s set).2 e)
   unfold isWordB
   rw [Bool.not_eq_true] at this
   rw [this]
   simp
 ·conv=>whnf
  refine ⟨?_,rfl⟩
  show PV.bool false=_
  have:¬s.length≤8:=by omega
  unfold isWordB
  simp [this]
def upperB:List UInt8:=[65,66,67,68,69,70,71,72,73,74,75,76,77,78,79,80,81,82,83,84,85,86,87,88,89,90]
theorem c203 (s:List UInt8):Pure prog 203 [.str s] (.bool (!isWordB s upperB)):=by
 intro H
 (refine fnS (imm:=imm203) tt203_ok func203 ?_;(conv=>whnf))
 refine cP (c130 s upperB (by decide) (by decide) (by decide)) ?_
 cases isWordB s upperB
 ·conv=>whnf
  exact ⟨rfl,rfl⟩
 ·conv=>whnf
  exact ⟨rfl,rfl⟩
def badL (l:List (List UInt8)):Bool:=decide (4<l.length)||l.any fun s=>!isWordB s upperB
def labelsB (r:List UInt8):Nat×List (List UInt8):=match r with
 | 47::t=>if badL (splitB 47 t) then (0,[]) else (2,splitB 47 t)
 | _=>if badL (splitB 46 r) then (0,[]) else (1,(splitB 46 r).reverse)
def LabRes (r:List UInt8) (H:PH) (x:PV) (H':PH):Prop:=∃ext,H'=H++ext ∧
 (((labelsB r).1=0∧x=.tup [.slice 0 [] (some 9),.int .i64 0]) ∨
  ((labelsB r).1≠0∧∃id v,x=.tup [.sref id 0 (labelsB r).2.length (labelsB r).2.length,.int .i64 (labelsB r).1]∧H'[id]? = some ⟨9,(labelsB r).2.map .str,v⟩))
theorem c185 (r : List UInt8) (H : PH) (hs : r.length ≤ 1099511627775) : CK prog 185 [.str r] H (LabRes r H) := by
  (refine fnS (imm := imm185) tt185_ok func185 ?_; (conv => whnf))
  refine cO (c200 r 46 H (by omega)) ?_
  rintro _ _ ⟨rfl, v, rfl⟩
  conv => whnf
  refine cP (c201 r [47]) ?_
  cases hb : [47].isPrefixOf r
  · conv => whnf
    refine cO (c202 H.length _ (splitB 46 r) 9 v _ (gL H _) rfl (by have := countB_le 46 r; have := splitB_len 46 r; omega)) ?_
    rintro _ _ ⟨rfl, v', rfl⟩
    rw [sL]
    have hlb : labelsB r = if badL (splitB 46 r) then (0, []) else (1, (splitB 46 r).reverse) := by
      unfold labelsB
      split
      · simp at hb
      · rfl
    have hany : ((splitB 46 r).reverse).any (fun s => !isWordB s upperB) = (splitB 46 r).any (fun s => !isWordB s upperB) := by rw [List.any_reverse]
    have hn : (splitB 46 r).length = (splitB 46 r).reverse.length := by simp
    conv => whnf
    refine ⟨fun h4 => ?_, fun h4 => ?_⟩
    · conv => whnf
      have hbad : badL (splitB 46 r) = true := by unfold badL; have : 4 < (splitB 46 r).length := by omega
                                                  simp [this]
      refine ⟨_, rfl, .inl ⟨by rw [hlb, hbad]; rfl, rfl⟩⟩
    · conv => whnf
      refine cO (c204 203 H.length _ (fun s => !isWordB s upperB) (splitB 46 r).reverse 9 v' _ (gL H _) hn (by omega) (fun x _ => c203 x)) ?_
      rintro _ _ ⟨rfl, rfl⟩
      rw [hany]
      have h4' : ¬ 4 < (splitB 46 r).length := by omega
      cases hany2 : (splitB 46 r).any (fun s => !isWordB s upperB)
      · conv => whnf
        have hbad : badL (splitB 46 r) = false := by unfold badL; rw [hany2]; simp [h4']
        refine ⟨_, rfl, .inr ⟨by rw [hlb, hbad]; simp, H.length, v', ?_, ?_⟩⟩
        · rw [hlb, hbad]
          show PV.tup _ = PV.tup _
          simp
        · rw [gL, hlb, hbad]; rfl
      · conv => whnf
        have hbad : badL (splitB 46 r) = true := by unfold badL; rw [hany2]; simp
        refine ⟨_, rfl, .inl ⟨by rw [hlb, hbad]; rfl, rfl⟩⟩
  · obtain ⟨t, rfl⟩ : ∃ t, r = 47 :: t := by
      cases r with
      | nil => simp at hb
      | cons x t => 
        have hx : x = 47 := by simpa using (by simpa using hb : (47 : UInt8) = x).symm
        exact ⟨t, by rw [hx]⟩
    conv => whnf
    refine ⟨⟨by omega, by simp <;> omega, by simp⟩, ?_⟩
    have hst : t.length ≤ 1099511627776 := by simp at hs; omega
    have hc := countB_le 47 t
    have hc2 := splitB_len 47 t
    conv => whnf
    refine cO (Q := fun r H' => r = .sref (H ++ [PObj.mk 9 ((splitB 46 (47 :: t)).map .str) v]).length 0 (splitB 47 t).length (splitB 47 t).length ∧ ∃ v2, H' = (H ++ [PObj.mk 9 ((splitB 46 (47 :: t)).map .str) v]) ++ [⟨9, (splitB 47 t).map .str, v2⟩]) ?_ ?_
    · show CK prog 200 [.str (((47 :: t).take ((47 :: t).length : Int).toNat).drop (1 : Int).toNat), .str [47]] _ _
      have e : ((47 :: t).take ((47 :: t).length : Int).toNat).drop (1 : Int).toNat = t := by simp
      rw [e]
      exact c200 t 47 _ hst
    rintro _ _ ⟨rfl, v2, rfl⟩
    conv => whnf
    have hlb : labelsB (47 :: t) = if badL (splitB 47 t) then (0, []) else (2, splitB 47 t) := rfl
    refine ⟨fun h4 => ?_, fun h4 => ?_⟩
    · conv => whnf
      have hbad : badL (splitB 47 t) = true := by
        unfold badL
        have : 4 < (splitB 47 t).length := by omega
        simp [this]
      refine ⟨_, List.append_assoc _ _ _, .inl ⟨by rw [hlb, hbad]; rfl, rfl⟩⟩
    · conv => whnf
      refine cO (c204 203 _ _ (fun s => !isWordB s upperB) (splitB 47 t) 9 v2 _ (gL _ _) rfl (by omega) (fun x _ => c203 x)) ?_
      rintro _ _ ⟨rfl, rfl⟩
      have h4' : ¬ 4 < (splitB 47 t).length := by omega
      cases hany2 : (splitB 47 t).any (fun s => !isWordB s upperB)
      · conv => whnf
        have hbad : badL (splitB 47 t) = false := by unfold badL; rw [hany2]; simp [h4']
        refine ⟨_, List.append_assoc _ _ _, .inr ⟨by rw [hlb, hbad]; simp, (H ++ [PObj.mk 9 ((splitB 46 (47 :: t)).map .str) v]).length, v2, ?_, ?_⟩⟩
        · rw [hlb, hbad]; rfl
        · rw [gL, hlb, hbad]; rfl
      · conv => whnf
        have hbad : badL (splitB 47 t) = true := by unfold badL; rw [hany2]; simp
        refine ⟨_, List.append_assoc _ _ _, .inl ⟨by rw [hlb, hbad]; rfl, rfl⟩⟩
theorem c168 (r:List UInt8) (hs:r.length≤1099511627775):Pure prog 168 [.str r] (.int .i64 (labelsB r).1):=by
 refine Pure.of_gc rfl fun H=>?_
 (refine fnS (imm:=imm168) tt168_ok func168 ?_;(conv=>whnf))
 refine cO (c185 r H hs) ?_
 rintro _ _ ⟨ext,rfl,⟨h1,rfl⟩ | ⟨h1,id,v,rfl,h2⟩⟩
 ·conv=>whnf
  exact ⟨by rw [h1];rfl,ext,rfl⟩
 ·conv=>whnf
  exact ⟨rfl,ext,rfl⟩
theorem c129 (r:List UInt8) (hs:r.length≤1099511627775):Pure prog 129 [.str r] (.bool (decide ((labelsB r).1≠0))):=by
 intro H
 (refine fnS (imm:=imm129) tt129_ok func129 ?_;(conv=>whnf))
 refine cP (c168 r hs) ?_
 conv=>whnf
 refine ⟨fun h=>?_,fun h=>?_⟩
 ·conv=>whnf
  have:(labelsB r).1=0:=by omega
  exact ⟨by simp [this,tupOf],rfl⟩
 ·conv=>whnf
  have:(labelsB r).1≠0:=by omega
  exact ⟨by simp [this,tupOf],rfl⟩
def krbB:List UInt8:=[107,114,98,116,103,116,47]
def smallB:List UInt8:=[97,98,99,100,101,102,103,104,105,106,107,108,109,110,111,112,113,114,115,116,117,118,119,120,121,122,48,49,50,51,52,53,54,55,56,57]
def isRealmB (r:List UInt8):Bool:=decide ((labelsB r).1≠0)
def targetB (n:List UInt8):List UInt8×Bool:=if krbB.isPrefixOf n&&isRealmB (n.drop 7) then (n.drop 7,true) else ([],false)
def isPrincB (realm name:List UInt8):Bool:=isRealmB realm&&((targetB name).2||isWordB name smallB)
theorem c78 (n:List UInt8) (hs:n.length≤1099511627775):Pure prog 78 [.str n] (.tup [.str (targetB n).1,.bool (targetB n).2]):=by
 intro H
 (refine fnS (imm:=imm78) tt78_ok func78 ?_;(conv=>whnf))
 refine cP (c128 n krbB) ?_
 unfold cutP targetB
 cases hb:krbB.isPrefixOf n
 ·conv=>whnf
  exact ⟨rfl,rfl⟩
 ·conv=>whnf
  refine cP (c129 (n.drop 7) (by rw [List.length_drop];omega)) ?_
  show _
  unfold isRealmB
  cases hr:decide ((labelsB (n.drop 7)).1≠0)
  ·conv=>whnf
   exact ⟨rfl,rfl⟩
  ·conv=>whnf
   exact ⟨rfl,rfl⟩
theorem c79 (realm name:List UInt8) (h1:realm.length≤1099511627775) (h2:name.length≤1099511627775):Pure prog 79 [.agg [.str realm,.str name]] (.bool (isPrincB realm name)):=by
 intro H
 (refine fnS (imm:=imm79) tt79_ok func79 ?_;(conv=>whnf))
 refine cP (c78 name h2) ?_
 conv=>whnf
 refine cP (c129 realm h1) ?_
 unfold isPrincB isRealmB
 cases hr:decide ((labelsB realm).1≠0)
 ·conv=>whnf
  exact ⟨rfl,rfl⟩
 ·cases ht:(targetB name).2
  ·conv=>whnf
   refine cP (c130 name smallB (by decide) (by decide) (by decide)) ?_
   cases isWordB name smallB
   ·conv=>whnf
    exact ⟨rfl,rfl⟩
   ·conv=>whnf
    exact ⟨rfl,rfl⟩
  ·conv=>whnf
   exact ⟨rfl,rfl⟩
def tt96:TT:=[(3,⟨.int .i64,1,8,[.int .i64 0]⟩),(5,⟨.int .u8,1,1,[.int .u8 0]⟩),(9,⟨.str,1,16,[.str []]⟩),(22,⟨.slice 9,1,24,[.slice 0 [] (some 9)]⟩)]
theorem tt96_ok:ttOk prog tt96=true:=by kernel_rfl
def imm96:List Nat:=[]
theorem splitB_at (c:UInt8):∀(x y:List UInt8),(∀b∈x,b≠c)→splitB c (x++c::y)=x::splitB c y
 | [],y,_=>by simp [splitB]
 | b::x,y,h=>by
  have ih:=splitB_at c x y fun b hb=>h b (List.mem_cons_of_mem _ hb)
  simp [splitB,h b List.mem_cons_self,ih]
theorem splitB_no (c:UInt8):∀(x:List UInt8),(∀b∈x,b≠c)→splitB c x=[x]
 | [],_=>rfl
 | b::x,h=>by
  have ih:=splitB_no c x fun b hb=>h b (List.mem_cons_of_mem _ hb)
  simp [splitB,h b List.mem_cons_self,ih]
structure SpS where
 i:Nat
 fr:Nat
 l:List (List UInt8)
theorem c96 (s:List UInt8) (c:UInt8) (hs:s.length≤1099511627776):Pure prog 96 [.str s,bC c] (.slice (splitB c s).length ((splitB c s).map .str) (some 9)):=by
 intro H
 (refine fnS (imm:=imm96) tt96_ok func96 ?_;(conv=>whnf))
 refine lO SpS (fun x=>[(0,.str s),(1,bC c),(5,.slice x.l.length (x.l.map .str) (some 9)),(6,.int .i64 x.fr),(7,.int .i64 x.i)]) (fun _=>H)
  (fun x=>x.fr≤x.i∧x.i≤s.length∧x.l.length≤x.i∧(∀b∈(s.drop x.fr).take (x.i - x.fr),b≠c)∧x.l++splitB c (s.drop x.fr)=splitB c s) (fun x=>s.length - x.i)
  ⟨⟨0,0,[]⟩,⟨zqn _,Nat.zero_le _,Nat.zero_le _,by simp,rfl⟩,⟨rfl,rfl,rfl,rfl,rfl,zqv⟩,rfl⟩ ?_
 rintro ⟨i,fr,l⟩ ⟨h1,h2,h3,h4,h5⟩
 have h1:fr≤i:=h1
 have h2:i≤s.length:=h2
 have h3:l.length≤i:=h3
 have h4:∀b∈(s.drop fr).take (i - fr),b≠c:=h4
 have h5:l++splitB c (s.drop fr)=splitB c s:=h5
 conv=>whnf
 refine ⟨fun h=>?_,fun h=>?_⟩
 ·conv=>whnf
  have h:(i:Int)<s.length:=h
  have hi:i<s.length:=by omega
  refine ⟨⟨by show (0:Int)≤(i:Int);omega,h⟩,s[i],zqc hi,?_⟩
  conv=>whnf
  refine ⟨fun e=>?_,fun e=>?_⟩
  ·conv=>whnf
   refine ⟨⟨by show (0:Int)≤(fr:Int);omega,by show (fr:Int)≤(i:Int);omega,by show (i:Int)≤_;omega⟩,?_⟩
   conv=>whnf
   refine ⟨⟨by show (l.length+1)*16≤_;omega,rfl,rfl⟩,?_⟩
   conv=>whnf
   have e:s[i]=c:=by
    have e:(s[i].toNat:Int)=(c.toNat:Int):=e
    exact UInt8.toNat_inj.1 (by omega)
   have hseg:s.drop fr=(s.drop fr).take (i - fr)++c::s.drop (i+1):=by
    conv=>lhs;rw [←List.take_append_drop (i - fr) (s.drop fr)]
    rw [List.drop_drop,show fr+(i - fr)=i by omega,List.drop_eq_getElem_cons hi,e]
   refine ⟨⟨i+1,i+1,l++[(s.drop fr).take (i - fr)]⟩,⟨zqn _,hi,by simp;omega,by simp,?_⟩,⟨rfl,rfl,?_,?_,?_,zqv⟩,rfl,?_⟩
   ·show (l++[(s.drop fr).take (i - fr)])++splitB c (s.drop (i+1))=_
    rw [←h5]
    conv=>rhs;rw [hseg,splitB_at c _ _ h4]
    simp
   ·show PV.slice (l.length+1) (l.map PV.str++[PV.str ((s.take (i:Int).toNat).drop (fr:Int).toNat)]) (some 9)=PV.slice (l++[(s.drop fr).take (i - fr)]).length ((l++[(s.drop fr).take (i - fr)]).map PV.str) (some 9)
    simp [List.drop_take]
   ·show PV.int _ (IntKind.i64.wrap ((i:Int)+1))=PV.int _ ((i+1:Nat):Int)
    rw [w64 (by omega) (by omega)];simp
   ·show PV.int _ (IntKind.i64.wrap ((i:Int)+1))=PV.int _ ((i+1:Nat):Int)
    rw [w64 (by omega) (by omega)];simp
   ·show s.length - (i+1)<s.length - i
    omega
  ·conv=>whnf
   have e:s[i]≠c:=fun h=>e (by rw [h])
   refine ⟨⟨i+1,fr,l⟩,⟨by show fr≤i+1;omega,hi,by show l.length≤i+1;omega,?_,h5⟩,⟨rfl,rfl,rfl,rfl,?_,zqv⟩,rfl,?_⟩
   ·show ∀b∈(s.drop fr).take (i+1 - fr),b≠c
    intro b hb
    rw [show i+1 - fr=(i - fr)+1 by omega,List.take_succ_eq_append_getElem (by rw [List.length_drop];omega)] at hb
    rcases List.mem_append.1 hb with hb | hb
    ·exact h4 b hb
    ·have:b=s[i]:=by
      have:=List.mem_singleton.1 hb
      rw [this,List.getElem_drop];congr 1;omega
     rw [this];exact e
   ·show PV.int _ (IntKind.i64.wrap ((i:Int)+1))=PV.int _ ((i+1:Nat):Int)
    rw [w64 (by omega) (by omega)];simp
   ·show s.length - (i+1)<s.length - i
    omega
 ·conv=>whnf
  have h:¬(i:Int)<s.length:=h
  refine ⟨⟨by show (0:Int)≤(fr:Int);omega,by show (fr:Int)≤_;omega,by omega⟩,?_⟩
  conv=>whnf
  refine ⟨⟨by show (l.length+1)*16≤_;omega,rfl,rfl⟩,?_⟩
  conv=>whnf
  have hno:splitB c (s.drop fr)=[s.drop fr]:=splitB_no c _ fun b hb=>h4 b (by rw [List.take_of_length_le (by rw [List.length_drop];omega)];exact hb)
  refine ⟨?_,rfl⟩
  show PV.slice (l.length+1) (l.map PV.str++[PV.str ((s.take (s.length:Int).toNat).drop (fr:Int).toNat)]) (some 9)=_
  rw [←h5,hno]
  simp
def tt95:TT:=[(3,⟨.int .i64,1,8,[.int .i64 0]⟩),(5,⟨.int .u8,1,1,[.int .u8 0]⟩),(9,⟨.str,1,16,[.str []]⟩),(22,⟨.slice 9,1,24,[.slice 0 [] (some 9)]⟩)]
theorem tt95_ok:ttOk prog tt95=true:=by kernel_rfl
def imm95:List Nat:=[]
def okC (b:UInt8):Bool:=decide (65≤b.toNat)&&decide (b.toNat≤90)
def okL (s:List UInt8):Bool:=decide (1≤s.length)&&(decide (s.length≤8)&&s.all okC)
theorem elem_cells (l:List (List UInt8)) {i:Nat} {x:List UInt8} (h:l[i]? = some x):∀(j:Nat) (c:PV),[PV.str x][j]? = some c→(l.map PV.str)[(i:Int).toNat*1+j]? = some c:=by
 intro j c hj
 cases j with
 | zero=>simp at hj;subst hj;simp [h]
 | succ j=>simp at hj
theorem c95 (l : List (List UInt8)) (o : Option Nat) (hs : l.length ≤ 1099511627776) : Pure prog 95 [.slice l.length (l.map .str) o] (.bool (l.all okL && (decide (1 ≤ l.length) && decide (l.length ≤ 4)))) := by
  intro H
  (refine fnS (imm := imm95) tt95_ok func95 ?_; (conv => whnf))
  refine lO Nat (fun i => [(0, .slice l.length (l.map .str) none), (3, .int .i64 i)]) (fun _ => H) (fun i => i ≤ l.length ∧ ∀ j, j < i → (l[j]?.map okL) = some true) (fun i => l.length - i) ⟨0, ⟨Nat.zero_le _, fun j h => by omega⟩, ⟨?_, rfl, trivial⟩, rfl⟩ ?_
  · cases o <;> rfl
  rintro i ⟨h1, h2⟩
  conv => whnf
  refine ⟨fun h => ?_, fun h => ?_⟩
  · conv => whnf
    have h : (i : Int) < l.length := h
    have hi : i < l.length := by omega
    have hg := zqc hi
    refine ⟨⟨by omega, h⟩, [.str l[i]], elem_cells l hg, ?_⟩
    conv => whnf
    have hbad : okL l[i] = false → (l.all okL && (decide (1 ≤ l.length) && decide (l.length ≤ 4))) = false := fun hb => by
      have : l.all okL = false := by
        cases ha : l.all okL with
        | false => rfl
        | true => rw [List.all_eq_true.1 ha _ (List.getElem_mem hi)] at hb; cases hb
      rw [this]; rfl
    refine ⟨fun h5 => ?_, fun h5 => ?_⟩
    · conv => whnf
      refine ⟨?_, rfl⟩
      rw [hbad (by unfold okL; have : ¬ 1 ≤ l[i].length := by omega
                   simp [this])]; rfl
    conv => whnf
    refine ⟨⟨by omega, h⟩, [.str l[i]], elem_cells l hg, ?_⟩
    conv => whnf
    refine ⟨fun h6 => ?_, fun h6 => ?_⟩
    · conv => whnf
      refine ⟨?_, rfl⟩
      rw [hbad (by unfold okL; have : ¬ l[i].length ≤ 8 := by omega
                   simp [this])]; rfl
    conv => whnf
    refine lO Nat (fun k => [(0, .slice l.length (l.map .str) none), (3, .int .i64 i), (4, .int .i64 k)]) (fun _ => H) (fun k => k ≤ l[i].length ∧ ∀ j, j < k → (l[i][j]?.map okC) = some true) (fun k => l[i].length - k) ⟨0, ⟨Nat.zero_le _, fun j h => by omega⟩, ⟨rfl, rfl, rfl, trivial⟩, rfl⟩ ?_
    rintro k ⟨k1, k2⟩
    conv => whnf
    refine ⟨⟨by omega, h⟩, [.str l[i]], elem_cells l hg, ?_⟩
    conv => whnf
    refine ⟨fun h7 => ?_, fun h7 => ?_⟩
    · conv => whnf
      have h7 : (k : Int) < l[i].length := h7
      have hk : k < l[i].length := by omega
      refine ⟨⟨by omega, h⟩, [.str l[i]], elem_cells l hg, ?_⟩
      conv => whnf
      refine ⟨⟨by omega, h7⟩, l[i][k], zqc hk, ?_⟩
      conv => whnf
      have hbadc : okC l[i][k] = false → okL l[i] = false := fun hb => by
        unfold okL
        have : l[i].all okC = false := by
          cases ha : l[i].all okC with
          | false => rfl
          | true => rw [List.all_eq_true.1 ha _ (List.getElem_mem hk)] at hb; cases hb
        rw [this]; simp
      refine ⟨fun h8 => ?_, fun h8 => ?_⟩
      · conv => whnf
        refine ⟨?_, rfl⟩
        rw [hbad (hbadc (by unfold okC; have : ¬ 65 ≤ l[i][k].toNat := by omega
                            simp [this]))]; rfl
      conv => whnf
      refine ⟨⟨by omega, h⟩, [.str l[i]], elem_cells l hg, ?_⟩
      conv => whnf
      refine ⟨⟨by omega, h7⟩, l[i][k], zqc hk, ?_⟩
      conv => whnf
      refine ⟨fun h9 => ?_, fun h9 => ?_⟩
      · conv => whnf
        refine ⟨?_, rfl⟩
        rw [hbad (hbadc (by unfold okC; have : ¬ l[i][k].toNat ≤ 90 := by omega
                            simp [this]))]; rfl
      conv => whnf
      refine ⟨k + 1, ⟨hk, fun j hj => ?_⟩, ⟨rfl, rfl, ?_, trivial⟩, rfl, by show l[i].length - (k + 1) < l[i].length - k; omega⟩
      · by_cases e : j = k
        · subst e
          rw [zqc hk]
          have a1 : 65 ≤ l[i][j].toNat := by omega
          have a2 : l[i][j].toNat ≤ 90 := by omega
          simp [okC, a1, a2]
        · exact k2 j (by omega)
      · show PV.int _ (IntKind.i64.wrap ((k : Int) + 1)) = PV.int _ ((k + 1 : Nat) : Int)
        rw [w64 (by omega) (by omega)]; simp
    · conv => whnf
      have h7 : ¬ (k : Int) < l[i].length := h7
      have hok : okL l[i] = true := by
        have ha : l[i].all okC = true := by
          rw [List.all_eq_true]
          intro x hx
          obtain ⟨j, hj, rfl⟩ := List.mem_iff_getElem.1 hx
          have := k2 j (by omega)
          rw [zqc hj] at this
          simpa using this
        have a1 : 1 ≤ l[i].length := by omega
        have a2 : l[i].length ≤ 8 := by omega
        unfold okL
        rw [ha]; simp [a1, a2]
      refine ⟨i + 1, ⟨hi, fun j hj => ?_⟩, ⟨rfl, ?_, trivial⟩, rfl, by omega⟩
      · by_cases e : j = i
        · subst e
          rw [hg]; simp [hok]
        · exact h2 j (by omega)
      · show PV.int _ (IntKind.i64.wrap ((i : Int) + 1)) = PV.int _ ((i + 1 : Nat) : Int)
        rw [w64 (by omega) (by omega)]; simp
  · conv => whnf
    have h : ¬ (i : Int) < l.length := h
    have hall : l.all okL = true := by
      rw [List.all_eq_true]
      intro x hx
      obtain ⟨j, hj, rfl⟩ := List.mem_iff_getElem.1 hx
      have := h2 j (by omega)
      rw [zqc hj] at this
      simpa using this
    rw [hall]
    refine ⟨fun h5 => ?_, fun h5 => ?_⟩
    · conv => whnf
      refine ⟨fun h6 => ?_, fun h6 => ?_⟩
      · conv => whnf
        refine ⟨?_, rfl⟩
        have a1 : 1 ≤ l.length := by omega
        have a2 : l.length ≤ 4 := by omega
        simp [a1, a2, tupOf]
      · conv => whnf
        refine ⟨?_, rfl⟩
        have a2 : ¬ l.length ≤ 4 := by omega
        simp [a2, tupOf]
    · conv => whnf
      refine ⟨?_, rfl⟩
      have a1 : ¬ 1 ≤ l.length := by omega
      simp [a1, tupOf]
def tt52:TT:=[(3,⟨.int .i64,1,8,[.int .i64 0]⟩),(5,⟨.int .u8,1,1,[.int .u8 0]⟩),(9,⟨.str,1,16,[.str []]⟩),(22,⟨.slice 9,1,24,[.slice 0 [] (some 9)]⟩)]
theorem tt52_ok:ttOk prog tt52=true:=by kernel_rfl
def imm52:List Nat:=[]
def tt19:TT:=[(3,⟨.int .i64,1,8,[.int .i64 0]⟩),(9,⟨.str,1,16,[.str []]⟩)]
theorem tt19_ok:ttOk prog tt19=true:=by kernel_rfl
def imm19:List Nat:=[]
def labs (l:List (List UInt8)):Bool:=l.all okL&&(decide (1≤l.length)&&decide (l.length≤4))
theorem okC_eq:∀b:UInt8,inB upperB b.toNat=okC b:=by
 intro b
 have h:∀n:Fin 256,inB upperB n.val=(decide (65≤n.val)&&decide (n.val≤90)):=by decide
 exact h ⟨b.toNat,b.toNat_lt⟩
theorem okL_eq (s:List UInt8):isWordB s upperB=okL s:=by
 unfold isWordB okL
 have:(fun c:UInt8=>inB upperB c.toNat)=okC:=funext okC_eq
 rw [this]
 cases s <;> simp
theorem labs_eq (c:UInt8) (s:List UInt8):labs (splitB c s)=!badL (splitB c s):=by
 have h1:=splitB_len c s
 unfold labs badL
 have:(fun s=>!isWordB s upperB)=fun s=>!okL s:=funext fun s=>by rw [okL_eq]
 rw [this]
 have h2:decide (1≤(splitB c s).length)=true:=by simp;omega
 rw [h2]
 rw [Bool.not_or,List.not_any_eq_all_not,zq5,Bool.and_comm]
 congr 1
 ·by_cases h:4<(splitB c s).length
  ·have:¬(splitB c s).length≤4:=by omega
   simp [h,this]
  ·have:(splitB c s).length≤4:=by omega
   simp [h,this]
 ·simp
theorem labs_slash (t:List UInt8):labs (splitB 46 (47::t))=false:=by
 have h:∃x l,splitB 46 (47::t)=(47::x)::l:=by
  simp only [splitB]
  rw [zqo (by decide)]
  cases splitB 46 t with
  | nil=>exact ⟨[],[],rfl⟩
  | cons a b=>exact ⟨a,b,rfl⟩
 obtain ⟨x,l,h⟩:=h
 have hk:okL (47::x)=false:=by
  have:okC 47=false:=by decide
  simp [okL,this]
 rw [h]
 simp [labs,hk]
theorem c52 (r:List UInt8) (hs:r.length≤1099511627775):Pure prog 52 [.str r] (.int .i64 (labelsB r).1):=by
 intro H
 have dot:∀r:List UInt8,r.length≤1099511627775→(splitB 46 r).length≤1099511627776:=fun r h=>by have:=countB_le 46 r;have:=splitB_len 46 r;omega
 (refine fnS (imm:=imm52) tt52_ok func52 ?_;(conv=>whnf))
 refine ⟨fun h=>?_,fun h=>?_⟩
 ·conv=>whnf
  cases r with
  | nil=>simp at h
  | cons x t =>
   refine ⟨⟨by omega,by simp <;> omega⟩,x,rfl,?_⟩
   conv=>whnf
   refine ⟨fun e=>?_,fun e=>?_⟩
   ·have e:x=47:=by
     have e:(x.toNat:Int)=47:=e
     exact UInt8.toNat_inj.1 (by show x.toNat=47;omega)
    subst e
    conv=>whnf
    refine ⟨⟨by omega,by simp <;> omega,by simp⟩,?_⟩
    have ht:((47::t).take ((47::t).length:Int).toNat).drop (1:Int).toNat=t:=by simp
    conv=>whnf
    have htl:t.length≤1099511627775:=by simp at hs;omega
    refine cP (P:=prog) (v:=.slice (splitB 47 t).length ((splitB 47 t).map .str) (some 9)) ?_ ?_
    ·show Pure prog 96 [.str (((47::t).take ((47::t).length:Int).toNat).drop (1:Int).toNat),bC 47] _
     rw [ht]
     exact c96 t 47 (by omega)
    conv=>whnf
    refine cP (c95 (splitB 47 t) none (by have:=countB_le 47 t;have:=splitB_len 47 t;omega)) ?_
    have hl:=labs_eq 47 t
    have hd:=labs_slash t
    unfold labs at hl hd
    rw [hl]
    cases hb:badL (splitB 47 t)
    ·conv=>whnf
     refine ⟨?_,rfl⟩
     simp [labelsB,hb,tupOf]
    ·conv=>whnf
     refine cP (c96 (47::t) 46 (by omega)) ?_
     conv=>whnf
     refine cP (c95 (splitB 46 (47::t)) none (dot _ hs)) ?_
     rw [hd]
     conv=>whnf
     refine ⟨?_,rfl⟩
     simp [labelsB,hb,tupOf]
   ·have hx:x≠47:=fun h=>e (by rw [h];rfl)
    have hlb:labelsB (x::t)=if badL (splitB 46 (x::t)) then (0,[]) else (1,(splitB 46 (x::t)).reverse):=by
     unfold labelsB
     split
     ·rename_i h2;cases h2;exact absurd rfl hx
     ·rfl
    conv=>whnf
    refine cP (c96 (x::t) 46 (by omega)) ?_
    conv=>whnf
    refine cP (c95 (splitB 46 (x::t)) none (dot _ hs)) ?_
    have hl:=labs_eq 46 (x::t)
    unfold labs at hl
    rw [hl,hlb]
    cases hb:badL (splitB 46 (x::t))
    ·conv=>whnf
     exact ⟨rfl,rfl⟩
    ·conv=>whnf
     exact ⟨rfl,rfl⟩
 ·have hr:r=[]:=by
   cases r with
   | nil=>rfl
   | cons x t=>exact absurd (by simp <;> omega) h
  subst hr
  conv=>whnf
  refine cP (c96 [] 46 (by simp)) ?_
  conv=>whnf
  refine cP (c95 (splitB 46 []) none (by simp [splitB])) ?_
  have:((splitB 46 []).all okL&&(decide (1≤(splitB 46 []).length)&&decide ((splitB 46 []).length≤4)))=false:=by decide
  rw [this]
  conv=>whnf
  have h0:(labelsB []).1=0:=by decide
  exact ⟨by rw [h0];rfl,rfl⟩
theorem c19 (r:List UInt8) (hs:r.length≤1099511627775):Pure prog 19 [.str r] (.bool (isRealmB r)):=by
 intro H
 (refine fnS (imm:=imm19) tt19_ok func19 ?_;(conv=>whnf))
 refine cP (c52 r hs) ?_
 conv=>whnf
 refine ⟨fun h=>?_,fun h=>?_⟩
 ·conv=>whnf
  have:(labelsB r).1≠0:=by omega
  exact ⟨by simp [isRealmB,this,tupOf],rfl⟩
 ·conv=>whnf
  have:(labelsB r).1=0:=by omega
  exact ⟨by simp [isRealmB,this,tupOf],rfl⟩
def tt35:TT:=[(3,⟨.int .i64,1,8,[.int .i64 0]⟩),(4,⟨.bool,1,1,[.bool false]⟩),(9,⟨.str,1,16,[.str []]⟩)]
theorem tt35_ok:ttOk prog tt35=true:=by kernel_rfl
def imm35:List Nat:=[]
def tt36:TT:=[(3,⟨.int .i64,1,8,[.int .i64 0]⟩),(4,⟨.bool,1,1,[.bool false]⟩),(5,⟨.int .u8,1,1,[.int .u8 0]⟩),(9,⟨.str,1,16,[.str []]⟩),(36,⟨.strct [(9,0),(9,1)],2,32,[.str [],.str []]⟩)]
theorem tt36_ok:ttOk prog tt36=true:=by kernel_rfl
def imm36:List Nat:=[1]
theorem c35 (n:List UInt8) (hs:n.length≤1099511627775):Pure prog 35 [.str n] (.tup [.str (targetB n).1,.bool (targetB n).2]):=by
 intro H
 (refine fnS (imm:=imm35) tt35_ok func35 ?_;(conv=>whnf))
 refine ⟨fun h=>?_,fun h=>?_⟩
 ·have ht:targetB n=([],false):=by
   unfold targetB
   by_cases hp:krbB.isPrefixOf n=true
   ·have hl:=(List.isPrefixOf_iff_prefix.1 hp).length_le
    have hl:7≤n.length:=hl
    have:n.drop 7=[]:=List.drop_eq_nil_of_le (by omega)
    have h0:isRealmB []=false:=by decide
    rw [this,h0];simp
   ·simp [hp]
  rw [ht]
  conv=>whnf
  exact ⟨rfl,rfl⟩
 ·conv=>whnf
  refine ⟨⟨by omega,by omega,by omega⟩,?_⟩
  conv=>whnf
  have hl:krbB.length≤n.length:=by show 7≤_;omega
  refine ⟨fun e=>?_,fun e=>?_⟩
  ·have e:n.take 7=krbB:=e
   have hp:krbB.isPrefixOf n=true:=(take_of_prefix hl).1 e
   conv=>whnf
   refine ⟨⟨by omega,by omega,by omega⟩,?_⟩
   conv=>whnf
   have hd:(n.take (n.length:Int).toNat).drop (7:Int).toNat=n.drop 7:=by simp
   refine cP (P:=prog) (v:=.bool (isRealmB (n.drop 7))) ?_ ?_
   ·show Pure prog 19 [.str ((n.take (n.length:Int).toNat).drop (7:Int).toNat)] _
    rw [hd]
    exact c19 _ (by rw [List.length_drop];omega)
   cases hr:isRealmB (n.drop 7)
   ·conv=>whnf
    refine ⟨?_,rfl⟩
    simp [targetB,hp,hr,tupOf]
   ·conv=>whnf
    refine ⟨⟨by omega,by omega,by omega⟩,?_⟩
    conv=>whnf
    refine ⟨?_,rfl⟩
    simp [targetB,hp,hr,tupOf]
  ·have e:¬n.take 7=krbB:=e
   have hp:krbB.isPrefixOf n=false:=by
    cases hb:krbB.isPrefixOf n with
    | false=>rfl
    | true=>exact absurd ((take_of_prefix hl).2 hb) e
   conv=>whnf
   refine ⟨?_,rfl⟩
   simp [targetB,hp,tupOf]
def okS (b:UInt8):Bool:=(decide (97≤b.toNat)&&decide (b.toNat≤122))||(decide (48≤b.toNat)&&decide (b.toNat≤57))
theorem okS_eq:∀b:UInt8,inB smallB b.toNat=okS b:=by
 intro b
 have h:∀n:Fin 256,inB smallB n.val=((decide (97≤n.val)&&decide (n.val≤122))||(decide (48≤n.val)&&decide (n.val≤57))):=by decide
 exact h ⟨b.toNat,b.toNat_lt⟩
theorem word_small (s:List UInt8):isWordB s smallB=(s.all okS&&(decide (1≤s.length)&&decide (s.length≤8))):=by
 unfold isWordB
 have:(fun c:UInt8=>inB smallB c.toNat)=okS:=funext okS_eq
 rw [this]
 cases s with
 | nil=>rfl
 | cons a s =>
  have h1:decide (1≤(a::s).length)=true:=by simp
  have h2:decide (a::s≠[])=true:=by simp
  rw [h1,h2,zq5,zq5,Bool.and_comm]
theorem c36 (realm name : List UInt8) (h1 : realm.length ≤ 1099511627775) (h2 : name.length ≤ 1099511627775) : Pure prog 36 [.agg [.str realm, .str name]] (.bool (isPrincB realm name)) := by
  intro H
  (refine fnS (imm := imm36) tt36_ok func36 ?_; (conv => whnf))
  refine cP (c19 realm h1) ?_
  unfold isPrincB
  cases hr : isRealmB realm
  · conv => whnf
    exact ⟨rfl, rfl⟩
  conv => whnf
  refine cP (c35 name h2) ?_
  cases ht : (targetB name).2
  · conv => whnf
    rw [word_small]
    refine lO Nat (fun i => [(1, .elem [.str realm, .str name]), (5, .int .i64 i)]) (fun _ => H) (fun i => i ≤ name.length ∧ ∀ j, j < i → (name[j]?.map okS) = some true) (fun i => name.length - i) ⟨0, ⟨Nat.zero_le _, fun j h => by omega⟩, ⟨rfl, rfl, trivial⟩, rfl⟩ ?_
    rintro i ⟨k1, k2⟩
    conv => whnf
    refine ⟨fun h => ?_, fun h => ?_⟩
    · conv => whnf
      have h : (i : Int) < name.length := h
      have hi : i < name.length := by omega
      refine ⟨⟨by omega, h⟩, name[i], zqc hi, ?_⟩
      conv => whnf
      have hbad : okS name[i] = false → (name.all okS && (decide (1 ≤ name.length) && decide (name.length ≤ 8))) = false := fun hb => by
        have : name.all okS = false := by
          cases ha : name.all okS with
          | false => rfl
          | true => rw [List.all_eq_true.1 ha _ (List.getElem_mem hi)] at hb; cases hb
        rw [this]; rfl
      have go : okS name[i] = true → ∃ s' : Nat, (s' ≤ name.length ∧ ∀ j, j < s' → (name[j]?.map okS) = some true) ∧ PV.int .i64 (IntKind.i64.wrap ((i : Int) + 1)) = PV.int .i64 s' ∧ name.length - s' < name.length - i := fun hok =>
        ⟨i + 1, ⟨hi, fun j hj => by
          by_cases e : j = i
          · subst e; rw [zqc hi]; simp [hok]
          · exact k2 j (by omega)⟩, by rw [w64 (by omega) (by omega)]; simp, by omega⟩
      refine ⟨fun a1 => ?_, fun a1 => ?_⟩
      · conv => whnf
        refine ⟨fun a2 => ?_, fun a2 => ?_⟩
        · conv => whnf
          refine ⟨?_, rfl⟩
          rw [hbad (by unfold okS
                       have e1 : ¬ 97 ≤ name[i].toNat := by omega
                       have e2 : ¬ 48 ≤ name[i].toNat := by omega
                       simp [e1, e2])]; rfl
        · conv => whnf
          refine ⟨fun a3 => ?_, fun a3 => ?_⟩
          · conv => whnf
            refine ⟨?_, rfl⟩
            rw [hbad (by unfold okS
                         have e1 : ¬ 97 ≤ name[i].toNat := by omega
                         have e2 : ¬ name[i].toNat ≤ 57 := by omega
                         simp [e1, e2])]; rfl
          · conv => whnf
            obtain ⟨s', y1, y2, y3⟩ := go (by
              unfold okS
              have e1 : 48 ≤ name[i].toNat := by omega
              have e2 : name[i].toNat ≤ 57 := by omega
              simp [e1, e2])
            exact ⟨s', y1, ⟨rfl, y2, trivial⟩, rfl, y3⟩
      · conv => whnf
        refine ⟨fun a2 => ?_, fun a2 => ?_⟩
        · conv => whnf
          refine ⟨fun a3 => absurd a3 (by omega), fun a3 => ?_⟩
          conv => whnf
          refine ⟨fun a4 => ?_, fun a4 => absurd a4 (by omega)⟩
          conv => whnf
          refine ⟨?_, rfl⟩
          rw [hbad (by unfold okS
                       have e1 : ¬ name[i].toNat ≤ 122 := by omega
                       have e2 : ¬ name[i].toNat ≤ 57 := by omega
                       simp [e1, e2])]; rfl
        · conv => whnf
          obtain ⟨s', y1, y2, y3⟩ := go (by
            unfold okS
            have e1 : 97 ≤ name[i].toNat := by omega
            have e2 : name[i].toNat ≤ 122 := by omega
            simp [e1, e2])
          exact ⟨s', y1, ⟨rfl, y2, trivial⟩, rfl, y3⟩
    · conv => whnf
      have h : ¬ (i : Int) < name.length := h
      have hall : name.all okS = true := by
        rw [List.all_eq_true]
        intro x hx
        obtain ⟨j, hj, rfl⟩ := List.mem_iff_getElem.1 hx
        have := k2 j (by omega)
        rw [zqc hj] at this
        simpa using this
      rw [hall]
      refine ⟨fun a1 => ?_, fun a1 => ?_⟩
      · conv => whnf
        refine ⟨fun a2 => ?_, fun a2 => ?_⟩
        · conv => whnf
          refine ⟨?_, rfl⟩
          have e1 : 1 ≤ name.length := by omega
          have e2 : name.length ≤ 8 := by omega
          simp [e1, e2, tupOf]
        · conv => whnf
          refine ⟨?_, rfl⟩
          have e2 : ¬ name.length ≤ 8 := by omega
          simp [e2, tupOf]
      · conv => whnf
        refine ⟨?_, rfl⟩
        have e1 : ¬ 1 ≤ name.length := by omega
        simp [e1, tupOf]
  · conv => whnf
    exact ⟨rfl, rfl⟩
end Go.Proofs.Tryz
namespace Ps
open Go
theorem CK.nil {P:Program} {f:Nat} {args:List PV} {H:PH} (h:CK P f args H fun r H'=>r=.nilS∧H'=H):CK P f args H fun r H'=>r=.slice 0 [] none∧H'=H:=by
 intro g w vs hs hr
 refine (h g w vs hs hr).mono ?_
 rintro e w' ⟨v,r,H',g',rfl,⟨rfl,rfl⟩,hr',st,ho,hc⟩
 have h0:VC P g' w' v .nilS:=hr'.e 0
 have h0:v=.slice none 0 0:=by
  rcases h0 with h0 | ⟨_,_,_,_,h0,_⟩
  ·exact h0.inv_nilS
  ·cases h0
 subst h0
 have hv:V g' w' (.slice none 0 0) (.slice 0 [] none):=.snil none
 have hno:∀t i b,¬ownAt (one (.slice none 0 0) t) (Env.get [(0,.slice 0 [] none)] t) i b:=fun t i b h=>by
  rw [Env.get_cons] at h
  unfold one at h
  by_cases e:t=0
  ·rw [zqp e,zqp e.symm] at h;exact no_own hv i b h
  ·rw [zqo (Ne.symm e)] at h;cases h.2.1
 refine ⟨_,.slice 0 [] none,H',g',rfl,⟨rfl,rfl⟩,⟨hr'.h,fun t=>?_,fun t i t' i' b h _=>absurd h (hno t i b),fun t i b h=>absurd h (hno t i b),hr'.cc⟩,st,fun i b h=>absurd h (no_own hv i b),hc⟩
 rw [Env.get_cons]
 unfold one
 by_cases e:t=0
 ·rw [zqp e,zqp e.symm];exact hv.vc
 ·rw [zqo e,zqo (Ne.symm e)];exact (V.undef _).vc
end Ps
namespace Go.Proofs.Tryz
open Go Ps
def ttB:TT:=[(3,⟨.int .i64,1,8,[.int .i64 0]⟩),(5,⟨.int .u8,1,1,[.int .u8 0]⟩),(9,⟨.str,1,16,[.str []]⟩),(25,⟨.slice 5,1,24,[.slice 0 [] (some 5)]⟩),(192,⟨.slice 25,1,24,[.slice 0 [] (some 25)]⟩)]
theorem ttB_ok:ttOk prog ttB=true:=by kernel_rfl
def imm199:List Nat:=[22]
def imm179:List Nat:=[33]
def imm156:List Nat:=[]
def imm165:List Nat:=[]
def imm181:List Nat:=[]
def imm180:List Nat:=[]
def imm158:List Nat:=[3,15,30]
def imm182:List Nat:=[]
def Ext (H H':PH):Prop:=∃ext,H'=H++ext
theorem Ext.refl (H:PH):Ext H H:=⟨[],by simp⟩
theorem Ext.push {H H':PH} (h:Ext H H') (o:PObj):Ext H (H'++[o]):=by
 obtain ⟨e,rfl⟩:=h
 exact ⟨e++[o],by simp⟩
theorem Ext.set {H H':PH} (h:Ext H H') {id:Nat} (hid:H.length≤id) (o:PObj):Ext H (H'.set id o):=by
 obtain ⟨e,rfl⟩:=h
 exact ⟨e.set (id - H.length) o,by rw [List.set_append_right _ _ hid]⟩
theorem Ext.len {H H':PH} (h:Ext H H'):H.length≤H'.length:=by
 obtain ⟨e,rfl⟩:=h
 simp
theorem c199 (n:Nat) (hn:n≤1099511627776) (H:PH):CK prog 199 [.nilS,.int .i64 n] H fun r H'=>(n=0∧r=.nilS∧H'=H)∨(0<n∧∃cap o,n≤cap∧r=.sref H.length 0 0 cap∧H'=H++[o]∧o.cs.length=cap):=by
 (refine fnS (imm:=imm199) ttB_ok func199 ?_;(conv=>whnf))
 refine ⟨fun h=>absurd (show (n:Int)<0 from h) (by omega),fun _=>?_⟩
 conv=>whnf
 have hw:IntKind.i64.wrap ((n:Int) - IntKind.i64.wrap (0 - 0))=n:=by
  rw [show IntKind.i64.wrap ((0:Int) - 0)=0 from rfl,w64 (by omega) (by omega)];omega
 refine ⟨fun h=>?_,fun h=>?_⟩
 ·conv=>whnf
  have h:IntKind.i64.wrap ((n:Int) - IntKind.i64.wrap (0 - 0)) > 0:=h
  rw [hw] at h
  refine ⟨⟨by omega,by omega,by omega⟩,?_⟩
  conv=>whnf
  rw [hw]
  refine ⟨⟨h,by show (n:Int)*(1:Nat)≤_;omega⟩,fun cap hc=>?_⟩
  conv=>whnf
  have hc:n≤cap:=hc
  refine ⟨⟨by omega,by omega,by show (0:Int)≤n;omega⟩,fun h2=>?_,fun h2=>absurd (show (0:Int)<((n:Int).toNat:Int) by omega) h2⟩
  conv=>whnf
  refine .inr ⟨by omega,cap,_,hc,rfl,rfl,?_⟩
  show (zerosOf [PV.int .u8 0] n++zerosOf [PV.int .u8 0] (cap - n)).length=cap
  rw [zqf,(zerosOf_get (z:=[PV.int .u8 0]) (sz:=1) rfl (by omega) n).1,(zerosOf_get (z:=[PV.int .u8 0]) (sz:=1) rfl (by omega) (cap - n)).1]
  omega
 ·conv=>whnf
  have h:¬IntKind.i64.wrap ((n:Int) - IntKind.i64.wrap (0 - 0)) > 0:=h
  rw [hw] at h
  exact .inl ⟨by omega,rfl,rfl⟩
def sl (b:List UInt8):PV:=.slice b.length (b.map bC) none
def Rep (H:PH) (c:PV) (b:List UInt8):Prop:=c=sl b∨∃id off cap o,c=.sref id off b.length cap∧H[id]? = some o∧(((o.cs.drop off).take (b.length*1)).map dem)=b.map bC
def Reps (H:PH) (cs:List PV) (ls:List (List UInt8)):Prop:=cs.length=ls.length∧∀(i:Nat) (c:PV) (b:List UInt8),cs[i]? = some c→ls[i]? = some b→Rep H c b
theorem Reps.sl (H:PH) (ls:List (List UInt8)):Reps H (ls.map sl) ls:=⟨by simp,fun i c b hc hb=>by
 rw [List.getElem?_map,hb] at hc
 exact .inl (Option.some.inj hc).symm⟩
theorem Ext.get {H H':PH} (h:Ext H H') {j:Nat} {o:PObj} (hj:H[j]? = some o):H'[j]? = some o:=by
 obtain ⟨e,rfl⟩:=h
 rw [zq2 (zq1.1 hj).1];exact hj
structure CoS where
 k:Nat
structure CoT where
 k:Nat
 H:PH
 v:PV
theorem take_pre {a b:List PV} {n:Nat} (h:a.length=n):(a++b).take n=a:=by subst h;simp
theorem flat_take {ls:List (List UInt8)} {k:Nat} (hk:k<ls.length):(ls.take (k+1)).flatten=(ls.take k).flatten++ls[k]:=by
 rw [List.take_succ_eq_append_getElem hk,List.flatten_append,zqk,zql,List.append_nil]
theorem flat_le (ls:List (List UInt8)) (k:Nat):((ls.take k).flatten).length≤ls.flatten.length:=by
 conv=>rhs;rw [←List.take_append_drop k ls]
 rw [List.flatten_append,zqf];omega
theorem allOne (b:List UInt8):(b.map bC).all oneP=true:=List.all_eq_true.2 fun x hx=>by
 obtain ⟨b,_,rfl⟩:=List.mem_map.1 hx
 rfl
def coOk (H0:PH) (ls:List (List UInt8)) (k:Nat) (H:PH) (v:PV):Prop :=
 (ls.flatten.length=0∧v=.nilS∧H=H0)∨(0<ls.flatten.length∧∃id cap o,v=.sref id 0 ((ls.take k).flatten).length cap∧H0.length≤id∧H[id]? = some o∧(o.cs.length=cap∧ls.flatten.length≤cap)∧o.cs.take ((ls.take k).flatten).length=((ls.take k).flatten).map bC)
theorem c179x (ls:List (List UInt8)) (hn:ls.length≤1099511627776) (ht:ls.flatten.length≤1099511627776) (H0:PH) (cs:List PV) (hr:Reps H0 cs ls):CK prog 179 [.slice ls.length cs none] H0 fun r H'=>Ext H0 H'∧coOk H0 ls ls.length H' r:=by
  (refine fnS (imm:=imm179) ttB_ok func179 ?_;(conv=>whnf))
  refine lO CoS (fun x=>[(0,.slice ls.length cs none),(9,.slice ls.length cs none),(10,.int .i64 ls.length),(11,.int .i64 x.k),(3,.int .i64 ((ls.take x.k).flatten).length)]) (fun _=>H0)
    (fun x=>x.k≤ls.length) (fun x=>ls.length - x.k) ⟨⟨0⟩,Nat.zero_le _,⟨rfl,rfl,rfl,rfl,rfl,zqv⟩,rfl⟩ ?_
  rintro ⟨k⟩ hk
  have hk:k≤ls.length:=hk
  conv=>whnf
  refine ⟨fun h=>?_,fun h=>?_⟩
  · conv=>whnf
    have h:(k:Int)<ls.length:=h
    have hi:k<ls.length:=by omega
    have hic:k<cs.length:=by rw [hr.1];exact hi
    have hrep:=hr.2 k _ _ (zqc hic) (zqc hi)
    refine ⟨⟨by show (0:Int)≤(k:Int);omega,h⟩,[cs[k]],fun j c hj=>?_,?_⟩
    · match j with
      | 0 =>
        have hj:some cs[k]=some c:=hj
        show cs[(k:Int).toNat*1+0]? = _
        rw [←hj]
        simp [hic]
      | j+1=>simp at hj
    have hf:=flat_take hi
    have hl:=flat_le ls (k+1)
    rw [hf,zqf] at hl
    have hw:IntKind.i64.wrap ((((ls.take k).flatten).length:Int)+(ls[k].length:Int))=((((ls.take (k+1)).flatten).length:Nat):Int):=by
      rw [w64 (by omega) (by omega),hf,zqf];rfl
    generalize cs[k]=c at hrep ⊢
    rcases hrep with rfl | ⟨id,off,cap,o,rfl,_,_⟩
    all_goals
     conv=>whnf
     refine ⟨fun h=>absurd (show IntKind.i64.wrap ((((ls.take k).flatten).length:Int)+(ls[k].length:Int))<0 from h) (by rw [hw];omega),fun _=>?_⟩
     conv=>whnf
     refine ⟨⟨k+1⟩,by show k+1≤ls.length;omega,⟨rfl,rfl,rfl,?_,?_,zqv⟩,rfl,by show ls.length - (k+1)<ls.length - k;omega⟩
     · show PV.int _ (IntKind.i64.wrap ((k:Int)+1))=PV.int _ ((k+1:Nat):Int)
       rw [w64 (by omega) (by omega)];rfl
     · exact zqm (PV.int .i64) hw
  · conv=>whnf
    have h:¬(k:Int)<ls.length:=h
    have hkl:k=ls.length:=by omega
    subst hkl
    have htake:ls.take ls.length=ls:=List.take_of_length_le (zqn _)
    refine cA (args':=[.nilS,.int .i64 ls.flatten.length]) (by show [PV.nilS,.int .i64 ((ls.take ls.length).flatten).length]=_;rw [htake]) ?_
    refine cO (c199 ls.flatten.length ht H0) ?_
    rintro r H1 hr1
    have hstart:Ext H0 H1∧coOk H0 ls 0 H1 r:=by
      rcases hr1 with ⟨h1,rfl,rfl⟩ | ⟨h1,cap,o,h2,rfl,rfl,h3⟩
      · exact ⟨Ext.refl _,.inl ⟨h1,rfl,rfl⟩⟩
      · exact ⟨⟨_,rfl⟩,.inr ⟨h1,H0.length,cap,o,rfl,zqn _,by simp,⟨h3,h2⟩,by simp⟩⟩
    obtain ⟨e1,e2⟩:=hstart
    have hcase:(∃(v:PV),r=v∧(v=.nilS∨∃id n cap,v=.sref id 0 n cap)):=by
      rcases e2 with ⟨_,rfl,_⟩ | ⟨_,id,cap,_,rfl,_⟩
      · exact ⟨_,rfl,.inl rfl⟩
      · exact ⟨_,rfl,.inr ⟨id,_,cap,rfl⟩⟩
    have hgo:∀(E:Env),subE [(0,.slice ls.length cs none),(25,.slice ls.length cs none),(26,.int .i64 ls.length),(27,.int .i64 0),(6,r)] E→True:=fun _ _=>trivial
    obtain ⟨v,rfl,hv⟩:=hcase
    rcases hv with rfl | ⟨id,n,cap,rfl⟩
    all_goals
      conv=>whnf
      refine lO CoT (fun x=>[(25,.slice ls.length cs none),(26,.int .i64 ls.length),(27,.int .i64 x.k),(6,x.v)]) (fun x=>x.H)
        (fun x=>x.k≤ls.length∧Ext H0 x.H∧coOk H0 ls x.k x.H x.v) (fun x=>ls.length - x.k) ⟨⟨0,H1,_⟩,⟨Nat.zero_le _,e1,e2⟩,⟨rfl,rfl,rfl,rfl,zqv⟩,rfl⟩ ?_
      clear hgo e1 e2 hr1
      rintro ⟨k,H,v⟩ ⟨g1,g2,g3⟩
      have g1:k≤ls.length:=g1
      have g2:Ext H0 H:=g2
      have g3:coOk H0 ls k H v:=g3
      conv=>whnf
      refine ⟨fun h=>?_,fun h=>?_⟩
      · conv=>whnf
        have h:(k:Int)<ls.length:=h
        have hi:k<ls.length:=by omega
        have hic:k<cs.length:=by rw [hr.1];exact hi
        have hrep:=hr.2 k _ _ (zqc hic) (zqc hi)
        refine ⟨⟨by show (0:Int)≤(k:Int);omega,h⟩,[cs[k]],fun j c hj=>?_,?_⟩
        · match j with
          | 0 =>
            have hj:some cs[k]=some c:=hj
            show cs[(k:Int).toNat*1+0]? = _
            rw [←hj]
            simp [hic]
          | j+1=>simp at hj
        generalize cs[k]=c at hrep ⊢
        have hf:=flat_take hi
        have hl:=flat_le ls (k+1)
        rw [hf,zqf] at hl
        have hlast:∀(E:Env) (H':PH) (v':PV),subE [(25,.slice ls.length cs none),(26,.int .i64 ls.length),(27,.int .i64 (IntKind.i64.wrap ((k:Int)+1))),(6,v')] E→Ext H0 H'→coOk H0 ls (k+1) H' v' →
          ∃s':CoT,(s'.k≤ls.length∧Ext H0 s'.H∧coOk H0 ls s'.k s'.H s'.v)∧subE [(25,.slice ls.length cs none),(26,.int .i64 ls.length),(27,.int .i64 s'.k),(6,s'.v)] E∧H'=s'.H∧ls.length - s'.k<ls.length - k:=by
          intro E H' v' hE hx hy
          rw [w64 (by omega) (by omega)] at hE
          exact ⟨⟨k+1,H',v'⟩,⟨by show k+1≤ls.length;omega,hx,hy⟩,hE,rfl,by show ls.length - (k+1)<ls.length - k;omega⟩
        rcases g3 with ⟨y1,rfl,y3⟩ | ⟨y1,id,cap,o,rfl,hid,hob,⟨hcap,htc⟩,htk⟩
        · have hz:ls[k].length=0:=by omega
          rcases hrep with rfl | ⟨id,off,cap,o,rfl,ho,hbytes⟩
          · conv=>whnf
            refine ⟨⟨by show ls[k].length*1≤_;omega,by rw [zqq,Nat.mul_one],allOne _⟩,fun _=>?_,fun h=>absurd (show 0<ls[k].length from h) (by omega)⟩
            conv=>whnf
            exact hlast _ _ _ ⟨rfl,rfl,rfl,rfl,zqv⟩ g2 (.inl ⟨y1,rfl,y3⟩)
          · have ho':=g2.get ho
            conv=>whnf
            ((conv in (_[_]?)=>tactic=>exact ho');(conv=>whnf))
            refine ⟨⟨by show ls[k].length*1≤_;omega,(zqm List.length hbytes).trans (by rw [zqq];exact (Nat.mul_one _).symm),(zqm (List.all · oneP) hbytes).trans (allOne _)⟩,fun _=>?_,fun h=>absurd (show 0<ls[k].length from h) (by omega)⟩
            conv=>whnf
            exact hlast _ _ _ ⟨rfl,rfl,rfl,rfl,zqv⟩ g2 (.inl ⟨y1,rfl,y3⟩)
        · have hfin:∀(ds:List PV),ds=ls[k].map bC→(setCells (((ls.take k).flatten).length*1) ds o.cs).length=cap∧(setCells (((ls.take k).flatten).length*1) ds o.cs).take ((ls.take (k+1)).flatten).length=((ls.take (k+1)).flatten).map bC:=by
            rintro ds rfl
            have hse:setCells (((ls.take k).flatten).length*1) (ls[k].map bC) o.cs=o.cs.take (((ls.take k).flatten).length*1)++ls[k].map bC++o.cs.drop (((ls.take k).flatten).length*1+(ls[k].map bC).length):=setCells_eq _ _ _ (by rw [zqq];omega)
            refine ⟨by rw [setCells_length _ _ _ (by rw [zqq];omega)];exact hcap,?_⟩
            rw [hse,hf,Nat.mul_one,htk,take_pre (by rw [zqf,zqf,zqq,zqq]),List.map_append]
          rcases hrep with rfl | ⟨id2,off2,cap2,o2,rfl,ho,hbytes⟩
          · obtain ⟨f1,f2⟩:=hfin _ rfl
            conv=>whnf
            ((conv in (_[_]?)=>tactic=>exact hob);(conv=>whnf))
            refine ⟨⟨rfl,by show (((ls.take k).flatten).length+ls[k].length)*1≤_;omega,by rw [zqq,Nat.mul_one],allOne _,by show ((ls.take k).flatten).length*1≤_;omega⟩,fun _=>⟨by show (((ls.take k).flatten).length+ls[k].length)*1≤_;omega,?_⟩,fun h=>absurd h (by omega)⟩
            conv=>whnf
            exact hlast _ _ _ ⟨rfl,rfl,rfl,rfl,zqv⟩ (g2.set hid _) (.inr ⟨y1,id,cap,⟨o.T,setCells (((ls.take k).flatten).length*1) (ls[k].map bC) o.cs,o.ver+1⟩,by rw [hf,zqf];rfl,hid,gS hob,⟨f1,htc⟩,f2⟩)
          · obtain ⟨f1,f2⟩:=hfin _ hbytes
            have ho':=g2.get ho
            conv=>whnf
            ((conv in (_[_]?)=>tactic=>exact ho');(conv=>whnf))
            ((conv in (_[_]?)=>tactic=>exact hob);(conv=>whnf))
            refine ⟨⟨rfl,by show (((ls.take k).flatten).length+ls[k].length)*1≤_;omega,(zqm List.length hbytes).trans (by rw [zqq];exact (Nat.mul_one _).symm),(zqm (List.all · oneP) hbytes).trans (allOne _),by show ((ls.take k).flatten).length*1≤_;omega⟩,fun _=>⟨by show (((ls.take k).flatten).length+ls[k].length)*1≤_;omega,?_⟩,fun h=>absurd h (by omega)⟩
            conv=>whnf
            exact hlast _ _ _ ⟨rfl,rfl,rfl,rfl,zqv⟩ (g2.set hid _) (.inr ⟨y1,id,cap,⟨o.T,setCells (((ls.take k).flatten).length*1) (((o2.cs.drop off2).take (ls[k].length*1)).map dem) o.cs,o.ver+1⟩,by rw [hf,zqf];rfl,hid,gS hob,⟨f1,htc⟩,f2⟩)
      · conv=>whnf
        have h:¬(k:Int)<ls.length:=h
        have hkl:k=ls.length:=by omega
        subst hkl
        rcases g3 with ⟨y1,rfl,y3⟩ | ⟨y1,id,cap,o,rfl,y2⟩
        · conv=>whnf
          exact ⟨g2,.inl ⟨y1,rfl,y3⟩⟩
        · conv=>whnf
          exact ⟨g2,.inr ⟨y1,id,cap,o,rfl,y2⟩⟩
theorem c179 (ls:List (List UInt8)) (hn:ls.length≤1099511627776) (ht:ls.flatten.length≤1099511627776) {H0:PH} {cs:List PV} (hr:Reps H0 cs ls):CK prog 179 [.slice ls.length cs none] H0 fun r H'=>r=sl ls.flatten∧H'=H0:=by
 have htake:ls.take ls.length=ls:=List.take_of_length_le (zqn _)
 rcases Nat.eq_zero_or_pos ls.flatten.length with h0 | h0
 ·have hnil:ls.flatten=[]:=List.length_eq_zero_iff.1 h0
  rw [hnil]
  refine CK.nil ((c179x ls hn ht H0 cs hr).mono fun r H' ⟨_,h⟩=>?_)
  rcases h with ⟨_,h1,h2⟩ | ⟨h1,_⟩
  ·exact ⟨h1,h2⟩
  ·omega
 ·refine CK.frz (c179x ls hn ht H0 cs hr) fun r H' ⟨⟨ext,he⟩,h⟩=>?_
  rcases h with ⟨h1,_⟩ | ⟨_,id,cap,o,h1,h2,h3,⟨h4,h5⟩,h6⟩
  ·omega
  rw [htake] at h1 h6
  refine ⟨ext,id,cap,o,he,h1,h2,h3,by rw [zqq];omega,by rw [zqq];exact h6,?_⟩
  exact List.all_eq_true.2 fun x hx=>by
   obtain ⟨b,_,rfl⟩:=List.mem_map.1 hx
   rfl
theorem dropN_app (cs:List UInt8) (rest:List PV) {i:Nat} {x:UInt8} (h:cs[i]? = some x):dropN (0+(i:Int).toNat*1) (cs.map bC++rest)=bC x::((cs.drop (i+1)).map bC++rest):=by
 have hl:=(zq1.1 h).1
 rw [dropN_eq]
 simp only [Nat.zero_add,Int.toNat_natCast,Nat.mul_one]
 rw [List.drop_append_of_le_length (by rw [zqq];omega),←List.map_drop,List.drop_eq_getElem_cons hl,List.map_cons,List.cons_append]
 congr 2
 exact (zq1.1 h).2
theorem setCells_app (cs:List UInt8) (rest:List PV) (i:Nat) (x:UInt8) (h:i<cs.length):setCells i [bC x] (cs.map bC++rest)=(cs.set i x).map bC++rest:=by
 induction cs generalizing i with
 | nil=>simp at h
 | cons y cs ih =>
  cases i with
  | zero=>simp [setCells]
  | succ i =>
   have:=ih i (by simpa using h)
   simp [setCells,this]
def D182:Draw:={ imp:=[13,15],win:=[(2,0,1),(3,0,1),(14,1,1),(15,1,1)] }
structure RevB where
 i:Nat
 cur:List UInt8
 v:Nat
theorem c182 (id n cap:Nat) (l:List UInt8) (rest:List PV) (T v:Nat) (H:PH) (hid:H[id]? = some ⟨T,l.map bC++rest,v⟩) (hn:n=l.length) (hs:l.length≤1099511627776) :
  CK prog 182 [.sref id 0 n cap] H fun r H'=>r=.tup []∧∃v',H'=H.set id ⟨T,l.reverse.map bC++rest,v'⟩:=by
 subst hn
 (refine fnS (imm:=imm182) ttB_ok func182 ?_;(conv=>whnf))
 refine lO RevB (fun x=>[(0,.sref id 0 l.length cap),(2,.int .i64 x.i),(3,.int .i64 ((l.length:Int) - 1 - x.i))]) (fun x=>H.set id ⟨T,x.cur.map bC++rest,x.v⟩)
  (fun x=>x.i≤l.length∧x.cur.length=l.length∧∀k,k<l.length→x.cur[k]? = if k<x.i∨l.length - x.i≤k then l[l.length - 1 - k]? else l[k]?) (fun x=>l.length - x.i)
  ⟨⟨0,l,v⟩,⟨Nat.zero_le _,rfl,fun k hk=>by rw [zqo (by show ¬(k<0∨l.length - 0≤k);omega)]⟩,⟨rfl,rfl,?_,zqv⟩,(set_self hid).symm⟩ ?_
 ·show PV.int _ (IntKind.i64.wrap ((l.length:Int) - 1))=PV.int _ ((l.length:Int) - 1 - 0)
  rw [w64 (by omega) (by omega)];simp
 rintro ⟨i,cur,v⟩ ⟨h1,h2,h3⟩
 conv=>whnf
 refine ⟨fun h4=>?_,fun h4=>?_⟩
 ·conv=>whnf
  have h4:(i:Int)<(l.length:Int) - 1 - i:=h4
  have h2:cur.length=l.length:=h2
  have hi:i<cur.length:=by omega
  have hj:cur.length - 1 - i<cur.length:=by omega
  refine dO2 D182 [H.set id ⟨T,cur.map bC++rest,v⟩,H.set id ⟨T,(cur.set i cur[cur.length - 1 - i]).map bC++rest,v+1⟩,H.set id ⟨T,((cur.set i cur[cur.length - 1 - i]).set (cur.length - 1 - i) cur[i]).map bC++rest,v+1+1⟩] (by kernel_rfl) rfl trivial ?_
  have g0:=gS (o':=⟨T,cur.map bC++rest,v⟩) hid
  have hlen:H.length=H.length:=rfl
  conv=>whnf
  iterate 2 (refine dS ?_;(conv=>whnf))
  iterate 2 (refine dS2 ?_;(conv=>whnf))
  iterate 2 (refine dS ?_;(conv=>whnf))
  apply exA
  ·conv=>whnf
   refine ⟨⟨by omega,by omega⟩,rfl,rfl,zqv⟩
  conv=>whnf
  apply exA
  ·conv=>whnf
   ((conv in (_[_]?)=>tactic=>exact g0);(conv=>whnf))
   have e:((l.length:Int) - 1 - i).toNat=cur.length - 1 - i:=by omega
   have hL:dropN (0+((l.length:Int) - 1 - i).toNat*1) (cur.map bC++rest)=bC cur[cur.length - 1 - i]::((cur.drop (cur.length - 1 - i+1)).map bC++rest):=by rw [e];exact dropN_app cur rest (zqc hj)
   generalize hd:dropN _ _=L
   rw [show L=_ from hd.symm.trans hL]
   conv=>whnf
   exact ⟨rfl,rfl,zqv⟩
  conv=>whnf
  iterate 2 (refine dS ?_;(conv=>whnf))
  apply exA
  ·conv=>whnf
   refine ⟨⟨by show (0:Int)≤(i:Int);omega,by show (i:Int)<l.length;omega⟩,rfl,rfl,zqv⟩
  conv=>whnf
  apply exA
  ·conv=>whnf
   ((conv in (_[_]?)=>tactic=>exact g0);(conv=>whnf))
   ((conv in (dropN _ _)=>tactic=>exact (dropN_app cur rest (zqc hi)));(conv=>whnf))
   exact ⟨rfl,rfl,zqv⟩
  conv=>whnf
  apply exA
  ·conv=>whnf
   refine ⟨⟨by show (0:Int)≤(i:Int);omega,by show (i:Int)<l.length;omega⟩,rfl,rfl,zqv⟩
  conv=>whnf
  apply exA
  ·conv=>whnf
   ((conv in (_[_]?)=>tactic=>exact g0);(conv=>whnf))
   ((conv in (Nat.ble _ _)=>tactic=>exact (show Nat.ble (0+(i:Int).toNat*1+1) (cur.map bC++rest).length=true by rw [Nat.ble_eq];simp;omega));(conv=>whnf))
   refine ⟨rfl,?_,zqv⟩
   show (H.set id ⟨T,cur.map bC++rest,v⟩).set id ⟨T,setCells (0+(i:Int).toNat*1) [bC cur[cur.length - 1 - i]] (cur.map bC++rest),v+1⟩=H.set id ⟨T,(cur.set i cur[cur.length - 1 - i]).map bC++rest,v+1⟩
   rw [List.set_set,←setCells_app _ _ _ _ hi]
   simp
  conv=>whnf
  apply exA
  ·conv=>whnf
   refine ⟨⟨by omega,by omega⟩,rfl,rfl,zqv⟩
  conv=>whnf
  apply exA
  ·conv=>whnf
   ((conv in (_[_]?)=>tactic=>exact (gS (o':=⟨T,(cur.set i cur[cur.length - 1 - i]).map bC++rest,v+1⟩) hid));(conv=>whnf))
   ((conv in (Nat.ble _ _)=>tactic=>exact (show Nat.ble (0+((l.length:Int) - 1 - i).toNat*1+1) ((cur.set i cur[cur.length - 1 - i]).map bC++rest).length=true by rw [Nat.ble_eq];simp;omega));(conv=>whnf))
   refine ⟨rfl,?_,zqv⟩
   show (H.set id ⟨T,(cur.set i cur[cur.length - 1 - i]).map bC++rest,v+1⟩).set id ⟨T,setCells (0+((l.length:Int) - 1 - i).toNat*1) [bC cur[i]] ((cur.set i cur[cur.length - 1 - i]).map bC++rest),v+1+1⟩=H.set id _
   have e:0+((l.length:Int) - 1 - i).toNat*1=cur.length - 1 - i:=by omega
   rw [List.set_set,e,setCells_app (cur.set i cur[cur.length - 1 - i]) rest (cur.length - 1 - i) cur[i] (by simpa using hj)]
  conv=>whnf
  refine ⟨⟨i+1,(cur.set i cur[cur.length - 1 - i]).set (cur.length - 1 - i) cur[i],v+1+1⟩,⟨?_,?_,?_⟩,⟨rfl,?_,?_,zqv⟩,rfl,?_⟩
  ·show i+1≤l.length;omega
  ·show List.length _=_;simp;exact h2
  ·intro k hk
   show ((cur.set i _).set _ _)[k]? = if k<i+1∨l.length - (i+1)≤k then _ else _
   have h3k:=h3 k hk
   have h3k:cur[k]? = if k<i∨l.length - i≤k then l[l.length - 1 - k]? else l[k]?:=h3k
   have h3i:cur[i]? = if i<i∨l.length - i≤i then l[l.length - 1 - i]? else l[i]?:=h3 i (by omega)
   have h3j:cur[cur.length - 1 - i]? = if cur.length - 1 - i<i∨l.length - i≤cur.length - 1 - i then l[l.length - 1 - (cur.length - 1 - i)]? else l[cur.length - 1 - i]?:=h3 _ (by omega)
   rw [zqo (by omega),zqc hi] at h3i
   rw [zqo (by omega),zqc hj] at h3j
   simp only [List.getElem?_set]
   by_cases e1:cur.length - 1 - i=k
   ·subst e1
    rw [zqp rfl,zqp (by simpa using hj),zqp (by omega),h3i]
    congr 1;omega
   ·rw [zqo e1]
    by_cases e2:i=k
    ·subst e2
     rw [zqp rfl,zqp hi,zqp (by omega),h3j]
     congr 1;omega
    ·rw [zqo e2,h3k]
     by_cases e3:k<i∨l.length - i≤k
     ·rw [zqp e3,zqp (by omega)]
     ·rw [zqo e3,zqo (by omega)]
  ·show PV.int _ (IntKind.i64.wrap ((i:Int)+1))=PV.int _ _
   rw [w64 (by omega) (by omega)];simp
  ·show PV.int _ (IntKind.i64.wrap ((l.length:Int) - 1 - i - 1))=PV.int _ ((l.length:Int) - 1 - ((i+1:Nat):Int))
   rw [w64 (by omega) (by omega)];congr 1;omega
  ·show l.length - (i+1)<l.length - i
   omega
 ·conv=>whnf
  have h2:cur.length=l.length:=h2
  have h4:¬(i:Int)<(l.length:Int) - 1 - i:=h4
  have h1:i≤l.length:=h1
  refine ⟨rfl,v,?_⟩
  have hc:cur=l.reverse:=by
   apply List.ext_getElem?
   intro k
   rcases Nat.lt_or_ge k l.length with hk | hk
   ·have h3k:cur[k]? = if k<i∨l.length - i≤k then l[l.length - 1 - k]? else l[k]?:=h3 k hk
    rw [h3k,List.getElem?_reverse hk]
    by_cases e3:k<i∨l.length - i≤k
    ·rw [zqp e3]
    ·rw [zqo e3];congr 1;omega
   ·rw [List.getElem?_eq_none (by omega),List.getElem?_eq_none (by simpa using hk)]
  show H.set id ⟨T,cur.map bC++rest,v⟩=_
  rw [hc]
theorem u8w (n:Nat):IntKind.u8.wrap (n:Int)=((UInt8.ofNat n).toNat:Int):=by
 rw [UInt8.toNat_ofNat']
 simp [IntKind.wrap,IntKind.signed,IntKind.bits]
theorem shr8 (n:Nat):ishr .i64 (n:Int) 8=((n / 256:Nat):Int):=by
 show Int.fdiv (n:Int) (2 ^ (min (Int.toNat 8) 64))=_
 rw [show (2:Int) ^ (min (Int.toNat 8) 64)=256 from rfl,Int.fdiv_eq_ediv_of_nonneg _ (by decide)]
 omega
def lenB (n:Nat):List UInt8:=if n<128 then [UInt8.ofNat n] else if n≤255 then [129,UInt8.ofNat n] else [130,UInt8.ofNat (n / 256),UInt8.ofNat n]
theorem lenB_len (n:Nat):(lenB n).length≤3:=by unfold lenB;split <;> (try split) <;> simp
theorem c180 (n:Nat) (hn:n≤1099511627776) (H:PH):CK prog 180 [.int .i64 n] H fun r H'=>r=.slice (lenB n).length ((lenB n).map bC) (some 5)∧H'=H:=by
 (refine fnS (imm:=imm180) ttB_ok func180 ?_;(conv=>whnf))
 refine ⟨fun h=>?_,fun h=>?_⟩
 ·conv=>whnf
  have h:(n:Int)<128:=h
  have e:lenB n=[UInt8.ofNat n]:=by unfold lenB;rw [zqp (by omega)]
  rw [e]
  refine ⟨?_,rfl⟩
  show PV.slice 1 [PV.int .u8 (IntKind.u8.wrap (n:Int))] (some 5)=PV.slice 1 [PV.int .u8 ((UInt8.ofNat n).toNat:Int)] (some 5)
  rw [u8w]
 ·conv=>whnf
  have h:¬(n:Int)<128:=h
  refine ⟨fun h2=>?_,fun h2=>?_⟩
  ·conv=>whnf
   have h2:(n:Int)≤255:=h2
   have e:lenB n=[129,UInt8.ofNat n]:=by unfold lenB;rw [zqo (by omega),zqp (by omega)]
   rw [e]
   refine ⟨?_,rfl⟩
   show PV.slice 2 [PV.int .u8 129,PV.int .u8 (IntKind.u8.wrap (n:Int))] (some 5)=PV.slice 2 [PV.int .u8 129,PV.int .u8 ((UInt8.ofNat n).toNat:Int)] (some 5)
   rw [u8w]
  ·conv=>whnf
   have h2:¬(n:Int)≤255:=h2
   have e:lenB n=[130,UInt8.ofNat (n / 256),UInt8.ofNat n]:=by unfold lenB;rw [zqo (by omega),zqo (by omega)]
   rw [e]
   refine ⟨by decide,?_⟩
   conv=>whnf
   refine ⟨?_,rfl⟩
   show PV.slice 3 [PV.int .u8 130,PV.int .u8 (IntKind.u8.wrap (ishr .i64 (n:Int) 8)),PV.int .u8 (IntKind.u8.wrap (n:Int))] (some 5)=PV.slice 3 [PV.int .u8 130,PV.int .u8 ((UInt8.ofNat (n / 256)).toNat:Int),PV.int .u8 ((UInt8.ofNat n).toNat:Int)] (some 5)
   rw [shr8,u8w,u8w]
def wrapB (tag:UInt8) (b:List UInt8):List UInt8:=tag::(lenB b.length++b)
theorem c156 (tag:UInt8) (ls:List (List UInt8)) (hn:ls.length≤1099511627776) (ht:ls.flatten.length≤1099511627000) {H:PH} {cs:List PV} (hr:Reps H cs ls) :
  CK prog 156 [bC tag,.slice ls.length cs none] H fun r H'=>r=sl (wrapB tag ls.flatten)∧H'=H:=by
 (refine fnS (imm:=imm156) ttB_ok func156 ?_;(conv=>whnf))
 refine cO (c179 ls hn (by omega) hr) ?_
 rintro r H' ⟨rfl,rfl⟩
 conv=>whnf
 refine cO (c180 ls.flatten.length (by omega) H') ?_
 rintro r H'' ⟨rfl,rfl⟩
 conv=>whnf
 have hl:=lenB_len ls.flatten.length
 refine cO (c179 [[tag],lenB ls.flatten.length,ls.flatten] (by show 3≤_;omega) (by simp only [zqk,zql,zqf,List.length_cons,List.length_nil];omega) (Reps.sl H'' [[tag],lenB ls.flatten.length,ls.flatten])) ?_
 rintro r H3 ⟨rfl,rfl⟩
 conv=>whnf
 refine ⟨?_,rfl⟩
 show sl [[tag],lenB ls.flatten.length,ls.flatten].flatten=_
 congr 1
 simp [wrapB]
theorem c165 (p:List UInt8) (hp:p.length≤1099511627000) (H:PH):CK prog 165 [sl p] H fun r H'=>r=sl (wrapB 4 p)∧H'=H:=by
 (refine fnS (imm:=imm165) ttB_ok func165 ?_;(conv=>whnf))
 refine cO (c156 4 [p] (by show 1≤_;omega) (by simpa using hp) (Reps.sl H [p])) ?_
 rintro r H' ⟨rfl,rfl⟩
 conv=>whnf
 refine ⟨?_,rfl⟩
 show sl (wrapB 4 [p].flatten)=_
 rw [zqk,zql,List.append_nil]
theorem c181 (p:List UInt8) (hp:p.length≤1099511627000) (H:PH):CK prog 181 [.str p] H fun r H'=>r=sl (wrapB 27 p)∧H'=H:=by
 (refine fnS (imm:=imm181) ttB_ok func181 ?_;(conv=>whnf))
 refine ⟨by omega,?_⟩
 conv=>whnf
 refine cO (c156 27 [p] (by show 1≤_;omega) (by simpa using hp) (Reps.sl H [p])) ?_
 rintro r H' ⟨rfl,rfl⟩
 conv=>whnf
 refine ⟨?_,rfl⟩
 show sl (wrapB 27 [p].flatten)=_
 rw [zqk,zql,List.append_nil]
def le:Nat→Nat→List UInt8
 | 0,_=>[]
 | f+1,n=>if n=0 then [] else UInt8.ofNat n::le f (n / 256)
theorem le_zero (f:Nat):le f 0=[]:=by cases f <;> simp [le]
theorem le_len:∀(f n:Nat),(le f n).length≤f
 | 0,_=>by simp [le]
 | f+1,n=>by
  unfold le
  split
  ·simp
  ·have:=le_len f (n / 256)
   simp;omega
def clampI (n:Int):Nat:=(min (max n 0) 4611686018427387904).toNat
def padB (b:List UInt8):List UInt8:=if b=[]∨128≤(b.getLast?.getD 0).toNat then b++[0] else b
def intB (n:Nat):List UInt8:=(padB (le 9 n)).reverse
structure InS where
 m:Nat
 H:PH
 v:PV
 d:List UInt8
def bOk (H0:PH) (d:List UInt8) (H:PH) (v:PV):Prop :=
 (d=[]∧v=.nilS)∨(d≠[]∧∃id cap T ver rest,v=.sref id 0 d.length cap∧H0.length≤id∧H[id]? = some ⟨T,d.map bC++rest,ver⟩∧d.length+rest.length=cap)
theorem oldPs_bytes:∀(b:List UInt8),oldPs (b.map bC)=true
 | []=>rfl
 | _::b=>oldPs_bytes b
theorem set_app (cs:List UInt8) (rest:List PV) (x:UInt8) (h:0<rest.length):setCells (cs.length*1) [bC x] (cs.map bC++rest)=(cs++[x]).map bC++rest.drop 1:=by
 rw [setCells_eq _ _ _ (by simp;omega),Nat.mul_one]
 rw [List.take_append_of_le_length (by simp),List.take_of_length_le (by simp),List.drop_append,List.drop_of_length_le (by simp)]
 simp
theorem bOk_add {H0 H:PH} {d:List UInt8} {v:PV} (hx:Ext H0 H) (h:bOk H0 d H v) (x:UInt8) (hd:d.length≤100) {E:Env} {K:PV→PH→Prop}
  (hk:∀v' H',Ext H0 H'→bOk H0 (d++[x]) H' v'→(∃id cap,v'=.sref id 0 (d.length+1) cap)→K v' H') :
  (d=[]→∀cap',1≤cap'→K (.sref H.length 0 1 cap') (H++[⟨5,[bC x]++zerosOf [PV.int .u8 0] (cap' - 1),0⟩])) ∧
  (∀id cap T ver rest,v=.sref id 0 d.length cap→H0.length≤id→H[id]? = some ⟨T,d.map bC++rest,ver⟩→d.length+rest.length=cap →
   (d.length+1≤cap→K (.sref id 0 (d.length+1) cap) (H.set id ⟨T,setCells (d.length*1) [bC x] (d.map bC++rest),ver+1⟩)) ∧
   (cap<d.length+1→∀cap',d.length+1≤cap'→K (.sref H.length 0 (d.length+1) cap') (H++[⟨5,((d.map bC++rest).take (d.length*1)).map dem++[bC x]++zerosOf [PV.int .u8 0] (cap' - (d.length+1)),0⟩]))):=by
 have hz:∀n,(zerosOf [PV.int .u8 0] n).length=n:=fun n=>by rw [(zerosOf_get (z:=[PV.int .u8 0]) (sz:=1) rfl (by omega) n).1];omega
 refine ⟨fun h0 cap' hc=>?_,fun id cap T ver rest hv hid ho hcap=>⟨fun hroom=>?_,fun hgrow cap' hc=>?_⟩⟩
 ·subst h0
  exact hk _ _ (hx.push _) (.inr ⟨by simp,H.length,cap',5,0,zerosOf [PV.int .u8 0] (cap' - 1),rfl,hx.len,gL _ _,by rw [hz];simp;omega⟩) ⟨_,_,rfl⟩
 ·have hr:0<rest.length:=by omega
  rw [set_app _ _ _ hr]
  exact hk _ _ (hx.set hid _) (.inr ⟨by simp,id,cap,T,ver+1,rest.drop 1,by rw [zqf];rfl,hid,gS ho,by rw [zqf,List.length_drop];show d.length+1+(rest.length - 1)=cap;omega⟩) ⟨_,_,rfl⟩
 ·have e:((d.map bC++rest).take (d.length*1)).map dem++[bC x]=(d++[x]).map bC:=by
   rw [Nat.mul_one,take_pre (by rw [zqq]),List.map_map,List.map_append];rfl
  rw [e]
  exact hk _ _ (hx.push _) (.inr ⟨by simp,H.length,cap',5,0,_,by rw [zqf];rfl,hx.len,gL _ _,by rw [hz,zqf];show d.length+1+(cap' - (d.length+1))=cap';omega⟩) ⟨_,_,rfl⟩
theorem rep_one {H:PH} {id T v n cap:Nat} {x:List UInt8} {rest:List PV} (hid:H[id]? = some ⟨T,x.map bC++rest,v⟩) (hn:n=x.length):Reps H [.sref id 0 n cap] [x]:=by
 refine ⟨rfl,fun i c b hc hb=>?_⟩
 match i with
 | 0 =>
  simp at hc hb
  subst hc;subst hb;subst hn
  refine .inr ⟨id,0,cap,_,rfl,hid,?_⟩
  show (((x.map bC++rest).drop 0).take (x.length*1)).map dem=_
  rw [List.drop_zero,Nat.mul_one,take_pre (by rw [zqq]),List.map_map];rfl
 | i+1=>simp at hc
theorem c158x (n:Int) (H0:PH):CK prog 158 [.int .i64 n] H0 fun r H'=>r=sl (wrapB 2 (intB (clampI n)))∧∃ext,H'=H0++ext:=by
 (refine fnS (imm:=imm158) ttB_ok func158 ?_;(conv=>whnf))
 have hN:min (max n 0) 4611686018427387904=(clampI n:Int):=by unfold clampI;omega
 have hN2:clampI n≤4611686018427387904:=by unfold clampI;omega
 refine lO InS (fun x=>[(0,.int .i64 x.m),(3,x.v)]) (fun x=>x.H)
  (fun x=>∃f,x.d++le f x.m=le 9 (clampI n)∧x.m<256 ^ f∧x.m≤4611686018427387904∧Ext H0 x.H∧bOk H0 x.d x.H x.v) (fun x=>x.m)
  ⟨⟨clampI n,H0,.nilS,[]⟩,⟨9,rfl,by show clampI n<256 ^ 9;omega,hN2,Ext.refl _,.inl ⟨rfl,rfl⟩⟩,⟨zqm (PV.int .i64) hN,rfl,zqv⟩,rfl⟩ ?_
 rintro ⟨m,H,v,d⟩ ⟨f,g1,g2,g3,g4,g5⟩
 have g1:d++le f m=le 9 (clampI n):=g1
 have g2:m<256 ^ f:=g2
 have g3:m≤4611686018427387904:=g3
 have g4:Ext H0 H:=g4
 have g5:bOk H0 d H v:=g5
 have hd9:d.length≤9:=by
  have:=le_len 9 (clampI n)
  rw [←g1,zqf] at this
  omega
 conv=>whnf
 refine ⟨fun h=>?_,fun h=>?_⟩
 ·conv=>whnf
  have h:(m:Int) > 0:=h
  have hf:∃f',f=f'+1:=by
   cases f with
   | zero=>simp at g2;omega
   | succ f=>exact ⟨f,rfl⟩
  obtain ⟨f,rfl⟩:=hf
  have hle:le (f+1) m=UInt8.ofNat m::le f (m / 256):=by
   conv=>lhs;unfold le
   rw [zqo (by omega)]
  have hlast:∀(E:Env) (H':PH) (v':PV),subE [(0,.int .i64 (ishr .i64 (m:Int) 8)),(3,v')] E→Ext H0 H'→bOk H0 (d++[UInt8.ofNat m]) H' v' →
    ∃s':InS,(∃f,s'.d++le f s'.m=le 9 (clampI n)∧s'.m<256 ^ f∧s'.m≤4611686018427387904∧Ext H0 s'.H∧bOk H0 s'.d s'.H s'.v)∧subE [(0,.int .i64 s'.m),(3,s'.v)] E∧H'=s'.H∧s'.m<m:=by
   intro E H' v' hE hx hb
   rw [shr8] at hE
   refine ⟨⟨m / 256,H',v',d++[UInt8.ofNat m]⟩,⟨f,?_,?_,by show m / 256≤_;omega,hx,hb⟩,hE,rfl,by show m / 256<m;omega⟩
   ·show d++[UInt8.ofNat m]++le f (m / 256)=_
    rw [←g1,hle];simp
   ·show m / 256<256 ^ f
    rw [Nat.div_lt_iff_lt_mul (by omega),←Nat.pow_succ];exact g2
  obtain ⟨A,B⟩:=bOk_add (E:=[]) (K:=fun v' H'=>Ext H0 H'∧bOk H0 (d++[UInt8.ofNat m]) H' v') g4 g5 (UInt8.ofNat m) (by omega) fun v' H' a b _=>⟨a,b⟩
  have hbw:PV.int .u8 (IntKind.u8.wrap (m:Int))=bC (UInt8.ofNat m):=zqm (PV.int .u8) (u8w m)
  rcases g5 with ⟨rfl,rfl⟩ | ⟨y1,id,cap,T,ver,rest,rfl,y2,y3,y4⟩
  ·conv=>whnf
   rw [hbw]
   refine ⟨⟨by show 1*1≤_;omega,rfl,rfl⟩,fun h=>absurd h (by omega),fun _ cap' hc=>?_⟩
   conv=>whnf
   refine ⟨by decide,?_⟩
   conv=>whnf
   exact hlast _ _ _ ⟨rfl,rfl,zqv⟩ (A rfl cap' hc).1 (A rfl cap' hc).2
  ·conv=>whnf
   rw [hbw]
   ((conv in (_[_]?)=>tactic=>exact y3);(conv=>whnf))
   obtain ⟨B1,B2⟩:=B id cap T ver rest rfl y2 y3 y4
   refine ⟨⟨rfl,by show (d.length+1)*1≤_;omega,rfl,rfl,by show d.length*1≤(d.map bC++rest).length;simp⟩,fun hroom=>⟨by show (d.length+1)*1≤(d.map bC++rest).length;rw [zqf,zqq];omega,?_⟩,fun hgrow cap' hc=>?_⟩
   ·conv=>whnf
    refine ⟨by decide,?_⟩
    conv=>whnf
    exact hlast _ _ _ ⟨rfl,rfl,zqv⟩ (B1 hroom).1 (B1 hroom).2
   ·conv=>whnf
    refine ⟨by decide,?_⟩
    conv=>whnf
    exact hlast _ _ _ ⟨rfl,rfl,zqv⟩ (B2 hgrow cap' hc).1 (B2 hgrow cap' hc).2
 ·conv=>whnf
  have h:¬(m:Int) > 0:=h
  have hm:m=0:=by omega
  subst hm
  rw [le_zero,List.append_nil] at g1
  have k4:Ext H0 H:=g4
  have k5:bOk H0 d H v:=g5
  have k1:d=le 9 (clampI n):=g1
  clear g1 g2 g3 g4 g5 h
  obtain ⟨A,B⟩:=bOk_add (H0:=H0) (H:=H) (d:=d) (v:=v) (E:=[]) (K:=fun v' H'=>Ext H0 H'∧bOk H0 (d++[0]) H' v') k4 k5 0 (by omega) fun v' H' a b _=>⟨a,b⟩
  rcases k5 with ⟨rfl,rfl⟩ | ⟨y1,id,cap,T,ver,rest,rfl,y2,y3,y4⟩
  ·have hpad:padB (le 9 (clampI n))=[0]:=by rw [←k1];rfl
   conv=>whnf
   refine ⟨fun _=>?_,fun h=>absurd rfl h⟩
   conv=>whnf
   refine ⟨⟨by show 1*1≤_;omega,rfl,rfl⟩,fun h=>absurd h (by omega),fun _ cap' hc=>?_⟩
   conv=>whnf
   refine cO (c182 H.length 1 cap' [0] (zerosOf [PV.int .u8 0] (cap' - 1)) 5 0 (H++[PObj.mk 5 ([bC 0]++zerosOf [PV.int .u8 0] (cap' - 1)) 0]) (gL _ _) (by simp) (by first | omega | (simp;omega) | simp)) ?_
   rintro r H' ⟨rfl,v',rfl⟩
   conv=>whnf
   refine cO (c156 2 [([0]).reverse] (cs:=[.sref H.length 0 (1) cap']) (by show 1≤_;omega) (by first | omega | (simp;omega) | simp) (rep_one (gS (gL _ _)) (by simp))) ?_
   rintro r H'' ⟨rfl,rfl⟩
   conv=>whnf
   refine ⟨?_,(k4.push _).set k4.len _⟩
   show sl (wrapB 2 [([0]).reverse].flatten)=sl (wrapB 2 (intB (clampI n)))
   rw [zqk,zql,List.append_nil]
   unfold intB
   rw [hpad]
  ·have hdl:0<d.length:=List.length_pos_iff.2 y1
   have hlst:d[d.length - 1]? = some (d.getLast?.getD 0):=by
    rw [List.getLast?_eq_getElem?,zqc (by omega)];rfl
   have hpad:padB (le 9 (clampI n))=if 128≤(d.getLast?.getD 0).toNat then d++[0] else d:=by
    rw [←k1];unfold padB
    simp only [y1,false_or]
   have hidx:(0+(((d.length:Int) - 1)).toNat*1)=0+((d.length - 1:Nat):Int).toNat*1:=by omega
   obtain ⟨B1,B2⟩:=B id cap T ver rest rfl y2 y3 y4
   conv=>whnf
   refine ⟨fun h=>absurd (show (d.length:Int)=0 from h) (by omega),fun _=>?_⟩
   conv=>whnf
   have hw1:IntKind.i64.wrap ((d.length:Int) - 1)=(d.length:Int) - 1:=by rw [w64 (by omega) (by omega)]
   refine ⟨⟨by show 0≤IntKind.i64.wrap ((d.length:Int) - 1);rw [hw1];omega,by show IntKind.i64.wrap ((d.length:Int) - 1)<d.length;rw [hw1];omega⟩,?_⟩
   conv=>whnf
   ((conv in (_[_]?)=>tactic=>exact y3);(conv=>whnf))
   rw [hw1]
   ((conv in (dropN _ _)=>tactic=>exact (show dropN (0+((d.length:Int) - 1).toNat*1) (d.map bC++rest)=bC (d.getLast?.getD 0)::((d.drop (d.length - 1+1)).map bC++rest) by rw [hidx];exact dropN_app d rest hlst));(conv=>whnf))
   refine ⟨fun h128=>?_,fun h128=>?_⟩
   ·have h128:(128:Int)≤((d.getLast?.getD 0).toNat:Int):=h128
    rw [zqp (by omega)] at hpad
    conv=>whnf
    ((conv in (_[_]?)=>tactic=>exact y3);(conv=>whnf))
    refine ⟨⟨rfl,by show (d.length+1)*1≤_;omega,rfl,rfl,by show d.length*1≤(d.map bC++rest).length;simp⟩,fun hroom=>⟨by show (d.length+1)*1≤(d.map bC++rest).length;rw [zqf,zqq];omega,?_⟩,fun hgrow cap' hc=>?_⟩
    ·conv=>whnf
     have hs:=set_app d rest 0 (by omega)
     have hid2:(H.set id (PObj.mk T (setCells (d.length*1) [bC 0] (d.map bC++rest)) (ver+1)))[id]? = some ⟨T,(d++[0]).map bC++rest.drop 1,ver+1⟩:=by rw [hs];exact gS y3
     refine cO (c182 id (d.length+1) cap (d++[0]) (rest.drop 1) T (ver+1) (H.set id (PObj.mk T (setCells (d.length*1) [bC 0] (d.map bC++rest)) (ver+1))) hid2 (by simp) (by first | omega | (simp;omega) | simp)) ?_
     rintro r H' ⟨rfl,v',rfl⟩
     conv=>whnf
     refine cO (c156 2 [((d++[0])).reverse] (cs:=[.sref id 0 ((d.length+1)) cap]) (by show 1≤_;omega) (by first | omega | (simp;omega) | simp) (rep_one (gS hid2) (by simp))) ?_
     rintro r H'' ⟨rfl,rfl⟩
     conv=>whnf
     refine ⟨?_,(k4.set y2 _).set y2 _⟩
     show sl (wrapB 2 [((d++[0])).reverse].flatten)=sl (wrapB 2 (intB (clampI n)))
     rw [zqk,zql,List.append_nil]
     unfold intB
     rw [hpad]
    ·conv=>whnf
     have hz:((d.map bC++rest).take (d.length*1)).map dem++[bC 0]=(d++[0]).map bC:=by
      rw [Nat.mul_one,take_pre (by rw [zqq]),List.map_map,List.map_append];rfl
     have hid2:(H++[PObj.mk 5 (((d.map bC++rest).take (d.length*1)).map dem++[bC 0]++zerosOf [PV.int .u8 0] (cap' - (d.length+1))) 0])[H.length]? = some ⟨5,(d++[0]).map bC++zerosOf [PV.int .u8 0] (cap' - (d.length+1)),0⟩:=by rw [hz];exact gL _ _
     refine cO (c182 H.length (d.length+1) cap' (d++[0]) (zerosOf [PV.int .u8 0] (cap' - (d.length+1))) 5 0 (H++[PObj.mk 5 (((d.map bC++rest).take (d.length*1)).map dem++[bC 0]++zerosOf [PV.int .u8 0] (cap' - (d.length+1))) 0]) hid2 (by simp) (by first | omega | (simp;omega) | simp)) ?_
     rintro r H' ⟨rfl,v',rfl⟩
     conv=>whnf
     refine cO (c156 2 [((d++[0])).reverse] (cs:=[.sref H.length 0 ((d.length+1)) cap']) (by show 1≤_;omega) (by first | omega | (simp;omega) | simp) (rep_one (gS hid2) (by simp))) ?_
     rintro r H'' ⟨rfl,rfl⟩
     conv=>whnf
     refine ⟨?_,(k4.push _).set k4.len _⟩
     show sl (wrapB 2 [((d++[0])).reverse].flatten)=sl (wrapB 2 (intB (clampI n)))
     rw [zqk,zql,List.append_nil]
     unfold intB
     rw [hpad]
   ·have h128:¬(128:Int)≤((d.getLast?.getD 0).toNat:Int):=h128
    rw [zqo (by omega)] at hpad
    conv=>whnf
    refine cO (c182 id d.length cap d rest T ver H y3 (by simp) (by first | omega | (simp;omega) | simp)) ?_
    rintro r H' ⟨rfl,v',rfl⟩
    conv=>whnf
    refine cO (c156 2 [(d).reverse] (cs:=[.sref id 0 (d.length) cap]) (by show 1≤_;omega) (by first | omega | (simp;omega) | simp) (rep_one (gS y3) (by simp))) ?_
    rintro r H'' ⟨rfl,rfl⟩
    conv=>whnf
    refine ⟨?_,k4.set y2 _⟩
    show sl (wrapB 2 [(d).reverse].flatten)=sl (wrapB 2 (intB (clampI n)))
    rw [zqk,zql,List.append_nil]
    unfold intB
    rw [hpad]
theorem c158 (n:Int):Pure prog 158 [.int .i64 n] (sl (wrapB 2 (intB (clampI n)))):=Pure.of_gc (oldPs_bytes _) (c158x n)
def ttGm:TT:=[(3,⟨.int .i64,1,8,[.int .i64 0]⟩),(4,⟨.bool,1,1,[.bool false]⟩),(5,⟨.int .u8,1,1,[.int .u8 0]⟩),(9,⟨.str,1,16,[.str []]⟩),(36,⟨.strct [(9,0),(9,1)],2,32,[.str [],.str []]⟩),(26,⟨.int .i64,1,8,[.int .i64 0]⟩),(253,⟨.slice 3,1,24,[.slice 0 [] (some 3)]⟩),(25,⟨.slice 5,1,24,[.slice 0 [] (some 5)]⟩),(51,⟨.strct [(36,0),(36,2),(3,4),(3,5)],6,80,[.str [],.str [],.str [],.str [],.int .i64 0,.int .i64 0]⟩),(53,⟨.strct [(36,0),(3,2),(25,3)],4,64,[.str [],.str [],.int .i64 0,.slice 0 [] (some 5)]⟩),(55,⟨.strct [(53,0),(25,4),(36,5),(3,7),(3,8)],9,136,[.str [],.str [],.int .i64 0,.slice 0 [] (some 5),.slice 0 [] (some 5),.str [],.str [],.int .i64 0,.int .i64 0]⟩),(57,⟨.strct [(36,0),(53,2),(25,6)],7,120,[.str [],.str [],.str [],.str [],.int .i64 0,.slice 0 [] (some 5),.slice 0 [] (some 5)]⟩),(59,⟨.strct [(53,0),(25,4)],5,88,[.str [],.str [],.int .i64 0,.slice 0 [] (some 5),.slice 0 [] (some 5)]⟩),(61,⟨.strct [(26,0),(3,1)],2,16,[.int .i64 0,.int .i64 0]⟩),(63,⟨.strct [(3,0),(51,1),(55,7),(57,16),(59,23),(61,28)],30,448,[.int .i64 0,.str [],.str [],.str [],.str [],.int .i64 0,.int .i64 0,.str [],.str [],.int .i64 0,.slice 0 [] (some 5),.slice 0 [] (some 5),.str [],.str [],.int .i64 0,.int .i64 0,.str [],.str [],.str [],.str [],.int .i64 0,.slice 0 [] (some 5),.slice 0 [] (some 5),.str [],.str [],.int .i64 0,.slice 0 [] (some 5),.slice 0 [] (some 5),.int .i64 0,.int .i64 0]⟩),(192,⟨.slice 25,1,24,[.slice 0 [] (some 25)]⟩)]
theorem ttGm_ok:ttOk prog ttGm=true:=by kernel_rfl
def imm162:List Nat:=[]
def imm155:List Nat:=[]
def imm161:List Nat:=[]
def imm160:List Nat:=[1]
def imm154:List Nat:=[]
def imm183:List Nat:=[1]
def imm163:List Nat:=[1]
def imm117:List Nat:=[1]
def imm72:List Nat:=[1]
def imm118:List Nat:=[]
def imm119:List Nat:=[1]
def imm157:List Nat:=[1]
def imm164:List Nat:=[1]
def inZ (n lo hi:Int):Bool:=decide (lo≤n)&&decide (n≤hi)
def slo (b:List UInt8) (o:Option Nat):PV:=.slice b.length (b.map bC) o
theorem c162 (n lo hi:Int):Pure prog 162 [.int .i64 n,.int .i64 lo,.int .i64 hi] (.bool (inZ n lo hi)):=by
 intro H
 (refine fnS (imm:=imm162) ttGm_ok func162 ?_;(conv=>whnf))
 unfold inZ
 refine ⟨fun h=>?_,fun h=>?_⟩
 ·conv=>whnf
  have h:n ≥ lo:=h
  rw [zqe (show lo≤n by omega)]
  refine ⟨fun h2=>?_,fun h2=>?_⟩
  ·conv=>whnf
   rw [zqe h2]
   exact ⟨rfl,rfl⟩
  ·conv=>whnf
   rw [zqd h2]
   exact ⟨rfl,rfl⟩
 ·conv=>whnf
  have h:¬n ≥ lo:=h
  rw [zqd (show ¬lo≤n by omega)]
  exact ⟨rfl,rfl⟩
theorem c155 (n:Int):Pure prog 155 [.int .i64 n] (.bool (inZ n 0 1073741824)):=by
 intro H
 (refine fnS (imm:=imm155) ttGm_ok func155 ?_;(conv=>whnf))
 (refine cP ((c162 n 0 1073741824)) ?_;try (conv=>whnf))
 exact ⟨rfl,rfl⟩
theorem c161 (n:Nat) (cs:List PV) (o:Option Nat):Pure prog 161 [.slice n cs o] (.bool (inZ n 1 800)):=by
 intro H
 (refine fnS (imm:=imm161) ttGm_ok func161 ?_;(conv=>whnf))
 (refine cP ((c162 n 1 800)) ?_;try (conv=>whnf))
 exact ⟨rfl,rfl⟩
theorem c154 (l:List Int) (hl:l.length≤1000):Pure prog 154 [.slice l.length (l.map (.int .i64)) none] (.bool (l.all fun n=>inZ n 0 1073741824)):=by
 intro H
 (refine fnS (imm:=imm154) ttGm_ok func154 ?_;(conv=>whnf))
 refine lO CoS (fun x=>[(5,.slice l.length (l.map (.int .i64)) none),(6,.int .i64 l.length),(7,.int .i64 x.k)]) (fun _=>H) (fun x=>x.k≤l.length∧(l.take x.k).all (fun n=>inZ n 0 1073741824)=true) (fun x=>l.length - x.k)
  ⟨⟨0⟩,⟨Nat.zero_le _,rfl⟩,⟨rfl,rfl,rfl,zqv⟩,rfl⟩ ?_
 rintro ⟨k⟩ ⟨hk,hall⟩
 have hk:k≤l.length:=hk
 have hall:(l.take k).all (fun n=>inZ n 0 1073741824)=true:=hall
 conv=>whnf
 refine ⟨fun h=>?_,fun h=>?_⟩
 ·conv=>whnf
  have h:(k:Int)<l.length:=h
  have hi:k<l.length:=by omega
  refine ⟨⟨by show (0:Int)≤(k:Int);omega,h⟩,[.int .i64 l[k]],fun j c hj=>?_,?_⟩
  ·match j with
   | 0 =>
    have hj:some (PV.int .i64 l[k])=some c:=hj
    show (l.map (PV.int .i64))[(k:Int).toNat*1+0]? = _
    rw [←hj]
    simp [hi]
   | j+1=>simp at hj
  conv=>whnf
  refine cP (c162 l[k] 0 1073741824) ?_
  cases hb:inZ l[k] 0 1073741824
  ·conv=>whnf
   refine ⟨?_,rfl⟩
   have:(l.all fun n=>inZ n 0 1073741824)=false:=by
    cases hc:(l.all fun n=>inZ n 0 1073741824) with
    | false=>rfl
    | true=>rw [List.all_eq_true.1 hc _ (List.getElem_mem hi)] at hb;cases hb
   rw [this];rfl
  ·conv=>whnf
   refine ⟨⟨k+1⟩,⟨by show k+1≤l.length;omega,?_⟩,⟨rfl,rfl,?_,zqv⟩,rfl,by show l.length - (k+1)<l.length - k;omega⟩
   ·show (l.take (k+1)).all (fun n=>inZ n 0 1073741824)=true
    rw [List.take_succ_eq_append_getElem hi,List.all_append,hall]
    simp [hb]
   ·show PV.int _ (IntKind.i64.wrap ((k:Int)+1))=PV.int _ ((k+1:Nat):Int)
    rw [w64 (by omega) (by omega)];rfl
 ·conv=>whnf
  have h:¬(k:Int)<l.length:=h
  rw [List.take_of_length_le (by omega)] at hall
  rw [hall]
  exact ⟨rfl,rfl⟩
def tickB (r n:List UInt8) (kv:Int) (bl:Nat):Bool:=isPrincB r n&&inZ kv 1 255&&inZ bl 1 800
theorem c160 (r n:List UInt8) (kv:Int) (b:List UInt8) (o:Option Nat) (hr:r.length≤1099511627775) (hn:n.length≤1099511627775) :
  Pure prog 160 [.agg [.str r,.str n,.int .i64 kv,slo b o]] (.bool (tickB r n kv b.length)):=by
 intro H
 (refine fnS (imm:=imm160) ttGm_ok func160 ?_;(conv=>whnf))
 refine cP (c79 r n hr hn) ?_
 unfold tickB
 cases isPrincB r n
 ·conv=>whnf
  exact ⟨rfl,rfl⟩
 ·conv=>whnf
  refine cP (c162 kv 1 255) ?_
  cases inZ kv 1 255
  ·conv=>whnf
   exact ⟨rfl,rfl⟩
  ·conv=>whnf
   refine cP (c161 b.length _ _) ?_
   cases inZ b.length 1 800
   ·conv=>whnf
    exact ⟨rfl,rfl⟩
   ·conv=>whnf
    exact ⟨rfl,rfl⟩
def noTk (r n:List UInt8) (kv:Int) (bl:Nat):Bool:=decide (r=[]∧n=[])&&decide (kv=0)&&decide (bl=0)
theorem fitG (a b:List UInt8):FitP ttGm 6 36 [.str a,.str b]:=⟨rfl,⟨by show 1≤2;omega,a,rfl⟩,rfl,⟨by show 1≤1;omega,b,rfl⟩,rfl⟩
theorem pr_eq {r n:List UInt8}:([PV.str r,PV.str n]=[PV.str [],PV.str []])↔(r=[]∧n=[]):=by simp
theorem c183 (r n:List UInt8) (kv:Int) (b:List UInt8) (o:Option Nat):Pure prog 183 [.agg [.str r,.str n,.int .i64 kv,slo b o]] (.bool (noTk r n kv b.length)):=by
 intro H
 (refine fnS (imm:=imm183) ttGm_ok func183 ?_;(conv=>whnf))
 refine ⟨⟨fitG _ _,fitG [] []⟩,?_⟩
 conv=>whnf
 unfold noTk
 refine ⟨fun h=>?_,fun h=>?_⟩
 ·have h:[PV.str r,PV.str n]=[PV.str [],PV.str []]:=h
  rw [zqe (pr_eq.1 h)]
  conv=>whnf
  refine ⟨fun h=>?_,fun h=>?_⟩
  ·have h:kv=0:=h
   rw [zqe h]
   conv=>whnf
   refine ⟨fun h=>?_,fun h=>?_⟩
   ·have h:(b.length:Int)=0:=h
    rw [zqe (show b.length=0 by omega)]
    conv=>whnf
    exact ⟨rfl,rfl⟩
   ·have h:¬(b.length:Int)=0:=h
    rw [zqd (show ¬b.length=0 by omega)]
    conv=>whnf
    exact ⟨rfl,rfl⟩
  ·have h:¬kv=0:=h
   rw [zqd h]
   conv=>whnf
   exact ⟨rfl,rfl⟩
 ·have h:¬[PV.str r,PV.str n]=[PV.str [],PV.str []]:=h
  rw [zqd fun hh=>h (pr_eq.2 hh)]
  conv=>whnf
  exact ⟨rfl,rfl⟩
structure Msg where
 kind:Int
 a1:List UInt8
 a2:List UInt8
 a3:List UInt8
 a4:List UInt8
 aTill:Int
 aNonce:Int
 t1:List UInt8
 t2:List UInt8
 tKv:Int
 tB:List UInt8
 tBo:Option Nat
 tAu:List UInt8
 tAuo:Option Nat
 t3:List UInt8
 t4:List UInt8
 tTill:Int
 tNonce:Int
 r1:List UInt8
 r2:List UInt8
 r3:List UInt8
 r4:List UInt8
 rKv:Int
 rB:List UInt8
 rBo:Option Nat
 rBl:List UInt8
 rBlo:Option Nat
 p1:List UInt8
 p2:List UInt8
 pKv:Int
 pB:List UInt8
 pBo:Option Nat
 pAu:List UInt8
 pAuo:Option Nat
 fErr:Int
 fNonce:Int
def Msg.as (m:Msg):List PV:=[.str m.a1,.str m.a2,.str m.a3,.str m.a4,.int .i64 m.aTill,.int .i64 m.aNonce]
def Msg.tgs (m:Msg):List PV:=[.str m.t1,.str m.t2,.int .i64 m.tKv,slo m.tB m.tBo,slo m.tAu m.tAuo,.str m.t3,.str m.t4,.int .i64 m.tTill,.int .i64 m.tNonce]
def Msg.rep (m:Msg):List PV:=[.str m.r1,.str m.r2,.str m.r3,.str m.r4,.int .i64 m.rKv,slo m.rB m.rBo,slo m.rBl m.rBlo]
def Msg.ap (m:Msg):List PV:=[.str m.p1,.str m.p2,.int .i64 m.pKv,slo m.pB m.pBo,slo m.pAu m.pAuo]
def Msg.fail (m:Msg):List PV:=[.int .i64 m.fErr,.int .i64 m.fNonce]
def Msg.cells (m:Msg):List PV:=[.int .i64 m.kind]++m.as++m.tgs++m.rep++m.ap++m.fail
def noAs (m:Msg):Bool:=decide (m.a1=[]∧m.a2=[]∧m.a3=[]∧m.a4=[]∧m.aTill=0∧m.aNonce=0)
def noTgs (m:Msg):Bool:=noTk m.t1 m.t2 m.tKv m.tB.length&&decide (m.tAu.length=0)&&decide (m.t3=[]∧m.t4=[])&&decide (m.tTill=0)&&decide (m.tNonce=0)
def noRep (m:Msg):Bool:=decide (m.r1=[]∧m.r2=[])&&noTk m.r3 m.r4 m.rKv m.rB.length&&decide (m.rBl.length=0)
def noAp (m:Msg):Bool:=noTk m.p1 m.p2 m.pKv m.pB.length&&decide (m.pAu.length=0)
def noFail (m:Msg):Bool:=decide (m.fErr=0∧m.fNonce=0)
def othersB (m:Msg):Bool:=(decide (m.kind=1)||noAs m)&&(decide (m.kind=2)||noTgs m)&&(decide (m.kind=3)||noRep m)&&(decide (m.kind=4)||noAp m)&&(decide (m.kind=5)||noFail m)
theorem app_get (H l:PH) (i:Nat):(H++l)[H.length+i]? = l[i]?:=by rw [zqi (by omega)];congr 1;omega
abbrev zqL (m:Msg):PH:=[PObj.mk 68 (m.tgs.map dem) 1,PObj.mk 70 (m.rep.map dem) 1,PObj.mk 72 (m.ap.map dem) 1]
theorem app_set (H l:PH) (i:Nat) (o:PObj):(H++l).set (H.length+i) o=H++l.set i o:=by rw [List.set_append_right _ _ (by omega)];congr 2;omega
def z55:PObj:=⟨55,[.str [],.str [],.int .i64 0,.slice 0 [] (some 5),.slice 0 [] (some 5),.str [],.str [],.int .i64 0,.int .i64 0],0⟩
def z57:PObj:=⟨57,[.str [],.str [],.str [],.str [],.int .i64 0,.slice 0 [] (some 5),.slice 0 [] (some 5)],0⟩
def z59:PObj:=⟨59,[.str [],.str [],.int .i64 0,.slice 0 [] (some 5),.slice 0 [] (some 5)],0⟩
def D163 (n:Nat):Draw:={ imp:=[9,10,11],robs:=[z55,z57,z59],res:=[(6,0),(7,1),(8,2)],base:=n,win:=[(2,0,1),(3,0,1),(4,0,2),(5,0,2),(10,1,1),(11,2,2)] }
theorem fitA (a b c d:List UInt8) (x y:Int):FitP ttGm 6 51 [.str a,.str b,.str c,.str d,.int .i64 x,.int .i64 y] :=
 ⟨rfl,⟨by show 2≤6;omega,⟨rfl,⟨by show 1≤2;omega,a,rfl⟩,rfl,⟨by show 1≤1;omega,b,rfl⟩,rfl⟩⟩,rfl,⟨by show 2≤4;omega,⟨rfl,⟨by show 1≤2;omega,c,rfl⟩,rfl,⟨by show 1≤1;omega,d,rfl⟩,rfl⟩⟩,rfl,⟨by show 1≤2;omega,x,rfl⟩,rfl,⟨by show 1≤1;omega,y,rfl⟩,rfl⟩
theorem fitF (x y:Int):FitP ttGm 6 61 [.int .i64 x,.int .i64 y]:=⟨rfl,⟨by show 1≤2;omega,x,rfl⟩,rfl,⟨by show 1≤1;omega,y,rfl⟩,rfl⟩
theorem as_eq {a b c d:List UInt8} {x y:Int}:([PV.str a,PV.str b,PV.str c,PV.str d,PV.int .i64 x,PV.int .i64 y]=[PV.str [],PV.str [],PV.str [],PV.str [],PV.int .i64 0,PV.int .i64 0])↔(a=[]∧b=[]∧c=[]∧d=[]∧x=0∧y=0):=by simp
theorem fl_eq {x y:Int}:([PV.int .i64 x,PV.int .i64 y]=[PV.int .i64 0,PV.int .i64 0])↔(x=0∧y=0):=by simp
theorem nat0 {n:Nat}:((n:Int)=0)↔n=0:=by omega
theorem c163x (m:Msg) (H:PH):CK prog 163 [.agg m.cells] H fun r H'=>r=.bool (othersB m)∧∃ext,H'=H++ext:=by
 (refine fnS (imm:=imm163) ttGm_ok func163 ?_;(conv=>whnf))
 refine dO2 (D163 H.length) [H++[z55,z57,z59],H++[PObj.mk 55 (m.tgs.map dem) 1,z57,z59],H++[PObj.mk 55 (m.tgs.map dem) 1,PObj.mk 57 (m.rep.map dem) 1,z59],H++[PObj.mk 55 (m.tgs.map dem) 1,PObj.mk 57 (m.rep.map dem) 1,PObj.mk 59 (m.ap.map dem) 1]] (by kernel_rfl) ⟨rfl,rfl⟩ trivial ?_
 conv=>whnf
 iterate 2 (refine dS ?_;(conv=>whnf))
 iterate 2 (refine dS2 ?_;(conv=>whnf))
 iterate 2 (apply Exists.intro;apply And.intro;(focus ((conv=>whnf);apply And.intro;(focus ((conv=>whnf);exact oS));(conv=>whnf);apply And.intro;(focus ((conv=>whnf);exact oS));((conv=>whnf);exact oS)));(conv=>whnf))
 refine ⟨_,⟨⟨rfl,rfl,zqv⟩,app_get H [z55,z57,z59] 0⟩,?_⟩
 conv=>whnf
 refine ⟨_,⟨⟨rfl,rfl,zqv⟩,app_get H [z55,z57,z59] 1⟩,?_⟩
 conv=>whnf
 refine ⟨_,⟨⟨rfl,rfl,zqv⟩,app_get H [z55,z57,z59] 2⟩,?_⟩
 conv=>whnf
 apply exA
 focus
  conv=>whnf
  ((conv in (_[_]?)=>tactic=>exact app_get H [z55,z57,z59] 0);(conv=>whnf))
  conv=>whnf
  exact ⟨rfl,app_set H [z55,z57,z59] 0 (PObj.mk 55 (m.tgs.map dem) 1),zqv⟩
 conv=>whnf
 apply exA
 focus
  conv=>whnf
  ((conv in (_[_]?)=>tactic=>exact app_get H [PObj.mk 55 (m.tgs.map dem) 1,z57,z59] 1);(conv=>whnf))
  conv=>whnf
  exact ⟨rfl,app_set H [PObj.mk 55 (m.tgs.map dem) 1,z57,z59] 1 (PObj.mk 57 (m.rep.map dem) 1),zqv⟩
 conv=>whnf
 apply exA
 focus
  conv=>whnf
  ((conv in (_[_]?)=>tactic=>exact app_get H [PObj.mk 55 (m.tgs.map dem) 1,PObj.mk 57 (m.rep.map dem) 1,z59] 2);(conv=>whnf))
  conv=>whnf
  exact ⟨rfl,app_set H [PObj.mk 55 (m.tgs.map dem) 1,PObj.mk 57 (m.rep.map dem) 1,z59] 2 (PObj.mk 59 (m.ap.map dem) 1),zqv⟩
 conv=>whnf
 by_cases h1:m.kind=1
 ·have hk:=h1
  have n2:¬m.kind=2:=by omega
  have n3:¬m.kind=3:=by omega
  have n4:¬m.kind=4:=by omega
  have n5:¬m.kind=5:=by omega
  have e1:decide (m.kind=1)=true:=zqe hk
  have e2:decide (m.kind=2)=false:=zqd n2
  have e3:decide (m.kind=3)=false:=zqd n3
  have e4:decide (m.kind=4)=false:=zqd n4
  have e5:decide (m.kind=5)=false:=zqd n5
  refine ⟨fun h=>?_,fun h=>?_⟩
  rotate_left
  ·exact (h hk).elim
  conv=>whnf
  refine ⟨fun h=>?_,fun h=>?_⟩
  ·exact (n2 h).elim
  conv=>whnf
  ((conv in (_[_]?)=>tactic=>exact app_get H [PObj.mk 55 (m.tgs.map dem) 1,PObj.mk 57 (m.rep.map dem) 1,PObj.mk 59 (m.ap.map dem) 1] 0);(conv=>whnf))
  refine cP (c183 m.t1 m.t2 m.tKv m.tB none) ?_
  cases f1:noTk m.t1 m.t2 m.tKv m.tB.length
  ·conv=>whnf
   exact ⟨zqm PV.bool (by unfold othersB noTgs noRep noAp noFail;simp only [e1,e2,e3,e4,e5,f1,zq6,zq5,zq8,zq7,zq9,zqa,zq3,zq4]),_,rfl⟩
  conv=>whnf
  ((conv in (_[_]?)=>tactic=>exact app_get H [PObj.mk 55 (m.tgs.map dem) 1,PObj.mk 57 (m.rep.map dem) 1,PObj.mk 59 (m.ap.map dem) 1] 0);(conv=>whnf))
  refine ⟨fun h=>?_,fun h=>?_⟩
  rotate_left
  ·have f2:decide (m.tAu.length=0)=false:=zqd fun hh=>h (Iff.mpr nat0 hh)
   conv=>whnf
   exact ⟨zqm PV.bool (by unfold othersB noTgs noRep noAp noFail;simp only [e1,e2,e3,e4,e5,f1,f2,zq6,zq5,zq8,zq7,zq9,zqa,zq3,zq4]),_,rfl⟩
  have f2:decide (m.tAu.length=0)=true:=zqe (Iff.mp nat0 h)
  conv=>whnf
  ((conv in (_[_]?)=>tactic=>exact app_get H [PObj.mk 55 (m.tgs.map dem) 1,PObj.mk 57 (m.rep.map dem) 1,PObj.mk 59 (m.ap.map dem) 1] 0);(conv=>whnf))
  refine ⟨⟨fitG _ _,fitG [] []⟩,?_⟩
  conv=>whnf
  refine ⟨fun h=>?_,fun h=>?_⟩
  rotate_left
  ·have f3:decide (m.t3=[]∧m.t4=[])=false:=zqd fun hh=>h (Iff.mpr pr_eq hh)
   conv=>whnf
   exact ⟨zqm PV.bool (by unfold othersB noTgs noRep noAp noFail;simp only [e1,e2,e3,e4,e5,f1,f2,f3,zq6,zq5,zq8,zq7,zq9,zqa,zq3,zq4]),_,rfl⟩
  have f3:decide (m.t3=[]∧m.t4=[])=true:=zqe (Iff.mp pr_eq h)
  conv=>whnf
  ((conv in (_[_]?)=>tactic=>exact app_get H [PObj.mk 55 (m.tgs.map dem) 1,PObj.mk 57 (m.rep.map dem) 1,PObj.mk 59 (m.ap.map dem) 1] 0);(conv=>whnf))
  refine ⟨fun h=>?_,fun h=>?_⟩
  rotate_left
  ·have f4:decide (m.tTill=0)=false:=zqd fun hh=>h (Iff.mpr Iff.rfl hh)
   conv=>whnf
   exact ⟨zqm PV.bool (by unfold othersB noTgs noRep noAp noFail;simp only [e1,e2,e3,e4,e5,f1,f2,f3,f4,zq6,zq5,zq8,zq7,zq9,zqa,zq3,zq4]),_,rfl⟩
  have f4:decide (m.tTill=0)=true:=zqe (Iff.mp Iff.rfl h)
  conv=>whnf
  ((conv in (_[_]?)=>tactic=>exact app_get H [PObj.mk 55 (m.tgs.map dem) 1,PObj.mk 57 (m.rep.map dem) 1,PObj.mk 59 (m.ap.map dem) 1] 0);(conv=>whnf))
  refine ⟨fun h=>?_,fun h=>?_⟩
  rotate_left
  ·have f5:decide (m.tNonce=0)=false:=zqd fun hh=>h (Iff.mpr Iff.rfl hh)
   conv=>whnf
   exact ⟨zqm PV.bool (by unfold othersB noTgs noRep noAp noFail;simp only [e1,e2,e3,e4,e5,f1,f2,f3,f4,f5,zq6,zq5,zq8,zq7,zq9,zqa,zq3,zq4]),_,rfl⟩
  have f5:decide (m.tNonce=0)=true:=zqe (Iff.mp Iff.rfl h)
  conv=>whnf
  refine ⟨fun h=>?_,fun h=>?_⟩
  ·exact (n3 h).elim
  conv=>whnf
  ((conv in (_[_]?)=>tactic=>exact app_get H [PObj.mk 55 (m.tgs.map dem) 1,PObj.mk 57 (m.rep.map dem) 1,PObj.mk 59 (m.ap.map dem) 1] 1);(conv=>whnf))
  refine ⟨⟨fitG _ _,fitG [] []⟩,?_⟩
  conv=>whnf
  refine ⟨fun h=>?_,fun h=>?_⟩
  rotate_left
  ·have f6:decide (m.r1=[]∧m.r2=[])=false:=zqd fun hh=>h (Iff.mpr pr_eq hh)
   conv=>whnf
   exact ⟨zqm PV.bool (by unfold othersB noTgs noRep noAp noFail;simp only [e1,e2,e3,e4,e5,f1,f2,f3,f4,f5,f6,zq6,zq5,zq8,zq7,zq9,zqa,zq3,zq4]),_,rfl⟩
  have f6:decide (m.r1=[]∧m.r2=[])=true:=zqe (Iff.mp pr_eq h)
  conv=>whnf
  ((conv in (_[_]?)=>tactic=>exact app_get H [PObj.mk 55 (m.tgs.map dem) 1,PObj.mk 57 (m.rep.map dem) 1,PObj.mk 59 (m.ap.map dem) 1] 1);(conv=>whnf))
  refine cP (c183 m.r3 m.r4 m.rKv m.rB none) ?_
  cases f7:noTk m.r3 m.r4 m.rKv m.rB.length
  ·conv=>whnf
   exact ⟨zqm PV.bool (by unfold othersB noTgs noRep noAp noFail;simp only [e1,e2,e3,e4,e5,f1,f2,f3,f4,f5,f6,f7,zq6,zq5,zq8,zq7,zq9,zqa,zq3,zq4]),_,rfl⟩
  conv=>whnf
  ((conv in (_[_]?)=>tactic=>exact app_get H [PObj.mk 55 (m.tgs.map dem) 1,PObj.mk 57 (m.rep.map dem) 1,PObj.mk 59 (m.ap.map dem) 1] 1);(conv=>whnf))
  refine ⟨fun h=>?_,fun h=>?_⟩
  rotate_left
  ·have f8:decide (m.rBl.length=0)=false:=zqd fun hh=>h (Iff.mpr nat0 hh)
   conv=>whnf
   exact ⟨zqm PV.bool (by unfold othersB noTgs noRep noAp noFail;simp only [e1,e2,e3,e4,e5,f1,f2,f3,f4,f5,f6,f7,f8,zq6,zq5,zq8,zq7,zq9,zqa,zq3,zq4]),_,rfl⟩
  have f8:decide (m.rBl.length=0)=true:=zqe (Iff.mp nat0 h)
  conv=>whnf
  refine ⟨fun h=>?_,fun h=>?_⟩
  ·exact (n4 h).elim
  conv=>whnf
  ((conv in (_[_]?)=>tactic=>exact app_get H [PObj.mk 55 (m.tgs.map dem) 1,PObj.mk 57 (m.rep.map dem) 1,PObj.mk 59 (m.ap.map dem) 1] 2);(conv=>whnf))
  refine cP (c183 m.p1 m.p2 m.pKv m.pB none) ?_
  cases f9:noTk m.p1 m.p2 m.pKv m.pB.length
  ·conv=>whnf
   exact ⟨zqm PV.bool (by unfold othersB noTgs noRep noAp noFail;simp only [e1,e2,e3,e4,e5,f1,f2,f3,f4,f5,f6,f7,f8,f9,zq6,zq5,zq8,zq7,zq9,zqa,zq3,zq4]),_,rfl⟩
  conv=>whnf
  ((conv in (_[_]?)=>tactic=>exact app_get H [PObj.mk 55 (m.tgs.map dem) 1,PObj.mk 57 (m.rep.map dem) 1,PObj.mk 59 (m.ap.map dem) 1] 2);(conv=>whnf))
  refine ⟨fun h=>?_,fun h=>?_⟩
  rotate_left
  ·have f10:decide (m.pAu.length=0)=false:=zqd fun hh=>h (Iff.mpr nat0 hh)
   conv=>whnf
   exact ⟨zqm PV.bool (by unfold othersB noTgs noRep noAp noFail;simp only [e1,e2,e3,e4,e5,f1,f2,f3,f4,f5,f6,f7,f8,f9,f10,zq6,zq5,zq8,zq7,zq9,zqa,zq3,zq4]),_,rfl⟩
  have f10:decide (m.pAu.length=0)=true:=zqe (Iff.mp nat0 h)
  conv=>whnf
  refine ⟨fun h=>?_,fun h=>?_⟩
  ·exact (n5 h).elim
  conv=>whnf
  refine ⟨⟨fitF _ _,fitF 0 0⟩,?_⟩
  conv=>whnf
  refine ⟨fun h=>?_,fun h=>?_⟩
  rotate_left
  ·have f11:decide (m.fErr=0∧m.fNonce=0)=false:=zqd fun hh=>h (Iff.mpr fl_eq hh)
   conv=>whnf
   exact ⟨zqm PV.bool (by unfold othersB noTgs noRep noAp noFail;simp only [e1,e2,e3,e4,e5,f1,f2,f3,f4,f5,f6,f7,f8,f9,f10,f11,zq6,zq5,zq8,zq7,zq9,zqa,zq3,zq4]),_,rfl⟩
  have f11:decide (m.fErr=0∧m.fNonce=0)=true:=zqe (Iff.mp fl_eq h)
  conv=>whnf
  exact ⟨zqm PV.bool (by unfold othersB noTgs noRep noAp noFail;simp only [e1,e2,e3,e4,e5,f1,f2,f3,f4,f5,f6,f7,f8,f9,f10,f11,zq6,zq5,zq8,zq7,zq9,zqa,zq3,zq4]),_,rfl⟩
 by_cases h2:m.kind=2
 ·have hk:=h2
  have n1:¬m.kind=1:=by omega
  have n3:¬m.kind=3:=by omega
  have n4:¬m.kind=4:=by omega
  have n5:¬m.kind=5:=by omega
  have e1:decide (m.kind=1)=false:=zqd n1
  have e2:decide (m.kind=2)=true:=zqe hk
  have e3:decide (m.kind=3)=false:=zqd n3
  have e4:decide (m.kind=4)=false:=zqd n4
  have e5:decide (m.kind=5)=false:=zqd n5
  refine ⟨fun h=>?_,fun h=>?_⟩
  ·exact (n1 h).elim
  conv=>whnf
  refine ⟨⟨fitA _ _ _ _ _ _,fitA [] [] [] [] 0 0⟩,?_⟩
  conv=>whnf
  refine ⟨fun h=>?_,fun h=>?_⟩
  rotate_left
  ·have f12:noAs m=false:=zqd fun hh=>h (Iff.mpr as_eq hh)
   conv=>whnf
   exact ⟨zqm PV.bool (by unfold othersB noTgs noRep noAp noFail;simp only [e1,e2,e3,e4,e5,f12,zq6,zq5,zq8,zq7,zq9,zqa,zq3,zq4]),_,rfl⟩
  have f12:noAs m=true:=zqe (Iff.mp as_eq h)
  conv=>whnf
  refine ⟨fun h=>?_,fun h=>?_⟩
  rotate_left
  ·exact (h hk).elim
  conv=>whnf
  refine ⟨fun h=>?_,fun h=>?_⟩
  ·exact (n3 h).elim
  conv=>whnf
  ((conv in (_[_]?)=>tactic=>exact app_get H [PObj.mk 55 (m.tgs.map dem) 1,PObj.mk 57 (m.rep.map dem) 1,PObj.mk 59 (m.ap.map dem) 1] 1);(conv=>whnf))
  refine ⟨⟨fitG _ _,fitG [] []⟩,?_⟩
  conv=>whnf
  refine ⟨fun h=>?_,fun h=>?_⟩
  rotate_left
  ·have f13:decide (m.r1=[]∧m.r2=[])=false:=zqd fun hh=>h (Iff.mpr pr_eq hh)
   conv=>whnf
   exact ⟨zqm PV.bool (by unfold othersB noTgs noRep noAp noFail;simp only [e1,e2,e3,e4,e5,f12,f13,zq6,zq5,zq8,zq7,zq9,zqa,zq3,zq4]),_,rfl⟩
  have f13:decide (m.r1=[]∧m.r2=[])=true:=zqe (Iff.mp pr_eq h)
  conv=>whnf
  ((conv in (_[_]?)=>tactic=>exact app_get H [PObj.mk 55 (m.tgs.map dem) 1,PObj.mk 57 (m.rep.map dem) 1,PObj.mk 59 (m.ap.map dem) 1] 1);(conv=>whnf))
  refine cP (c183 m.r3 m.r4 m.rKv m.rB none) ?_
  cases f14:noTk m.r3 m.r4 m.rKv m.rB.length
  ·conv=>whnf
   exact ⟨zqm PV.bool (by unfold othersB noTgs noRep noAp noFail;simp only [e1,e2,e3,e4,e5,f12,f13,f14,zq6,zq5,zq8,zq7,zq9,zqa,zq3,zq4]),_,rfl⟩
  conv=>whnf
  ((conv in (_[_]?)=>tactic=>exact app_get H [PObj.mk 55 (m.tgs.map dem) 1,PObj.mk 57 (m.rep.map dem) 1,PObj.mk 59 (m.ap.map dem) 1] 1);(conv=>whnf))
  refine ⟨fun h=>?_,fun h=>?_⟩
  rotate_left
  ·have f15:decide (m.rBl.length=0)=false:=zqd fun hh=>h (Iff.mpr nat0 hh)
   conv=>whnf
   exact ⟨zqm PV.bool (by unfold othersB noTgs noRep noAp noFail;simp only [e1,e2,e3,e4,e5,f12,f13,f14,f15,zq6,zq5,zq8,zq7,zq9,zqa,zq3,zq4]),_,rfl⟩
  have f15:decide (m.rBl.length=0)=true:=zqe (Iff.mp nat0 h)
  conv=>whnf
  refine ⟨fun h=>?_,fun h=>?_⟩
  ·exact (n4 h).elim
  conv=>whnf
  ((conv in (_[_]?)=>tactic=>exact app_get H [PObj.mk 55 (m.tgs.map dem) 1,PObj.mk 57 (m.rep.map dem) 1,PObj.mk 59 (m.ap.map dem) 1] 2);(conv=>whnf))
  refine cP (c183 m.p1 m.p2 m.pKv m.pB none) ?_
  cases f16:noTk m.p1 m.p2 m.pKv m.pB.length
  ·conv=>whnf
   exact ⟨zqm PV.bool (by unfold othersB noTgs noRep noAp noFail;simp only [e1,e2,e3,e4,e5,f12,f13,f14,f15,f16,zq6,zq5,zq8,zq7,zq9,zqa,zq3,zq4]),_,rfl⟩
  conv=>whnf
  ((conv in (_[_]?)=>tactic=>exact app_get H [PObj.mk 55 (m.tgs.map dem) 1,PObj.mk 57 (m.rep.map dem) 1,PObj.mk 59 (m.ap.map dem) 1] 2);(conv=>whnf))
  refine ⟨fun h=>?_,fun h=>?_⟩
  rotate_left
  ·have f17:decide (m.pAu.length=0)=false:=zqd fun hh=>h (Iff.mpr nat0 hh)
   conv=>whnf
   exact ⟨zqm PV.bool (by unfold othersB noTgs noRep noAp noFail;simp only [e1,e2,e3,e4,e5,f12,f13,f14,f15,f16,f17,zq6,zq5,zq8,zq7,zq9,zqa,zq3,zq4]),_,rfl⟩
  have f17:decide (m.pAu.length=0)=true:=zqe (Iff.mp nat0 h)
  conv=>whnf
  refine ⟨fun h=>?_,fun h=>?_⟩
  ·exact (n5 h).elim
  conv=>whnf
  refine ⟨⟨fitF _ _,fitF 0 0⟩,?_⟩
  conv=>whnf
  refine ⟨fun h=>?_,fun h=>?_⟩
  rotate_left
  ·have f18:decide (m.fErr=0∧m.fNonce=0)=false:=zqd fun hh=>h (Iff.mpr fl_eq hh)
   conv=>whnf
   exact ⟨zqm PV.bool (by unfold othersB noTgs noRep noAp noFail;simp only [e1,e2,e3,e4,e5,f12,f13,f14,f15,f16,f17,f18,zq6,zq5,zq8,zq7,zq9,zqa,zq3,zq4]),_,rfl⟩
  have f18:decide (m.fErr=0∧m.fNonce=0)=true:=zqe (Iff.mp fl_eq h)
  conv=>whnf
  exact ⟨zqm PV.bool (by unfold othersB noTgs noRep noAp noFail;simp only [e1,e2,e3,e4,e5,f12,f13,f14,f15,f16,f17,f18,zq6,zq5,zq8,zq7,zq9,zqa,zq3,zq4]),_,rfl⟩
 by_cases h3:m.kind=3
 ·have hk:=h3
  have n1:¬m.kind=1:=by omega
  have n2:¬m.kind=2:=by omega
  have n4:¬m.kind=4:=by omega
  have n5:¬m.kind=5:=by omega
  have e1:decide (m.kind=1)=false:=zqd n1
  have e2:decide (m.kind=2)=false:=zqd n2
  have e3:decide (m.kind=3)=true:=zqe hk
  have e4:decide (m.kind=4)=false:=zqd n4
  have e5:decide (m.kind=5)=false:=zqd n5
  refine ⟨fun h=>?_,fun h=>?_⟩
  ·exact (n1 h).elim
  conv=>whnf
  refine ⟨⟨fitA _ _ _ _ _ _,fitA [] [] [] [] 0 0⟩,?_⟩
  conv=>whnf
  refine ⟨fun h=>?_,fun h=>?_⟩
  rotate_left
  ·have f19:noAs m=false:=zqd fun hh=>h (Iff.mpr as_eq hh)
   conv=>whnf
   exact ⟨zqm PV.bool (by unfold othersB noTgs noRep noAp noFail;simp only [e1,e2,e3,e4,e5,f19,zq6,zq5,zq8,zq7,zq9,zqa,zq3,zq4]),_,rfl⟩
  have f19:noAs m=true:=zqe (Iff.mp as_eq h)
  conv=>whnf
  refine ⟨fun h=>?_,fun h=>?_⟩
  ·exact (n2 h).elim
  conv=>whnf
  ((conv in (_[_]?)=>tactic=>exact app_get H [PObj.mk 55 (m.tgs.map dem) 1,PObj.mk 57 (m.rep.map dem) 1,PObj.mk 59 (m.ap.map dem) 1] 0);(conv=>whnf))
  refine cP (c183 m.t1 m.t2 m.tKv m.tB none) ?_
  cases f20:noTk m.t1 m.t2 m.tKv m.tB.length
  ·conv=>whnf
   exact ⟨zqm PV.bool (by unfold othersB noTgs noRep noAp noFail;simp only [e1,e2,e3,e4,e5,f19,f20,zq6,zq5,zq8,zq7,zq9,zqa,zq3,zq4]),_,rfl⟩
  conv=>whnf
  ((conv in (_[_]?)=>tactic=>exact app_get H [PObj.mk 55 (m.tgs.map dem) 1,PObj.mk 57 (m.rep.map dem) 1,PObj.mk 59 (m.ap.map dem) 1] 0);(conv=>whnf))
  refine ⟨fun h=>?_,fun h=>?_⟩
  rotate_left
  ·have f21:decide (m.tAu.length=0)=false:=zqd fun hh=>h (Iff.mpr nat0 hh)
   conv=>whnf
   exact ⟨zqm PV.bool (by unfold othersB noTgs noRep noAp noFail;simp only [e1,e2,e3,e4,e5,f19,f20,f21,zq6,zq5,zq8,zq7,zq9,zqa,zq3,zq4]),_,rfl⟩
  have f21:decide (m.tAu.length=0)=true:=zqe (Iff.mp nat0 h)
  conv=>whnf
  ((conv in (_[_]?)=>tactic=>exact app_get H [PObj.mk 55 (m.tgs.map dem) 1,PObj.mk 57 (m.rep.map dem) 1,PObj.mk 59 (m.ap.map dem) 1] 0);(conv=>whnf))
  refine ⟨⟨fitG _ _,fitG [] []⟩,?_⟩
  conv=>whnf
  refine ⟨fun h=>?_,fun h=>?_⟩
  rotate_left
  ·have f22:decide (m.t3=[]∧m.t4=[])=false:=zqd fun hh=>h (Iff.mpr pr_eq hh)
   conv=>whnf
   exact ⟨zqm PV.bool (by unfold othersB noTgs noRep noAp noFail;simp only [e1,e2,e3,e4,e5,f19,f20,f21,f22,zq6,zq5,zq8,zq7,zq9,zqa,zq3,zq4]),_,rfl⟩
  have f22:decide (m.t3=[]∧m.t4=[])=true:=zqe (Iff.mp pr_eq h)
  conv=>whnf
  ((conv in (_[_]?)=>tactic=>exact app_get H [PObj.mk 55 (m.tgs.map dem) 1,PObj.mk 57 (m.rep.map dem) 1,PObj.mk 59 (m.ap.map dem) 1] 0);(conv=>whnf))
  refine ⟨fun h=>?_,fun h=>?_⟩
  rotate_left
  ·have f23:decide (m.tTill=0)=false:=zqd fun hh=>h (Iff.mpr Iff.rfl hh)
   conv=>whnf
   exact ⟨zqm PV.bool (by unfold othersB noTgs noRep noAp noFail;simp only [e1,e2,e3,e4,e5,f19,f20,f21,f22,f23,zq6,zq5,zq8,zq7,zq9,zqa,zq3,zq4]),_,rfl⟩
  have f23:decide (m.tTill=0)=true:=zqe (Iff.mp Iff.rfl h)
  conv=>whnf
  ((conv in (_[_]?)=>tactic=>exact app_get H [PObj.mk 55 (m.tgs.map dem) 1,PObj.mk 57 (m.rep.map dem) 1,PObj.mk 59 (m.ap.map dem) 1] 0);(conv=>whnf))
  refine ⟨fun h=>?_,fun h=>?_⟩
  rotate_left
  ·have f24:decide (m.tNonce=0)=false:=zqd fun hh=>h (Iff.mpr Iff.rfl hh)
   conv=>whnf
   exact ⟨zqm PV.bool (by unfold othersB noTgs noRep noAp noFail;simp only [e1,e2,e3,e4,e5,f19,f20,f21,f22,f23,f24,zq6,zq5,zq8,zq7,zq9,zqa,zq3,zq4]),_,rfl⟩
  have f24:decide (m.tNonce=0)=true:=zqe (Iff.mp Iff.rfl h)
  conv=>whnf
  refine ⟨fun h=>?_,fun h=>?_⟩
  rotate_left
  ·exact (h hk).elim
  conv=>whnf
  refine ⟨fun h=>?_,fun h=>?_⟩
  ·exact (n4 h).elim
  conv=>whnf
  ((conv in (_[_]?)=>tactic=>exact app_get H [PObj.mk 55 (m.tgs.map dem) 1,PObj.mk 57 (m.rep.map dem) 1,PObj.mk 59 (m.ap.map dem) 1] 2);(conv=>whnf))
  refine cP (c183 m.p1 m.p2 m.pKv m.pB none) ?_
  cases f25:noTk m.p1 m.p2 m.pKv m.pB.length
  ·conv=>whnf
   exact ⟨zqm PV.bool (by unfold othersB noTgs noRep noAp noFail;simp only [e1,e2,e3,e4,e5,f19,f20,f21,f22,f23,f24,f25,zq6,zq5,zq8,zq7,zq9,zqa,zq3,zq4]),_,rfl⟩
  conv=>whnf
  ((conv in (_[_]?)=>tactic=>exact app_get H [PObj.mk 55 (m.tgs.map dem) 1,PObj.mk 57 (m.rep.map dem) 1,PObj.mk 59 (m.ap.map dem) 1] 2);(conv=>whnf))
  refine ⟨fun h=>?_,fun h=>?_⟩
  rotate_left
  ·have f26:decide (m.pAu.length=0)=false:=zqd fun hh=>h (Iff.mpr nat0 hh)
   conv=>whnf
   exact ⟨zqm PV.bool (by unfold othersB noTgs noRep noAp noFail;simp only [e1,e2,e3,e4,e5,f19,f20,f21,f22,f23,f24,f25,f26,zq6,zq5,zq8,zq7,zq9,zqa,zq3,zq4]),_,rfl⟩
  have f26:decide (m.pAu.length=0)=true:=zqe (Iff.mp nat0 h)
  conv=>whnf
  refine ⟨fun h=>?_,fun h=>?_⟩
  ·exact (n5 h).elim
  conv=>whnf
  refine ⟨⟨fitF _ _,fitF 0 0⟩,?_⟩
  conv=>whnf
  refine ⟨fun h=>?_,fun h=>?_⟩
  rotate_left
  ·have f27:decide (m.fErr=0∧m.fNonce=0)=false:=zqd fun hh=>h (Iff.mpr fl_eq hh)
   conv=>whnf
   exact ⟨zqm PV.bool (by unfold othersB noTgs noRep noAp noFail;simp only [e1,e2,e3,e4,e5,f19,f20,f21,f22,f23,f24,f25,f26,f27,zq6,zq5,zq8,zq7,zq9,zqa,zq3,zq4]),_,rfl⟩
  have f27:decide (m.fErr=0∧m.fNonce=0)=true:=zqe (Iff.mp fl_eq h)
  conv=>whnf
  exact ⟨zqm PV.bool (by unfold othersB noTgs noRep noAp noFail;simp only [e1,e2,e3,e4,e5,f19,f20,f21,f22,f23,f24,f25,f26,f27,zq6,zq5,zq8,zq7,zq9,zqa,zq3,zq4]),_,rfl⟩
 by_cases h4:m.kind=4
 ·have hk:=h4
  have n1:¬m.kind=1:=by omega
  have n2:¬m.kind=2:=by omega
  have n3:¬m.kind=3:=by omega
  have n5:¬m.kind=5:=by omega
  have e1:decide (m.kind=1)=false:=zqd n1
  have e2:decide (m.kind=2)=false:=zqd n2
  have e3:decide (m.kind=3)=false:=zqd n3
  have e4:decide (m.kind=4)=true:=zqe hk
  have e5:decide (m.kind=5)=false:=zqd n5
  refine ⟨fun h=>?_,fun h=>?_⟩
  ·exact (n1 h).elim
  conv=>whnf
  refine ⟨⟨fitA _ _ _ _ _ _,fitA [] [] [] [] 0 0⟩,?_⟩
  conv=>whnf
  refine ⟨fun h=>?_,fun h=>?_⟩
  rotate_left
  ·have f28:noAs m=false:=zqd fun hh=>h (Iff.mpr as_eq hh)
   conv=>whnf
   exact ⟨zqm PV.bool (by unfold othersB noTgs noRep noAp noFail;simp only [e1,e2,e3,e4,e5,f28,zq6,zq5,zq8,zq7,zq9,zqa,zq3,zq4]),_,rfl⟩
  have f28:noAs m=true:=zqe (Iff.mp as_eq h)
  conv=>whnf
  refine ⟨fun h=>?_,fun h=>?_⟩
  ·exact (n2 h).elim
  conv=>whnf
  ((conv in (_[_]?)=>tactic=>exact app_get H [PObj.mk 55 (m.tgs.map dem) 1,PObj.mk 57 (m.rep.map dem) 1,PObj.mk 59 (m.ap.map dem) 1] 0);(conv=>whnf))
  refine cP (c183 m.t1 m.t2 m.tKv m.tB none) ?_
  cases f29:noTk m.t1 m.t2 m.tKv m.tB.length
  ·conv=>whnf
   exact ⟨zqm PV.bool (by unfold othersB noTgs noRep noAp noFail;simp only [e1,e2,e3,e4,e5,f28,f29,zq6,zq5,zq8,zq7,zq9,zqa,zq3,zq4]),_,rfl⟩
  conv=>whnf
  ((conv in (_[_]?)=>tactic=>exact app_get H [PObj.mk 55 (m.tgs.map dem) 1,PObj.mk 57 (m.rep.map dem) 1,PObj.mk 59 (m.ap.map dem) 1] 0);(conv=>whnf))
  refine ⟨fun h=>?_,fun h=>?_⟩
  rotate_left
  ·have f30:decide (m.tAu.length=0)=false:=zqd fun hh=>h (Iff.mpr nat0 hh)
   conv=>whnf
   exact ⟨zqm PV.bool (by unfold othersB noTgs noRep noAp noFail;simp only [e1,e2,e3,e4,e5,f28,f29,f30,zq6,zq5,zq8,zq7,zq9,zqa,zq3,zq4]),_,rfl⟩
  have f30:decide (m.tAu.length=0)=true:=zqe (Iff.mp nat0 h)
  conv=>whnf
  ((conv in (_[_]?)=>tactic=>exact app_get H [PObj.mk 55 (m.tgs.map dem) 1,PObj.mk 57 (m.rep.map dem) 1,PObj.mk 59 (m.ap.map dem) 1] 0);(conv=>whnf))
  refine ⟨⟨fitG _ _,fitG [] []⟩,?_⟩
  conv=>whnf
  refine ⟨fun h=>?_,fun h=>?_⟩
  rotate_left
  ·have f31:decide (m.t3=[]∧m.t4=[])=false:=zqd fun hh=>h (Iff.mpr pr_eq hh)
   conv=>whnf
   exact ⟨zqm PV.bool (by unfold othersB noTgs noRep noAp noFail;simp only [e1,e2,e3,e4,e5,f28,f29,f30,f31,zq6,zq5,zq8,zq7,zq9,zqa,zq3,zq4]),_,rfl⟩
  have f31:decide (m.t3=[]∧m.t4=[])=true:=zqe (Iff.mp pr_eq h)
  conv=>whnf
  ((conv in (_[_]?)=>tactic=>exact app_get H [PObj.mk 55 (m.tgs.map dem) 1,PObj.mk 57 (m.rep.map dem) 1,PObj.mk 59 (m.ap.map dem) 1] 0);(conv=>whnf))
  refine ⟨fun h=>?_,fun h=>?_⟩
  rotate_left
  ·have f32:decide (m.tTill=0)=false:=zqd fun hh=>h (Iff.mpr Iff.rfl hh)
   conv=>whnf
   exact ⟨zqm PV.bool (by unfold othersB noTgs noRep noAp noFail;simp only [e1,e2,e3,e4,e5,f28,f29,f30,f31,f32,zq6,zq5,zq8,zq7,zq9,zqa,zq3,zq4]),_,rfl⟩
  have f32:decide (m.tTill=0)=true:=zqe (Iff.mp Iff.rfl h)
  conv=>whnf
  ((conv in (_[_]?)=>tactic=>exact app_get H [PObj.mk 55 (m.tgs.map dem) 1,PObj.mk 57 (m.rep.map dem) 1,PObj.mk 59 (m.ap.map dem) 1] 0);(conv=>whnf))
  refine ⟨fun h=>?_,fun h=>?_⟩
  rotate_left
  ·have f33:decide (m.tNonce=0)=false:=zqd fun hh=>h (Iff.mpr Iff.rfl hh)
   conv=>whnf
   exact ⟨zqm PV.bool (by unfold othersB noTgs noRep noAp noFail;simp only [e1,e2,e3,e4,e5,f28,f29,f30,f31,f32,f33,zq6,zq5,zq8,zq7,zq9,zqa,zq3,zq4]),_,rfl⟩
  have f33:decide (m.tNonce=0)=true:=zqe (Iff.mp Iff.rfl h)
  conv=>whnf
  refine ⟨fun h=>?_,fun h=>?_⟩
  ·exact (n3 h).elim
  conv=>whnf
  ((conv in (_[_]?)=>tactic=>exact app_get H [PObj.mk 55 (m.tgs.map dem) 1,PObj.mk 57 (m.rep.map dem) 1,PObj.mk 59 (m.ap.map dem) 1] 1);(conv=>whnf))
  refine ⟨⟨fitG _ _,fitG [] []⟩,?_⟩
  conv=>whnf
  refine ⟨fun h=>?_,fun h=>?_⟩
  rotate_left
  ·have f34:decide (m.r1=[]∧m.r2=[])=false:=zqd fun hh=>h (Iff.mpr pr_eq hh)
   conv=>whnf
   exact ⟨zqm PV.bool (by unfold othersB noTgs noRep noAp noFail;simp only [e1,e2,e3,e4,e5,f28,f29,f30,f31,f32,f33,f34,zq6,zq5,zq8,zq7,zq9,zqa,zq3,zq4]),_,rfl⟩
  have f34:decide (m.r1=[]∧m.r2=[])=true:=zqe (Iff.mp pr_eq h)
  conv=>whnf
  ((conv in (_[_]?)=>tactic=>exact app_get H [PObj.mk 55 (m.tgs.map dem) 1,PObj.mk 57 (m.rep.map dem) 1,PObj.mk 59 (m.ap.map dem) 1] 1);(conv=>whnf))
  refine cP (c183 m.r3 m.r4 m.rKv m.rB none) ?_
  cases f35:noTk m.r3 m.r4 m.rKv m.rB.length
  ·conv=>whnf
   exact ⟨zqm PV.bool (by unfold othersB noTgs noRep noAp noFail;simp only [e1,e2,e3,e4,e5,f28,f29,f30,f31,f32,f33,f34,f35,zq6,zq5,zq8,zq7,zq9,zqa,zq3,zq4]),_,rfl⟩
  conv=>whnf
  ((conv in (_[_]?)=>tactic=>exact app_get H [PObj.mk 55 (m.tgs.map dem) 1,PObj.mk 57 (m.rep.map dem) 1,PObj.mk 59 (m.ap.map dem) 1] 1);(conv=>whnf))
  refine ⟨fun h=>?_,fun h=>?_⟩
  rotate_left
  ·have f36:decide (m.rBl.length=0)=false:=zqd fun hh=>h (Iff.mpr nat0 hh)
   conv=>whnf
   exact ⟨zqm PV.bool (by unfold othersB noTgs noRep noAp noFail;simp only [e1,e2,e3,e4,e5,f28,f29,f30,f31,f32,f33,f34,f35,f36,zq6,zq5,zq8,zq7,zq9,zqa,zq3,zq4]),_,rfl⟩
  have f36:decide (m.rBl.length=0)=true:=zqe (Iff.mp nat0 h)
  conv=>whnf
  refine ⟨fun h=>?_,fun h=>?_⟩
  rotate_left
  ·exact (h hk).elim
  conv=>whnf
  refine ⟨fun h=>?_,fun h=>?_⟩
  ·exact (n5 h).elim
  conv=>whnf
  refine ⟨⟨fitF _ _,fitF 0 0⟩,?_⟩
  conv=>whnf
  refine ⟨fun h=>?_,fun h=>?_⟩
  rotate_left
  ·have f37:decide (m.fErr=0∧m.fNonce=0)=false:=zqd fun hh=>h (Iff.mpr fl_eq hh)
   conv=>whnf
   exact ⟨zqm PV.bool (by unfold othersB noTgs noRep noAp noFail;simp only [e1,e2,e3,e4,e5,f28,f29,f30,f31,f32,f33,f34,f35,f36,f37,zq6,zq5,zq8,zq7,zq9,zqa,zq3,zq4]),_,rfl⟩
  have f37:decide (m.fErr=0∧m.fNonce=0)=true:=zqe (Iff.mp fl_eq h)
  conv=>whnf
  exact ⟨zqm PV.bool (by unfold othersB noTgs noRep noAp noFail;simp only [e1,e2,e3,e4,e5,f28,f29,f30,f31,f32,f33,f34,f35,f36,f37,zq6,zq5,zq8,zq7,zq9,zqa,zq3,zq4]),_,rfl⟩
 by_cases h5:m.kind=5
 ·have hk:=h5
  have n1:¬m.kind=1:=by omega
  have n2:¬m.kind=2:=by omega
  have n3:¬m.kind=3:=by omega
  have n4:¬m.kind=4:=by omega
  have e1:decide (m.kind=1)=false:=zqd n1
  have e2:decide (m.kind=2)=false:=zqd n2
  have e3:decide (m.kind=3)=false:=zqd n3
  have e4:decide (m.kind=4)=false:=zqd n4
  have e5:decide (m.kind=5)=true:=zqe hk
  refine ⟨fun h=>?_,fun h=>?_⟩
  ·exact (n1 h).elim
  conv=>whnf
  refine ⟨⟨fitA _ _ _ _ _ _,fitA [] [] [] [] 0 0⟩,?_⟩
  conv=>whnf
  refine ⟨fun h=>?_,fun h=>?_⟩
  rotate_left
  ·have f38:noAs m=false:=zqd fun hh=>h (Iff.mpr as_eq hh)
   conv=>whnf
   exact ⟨zqm PV.bool (by unfold othersB noTgs noRep noAp noFail;simp only [e1,e2,e3,e4,e5,f38,zq6,zq5,zq8,zq7,zq9,zqa,zq3,zq4]),_,rfl⟩
  have f38:noAs m=true:=zqe (Iff.mp as_eq h)
  conv=>whnf
  refine ⟨fun h=>?_,fun h=>?_⟩
  ·exact (n2 h).elim
  conv=>whnf
  ((conv in (_[_]?)=>tactic=>exact app_get H [PObj.mk 55 (m.tgs.map dem) 1,PObj.mk 57 (m.rep.map dem) 1,PObj.mk 59 (m.ap.map dem) 1] 0);(conv=>whnf))
  refine cP (c183 m.t1 m.t2 m.tKv m.tB none) ?_
  cases f39:noTk m.t1 m.t2 m.tKv m.tB.length
  ·conv=>whnf
   exact ⟨zqm PV.bool (by unfold othersB noTgs noRep noAp noFail;simp only [e1,e2,e3,e4,e5,f38,f39,zq6,zq5,zq8,zq7,zq9,zqa,zq3,zq4]),_,rfl⟩
  conv=>whnf
  ((conv in (_[_]?)=>tactic=>exact app_get H [PObj.mk 55 (m.tgs.map dem) 1,PObj.mk 57 (m.rep.map dem) 1,PObj.mk 59 (m.ap.map dem) 1] 0);(conv=>whnf))
  refine ⟨fun h=>?_,fun h=>?_⟩
  rotate_left
  ·have f40:decide (m.tAu.length=0)=false:=zqd fun hh=>h (Iff.mpr nat0 hh)
   conv=>whnf
   exact ⟨zqm PV.bool (by unfold othersB noTgs noRep noAp noFail;simp only [e1,e2,e3,e4,e5,f38,f39,f40,zq6,zq5,zq8,zq7,zq9,zqa,zq3,zq4]),_,rfl⟩
  have f40:decide (m.tAu.length=0)=true:=zqe (Iff.mp nat0 h)
  conv=>whnf
  ((conv in (_[_]?)=>tactic=>exact app_get H [PObj.mk 55 (m.tgs.map dem) 1,PObj.mk 57 (m.rep.map dem) 1,PObj.mk 59 (m.ap.map dem) 1] 0);(conv=>whnf))
  refine ⟨⟨fitG _ _,fitG [] []⟩,?_⟩
  conv=>whnf
  refine ⟨fun h=>?_,fun h=>?_⟩
  rotate_left
  ·have f41:decide (m.t3=[]∧m.t4=[])=false:=zqd fun hh=>h (Iff.mpr pr_eq hh)
   conv=>whnf
   exact ⟨zqm PV.bool (by unfold othersB noTgs noRep noAp noFail;simp only [e1,e2,e3,e4,e5,f38,f39,f40,f41,zq6,zq5,zq8,zq7,zq9,zqa,zq3,zq4]),_,rfl⟩
  have f41:decide (m.t3=[]∧m.t4=[])=true:=zqe (Iff.mp pr_eq h)
  conv=>whnf
  ((conv in (_[_]?)=>tactic=>exact app_get H [PObj.mk 55 (m.tgs.map dem) 1,PObj.mk 57 (m.rep.map dem) 1,PObj.mk 59 (m.ap.map dem) 1] 0);(conv=>whnf))
  refine ⟨fun h=>?_,fun h=>?_⟩
  rotate_left
  ·have f42:decide (m.tTill=0)=false:=zqd fun hh=>h (Iff.mpr Iff.rfl hh)
   conv=>whnf
   exact ⟨zqm PV.bool (by unfold othersB noTgs noRep noAp noFail;simp only [e1,e2,e3,e4,e5,f38,f39,f40,f41,f42,zq6,zq5,zq8,zq7,zq9,zqa,zq3,zq4]),_,rfl⟩
  have f42:decide (m.tTill=0)=true:=zqe (Iff.mp Iff.rfl h)
  conv=>whnf
  ((conv in (_[_]?)=>tactic=>exact app_get H [PObj.mk 55 (m.tgs.map dem) 1,PObj.mk 57 (m.rep.map dem) 1,PObj.mk 59 (m.ap.map dem) 1] 0);(conv=>whnf))
  refine ⟨fun h=>?_,fun h=>?_⟩
  rotate_left
  ·have f43:decide (m.tNonce=0)=false:=zqd fun hh=>h (Iff.mpr Iff.rfl hh)
   conv=>whnf
   exact ⟨zqm PV.bool (by unfold othersB noTgs noRep noAp noFail;simp only [e1,e2,e3,e4,e5,f38,f39,f40,f41,f42,f43,zq6,zq5,zq8,zq7,zq9,zqa,zq3,zq4]),_,rfl⟩
  have f43:decide (m.tNonce=0)=true:=zqe (Iff.mp Iff.rfl h)
  conv=>whnf
  refine ⟨fun h=>?_,fun h=>?_⟩
  ·exact (n3 h).elim
  conv=>whnf
  ((conv in (_[_]?)=>tactic=>exact app_get H [PObj.mk 55 (m.tgs.map dem) 1,PObj.mk 57 (m.rep.map dem) 1,PObj.mk 59 (m.ap.map dem) 1] 1);(conv=>whnf))
  refine ⟨⟨fitG _ _,fitG [] []⟩,?_⟩
  conv=>whnf
  refine ⟨fun h=>?_,fun h=>?_⟩
  rotate_left
  ·have f44:decide (m.r1=[]∧m.r2=[])=false:=zqd fun hh=>h (Iff.mpr pr_eq hh)
   conv=>whnf
   exact ⟨zqm PV.bool (by unfold othersB noTgs noRep noAp noFail;simp only [e1,e2,e3,e4,e5,f38,f39,f40,f41,f42,f43,f44,zq6,zq5,zq8,zq7,zq9,zqa,zq3,zq4]),_,rfl⟩
  have f44:decide (m.r1=[]∧m.r2=[])=true:=zqe (Iff.mp pr_eq h)
  conv=>whnf
  ((conv in (_[_]?)=>tactic=>exact app_get H [PObj.mk 55 (m.tgs.map dem) 1,PObj.mk 57 (m.rep.map dem) 1,PObj.mk 59 (m.ap.map dem) 1] 1);(conv=>whnf))
  refine cP (c183 m.r3 m.r4 m.rKv m.rB none) ?_
  cases f45:noTk m.r3 m.r4 m.rKv m.rB.length
  ·conv=>whnf
   exact ⟨zqm PV.bool (by unfold othersB noTgs noRep noAp noFail;simp only [e1,e2,e3,e4,e5,f38,f39,f40,f41,f42,f43,f44,f45,zq6,zq5,zq8,zq7,zq9,zqa,zq3,zq4]),_,rfl⟩
  conv=>whnf
  ((conv in (_[_]?)=>tactic=>exact app_get H [PObj.mk 55 (m.tgs.map dem) 1,PObj.mk 57 (m.rep.map dem) 1,PObj.mk 59 (m.ap.map dem) 1] 1);(conv=>whnf))
  refine ⟨fun h=>?_,fun h=>?_⟩
  rotate_left
  ·have f46:decide (m.rBl.length=0)=false:=zqd fun hh=>h (Iff.mpr nat0 hh)
   conv=>whnf
   exact ⟨zqm PV.bool (by unfold othersB noTgs noRep noAp noFail;simp only [e1,e2,e3,e4,e5,f38,f39,f40,f41,f42,f43,f44,f45,f46,zq6,zq5,zq8,zq7,zq9,zqa,zq3,zq4]),_,rfl⟩
  have f46:decide (m.rBl.length=0)=true:=zqe (Iff.mp nat0 h)
  conv=>whnf
  refine ⟨fun h=>?_,fun h=>?_⟩
  ·exact (n4 h).elim
  conv=>whnf
  ((conv in (_[_]?)=>tactic=>exact app_get H [PObj.mk 55 (m.tgs.map dem) 1,PObj.mk 57 (m.rep.map dem) 1,PObj.mk 59 (m.ap.map dem) 1] 2);(conv=>whnf))
  refine cP (c183 m.p1 m.p2 m.pKv m.pB none) ?_
  cases f47:noTk m.p1 m.p2 m.pKv m.pB.length
  ·conv=>whnf
   exact ⟨zqm PV.bool (by unfold othersB noTgs noRep noAp noFail;simp only [e1,e2,e3,e4,e5,f38,f39,f40,f41,f42,f43,f44,f45,f46,f47,zq6,zq5,zq8,zq7,zq9,zqa,zq3,zq4]),_,rfl⟩
  conv=>whnf
  ((conv in (_[_]?)=>tactic=>exact app_get H [PObj.mk 55 (m.tgs.map dem) 1,PObj.mk 57 (m.rep.map dem) 1,PObj.mk 59 (m.ap.map dem) 1] 2);(conv=>whnf))
  refine ⟨fun h=>?_,fun h=>?_⟩
  rotate_left
  ·have f48:decide (m.pAu.length=0)=false:=zqd fun hh=>h (Iff.mpr nat0 hh)
   conv=>whnf
   exact ⟨zqm PV.bool (by unfold othersB noTgs noRep noAp noFail;simp only [e1,e2,e3,e4,e5,f38,f39,f40,f41,f42,f43,f44,f45,f46,f47,f48,zq6,zq5,zq8,zq7,zq9,zqa,zq3,zq4]),_,rfl⟩
  have f48:decide (m.pAu.length=0)=true:=zqe (Iff.mp nat0 h)
  conv=>whnf
  refine ⟨fun h=>?_,fun h=>?_⟩
  rotate_left
  ·exact (h hk).elim
  conv=>whnf
  exact ⟨zqm PV.bool (by unfold othersB noTgs noRep noAp noFail;simp only [e1,e2,e3,e4,e5,f38,f39,f40,f41,f42,f43,f44,f45,f46,f47,f48,zq6,zq5,zq8,zq7,zq9,zqa,zq3,zq4]),_,rfl⟩
 have n1:¬m.kind=1:=h1
 have n2:¬m.kind=2:=h2
 have n3:¬m.kind=3:=h3
 have n4:¬m.kind=4:=h4
 have n5:¬m.kind=5:=h5
 have e1:decide (m.kind=1)=false:=zqd n1
 have e2:decide (m.kind=2)=false:=zqd n2
 have e3:decide (m.kind=3)=false:=zqd n3
 have e4:decide (m.kind=4)=false:=zqd n4
 have e5:decide (m.kind=5)=false:=zqd n5
 refine ⟨fun h=>?_,fun h=>?_⟩
 ·exact (n1 h).elim
 conv=>whnf
 refine ⟨⟨fitA _ _ _ _ _ _,fitA [] [] [] [] 0 0⟩,?_⟩
 conv=>whnf
 refine ⟨fun h=>?_,fun h=>?_⟩
 rotate_left
 ·have f49:noAs m=false:=zqd fun hh=>h (Iff.mpr as_eq hh)
  conv=>whnf
  exact ⟨zqm PV.bool (by unfold othersB noTgs noRep noAp noFail;simp only [e1,e2,e3,e4,e5,f49,zq6,zq5,zq8,zq7,zq9,zqa,zq3,zq4]),_,rfl⟩
 have f49:noAs m=true:=zqe (Iff.mp as_eq h)
 conv=>whnf
 refine ⟨fun h=>?_,fun h=>?_⟩
 ·exact (n2 h).elim
 conv=>whnf
 ((conv in (_[_]?)=>tactic=>exact app_get H [PObj.mk 55 (m.tgs.map dem) 1,PObj.mk 57 (m.rep.map dem) 1,PObj.mk 59 (m.ap.map dem) 1] 0);(conv=>whnf))
 refine cP (c183 m.t1 m.t2 m.tKv m.tB none) ?_
 cases f50:noTk m.t1 m.t2 m.tKv m.tB.length
 ·conv=>whnf
  exact ⟨zqm PV.bool (by unfold othersB noTgs noRep noAp noFail;simp only [e1,e2,e3,e4,e5,f49,f50,zq6,zq5,zq8,zq7,zq9,zqa,zq3,zq4]),_,rfl⟩
 conv=>whnf
 ((conv in (_[_]?)=>tactic=>exact app_get H [PObj.mk 55 (m.tgs.map dem) 1,PObj.mk 57 (m.rep.map dem) 1,PObj.mk 59 (m.ap.map dem) 1] 0);(conv=>whnf))
 refine ⟨fun h=>?_,fun h=>?_⟩
 rotate_left
 ·have f51:decide (m.tAu.length=0)=false:=zqd fun hh=>h (Iff.mpr nat0 hh)
  conv=>whnf
  exact ⟨zqm PV.bool (by unfold othersB noTgs noRep noAp noFail;simp only [e1,e2,e3,e4,e5,f49,f50,f51,zq6,zq5,zq8,zq7,zq9,zqa,zq3,zq4]),_,rfl⟩
 have f51:decide (m.tAu.length=0)=true:=zqe (Iff.mp nat0 h)
 conv=>whnf
 ((conv in (_[_]?)=>tactic=>exact app_get H [PObj.mk 55 (m.tgs.map dem) 1,PObj.mk 57 (m.rep.map dem) 1,PObj.mk 59 (m.ap.map dem) 1] 0);(conv=>whnf))
 refine ⟨⟨fitG _ _,fitG [] []⟩,?_⟩
 conv=>whnf
 refine ⟨fun h=>?_,fun h=>?_⟩
 rotate_left
 ·have f52:decide (m.t3=[]∧m.t4=[])=false:=zqd fun hh=>h (Iff.mpr pr_eq hh)
  conv=>whnf
  exact ⟨zqm PV.bool (by unfold othersB noTgs noRep noAp noFail;simp only [e1,e2,e3,e4,e5,f49,f50,f51,f52,zq6,zq5,zq8,zq7,zq9,zqa,zq3,zq4]),_,rfl⟩
 have f52:decide (m.t3=[]∧m.t4=[])=true:=zqe (Iff.mp pr_eq h)
 conv=>whnf
 ((conv in (_[_]?)=>tactic=>exact app_get H [PObj.mk 55 (m.tgs.map dem) 1,PObj.mk 57 (m.rep.map dem) 1,PObj.mk 59 (m.ap.map dem) 1] 0);(conv=>whnf))
 refine ⟨fun h=>?_,fun h=>?_⟩
 rotate_left
 ·have f53:decide (m.tTill=0)=false:=zqd fun hh=>h (Iff.mpr Iff.rfl hh)
  conv=>whnf
  exact ⟨zqm PV.bool (by unfold othersB noTgs noRep noAp noFail;simp only [e1,e2,e3,e4,e5,f49,f50,f51,f52,f53,zq6,zq5,zq8,zq7,zq9,zqa,zq3,zq4]),_,rfl⟩
 have f53:decide (m.tTill=0)=true:=zqe (Iff.mp Iff.rfl h)
 conv=>whnf
 ((conv in (_[_]?)=>tactic=>exact app_get H [PObj.mk 55 (m.tgs.map dem) 1,PObj.mk 57 (m.rep.map dem) 1,PObj.mk 59 (m.ap.map dem) 1] 0);(conv=>whnf))
 refine ⟨fun h=>?_,fun h=>?_⟩
 rotate_left
 ·have f54:decide (m.tNonce=0)=false:=zqd fun hh=>h (Iff.mpr Iff.rfl hh)
  conv=>whnf
  exact ⟨zqm PV.bool (by unfold othersB noTgs noRep noAp noFail;simp only [e1,e2,e3,e4,e5,f49,f50,f51,f52,f53,f54,zq6,zq5,zq8,zq7,zq9,zqa,zq3,zq4]),_,rfl⟩
 have f54:decide (m.tNonce=0)=true:=zqe (Iff.mp Iff.rfl h)
 conv=>whnf
 refine ⟨fun h=>?_,fun h=>?_⟩
 ·exact (n3 h).elim
 conv=>whnf
 ((conv in (_[_]?)=>tactic=>exact app_get H [PObj.mk 55 (m.tgs.map dem) 1,PObj.mk 57 (m.rep.map dem) 1,PObj.mk 59 (m.ap.map dem) 1] 1);(conv=>whnf))
 refine ⟨⟨fitG _ _,fitG [] []⟩,?_⟩
 conv=>whnf
 refine ⟨fun h=>?_,fun h=>?_⟩
 rotate_left
 ·have f55:decide (m.r1=[]∧m.r2=[])=false:=zqd fun hh=>h (Iff.mpr pr_eq hh)
  conv=>whnf
  exact ⟨zqm PV.bool (by unfold othersB noTgs noRep noAp noFail;simp only [e1,e2,e3,e4,e5,f49,f50,f51,f52,f53,f54,f55,zq6,zq5,zq8,zq7,zq9,zqa,zq3,zq4]),_,rfl⟩
 have f55:decide (m.r1=[]∧m.r2=[])=true:=zqe (Iff.mp pr_eq h)
 conv=>whnf
 ((conv in (_[_]?)=>tactic=>exact app_get H [PObj.mk 55 (m.tgs.map dem) 1,PObj.mk 57 (m.rep.map dem) 1,PObj.mk 59 (m.ap.map dem) 1] 1);(conv=>whnf))
 refine cP (c183 m.r3 m.r4 m.rKv m.rB none) ?_
 cases f56:noTk m.r3 m.r4 m.rKv m.rB.length
 ·conv=>whnf
  exact ⟨zqm PV.bool (by unfold othersB noTgs noRep noAp noFail;simp only [e1,e2,e3,e4,e5,f49,f50,f51,f52,f53,f54,f55,f56,zq6,zq5,zq8,zq7,zq9,zqa,zq3,zq4]),_,rfl⟩
 conv=>whnf
 ((conv in (_[_]?)=>tactic=>exact app_get H [PObj.mk 55 (m.tgs.map dem) 1,PObj.mk 57 (m.rep.map dem) 1,PObj.mk 59 (m.ap.map dem) 1] 1);(conv=>whnf))
 refine ⟨fun h=>?_,fun h=>?_⟩
 rotate_left
 ·have f57:decide (m.rBl.length=0)=false:=zqd fun hh=>h (Iff.mpr nat0 hh)
  conv=>whnf
  exact ⟨zqm PV.bool (by unfold othersB noTgs noRep noAp noFail;simp only [e1,e2,e3,e4,e5,f49,f50,f51,f52,f53,f54,f55,f56,f57,zq6,zq5,zq8,zq7,zq9,zqa,zq3,zq4]),_,rfl⟩
 have f57:decide (m.rBl.length=0)=true:=zqe (Iff.mp nat0 h)
 conv=>whnf
 refine ⟨fun h=>?_,fun h=>?_⟩
 ·exact (n4 h).elim
 conv=>whnf
 ((conv in (_[_]?)=>tactic=>exact app_get H [PObj.mk 55 (m.tgs.map dem) 1,PObj.mk 57 (m.rep.map dem) 1,PObj.mk 59 (m.ap.map dem) 1] 2);(conv=>whnf))
 refine cP (c183 m.p1 m.p2 m.pKv m.pB none) ?_
 cases f58:noTk m.p1 m.p2 m.pKv m.pB.length
 ·conv=>whnf
  exact ⟨zqm PV.bool (by unfold othersB noTgs noRep noAp noFail;simp only [e1,e2,e3,e4,e5,f49,f50,f51,f52,f53,f54,f55,f56,f57,f58,zq6,zq5,zq8,zq7,zq9,zqa,zq3,zq4]),_,rfl⟩
 conv=>whnf
 ((conv in (_[_]?)=>tactic=>exact app_get H [PObj.mk 55 (m.tgs.map dem) 1,PObj.mk 57 (m.rep.map dem) 1,PObj.mk 59 (m.ap.map dem) 1] 2);(conv=>whnf))
 refine ⟨fun h=>?_,fun h=>?_⟩
 rotate_left
 ·have f59:decide (m.pAu.length=0)=false:=zqd fun hh=>h (Iff.mpr nat0 hh)
  conv=>whnf
  exact ⟨zqm PV.bool (by unfold othersB noTgs noRep noAp noFail;simp only [e1,e2,e3,e4,e5,f49,f50,f51,f52,f53,f54,f55,f56,f57,f58,f59,zq6,zq5,zq8,zq7,zq9,zqa,zq3,zq4]),_,rfl⟩
 have f59:decide (m.pAu.length=0)=true:=zqe (Iff.mp nat0 h)
 conv=>whnf
 refine ⟨fun h=>?_,fun h=>?_⟩
 ·exact (n5 h).elim
 conv=>whnf
 refine ⟨⟨fitF _ _,fitF 0 0⟩,?_⟩
 conv=>whnf
 refine ⟨fun h=>?_,fun h=>?_⟩
 rotate_left
 ·have f60:decide (m.fErr=0∧m.fNonce=0)=false:=zqd fun hh=>h (Iff.mpr fl_eq hh)
  conv=>whnf
  exact ⟨zqm PV.bool (by unfold othersB noTgs noRep noAp noFail;simp only [e1,e2,e3,e4,e5,f49,f50,f51,f52,f53,f54,f55,f56,f57,f58,f59,f60,zq6,zq5,zq8,zq7,zq9,zqa,zq3,zq4]),_,rfl⟩
 have f60:decide (m.fErr=0∧m.fNonce=0)=true:=zqe (Iff.mp fl_eq h)
 conv=>whnf
 exact ⟨zqm PV.bool (by unfold othersB noTgs noRep noAp noFail;simp only [e1,e2,e3,e4,e5,f49,f50,f51,f52,f53,f54,f55,f56,f57,f58,f59,f60,zq6,zq5,zq8,zq7,zq9,zqa,zq3,zq4]),_,rfl⟩
theorem c163 (m:Msg):Pure prog 163 [.agg m.cells] (.bool (othersB m)):=Pure.of_gc rfl (c163x m)
def Msg.fits (m:Msg):Prop:=m.a1.length≤1099511620000∧m.a2.length≤1099511620000∧m.a3.length≤1099511620000∧m.a4.length≤1099511620000∧m.t1.length≤1099511620000∧m.t2.length≤1099511620000∧m.t3.length≤1099511620000∧m.t4.length≤1099511620000∧m.r1.length≤1099511620000∧m.r2.length≤1099511620000∧m.r3.length≤1099511620000∧m.r4.length≤1099511620000∧m.p1.length≤1099511620000∧m.p2.length≤1099511620000
def isB (m:Msg):Bool :=
  (if m.kind=1 then isPrincB m.a1 m.a2&&isPrincB m.a3 m.a4&&inZ m.aTill 0 1073741824&&inZ m.aNonce 0 1073741824
   else if m.kind=2 then tickB m.t1 m.t2 m.tKv m.tB.length&&inZ m.tAu.length 1 800&&isPrincB m.t3 m.t4&&inZ m.tTill 0 1073741824&&inZ m.tNonce 0 1073741824
   else if m.kind=3 then isPrincB m.r1 m.r2&&tickB m.r3 m.r4 m.rKv m.rB.length&&inZ m.rBl.length 1 800
   else if m.kind=4 then tickB m.p1 m.p2 m.pKv m.pB.length&&inZ m.pAu.length 1 800
   else if m.kind=5 then inZ m.fErr 1 255&&inZ m.fNonce 0 1073741824
   else false)&&othersB m
def Msg.d (m:Msg):Msg:={ m with tBo:=none,tAuo:=none,rBo:=none,rBlo:=none,pBo:=none,pAuo:=none }
theorem od {m:Msg}:othersB m.d=othersB m:=rfl
theorem c154a (n:Int):Pure prog 154 [.slice 1 [.int .i64 n] none] (.bool (inZ n 0 1073741824)):=(c154 [n] (by show 1≤_;omega)).of_eq (by show PV.bool (inZ n 0 1073741824&&true)=_;rw [zq6])
theorem c117x (m:Msg) (hm:m.fits) (H:PH):CK prog 117 [.agg m.cells] H fun r H'=>r=.bool (isB m)∧∃ext,H'=H++ext:=by
 (refine fnS (imm:=imm117) ttGm_ok func117 ?_;(conv=>whnf))
 conv=>whnf
 by_cases h1:m.kind=1
 ·have hk:=h1
  have n2:¬m.kind=2:=by omega
  have n3:¬m.kind=3:=by omega
  have n4:¬m.kind=4:=by omega
  have n5:¬m.kind=5:=by omega
  refine ⟨fun h=>?_,fun h=>?_⟩
  rotate_left
  ·exact (h hk).elim
  conv=>whnf
  ((conv in (_[_]?)=>tactic=>exact gL _ _);(conv=>whnf))
  ((conv in (_[_]?)=>tactic=>exact gS (gL _ _));(conv=>whnf))
  refine cP (c79 m.a1 m.a2 (by have:=hm.1;omega) (by have:=hm.2.1;omega)) ?_
  cases f1:isPrincB m.a1 m.a2
  ·conv=>whnf
   exact ⟨zqm PV.bool (by unfold isB;rw [zqp hk];simp only [f1,od,zq6,zq5,zq3,zq4]),(Ext.refl _).push _ |>.set (Ext.refl _).len _⟩
  conv=>whnf
  ((conv in (_[_]?)=>tactic=>exact gS (gL _ _));(conv=>whnf))
  refine cP (c79 m.a3 m.a4 (by have:=hm.2.2.1;omega) (by have:=hm.2.2.2.1;omega)) ?_
  cases f2:isPrincB m.a3 m.a4
  ·conv=>whnf
   exact ⟨zqm PV.bool (by unfold isB;rw [zqp hk];simp only [f1,f2,od,zq6,zq5,zq3,zq4]),(Ext.refl _).push _ |>.set (Ext.refl _).len _⟩
  conv=>whnf
  ((conv in (_[_]?)=>tactic=>exact gS (gL _ _));(conv=>whnf))
  refine cP (c154a m.aTill) ?_
  cases f3:inZ m.aTill 0 1073741824
  ·conv=>whnf
   exact ⟨zqm PV.bool (by unfold isB;rw [zqp hk];simp only [f1,f2,f3,od,zq6,zq5,zq3,zq4]),(Ext.refl _).push _ |>.set (Ext.refl _).len _⟩
  conv=>whnf
  ((conv in (_[_]?)=>tactic=>exact gS (gL _ _));(conv=>whnf))
  refine cP (c155 m.aNonce) ?_
  cases f4:inZ m.aNonce 0 1073741824
  ·conv=>whnf
   exact ⟨zqm PV.bool (by unfold isB;rw [zqp hk];simp only [f1,f2,f3,f4,od,zq6,zq5,zq3,zq4]),(Ext.refl _).push _ |>.set (Ext.refl _).len _⟩
  conv=>whnf
  refine cP (c163 m.d) ?_
  conv=>whnf
  exact ⟨zqm PV.bool (by unfold isB;rw [zqp hk];simp only [f1,f2,f3,f4,od,zq6,zq5,zq3,zq4]),(Ext.refl _).push _ |>.set (Ext.refl _).len _⟩
 by_cases h2:m.kind=2
 ·have hk:=h2
  have n1:¬m.kind=1:=by omega
  have n3:¬m.kind=3:=by omega
  have n4:¬m.kind=4:=by omega
  have n5:¬m.kind=5:=by omega
  refine ⟨fun h=>?_,fun h=>?_⟩
  ·exact (n1 h).elim
  conv=>whnf
  refine ⟨fun h=>?_,fun h=>?_⟩
  rotate_left
  ·exact (h hk).elim
  conv=>whnf
  ((conv in (_[_]?)=>tactic=>exact gL _ _);(conv=>whnf))
  ((conv in (_[_]?)=>tactic=>exact gS (gL _ _));(conv=>whnf))
  refine cP (c160 m.t1 m.t2 m.tKv m.tB none (by have:=hm.2.2.2.2.1;omega) (by have:=hm.2.2.2.2.2.1;omega)) ?_
  cases f5:tickB m.t1 m.t2 m.tKv m.tB.length
  ·conv=>whnf
   exact ⟨zqm PV.bool (by unfold isB;rw [zqo n1];rw [zqp hk];simp only [f5,od,zq6,zq5,zq3,zq4]),(Ext.refl _).push _ |>.set (Ext.refl _).len _⟩
  conv=>whnf
  ((conv in (_[_]?)=>tactic=>exact gS (gL _ _));(conv=>whnf))
  refine cP (c161 m.tAu.length _ _) ?_
  cases f6:inZ m.tAu.length 1 800
  ·conv=>whnf
   exact ⟨zqm PV.bool (by unfold isB;rw [zqo n1];rw [zqp hk];simp only [f5,f6,od,zq6,zq5,zq3,zq4]),(Ext.refl _).push _ |>.set (Ext.refl _).len _⟩
  conv=>whnf
  ((conv in (_[_]?)=>tactic=>exact gS (gL _ _));(conv=>whnf))
  refine cP (c79 m.t3 m.t4 (by have:=hm.2.2.2.2.2.2.1;omega) (by have:=hm.2.2.2.2.2.2.2.1;omega)) ?_
  cases f7:isPrincB m.t3 m.t4
  ·conv=>whnf
   exact ⟨zqm PV.bool (by unfold isB;rw [zqo n1];rw [zqp hk];simp only [f5,f6,f7,od,zq6,zq5,zq3,zq4]),(Ext.refl _).push _ |>.set (Ext.refl _).len _⟩
  conv=>whnf
  ((conv in (_[_]?)=>tactic=>exact gS (gL _ _));(conv=>whnf))
  refine cP (c154a m.tTill) ?_
  cases f8:inZ m.tTill 0 1073741824
  ·conv=>whnf
   exact ⟨zqm PV.bool (by unfold isB;rw [zqo n1];rw [zqp hk];simp only [f5,f6,f7,f8,od,zq6,zq5,zq3,zq4]),(Ext.refl _).push _ |>.set (Ext.refl _).len _⟩
  conv=>whnf
  ((conv in (_[_]?)=>tactic=>exact gS (gL _ _));(conv=>whnf))
  refine cP (c155 m.tNonce) ?_
  cases f9:inZ m.tNonce 0 1073741824
  ·conv=>whnf
   exact ⟨zqm PV.bool (by unfold isB;rw [zqo n1];rw [zqp hk];simp only [f5,f6,f7,f8,f9,od,zq6,zq5,zq3,zq4]),(Ext.refl _).push _ |>.set (Ext.refl _).len _⟩
  conv=>whnf
  refine cP (c163 m.d) ?_
  conv=>whnf
  exact ⟨zqm PV.bool (by unfold isB;rw [zqo n1];rw [zqp hk];simp only [f5,f6,f7,f8,f9,od,zq6,zq5,zq3,zq4]),(Ext.refl _).push _ |>.set (Ext.refl _).len _⟩
 by_cases h3:m.kind=3
 ·have hk:=h3
  have n1:¬m.kind=1:=by omega
  have n2:¬m.kind=2:=by omega
  have n4:¬m.kind=4:=by omega
  have n5:¬m.kind=5:=by omega
  refine ⟨fun h=>?_,fun h=>?_⟩
  ·exact (n1 h).elim
  conv=>whnf
  refine ⟨fun h=>?_,fun h=>?_⟩
  ·exact (n2 h).elim
  conv=>whnf
  refine ⟨fun h=>?_,fun h=>?_⟩
  rotate_left
  ·exact (h hk).elim
  conv=>whnf
  refine cP (c79 m.r1 m.r2 (by have:=hm.2.2.2.2.2.2.2.2.1;omega) (by have:=hm.2.2.2.2.2.2.2.2.2.1;omega)) ?_
  cases f10:isPrincB m.r1 m.r2
  ·conv=>whnf
   exact ⟨zqm PV.bool (by unfold isB;rw [zqo n1];rw [zqo n2];rw [zqp hk];simp only [f10,od,zq6,zq5,zq3,zq4]),Ext.refl _⟩
  conv=>whnf
  refine cP (c160 m.r3 m.r4 m.rKv m.rB none (by have:=hm.2.2.2.2.2.2.2.2.2.2.1;omega) (by have:=hm.2.2.2.2.2.2.2.2.2.2.2.1;omega)) ?_
  cases f11:tickB m.r3 m.r4 m.rKv m.rB.length
  ·conv=>whnf
   exact ⟨zqm PV.bool (by unfold isB;rw [zqo n1];rw [zqo n2];rw [zqp hk];simp only [f10,f11,od,zq6,zq5,zq3,zq4]),Ext.refl _⟩
  conv=>whnf
  refine cP (c161 m.rBl.length _ _) ?_
  cases f12:inZ m.rBl.length 1 800
  ·conv=>whnf
   exact ⟨zqm PV.bool (by unfold isB;rw [zqo n1];rw [zqo n2];rw [zqp hk];simp only [f10,f11,f12,od,zq6,zq5,zq3,zq4]),Ext.refl _⟩
  conv=>whnf
  refine cP (c163 m.d) ?_
  conv=>whnf
  exact ⟨zqm PV.bool (by unfold isB;rw [zqo n1];rw [zqo n2];rw [zqp hk];simp only [f10,f11,f12,od,zq6,zq5,zq3,zq4]),Ext.refl _⟩
 by_cases h4:m.kind=4
 ·have hk:=h4
  have n1:¬m.kind=1:=by omega
  have n2:¬m.kind=2:=by omega
  have n3:¬m.kind=3:=by omega
  have n5:¬m.kind=5:=by omega
  refine ⟨fun h=>?_,fun h=>?_⟩
  ·exact (n1 h).elim
  conv=>whnf
  refine ⟨fun h=>?_,fun h=>?_⟩
  ·exact (n2 h).elim
  conv=>whnf
  refine ⟨fun h=>?_,fun h=>?_⟩
  ·exact (n3 h).elim
  conv=>whnf
  refine ⟨fun h=>?_,fun h=>?_⟩
  rotate_left
  ·exact (h hk).elim
  conv=>whnf
  refine cP (c160 m.p1 m.p2 m.pKv m.pB none (by have:=hm.2.2.2.2.2.2.2.2.2.2.2.2.1;omega) (by have:=hm.2.2.2.2.2.2.2.2.2.2.2.2.2;omega)) ?_
  cases f13:tickB m.p1 m.p2 m.pKv m.pB.length
  ·conv=>whnf
   exact ⟨zqm PV.bool (by unfold isB;rw [zqo n1];rw [zqo n2];rw [zqo n3];rw [zqp hk];simp only [f13,od,zq6,zq5,zq3,zq4]),Ext.refl _⟩
  conv=>whnf
  refine cP (c161 m.pAu.length _ _) ?_
  cases f14:inZ m.pAu.length 1 800
  ·conv=>whnf
   exact ⟨zqm PV.bool (by unfold isB;rw [zqo n1];rw [zqo n2];rw [zqo n3];rw [zqp hk];simp only [f13,f14,od,zq6,zq5,zq3,zq4]),Ext.refl _⟩
  conv=>whnf
  refine cP (c163 m.d) ?_
  conv=>whnf
  exact ⟨zqm PV.bool (by unfold isB;rw [zqo n1];rw [zqo n2];rw [zqo n3];rw [zqp hk];simp only [f13,f14,od,zq6,zq5,zq3,zq4]),Ext.refl _⟩
 by_cases h5:m.kind=5
 ·have hk:=h5
  have n1:¬m.kind=1:=by omega
  have n2:¬m.kind=2:=by omega
  have n3:¬m.kind=3:=by omega
  have n4:¬m.kind=4:=by omega
  refine ⟨fun h=>?_,fun h=>?_⟩
  ·exact (n1 h).elim
  conv=>whnf
  refine ⟨fun h=>?_,fun h=>?_⟩
  ·exact (n2 h).elim
  conv=>whnf
  refine ⟨fun h=>?_,fun h=>?_⟩
  ·exact (n3 h).elim
  conv=>whnf
  refine ⟨fun h=>?_,fun h=>?_⟩
  ·exact (n4 h).elim
  conv=>whnf
  refine ⟨fun h=>?_,fun h=>?_⟩
  rotate_left
  ·exact (h hk).elim
  conv=>whnf
  refine cP (c162 m.fErr 1 255) ?_
  cases f15:inZ m.fErr 1 255
  ·conv=>whnf
   exact ⟨zqm PV.bool (by unfold isB;rw [zqo n1];rw [zqo n2];rw [zqo n3];rw [zqo n4];rw [zqp hk];simp only [f15,od,zq6,zq5,zq3,zq4]),Ext.refl _⟩
  conv=>whnf
  refine cP (c155 m.fNonce) ?_
  cases f16:inZ m.fNonce 0 1073741824
  ·conv=>whnf
   exact ⟨zqm PV.bool (by unfold isB;rw [zqo n1];rw [zqo n2];rw [zqo n3];rw [zqo n4];rw [zqp hk];simp only [f15,f16,od,zq6,zq5,zq3,zq4]),Ext.refl _⟩
  conv=>whnf
  refine cP (c163 m.d) ?_
  conv=>whnf
  exact ⟨zqm PV.bool (by unfold isB;rw [zqo n1];rw [zqo n2];rw [zqo n3];rw [zqo n4];rw [zqp hk];simp only [f15,f16,od,zq6,zq5,zq3,zq4]),Ext.refl _⟩
 have n1:¬m.kind=1:=h1
 have n2:¬m.kind=2:=h2
 have n3:¬m.kind=3:=h3
 have n4:¬m.kind=4:=h4
 have n5:¬m.kind=5:=h5
 refine ⟨fun h=>?_,fun h=>?_⟩
 ·exact (n1 h).elim
 conv=>whnf
 refine ⟨fun h=>?_,fun h=>?_⟩
 ·exact (n2 h).elim
 conv=>whnf
 refine ⟨fun h=>?_,fun h=>?_⟩
 ·exact (n3 h).elim
 conv=>whnf
 refine ⟨fun h=>?_,fun h=>?_⟩
 ·exact (n4 h).elim
 conv=>whnf
 refine ⟨fun h=>?_,fun h=>?_⟩
 ·exact (n5 h).elim
 conv=>whnf
 exact ⟨zqm PV.bool (by unfold isB;rw [zqo n1];rw [zqo n2];rw [zqo n3];rw [zqo n4];rw [zqo n5];simp only [od,zq6,zq5,zq3,zq4]),Ext.refl _⟩
theorem c117 (m:Msg) (hm:m.fits):Pure prog 117 [.agg m.cells] (.bool (isB m)):=Pure.of_gc rfl (c117x m hm)
def imm110:List Nat:=[]
def imm109:List Nat:=[]
def imm108:List Nat:=[1]
def imm105:List Nat:=[1]
def imm106:List Nat:=[1]
def imm107:List Nat:=[1]
def imm61:List Nat:=[1,1000002,1000003,1000004]
theorem c110 (n lo hi:Int):Pure prog 110 [.int .i64 n,.int .i64 lo,.int .i64 hi] (.bool (inZ n lo hi)):=by
 intro H
 (refine fnS (imm:=imm110) ttGm_ok func110 ?_;(conv=>whnf))
 unfold inZ
 refine ⟨fun h=>?_,fun h=>?_⟩
 ·conv=>whnf
  have h:n ≥ lo:=h
  rw [zqe (show lo≤n by omega)]
  refine ⟨fun h2=>?_,fun h2=>?_⟩
  ·conv=>whnf
   rw [zqe h2]
   exact ⟨rfl,rfl⟩
  ·conv=>whnf
   rw [zqd h2]
   exact ⟨rfl,rfl⟩
 ·conv=>whnf
  have h:¬n ≥ lo:=h
  rw [zqd (show ¬lo≤n by omega)]
  exact ⟨rfl,rfl⟩
theorem c109 (n:Nat) (cs:List PV) (o:Option Nat):Pure prog 109 [.slice n cs o] (.bool (inZ n 1 800)):=by
 intro H
 (refine fnS (imm:=imm109) ttGm_ok func109 ?_;(conv=>whnf))
 (refine cP ((c110 n 1 800)) ?_;try (conv=>whnf))
 exact ⟨rfl,rfl⟩
theorem c108 (r n:List UInt8) (kv:Int) (b:List UInt8) (o:Option Nat) (hr:r.length≤1099511627775) (hn:n.length≤1099511627775) :
  Pure prog 108 [.agg [.str r,.str n,.int .i64 kv,slo b o]] (.bool (tickB r n kv b.length)):=by
 intro H
 (refine fnS (imm:=imm108) ttGm_ok func108 ?_;(conv=>whnf))
 refine cP (c36 r n hr hn) ?_
 cases f1:isPrincB r n
 ·conv=>whnf
  exact ⟨zqm PV.bool (by unfold tickB;simp only [f1,zq6,zq5,zq3,zq4]),rfl⟩
 conv=>whnf
 refine cP (c110 kv 1 255) ?_
 cases f2:inZ kv 1 255
 ·conv=>whnf
  exact ⟨zqm PV.bool (by unfold tickB;simp only [f1,f2,zq6,zq5,zq3,zq4]),rfl⟩
 conv=>whnf
 refine cP (c109 b.length _ _) ?_
 cases f3:inZ b.length 1 800
 ·conv=>whnf
  exact ⟨zqm PV.bool (by unfold tickB;simp only [f1,f2,f3,zq6,zq5,zq3,zq4]),rfl⟩
 conv=>whnf
 exact ⟨zqm PV.bool (by unfold tickB;simp only [f1,f2,f3,zq6,zq5,zq3,zq4]),rfl⟩
theorem c105 (r n:List UInt8) (kv:Int) (b:List UInt8) (o:Option Nat):Pure prog 105 [.agg [.str r,.str n,.int .i64 kv,slo b o]] (.bool (noTk r n kv b.length)):=by
 intro H
 (refine fnS (imm:=imm105) ttGm_ok func105 ?_;(conv=>whnf))
 refine ⟨⟨fitG _ _,fitG [] []⟩,?_⟩
 conv=>whnf
 refine ⟨fun h=>?_,fun h=>?_⟩
 rotate_left
 ·have f4:decide (r=[]∧n=[])=false:=zqd fun hh=>h (Iff.mpr pr_eq hh)
  conv=>whnf
  exact ⟨zqm PV.bool (by unfold noTk;simp only [f4,zq6,zq5,zq3,zq4]),rfl⟩
 have f4:decide (r=[]∧n=[])=true:=zqe (Iff.mp pr_eq h)
 conv=>whnf
 refine ⟨fun h=>?_,fun h=>?_⟩
 rotate_left
 ·have f5:decide (kv=0)=false:=zqd fun hh=>h (Iff.mpr Iff.rfl hh)
  conv=>whnf
  exact ⟨zqm PV.bool (by unfold noTk;simp only [f4,f5,zq6,zq5,zq3,zq4]),rfl⟩
 have f5:decide (kv=0)=true:=zqe (Iff.mp Iff.rfl h)
 conv=>whnf
 refine ⟨fun h=>?_,fun h=>?_⟩
 rotate_left
 ·have f6:decide (b.length=0)=false:=zqd fun hh=>h (Iff.mpr nat0 hh)
  conv=>whnf
  exact ⟨zqm PV.bool (by unfold noTk;simp only [f4,f5,f6,zq6,zq5,zq3,zq4]),rfl⟩
 have f6:decide (b.length=0)=true:=zqe (Iff.mp nat0 h)
 conv=>whnf
 exact ⟨zqm PV.bool (by unfold noTk;simp only [f4,f5,f6,zq6,zq5,zq3,zq4]),rfl⟩
def asB (m:Msg):Bool:=isPrincB m.a1 m.a2&&isPrincB m.a3 m.a4&&inZ m.aTill 0 1073741824&&inZ m.aNonce 0 1073741824
theorem c106 (m:Msg) (hm:m.fits):Pure prog 106 [.agg m.as] (.bool (asB m)):=by
 intro H
 (refine fnS (imm:=imm106) ttGm_ok func106 ?_;(conv=>whnf))
 refine cP (c36 m.a1 m.a2 (by have:=hm.1;omega) (by have:=hm.2.1;omega)) ?_
 cases f7:isPrincB m.a1 m.a2
 ·conv=>whnf
  exact ⟨zqm PV.bool (by unfold asB;simp only [f7,zq6,zq5,zq3,zq4]),rfl⟩
 conv=>whnf
 refine cP (c36 m.a3 m.a4 (by have:=hm.2.2.1;omega) (by have:=hm.2.2.2.1;omega)) ?_
 cases f8:isPrincB m.a3 m.a4
 ·conv=>whnf
  exact ⟨zqm PV.bool (by unfold asB;simp only [f7,f8,zq6,zq5,zq3,zq4]),rfl⟩
 conv=>whnf
 refine cP (c110 m.aTill 0 1073741824) ?_
 cases f9:inZ m.aTill 0 1073741824
 ·conv=>whnf
  exact ⟨zqm PV.bool (by unfold asB;simp only [f7,f8,f9,zq6,zq5,zq3,zq4]),rfl⟩
 conv=>whnf
 refine cP (c110 m.aNonce 0 1073741824) ?_
 cases f10:inZ m.aNonce 0 1073741824
 ·conv=>whnf
  exact ⟨zqm PV.bool (by unfold asB;simp only [f7,f8,f9,f10,zq6,zq5,zq3,zq4]),rfl⟩
 conv=>whnf
 exact ⟨zqm PV.bool (by unfold asB;simp only [f7,f8,f9,f10,zq6,zq5,zq3,zq4]),rfl⟩
def tgsB (m:Msg):Bool:=tickB m.t1 m.t2 m.tKv m.tB.length&&inZ m.tAu.length 1 800&&isPrincB m.t3 m.t4&&inZ m.tTill 0 1073741824&&inZ m.tNonce 0 1073741824
theorem c107 (m:Msg) (hm:m.fits):Pure prog 107 [.agg m.tgs] (.bool (tgsB m)):=by
 intro H
 (refine fnS (imm:=imm107) ttGm_ok func107 ?_;(conv=>whnf))
 refine cP (c108 m.t1 m.t2 m.tKv m.tB none (by have:=hm.2.2.2.2.1;omega) (by have:=hm.2.2.2.2.2.1;omega)) ?_
 cases f11:tickB m.t1 m.t2 m.tKv m.tB.length
 ·conv=>whnf
  exact ⟨zqm PV.bool (by unfold tgsB;simp only [f11,zq6,zq5,zq3,zq4]),rfl⟩
 conv=>whnf
 refine cP (c109 m.tAu.length _ _) ?_
 cases f12:inZ m.tAu.length 1 800
 ·conv=>whnf
  exact ⟨zqm PV.bool (by unfold tgsB;simp only [f11,f12,zq6,zq5,zq3,zq4]),rfl⟩
 conv=>whnf
 refine cP (c36 m.t3 m.t4 (by have:=hm.2.2.2.2.2.2.1;omega) (by have:=hm.2.2.2.2.2.2.2.1;omega)) ?_
 cases f13:isPrincB m.t3 m.t4
 ·conv=>whnf
  exact ⟨zqm PV.bool (by unfold tgsB;simp only [f11,f12,f13,zq6,zq5,zq3,zq4]),rfl⟩
 conv=>whnf
 refine cP (c110 m.tTill 0 1073741824) ?_
 cases f14:inZ m.tTill 0 1073741824
 ·conv=>whnf
  exact ⟨zqm PV.bool (by unfold tgsB;simp only [f11,f12,f13,f14,zq6,zq5,zq3,zq4]),rfl⟩
 conv=>whnf
 refine cP (c110 m.tNonce 0 1073741824) ?_
 cases f15:inZ m.tNonce 0 1073741824
 ·conv=>whnf
  exact ⟨zqm PV.bool (by unfold tgsB;simp only [f11,f12,f13,f14,f15,zq6,zq5,zq3,zq4]),rfl⟩
 conv=>whnf
 exact ⟨zqm PV.bool (by unfold tgsB;simp only [f11,f12,f13,f14,f15,zq6,zq5,zq3,zq4]),rfl⟩
end Go.Proofs.Tryz
