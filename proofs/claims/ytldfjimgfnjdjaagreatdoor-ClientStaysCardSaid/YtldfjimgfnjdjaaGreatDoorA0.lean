import Derived.WalkKit
import Derived.ChangeKeysEq
set_option linter.all false
theorem zq1 {α : Type} {i : Nat} {a : α} {l : List α} : l[i]? = some a ↔ ∃ h : i < l.length, l[i] = a := List.getElem?_eq_some_iff
theorem zq2 {α : Type} {l₁ l₂ : List α} {i : Nat} (h : i < l₁.length) : (l₁ ++ l₂)[i]? = l₁[i]? := List.getElem?_append_left h
theorem zq3 (b : Bool) : (b && false) = false := Bool.and_false b
theorem zq4 (b : Bool) : (false && b) = false := Bool.false_and b
theorem zq5 (b : Bool) : (true && b) = b := Bool.true_and b
theorem zq6 (b : Bool) : (b && true) = b := Bool.and_true b
theorem zq7 (b : Bool) : (false || b) = b := Bool.false_or b
theorem zq8 (b : Bool) : (b || false) = b := Bool.or_false b
theorem zq9 (b : Bool) : (true || b) = true := Bool.true_or b
theorem zqa (b : Bool) : (b || true) = true := Bool.or_true b
theorem zqb (a b : Bool) : ((a && b) = true) = (a = true ∧ b = true) := Bool.and_eq_true a b
theorem zqc {α : Type} {l : List α} {i : Nat} (h : i < l.length) : l[i]? = some l[i] := List.getElem?_eq_getElem h
theorem zqd {p : Prop} [inst : Decidable p] (h : ¬ p) : decide p = false := decide_eq_false h
theorem zqe {p : Prop} [inst : Decidable p] (h : p) : decide p = true := decide_eq_true h
theorem zqf {α : Type} {as bs : List α} : (as ++ bs).length = as.length + bs.length := List.length_append
theorem zqg {n m : Nat} (h : n.beq m = true) : n = m := Nat.eq_of_beq_eq_true h
theorem zqh {n m : Nat} (h : n.ble m = true) : n ≤ m := Nat.le_of_ble_eq_true h
theorem zqi {α : Type} {l₁ l₂ : List α} {i : Nat} (h : l₁.length ≤ i) : (l₁ ++ l₂)[i]? = l₂[i - l₁.length]? := List.getElem?_append_right h
theorem zqj {α : Type} {l : List α} {i j : Nat} (h : i ≠ j) {a : α} : (l.set i a)[j]? = l[j]? := List.getElem?_set_ne h
theorem zqm {α β : Type} {a b : α} (f : α → β) (h : a = b) : f a = f b := congrArg f h
theorem zqn (n : Nat) : n ≤ n := Nat.le_refl n
theorem zqo {c : Prop} [i : Decidable c] (h : ¬ c) {α : Type} {t e : α} : ite c t e = e := if_neg h
theorem zqp {c : Prop} [i : Decidable c] (h : c) {α : Type} {t e : α} : ite c t e = t := if_pos h
theorem zqq {α β : Type} {as : List α} (f : α → β) : (as.map f).length = as.length := List.length_map f
theorem zqr {α : Type} {i : Nat} {l : List α} : (l.take i).length = min i l.length := List.length_take
theorem zqs {α : Type} {l : List α} {i j : Nat} : (l.take i)[j]? = if j < i then l[j]? else none := List.getElem?_take
theorem zqt {α : Type} {xs : List α} {i j : Nat} : (xs.drop i)[j]? = xs[i + j]? := List.getElem?_drop
theorem zqk {α : Type} {l : List α} {L : List (List α)} : (l :: L).flatten = l ++ L.flatten := List.flatten_cons
theorem zql {α : Type} : ([] : List (List α)).flatten = [] := List.flatten_nil
theorem zqv : True := True.intro
/- PSem, part 0: pure values, how they lie in memory, and what it means that a call answers so. -/
namespace Ps
open Go
inductive PV where
 | bool (b:Bool)
 | int (k:IntKind) (n:Int)
 | str (s:List UInt8)
 | ptr (p:Option (Nat×Nat))
 | elem (cs:List PV)
 | slice (n:Nat) (cs:List PV) (own:Option Nat)
 | sref (id off n cap:Nat)
 | func (f:Nat) (first caps:List PV)
 | nilF
 | agg (cs:List PV)
 | tup (cs:List PV)
 | undef
 | nilS
 | mref (id:Nat)
 | rref (id off n:Nat)
 deriving Inhabited
structure PObj where
 T:Nat
 cs:List PV
 ver:Nat
abbrev PH:=List PObj
abbrev Env:=List (Nat×PV)
def Env.get:Env→Nat→PV
 | [],_=>.undef
 | (t,v)::E,s=>match Nat.beq t s with
  | true=>v
  | false=>Env.get E s
theorem Env.get_cons (t:Nat) (v:PV) (E:Env) (s:Nat):Env.get ((t,v)::E) s=if t=s then v else Env.get E s:=by
 show (match Nat.beq t s with | true=>v | false=>Env.get E s)=_
 by_cases h:t=s
 ·subst h;simp
 ·have:Nat.beq t s=false:=by
   cases hb:Nat.beq t s
   ·rfl
   ·exact absurd (zqg hb) h
  rw [this];simp [h]
structure Gh where
 ι:List (Option Nat)
 I:Nat→Nat→Prop
def kindAt (w:World) (b:Nat):Nat:=match w.heap[b]? with
 | some (.cells _ _ _)=>1
 | some (.map _ _)=>2
 | _=>0
theorem kindAt_of_heap {w w':World} {b:Nat} (h:w'.heap[b]? = w.heap[b]?):kindAt w' b=kindAt w b:=by unfold kindAt;rw [h]
theorem kindAt_cells {w:World} {b:Nat} {vs:Array Value} {e:Nat} {fr:Nat×Nat} (h:w.heap[b]? = some (.cells vs e fr)):kindAt w b=1:=by unfold kindAt;rw [h]
theorem kindAt_map {w:World} {b:Nat} {es:Array MapEntry} {c:Nat} (h:w.heap[b]? = some (.map es c)):kindAt w b=2:=by unfold kindAt;rw [h]
def strV (s:List UInt8):Value:=.string ⟨s.toArray⟩
inductive V (g:Gh) (w:World):Value→PV→Prop
 | undef (v:Value):V g w v .undef
 | bool (b:Bool):V g w (.bool b) (.bool b)
 | int (k:IntKind) (n:Int):V g w (.int k n) (.int k n)
 | str (s:List UInt8):V g w (strV s) (.str s)
 | nilp:V g w (.pointer none) (.ptr none)
 | ptr (id b off:Nat) (h:g.ι[id]? = some (some b)) (hc:kindAt w b=1):V g w (.pointer (some ⟨b,off,none⟩)) (.ptr (some (id,off)))
 | elem (b off:Nat) (cs:List PV) (u:Nat→Value) (hI:∀j c,cs[j]? = some c→g.I b (off+j)∧w.cell? ⟨b,off+j,none⟩=some (u j))
   (hV:∀j c,cs[j]? = some c→V g w (u j) c):V g w (.pointer (some ⟨b,off,none⟩)) (.elem cs)
 | snil (o:Option Nat):V g w (.slice none 0 0) (.slice 0 [] o)
 | slice (b off n cap:Nat) (cs:List PV) (u:Nat→Value) (hn:n≤cap) (hI:∀j c,cs[j]? = some c→g.I b (off+j)∧w.cell? ⟨b,off+j,none⟩=some (u j))
   (hV:∀j c,cs[j]? = some c→V g w (u j) c):V g w (.slice (some ⟨b,off,none⟩) n cap) (.slice n cs none)
 | sref (id b off n cap:Nat) (h:g.ι[id]? = some (some b)) (hn:n≤cap) (hc:kindAt w b=1):V g w (.slice (some ⟨b,off,none⟩) n cap) (.sref id off n cap)
 | func (f:Nat) (first caps:Array Value) (ps qs:List PV) (h1:first.size=ps.length) (h2:caps.size=qs.length)
   (hV1:∀j c,ps[j]? = some c→V g w (first.getD j undef) c) (hV2:∀j c,qs[j]? = some c→V g w (caps.getD j undef) c) :
   V g w (.func (.func f) first caps) (.func f ps qs)
 | nilF:V g w .nilFunc .nilF
 | nilS:V g w (.slice none 0 0) .nilS
 | mref (id b:Nat) (h:g.ι[id]? = some (some b)) (hc:kindAt w b=2):V g w (.map (some b)) (.mref id)
 | rref (id b off n cap:Nat) (h:g.ι[id]? = some (some b)) (hn:n≤cap) (hc:kindAt w b=1):V g w (.slice (some ⟨b,off,none⟩) n cap) (.rref id off n)
 | agg (vs:Array Value) (cs:List PV) (h:vs.size=cs.length) (hV:∀j c,cs[j]? = some c→V g w (vs.getD j Go.undef) c):V g w (.agg vs) (.agg cs)
structure Keeps (g:Gh) (w:World) (g':Gh) (w':World):Prop where
 ι:∀(id b:Nat),g.ι[id]? = some (some b)→g'.ι[id]? = some (some b)
 I:∀b o,g.I b o→g'.I b o∧w'.cell? ⟨b,o,none⟩=w.cell? ⟨b,o,none⟩
 kind:∀(id b:Nat),g.ι[id]? = some (some b)→kindAt w' b=kindAt w b
theorem Keeps.refl (g:Gh) (w:World):Keeps g w g w:=⟨fun _ _ h=>h,fun _ _ h=>⟨h,rfl⟩,fun _ _ _=>rfl⟩
theorem Keeps.trans {g g1 g2:Gh} {w w1 w2:World} (h:Keeps g w g1 w1) (k:Keeps g1 w1 g2 w2):Keeps g w g2 w2 :=
 ⟨fun id b e=>k.ι id b (h.ι id b e),fun b o e=>⟨(k.I b o (h.I b o e).1).1,(k.I b o (h.I b o e).1).2.trans (h.I b o e).2⟩,fun id b e=>(k.kind id b (h.ι id b e)).trans (h.kind id b e)⟩
theorem V.mono {g g':Gh} {w w':World} (k:Keeps g w g' w') {v:Value} {p:PV} (h:V g w v p):V g' w' v p:=by
 induction h with
 | undef v=>exact .undef v
 | bool b=>exact .bool b
 | int k n=>exact .int k n
 | str s=>exact .str s
 | nilp=>exact .nilp
 | ptr id b off h hc=>exact .ptr id b off (k.ι id b h) ((k.kind id b h).trans hc)
 | elem b off cs u hI hV ih=>exact .elem b off cs u (fun j c hj=>⟨(k.I _ _ (hI j c hj).1).1,(k.I _ _ (hI j c hj).1).2.trans (hI j c hj).2⟩) ih
 | snil o=>exact .snil o
 | slice b off n cap cs u hn hI hV ih=>exact .slice b off n cap cs u hn (fun j c hj=>⟨(k.I _ _ (hI j c hj).1).1,(k.I _ _ (hI j c hj).1).2.trans (hI j c hj).2⟩) ih
 | sref id b off n cap h hn hc=>exact .sref id b off n cap (k.ι id b h) hn ((k.kind id b h).trans hc)
 | func f first caps ps qs h1 h2 hV1 hV2 ih1 ih2=>exact .func f first caps ps qs h1 h2 ih1 ih2
 | nilF=>exact .nilF
 | nilS=>exact .nilS
 | mref id b h hc=>exact .mref id b (k.ι id b h) ((k.kind id b h).trans hc)
 | rref id b off n cap h hn hc=>exact .rref id b off n cap (k.ι id b h) hn ((k.kind id b h).trans hc)
 | agg vs cs h hV ih=>exact .agg vs cs h ih
def psize (P:Program) (t:Nat):Nat:=((P.info? t).map (·.size)).getD 0
structure OwnF (P:Program) (g:Gh) (w:World) (v:Value) (n:Nat) (cs:List PV) (e b:Nat):Prop where
 mk ::
 ex:∃(cap:Nat) (vs:Array Value),v=.slice (some ⟨b,0,none⟩) n cap∧n≤cap∧w.heap[b]? = some (.cells vs e (0,0))∧0<psize P e ∧
  cs.length=n*psize P e∧cap*psize P e≤vs.size
 obj:∀(id:Nat),g.ι[id]?≠some (some b)
 spare:∀o,cs.length≤o→¬g.I b o
def VH (P:Program) (g:Gh) (w:World) (v:Value) (p:PV):Prop :=
 V g w v p∨∃n cs e b,p=.slice n cs (some e)∧V g w v (.slice n cs none)∧OwnF P g w v n cs e b
def VC (P:Program) (g:Gh) (w:World) (v:Value) (p:PV):Prop:=match p with
 | .tup cs=>∃vs:Array Value,v=.tuple vs∧vs.size=cs.length∧∀j c,cs[j]? = some c→VH P g w (vs.getD j undef) c
 | p=>VH P g w v p
def blk:Value→Option Nat
 | .slice (some a) _ _=>some a.block
 | _=>none
def isOwn:PV→Bool
 | .slice _ _ (some _)=>true
 | _=>false
def ownAt (v:Value) (p:PV) (i b:Nat):Prop:=match p with
 | .tup cs=>∃c,cs[i]? = some c∧isOwn c=true∧∃vs:Array Value,v=.tuple vs∧blk (vs.getD i undef)=some b
 | p=>i=0∧isOwn p=true∧blk v=some b
def cellOwnAt (g:Gh) (w:World) (H:PH) (id j b:Nat):Prop :=
 ∃o c b0 v,H[id]? = some o∧o.cs[j]? = some c∧isOwn c=true∧g.ι[id]? = some (some b0)∧w.cell? ⟨b0,j,none⟩=some v∧blk v=some b
def cellOwn (g:Gh) (w:World) (H:PH) (b:Nat):Prop:=∃id j,cellOwnAt g w H id j b
def MapR (g:Gh) (w:World) (b:Nat) (o:PObj):Prop:=∃(es:Array MapEntry) (clock:Nat),w.heap[b]? = some (.map es clock)∧o.cs.length=2*es.size ∧
 (∀(i:Nat) (e:MapEntry),es[i]? = some e→∃k v,o.cs[2*i]? = some k∧o.cs[2*i+1]? = some v∧V g w e.key k∧V g w e.val v∧e.born<clock) ∧
 ∀(i j:Nat) (e f:MapEntry),i<j→es[i]? = some e→es[j]? = some f→e.born<f.born
structure RelH (P:Program) (g:Gh) (w:World) (H:PH):Prop where
 len:g.ι.length=H.length
 inj:∀(id id' b:Nat),g.ι[id]? = some (some b)→g.ι[id']? = some (some b)→id=id'
 full:∀(id b:Nat) (o:PObj),H[id]? = some o→g.ι[id]? = some (some b)→kindAt w b=1∨MapR g w b o
 obj:∀(id b:Nat) (o:PObj),H[id]? = some o→g.ι[id]? = some (some b)→kindAt w b=1→∃vs:Array Value,w.heap[b]? = some (.cells vs o.T (0,0))∧o.cs.length≤vs.size ∧
  ∀(j:Nat) (c:PV),o.cs[j]? = some c→∃v,vs[j]? = some v∧VH P g w v c
 imm:∀b o,g.I b o→(∀(id:Nat),g.ι[id]?≠some (some b))∧∃(vs:Array Value) (e:Nat) (fr:Nat×Nat),w.heap[b]? = some (.cells vs e fr)∧o<vs.size
structure Rel (P:Program) (g:Gh) (w:World) (val:Nat→Value) (E:Env) (H:PH):Prop where
 h:RelH P g w H
 e:∀t,VC P g w (val t) (E.get t)
 ss:∀t i t' i' b,ownAt (val t) (E.get t) i b→ownAt (val t') (E.get t') i' b→t=t'∧i=i'
 sc:∀t i b,ownAt (val t) (E.get t) i b→¬cellOwn g w H b
 cc:∀id j id' j' b,cellOwnAt g w H id j b→cellOwnAt g w H id' j' b→id=id'∧j=j'
structure Same (g:Gh) (w:World) (H:PH) (w':World) (H':PH):Prop where
 more:∀(id:Nat) (o:PObj),H[id]? = some o→∃o',H'[id]? = some o'∧o.ver≤o'.ver
 same:∀(id b:Nat) (o o':PObj),g.ι[id]? = some (some b)→H[id]? = some o→H'[id]? = some o'→o'.ver=o.ver→w'.heap[b]? = w.heap[b]?
theorem Same.refl (g:Gh) (w:World) (H:PH):Same g w H w H:=⟨fun _ o h=>⟨o,h,zqn _⟩,fun _ _ _ _ _ h h' _=>rfl⟩
theorem Same.trans {g g1:Gh} {w w1 w2:World} {H H1 H2:PH} (h:Same g w H w1 H1) (hk:∀(id b:Nat),g.ι[id]? = some (some b)→g1.ι[id]? = some (some b)) (k:Same g1 w1 H1 w2 H2):Same g w H w2 H2:=by
 refine ⟨fun id o e=>?_,fun id b o o2 hi e e2 hv=>?_⟩
 ·obtain ⟨o1,e1,l1⟩:=h.more id o e
  obtain ⟨o2,e2,l2⟩:=k.more id o1 e1
  exact ⟨o2,e2,Nat.le_trans l1 l2⟩
 ·obtain ⟨o1,e1,l1⟩:=h.more id o e
  obtain ⟨o2',e2',l2⟩:=k.more id o1 e1
  rw [e2] at e2';cases e2'
  exact (k.same id b o1 o2 (hk id b hi) e1 e2 (by omega)).trans (h.same id b o o1 hi e e1 (by omega))
structure Step (g:Gh) (w:World) (H:PH) (F:Nat→Prop) (g':Gh) (w':World) (H':PH):Prop where
 fr:Same g w H w' H'
 os:w'.os=w.os
 tape:w'.tape=w.tape
 output:w'.output=w.output
 size:w.heap.size≤w'.heap.size
 keeps:Keeps g w g' w'
 ι:∀(id b:Nat),g'.ι[id]? = some (some b)→(g.ι[id]? = some (some b))∨w.heap.size≤b
 far:∀b,b<w.heap.size→(∀(id:Nat),g.ι[id]?≠some (some b))→¬F b→w'.heap[b]? = w.heap[b]?∧∀o,g'.I b o→g.I b o
 nil:∀(id:Nat),g.ι[id]? = some none→g'.ι[id]? = some none
def valOf (vs:Array Value) (t:Nat):Value:=vs.getD t undef
def args0:Nat→List PV→Env
 | _,[]=>[]
 | i,v::vs=>(i,v)::args0 (i+1) vs
def one (v:Value) (t:Nat):Value:=if t=0 then v else undef
def CallsX (P:Program) (f:FuncId) (args:Array Value) (w:World) (R:Ending→World→Prop):Prop :=
 ((callFunc f args).run P w=.ok (.enter f args) w∧Calls P f args w R)∨∃v w',(callFunc f args).run P w=.ok (.value v) w'∧R (.returned v) w'
theorem CallsX.mono {P:Program} {f:FuncId} {args:Array Value} {w:World} {R R':Ending→World→Prop} (h:CallsX P f args w R) (hr:∀e w',R e w'→R' e w'):CallsX P f args w R':=by
 rcases h with ⟨h1,h2⟩ | ⟨v,w',h1,h2⟩
 ·exact .inl ⟨h1,h2.mono hr⟩
 ·exact .inr ⟨v,w',h1,hr _ _ h2⟩
def CK (P:Program) (f:Nat) (args:List PV) (H:PH) (Q:PV→PH→Prop):Prop :=
 ∀(g:Gh) (w:World) (vs:Array Value),vs.size=args.length→Rel P g w (valOf vs) (args0 0 args) H →
  CallsX P f vs w fun e w'=>∃v r H' g',e=.returned v∧Q r H'∧Rel P g' w' (one v) [(0,r)] H'∧Step g w H (cellOwn g w H) g' w' H' ∧
   (∀i b,ownAt v r i b→w.heap.size≤b∨cellOwn g w H b)∧∀b,cellOwn g' w' H' b→w.heap.size≤b∨cellOwn g w H b
theorem CK.mono {P:Program} {f:Nat} {args:List PV} {H:PH} {Q Q':PV→PH→Prop} (h:CK P f args H Q) (hq:∀r H',Q r H'→Q' r H') :
  CK P f args H Q':=fun g w vs hs hr=>(h g w vs hs hr).mono fun _ _ ⟨v,r,H',g',he,q,x⟩=>⟨v,r,H',g',he,hq _ _ q,x⟩
end Ps
/- PSem, part 1: the calculus over pure values, by recursion on the model's own code. -/
namespace Ps
open Go
/-! ### the table of types -/
inductive TK where
 | bool | int (k:IntKind) | str | ptr | strct (fs:List (Nat×Nat)) | strB (fs:List (Nat×Nat)) | arr (n e:Nat) | slice (e:Nat) | map (k e:Nat) | fn | other
structure TI where
 k:TK
 sz:Nat
 bytes:Nat
 zero:List PV
abbrev TT:=List (Nat×TI)
def TT.get:TT→Nat→Option TI
 | [],_=>none
 | (t,i)::r,s=>match Nat.beq t s with
  | true=>some i
  | false=>TT.get r s
/-! ### helpers that reduce -/
def frc (v:PV) (K:PV→Prop):Prop:=match v with
 | .bool b=>K (.bool b)
 | .int k n=>K (.int k n)
 | .str s=>K (.str s)
 | .ptr p=>K (.ptr p)
 | .elem p=>K (.elem p)
 | .slice n c o=>K (.slice n c o)
 | .sref i o n c=>K (.sref i o n c)
 | .func f a b=>K (.func f a b)
 | .nilF=>K .nilF
 | .agg c=>K (.agg c)
 | .tup c=>K (.tup c)
 | .undef=>K .undef
 | .nilS=>K .nilS
 | .mref i=>K (.mref i)
 | .rref i o n=>K (.rref i o n)
theorem frc_eq (v:PV) (K:PV→Prop):frc v K=K v:=by cases v <;> rfl
def frcd (v:PV) (K:PV→Prop):Prop:=match v with
 | .bool b=>K (.bool b)
 | .int k n=>K (.int k n)
 | .str s=>K (.str s)
 | .ptr p=>K (.ptr p)
 | .elem p=>K (.elem p)
 | .slice n c o=>K (.slice n c o)
 | .sref i o n c=>K (.sref i o n c)
 | .func f a b=>K (.func f a b)
 | .nilF=>K .nilF
 | .agg c=>K (.agg c)
 | .tup c=>K (.tup c)
 | .undef=>False
 | .nilS=>K .nilS
 | .mref i=>K (.mref i)
 | .rref i o n=>K (.rref i o n)
theorem frcd_eq {v:PV} {K:PV→Prop} (h:frcd v K):v≠.undef∧K v:=by cases v <;> first | exact h.elim | exact ⟨(fun h=>by cases h),h⟩
def dem:PV→PV
 | .slice n cs _=>.slice n cs none
 | .tup _=>.undef
 | v=>v
def dmt:PV→PV
 | .tup cs=>.tup (cs.map dem)
 | p=>dem p
def untup:PV→PV
 | .tup _=>.undef
 | v=>v
def frcs:List PV→(List PV→Prop)→Prop
 | [],K=>K []
 | v::vs,K=>frc (dem v) fun v=>frcs vs fun vs=>K (v::vs)
def ofC0:Value→PV
 | .bool b=>.bool b
 | .int k n=>.int k n
 | .string s=>.str s.data.toList
 | .slice none 0 0=>.nilS
 | .pointer none=>.ptr none
 | .nilFunc=>.nilF
 | _=>.undef
def ofC:Value→PV
 | .agg vs=>.agg (vs.toList.map ofC0)
 | v=>ofC0 v
def opnd (E:Env):Operand→PV
 | .tmp t=>E.get t
 | .const v=>ofC v
 | .func f=>.func f [] []
 | .global _=>.undef
def opnds (E:Env):List Operand→List PV
 | []=>[]
 | x::xs=>opnd E x::opnds E xs
def dropN:Nat→List PV→List PV
 | 0,l=>l
 | n+1,l=>match l with
  | []=>[]
  | _::l=>dropN n l
theorem dropN_eq (n:Nat) (l:List PV):dropN n l=l.drop n:=by
 induction n generalizing l with
 | zero=>simp [dropN]
 | succ n ih=>cases l <;> simp [dropN,ih]
def setCells:Nat→List PV→List PV→List PV
 | _,[],l=>l
 | 0,c::cs,l=>match l with
  | []=>[]
  | _::l=>c::setCells 0 cs l
 | n+1,cs,l=>match l with
  | []=>[]
  | x::l=>x::setCells n cs l
def cellsOf:PV→List PV
 | .agg cs=>cs
 | .slice n cs _=>[.slice n cs none]
 | v=>[v]
def oneP:PV→Bool
 | .agg _=>false
 | .tup _=>false
 | .undef=>false
 | _=>true
inductive Src where
 | slot (s:Nat)
 | cell (id off:Nat)
abbrev Q:=List (Nat×Src)
def qdel (d:Nat):Q→Q
 | []=>[]
 | (a,s)::q=>match Nat.beq a d with
  | true=>qdel d q
  | false=>match s with
   | .slot t=>match Nat.beq t d with
    | true=>qdel d q
    | false=>(a,.slot t)::qdel d q
   | .cell i j=>(a,.cell i j)::qdel d q
def qadd (d:Nat):Option Src→Q→Q
 | none,q=>q
 | some s,q=>(d,s)::q
def qget:Q→Nat→Option Src
 | [],_=>none
 | (a,s)::q,t=>match Nat.beq a t with
  | true=>some s
  | false=>qget q t
def qslots:Q→Q
 | []=>[]
 | (a,s)::q=>match s with
  | .slot t=>(a,.slot t)::qslots q
  | .cell _ _=>qslots q
def setH (id:Nat) (o:PObj) (cs:List PV) (H:PH):PH:=H.set id ⟨o.T,cs,o.ver+1⟩
def setO (id:Nat) (o:PObj) (cs:List PV) (H:PH):PH:=H.set id ⟨o.T,cs,o.ver⟩
def bC (b:UInt8):PV:=.int .u8 b.toNat
abbrev KK:=PV→Option Src→Env→Q→PH→Prop
def ibits (op:BinOp) (k:IntKind) (x y:Int):Int :=
 match op with
 | .and=>k.wrap (BitVec.ofInt k.bits x &&& BitVec.ofInt k.bits y).toNat
 | .or=>k.wrap (BitVec.ofInt k.bits x ||| BitVec.ofInt k.bits y).toNat
 | .xor=>k.wrap (BitVec.ofInt k.bits x ^^^ BitVec.ofInt k.bits y).toNat
 | .andNot=>k.wrap (BitVec.ofInt k.bits x &&& ~~~BitVec.ofInt k.bits y).toNat
 | _=>0
def ishl (k:IntKind) (x y:Int):Int:=k.wrap (x*2 ^ (min y.toNat k.bits))
def ishr (k:IntKind) (x y:Int):Int:=x.fdiv (2 ^ (min y.toNat k.bits))
def ikeq (a b:IntKind) (K:Prop):Prop:=match a,b with
 | .i8,.i8=>K | .i16,.i16=>K | .i32,.i32=>K | .i64,.i64=>K
 | .u8,.u8=>K | .u16,.u16=>K | .u32,.u32=>K | .u64,.u64=>K
 | _,_=>False
theorem ikeq_eq (a b:IntKind) (K:Prop) (h:ikeq a b K):a=b∧K:=by cases a <;> cases b <;> first | exact h.elim | exact ⟨rfl,h⟩
def isAggT (i:TI):Bool:=match i.k with
 | .strct _=>true
 | .strB _=>true
 | .arr _ _=>true
 | _=>false
def FitFs (fit:Nat→List PV→Prop) (tt:TT):List (Nat×Nat)→Nat→List PV→Prop
 | [],_,xs=>xs=[]
 | (t,o)::r,off,xs=>o=off∧match tt.get t with
  | some i=>(i.sz≤xs.length∧fit t (xs.take i.sz))∧FitFs fit tt r (off+i.sz) (xs.drop i.sz)
  | none=>False
def FitAs (fit:List PV→Prop) (sz:Nat):Nat→List PV→Prop
 | 0,xs=>xs=[]
 | n+1,xs=>(sz≤xs.length∧fit (xs.take sz))∧FitAs fit sz n (xs.drop sz)
def FitP (tt:TT):Nat→Nat→List PV→Prop
 | 0,_,_=>False
 | d+1,T,xs=>match tt.get T with
  | some i=>match i.k with
   | .bool=>∃b,xs=[.bool b]
   | .int k=>∃n,xs=[.int k n]
   | .str=>∃s,xs=[.str s]
   | .strct fs=>FitFs (FitP tt d) tt fs 0 xs
   | .arr n e=>match tt.get e with
    | some ei=>0<n∧FitAs (FitP tt d e) ei.sz n xs
    | none=>False
   | _=>False
  | none=>False
def boolK (p:Prop) (K:PV→Prop):Prop:=(p→K (.bool true))∧(¬p→K (.bool false))
def nboolK (p:Prop) (K:PV→Prop):Prop:=(p→K (.bool false))∧(¬p→K (.bool true))
def aggEq (op:BinOp) (xs ys:List PV) (K:PV→Prop):Prop:=match op with
 | .eql=>boolK (xs=ys) K
 | .neq=>nboolK (xs=ys) K
 | _=>False
def pBin (tt:TT) (op:BinOp) (T:Nat) (x y:PV) (K:PV→Prop):Prop:=match x with
 | .int k a=>match y with
  | .int k' b=>match op with
   | .shl=>0≤b∧K (.int k (ishl k a b))
   | .shr=>0≤b∧K (.int k (ishr k a b))
   | .add=>ikeq k k' (K (.int k (k.wrap (a+b))))
   | .sub=>ikeq k k' (K (.int k (k.wrap (a - b))))
   | .mul=>ikeq k k' (K (.int k (k.wrap (a*b))))
   | .quo=>ikeq k k' (b≠0∧K (.int k (k.wrap (a.tdiv b))))
   | .rem=>ikeq k k' (b≠0∧K (.int k (a.tmod b)))
   | .and=>ikeq k k' (K (.int k (ibits .and k a b)))
   | .or=>ikeq k k' (K (.int k (ibits .or k a b)))
   | .xor=>ikeq k k' (K (.int k (ibits .xor k a b)))
   | .andNot=>ikeq k k' (K (.int k (ibits .andNot k a b)))
   | .eql=>ikeq k k' (boolK (a=b) K)
   | .neq=>ikeq k k' (nboolK (a=b) K)
   | .lss=>ikeq k k' (boolK (a<b) K)
   | .leq=>ikeq k k' (boolK (a≤b) K)
   | .gtr=>ikeq k k' (boolK (b<a) K)
   | .geq=>ikeq k k' (boolK (b≤a) K)
  | _=>False
 | .str a=>match y with
  | .str b=>match op with
   | .add=>a.length+b.length≤9223372036854775807∧K (.str (a++b))
   | .eql=>boolK (a=b) K
   | .neq=>nboolK (a=b) K
   | _=>False
  | _=>False
 | .bool a=>match y with
  | .bool b=>match op with
   | .eql=>match tt.get T with
    | some i=>match i.k with
     | .bool=>K (.bool (a==b))
     | _=>False
    | none=>False
   | .neq=>match tt.get T with
    | some i=>match i.k with
     | .bool=>K (.bool (!(a==b)))
     | _=>False
    | none=>False
   | _=>False
  | _=>False
 | .ptr p=>match y with
  | .ptr q=>match tt.get T with
   | some i=>match i.k with
    | .ptr=>match q with
     | none=>match op with
      | .eql=>K (.bool p.isNone)
      | .neq=>K (.bool (!p.isNone))
      | _=>False
     | some _=>False
    | _=>False
   | none=>False
  | _=>False
 | .elem _=>match y with
  | .ptr none=>match tt.get T with
   | some i=>match i.k with
    | .ptr=>match op with
     | .eql=>K (.bool false)
     | .neq=>K (.bool true)
     | _=>False
    | _=>False
   | none=>False
  | _=>False
 | .slice n _ _=>match y with
  | .nilS=>match tt.get T with
   | some i=>match i.k with
    | .slice _=>match op with
     | .eql=>(0<n→K (.bool false))∧(n=0→K (.bool true)∧K (.bool false))
     | .neq=>(0<n→K (.bool true))∧(n=0→K (.bool true)∧K (.bool false))
     | _=>False
    | _=>False
   | none=>False
  | _=>False
 | .sref _ _ _ _=>match y with
  | .nilS=>match tt.get T with
   | some i=>match i.k with
    | .slice _=>match op with
     | .eql=>K (.bool false)
     | .neq=>K (.bool true)
     | _=>False
    | _=>False
   | none=>False
  | _=>False
 | .rref _ _ _=>match y with
  | .nilS=>match tt.get T with
   | some i=>match i.k with
    | .slice _=>match op with
     | .eql=>K (.bool false)
     | .neq=>K (.bool true)
     | _=>False
    | _=>False
   | none=>False
  | _=>False
 | .nilS=>match y with
  | .nilS=>match tt.get T with
   | some i=>match i.k with
    | .slice _=>match op with
     | .eql=>K (.bool true)
     | .neq=>K (.bool false)
     | _=>False
    | _=>False
   | none=>False
  | _=>False
 | .agg xs=>match y with
  | .agg ys=>match tt.get T with
   | some i=>match isAggT i with
    | true=>(FitP tt 6 T xs∧FitP tt 6 T ys)∧aggEq op xs ys K
    | false=>False
   | none=>False
  | _=>False
 | _=>False
def pUn (op:UnOp) (x:PV) (K:PV→Prop):Prop:=match op with
 | .not=>match x with
  | .bool b=>K (.bool (!b))
  | _=>False
 | .neg=>match x with
  | .int k n=>K (.int k (k.wrap (0 - n)))
  | _=>False
 | .xor=>match x with
  | .int k n=>K (.int k (ibits .xor k (if k.signed then -1 else k.max) n))
  | _=>False
 | _=>False
def pConv (tt:TT) (H:PH) (src dst:Nat) (x:PV) (K:PV→Prop):Prop:=match tt.get dst with
 | some i=>match i.k with
  | .int k=>match x with
   | .int _ n=>match tt.get src with
    | some l=>match l.k with
     | .int _=>K (.int k (k.wrap n))
     | _=>False
    | none=>False
   | _=>False
  | .slice e=>match tt.get e with
   | some j=>match j.k with
    | .int .u8=>match tt.get src with
     | some l=>match l.k with
      | .str=>match x with
       | .str s=>s.length≤9223372036854775807∧K (.slice s.length (s.map bC) none)
       | _=>False
      | _=>False
     | none=>False
    | _=>False
   | none=>False
  | .str=>match tt.get src with
   | some l=>match l.k with
    | .str=>match x with
     | .str s=>K (.str s)
     | _=>False
    | .slice e=>match tt.get e with
     | some j=>match j.k with
      | .int .u8=>match x with
       | .slice n cs _=>∃s:List UInt8,(cs=s.map bC∧n=s.length)∧K (.str s)
       | .sref id off n _=>match H[id]? with
        | some ob=>∃s:List UInt8,((ob.cs.drop off).take n=s.map bC∧n=s.length)∧K (.str s)
        | none=>False
       | .rref id off n=>match H[id]? with
        | some ob=>∃s:List UInt8,((ob.cs.drop off).take n=s.map bC∧n=s.length)∧K (.str s)
        | none=>False
       | _=>False
      | _=>False
     | none=>False
    | _=>False
   | none=>False
  | _=>False
 | none=>False
def pRead (i:TI) (cs:List PV) (K:PV→Prop):Prop:=match isAggT i with
 | true=>match Nat.ble i.sz cs.length with
  | true=>K (.agg ((cs.take i.sz).map dem))
  | false=>False
 | false=>match cs with
  | c::_=>frc (dem c) K
  | []=>False
def pLoad (tt:TT) (T:Nat) (x:PV) (H:PH) (K:PV→Option Src→Prop):Prop:=match tt.get T with
 | some i=>match x with
  | .elem cs=>pRead i cs (K · none)
  | .ptr (some (id,off))=>match H[id]? with
   | some o=>match isAggT i with
    | true=>pRead i (dropN off o.cs) (K · none)
    | false=>match dropN off o.cs with
     | c::_=>match c with
      | .slice n cs (some _)=>K (.slice n cs none) (some (.cell id off))
      | c=>frc c (K · none)
     | []=>False
   | none=>False
  | _=>False
 | none=>False
def fieldOf (i:TI) (f:Nat):Option (Nat×Nat):=match i.k with
 | .strct fs=>fs[f]?
 | .strB fs=>fs[f]?
 | _=>none
def isLe (a b:Nat) (K:Prop):Prop:=match Nat.ble a b with
 | true=>K
 | false=>False
def lowOf (E:Env):Option Operand→Int→(Int→Prop)→Prop
 | none,d,K=>K d
 | some x,_,K=>match opnd E x with
  | .int _ i=>K i
  | _=>False
def pSlice (tt:TT) (E:Env) (T:Nat) (x:PV) (lo hi:Option Operand) (K:PV→Prop):Prop:=match x with
 | .str s=>match tt.get T with
  | some i=>match i.k with
   | .str=>lowOf E lo 0 fun l=>lowOf E hi s.length fun h=>(0≤l∧l≤h∧h≤s.length)∧K (.str ((s.take h.toNat).drop l.toNat))
   | _=>False
  | none=>False
 | .slice n cs _=>match tt.get T with
  | some i=>match i.k with
   | .slice e=>match tt.get e with
    | some j=>lowOf E lo 0 fun l=>lowOf E hi n fun h=>(0≤l∧l≤h∧h≤n) ∧
      K (.slice (h.toNat - l.toNat) ((cs.take (h.toNat*j.sz)).drop (l.toNat*j.sz)) none)
    | none=>False
   | _=>False
  | none=>False
 | .sref id off n cap=>match tt.get T with
  | some i=>match i.k with
   | .slice e=>match tt.get e with
    | some j=>lowOf E lo 0 fun l=>lowOf E hi n fun h=>(0≤l∧l≤h∧h≤n) ∧
      (l<n→K (.sref id (off+l.toNat*j.sz) (h.toNat - l.toNat) (cap - l.toNat)))∧(¬l<n→K (.slice 0 [] none))
    | none=>False
   | _=>False
  | none=>False
 | .rref id off n=>match tt.get T with
  | some i=>match i.k with
   | .slice e=>match tt.get e with
    | some j=>lowOf E lo 0 fun l=>lowOf E hi n fun h=>(0≤l∧l≤h∧h≤n) ∧
      (l<n→K (.rref id (off+l.toNat*j.sz) (h.toNat - l.toNat)))∧(¬l<n→K (.slice 0 [] none))
    | none=>False
   | _=>False
  | none=>False
 | .nilS=>match tt.get T with
  | some i=>match i.k with
   | .slice e=>match tt.get e with
    | some _=>lowOf E lo 0 fun l=>lowOf E hi 0 fun h=>(0≤l∧l≤h∧h≤0)∧K .nilS
    | none=>False
   | _=>False
  | none=>False
 | .elem cs=>match tt.get T with
  | some i=>match i.k with
   | .arr n e=>match tt.get e with
    | some j=>lowOf E lo 0 fun l=>lowOf E hi n fun h=>(0≤l∧l≤h∧h≤n) ∧
      K (.slice (h.toNat - l.toNat) ((cs.take (h.toNat*j.sz)).drop (l.toNat*j.sz)) none)
    | none=>False
   | _=>False
  | none=>False
 | .ptr (some (id,off))=>match tt.get T with
  | some i=>match i.k with
   | .arr n e=>match tt.get e with
    | some j=>lowOf E lo 0 fun l=>lowOf E hi n fun h=>(0≤l∧l≤h∧h≤n) ∧
      (l<n→K (.sref id (off+l.toNat*j.sz) (h.toNat - l.toNat) (n - l.toNat)))∧(¬l<n→K (.slice 0 [] none))
    | none=>False
   | _=>False
  | none=>False
 | _=>False
def elemAt (cs:List PV) (k:Nat) (K:List PV→Prop):Prop:=∃ds:List PV,(∀(j:Nat) (c:PV),ds[j]? = some c→cs[k+j]? = some c)∧K ds
def pIndexAddr (tt:TT) (T:Nat) (x:PV) (ix:PV) (K:PV→Prop):Prop:=match tt.get T with
 | some i=>match ix with
  | .int _ j=>match x with
   | .slice n cs _=>match i.k with
    | .slice e=>match tt.get e with
     | some ei=>(0≤j∧j<n)∧elemAt cs (j.toNat*ei.sz) fun ds=>K (.elem ds)
     | none=>False
    | _=>False
   | .sref id off n _=>match i.k with
    | .slice e=>match tt.get e with
     | some ei=>(0≤j∧j<n)∧K (.ptr (some (id,off+j.toNat*ei.sz)))
     | none=>False
    | _=>False
   | .rref id off n=>match i.k with
    | .slice e=>match tt.get e with
     | some ei=>(0≤j∧j<n)∧K (.ptr (some (id,off+j.toNat*ei.sz)))
     | none=>False
    | _=>False
   | .elem cs=>match i.k with
    | .arr n e=>match tt.get e with
     | some ei=>(0≤j∧j<n)∧elemAt cs (j.toNat*ei.sz) fun ds=>K (.elem ds)
     | none=>False
    | _=>False
   | .ptr (some (id,off))=>match i.k with
    | .arr n e=>match tt.get e with
     | some ei=>(0≤j∧j<n)∧K (.ptr (some (id,off+j.toNat*ei.sz)))
     | none=>False
    | _=>False
   | _=>False
  | _=>False
 | none=>False
def pIndex (tt:TT) (T:Nat) (x:PV) (ix:PV) (K:PV→Prop):Prop:=match ix with
 | .int _ j=>match x with
  | .str s=>match tt.get T with
   | some i=>match i.k with
    | .str=>(0≤j∧j<s.length)∧∃b,s[j.toNat]? = some b∧K (bC b)
    | _=>False
   | none=>False
  | .agg cs=>match tt.get T with
   | some i=>match i.k with
    | .arr n e=>match tt.get e with
     | some ei=>(0≤j∧j<n)∧pRead ei (dropN (j.toNat*ei.sz) cs) K
     | none=>False
    | _=>False
   | none=>False
  | _=>False
 | _=>False
def pFill (place:Nat→Option (Nat×Nat)) (E:Env):List (Nat×Operand)→List PV→(List PV→Prop)→Prop
 | [],cs,K=>K cs
 | (i,x)::r,cs,K=>match place i with
  | some (off,sz)=>frcd (dem (opnd E x)) fun v=>match Nat.beq (cellsOf v).length sz with
   | true=>match Nat.ble (off+sz) cs.length with
    | true=>pFill place E r (setCells off (cellsOf v) cs) K
    | false=>False
   | false=>False
  | none=>False
def zerosOf (z:List PV):Nat→List PV
 | 0=>[]
 | n+1=>z++zerosOf z n
def ownOf (E:Env) (q:Q) (H:PH) (x:Operand) (T:Nat) (tt:TT) (K:Nat→List PV→Nat→Env→PH→Prop):Prop:=match x with
 | .tmp a=>match E.get a with
  | .slice n cs (some e)=>K n cs e ((a,.slice n cs none)::E) H
  | .slice n cs none=>match qget q a with
   | some (.slot s)=>match E.get s with
    | .slice n' cs' (some e)=>K n' cs' e ((s,.slice n' cs' none)::E) H
    | _=>False
   | some (.cell id off)=>match H[id]? with
    | some o=>match dropN off o.cs with
     | .slice n' cs' (some e)::_=>K n' cs' e E (setO id o (setCells off [.slice n' cs' none] o.cs) H)
     | _=>False
    | none=>False
   | none=>False
  | .nilS=>match tt.get T with
   | some i=>match i.k with
    | .slice e=>K 0 [] e E H
    | _=>False
   | none=>False
  | _=>False
 | .const (.slice none 0 0)=>match tt.get T with
  | some i=>match i.k with
   | .slice e=>K 0 [] e E H
   | _=>False
  | none=>False
 | _=>False
def pAppend (tt:TT) (E:Env) (q:Q) (H:PH) (s x:Operand) (T:Nat) (K:PV→Env→PH→Prop):Prop :=
 match opnd E x with
 | .slice m ds _=>ownOf E q H s T tt fun n cs e E' H'=>match tt.get T with
  | some i=>match i.k with
   | .slice e'=>match Nat.beq e e' with
    | true=>match tt.get e with
     | some ei=>((n+m)*ei.bytes≤140737488355328∧ds.length=m*ei.sz∧ds.all oneP=true)∧K (.slice (n+m) (cs++ds) (some e)) E' H'
     | none=>False
    | false=>False
   | _=>False
  | none=>False
 | _=>False
def elemsOf (H:PH) (x:PV) (sz:Nat) (K:Nat→List PV→Prop):Prop:=match x with
 | .slice m ds _=>K m ds
 | .sref id off m _=>match H[id]? with
  | some ob=>K m (((ob.cs.drop off).take (m*sz)).map dem)
  | none=>False
 | .rref id off m=>match H[id]? with
  | some ob=>K m (((ob.cs.drop off).take (m*sz)).map dem)
  | none=>False
 | .nilS=>K 0 []
 | _=>False
def pAppendR (tt:TT) (E:Env) (H:PH) (id off n cap:Nat) (x:Operand) (T:Nat) (K:PV→PH→Prop):Prop:=match tt.get T with
 | some i=>match i.k with
  | .slice e=>match tt.get e with
   | some ei=>elemsOf H (opnd E x) ei.sz fun m ds=>match H[id]? with
    | some ob=>(off=0∧(n+m)*ei.bytes≤140737488355328∧ds.length=m*ei.sz∧ds.all oneP=true∧n*ei.sz≤ob.cs.length) ∧
      (n+m≤cap→(n+m)*ei.sz≤ob.cs.length∧K (.sref id 0 (n+m) cap) (setH id ob (setCells (n*ei.sz) ds ob.cs) H)) ∧
      (cap<n+m→∀cap',n+m≤cap'→K (.sref H.length 0 (n+m) cap') (H++[⟨e,(ob.cs.take (n*ei.sz)).map dem++ds++zerosOf ei.zero (cap' - (n+m)),0⟩]))
    | none=>False
   | none=>False
  | _=>False
 | none=>False
def pAppendRO (tt:TT) (E:Env) (H:PH) (id off n cap:Nat) (x:Operand) (T:Nat) (K:PV→PH→Prop):Prop:=match tt.get T with
 | some i=>match i.k with
  | .slice e=>match tt.get e with
   | some ei=>elemsOf H (opnd E x) ei.sz fun m ds=>match H[id]? with
    | some ob=>((n+m)*ei.bytes≤140737488355328∧ds.length=m*ei.sz∧ds.all oneP=true∧off+n*ei.sz≤ob.cs.length) ∧
      (n+m≤cap→off+(n+m)*ei.sz≤ob.cs.length∧K (.sref id off (n+m) cap) (setH id ob (setCells (off+n*ei.sz) ds ob.cs) H)) ∧
      (cap<n+m→∀cap',n+m≤cap'→K (.sref H.length 0 (n+m) cap') (H++[⟨e,((ob.cs.drop off).take (n*ei.sz)).map dem++ds++zerosOf ei.zero (cap' - (n+m)),0⟩]))
    | none=>False
   | none=>False
  | _=>False
 | none=>False
def pAppendN (tt : TT) (E : Env) (H : PH) (x : Operand) (T : Nat) (K : PV → PH → Prop) : Prop := match tt.get T with
  | some i => match i.k with
    | .slice e => match tt.get e with
      | some ei => elemsOf H (opnd E x) ei.sz fun m ds => (m * ei.bytes ≤ 140737488355328 ∧ ds.length = m * ei.sz ∧ ds.all oneP = true) ∧
            (m = 0 → K .nilS H) ∧ (0 < m → ∀ cap', m ≤ cap' → K (.sref H.length 0 m cap') (H ++ [⟨e, ds ++ zerosOf ei.zero (cap' - m), 0⟩]))
      | none => False
    | _ => False
  | none => False
def pAppendZ (tt:TT) (E:Env) (H:PH) (x:Operand) (T U:Nat) (K:PV→PH→Prop):Prop:=match tt.get T with
 | some i=>match i.k with
  | .slice e=>match tt.get e with
   | some ei=>match tt.get U with
    | some j=>match j.k with
     | .int _=>match opnd E x with
      | .int _ n=>(0<n∧n*ei.bytes≤140737488355328)∧∀cap',n.toNat≤cap'→K (.sref H.length 0 n.toNat cap') (H++[⟨e,zerosOf ei.zero n.toNat++zerosOf ei.zero (cap' - n.toNat),0⟩])
      | _=>False
     | _=>False
    | none=>False
   | none=>False
  | _=>False
 | none=>False
structure callK (P:Program) (f:Nat) (args:List PV) (H:PH) (K:PV→PH→Prop):Prop where
 mk ::
 h:CK P f args H K
/-! ### maps -/
def keyFit (tt:TT) (kt:Nat) (k:PV):Prop:=match tt.get kt with
 | some i=>match isAggT i with
  | true=>match k with
   | .agg xs=>FitP tt 6 kt xs
   | _=>False
  | false=>FitP tt 6 kt [k]
 | none=>False
def keysFit (tt:TT) (kt:Nat):List PV→Prop
 | []=>True
 | [_]=>True
 | k::_::r=>keyFit tt kt k∧keysFit tt kt r
def mapFind (k:PV):Nat→List PV→(Option (Nat×PV)→Prop)→Prop
 | _,[],K=>K none
 | _,[_],_=>False
 | i,k'::v::r,K=>(k=k'→K (some (i,v)))∧(k≠k'→mapFind k (i+1) r K)
def zeroOf (i:TI) (K:PV→Prop):Prop:=match isAggT i with
 | true=>K (.agg i.zero)
 | false=>match i.zero with
  | z::_=>K z
  | []=>False
def immOwn (imm:List Nat) (o:Oper):Bool:=match o.dst with
 | some d=>imm.elem (2000000+d)
 | none=>false
def convOwn (tt:TT) (E:Env) (s d:Nat) (x:Operand):Option (Nat×Nat×List PV):=match Nat.beq s d with
 | true=>match x with
  | .tmp t=>match E.get t with
   | .slice n cs (some _)=>match Nat.ble 1 n with
    | true=>match tt.get d with
     | some i=>match i.k with
      | .slice e=>match tt.get e with
       | some j=>match j.k with
        | .int .u8=>some (t,n,cs)
        | _=>none
       | none=>none
      | _=>none
     | none=>none
    | false=>none
   | _=>none
  | _=>none
 | false=>none
def pOp (P:Program) (tt:TT) (imm:List Nat) (E:Env) (q:Q) (H:PH) (o:Oper) (K:KK):Prop:=match o.op with
 | .move x=>match x with
  | .tmp s=>match E.get s with
   | .slice n cs (some _)=>K (.slice n cs none) (some (.slot s)) E q H
   | .tup cs=>K (.tup cs) none ((s,.undef)::E) (qdel s q) H
   | v=>frc (dem v) fun v=>K v none E q H
  | x=>frc (opnd E x) fun v=>K v none E q H
 | .assign x=>match x with
  | .tmp s=>match E.get s with
   | .slice n cs (some e)=>K (.slice n cs (some e)) none ((s,.slice n cs none)::E) (qdel s q) H
   | v=>match immOwn imm o with
    | true=>match qget q s with
     | some (.slot s')=>match E.get s' with
      | .slice n cs (some e)=>K (.slice n cs (some e)) none ((s',.slice n cs none)::E) (qdel s' q) H
      | _=>False
     | _=>False
    | false=>frc (dem v) fun v=>K v none E q H
  | .const (.slice none 0 0)=>match (match o.dst with | some d=>imm.elem d | none=>false) with
   | true=>K .nilS none E q H
   | false=>match tt.get o.type with
   | some i=>match i.k with
    | .slice e=>K (.slice 0 [] (some e)) none E q H
    | _=>K (.slice 0 [] none) none E q H
   | none=>K (.slice 0 [] none) none E q H
  | x=>frc (opnd E x) fun v=>K v none E q H
 | .pick c a b=>match opnd E c with
  | .bool t=>match t with
   | true=>frc (dem (opnd E a)) fun v=>K v none E q H
   | false=>frc (dem (opnd E b)) fun v=>K v none E q H
  | _=>False
 | .alloc T=>match tt.get T with
  | some i=>K (.ptr (some (H.length,0))) none E (qslots q) (H++[⟨T,i.zero,0⟩])
  | none=>False
 | .box T x=>frcd (dem (opnd E x)) fun v=>match (match o.dst with | some d=>imm.elem d | none=>false) with
  | true=>K (.elem (cellsOf v)) none E q H
  | false=>K (.ptr (some (H.length,0))) none E (qslots q) (H++[⟨T,cellsOf v,0⟩])
 | .build T ps=>match tt.get T with
  | some i=>match i.k with
   | .strct fs=>pFill (fun k=>match fs[k]? with
     | some (ft,off)=>match tt.get ft with
      | some fi=>some (off,fi.sz)
      | none=>none
     | none=>none) E ps.toList i.zero fun cs=>K (.agg cs) none E q H
   | .arr n e=>match tt.get e with
    | some ei=>pFill (fun k=>match Nat.blt k n with | true=>some (k*ei.sz,ei.sz) | false=>none) E ps.toList i.zero fun cs=>K (.agg cs) none E q H
    | none=>False
   | _=>False
  | none=>False
 | .buildSlice T n ps=>match tt.get T with
  | some i=>match i.k with
   | .slice e=>match tt.get e with
    | some ei=>isLe (n*ei.sz) 16777216 (pFill (fun k=>match Nat.blt k n with | true=>some (k*ei.sz,ei.sz) | false=>none) E ps.toList (zerosOf ei.zero n) fun cs =>
      match (match o.dst with | some d=>imm.elem d | none=>false) with
      | true=>K (.sref H.length 0 n n) none E (qslots q) (H++[⟨e,cs,0⟩])
      | false=>K (.slice n cs (some e)) none E q H)
    | none=>False
   | _=>False
  | none=>False
 | .load T a=>pLoad tt T (opnd E a) H fun v s=>K v s E q H
 | .store T a x=>match tt.get T with
  | some i=>match opnd E a with
   | .ptr (some (id,off))=>match H[id]? with
    | some ob=>match Nat.ble (off+i.sz) ob.cs.length with
     | true=>match opnd E x with
      | .slice n cs (some e)=>match x with
       | .tmp s=>match Nat.beq i.sz 1 with
        | true=>K .undef none ((s,.slice n cs none)::E) (qslots (qdel s q)) (setH id ob (setCells off [.slice n cs (some e)] ob.cs) H)
        | false=>False
       | _=>False
      | v=>frcd (dem v) fun v=>match Nat.beq (cellsOf v).length i.sz with
       | true=>match (cellsOf v).all oneP with
        | true=>K .undef none E (qslots q) (setH id ob (setCells off (cellsOf v) ob.cs) H)
        | false=>False
       | false=>False
     | false=>False
    | none=>False
   | _=>False
  | none=>False
 | .nilCheck x=>match opnd E x with
  | .ptr (some p)=>K (.ptr (some p)) none E q H
  | .elem cs=>K (.elem cs) none E q H
  | .func f a b=>K (.func f a b) none E q H
  | _=>False
 | .binOp op T x y _=>pBin tt op T (opnd E x) (opnd E y) fun v=>K v none E q H
 | .unOp op _ x=>pUn op (opnd E x) fun v=>K v none E q H
 | .convert s d x=>match convOwn tt E s d x with
  | some (t,n,cs)=>K (.slice n cs none) none ((t,.slice n cs none)::E) [] H
  | none=>pConv tt H s d (opnd E x) fun v=>K v none E q H
 | .sliceToArrayPointer T x=>match opnd E x with
  | .slice n cs _=>match tt.get T with
   | some i=>match i.k with
    | .arr m _=>(m≤n∧0<m)∧K (.elem cs) none E q H
    | _=>False
   | none=>False
  | _=>False
 | .makeFunc (.func f) a b=>frcs (opnds E a.toList) fun a=>frcs (opnds E b.toList) fun b=>K (.func f a b) none E q H
 | .makeSlice T l c=>match tt.get T with
  | some i=>match i.k with
   | .slice e=>match tt.get e with
    | some ei=>match opnd E l with
     | .int .i64 n=>match opnd E c with
      | .int .i64 m=>(0≤n∧n≤m∧m*ei.bytes≤140737488355328)∧(match (match o.dst with | some d=>imm.elem d | none=>false) with
       | true=>K (.sref H.length 0 n.toNat m.toNat) none E (qslots q) (H++[⟨e,zerosOf ei.zero m.toNat,0⟩])
       | false=>K (.slice n.toNat (zerosOf ei.zero n.toNat) (some e)) none E q H)
      | _=>False
     | _=>False
    | none=>False
   | _=>False
  | none=>False
 | .slice T x lo hi none=>pSlice tt E T (opnd E x) lo hi fun v=>K v none E q H
 | .fieldAddr T x f=>match tt.get T with
  | some i=>match fieldOf i f with
   | some (ft,off)=>match tt.get ft with
    | some fi=>isLe 1 fi.sz (match opnd E x with
     | .ptr (some (id,o))=>K (.ptr (some (id,o+off))) none E q H
     | .elem cs=>K (.elem (dropN off cs)) none E q H
     | _=>False)
    | none=>False
   | none=>False
  | none=>False
 | .field T x f=>match tt.get T with
  | some i=>match fieldOf i f with
   | some (ft,off)=>match tt.get ft with
    | some fi=>match opnd E x with
     | .agg cs=>pRead fi (dropN off cs) fun v=>K v none E q H
     | _=>False
    | none=>False
   | none=>False
  | none=>False
 | .indexAddr T x ix=>pIndexAddr tt T (opnd E x) (opnd E ix) fun v=>K v none E q H
 | .index T x ix=>pIndex tt T (opnd E x) (opnd E ix) fun v=>K v none E q H
 | .extract x i=>match x with
  | .tmp t=>match E.get t with
   | .tup cs=>match cs[i]? with
    | some (.slice n ds (some e))=>K (.slice n ds (some e)) none ((t,.tup (cs.set i (.slice n ds none)))::E) (qdel t q) H
    | some c=>frc (dem c) fun c=>K c none E q H
    | none=>False
   | _=>False
  | _=>False
 | .makeMap T none=>K (.mref H.length) none E (qslots q) (H++[⟨T,[],0⟩])
 | .lookup T m k cok=>match opnd E m with
  | .mref id=>match H[id]? with
   | some ob=>match tt.get T with
    | some i=>match i.k with
     | .map kt et=>match tt.get et with
      | some ei=>(keyFit tt kt (opnd E k)∧keysFit tt kt ob.cs)∧mapFind (opnd E k) 0 ob.cs fun r=>match r with
       | some (_,v)=>match cok with
        | true=>K (.tup [dem v,.bool true]) none E q H
        | false=>frc (dem v) fun v=>K v none E q H
       | none=>zeroOf ei fun z=>match cok with
        | true=>K (.tup [dem z,.bool false]) none E q H
        | false=>frc (dem z) fun z=>K z none E q H
      | none=>False
     | _=>False
    | none=>False
   | none=>False
  | _=>False
 | .mapUpdate T m k x=>match opnd E m with
  | .mref id=>match H[id]? with
   | some ob=>match tt.get T with
    | some i=>match i.k with
     | .map kt et=>(keyFit tt kt (opnd E k)∧keysFit tt kt ob.cs)∧frcd (dem (opnd E x)) fun v=>mapFind (opnd E k) 0 ob.cs fun r=>match r with
       | some (j,_)=>K .undef none E (qslots q) (setH id ob (setCells (2*j+1) [v] ob.cs) H)
       | none=>K .undef none E (qslots q) (setH id ob (ob.cs++[opnd E k,v]) H)
     | _=>False
    | none=>False
   | none=>False
  | _=>False
 | .call c=>match c.callee with
  | .builtin .len=>match c.args.toList with
   | [x]=>match c.argTypes.toList with
    | [T]=>match tt.get T with
     | some i=>match opnd E x with
      | .slice n _ _=>match i.k with
       | .slice _=>K (.int .i64 n) none E q H
       | _=>False
      | .sref _ _ n _=>match i.k with
       | .slice _=>K (.int .i64 n) none E q H
       | _=>False
      | .rref _ _ n=>match i.k with
       | .slice _=>K (.int .i64 n) none E q H
       | _=>False
      | .nilS=>match i.k with
       | .slice _=>K (.int .i64 0) none E q H
       | _=>False
      | .str s=>match i.k with
       | .str=>K (.int .i64 s.length) none E q H
       | _=>False
      | .mref id=>match i.k with
       | .map _ _=>match H[id]? with
        | some ob=>K (.int .i64 (ob.cs.length / 2:Nat)) none E q H
        | none=>False
       | _=>False
      | _=>False
     | none=>False
    | _=>False
   | _=>False
  | .builtin .append=>match c.args.toList with
   | [s,x]=>match c.argTypes.toList with
    | [T,T']=>match Nat.beq T T' with
     | true=>match opnd E s with
      | .sref id off n cap=>match Nat.beq off 0 with
       | true=>pAppendR tt E H id off n cap x T fun v H'=>K v none E [] H'
       | false=>pAppendRO tt E H id off n cap x T fun v H'=>K v none E [] H'
      | .nilS=>match (match o.dst with | some d=>imm.elem d | none=>false) with
       | true=>pAppendN tt E H x T fun v H'=>K v none E [] H'
       | false=>pAppend tt E q H s x T fun v E' H'=>K v none E' [] H'
      | _=>pAppend tt E q H s x T fun v E' H'=>K v none E' [] H'
     | false=>match opnd E s with
      | .nilS=>match (match o.dst with | some d=>imm.elem d | none=>false) with
       | true=>pAppendZ tt E H x T T' fun v H'=>K v none E [] H'
       | false=>False
      | _=>False
    | _=>False
   | _=>False
  | .builtin .cap=>match c.args.toList with
   | [x]=>match c.argTypes.toList with
    | [T]=>match tt.get T with
     | some i=>match i.k with
      | .slice _=>match opnd E x with
       | .sref _ _ _ cap=>K (.int .i64 cap) none E q H
       | .nilS=>K (.int .i64 0) none E q H
       | _=>False
      | _=>False
     | none=>False
    | _=>False
   | _=>False
  | .builtin .copy=>match c.args.toList with
   | [x,y]=>match c.argTypes.toList with
    | [T,_]=>match opnd E x with
     | .sref id off n _=>match tt.get T with
      | some i=>match i.k with
       | .slice e=>match tt.get e with
        | some ei=>elemsOf H (opnd E y) ei.sz fun m ds=>match H[id]? with
         | some ob=>(ds.length=m*ei.sz∧ds.all oneP=true∧off+n*ei.sz≤ob.cs.length) ∧
           K (.int .i64 (min m n:Nat)) none E [] (setH id ob (setCells off (ds.take (min m n*ei.sz)) ob.cs) H)
         | none=>False
        | none=>False
       | _=>False
      | none=>False
     | .rref id off n=>match tt.get T with
      | some i=>match i.k with
       | .slice e=>match tt.get e with
        | some ei=>elemsOf H (opnd E y) ei.sz fun m ds=>match H[id]? with
         | some ob=>(ds.length=m*ei.sz∧ds.all oneP=true∧off+n*ei.sz≤ob.cs.length) ∧
           K (.int .i64 (min m n:Nat)) none E [] (setH id ob (setCells off (ds.take (min m n*ei.sz)) ob.cs) H)
         | none=>False
        | none=>False
       | _=>False
      | none=>False
     | _=>False
    | _=>False
   | _=>False
  | .builtin .min=>match c.args.toList with
   | [x,y]=>match opnd E x with
    | .int k a=>match opnd E y with
     | .int k' b=>ikeq k k' (K (.int k (min a b)) none E q H)
     | _=>False
    | _=>False
   | _=>False
  | .builtin .max=>match c.args.toList with
   | [x,y]=>match opnd E x with
    | .int k a=>match opnd E y with
     | .int k' b=>ikeq k k' (K (.int k (max a b)) none E q H)
     | _=>False
    | _=>False
   | _=>False
  | .builtin _=>False
  | .invoke _ _=>False
  | .value x=>match opnd E x with
   | .func f a b=>frcs (opnds E c.args.toList) fun vs=>callK P f (a++vs++b) H fun r H'=>K r none E (qslots q) H'
   | _=>False
 | _=>False
def pGuard (ops:List Oper) (E:Env) (g:Option (Nat×Bool)) (A B:Prop):Prop:=match g with
 | none=>A
 | some (j,want)=>match ops[j]? with
  | some o=>match o.dst with
   | some t=>match E.get t with
    | .bool b=>match b with
     | true=>match want with
      | true=>A
      | false=>B
     | false=>match want with
      | true=>B
      | false=>A
    | .tup []=>B
    | _=>False
   | none=>False
  | none=>False
def pPut (N:Nat) (d:Option Nat) (v:PV) (s:Option Src) (E:Env) (q:Q) (K:Env→Q→Prop):Prop:=match d with
 | some d=>match Nat.blt d N with
  | true=>K ((d,v)::E) (qadd d s (qdel d q))
  | false=>False
 | none=>K E q
def pOps (P:Program) (tt:TT) (imm:List Nat) (N:Nat) (ops:List Oper):List Oper→Env→Q→PH→(Env→PH→Prop)→Prop
 | [],E,_,H,K=>K E H
 | o::rest,E,q,H,K=>pGuard ops E o.guard
   (pOp P tt imm E q H o fun v s E' q' H'=>pPut N o.dst v s E' q' fun E' q'=>pOps P tt imm N ops rest E' q' H' K)
   (pPut N o.dst (.tup []) none E q fun E' q'=>pOps P tt imm N ops rest E' q' H K)
inductive Ex where
 | normal
 | ret
 | exit (n:Nat)
def subE:Env→Env→Prop
 | [],_=>True
 | (t,v)::r,E=>E.get t=v∧subE r E
structure loopK (b:Env→PH→(Ex→Env→PH→Prop)→Prop) (E:Env) (H:PH) (K:Ex→Env→PH→Prop):Prop where
 mk ::
 h:∃(S:Type) (st:S→Env) (sh:S→PH) (ok:S→Prop) (μ:S→Nat),(∃s,ok s∧subE (st s) E∧H=sh s) ∧
  ∀s,ok s→b (st s) (sh s) fun e E' H'=>match e with
   | .normal=>∃s',ok s'∧subE (st s') E'∧H'=sh s'∧μ s'<μ s
   | e=>K e E' H'
/-! ### regions that draw their order -/
def orL:List Bool→List Bool→List Bool
 | [],y=>y
 | x,[]=>x
 | a::x,b::y=>(a||b)::orL x y
def unitL:Nat→List Bool
 | 0=>[true]
 | n+1=>false::unitL n
def edgeL (acc:List (List Bool)):List Edge→List Bool
 | []=>[]
 | e::r=>match Region.binds .any e with
  | true=>orL (orL (unitL e.on) (acc.getD e.on [])) (edgeL acc r)
  | false=>edgeL acc r
def ancs:List Oper→List (List Bool)→List (List Bool)
 | [],acc=>acc
 | o::r,acc=>ancs r (acc++[edgeL acc o.after.toList])
def W (A:List (List Bool)) (i j:Nat):Bool:=(A.getD i []).getD j false
/-! ### what is said of a region -/
structure Draw where
 cons:List (Nat×List Nat):=[]
 imp:List Nat:=[]
 win:List (Nat×Nat×Nat):=[]
 fs:List (Nat×Nat×Src):=[]
 robs:List PObj:=[]
 res:List (Nat×Nat):=[]
 base:Nat:=0
 looks:List (Nat×Nat):=[]
def getN {α:Type}:List (Nat×α)→α→Nat→α
 | [],d,_=>d
 | (a,x)::r,d,i=>match Nat.beq a i with
  | true=>x
  | false=>getN r d i
def getO:List (Nat×Nat)→Nat→Option Nat
 | [],_=>none
 | (a,x)::r,i=>match Nat.beq a i with
  | true=>some x
  | false=>getO r i
def Draw.resOf (D:Draw) (i:Nat):Option Nat:=getO D.res i
def Draw.lookOf (D:Draw) (i:Nat):Option Nat:=getO D.looks i
def Draw.consOf (D:Draw) (i:Nat):List Nat:=getN D.cons [] i
def Draw.isImp (D:Draw) (i:Nat):Bool:=D.imp.contains i
def Draw.winOf (D:Draw) (i:Nat):Nat×Nat:=getN D.win (0,0) i
def qOf (ops:List Oper) (i:Nat):List (Nat×Nat×Src)→Q
 | []=>[]
 | (j,i',s)::r=>match Nat.beq i' i with
  | true=>match (ops[j]?).bind (·.dst) with
   | some t=>(t,s)::qOf ops i r
   | none=>qOf ops i r
  | false=>qOf ops i r
def pSrcs (j:Nat) (s:Option Src):List (Nat×Nat×Src)→Prop
 | []=>True
 | (j',_,x)::r=>match Nat.beq j' j with
  | true=>s=some x∧pSrcs j s r
  | false=>pSrcs j s r
def opReads (ops:List Oper) (o:Oper):List Nat :=
  (o.op.operands.toList.filterMap fun | .tmp t=>some t | _=>none) ++
  (match o.guard with
   | some (g,_)=>((ops[g]?).bind (·.dst)).toList
   | none=>[])
def restrC (E:Env):List Nat→Env→Env
 | [],E'=>E'
 | t::r,E'=>(t,E.get t)::restrC E r E'
def restrR (E:Env):List Nat→Env
 | []=>[]
 | t::r=>(t,dmt (E.get t))::restrR E r
def restr (ops:List Oper) (D:Draw) (i:Nat) (o:Oper) (E:Env):Env:=restrC E (D.consOf i) (restrR E (opReads ops o))
def demE (E:Env):List Nat→Env
 | []=>E
 | t::r=>(t,dmt (E.get t))::demE E r
def putE (d:Option Nat) (v:PV) (E:Env):Env:=match d with
 | some d=>(d,v)::E
 | none=>E
def stepO (D:Draw) (i:Nat) (o:Oper) (v:PV) (E:Env):Env:=putE o.dst v (demE E (D.consOf i))
def hk (Hs:List PH) (k:Nat):PH:=Hs.getD k []
def pOpR (P:Program) (tt:TT) (imm:List Nat) (ops:List Oper) (D:Draw) (i:Nat) (o:Oper) (E:Env) (v:PV) (H H':PH):Prop:=match D.resOf i with
 | none=>match D.lookOf i with
  | none=>pOp P tt imm (restr ops D i o E) (qOf ops i D.fs) H o fun v' s _ _ H2=>v'=v∧H2=H'∧pSrcs i s D.fs
  | some s=>match E.get s with
   | .slice n cs (some _)=>v=.slice n cs none∧H'=H∧pSrcs i (some (.slot s)) D.fs
   | _=>False
 | some r=>match o.op with
  | .alloc T=>match tt.get T with
   | some ti=>(v=.ptr (some (D.base+r,0))∧H'=H∧pSrcs i none D.fs)∧H[D.base+r]? = some ⟨T,ti.zero,0⟩
   | none=>False
  | _=>False
def Obl (P:Program) (tt:TT) (imm:List Nat) (ops:List Oper) (D:Draw) (i:Nat) (o:Oper) (E:Env) (v:PV) (H H':PH):Prop :=
 pGuard ops (restr ops D i o E) o.guard (pOpR P tt imm ops D i o E v H H')
  (v=.tup []∧H'=H∧pSrcs i none D.fs)
def pHs (Hs:List PH) (p:PH→PH→Prop) (d:Nat):Nat→Nat→Prop
 | lo,0=>p (hk Hs lo) (hk Hs (lo+d))
 | lo,m+1=>p (hk Hs lo) (hk Hs (lo+d))∧pHs Hs p d (lo+1) m
def dOf (b:Bool):Nat:=match b with
 | true=>1
 | false=>0
def pDr (P:Program) (tt:TT) (imm:List Nat) (ops:List Oper) (D:Draw) (Hs:List PH):Nat→List Oper→Env→(Env→Prop)→Prop
 | _,[],E,K=>K E
 | i,o::rest,E,K=>∃v,pHs Hs (Obl P tt imm ops D i o E v) (dOf (D.isImp i)) (D.winOf i).1 ((D.winOf i).2 - (D.winOf i).1)∧pDr P tt imm ops D Hs (i+1) rest (stepO D i o v E) K
def cnt (p:Nat→Bool):Nat→Nat
 | 0=>0
 | n+1=>cnt p n+(match p n with | true=>1 | false=>0)
def allN (p:Nat→Bool):Nat→Bool
 | 0=>true
 | n+1=>p n&&allN p n
def dstIs (ops:List Oper) (j t:Nat):Bool:=match (ops[j]?).bind (·.dst) with
 | some d=>Nat.beq d t
 | none=>false
def touch (ops:List Oper) (D:Draw) (j t:Nat):Bool:=dstIs ops j t||(D.consOf j).contains t
def ord (A:List (List Bool)) (i j:Nat):Bool:=Nat.beq i j||(Nat.blt j i&&W A i j)||(Nat.blt i j&&W A j i)
def opOk (N n:Nat) (ops:List Oper) (A:List (List Bool)) (D:Draw) (i:Nat) (o:Oper):Bool :=
  o.after.toList.all (fun e=>!Region.binds .any e||Nat.blt e.on i) &&
  (match o.dst with
   | some d=>Nat.blt d N&&allN (fun j=>!touch ops D j d||ord A i j) n
   | none=>true) &&
  (D.consOf i).all (fun t=>allN (fun j=>!touch ops D j t||ord A i j) n) &&
  (opReads ops o).all (fun t=>allN (fun j=>!dstIs ops j t||ord A i j) n) &&
  (!D.isImp i||allN (fun j=>!D.isImp j||ord A i j) n) &&
  Nat.ble (D.winOf i).1 (cnt (fun j=>D.isImp j&&W A i j) n) &&
  Nat.ble (cnt (fun j=>D.isImp j&&(!Nat.beq j i&&!W A j i)) n) (D.winOf i).2 &&
  (match D.lookOf i with
   | some s=>(match o.op with | .move (.tmp x)=>Nat.beq x s | _=>false)&&(D.consOf i).isEmpty&&allN (fun j=>!touch ops D j s||ord A i j) n
   | none=>true)
def fsOk (n:Nat) (ops:List Oper) (A:List (List Bool)) (p:Nat×Nat×Src):Bool :=
 Nat.blt p.1 n&&Nat.blt p.2.1 n&&W A p.2.1 p.1&&(match (ops[p.1]?).bind (·.dst) with
  | some t=>allN (fun j=>!dstIs ops j t||Nat.beq j p.1||W A p.1 j||W A j p.2.1||Nat.beq j p.2.1) n&&(match p.2.2 with
   | .slot s=>!Nat.beq s t&&allN (fun j=>!dstIs ops j s||W A p.1 j||W A j p.2.1||Nat.beq j p.2.1) n
   | .cell _ _=>true)
  | none=>false)
def resOk (D:Draw):Bool:=D.res.all fun p=>Nat.blt p.2 D.robs.length&&!D.isImp p.1&&D.res.all fun q=>Nat.beq q.1 p.1||!Nat.beq q.2 p.2
def drawOk (N:Nat) (ops:List Oper) (D:Draw):Bool :=
 let A:=ancs ops []
 allN (fun i=>match ops[i]? with | some o=>opOk N ops.length ops A D i o | none=>true) ops.length&&D.fs.all (fsOk ops.length ops A)&&resOk D
def sameVer (id:Nat) (H H':PH):Prop:=∃o o',H[id]? = some o∧H'[id]? = some o'∧o'.ver=o.ver
def pVers (D:Draw) (Hs:List PH):List (Nat×Nat×Src)→Prop
 | []=>True
 | (j,i,s)::r=>(match s with
  | .cell id _=>∀k,(D.winOf j).1≤k→k<(D.winOf i).2→sameVer id (hk Hs k) (hk Hs (k+1))
  | .slot _=>True)∧pVers D Hs r
def startOk (D:Draw) (H:PH) (Hs:List PH):Prop:=match D.robs with
 | []=>hk Hs 0=H
 | _::_=>hk Hs 0=H++D.robs∧D.base=H.length
def tailOk (N m:Nat) (ops:List Oper) (D:Draw):Bool :=
 let A:=ancs ops []
 Nat.ble m ops.length &&
 allN (fun i=>match ops[i]? with | some o=>(match Nat.blt i m with | true=>opOk N ops.length ops A D i o | false=>o.after.toList.all (fun e=>!Region.binds .any e||Nat.blt e.on i)&&allN (fun j=>W A i j) i) | none=>true) ops.length &&
 D.fs.all (fun p=>fsOk ops.length ops A p&&Nat.blt p.1 m&&Nat.blt p.2.1 m)&&resOk D&&D.imp.all (fun i=>Nat.blt i m)&&D.res.all (fun p=>Nat.blt p.1 m)
def resP (tt:TT) (ops:List Oper) (robs:List PObj):List (Nat×Nat)→Prop
 | []=>True
 | (i,r)::l=>(match ops[i]? with
  | some o=>o.guard=none∧(match o.op with
   | .alloc T=>(match tt.get T with
    | some ti=>robs[r]? = some ⟨T,ti.zero,0⟩
    | none=>False)
   | _=>False)
  | none=>False)∧resP tt ops robs l
def callOk (N x:Nat) (ops:List Oper) (D:Draw):Bool :=
 let A:=ancs ops []
 drawOk N ops D&&D.fs.isEmpty&&D.isImp x&&(D.resOf x).isNone&&(D.lookOf x).isNone&&(match ops[x]? with | some o=>o.guard.isNone | none=>false) &&
 allN (fun j=>W A x j) x&&allN (fun j=>!Nat.blt x j||W A j x||(D.resOf j).isSome) ops.length&&allN (fun j=>Nat.beq j x||!D.isImp j||W A j x) ops.length
def Draw.pre (D:Draw):Draw:={ cons:=D.cons,res:=D.res,base:=D.base,robs:=D.robs,looks:=D.looks }
structure drawK (P:Program) (tt:TT) (imm:List Nat) (N:Nat) (ops:List Oper) (E:Env) (H:PH) (K:Env→PH→Prop):Prop where
 mk ::
 h:(∃(D:Draw) (Hs:List PH),drawOk N ops D=true∧startOk D H Hs∧pVers D Hs D.fs∧pDr P tt imm ops D Hs 0 ops E fun E'=>K E' (hk Hs (cnt D.isImp ops.length))) ∨
  (∃(m:Nat) (D:Draw) (Hs:List PH),tailOk N m ops D=true∧startOk D H Hs∧pVers D Hs D.fs∧pDr P tt imm ops D Hs 0 (ops.take m) E fun E'=>pOps P tt imm N ops (ops.drop m) E' [] (hk Hs (cnt D.isImp m)) K) ∨
  (∃(x:Nat) (D:Draw) (o:Oper) (X:PH),callOk N x ops D=true∧ops[x]? = some o∧startOk D H [X]∧resP tt ops D.robs D.res ∧
   pDr P tt imm ops D.pre [X] 0 (ops.take x) E fun E1=>pOp P tt imm (restr ops D x o E1) [] X o fun v _ _ _ H1 =>
    ∃Hs,hk Hs 1=H1∧pDr P tt imm ops D Hs (x+1) (ops.drop (x+1)) (stepO D x o v E1) fun E'=>K E' (hk Hs (cnt D.isImp ops.length)))
structure cutK (b:(Env→PH→Prop)→Prop) (K:Env→PH→Prop):Prop where
 mk ::
 h:∃(S:Type) (st:S→Env) (sh:S→PH) (ok:S→Prop),b (fun E H=>∃s,ok s∧subE (st s) E∧H=sh s)∧∀s,ok s→K (st s) (sh s)
def regK (imm:List Nat) (r:Nat) (b:(Env→PH→Prop)→Prop) (K:Env→PH→Prop):Prop:=match imm.elem (1000000+r) with
 | true=>cutK b K
 | false=>b K
def pCode (P:Program) (tt:TT) (imm:List Nat) (N:Nat):Code→Env→PH→(Ex→Env→PH→Prop)→Prop
 | .skip,E,H,K=>K .normal E H
 | .ret,E,H,K=>K .ret E H
 | .exit i,E,H,K=>K (.exit i) E H
 | .region r ops draw,E,H,K=>match draw with
  | false=>regK imm r (fun K=>pOps P tt imm N ops.toList ops.toList E [] H K) (K .normal)
  | true=>regK imm r (fun K=>drawK P tt imm N ops.toList E H K) (K .normal)
 | .seq a b,E,H,K=>pCode P tt imm N a E H fun e E' H'=>match e with
  | .normal=>pCode P tt imm N b E' H' K
  | .ret=>K .ret E' H'
  | .exit j=>K (.exit j) E' H'
 | .cond c a b,E,H,K=>match opnd E c with
  | .bool t=>match t with
   | true=>pCode P tt imm N a E H K
   | false=>pCode P tt imm N b E H K
  | _=>False
 | .block i c,E,H,K=>pCode P tt imm N c E H fun e E' H'=>match e with
  | .exit j=>match Nat.beq j i with
   | true=>K .normal E' H'
   | false=>K (.exit j) E' H'
  | .ret=>K .ret E' H'
  | .normal=>K .normal E' H'
 | .loop c,E,H,K=>loopK (fun E H K=>pCode P tt imm N c E H K) E H K
 | _,_,_,_=>False
def pRes (tt:TT) (H:PH):List ResultVar→Env→(List PV→Prop)→Prop
 | [],_,K=>K []
 | .tmp t::r,E,K=>frc (untup (E.get t)) fun v=>pRes tt H r ((t,dem v)::E) fun vs=>K (v::vs)
 | .cell t T::r,E,K=>pLoad tt T (E.get t) H fun v _=>pRes tt H r E fun vs=>K (v::vs)
def tupOf:List PV→PV
 | [v]=>v
 | vs=>.tup vs
def pFun (P:Program) (tt:TT) (imm:List Nat) (fn:Func) (args:List PV) (H:PH) (Q:PV→PH→Prop):Prop:=match fn.body with
 | some c=>match Nat.ble args.length fn.ntmps with
  | true=>pCode P tt imm fn.ntmps c (args0 0 (args.map dem)) H fun e E H'=>match e with
   | .exit _=>False
   | .normal=>pRes tt H' fn.results.toList E fun vs=>Q (tupOf vs) H'
   | .ret=>pRes tt H' fn.results.toList E fun vs=>Q (tupOf vs) H'
  | false=>False
 | none=>False
end Ps
/- PSem, part 2: what holds between the steps of a call, and how it goes on. -/
namespace Ps
open Go
theorem Array.getD_set (a:Array Value) (d t:Nat) (v:Value) (h:d<a.size):(a.setIfInBounds d v).getD t undef=if t=d then v else a.getD t undef:=by
 by_cases e:t=d
 ·subst e;simp [Array.getD_eq_getD_getElem?,h]
 ·rw [zqo e];simp [Array.getD_eq_getD_getElem?,Ne.symm e]
theorem cell?_of_heap {w w':World} {b:Nat} (h:w'.heap[b]? = w.heap[b]?) (o:Nat):w'.cell? ⟨b,o,none⟩=w.cell? ⟨b,o,none⟩:=by
 simp [World.cell?,h]
theorem cell?_cells {w:World} {b:Nat} {vs:Array Value} {e:Nat} {fr:Nat×Nat} (h:w.heap[b]? = some (.cells vs e fr)) (o:Nat):w.cell? ⟨b,o,none⟩=vs[o]?:=by
 simp [World.cell?,h]
structure Quiet (g:Gh) (w:World) (g':Gh) (w':World) (b:Nat):Prop where
 heap:w'.heap[b]? = w.heap[b]?
 I:∀o,g'.I b o→g.I b o
 ι:∀(id:Nat),g'.ι[id]?≠some (some b)
theorem OwnF.quiet {P:Program} {g g':Gh} {w w':World} {v:Value} {n:Nat} {cs:List PV} {e b:Nat} (h:OwnF P g w v n cs e b) (q:Quiet g w g' w' b) :
  OwnF P g' w' v n cs e b:=by
 obtain ⟨cap,vs,h1,h2,h3,h4⟩:=h.ex
 exact ⟨⟨cap,vs,h1,h2,q.heap.trans h3,h4⟩,q.ι,fun o ho hi=>h.spare o ho (q.I o hi)⟩
theorem OwnF.blk {P:Program} {g:Gh} {w:World} {v:Value} {n:Nat} {cs:List PV} {e b:Nat} (h:OwnF P g w v n cs e b):blk v=some b:=by
 obtain ⟨cap,vs,rfl,_⟩:=h.ex;rfl
theorem VH.mono {P:Program} {g g':Gh} {w w':World} {v:Value} {p:PV} (h:VH P g w v p) (k:Keeps g w g' w')
  (hq:∀b,isOwn p=true→blk v=some b→Quiet g w g' w' b):VH P g' w' v p:=by
 rcases h with h | ⟨n,cs,e,b,rfl,hv,ho⟩
 ·exact .inl (h.mono k)
 ·exact .inr ⟨n,cs,e,b,rfl,hv.mono k,ho.quiet (hq b rfl ho.blk)⟩
theorem VC.mono {P:Program} {g g':Gh} {w w':World} {v:Value} {p:PV} (h:VC P g w v p) (k:Keeps g w g' w')
  (hq:∀i b,ownAt v p i b→Quiet g w g' w' b):VC P g' w' v p:=by
 cases p with
 | tup cs =>
  obtain ⟨vs,rfl,h1,h2⟩:=h
  exact ⟨vs,rfl,h1,fun j c hj=>(h2 j c hj).mono k fun b ho hb=>hq j b ⟨c,hj,ho,vs,rfl,hb⟩⟩
 | _=>exact VH.mono h k fun b ho hb=>hq 0 b ⟨rfl,ho,hb⟩
theorem V.own_nil {g:Gh} {w:World} {v:Value} {n:Nat} {cs:List PV} {e:Nat} (h:V g w v (.slice n cs (some e))):v=.slice none 0 0∧n=0∧cs=[]:=by
 cases h;exact ⟨rfl,rfl,rfl⟩
theorem V.own_blk {g:Gh} {w:World} {v:Value} {p:PV} (h:V g w v p) (ho:isOwn p=true):Ps.blk v=none:=by
 cases p with
 | slice n cs o =>
  cases o with
  | none=>cases ho
  | some e=>obtain ⟨rfl,_⟩:=h.own_nil;rfl
 | _=>cases ho
theorem VH.own {P:Program} {g:Gh} {w:World} {v:Value} {p:PV} {b:Nat} (h:VH P g w v p) (ho:isOwn p=true) (hb:blk v=some b) :
  ∃n cs e,p=.slice n cs (some e)∧V g w v (.slice n cs none)∧OwnF P g w v n cs e b:=by
 rcases h with h | ⟨n,cs,e,b',rfl,hv,hf⟩
 ·rw [h.own_blk ho] at hb;cases hb
 ·have:=hf.blk;rw [this] at hb;cases hb;exact ⟨n,cs,e,rfl,hv,hf⟩
theorem V.dem {g:Gh} {w:World} {v:Value} {p:PV} (h:V g w v p):V g w v (dem p):=by
 cases p with
 | slice n cs o =>
  cases o with
  | none=>exact h
  | some e=>obtain ⟨rfl,rfl,rfl⟩:=h.own_nil;exact .snil none
 | tup cs=>exact .undef _
 | _=>exact h
theorem VH.dem {P:Program} {g:Gh} {w:World} {v:Value} {p:PV} (h:VH P g w v p):V g w v (dem p):=by
 rcases h with h | ⟨n,cs,e,b,rfl,hv,hf⟩
 ·exact h.dem
 ·exact hv
theorem VC.dem {P:Program} {g:Gh} {w:World} {v:Value} {p:PV} (h:VC P g w v p):V g w v (dem p):=by
 cases p with
 | tup cs=>exact .undef _
 | _=>exact VH.dem h
theorem dem_own (p:PV):isOwn (dem p)=false:=by cases p <;> rfl
abbrev vals (a:Act) (t:Nat):Value:=a.tmps.getD t undef
structure Inv (P:Program) (g0:Gh) (w0:World) (H0:PH) (F0:Nat→Prop) (N:Nat) (g:Gh) (w:World) (a:Act) (E:Env) (H:PH):Prop where
 rel:Rel P g w (vals a) E H
 size:a.tmps.size=N
 defers:a.defers=[]
 step:Step g0 w0 H0 F0 g w H
 own:∀t i b,ownAt (vals a t) (E.get t) i b→w0.heap.size≤b∨F0 b
 cown:∀b,cellOwn g w H b→w0.heap.size≤b∨F0 b
section
variable {P : Program} {g0 : Gh} {w0 : World} {H0 : PH} {F0 : Nat → Prop} {N : Nat} {g : Gh} {w : World} {a : Act} {E : Env} {H : PH}
theorem put_some (a:Act) (d:Nat) (v:Value):a.put (some d) v={ a with tmps:=a.tmps.setIfInBounds d v }:=rfl
theorem vals_put (a:Act) (d t:Nat) (v:Value) (h:d<a.tmps.size):vals (a.put (some d) v) t=if t=d then v else vals a t :=
 Array.getD_set a.tmps d t v h
theorem Inv.put (inv:Inv P g0 w0 H0 F0 N g w a E H) {d:Nat} (hd:d<N) {v:Value} {p:PV} (hv:VC P g w v p)
  (ho:∀i b,ownAt v p i b→(∀t i',t≠d→¬ownAt (vals a t) (E.get t) i' b)∧¬cellOwn g w H b∧(w0.heap.size≤b∨F0 b))
  (hi:∀i i' b,ownAt v p i b→ownAt v p i' b→i=i'):Inv P g0 w0 H0 F0 N g w (a.put (some d) v) ((d,p)::E) H:=by
 have hd':d<a.tmps.size:=by rw [inv.size];exact hd
 have hval:∀t,vals (a.put (some d) v) t=if t=d then v else vals a t:=fun t=>vals_put a d t v hd'
 have hget:∀t,Env.get ((d,p)::E) t=if t=d then p else E.get t:=fun t=>by
  rw [Env.get_cons];by_cases h:d=t
  ·subst h;simp
  ·rw [zqo h,zqo (Ne.symm h)]
 refine ⟨⟨inv.rel.h,fun t=>?_,fun t i t' i' b h h'=>?_,fun t i b h=>?_,inv.rel.cc⟩,?_,inv.defers,inv.step,fun t i b h=>?_,inv.cown⟩
 ·rw [hval,hget]
  by_cases h:t=d
  ·simp [h,hv]
  ·rw [zqo h,zqo h];exact inv.rel.e t
 ·rw [hval,hget] at h h'
  by_cases e:t=d
  ·by_cases e':t'=d
   ·simp only [e,e',if_true] at h h' ⊢
    exact ⟨trivial,hi _ _ _ h h'⟩
   ·simp only [e,if_true] at h
    simp only [e',if_false] at h'
    exact absurd h' ((ho _ _ h).1 t' i' e')
  ·by_cases e':t'=d
   ·simp only [e,if_false] at h
    simp only [e',if_true] at h'
    exact absurd h ((ho _ _ h').1 t i e)
   ·simp only [e,if_false] at h
    simp only [e',if_false] at h'
    exact inv.rel.ss t i t' i' b h h'
 ·rw [hval,hget] at h
  by_cases e:t=d
  ·simp only [e,if_true] at h;exact (ho _ _ h).2.1
  ·simp only [e,if_false] at h;exact inv.rel.sc t i b h
 ·rw [put_some];simp [inv.size]
 ·rw [hval,hget] at h
  by_cases e:t=d
  ·simp only [e,if_true] at h;exact (ho _ _ h).2.2
  ·simp only [e,if_false] at h;exact inv.own t i b h
theorem no_own {v:Value} {p:PV} {g:Gh} {w:World} (h:V g w v p):∀i b,¬ownAt v p i b:=by
 intro i b ho
 cases p with
 | tup cs=>cases h
 | _=>obtain ⟨_,h2,h3⟩:=ho;first | (cases h2;done) | (rw [h.own_blk h2] at h3;cases h3)
theorem V.vc {v:Value} {p:PV} (h:V g w v p):VC P g w v p:=by
 cases p with
 | tup cs=>cases h
 | _=>exact .inl h
theorem Inv.weaken (inv:Inv P g0 w0 H0 F0 N g w a E H) {s:Nat} {p:PV} (hv:VC P g w (vals a s) p)
  (ho:∀i b,ownAt (vals a s) p i b→ownAt (vals a s) (E.get s) i b):Inv P g0 w0 H0 F0 N g w a ((s,p)::E) H:=by
 have hget:∀t,Env.get ((s,p)::E) t=if t=s then p else E.get t:=fun t=>by
  rw [Env.get_cons];by_cases h:s=t
  ·subst h;simp
  ·rw [zqo h,zqo (Ne.symm h)]
 have hsub:∀t i b,ownAt (vals a t) (Env.get ((s,p)::E) t) i b→ownAt (vals a t) (E.get t) i b:=by
  intro t i b h
  rw [hget] at h
  by_cases e:t=s
  ·subst e;rw [zqp rfl] at h;exact ho i b h
  ·rw [zqo e] at h;exact h
 refine ⟨⟨inv.rel.h,fun t=>?_,fun t i t' i' b h h'=>inv.rel.ss t i t' i' b (hsub _ _ _ h) (hsub _ _ _ h'),fun t i b h=>inv.rel.sc t i b (hsub _ _ _ h),inv.rel.cc⟩,
  inv.size,inv.defers,inv.step,fun t i b h=>inv.own t i b (hsub _ _ _ h),inv.cown⟩
 rw [hget]
 by_cases e:t=s
 ·subst e;rw [zqp rfl];exact hv
 ·rw [zqo e];exact inv.rel.e t
theorem Inv.demote (inv:Inv P g0 w0 H0 F0 N g w a E H) {s n:Nat} {cs:List PV} {o:Option Nat} (h:E.get s=.slice n cs o) :
  Inv P g0 w0 H0 F0 N g w a ((s,.slice n cs none)::E) H:=by
 have hv:=inv.rel.e s
 rw [h] at hv
 have hv':V g w (vals a s) (.slice n cs none):=VH.dem (p:=.slice n cs o) hv
 exact inv.weaken hv'.vc (fun i b ho=>absurd ho (no_own hv' i b))
theorem Inv.go (inv:Inv P g0 w0 H0 F0 N g w a E H) {g':Gh} {w':World} {H':PH} (hos:w'.os=w.os) (htape:w'.tape=w.tape) (hout:w'.output=w.output)
  (hsize:w.heap.size≤w'.heap.size) (hk:Keeps g w g' w') (hι:∀(id b:Nat),g'.ι[id]? = some (some b)→g.ι[id]? = some (some b)∨w.heap.size≤b)
  (hfar:∀b,b<w0.heap.size→(∀(id:Nat),g0.ι[id]?≠some (some b))→¬F0 b→w'.heap[b]? = w.heap[b]?∧∀o,g'.I b o→g.I b o)
  (hfr:Same g w H w' H') (hown:∀t i b,ownAt (vals a t) (E.get t) i b→Quiet g w g' w' b) (hH:RelH P g' w' H')
  (hc:∀id j b,cellOwnAt g' w' H' id j b→cellOwnAt g w H id j b ∨
   ((∀t i,¬ownAt (vals a t) (E.get t) i b)∧(∀id' j',cellOwnAt g' w' H' id' j' b→id'=id∧j'=j)∧(w0.heap.size≤b∨F0 b)))
  (hnil:∀(id:Nat),g0.ι[id]? = some none→g.ι[id]? = some none→g'.ι[id]? = some none) :
  Inv P g0 w0 H0 F0 N g' w' a E H':=by
 refine ⟨⟨hH,fun t=>(inv.rel.e t).mono hk fun i b h=>hown t i b h,inv.rel.ss,fun t i b h=>?_,fun id j id' j' b h h'=>?_⟩,inv.size,inv.defers,?_,inv.own,fun b ⟨id,j,h⟩=>?_⟩
 ·rintro ⟨id,j,hcell⟩
  rcases hc id j b hcell with hcell' | hcell'
  ·exact inv.rel.sc t i b h ⟨id,j,hcell'⟩
  ·exact hcell'.1 t i h
 ·rcases hc id j b h with h1 | h1
  ·rcases hc id' j' b h' with h2 | h2
   ·exact inv.rel.cc id j id' j' b h1 h2
   ·have:=h2.2.1 id j h;exact this
  ·have:=h1.2.1 id' j' h';exact ⟨this.1.symm,this.2.symm⟩
 ·have s:=inv.step
  refine ⟨s.fr.trans s.keeps.ι hfr,hos.trans s.os,htape.trans s.tape,hout.trans s.output,Nat.le_trans s.size hsize,s.keeps.trans hk,fun id b h=>?_,fun b hb hi hc=>?_,fun id h=>hnil id h (s.nil id h)⟩
  ·rcases hι id b h with h | h
   ·exact s.ι id b h
   ·exact .inr (Nat.le_trans s.size h)
  ·have h1:=s.far b hb hi hc
   have h2:=hfar b hb hi hc
   exact ⟨h2.1.trans h1.1,fun o h=>h1.2 o (h2.2 o h)⟩
 ·rcases hc id j b h with h1 | h1
  ·exact inv.cown b ⟨id,j,h1⟩
  ·exact h1.2.2
end
end Ps
/- PSem, part 3: memory grows, and is written. -/
namespace Ps
open Go
theorem heap_lt {w:World} {b:Nat} {o:Obj} (h:w.heap[b]? = some o):b<w.heap.size:=(Array.getElem?_eq_some_iff.1 h).1
structure Pushes (w w1:World) (o:Obj):Prop where
 heap:w1.heap=w.heap.push o
 os:w1.os=w.os
 tape:w1.tape=w.tape
 output:w1.output=w.output
theorem Pushes.old {w w1:World} {o:Obj} (h:Pushes w w1 o) {b:Nat} (hb:b<w.heap.size):w1.heap[b]? = w.heap[b]?:=by
 rw [h.heap,Array.getElem?_push];simp [Nat.ne_of_lt hb]
theorem Pushes.new {w w1:World} {o:Obj} (h:Pushes w w1 o):w1.heap[w.heap.size]? = some o:=by
 rw [h.heap,Array.getElem?_push];simp
theorem Pushes.size {w w1:World} {o:Obj} (h:Pushes w w1 o):w1.heap.size=w.heap.size+1:=by rw [h.heap];simp
theorem Pushes.alloc (w:World) (o:Obj):Pushes w (w.alloc o) o:=⟨rfl,rfl,rfl,rfl⟩
def addI (I:Nat→Nat→Prop) (b k:Nat):Nat→Nat→Prop:=fun b' o=>I b' o∨(b'=b∧o<k)
theorem kind_lt {w:World} {b:Nat} (h:kindAt w b≠0):b<w.heap.size:=by
 rcases Nat.lt_or_ge b w.heap.size with c | c
 ·exact c
 ·exfalso
  apply h
  unfold kindAt
  rw [Array.getElem?_eq_none c]
theorem cell_kind {w:World} {b o:Nat} {v:Value} (h:w.cell? ⟨b,o,none⟩=some v):kindAt w b=1:=by
 unfold World.cell? at h
 unfold kindAt
 split at h
 ·rename_i c t f he
  rw [show w.heap[b]? = some (.cells c t f) from he]
 ·cases h
theorem MapR.kind {g:Gh} {w:World} {b:Nat} {o:PObj} (h:MapR g w b o):kindAt w b=2:=by
 obtain ⟨es,c,h,_⟩:=h
 exact kindAt_map h
theorem MapR.mono {g g':Gh} {w w':World} {b:Nat} {o:PObj} (h:MapR g w b o) (k:Keeps g w g' w') (he:w'.heap[b]? = w.heap[b]?):MapR g' w' b o:=by
 obtain ⟨es,c,h1,h2,h3,h4⟩:=h
 refine ⟨es,c,he.trans h1,h2,fun i e hi=>?_,h4⟩
 obtain ⟨kk,v,a1,a2,a3,a4,a5⟩:=h3 i e hi
 exact ⟨kk,v,a1,a2,a3.mono k,a4.mono k,a5⟩
section
variable {P : Program} {g0 : Gh} {w0 : World} {H0 : PH} {F0 : Nat → Prop} {N : Nat} {g : Gh} {w : World} {a : Act} {E : Env} {H : PH}
theorem RelH.mapR (h:RelH P g w H) {id b:Nat} {o:PObj} (h1:H[id]? = some o) (h2:g.ι[id]? = some (some b)) (hk:kindAt w b=2):MapR g w b o:=by
 rcases h.full id b o h1 h2 with h | h
 ·rw [hk] at h;cases h
 ·exact h
theorem run_getObj_mapP {P:Program} {w:World} {r:Nat} {es:Array MapEntry} {clock:Nat} (hb:w.heap[r]? = some (.map es clock)):(getObj r).run P w=.ok (.map es clock) w:=by
 simp [getObj,Sem.run,hb]
theorem RelH.ex (h:RelH P g w H) {id b:Nat} (hi:g.ι[id]? = some (some b)):∃o,H[id]? = some o:=by
 have:id<H.length:=by rw [←h.len];exact (zq1.1 hi).1
 exact ⟨_,zqc this⟩
theorem RelH.lt (h:RelH P g w H) {id b:Nat} (hi:g.ι[id]? = some (some b)):b<w.heap.size:=by
 obtain ⟨o,ho⟩:=h.ex hi
 rcases h.full id b o ho hi with h1 | h1
 ·exact kind_lt (by rw [h1];decide)
 ·exact kind_lt (by rw [h1.kind];decide)
theorem RelH.fullKeep (hh:RelH P g w H) {g':Gh} {w':World} (hk:Keeps g w g' w') {id b:Nat} {o:PObj} (he:w'.heap[b]? = w.heap[b]?) (h1:H[id]? = some o) (h2:g.ι[id]? = some (some b)) :
  kindAt w' b=1∨MapR g' w' b o:=by
 rcases hh.full id b o h1 h2 with h | h
 ·exact .inl ((kindAt_of_heap he).trans h)
 ·exact .inr (h.mono hk he)
theorem RelH.ilt (h:RelH P g w H) {b o:Nat} (hi:g.I b o):b<w.heap.size:=by
 obtain ⟨_,vs,e,fr,h1,_⟩:=h.imm b o hi
 exact heap_lt h1
theorem ownAt_vh {v:Value} {p:PV} {i b:Nat} (h:VC P g w v p) (ho:ownAt v p i b):∃n cs e u,VH P g w u (.slice n cs (some e))∧OwnF P g w u n cs e b:=by
 cases p with
 | tup cs =>
  obtain ⟨vs,rfl,h1,h2⟩:=h
  obtain ⟨c,hc,hoc,vs',he,hb⟩:=ho
  cases he
  obtain ⟨n,ds,e,rfl,hv,hf⟩:=(h2 i c hc).own hoc hb
  exact ⟨n,ds,e,_,h2 i _ hc,hf⟩
 | _ =>
  obtain ⟨rfl,hoc,hb⟩:=ho
  obtain ⟨n,ds,e,he,_,hf⟩:=VH.own h hoc hb
  exact ⟨n,ds,e,_,he▸(show VH P g w v _ from h),hf⟩
theorem ownF_lt {v:Value} {n:Nat} {cs:List PV} {e b:Nat} (h:OwnF P g w v n cs e b):b<w.heap.size:=by
 obtain ⟨cap,vs,_,_,h3,_⟩:=h.ex
 exact heap_lt h3
theorem Rel.own_lt {val:Nat→Value} (h:Rel P g w val E H) {t i b:Nat} (ho:ownAt (val t) (E.get t) i b):b<w.heap.size∧(∀(id:Nat),g.ι[id]?≠some (some b)):=by
 obtain ⟨n,cs,e,u,_,hf⟩:=ownAt_vh (h.e t) ho
 exact ⟨ownF_lt hf,hf.obj⟩
theorem RelH.cown (h:RelH P g w H) {id j b:Nat} (ho:cellOwnAt g w H id j b):∃n cs e u,OwnF P g w u n cs e b:=by
 obtain ⟨o,c,b0,v,h1,h2,h3,h4,h5,h6⟩:=ho
 obtain ⟨vs,k1,k2,k3⟩:=h.obj id b0 o h1 h4 (cell_kind h5)
 obtain ⟨v',k4,k5⟩:=k3 j c h2
 rw [cell?_cells k1] at h5
 rw [h5] at k4;cases k4
 obtain ⟨n,ds,e,_,_,hf⟩:=k5.own h3 h6
 exact ⟨n,ds,e,_,hf⟩
theorem quiet_push {w1:World} {o:Obj} (hp:Pushes w w1 o) (k:Nat) {b:Nat} (hb:b<w.heap.size) (hi:∀(id:Nat),g.ι[id]?≠some (some b)) :
  Quiet g w ⟨g.ι,addI g.I w.heap.size k⟩ w1 b:=by
 refine ⟨hp.old hb,fun o h=>?_,hi⟩
 rcases h with h | ⟨rfl,_⟩
 ·exact h
 ·exact absurd hb (Nat.lt_irrefl _)
theorem keeps_push {w1:World} {o:Obj} (h:RelH P g w H) (hp:Pushes w w1 o) (k:Nat):Keeps g w ⟨g.ι,addI g.I w.heap.size k⟩ w1 :=
 ⟨fun _ _ h=>h,fun _ o hi=>⟨.inl hi,cell?_of_heap (hp.old (h.ilt hi)) o⟩,fun _ _ hi=>kindAt_of_heap (hp.old (h.lt hi))⟩
theorem same_push {w1:World} {o:Obj} (h:RelH P g w H) (hp:Pushes w w1 o):Same g w H w1 H :=
 ⟨fun _ o h=>⟨o,h,zqn _⟩,fun _ _ _ _ hi h1 h2 _=>(hp.old (h.lt hi))⟩
theorem Inv.push (inv:Inv P g0 w0 H0 F0 N g w a E H) {w1:World} {vs:Array Value} {e:Nat} {fr:Nat×Nat} (hp:Pushes w w1 (.cells vs e fr)) (k:Nat) (hk:k≤vs.size) :
  Inv P g0 w0 H0 F0 N ⟨g.ι,addI g.I w.heap.size k⟩ w1 a E H:=by
 have hh:=inv.rel.h
 have hkeep:=keeps_push hh hp k
 have hcell:∀id j b,cellOwnAt ⟨g.ι,addI g.I w.heap.size k⟩ w1 H id j b→cellOwnAt g w H id j b:=by
  rintro id j b ⟨o,c,b0,v,h1,h2,h3,h4,h5,h6⟩
  exact ⟨o,c,b0,v,h1,h2,h3,h4,(cell?_of_heap (hp.old (hh.lt h4)) j).symm.trans h5,h6⟩
 refine inv.go hp.os hp.tape hp.output (by rw [hp.size];omega) hkeep (fun _ _ h=>.inl h) (fun b hb _ _=>?_) (same_push hh hp) (fun t i _ ho=>quiet_push hp k (inv.rel.own_lt ho).1 (inv.rel.own_lt ho).2) ?_
  (fun id j b h=>.inl (hcell id j b h)) (fun _ _ h=>h)
 ·have hb':b<w.heap.size:=Nat.lt_of_lt_of_le hb inv.step.size
  refine ⟨hp.old hb',fun o h=>?_⟩
  rcases h with h | ⟨rfl,_⟩
  ·exact h
  ·exact absurd hb' (Nat.lt_irrefl _)
 ·refine ⟨hh.len,hh.inj,fun id b o h1 h2=>hh.fullKeep hkeep (hp.old (hh.lt h2)) h1 h2,fun id b o h1 h2 hk1=>?_,fun b o h=>?_⟩
  ·obtain ⟨vs',k1,k2,k3⟩:=hh.obj id b o h1 h2 ((hkeep.kind id b h2).symm.trans hk1)
   refine ⟨vs',(hp.old (heap_lt k1)).trans k1,k2,fun j c hj=>?_⟩
   obtain ⟨v,k4,k5⟩:=k3 j c hj
   refine ⟨v,k4,k5.mono hkeep fun b' ho hb=>?_⟩
   obtain ⟨n,cs,e',_,_,hf⟩:=k5.own ho hb
   exact quiet_push hp k (ownF_lt hf) hf.obj
  ·rcases h with h | ⟨rfl,h⟩
   ·obtain ⟨h1,vs',e',fr',h2,h3⟩:=hh.imm b o h
    exact ⟨h1,vs',e',fr',(hp.old (heap_lt h2)).trans h2,h3⟩
   ·exact ⟨fun id hi=>Nat.lt_irrefl _ (hh.lt hi),vs,e,fr,hp.new,Nat.lt_of_lt_of_le h hk⟩
theorem Inv.pushObj (inv:Inv P g0 w0 H0 F0 N g w a E H) {w1:World} {vs:Array Value} {T:Nat} {cs:List PV} (hp:Pushes w w1 (.cells vs T (0,0))) (hs:vs.size=cs.length)
  (hv:∀(j:Nat) (c:PV),cs[j]? = some c→∃v,vs[j]? = some v∧V g w v c) :
  Inv P g0 w0 H0 F0 N ⟨g.ι++[some w.heap.size],g.I⟩ w1 a E (H++[⟨T,cs,0⟩]):=by
 have hh:=inv.rel.h
 have hold:∀(id b:Nat),g.ι[id]? = some (some b)→(g.ι++[some w.heap.size])[id]? = some (some b):=fun id b h=>by
  rw [zq2 (zq1.1 h).1];exact h
 have hnew:∀(id b:Nat),(g.ι++[some w.heap.size])[id]? = some (some b)→g.ι[id]? = some (some b)∨(id=H.length∧b=w.heap.size):=fun id b h=>by
  rcases Nat.lt_or_ge id g.ι.length with hl | hl
  ·rw [zq2 hl] at h;exact .inl h
  ·rw [zqi hl] at h
   rcases Nat.eq_zero_or_pos (id - g.ι.length) with h0 | h0
   ·rw [h0] at h;simp at h;exact .inr ⟨by rw [←hh.len];omega,h.symm⟩
   ·rw [List.getElem?_eq_none (by simp;omega)] at h;cases h
 have hkeep:Keeps g w ⟨g.ι++[some w.heap.size],g.I⟩ w1:=⟨hold,fun b o hi=>⟨hi,cell?_of_heap (hp.old (hh.ilt hi)) o⟩,fun _ _ hi=>kindAt_of_heap (hp.old (hh.lt hi))⟩
 have hquiet:∀b,b<w.heap.size→(∀(id:Nat),g.ι[id]?≠some (some b))→Quiet g w ⟨g.ι++[some w.heap.size],g.I⟩ w1 b:=fun b hb hi =>
  ⟨hp.old hb,fun o h=>h,fun id h=>by
   rcases hnew id b h with h | ⟨_,rfl⟩
   ·exact hi id h
   ·exact Nat.lt_irrefl _ hb⟩
 have hcell:∀id j b,cellOwnAt ⟨g.ι++[some w.heap.size],g.I⟩ w1 (H++[⟨T,cs,0⟩]) id j b→cellOwnAt g w H id j b:=by
  rintro id j b ⟨o,c,b0,v,h1,h2,h3,h4,h5,h6⟩
  rcases hnew id b0 h4 with h4 | ⟨rfl,rfl⟩
  ·obtain ⟨o',ho'⟩:=hh.ex h4
   have hl:id<H.length:=(zq1.1 ho').1
   rw [zq2 hl] at h1
   exact ⟨o,c,b0,v,h1,h2,h3,h4,(cell?_of_heap (hp.old (hh.lt h4)) j).symm.trans h5,h6⟩
  ·rw [zqi (zqn _)] at h1
   simp at h1;subst h1
   rw [cell?_cells hp.new] at h5
   obtain ⟨v',k1,k2⟩:=hv j c h2
   rw [h5] at k1;cases k1
   rw [k2.own_blk h3] at h6;cases h6
 refine inv.go hp.os hp.tape hp.output (by rw [hp.size];omega) hkeep (fun id b h=>?_) (fun b hb _ _=>⟨hp.old (Nat.lt_of_lt_of_le hb inv.step.size),fun o h=>h⟩)
  ⟨fun id o h=>⟨o,by rw [zq2 (zq1.1 h).1];exact h,zqn _⟩,fun id b o o' hi h1 h2 _=>by
   rw [zq2 (zq1.1 h1).1] at h2
   exact (hp.old (hh.lt hi))⟩
  (fun t i b ho=>hquiet b (inv.rel.own_lt ho).1 (inv.rel.own_lt ho).2) ?_ (fun id j b h=>.inl (hcell id j b h)) (fun id _ h=>by
   show (g.ι++[some w.heap.size])[id]? = some none
   rw [zq2 (zq1.1 h).1];exact h)
 ·rcases hnew id b h with h | ⟨_,rfl⟩
  ·exact .inl h
  ·exact .inr (zqn _)
 ·refine ⟨by simp [hh.len],fun id id' b h h'=>?_,fun id b o h1 h2=>?_,fun id b o h1 h2 hk1=>?_,fun b o h=>?_⟩
  rotate_left
  ·rcases hnew id b h2 with h2 | ⟨rfl,rfl⟩
   ·obtain ⟨o',ho'⟩:=hh.ex h2
    have hl:id<H.length:=(zq1.1 ho').1
    rw [zq2 hl] at h1
    exact hh.fullKeep hkeep (hp.old (hh.lt h2)) h1 h2
   ·exact .inl (kindAt_cells hp.new)
  rotate_right
  ·rcases hnew id b h with h | ⟨rfl,rfl⟩
   ·rcases hnew id' b h' with h' | ⟨rfl,rfl⟩
    ·exact hh.inj id id' b h h'
    ·exact absurd (hh.lt h) (Nat.lt_irrefl _)
   ·rcases hnew id' _ h' with h' | ⟨rfl,_⟩
    ·exact absurd (hh.lt h') (Nat.lt_irrefl _)
    ·rfl
  ·rcases hnew id b h2 with h2 | ⟨rfl,rfl⟩
   ·obtain ⟨o',ho'⟩:=hh.ex h2
    have hl:id<H.length:=(zq1.1 ho').1
    rw [zq2 hl] at h1
    obtain ⟨vs',k1,k2,k3⟩:=hh.obj id b o h1 h2 ((hkeep.kind id b h2).symm.trans hk1)
    refine ⟨vs',(hp.old (heap_lt k1)).trans k1,k2,fun j c hj=>?_⟩
    obtain ⟨v,k4,k5⟩:=k3 j c hj
    refine ⟨v,k4,k5.mono hkeep fun b' ho hb=>?_⟩
    obtain ⟨n,cs,e',_,_,hf⟩:=k5.own ho hb
    exact hquiet b' (ownF_lt hf) hf.obj
   ·rw [zqi (zqn _)] at h1
    simp at h1;subst h1
    refine ⟨vs,hp.new,Nat.le_of_eq hs.symm,fun j c hj=>?_⟩
    obtain ⟨v,k1,k2⟩:=hv j c hj
    exact ⟨v,k1,.inl (k2.mono hkeep)⟩
  ·obtain ⟨h1,vs',e',fr',h2,h3⟩:=hh.imm b o h
   refine ⟨fun id hi=>?_,vs',e',fr',(hp.old (heap_lt h2)).trans h2,h3⟩
   rcases hnew id b hi with hi | ⟨_,rfl⟩
   ·exact h1 id hi
   ·exact absurd (heap_lt h2) (Nat.lt_irrefl _)
theorem Inv.reserve (inv:Inv P g0 w0 H0 F0 N g w a E H) (R:List PObj):Inv P g0 w0 H0 F0 N ⟨g.ι++R.map fun _=>none,g.I⟩ w a E (H++R):=by
 have hh:=inv.rel.h
 have hold:∀(id:Nat) (x:Option Nat),g.ι[id]? = some x→(g.ι++R.map fun _=>none)[id]? = some x:=fun id x h=>by
  rw [zq2 (zq1.1 h).1];exact h
 have hnew:∀(id b:Nat),(g.ι++R.map fun _=>none)[id]? = some (some b)→g.ι[id]? = some (some b):=fun id b h=>by
  rcases Nat.lt_or_ge id g.ι.length with hl | hl
  ·rw [zq2 hl] at h;exact h
  ·rw [zqi hl,List.getElem?_map,Option.map_eq_some_iff] at h
   obtain ⟨_,_,h⟩:=h
   cases h
 have hl:∀{id b:Nat},g.ι[id]? = some (some b)→id<H.length:=fun h=>by rw [←hh.len];exact (zq1.1 h).1
 have hkeep:Keeps g w ⟨g.ι++R.map fun _=>none,g.I⟩ w:=⟨fun id b h=>hold id _ h,fun _ _ h=>⟨h,rfl⟩,fun _ _ _=>rfl⟩
 have hquiet:∀b,(∀(id:Nat),g.ι[id]?≠some (some b))→Quiet g w ⟨g.ι++R.map fun _=>none,g.I⟩ w b:=fun b hi=>⟨rfl,fun o h=>h,fun id h=>hi id (hnew id b h)⟩
 have hcell:∀id j b,cellOwnAt ⟨g.ι++R.map fun _=>none,g.I⟩ w (H++R) id j b→cellOwnAt g w H id j b:=by
  rintro id j b ⟨o,c,b0,v,h1,h2,h3,h4,h5,h6⟩
  have h4:=hnew id b0 h4
  rw [zq2 (hl h4)] at h1
  exact ⟨o,c,b0,v,h1,h2,h3,h4,h5,h6⟩
 refine inv.go rfl rfl rfl (zqn _) hkeep (fun id b h=>.inl (hnew id b h)) (fun _ _ _ _=>⟨rfl,fun _ h=>h⟩)
  ⟨fun id o h=>⟨o,by rw [zq2 (zq1.1 h).1];exact h,zqn _⟩,fun id b o o' hi h1 h2 _=>rfl⟩
  (fun t i b ho=>hquiet b (inv.rel.own_lt ho).2) ?_ (fun id j b h=>.inl (hcell id j b h)) (fun id _ h=>hold id _ h)
 refine ⟨by simp [hh.len],fun id id' b h h'=>hh.inj id id' b (hnew id b h) (hnew id' b h'),fun id b o h1 h2=>?_,fun id b o h1 h2 hk1=>?_,fun b o h=>?_⟩
 ·have h2:=hnew id b h2
  rw [zq2 (hl h2)] at h1
  exact hh.fullKeep hkeep rfl h1 h2
 ·have h2:=hnew id b h2
  rw [zq2 (hl h2)] at h1
  obtain ⟨vs',k1,k2,k3⟩:=hh.obj id b o h1 h2 hk1
  refine ⟨vs',k1,k2,fun j c hj=>?_⟩
  obtain ⟨v,k4,k5⟩:=k3 j c hj
  refine ⟨v,k4,k5.mono hkeep fun b' ho hb=>?_⟩
  obtain ⟨n,cs,e',_,_,hf⟩:=k5.own ho hb
  exact hquiet b' hf.obj
 ·obtain ⟨h1,h2⟩:=hh.imm b o h
  exact ⟨fun id hi=>h1 id (hnew id b hi),h2⟩
theorem Inv.fill (inv:Inv P g0 w0 H0 F0 N g w a E H) {w1:World} {vs:Array Value} {T ver id:Nat} {cs:List PV} (hp:Pushes w w1 (.cells vs T (0,0))) (hs:vs.size=cs.length)
  (hv:∀(j:Nat) (c:PV),cs[j]? = some c→∃v,vs[j]? = some v∧V g w v c) (hid:H[id]? = some ⟨T,cs,ver⟩) (hn:g.ι[id]? = some none) (h0:g0.ι[id]?≠some none) :
  Inv P g0 w0 H0 F0 N ⟨g.ι.set id (some w.heap.size),g.I⟩ w1 a E H:=by
 have hh:=inv.rel.h
 have hlt:id<g.ι.length:=(zq1.1 hn).1
 have hold:∀(i:Nat) (x:Option Nat),i≠id→g.ι[i]? = some x→(g.ι.set id (some w.heap.size))[i]? = some x:=fun i x hi h=>by
  rw [zqj (Ne.symm hi)];exact h
 have hne:∀{i b:Nat},g.ι[i]? = some (some b)→i≠id:=fun h e=>by rw [e,hn] at h;cases h
 have hnew:∀(i b:Nat),(g.ι.set id (some w.heap.size))[i]? = some (some b)→(g.ι[i]? = some (some b)∧i≠id)∨(i=id∧b=w.heap.size):=fun i b h=>by
  by_cases e:i=id
  ·subst e
   rw [List.getElem?_set_self hlt] at h
   exact .inr ⟨rfl,(Option.some.inj (Option.some.inj h)).symm⟩
  ·rw [zqj (Ne.symm e)] at h
   exact .inl ⟨h,e⟩
 have hkeep:Keeps g w ⟨g.ι.set id (some w.heap.size),g.I⟩ w1:=⟨fun i b h=>hold i _ (hne h) h,fun b o hi=>⟨hi,cell?_of_heap (hp.old (hh.ilt hi)) o⟩,fun _ _ hi=>kindAt_of_heap (hp.old (hh.lt hi))⟩
 have hquiet:∀b,b<w.heap.size→(∀(i:Nat),g.ι[i]?≠some (some b))→Quiet g w ⟨g.ι.set id (some w.heap.size),g.I⟩ w1 b:=fun b hb hi =>
  ⟨hp.old hb,fun o h=>h,fun i h=>by
   rcases hnew i b h with ⟨h,_⟩ | ⟨_,rfl⟩
   ·exact hi i h
   ·exact Nat.lt_irrefl _ hb⟩
 have hcell:∀i j b,cellOwnAt ⟨g.ι.set id (some w.heap.size),g.I⟩ w1 H i j b→cellOwnAt g w H i j b:=by
  rintro i j b ⟨o,c,b0,v,h1,h2,h3,h4,h5,h6⟩
  rcases hnew i b0 h4 with ⟨h4,_⟩ | ⟨rfl,rfl⟩
  ·exact ⟨o,c,b0,v,h1,h2,h3,h4,(cell?_of_heap (hp.old (hh.lt h4)) j).symm.trans h5,h6⟩
  ·rw [hid] at h1;cases h1
   rw [cell?_cells hp.new] at h5
   obtain ⟨v',k1,k2⟩:=hv j c h2
   rw [h5] at k1;cases k1
   rw [k2.own_blk h3] at h6;cases h6
 refine inv.go hp.os hp.tape hp.output (by rw [hp.size];omega) hkeep (fun i b h=>?_) (fun b hb _ _=>⟨hp.old (Nat.lt_of_lt_of_le hb inv.step.size),fun o h=>h⟩)
  ⟨fun i o h=>⟨o,h,zqn _⟩,fun i b o o' hi h1 h2 _=>(hp.old (hh.lt hi))⟩
  (fun t i b ho=>hquiet b (inv.rel.own_lt ho).1 (inv.rel.own_lt ho).2) ?_ (fun i j b h=>.inl (hcell i j b h)) (fun i hi h=>hold i _ (fun e=>h0 (e▸hi)) h)
 ·rcases hnew i b h with ⟨h,_⟩ | ⟨_,rfl⟩
  ·exact .inl h
  ·exact .inr (zqn _)
 ·refine ⟨by simp [hh.len],fun i i' b h h'=>?_,fun i b o h1 h2=>?_,fun i b o h1 h2 hk1=>?_,fun b o h=>?_⟩
  ·rcases hnew i b h with ⟨k1,_⟩ | ⟨k1,k2⟩
   ·rcases hnew i' b h' with ⟨m1,_⟩ | ⟨m1,m2⟩
    ·exact hh.inj i i' b k1 m1
    ·have:=hh.lt k1;omega
   ·rcases hnew i' b h' with ⟨m1,_⟩ | ⟨m1,m2⟩
    ·have:=hh.lt m1;omega
    ·exact k1.trans m1.symm
  ·rcases hnew i b h2 with ⟨h2,_⟩ | ⟨rfl,rfl⟩
   ·exact hh.fullKeep hkeep (hp.old (hh.lt h2)) h1 h2
   ·exact .inl (kindAt_cells hp.new)
  ·rcases hnew i b h2 with ⟨h2,_⟩ | ⟨rfl,rfl⟩
   ·obtain ⟨vs',k1,k2,k3⟩:=hh.obj i b o h1 h2 ((hkeep.kind i b h2).symm.trans hk1)
    refine ⟨vs',(hp.old (heap_lt k1)).trans k1,k2,fun j c hj=>?_⟩
    obtain ⟨v,k4,k5⟩:=k3 j c hj
    refine ⟨v,k4,k5.mono hkeep fun b' ho hb=>?_⟩
    obtain ⟨n,cs,e',_,_,hf⟩:=k5.own ho hb
    exact hquiet b' (ownF_lt hf) hf.obj
   ·rw [hid] at h1;cases h1
    refine ⟨vs,hp.new,Nat.le_of_eq hs.symm,fun j c hj=>?_⟩
    obtain ⟨v,k1,k2⟩:=hv j c hj
    exact ⟨v,k1,.inl (k2.mono hkeep)⟩
  ·obtain ⟨h1,vs',e',fr',h2,h3⟩:=hh.imm b o h
   refine ⟨fun i hi=>?_,vs',e',fr',(hp.old (heap_lt h2)).trans h2,h3⟩
   rcases hnew i b hi with ⟨hi,_⟩ | ⟨_,rfl⟩
   ·exact h1 i hi
   ·exact absurd (heap_lt h2) (Nat.lt_irrefl _)
structure Writes (w w1:World) (b:Nat) (o:Obj):Prop where
 here:w1.heap[b]? = some o
 far:∀b',b'≠b→w1.heap[b']? = w.heap[b']?
 size:w1.heap.size=w.heap.size
 os:w1.os=w.os
 tape:w1.tape=w.tape
 output:w1.output=w.output
theorem Writes.refl {w:World} {b:Nat} {o:Obj} (h:w.heap[b]? = some o):Writes w w b o:=⟨h,fun _ _=>rfl,rfl,rfl,rfl,rfl⟩
theorem Inv.iFar (inv:Inv P g0 w0 H0 F0 N g w a E H) {id b:Nat} (hi:g.ι[id]? = some (some b)) (hb:b<w0.heap.size) (h0:∀(id:Nat),g0.ι[id]?≠some (some b)):False:=by
 rcases inv.step.ι id b hi with h | h
 ·exact h0 id h
 ·omega
theorem Inv.storeV (inv:Inv P g0 w0 H0 F0 N g w a E H) {w1:World} {id b:Nat} {ob:PObj} {vs':Array Value} {cs':List PV} (hid:H[id]? = some ob) (hi:g.ι[id]? = some (some b)) (hkd:kindAt w b=1)
  (hw:Writes w w1 b (.cells vs' ob.T (0,0))) (hs:cs'.length≤vs'.size) {nv:Nat} (hnv:ob.ver≤nv) (hsv:nv=ob.ver→w1.heap[b]? = w.heap[b]?)
  (hc:∀(j:Nat) (c:PV),cs'[j]? = some c→∃v,vs'[j]? = some v∧VH P g w v c) (j0:Nat)
  (ho:∀(j:Nat) (c:PV) (v:Value) (bb:Nat),cs'[j]? = some c→isOwn c=true→vs'[j]? = some v→blk v=some bb→cellOwnAt g w H id j bb ∨
   (j=j0∧(∀t i,¬ownAt (vals a t) (E.get t) i bb)∧¬cellOwn g w H bb∧(w0.heap.size≤bb∨F0 bb))) :
  Inv P g0 w0 H0 F0 N g w1 a E (H.set id ⟨ob.T,cs',nv⟩):=by
 have hh:=inv.rel.h
 have hlt:id<H.length:=(zq1.1 hid).1
 have hkeep:Keeps g w g w1:=⟨fun _ _ h=>h,fun b' o h=>⟨h,cell?_of_heap (hw.far b' (fun e=>(hh.imm b' o h).1 id (e▸hi))) o⟩,fun _ b' _=>by
  by_cases e:b'=b
  ·subst e;exact (kindAt_cells hw.here).trans hkd.symm
  ·exact kindAt_of_heap (hw.far b' e)⟩
 have hquiet:∀b',(∀(id:Nat),g.ι[id]?≠some (some b'))→Quiet g w g w1 b':=fun b' h=>⟨hw.far b' (fun e=>h id (e▸hi)),fun _ h=>h,h⟩
 have hother:∀id',id'≠id→(H.set id ⟨ob.T,cs',nv⟩)[id']? = H[id']?:=fun id' h=>by rw [zqj (Ne.symm h)]
 have hthis:(H.set id ⟨ob.T,cs',nv⟩)[id]? = some ⟨ob.T,cs',nv⟩:=by simp [hlt]
 have hcell:∀id' j bb,cellOwnAt g w1 (H.set id ⟨ob.T,cs',nv⟩) id' j bb→cellOwnAt g w H id' j bb ∨
   (id'=id∧j=j0∧(∀t i,¬ownAt (vals a t) (E.get t) i bb)∧¬cellOwn g w H bb∧(w0.heap.size≤bb∨F0 bb)):=by
  rintro id' j bb ⟨o,c,b0,v,h1,h2,h3,h4,h5,h6⟩
  by_cases e:id'=id
  ·subst e
   rw [hthis] at h1;cases h1
   rw [hi] at h4;cases h4
   rw [cell?_cells hw.here] at h5
   rcases ho j c v bb h2 h3 h5 h6 with h | h
   ·exact .inl h
   ·exact .inr ⟨rfl,h⟩
  ·rw [hother id' e] at h1
   have hne:b0≠b:=fun e'=>e (hh.inj id' id b (e'▸h4) hi)
   exact .inl ⟨o,c,b0,v,h1,h2,h3,h4,(cell?_of_heap (hw.far b0 hne) j).symm.trans h5,h6⟩
 refine inv.go hw.os hw.tape hw.output (by rw [hw.size];omega) hkeep (fun _ _ h=>.inl h) (fun b' hb h0 _=>⟨hw.far b' (fun e=>inv.iFar hi (e▸hb) (e▸h0)),fun _ h=>h⟩)
  ⟨fun id' o h=>?_,fun id' b' o o' hi' h1 h2 hv=>?_⟩ (fun t i b' h=>hquiet b' (inv.rel.own_lt h).2) ?_ (fun id' j bb h=>?_) (fun _ _ h=>h)
 ·by_cases e:id'=id
  ·subst e;rw [hid] at h;cases h;exact ⟨_,hthis,hnv⟩
  ·exact ⟨o,(hother id' e).trans h,zqn _⟩
 ·by_cases e:id'=id
  ·subst e;rw [hid] at h1;cases h1;rw [hthis] at h2;cases h2;rw [hi] at hi';cases hi';exact hsv hv
  ·rw [hother id' e] at h2
   exact (hw.far b' (fun e'=>e (hh.inj id' id b (e'▸hi') hi)))
 ·refine ⟨by simp [hh.len],hh.inj,fun id' b' o h1 h2=>?_,fun id' b' o h1 h2 hk1=>?_,fun b' o h=>?_⟩
  ·by_cases e:id'=id
   ·subst e
    rw [hi] at h2;cases h2
    exact .inl (kindAt_cells hw.here)
   ·rw [hother id' e] at h1
    exact hh.fullKeep hkeep (hw.far b' (fun e'=>e (hh.inj id' id b (e'▸h2) hi))) h1 h2
  ·by_cases e:id'=id
   ·subst e
    rw [hthis] at h1;cases h1
    rw [hi] at h2;cases h2
    refine ⟨vs',hw.here,hs,fun j c hj=>?_⟩
    obtain ⟨v,k1,k2⟩:=hc j c hj
    refine ⟨v,k1,k2.mono hkeep fun b' h1 h2=>?_⟩
    obtain ⟨n,cs,e',_,_,hf⟩:=k2.own h1 h2
    exact hquiet b' hf.obj
   ·rw [hother id' e] at h1
    obtain ⟨vs,k1,k2,k3⟩:=hh.obj id' b' o h1 h2 ((hkeep.kind id' b' h2).symm.trans hk1)
    refine ⟨vs,(hw.far b' (fun e'=>e (hh.inj id' id b (e'▸h2) hi))).trans k1,k2,fun j c hj=>?_⟩
    obtain ⟨v,k4,k5⟩:=k3 j c hj
    refine ⟨v,k4,k5.mono hkeep fun b'' h1 h2=>?_⟩
    obtain ⟨n,cs,e',_,_,hf⟩:=k5.own h1 h2
    exact hquiet b'' hf.obj
  ·obtain ⟨h1,vs,e,fr,h2,h3⟩:=hh.imm b' o h
   exact ⟨h1,vs,e,fr,(hw.far b' (fun e'=>h1 id (e'▸hi))).trans h2,h3⟩
 ·rcases hcell id' j bb h with h | ⟨rfl,rfl,h1,h2,h3⟩
  ·exact .inl h
  ·refine .inr ⟨h1,fun id'' j'' h'=>?_,h3⟩
   rcases hcell id'' j'' bb h' with h' | ⟨h4,h5,_⟩
   ·exact absurd ⟨id'',j'',h'⟩ h2
   ·exact ⟨h4,h5⟩
theorem Inv.store (inv:Inv P g0 w0 H0 F0 N g w a E H) {w1:World} {id b:Nat} {ob:PObj} {vs':Array Value} {cs':List PV} (hid:H[id]? = some ob) (hi:g.ι[id]? = some (some b)) (hkd:kindAt w b=1)
  (hw:Writes w w1 b (.cells vs' ob.T (0,0))) (hs:cs'.length≤vs'.size)
  (hc:∀(j:Nat) (c:PV),cs'[j]? = some c→∃v,vs'[j]? = some v∧VH P g w v c) (j0:Nat)
  (ho:∀(j:Nat) (c:PV) (v:Value) (bb:Nat),cs'[j]? = some c→isOwn c=true→vs'[j]? = some v→blk v=some bb→cellOwnAt g w H id j bb ∨
   (j=j0∧(∀t i,¬ownAt (vals a t) (E.get t) i bb)∧¬cellOwn g w H bb∧(w0.heap.size≤bb∨F0 bb))) :
  Inv P g0 w0 H0 F0 N g w1 a E (H.set id ⟨ob.T,cs',ob.ver+1⟩):=inv.storeV hid hi hkd hw hs (Nat.le_succ _) (fun h=>absurd h (by omega)) hc j0 ho
theorem Inv.extend (inv:Inv P g0 w0 H0 F0 N g w a E H) {w1:World} {b:Nat} {vs vs1:Array Value} {e:Nat} {fr fr1:Nat×Nat} (hb:w.heap[b]? = some (.cells vs e fr))
  (hw:Writes w w1 b (.cells vs1 e fr1)) (k:Nat) (hk:k≤vs1.size) (hi:∀(id:Nat),g.ι[id]?≠some (some b)) (hs:vs.size≤vs1.size)
  (hsame:∀o,g.I b o→vs1[o]? = vs[o]?) (ho:∀t i,¬ownAt (vals a t) (E.get t) i b) (hc:¬cellOwn g w H b) (hf:w0.heap.size≤b∨F0 b) :
  Inv P g0 w0 H0 F0 N ⟨g.ι,addI g.I b k⟩ w1 a E H:=by
 have hh:=inv.rel.h
 have hkeep:Keeps g w ⟨g.ι,addI g.I b k⟩ w1:=⟨fun _ _ h=>h,fun b' o h=>⟨.inl h,by
  by_cases e:b'=b
  ·subst e;rw [cell?_cells hw.here,cell?_cells hb];exact hsame o h
  ·exact cell?_of_heap (hw.far b' e) o⟩,fun id b' h=>kindAt_of_heap (hw.far b' (fun e=>hi id (e▸h)))⟩
 have hquiet:∀b',b'≠b→(∀(id:Nat),g.ι[id]?≠some (some b'))→Quiet g w ⟨g.ι,addI g.I b k⟩ w1 b':=fun b' hne h=>⟨hw.far b' hne,fun o h=>by
  rcases h with h | ⟨h,_⟩
  ·exact h
  ·exact absurd h hne,h⟩
 have hcell:∀id j bb,cellOwnAt ⟨g.ι,addI g.I b k⟩ w1 H id j bb→cellOwnAt g w H id j bb:=by
  rintro id j bb ⟨o,c,b0,v,h1,h2,h3,h4,h5,h6⟩
  exact ⟨o,c,b0,v,h1,h2,h3,h4,(cell?_of_heap (hw.far b0 (fun e=>hi id (e▸h4))) j).symm.trans h5,h6⟩
 refine inv.go hw.os hw.tape hw.output (by rw [hw.size];omega) hkeep (fun _ _ h=>.inl h) (fun b' hb' h0 h1=>?_)
  ⟨fun _ o h=>⟨o,h,zqn _⟩,fun id _ _ _ h1 h2 h3 _=>hw.far _ (fun e=>hi id (e▸h1))⟩ (fun t i b' h=>hquiet b' (fun e=>ho t i (e▸h)) (inv.rel.own_lt h).2) ?_ (fun id j bb h=>.inl (hcell id j bb h)) (fun _ _ h=>h)
 ·have hne:b'≠b:=by
   rintro rfl
   rcases hf with hf | hf
   ·omega
   ·exact h1 hf
  exact ⟨hw.far b' hne,fun o h=>by
   rcases h with h | ⟨h,_⟩
   ·exact h
   ·exact absurd h hne⟩
 ·refine ⟨hh.len,hh.inj,fun id b' o h1 h2=>hh.fullKeep hkeep (hw.far b' (fun e=>hi id (e▸h2))) h1 h2,fun id b' o h1 h2 hk1=>?_,fun b' o h=>?_⟩
  ·obtain ⟨vs',k1,k2,k3⟩:=hh.obj id b' o h1 h2 ((hkeep.kind id b' h2).symm.trans hk1)
   refine ⟨vs',(hw.far b' (fun e=>hi id (e▸h2))).trans k1,k2,fun j c hj=>?_⟩
   obtain ⟨v,k4,k5⟩:=k3 j c hj
   refine ⟨v,k4,k5.mono hkeep fun b'' hoc hbk=>?_⟩
   obtain ⟨n,cs,e',_,_,hff⟩:=k5.own hoc hbk
   refine hquiet b'' (fun e=>hc ⟨id,j,o,c,b',v,h1,hj,hoc,h2,?_,e▸hbk⟩) hff.obj
   rw [cell?_cells k1];exact k4
  ·by_cases e':b'=b
   ·subst e'
    refine ⟨hi,vs1,e,fr1,hw.here,?_⟩
    rcases h with h | ⟨_,h⟩
    ·obtain ⟨_,vs',e',fr',h2,h3⟩:=hh.imm b' o h
     rw [hb] at h2;cases h2;omega
    ·omega
   ·rcases h with h | ⟨h,_⟩
    ·obtain ⟨h1,vs',e2,fr',h2,h3⟩:=hh.imm b' o h
     exact ⟨h1,vs',e2,fr',(hw.far b' e').trans h2,h3⟩
    ·exact absurd h e'
theorem Inv.call (inv:Inv P g0 w0 H0 F0 N g w a E H) {g':Gh} {w':World} {v:Value} {r:PV} {H':PH} (hr:Rel P g' w' (one v) [(0,r)] H') (hs:Step g w H (cellOwn g w H) g' w' H')
  (ho:∀i b,ownAt v r i b→w.heap.size≤b∨cellOwn g w H b) (hc:∀b,cellOwn g' w' H' b→w.heap.size≤b∨cellOwn g w H b) :
  Inv P g0 w0 H0 F0 N g' w' a E H'∧VC P g' w' v r ∧
   (∀i b,ownAt v r i b→(∀t i',¬ownAt (vals a t) (E.get t) i' b)∧¬cellOwn g' w' H' b∧(w0.heap.size≤b∨F0 b)) ∧
   ∀i i' b,ownAt v r i b→ownAt v r i' b→i=i':=by
 have hslot:∀t i b,ownAt (vals a t) (E.get t) i b→b<w.heap.size∧(∀(id:Nat),g.ι[id]?≠some (some b))∧¬cellOwn g w H b:=fun t i b h =>
  ⟨(inv.rel.own_lt h).1,(inv.rel.own_lt h).2,inv.rel.sc t i b h⟩
 have hno:∀b,(w.heap.size≤b∨cellOwn g w H b)→∀t i,¬ownAt (vals a t) (E.get t) i b:=fun b h t i h'=>by
  obtain ⟨h1,_,h3⟩:=hslot t i b h'
  rcases h with h | h
  ·omega
  ·exact h3 h
 have hfr:∀b,(w.heap.size≤b∨cellOwn g w H b)→w0.heap.size≤b∨F0 b:=fun b h=>by
  rcases h with h | h
  ·exact .inl (Nat.le_trans inv.step.size h)
  ·exact inv.cown b h
 have h0:∀i b,ownAt v r i b→ownAt (one v 0) (Env.get [(0,r)] 0) i b:=fun i b h=>h
 refine ⟨inv.go hs.os hs.tape hs.output hs.size hs.keeps hs.ι (fun b hb h1 h2=>?_) hs.fr (fun t i b h=>?_) hr.h (fun id j b h=>.inr ⟨hno b (hc b ⟨id,j,h⟩),fun id' j' h'=>?_,hfr b (hc b ⟨id,j,h⟩)⟩) (fun id _ h=>hs.nil id h),
  hr.e 0,fun i b h=>⟨hno b (ho i b h),hr.sc 0 i b (h0 i b h),hfr b (ho i b h)⟩,fun i i' b h h'=>(hr.ss 0 i 0 i' b (h0 _ _ h) (h0 _ _ h')).2⟩
 ·have hb':b<w.heap.size:=Nat.lt_of_lt_of_le hb inv.step.size
  refine hs.far b hb' (fun id hi=>?_) (fun hcb=>?_)
  ·exact inv.iFar hi hb h1
  ·rcases inv.cown b hcb with h | h
   ·omega
   ·exact h2 h
 ·obtain ⟨h1,h2,h3⟩:=hslot t i b h
  obtain ⟨h4,h5⟩:=hs.far b h1 h2 h3
  exact ⟨h4,h5,fun id hi=>by
   rcases hs.ι id b hi with hi | hi
   ·exact h2 id hi
   ·omega⟩
 ·have:=hr.cc id' j' id j b h' h
  exact this
end
end Ps
/- PSem, part 4: the table of types; reading. -/
namespace Ps
open Go
def zeq:Value→PV→Bool
 | .bool b,.bool c=>b==c
 | .int k n,.int k' n'=>decide (k=k')&&decide (n=n')
 | .string s,.str t=>decide (s.data.toList=t)
 | .pointer none,.ptr none=>true
 | .slice none 0 0,.slice 0 [] _=>true
 | .slice none 0 0,.nilS=>true
 | .nilFunc,.nilF=>true
 | _,.undef=>true
 | _,_=>false
def zeqs:List Value→List PV→Bool
 | [],[]=>true
 | v::vs,p::ps=>zeq v p&&zeqs vs ps
 | _,_=>false
theorem zeq_V {g:Gh} {w:World}:∀{v:Value} {p:PV},zeq v p=true→V g w v p:=by
 intro v p h
 unfold zeq at h
 split at h
 ·simp at h;subst h;exact .bool _
 ·simp at h;obtain ⟨rfl,rfl⟩:=h;exact .int _ _
 ·rename_i s t
  have h:=of_decide_eq_true h
  subst h
  have:Value.string s=strV s.data.toList:=by simp [strV]
  rw [this];exact .str _
 ·exact .nilp
 ·exact .snil _
 ·exact .nilS
 ·exact .nilF
 ·exact .undef _
 ·cases h
theorem zeqs_V {g:Gh} {w:World}:∀{vs:List Value} {ps:List PV},zeqs vs ps=true→vs.length=ps.length∧∀(j:Nat) (c:PV),ps[j]? = some c→∃v,vs[j]? = some v∧V g w v c
 | [],[],_=>⟨rfl,fun j c h=>by simp at h⟩
 | v::vs,p::ps,h=>by
  simp only [zeqs,zqb] at h
  obtain ⟨h1,h2⟩:=zeqs_V (g:=g) (w:=w) h.2
  refine ⟨by simp [h1],fun j c hj=>?_⟩
  cases j with
  | zero=>simp at hj;subst hj;exact ⟨v,rfl,zeq_V h.1⟩
  | succ j=>simpa using h2 j c (by simpa using hj)
 | [],_::_,h=>by cases h
 | _::_,[],h=>by cases h
def fieldsOk:List Field→List (Nat×Nat)→Bool
 | [],[]=>true
 | f :: fs, (t, o) :: r => decide (f.type = t) && decide (f.offset = o) && !decide (f.name = "_") && fieldsOk fs r
 | _,_=>false
def fieldsOkB:List Field→List (Nat×Nat)→Bool
 | [],[]=>true
 | f::fs,(t,o)::r=>decide (f.type=t)&&decide (f.offset=o)&&fieldsOkB fs r
 | _,_=>false
def kindOk (P:Program) (t:Nat) (k:TK):Bool:=match k,P.underlying t with
 | .bool,some .bool=>true
 | .int k,some (.int k')=>decide (k=k')
 | .str,some .string=>true
 | .ptr,some (.pointer e)=>Nat.blt 0 (psize P e)
 | .strct fs,some (.struct gs)=>fieldsOk gs.toList fs&&!P.stoodInHeld t&&gs.toList.all fun f=>(P.info? f.type).isSome
 | .strB fs,some (.struct gs)=>fieldsOkB gs.toList fs
 | .arr n e,some (.array n' e')=>decide (n=n')&&decide (e=e')
 | .slice e,some (.slice e')=>decide (e=e')
 | .map k e,some (.map k' e')=>decide (k=k')&&decide (e=e')
 | .fn,some (.func _ _ _)=>true
 | .other,some (.struct _)=>false
 | .other,some (.array _ _)=>false
 | .other,some _=>true
 | _,_=>false
def isAggV:Value→Bool
 | .agg _=>true
 | _=>false
def tiOk (P:Program) (t:Nat) (i:TI):Bool:=match P.info? t with
 | some ti=>decide (ti.size=i.sz)&&decide (ti.bytes=i.bytes)&&Nat.blt 0 i.sz&&Nat.blt 0 i.bytes&&decide (i.zero.length=i.sz)&&kindOk P t i.k&&(match ti.zero with
  | some z=>zeqs z.cells.toList i.zero&&(isAggT i==isAggV z)
  | none=>false)
 | none=>false
def ttOk (P:Program) (tt:TT):Bool:=tt.all fun p=>tiOk P p.1 p.2
theorem tt_get_mem:∀{tt:TT} {t:Nat} {i:TI},tt.get t=some i→(t,i)∈tt
 | [],_,_,h=>by cases h
 | (s,j)::r,t,i,h=>by
  unfold TT.get at h
  split at h
  ·rename_i hb
   cases h
   rw [zqg hb];exact List.mem_cons_self
  ·exact List.mem_cons_of_mem _ (tt_get_mem h)
structure TIs (P:Program) (t:Nat) (i:TI):Prop where
 ex:∃ti z,P.info? t=some ti∧ti.size=i.sz∧ti.bytes=i.bytes∧ti.zero=some z∧zeqs z.cells.toList i.zero=true
 pos:0<i.sz
 bpos:0<i.bytes
 len:i.zero.length=i.sz
 kind:kindOk P t i.k=true
 zag:∀ti z,P.info? t=some ti→ti.zero=some z→isAggT i=isAggV z
theorem tis {P:Program} {tt:TT} (h:ttOk P tt=true) {t:Nat} {i:TI} (hg:tt.get t=some i):TIs P t i:=by
 have h1:=List.all_eq_true.1 h _ (tt_get_mem hg)
 unfold tiOk at h1
 split at h1
 ·rename_i ti hti
  simp only [zqb] at h1
  obtain ⟨⟨⟨⟨⟨⟨h1,h2⟩,h3⟩,h3'⟩,h4⟩,h5⟩,h6⟩:=h1
  split at h6
  ·rename_i z hz
   rw [zqb] at h6
   exact ⟨⟨ti,z,hti,of_decide_eq_true h1,of_decide_eq_true h2,hz,h6.1⟩,by simpa [Nat.blt_eq] using h3,by simpa [Nat.blt_eq] using h3',of_decide_eq_true h4,h5,fun ti' z' e1 e2=>by
    rw [hti] at e1;cases e1;rw [hz] at e2;cases e2;exact eq_of_beq h6.2⟩
  ·cases h6
 ·cases h1
section
variable {P : Program} {t : Nat} {i : TI}
theorem TIs.psize (h:TIs P t i):Ps.psize P t=i.sz:=by
 obtain ⟨ti,z,h1,h2,_⟩:=h.ex
 simp [Ps.psize,h1,h2]
theorem TIs.run_sizeOf (h:TIs P t i) (w:World):(Go.sizeOf t).run P w=.ok i.sz w:=by
 obtain ⟨ti,z,h1,h2,_⟩:=h.ex
 simp [Go.sizeOf,typeInfo,h1,h2]
theorem TIs.run_zero (h:TIs P t i) (w:World):∃z,(zeroValue t).run P w=.ok z w∧zeqs z.cells.toList i.zero=true∧z.cells.size=i.sz:=by
 obtain ⟨ti,z,h1,h2,h3,h4,h5⟩:=h.ex
 refine ⟨z,by simp [zeroValue,typeInfo,h1,h4],h5,?_⟩
 have:=(zeqs_V (g:=⟨[],fun _ _=>False⟩) (w:=w) h5).1
 rw [←h.len,←this,Array.length_toList]
theorem TIs.run_zeroV (h:TIs P t i) {g:Gh} (w:World) {K:PV→Prop} (hz:zeroOf i K):∃z p,(zeroValue t).run P w=.ok z w∧V g w z p∧K p:=by
 obtain ⟨ti,z,h1,h2,h3,h4,h5⟩:=h.ex
 have hza:=h.zag ti z h1 h4
 obtain ⟨k1,k2⟩:=zeqs_V (g:=g) (w:=w) h5
 have hr:(zeroValue t).run P w=.ok z w:=by simp [zeroValue,typeInfo,h1,h4]
 unfold zeroOf at hz
 cases ha:isAggT i with
 | true =>
  rw [ha] at hz hza
  cases z <;> first | cases hza | skip
  rename_i vs
  refine ⟨_,_,hr,.agg vs i.zero (by simpa [Value.cells] using k1) (fun j c hj=>?_),hz⟩
  obtain ⟨v,e1,e2⟩:=k2 j c hj
  have e1:vs[j]? = some v:=by simpa [Value.cells] using e1
  rw [Array.getD_eq_getD_getElem?,e1];exact e2
 | false =>
  rw [ha] at hz hza
  have hc:z.cells=#[z]:=by cases z <;> first | rfl | cases hza
  cases hz0:i.zero with
  | nil=>rw [hz0] at hz;exact hz.elim
  | cons p r =>
   rw [hz0] at hz
   obtain ⟨v,e1,e2⟩:=k2 0 p (by rw [hz0];rfl)
   rw [hc] at e1
   have e1:z=v:=by simpa using e1
   subst e1
   exact ⟨z,p,hr,e2,hz⟩
theorem TIs.map (h:TIs P t i) {k e:Nat} (hk:i.k=.map k e):P.underlying t=some (.map k e):=by
 have:=h.kind
 rw [hk] at this
 unfold kindOk at this
 split at this <;> simp_all
theorem TIs.slice (h:TIs P t i) {e:Nat} (hk:i.k=.slice e):P.underlying t=some (.slice e):=by
 have:=h.kind
 rw [hk] at this
 unfold kindOk at this
 split at this <;> simp_all
theorem TIs.int (h:TIs P t i) {k:IntKind} (hk:i.k=.int k):P.underlying t=some (.int k):=by
 have:=h.kind
 rw [hk] at this
 unfold kindOk at this
 split at this <;> simp_all
theorem TIs.str (h:TIs P t i) (hk:i.k=.str):P.underlying t=some .string:=by
 have:=h.kind
 rw [hk] at this
 unfold kindOk at this
 split at this <;> simp_all
theorem TIs.bool (h:TIs P t i) (hk:i.k=.bool):P.underlying t=some .bool:=by
 have:=h.kind
 rw [hk] at this
 unfold kindOk at this
 split at this <;> simp_all
theorem TIs.ptr (h:TIs P t i) (hk:i.k=.ptr):∃e,P.underlying t=some (.pointer e)∧0<Ps.psize P e:=by
 have:=h.kind
 rw [hk] at this
 unfold kindOk at this
 split at this <;> simp_all [Nat.blt_eq]
theorem TIs.arr (h:TIs P t i) {n e:Nat} (hk:i.k=.arr n e):P.underlying t=some (.array n e):=by
 have:=h.kind
 rw [hk] at this
 unfold kindOk at this
 split at this <;> simp_all
theorem TIs.strct (h:TIs P t i) {fs:List (Nat×Nat)} (hk:i.k=.strct fs):∃gs:Array Field,P.underlying t=some (.struct gs)∧fieldsOk gs.toList fs=true∧P.stoodInHeld t=false:=by
 have:=h.kind
 rw [hk] at this
 unfold kindOk at this
 split at this <;> simp_all
theorem TIs.strB (h:TIs P t i) {fs:List (Nat×Nat)} (hk:i.k=.strB fs):∃gs:Array Field,P.underlying t=some (.struct gs)∧fieldsOkB gs.toList fs=true:=by
 have:=h.kind
 rw [hk] at this
 unfold kindOk at this
 split at this <;> simp_all
theorem fieldsOkB_get:∀{gs:List Field} {fs:List (Nat×Nat)},fieldsOkB gs fs=true→∀(j ft off:Nat),fs[j]? = some (ft,off)→∃f,gs[j]? = some f∧f.type=ft∧f.offset=off
 | [],[],_=>fun j _ _ h=>by simp at h
 | f::gs,(t,o)::fs,h=>by
  simp only [fieldsOkB,zqb] at h
  obtain ⟨⟨h1,h2⟩,h4⟩:=h
  refine fun j ft off hj=>?_
  cases j with
  | zero =>
   simp at hj;obtain ⟨rfl,rfl⟩:=hj
   exact ⟨f,rfl,of_decide_eq_true h1,of_decide_eq_true h2⟩
  | succ j=>simpa using fieldsOkB_get h4 j ft off (by simpa using hj)
 | [],_::_,h=>by cases h
 | _::_,[],h=>by cases h
theorem TIs.strctInfo (h:TIs P t i) {fs:List (Nat×Nat)} (hk:i.k=.strct fs) {gs:Array Field} (hu:P.underlying t=some (.struct gs)):∀f∈gs.toList,(P.info? f.type).isSome=true:=by
 have:=h.kind
 simp only [hk,kindOk,hu,zqb,List.all_eq_true] at this
 exact this.2
theorem fieldsOk_get:∀{gs:List Field} {fs:List (Nat×Nat)},fieldsOk gs fs=true→gs.length=fs.length ∧
  ∀ (j ft off : Nat), fs[j]? = some (ft, off) → ∃ f, gs[j]? = some f ∧ f.type = ft ∧ f.offset = off ∧ f.name ≠ "_"
 | [],[],_=>⟨rfl,fun j _ _ h=>by simp at h⟩
 | f::gs,(t,o)::fs,h=>by
  simp only [fieldsOk,zqb] at h
  obtain ⟨⟨⟨h1,h2⟩,h3⟩,h4⟩:=h
  obtain ⟨k1,k2⟩:=fieldsOk_get h4
  refine ⟨by simp [k1],fun j ft off hj=>?_⟩
  cases j with
  | zero =>
   simp at hj;obtain ⟨rfl,rfl⟩:=hj
   exact ⟨f,rfl,of_decide_eq_true h1,of_decide_eq_true h2,by simpa using h3⟩
  | succ j=>simpa using k2 j ft off (by simpa using hj)
 | [],_::_,h=>by cases h
 | _::_,[],h=>by cases h
theorem TIs.run_isAgg (h:TIs P t i) (w:World):(isAgg t).run P w=.ok (isAggT i) w:=by
 have hk:=h.kind
 unfold kindOk at hk
 split at hk <;> simp_all [isAgg,isAggT,underlying]
end
def Cells (P:Program) (g:Gh) (w:World) (b off:Nat) (cs:List PV):Prop :=
 ∀(j:Nat) (c:PV),cs[j]? = some c→∃v,w.cell? ⟨b,off+j,none⟩=some v∧VH P g w v c
theorem Addr.add_plain (b off j:Nat):(⟨b,off,none⟩:Addr).add j=⟨b,off+j,none⟩:=by
 unfold Addr.add;split <;> simp_all
section
variable {P : Program} {g : Gh} {w : World} {b off : Nat} {cs : List PV}
theorem Cells.drop (h:Cells P g w b off cs) (n:Nat):Cells P g w b (off+n) (cs.drop n):=fun j c hj=>by
 rw [zqt] at hj
 obtain ⟨v,h1,h2⟩:=h (n+j) c hj
 exact ⟨v,by rw [Nat.add_assoc];exact h1,h2⟩
theorem Cells.obj {H:PH} (h:RelH P g w H) {id:Nat} {o:PObj} (hid:H[id]? = some o) (hi:g.ι[id]? = some (some b)) (hkd:kindAt w b=1):Cells P g w b 0 o.cs:=fun j c hj=>by
 obtain ⟨vs,h1,h2,h3⟩:=h.obj id b o hid hi hkd
 obtain ⟨v,h4,h5⟩:=h3 j c hj
 exact ⟨v,by rw [cell?_cells h1,Nat.zero_add];exact h4,h5⟩
theorem Cells.imm {u:Nat→Value} (hI:∀j c,cs[j]? = some c→g.I b (off+j)∧w.cell? ⟨b,off+j,none⟩=some (u j)) (hV:∀j c,cs[j]? = some c→V g w (u j) c) :
  Cells P g w b off cs:=fun j c hj=>⟨u j,(hI j c hj).2,.inl (hV j c hj)⟩
theorem run_load (a:Addr) {v:Value} (h:w.cell? a=some v):(load a).run P w=.ok v w:=by
 simp [load,Sem.run,h]
theorem run_pRead {T:Nat} {i:TI} (hT:TIs P T i) (hc:Cells P g w b off cs) {K:PV→Prop} (hp:pRead i cs K) :
  ∃v p,(loadVar T ⟨b,off,none⟩).run P w=.ok v w∧V g w v p∧K p:=by
 unfold pRead at hp
 unfold loadVar
 simp only [Sem.run_bind,hT.run_isAgg,Result.andThen_ok]
 cases ha:isAggT i with
 | false =>
  rw [ha] at hp
  cases cs with
  | nil=>exact hp.elim
  | cons c cs =>
   obtain ⟨v,h1,h2⟩:=hc 0 c rfl
   refine ⟨v,dem c,?_,h2.dem,by have hp':frc (dem c) K:=hp;rw [frc_eq] at hp';exact hp'⟩
   simp only [Bool.false_eq_true,if_false]
   exact run_load _ h1
 | true =>
  rw [ha] at hp
  simp only at hp
  split at hp
  ·rename_i hl
   have hl:=zqh hl
   have hex:∀j:Nat,∃v:Value,j<i.sz→w.cell? ⟨b,off+j,none⟩=some v∧VH P g w v (cs.getD j .undef):=fun j=>by
    by_cases hj:j<i.sz
    ·obtain ⟨v,h1,h2⟩:=hc j (cs[j]'(by omega)) (zqc (by omega))
     exact ⟨v,fun _=>⟨h1,by rw [List.getD_eq_getElem?_getD,zqc (show j<cs.length by omega)];exact h2⟩⟩
    ·exact ⟨undef,fun h=>absurd h hj⟩
   obtain ⟨f,hf⟩:=Classical.axiomOfChoice hex
   have hr:=run_loadCells (P:=P) (w:=w) ⟨b,off,none⟩ i.sz f (fun j hj=>by rw [Addr.add_plain];exact (hf j hj).1)
   refine ⟨.agg ((List.range i.sz).map f).toArray,_,?_,?_,hp⟩
   ·simp only [if_true,Sem.run_bind,hT.run_sizeOf,Result.andThen_ok,hr]
    rfl
   ·refine .agg _ _ ?_ fun j c hj=>?_
    ·simp;omega
    ·rw [List.getElem?_map] at hj
     obtain ⟨c',hc',rfl⟩:=Option.map_eq_some_iff.1 hj
     have hj':j<i.sz:=by
      have:=(zq1.1 hc').1
      simp at this;omega
     rw [zqs,zqp hj'] at hc'
     have:=(hf j hj').2
     rw [List.getD_eq_getElem?_getD,hc'] at this
     have h3:=VH.dem this
     simp only [Option.getD_some] at h3
     rw [Array.getD_eq_getD_getElem?]
     simpa [hj'] using h3
  ·exact hp.elim
end
end Ps
/- PSem, part 5: the operations that do not write. -/
namespace Ps
open Go
def SrcIs (a:Act) (g:Gh) (w:World) (v:Value):Src→Prop
 | .slot t=>v=vals a t
 | .cell id off=>∃b,g.ι[id]? = some (some b)∧w.cell? ⟨b,off,none⟩=some v
def QRel (a:Act) (g:Gh) (w:World) (q:Q):Prop:=∀p∈q,SrcIs a g w (vals a p.1) p.2
structure Post (P:Program) (g0:Gh) (w0:World) (H0:PH) (F0:Nat→Prop) (N:Nat) (a:Act) (g:Gh) (w:World) (E:Env) (q:Q) (H:PH) (v:Value) (p:PV) (s:Option Src):Prop where
 inv:Inv P g0 w0 H0 F0 N g w a E H
 vc:VC P g w v p
 ow:∀i b,ownAt v p i b→(∀t i',¬ownAt (vals a t) (E.get t) i' b)∧¬cellOwn g w H b∧(w0.heap.size≤b∨F0 b)
 inj:∀i i' b,ownAt v p i b→ownAt v p i' b→i=i'
 qr:QRel a g w q
 src:∀x,s=some x→SrcIs a g w v x
theorem qdel_mem {d:Nat}:∀{q:Q} {p:Nat×Src},p∈qdel d q→p∈q∧p.1≠d∧p.2≠.slot d
 | [],_,h=>by cases h
 | (x,s)::q,p,h=>by
  unfold qdel at h
  split at h
  ·obtain ⟨h1,h2⟩:=qdel_mem h;exact ⟨List.mem_cons_of_mem _ h1,h2⟩
  ·rename_i hx
   have hx:x≠d:=fun e=>by rw [e] at hx;simp at hx
   split at h
   ·rename_i t
    split at h
    ·obtain ⟨h1,h2⟩:=qdel_mem h;exact ⟨List.mem_cons_of_mem _ h1,h2⟩
    ·rename_i ht
     have ht:t≠d:=fun e=>by rw [e] at ht;simp at ht
     rcases List.mem_cons.1 h with rfl | h
     ·exact ⟨List.mem_cons_self,hx,by simpa using ht⟩
     ·obtain ⟨h1,h2⟩:=qdel_mem h;exact ⟨List.mem_cons_of_mem _ h1,h2⟩
   ·rcases List.mem_cons.1 h with rfl | h
    ·exact ⟨List.mem_cons_self,hx,by simp⟩
    ·obtain ⟨h1,h2⟩:=qdel_mem h;exact ⟨List.mem_cons_of_mem _ h1,h2⟩
theorem qslots_mem:∀{q:Q} {p:Nat×Src},p∈qslots q→p∈q∧∃t,p.2=.slot t
 | [],_,h=>by cases h
 | (x,s)::q,p,h=>by
  unfold qslots at h
  split at h
  ·rcases List.mem_cons.1 h with rfl | h
   ·exact ⟨List.mem_cons_self,_,rfl⟩
   ·obtain ⟨h1,h2⟩:=qslots_mem h;exact ⟨List.mem_cons_of_mem _ h1,h2⟩
  ·obtain ⟨h1,h2⟩:=qslots_mem h;exact ⟨List.mem_cons_of_mem _ h1,h2⟩
theorem qget_mem:∀{q:Q} {t:Nat} {s:Src},qget q t=some s→(t,s)∈q
 | [],_,_,h=>by cases h
 | (x,s)::q,t,s',h=>by
  unfold qget at h
  split at h
  ·rename_i hx;cases h;rw [zqg hx];exact List.mem_cons_self
  ·exact List.mem_cons_of_mem _ (qget_mem h)
section
variable {P : Program} {tt : TT} {g0 : Gh} {w0 : World} {H0 : PH} {F0 : Nat → Prop} {N : Nat} {g : Gh} {w : World} {a : Act} {E : Env} {H : PH} {q : Q} {v : Value} {p : PV} {s : Option Src}
theorem QRel.del (h:QRel a g w q) (d:Nat):QRel a g w (qdel d q):=fun p hp=>h p (qdel_mem hp).1
theorem QRel.slots (h:QRel a g w q) {g':Gh} {w':World}:QRel a g' w' (qslots q):=fun p hp=>by
 obtain ⟨h1,t,h2⟩:=qslots_mem hp
 have:=h p h1
 rw [h2] at this ⊢
 exact this
theorem QRel.nil:QRel a g w []:=fun p hp=>by cases hp
theorem QRel.keep (h:QRel a g w q) {g':Gh} {w':World} (hι:∀(id b:Nat),g.ι[id]? = some (some b)→g'.ι[id]? = some (some b)∧w'.heap[b]? = w.heap[b]?):QRel a g' w' q:=fun p hp=>by
 have:=h p hp
 cases e:p.2 with
 | slot t=>rw [e] at this;exact this
 | cell id off =>
  rw [e] at this
  obtain ⟨b,h1,h2⟩:=this
  exact ⟨b,(hι id b h1).1,(cell?_of_heap (hι id b h1).2 off).trans h2⟩
theorem Post.ofV (inv:Inv P g0 w0 H0 F0 N g w a E H) (hv:V g w v p) (hq:QRel a g w q):Post P g0 w0 H0 F0 N a g w E q H v p none :=
 ⟨inv,hv.vc,fun i b h=>absurd h (no_own hv i b),fun i _ b h=>absurd h (no_own hv i b),hq,fun _ h=>by cases h⟩
theorem Post.next (h:Post P g0 w0 H0 F0 N a g w E q H v p s) {d:Option Nat} {K:Env→Q→Prop} (hp:pPut N d p s E q K) :
  ∃E' q',Inv P g0 w0 H0 F0 N g w (a.put d v) E' H∧QRel (a.put d v) g w q'∧K E' q':=by
 cases d with
 | none=>exact ⟨E,q,h.inv,h.qr,hp⟩
 | some d =>
  simp only [pPut] at hp
  split at hp
  ·rename_i hd
   have hd:d<N:=by simpa [Nat.blt_eq] using hd
   have hd':d<a.tmps.size:=by rw [h.inv.size];exact hd
   refine ⟨_,_,h.inv.put hd h.vc (fun i b ho=>⟨fun t i' _=>(h.ow i b ho).1 t i',(h.ow i b ho).2⟩) h.inj,?_,hp⟩
   intro x hx
   have hold:∀y∈qdel d q,SrcIs (a.put (some d) v) g w (vals (a.put (some d) v) y.1) y.2:=fun y hy=>by
    obtain ⟨h1,h2,h3⟩:=qdel_mem hy
    have:=h.qr y h1
    rw [vals_put _ _ _ _ hd',zqo h2]
    cases e:y.2 with
    | slot t =>
     rw [e] at this h3
     have ht:t≠d:=fun e'=>h3 (by rw [e'])
     show vals a y.1=vals (a.put (some d) v) t
     rw [vals_put _ _ _ _ hd',zqo ht];exact this
    | cell id off=>rw [e] at this;exact this
   cases s with
   | none=>exact hold x hx
   | some s =>
    rcases List.mem_cons.1 hx with rfl | hx
    ·show SrcIs _ g w (vals (a.put (some d) v) d) s
     rw [vals_put _ _ _ _ hd',zqp rfl]
     have:=h.src s rfl
     cases s with
     | slot t =>
      show v=vals (a.put (some d) v) t
      rw [vals_put _ _ _ _ hd']
      by_cases e:t=d
      ·rw [zqp e]
      ·rw [zqo e];exact this
     | cell id off=>exact this
    ·exact hold x hx
  ·exact hp.elim
/-! ### what a pure value says of a value -/
theorem ofC0_V (v:Value):V g w v (ofC0 v):=by
 cases v with
 | bool b=>exact .bool b
 | int k n=>exact .int k n
 | string s =>
  have:Value.string s=strV s.data.toList:=by simp [strV]
  show V g w (.string s) (.str s.data.toList)
  rw [this];exact .str _
 | pointer a=>cases a with
  | none=>exact .nilp
  | some a=>exact .undef _
 | slice a n c =>
  cases a with
  | some a=>exact .undef _
  | none=>cases n with
   | zero=>cases c with
    | zero=>exact .nilS
    | succ c=>exact .undef _
   | succ n=>exact .undef _
 | nilFunc=>exact .nilF
 | _=>exact .undef _
theorem ofC_V (v:Value):V g w v (ofC v):=by
 cases v with
 | agg vs =>
  refine .agg vs _ (by simp) fun j c hj=>?_
  rw [List.getElem?_map] at hj
  obtain ⟨u,hu,rfl⟩:=Option.map_eq_some_iff.1 hj
  rw [Array.getElem?_toList] at hu
  rw [Array.getD_eq_getD_getElem?,hu]
  exact ofC0_V u
 | _=>exact ofC0_V _
theorem opnd_VC (hr:Rel P g w (vals a) E H) (x:Operand):VC P g w (a.eval x) (opnd E x):=by
 cases x with
 | tmp t=>exact hr.e t
 | const v=>exact (ofC_V v).vc
 | func f=>exact V.vc (.func f #[] #[] [] [] rfl rfl (fun j c h=>by simp at h) (fun j c h=>by simp at h))
 | global _=>exact V.vc (.undef _)
theorem VC.dem' (h:VC P g w v p) (hp:∀cs,p≠.tup cs):V g w v (Ps.dem p):=h.dem
theorem VC.V' (h:VC P g w v p) (hp:∀cs,p≠.tup cs) (ho:isOwn p=false):V g w v p:=by
 cases p with
 | tup cs=>exact absurd rfl (hp cs)
 | slice n cs o =>
  cases o with
  | none=>exact VC.dem' h hp
  | some e=>cases ho
 | _=>exact VC.dem' h hp
theorem VC.int {k:IntKind} {n:Int} (h:VC P g w v (.int k n)):v=.int k n:=by
 have:=h.V' (by simp) rfl
 cases this;rfl
theorem VC.bool {b:Bool} (h:VC P g w v (.bool b)):v=.bool b:=by
 have:=h.V' (by simp) rfl
 cases this;rfl
theorem VC.str {b:List UInt8} (h:VC P g w v (.str b)):v=strV b:=by
 have:=h.V' (by simp) rfl
 cases this;rfl
theorem VC.slice {n:Nat} {cs:List PV} {o:Option Nat} (h:VC P g w v (.slice n cs o)):V g w v (.slice n cs none):=VC.dem' h (by simp)
theorem wp_value {o:Oper} {w':World} {next:Act→World→Prop} {Q':Exit→Act→World→Prop} (h:(execOp a.eval o).run P w=.ok (.value v) w') (hn:next (a.put o.dst v) w') :
  o.wp P a w next Q':=by
 unfold Oper.wp
 rw [h];exact hn
theorem wp_skip {o:Oper} {w':World} {next:Act→World→Prop} {Q':Exit→Act→World→Prop} (h:(execOp a.eval o).run P w=.ok .skip w') (hn:next (a.put o.dst undef) w') :
  o.wp P a w next Q':=by
 unfold Oper.wp
 rw [h];exact hn
end
/-! ### numbers and their like -/
section
variable {P : Program} {tt : TT} {g : Gh} {w : World} {vx vy : Value} {x y : PV} {K : PV → Prop}
theorem ikeq' {k k':IntKind} {A:Prop} (h:ikeq k k' A):k=k'∧A:=ikeq_eq k k' A h
theorem run_bin_int (op:BinOp) (T:Nat) (xo yo:Operand) (k k':IntKind) (m n:Int) (hp:pBin tt op T (.int k m) (.int k' n) K) :
  ∃v p,(do eqGuard op T xo yo (.int k m) (.int k' n);binOp op T (.int k m) (.int k' n):Sem Value).run P w=.ok v w∧V g w v p∧K p:=by
 have he:(eqGuard op T xo yo (.int k m) (.int k' n)).run P w=.ok () w:=by cases op <;> simp [eqGuard]
 simp only [Sem.run_bind,he,Result.andThen_ok]
 cases op
 case shl =>
  refine ⟨_,_,?_,.int _ _,hp.2⟩
  have:¬n<0:=by have:=hp.1;omega
  simp [binOp,Op.shift,this,ishl]
 case shr =>
  refine ⟨_,_,?_,.int _ _,hp.2⟩
  have:¬n<0:=by have:=hp.1;omega
  simp [binOp,Op.shift,this,ishr]
 case quo =>
  obtain ⟨rfl,h0,hk⟩:=ikeq' hp
  exact ⟨.int k (k.wrap (m.tdiv n)),_,by simp [binOp,Op.intDiv,h0],.int _ _,hk⟩
 case rem =>
  obtain ⟨rfl,h0,hk⟩:=ikeq' hp
  exact ⟨.int k (m.tmod n),_,by simp [binOp,Op.intDiv,h0],.int _ _,hk⟩
 case eql =>
  obtain ⟨rfl,h1,h2⟩:=ikeq' hp
  by_cases h:m=n
  ·exact ⟨.bool true,_,by simp [binOp,Op.intCmp,h],.bool _,h1 h⟩
  ·exact ⟨.bool false,_,by simp [binOp,Op.intCmp,h],.bool _,h2 h⟩
 case neq =>
  obtain ⟨rfl,h1,h2⟩:=ikeq' hp
  by_cases h:m=n
  ·exact ⟨.bool false,_,by simp [binOp,Op.intCmp,h],.bool _,h1 h⟩
  ·exact ⟨.bool true,_,by simp [binOp,Op.intCmp,h],.bool _,h2 h⟩
 case lss =>
  obtain ⟨rfl,h1,h2⟩:=ikeq' hp
  by_cases h:m<n
  ·exact ⟨.bool true,_,by simp [binOp,Op.intCmp,h],.bool _,h1 h⟩
  ·exact ⟨.bool false,_,by simp [binOp,Op.intCmp];omega,.bool _,h2 h⟩
 case leq =>
  obtain ⟨rfl,h1,h2⟩:=ikeq' hp
  by_cases h:m≤n
  ·exact ⟨.bool true,_,by simp [binOp,Op.intCmp,h],.bool _,h1 h⟩
  ·exact ⟨.bool false,_,by simp [binOp,Op.intCmp];omega,.bool _,h2 h⟩
 case gtr =>
  obtain ⟨rfl,h1,h2⟩:=ikeq' hp
  by_cases h:n<m
  ·exact ⟨.bool true,_,by simp [binOp,Op.intCmp,h],.bool _,h1 h⟩
  ·exact ⟨.bool false,_,by simp [binOp,Op.intCmp];omega,.bool _,h2 h⟩
 case geq =>
  obtain ⟨rfl,h1,h2⟩:=ikeq' hp
  by_cases h:n≤m
  ·exact ⟨.bool true,_,by simp [binOp,Op.intCmp,h],.bool _,h1 h⟩
  ·exact ⟨.bool false,_,by simp [binOp,Op.intCmp];omega,.bool _,h2 h⟩
 case add =>
  obtain ⟨rfl,hk⟩:=ikeq' hp
  exact ⟨.int k (k.wrap (m+n)),_,by simp [binOp,Op.intArith],.int _ _,hk⟩
 case sub =>
  obtain ⟨rfl,hk⟩:=ikeq' hp
  exact ⟨.int k (k.wrap (m - n)),_,by simp [binOp,Op.intArith],.int _ _,hk⟩
 case mul =>
  obtain ⟨rfl,hk⟩:=ikeq' hp
  exact ⟨.int k (k.wrap (m*n)),_,by simp [binOp,Op.intArith],.int _ _,hk⟩
 case and =>
  obtain ⟨rfl,hk⟩:=ikeq' hp
  exact ⟨.int k (ibits .and k m n),_,by simp [binOp,Op.intBits,ibits],.int _ _,hk⟩
 case or =>
  obtain ⟨rfl,hk⟩:=ikeq' hp
  exact ⟨.int k (ibits .or k m n),_,by simp [binOp,Op.intBits,ibits],.int _ _,hk⟩
 case xor =>
  obtain ⟨rfl,hk⟩:=ikeq' hp
  exact ⟨.int k (ibits .xor k m n),_,by simp [binOp,Op.intBits,ibits],.int _ _,hk⟩
 case andNot =>
  obtain ⟨rfl,hk⟩:=ikeq' hp
  exact ⟨.int k (ibits .andNot k m n),_,by simp [binOp,Op.intBits,ibits],.int _ _,hk⟩
theorem strV_eq (s:List UInt8):strV s=.string ⟨⟨s⟩⟩:=rfl
theorem toList_mk (s:List UInt8):(⟨⟨s⟩⟩:ByteArray).toList=s:=by rw [ByteArray.toList_eq]
theorem run_bin_str (op:BinOp) (T:Nat) (xo yo:Operand) (s t:List UInt8) (hp:pBin tt op T (.str s) (.str t) K) :
  ∃v p,(do eqGuard op T xo yo (strV s) (strV t);binOp op T (strV s) (strV t):Sem Value).run P w=.ok v w∧V g w v p∧K p:=by
 have he:(eqGuard op T xo yo (strV s) (strV t)).run P w=.ok () w:=by cases op <;> simp [eqGuard,strV]
 simp only [Sem.run_bind,he,Result.andThen_ok]
 cases op
 case add =>
  refine ⟨strV (s++t),_,?_,.str _,hp.2⟩
  have h1:=hp.1
  have hm:IntKind.i64.max=9223372036854775807:=by decide
  have:¬(IntKind.i64.max<(s.length:Int)+(t.length:Int)):=by rw [hm];omega
  have hs:((⟨⟨s⟩⟩:ByteArray).size:Int)=s.length:=rfl
  have ht:((⟨⟨t⟩⟩:ByteArray).size:Int)=t.length:=rfl
  simp only [binOp,strV_eq,Op.stringOp]
  rw [zqo]
  ·show Result.ok _ w=Result.ok _ w
   congr 2
  ·simp only [Int.natCast_add,hs,ht];omega
 case eql =>
  by_cases h:s=t
  ·exact ⟨.bool true,_,by simp [binOp,strV_eq,Op.stringOp,toList_mk,h],.bool _,hp.1 h⟩
  ·exact ⟨.bool false,_,by simp [binOp,strV_eq,Op.stringOp,toList_mk,h],.bool _,hp.2 h⟩
 case neq =>
  by_cases h:s=t
  ·exact ⟨.bool false,_,by simp [binOp,strV_eq,Op.stringOp,toList_mk,h],.bool _,hp.1 h⟩
  ·exact ⟨.bool true,_,by simp [binOp,strV_eq,Op.stringOp,toList_mk,h],.bool _,hp.2 h⟩
 all_goals exact hp.elim
end
end Ps
/- PSem, part 6: comparisons, conversions, cuts. -/
namespace Ps
open Go
section
variable {P : Program} {tt : TT} {g : Gh} {w : World} {K : PV → Prop}
theorem run_bin_bool (hT:ttOk P tt=true) (op:BinOp) (T:Nat) (xo yo:Operand) (s t:Bool) (hp:pBin tt op T (.bool s) (.bool t) K) :
  ∃v p,(do eqGuard op T xo yo (.bool s) (.bool t);binOp op T (.bool s) (.bool t):Sem Value).run P w=.ok v w∧V g w v p∧K p:=by
 have he:(eqGuard op T xo yo (.bool s) (.bool t)).run P w=.ok () w:=by cases op <;> simp [eqGuard]
 simp only [Sem.run_bind,he,Result.andThen_ok]
 cases op
 case eql =>
  simp only [pBin] at hp
  split at hp
  ·rename_i i hi
   split at hp
   ·rename_i hk
    have hu:=(tis hT hi).bool hk
    exact ⟨.bool (s==t),_,by simp [binOp,Op.equal,Op.maxDepth,run_equalIn_bool' w 9999 T s t hu],.bool _,hp⟩
   ·exact hp.elim
  ·exact hp.elim
 case neq =>
  simp only [pBin] at hp
  split at hp
  ·rename_i i hi
   split at hp
   ·rename_i hk
    have hu:=(tis hT hi).bool hk
    exact ⟨.bool (!(s==t)),_,by simp [binOp,Op.equal,Op.maxDepth,run_equalIn_bool' w 9999 T s t hu],.bool _,hp⟩
   ·exact hp.elim
  ·exact hp.elim
 all_goals exact hp.elim
theorem run_equalIn_nilptr (d T e:Nat) (o:Option Addr) (h:P.underlying T=some (.pointer e)):(Op.equalIn (d+1) T (.pointer o) (.pointer none)).run P w=.ok o.isNone w:=by
 cases o with
 | none=>simp [Op.equalIn,run_underlying h]
 | some a=>simp [Op.equalIn,run_underlying h]
theorem run_bin_nil (op:BinOp) (T e:Nat) (xo yo:Operand) (o:Option Addr) (h:P.underlying T=some (.pointer e)) :
  (op=.eql→(do eqGuard op T xo yo (.pointer o) (.pointer none);binOp op T (.pointer o) (.pointer none):Sem Value).run P w=.ok (.bool o.isNone) w) ∧
  (op=.neq→(do eqGuard op T xo yo (.pointer o) (.pointer none);binOp op T (.pointer o) (.pointer none):Sem Value).run P w=.ok (.bool (!o.isNone)) w):=by
 constructor
 ·rintro rfl
  cases o <;> simp [eqGuard,binOp,Op.equal,Op.maxDepth,run_equalIn_nilptr 9999 T e _ h]
 ·rintro rfl
  cases o <;> simp [eqGuard,binOp,Op.equal,Op.maxDepth,run_equalIn_nilptr 9999 T e _ h]
theorem run_equalIn_nilslice (d T e:Nat) (o:Option Addr) (n c:Nat) (h:P.underlying T=some (.slice e)):(Op.equalIn (d+1) T (.slice o n c) (.slice none 0 0)).run P w=.ok o.isNone w:=by
 cases o with
 | none=>simp [Op.equalIn,run_underlying h]
 | some a=>simp [Op.equalIn,run_underlying h]
theorem run_bin_nils (op:BinOp) (T e:Nat) (xo yo:Operand) (o:Option Addr) (n c:Nat) (h:P.underlying T=some (.slice e)) :
  (op=.eql→(do eqGuard op T xo yo (.slice o n c) (.slice none 0 0);binOp op T (.slice o n c) (.slice none 0 0):Sem Value).run P w=.ok (.bool o.isNone) w) ∧
  (op=.neq→(do eqGuard op T xo yo (.slice o n c) (.slice none 0 0);binOp op T (.slice o n c) (.slice none 0 0):Sem Value).run P w=.ok (.bool (!o.isNone)) w):=by
 constructor
 ·rintro rfl
  simp [eqGuard,binOp,Op.equal,Op.maxDepth,run_equalIn_nilslice 9999 T e o n c h]
 ·rintro rfl
  simp [eqGuard,binOp,Op.equal,Op.maxDepth,run_equalIn_nilslice 9999 T e o n c h]
theorem run_un (op:UnOp) {v:Value} {p:PV} (hv:V g w v p) (hp:pUn op p K):∃u r,(Op.unary op v).run P w=.ok u w∧V g w u r∧K r:=by
 cases op with
 | not =>
  cases p with
  | bool b=>cases hv;exact ⟨.bool (!b),_,by simp [Op.unary],.bool _,hp⟩
  | _=>exact hp.elim
 | neg =>
  cases p with
  | int k n=>cases hv;exact ⟨.int k (k.wrap (0 - n)),_,by simp [Op.unary,Op.intArith],.int _ _,hp⟩
  | _=>exact hp.elim
 | xor =>
  cases p with
  | int k n=>cases hv;exact ⟨.int k (ibits .xor k (if k.signed then -1 else k.max) n),_,by simp only [Op.unary,Op.intBits,ibits];rfl,.int _ _,hp⟩
  | _=>exact hp.elim
 | _=>exact hp.elim
/-! []byte and string -/
theorem bytes_of {b off n cap:Nat} {cs:List PV} {s:List UInt8} (hv:V g w (.slice (some ⟨b,off,none⟩) n cap) (.slice n cs none)) (hs:cs=s.map bC) :
  ∀(j:Nat) (x:UInt8),s[j]? = some x→w.cell? ⟨b,off+j,none⟩=some (.int .u8 x.toNat):=by
 intro j x hj
 cases hv with
 | slice b off n cap cs u hn hI hV =>
  have hc:cs[j]? = some (bC x):=by rw [hs,List.getElem?_map,hj];rfl
  have h1:=(hI j _ hc).2
  have h2:=hV j _ hc
  cases h3:u j with
  | int k m =>
   rw [h3] at h2
   have:Value.int k m=.int .u8 x.toNat:=by cases h2;rfl
   rw [h1,h3,this]
  | _=>rw [h3] at h2;cases h2
end
end Ps
/- PSem, part 7: one operation (those that make or write nothing, and those that lay data). -/
namespace Ps
open Go
section
variable {P : Program} {tt : TT} {imm : List Nat} {g0 : Gh} {w0 : World} {H0 : PH} {F0 : Nat → Prop} {N : Nat} {g : Gh} {w : World} {a : Act} {E : Env} {H : PH} {q : Q}
def OpS (P:Program) (g0:Gh) (w0:World) (H0:PH) (F0:Nat→Prop) (N:Nat) (a:Act) (w:World) (o:Oper) (K:KK):Prop :=
 ∀(next:Act→World→Prop) (Q':Exit→Act→World→Prop),(∀g' w' v p s E' q' H',Post P g0 w0 H0 F0 N a g' w' E' q' H' v p s→K p s E' q' H'→next (a.put o.dst v) w')→o.wp P a w next Q'
theorem OpS.val {o:Oper} {K:KK} {v:Value} {p:PV} (inv:Inv P g0 w0 H0 F0 N g w a E H) (hq:QRel a g w q) (h:(execOp a.eval o).run P w=.ok (.value v) w) (hv:V g w v p) (hk:K p none E q H) :
  OpS P g0 w0 H0 F0 N a w o K:=fun next Q' hn=>wp_value h (hn _ _ _ _ _ _ _ _ (Post.ofV inv hv hq) hk)
theorem opnd_V (inv:Inv P g0 w0 H0 F0 N g w a E H) {x:Operand} {p:PV} (h:opnd E x=p) (hp:∀cs,p≠.tup cs) (ho:isOwn p=false):V g w (a.eval x) p:=by
 have:=opnd_VC inv.rel x
 rw [h] at this
 exact this.V' hp ho
theorem vals_own_put {s n:Nat} {cs:List PV} {e:Nat} (inv:Inv P g0 w0 H0 F0 N g w a E H) (h:E.get s=.slice n cs (some e)) :
  Post P g0 w0 H0 F0 N a g w ((s,.slice n cs none)::E) q H (vals a s) (.slice n cs (some e)) none↔QRel a g w q:=by
 refine ⟨fun h=>h.qr,fun hq=>⟨inv.demote h,?_,?_,?_,hq,fun _ h=>by cases h⟩⟩
 ·have:=inv.rel.e s;rw [h] at this;exact this
 ·intro i b ho
  have ho':ownAt (vals a s) (E.get s) i b:=by rw [h];exact ho
  refine ⟨fun t i' ht=>?_,inv.rel.sc s i b ho',inv.own s i b ho'⟩
  rw [Env.get_cons] at ht
  by_cases e':s=t
  ·rw [zqp e'] at ht;exact absurd ht.2.1 (by simp [isOwn])
  ·rw [zqo e'] at ht
   exact e' (inv.rel.ss s i t i' b ho' ht).1
 ·intro i i' b h1 h2
  exact h1.1.trans h2.1.symm
theorem plain_of {v:Value} {p:PV} (h:VC P g w v p) (h1:∀n cs e,p≠.slice n cs (some e)) (h2:∀cs,p≠.tup cs):V g w v p:=by
 cases p with
 | tup cs=>exact absurd rfl (h2 cs)
 | slice n cs o=>cases o with
  | none=>exact VC.slice h
  | some e=>exact absurd rfl (h1 n cs e)
 | _=>exact h.dem
theorem Inv.moveTup (inv:Inv P g0 w0 H0 F0 N g w a E H) (hq:QRel a g w q) {s:Nat} {cs:List PV} (hs:E.get s=.tup cs) :
  Post P g0 w0 H0 F0 N a g w ((s,.undef)::E) (qdel s q) H (vals a s) (.tup cs) none:=by
 have hvc:=inv.rel.e s
 rw [hs] at hvc
 refine ⟨inv.weaken (V.vc (.undef _)) (fun i b h=>absurd h (no_own (.undef _:V g w _ _) i b)),hvc,fun i b ho=>?_,fun i i' b h1 h2=>?_,hq.del s,fun _ h=>by cases h⟩
 ·have ho':ownAt (vals a s) (E.get s) i b:=by rw [hs];exact ho
  refine ⟨fun t i' ht=>?_,inv.rel.sc s i b ho',inv.own s i b ho'⟩
  rw [Env.get_cons] at ht
  by_cases e':s=t
  ·rw [zqp e'] at ht;exact no_own (.undef (vals a t):V g w _ _) _ _ ht
  ·rw [zqo e'] at ht
   exact e' (inv.rel.ss s i t i' b ho' ht).1
 ·have h1':ownAt (vals a s) (E.get s) i b:=by rw [hs];exact h1
  have h2':ownAt (vals a s) (E.get s) i' b:=by rw [hs];exact h2
  exact (inv.rel.ss s i s i' b h1' h2').2
theorem opnd_nt {x:Operand} (hx:∀t,x≠.tmp t):V g w (a.eval x) (opnd E x):=by
 cases x with
 | tmp t=>exact absurd rfl (hx t)
 | const v=>exact ofC_V v
 | func f=>exact .func f #[] #[] [] [] rfl rfl (fun j c h=>by simp at h) (fun j c h=>by simp at h)
 | global _=>exact .undef _
theorem op_move {x:Operand} {o:Oper} {K:KK} (ho:o.op=.move x) (inv:Inv P g0 w0 H0 F0 N g w a E H) (hq:QRel a g w q) (hp:pOp P tt imm E q H o K):OpS P g0 w0 H0 F0 N a w o K:=by
 have hrun:(execOp a.eval o).run P w=.ok (.value (a.eval x)) w:=by simp [execOp,ho]
 simp only [pOp,ho] at hp
 split at hp
 ·rename_i s
  split at hp
  ·rename_i n cs e hs
   intro next Q' hn
   have hv:V g w (vals a s) (.slice n cs none):=by
    have:=inv.rel.e s;rw [hs] at this;exact this.slice
   refine wp_value hrun (hn g w _ _ _ _ _ _ ⟨inv,hv.vc,fun i b h=>absurd h (no_own hv i b),fun i _ b h=>absurd h (no_own hv i b),hq,fun y hy=>?_⟩ hp)
   cases hy;rfl
  ·rename_i cs hs
   exact fun next Q' hn=>wp_value hrun (hn g w _ _ _ _ _ _ (inv.moveTup hq hs) hp)
  ·rename_i hs1 hs2
   rw [frc_eq] at hp
   exact OpS.val inv hq hrun (inv.rel.e s).dem hp
 ·rename_i hx
  rw [frc_eq] at hp
  exact OpS.val inv hq hrun (opnd_nt hx) hp
theorem op_assign {x:Operand} {o:Oper} {K:KK} (ho:o.op=.assign x) (inv:Inv P g0 w0 H0 F0 N g w a E H) (hq:QRel a g w q) (hp:pOp P tt imm E q H o K):OpS P g0 w0 H0 F0 N a w o K:=by
 have hrun:(execOp a.eval o).run P w=.ok (.value (a.eval x)) w:=by simp [execOp,ho]
 simp only [pOp,ho] at hp
 split at hp
 ·rename_i s
  split at hp
  ·rename_i n cs e hs
   exact fun next Q' hn=>wp_value hrun (hn g w _ _ _ _ _ _ ((vals_own_put inv hs).2 (hq.del s)) hp)
  ·split at hp
   ·split at hp
    ·rename_i s' hq'
     split at hp
     ·rename_i n cs e hs
      have he:vals a s=vals a s':=hq _ (qget_mem hq')
      have hrun':(execOp a.eval o).run P w=.ok (.value (vals a s')) w:=by rw [←he];exact hrun
      exact fun next Q' hn=>wp_value hrun' (hn g w _ _ _ _ _ _ ((vals_own_put inv hs).2 (hq.del s')) hp)
     ·exact hp.elim
    ·exact hp.elim
   ·rw [frc_eq] at hp
    exact OpS.val inv hq hrun (inv.rel.e s).dem hp
 ·split at hp
  ·exact OpS.val inv hq hrun .nilS hp
  ·split at hp
   ·split at hp
    ·exact OpS.val inv hq hrun (.snil _) hp
    ·exact OpS.val inv hq hrun (.snil _) hp
   ·exact OpS.val inv hq hrun (.snil _) hp
 ·rename_i hx1 hx2
  rw [frc_eq] at hp
  exact OpS.val inv hq hrun (opnd_nt hx1) hp
theorem op_pick {x y z:Operand} {o:Oper} {K:KK} (ho:o.op=.pick x y z) (inv:Inv P g0 w0 H0 F0 N g w a E H) (hq:QRel a g w q) (hp:pOp P tt imm E q H o K):OpS P g0 w0 H0 F0 N a w o K:=by
 simp only [pOp,ho] at hp
 split at hp
 ·rename_i b hb
  have hx:=opnd_VC inv.rel x
  rw [hb] at hx
  have hx:=hx.bool
  cases b with
  | true =>
   simp only [frc_eq] at hp
   exact OpS.val inv hq (by simp [execOp,ho,hx,asBool]) (opnd_VC inv.rel y).dem hp
  | false =>
   simp only [frc_eq] at hp
   exact OpS.val inv hq (by simp [execOp,ho,hx,asBool]) (opnd_VC inv.rel z).dem hp
 ·exact hp.elim
theorem op_un {op:UnOp} {T:Nat} {x:Operand} {o:Oper} {K:KK} (ho:o.op=.unOp op T x) (inv:Inv P g0 w0 H0 F0 N g w a E H) (hq:QRel a g w q) (hp:pOp P tt imm E q H o K):OpS P g0 w0 H0 F0 N a w o K:=by
 simp only [pOp,ho] at hp
 have hx:=opnd_VC inv.rel x
 have hp':∃p,opnd E x=p∧(∀n cs e,p≠.slice n cs (some e))∧(∀cs,p≠.tup cs):=by
  refine ⟨_,rfl,fun n cs e h=>?_,fun cs h=>?_⟩ <;> (rw [h] at hp;cases op <;> exact hp.elim)
 obtain ⟨p,h1,h2,h3⟩:=hp'
 rw [h1] at hp hx
 obtain ⟨u,r,k1,k2,k3⟩:=run_un (P:=P) op (plain_of hx h2 h3) hp
 exact OpS.val inv hq (by simp [execOp,ho,k1]) k2 k3
end
/-! ### inversions -/
def Imm (g:Gh) (w:World) (b off:Nat) (cs:List PV):Prop :=
 ∃u:Nat→Value,(∀(j:Nat) (c:PV),cs[j]? = some c→g.I b (off+j)∧w.cell? ⟨b,off+j,none⟩=some (u j))∧∀(j:Nat) (c:PV),cs[j]? = some c→V g w (u j) c
section
variable {P : Program} {g : Gh} {w : World} {v : Value}
theorem Imm.sub {b off k:Nat} {cs ds:List PV} (h:Imm g w b off cs) (hs:∀(j:Nat) (c:PV),ds[j]? = some c→cs[k+j]? = some c):Imm g w b (off+k) ds:=by
 obtain ⟨u,h1,h2⟩:=h
 exact ⟨fun j=>u (k+j),fun j c hj=>by rw [Nat.add_assoc];exact h1 _ c (hs j c hj),fun j c hj=>h2 _ c (hs j c hj)⟩
theorem Imm.drop {b off:Nat} {cs:List PV} (h:Imm g w b off cs) (k:Nat):Imm g w b (off+k) (dropN k cs) :=
 h.sub fun j c hj=>by rw [dropN_eq,zqt] at hj;exact hj
theorem Imm.cells {b off:Nat} {cs:List PV} (h:Imm g w b off cs):Cells P g w b off cs:=by
 obtain ⟨u,h1,h2⟩:=h
 exact Cells.imm h1 h2
theorem Imm.velem {b off:Nat} {cs:List PV} (h:Imm g w b off cs):V g w (.pointer (some ⟨b,off,none⟩)) (.elem cs):=by
 obtain ⟨u,h1,h2⟩:=h
 exact .elem b off cs u h1 h2
theorem Imm.vslice {b off n cap:Nat} {cs:List PV} (h:Imm g w b off cs) (hn:n≤cap):V g w (.slice (some ⟨b,off,none⟩) n cap) (.slice n cs none):=by
 obtain ⟨u,h1,h2⟩:=h
 exact .slice b off n cap cs u hn h1 h2
theorem V.inv_ptr {id off:Nat} (h:V g w v (.ptr (some (id,off)))):∃b,v=.pointer (some ⟨b,off,none⟩)∧g.ι[id]? = some (some b)∧kindAt w b=1:=by
 cases h;exact ⟨_,rfl,by assumption,by assumption⟩
theorem V.inv_sref {id off n cap:Nat} (h:V g w v (.sref id off n cap)):∃b,v=.slice (some ⟨b,off,none⟩) n cap∧g.ι[id]? = some (some b)∧n≤cap∧kindAt w b=1:=by
 cases h;exact ⟨_,rfl,by assumption,by assumption,by assumption⟩
theorem V.inv_rref {id off n:Nat} (h:V g w v (.rref id off n)):∃b cap,v=.slice (some ⟨b,off,none⟩) n cap∧g.ι[id]? = some (some b)∧n≤cap∧kindAt w b=1:=by
 cases h;exact ⟨_,_,rfl,by assumption,by assumption,by assumption⟩
theorem V.rref_sref {id off n:Nat} (h:V g w v (.rref id off n)):∃cap,V g w v (.sref id off n cap):=by
 cases h with
 | rref _ b _ _ cap h1 h2 h3=>exact ⟨cap,.sref id b off n cap h1 h2 h3⟩
theorem V.inv_mref {id:Nat} (h:V g w v (.mref id)):∃b,v=.map (some b)∧g.ι[id]? = some (some b)∧kindAt w b=2:=by
 cases h;exact ⟨_,rfl,by assumption,by assumption⟩
theorem Post.ptrKind {g0:Gh} {w0:World} {H0:PH} {F0:Nat→Prop} {N:Nat} {a:Act} {E:Env} {q:Q} {H:PH} {b off id o:Nat} {s:Option Src} (h:Post P g0 w0 H0 F0 N a g w E q H (.pointer (some ⟨b,off,none⟩)) (.ptr (some (id,o))) s):kindAt w b=1:=by
 obtain ⟨b',e1,_,e3⟩:=(plain_of h.vc (by simp) (by simp)).inv_ptr
 cases e1;exact e3
theorem V.inv_nilS (h:V g w v .nilS):v=.slice none 0 0:=by cases h;rfl
theorem V.inv_nilp (h:V g w v (.ptr none)):v=.pointer none:=by cases h;rfl
theorem V.inv_elem {cs:List PV} (h:V g w v (.elem cs)):∃b off,v=.pointer (some ⟨b,off,none⟩)∧Imm g w b off cs:=by
 cases h with
 | elem b off cs u h1 h2=>exact ⟨b,off,rfl,u,h1,h2⟩
theorem V.inv_slice {n:Nat} {cs:List PV} (h:V g w v (.slice n cs none)):(v=.slice none 0 0∧n=0∧cs=[])∨∃b off cap,v=.slice (some ⟨b,off,none⟩) n cap∧n≤cap∧Imm g w b off cs:=by
 cases h with
 | snil=>exact .inl ⟨rfl,rfl,rfl⟩
 | slice b off n cap cs u hn h1 h2=>exact .inr ⟨b,off,cap,rfl,hn,u,h1,h2⟩
theorem V.inv_agg {cs:List PV} (h:V g w v (.agg cs)):∃vs:Array Value,v=.agg vs∧vs.size=cs.length∧∀(j:Nat) (c:PV),cs[j]? = some c→V g w (vs.getD j Go.undef) c:=by
 cases h with
 | agg vs cs h1 h2=>exact ⟨vs,rfl,h1,h2⟩
theorem V.inv_func {f:Nat} {ps qs:List PV} (h:V g w v (.func f ps qs)):∃first caps:Array Value,v=.func (.func f) first caps∧first.size=ps.length∧caps.size=qs.length ∧
  (∀(j:Nat) (c:PV),ps[j]? = some c→V g w (first.getD j Go.undef) c)∧∀(j:Nat) (c:PV),qs[j]? = some c→V g w (caps.getD j Go.undef) c:=by
 cases h with
 | func f first caps ps qs h1 h2 h3 h4=>exact ⟨first,caps,rfl,h1,h2,h3,h4⟩
theorem run_part {t:Nat} {i:TI} (hT:TIs P t i) {vs:Array Value} {cs:List PV} {off:Nat} (hs:vs.size=cs.length)
  (hv:∀(j:Nat) (c:PV),cs[j]? = some c→V g w (vs.getD j undef) c) {K:PV→Prop} (hp:pRead i (dropN off cs) K) :
  ∃u p,(part t vs off).run P w=.ok u w∧V g w u p∧K p:=by
 unfold pRead at hp
 unfold part
 simp only [Sem.run_bind,hT.run_isAgg,Result.andThen_ok]
 rw [dropN_eq] at hp
 cases ha:isAggT i with
 | false =>
  rw [ha] at hp
  cases hd:cs.drop off with
  | nil=>rw [hd] at hp;exact hp.elim
  | cons c r =>
   rw [hd] at hp
   have hp':frc (dem c) K:=hp
   rw [frc_eq] at hp'
   have hc:cs[off]? = some c:=by
    have:(cs.drop off)[0]? = some c:=by rw [hd];rfl
    rw [zqt] at this;simpa using this
   have hlt:off<vs.size:=by rw [hs];exact (zq1.1 hc).1
   have h1:=hv off c hc
   rw [Array.getD_eq_getD_getElem?,Array.getElem?_eq_getElem hlt] at h1
   refine ⟨vs[off],dem c,?_,h1.dem,hp'⟩
   simp [Array.getElem?_eq_getElem hlt]
 | true =>
  rw [ha] at hp
  simp only at hp
  split at hp
  ·rename_i hl
   have hl:=zqh hl
   rw [List.length_drop] at hl
   refine ⟨.agg (vs.extract off (off+i.sz)),_,?_,.agg _ _ ?_ fun j c hj=>?_,hp⟩
   ·simp only [if_true,Sem.run_bind,hT.run_sizeOf,Result.andThen_ok];rfl
   ·simp;omega
   ·rw [List.getElem?_map] at hj
    obtain ⟨c',hc',rfl⟩:=Option.map_eq_some_iff.1 hj
    have hj':j<i.sz:=by
     have:=(zq1.1 hc').1
     simp at this;omega
    rw [zqs,zqp hj',zqt] at hc'
    have h1:=(hv _ _ hc').dem
    rw [Array.getD_eq_getD_getElem?] at h1 ⊢
    rw [Array.getElem?_extract]
    rw [zqp (by omega)]
    exact h1
  ·exact hp.elim
theorem run_fieldAt {T:Nat} {i:TI} {tt:TT} (htt:ttOk P tt=true) (hT:tt.get T=some i) {f ft off:Nat} {fi:TI} (hf:fieldOf i f=some (ft,off)) (hft:tt.get ft=some fi) (b o:Nat) :
  (Instr.fieldAt T (.pointer (some ⟨b,o,none⟩)) f).run P w=.ok (.pointer (some ⟨b,o+off,none⟩)) w:=by
 unfold fieldOf at hf
 split at hf
 ·rename_i fs hk
  obtain ⟨gs,h1,h2,h3⟩:=(tis htt hT).strct hk
  obtain ⟨h4,h5⟩:=fieldsOk_get h2
  obtain ⟨fd,h6,h7,h8,h9⟩:=h5 f ft off hf
  rw [Array.getElem?_toList] at h6
  have hz:=(tis htt hft).pos
  have hne:¬fi.sz=0:=by omega
  simp [Instr.fieldAt,run_underlying h1,h6,Instr.sureAddr,fieldPlace,h7,(tis htt hft).run_sizeOf,hne,h8,Addr.add_plain]
 ·rename_i fs hk
  obtain ⟨gs,h1,h2⟩:=(tis htt hT).strB hk
  obtain ⟨fd,h6,h7,h8⟩:=fieldsOkB_get h2 f ft off hf
  rw [Array.getElem?_toList] at h6
  have hz:=(tis htt hft).pos
  have hne:¬fi.sz=0:=by omega
  simp [Instr.fieldAt,run_underlying h1,h6,Instr.sureAddr,fieldPlace,h7,(tis htt hft).run_sizeOf,hne,h8,Addr.add_plain]
 ·cases hf
theorem run_indexAt_slice {T e n cap:Nat} {i:TI} (hT:TIs P T i) {ei:TI} (hk:i.k=.slice e) (he:TIs P e ei) (k:IntKind) (j:Int) (h0:0≤j) (h1:j<n) (b off:Nat) :
  (Instr.indexAt T (.slice (some ⟨b,off,none⟩) n cap) (.int k j)).run P w=.ok (.pointer (some ⟨b,off+j.toNat*ei.sz,none⟩)) w:=by
 have hu:=hT.slice hk
 simp [Instr.indexAt,asIntOf,run_underlying hu,h0,h1,he.run_sizeOf,Addr.add_plain]
theorem run_indexAt_arr {T e n:Nat} {i:TI} (hT:TIs P T i) {ei:TI} (hk:i.k=.arr n e) (he:TIs P e ei) (k:IntKind) (j:Int) (h0:0≤j) (h1:j<n) (b off:Nat) :
  (Instr.indexAt T (.pointer (some ⟨b,off,none⟩)) (.int k j)).run P w=.ok (.pointer (some ⟨b,off+j.toNat*ei.sz,none⟩)) w:=by
 have hu:=hT.arr hk
 simp [Instr.indexAt,asIntOf,run_underlying hu,Instr.sureAddr,h0,h1,he.run_sizeOf,Addr.add_plain]
end
section
variable {P : Program} {tt : TT} {imm : List Nat} {g0 : Gh} {w0 : World} {H0 : PH} {F0 : Nat → Prop} {N : Nat} {g : Gh} {w : World} {a : Act} {E : Env} {H : PH} {q : Q}
theorem op_nilCheck {x:Operand} {o:Oper} {K:KK} (ho:o.op=.nilCheck x) (inv:Inv P g0 w0 H0 F0 N g w a E H) (hq:QRel a g w q) (hp:pOp P tt imm E q H o K):OpS P g0 w0 H0 F0 N a w o K:=by
 simp only [pOp,ho] at hp
 have hx:=opnd_VC inv.rel x
 split at hp
 ·rename_i pp hb
  rw [hb] at hx
  have hv:=plain_of hx (by simp) (by simp)
  obtain ⟨id,off⟩:=pp
  obtain ⟨b,hvb,_⟩:=hv.inv_ptr
  exact OpS.val inv hq (by simp [execOp,ho,hvb]) (hvb▸hv) hp
 ·rename_i cs hb
  rw [hb] at hx
  have hv:=plain_of hx (by simp) (by simp)
  obtain ⟨b,off,hvb,_⟩:=hv.inv_elem
  exact OpS.val inv hq (by simp [execOp,ho,hvb]) (hvb▸hv) hp
 ·rename_i f ps qs hb
  rw [hb] at hx
  have hv:=plain_of hx (by simp) (by simp)
  obtain ⟨fi,ca,hvb,_⟩:=hv.inv_func
  exact OpS.val inv hq (by simp [execOp,ho,hvb]) (hvb▸hv) hp
 ·exact hp.elim
theorem op_load {T:Nat} {x:Operand} {o:Oper} {K:KK} (hT:ttOk P tt=true) (ho:o.op=.load T x) (inv:Inv P g0 w0 H0 F0 N g w a E H) (hq:QRel a g w q) (hp:pOp P tt imm E q H o K) :
  OpS P g0 w0 H0 F0 N a w o K:=by
 simp only [pOp,ho,pLoad] at hp
 have hx:=opnd_VC inv.rel x
 split at hp
 ·rename_i i hi
  have hTi:=tis hT hi
  split at hp
  ·rename_i cs hb
   rw [hb] at hx
   obtain ⟨b,off,hvb,himm⟩:=(plain_of hx (by simp) (by simp)).inv_elem
   obtain ⟨u,p,h1,h2,h3⟩:=run_pRead hTi (himm.cells (P:=P)) hp
   exact OpS.val inv hq (by simp [execOp,ho,hvb,Instr.loadAt,Instr.sureAddr,h1]) h2 h3
  ·rename_i id off hb
   rw [hb] at hx
   obtain ⟨b,hvb,hib,hkd⟩:=(plain_of hx (by simp) (by simp)).inv_ptr
   split at hp
   ·rename_i ob hid
    have hcells:=(Cells.obj inv.rel.h hid hib hkd).drop off
    rw [Nat.zero_add] at hcells
    split at hp
    ·rename_i ha
     rw [dropN_eq] at hp
     obtain ⟨u,p,h1,h2,h3⟩:=run_pRead hTi hcells hp
     exact OpS.val inv hq (by simp [execOp,ho,hvb,Instr.loadAt,Instr.sureAddr,h1]) h2 h3
    ·rename_i ha
     rw [dropN_eq] at hp
     cases hd:ob.cs.drop off with
     | nil=>rw [hd] at hp;exact hp.elim
     | cons c r =>
      rw [hd] at hp hcells
      obtain ⟨u,h1,h2⟩:=hcells 0 c rfl
      rw [Nat.add_zero] at h1
      have hrun:(execOp a.eval o).run P w=.ok (.value u) w:=by
       simp [execOp,ho,hvb,Instr.loadAt,Instr.sureAddr,loadVar,hTi.run_isAgg,ha,h1]
      simp only at hp
      split at hp
      ·rename_i n cs e
       have hv:V g w u (.slice n cs none):=h2.dem
       intro next Q' hn
       refine wp_value hrun (hn g w _ _ _ _ _ _ ⟨inv,hv.vc,fun i b h=>absurd h (no_own hv i b),fun i _ b h=>absurd h (no_own hv i b),hq,fun y hy=>?_⟩ hp)
       cases hy
       exact ⟨b,hib,h1⟩
      ·rename_i hns
       rw [frc_eq] at hp
       have hv:V g w u c:=by
        rcases h2 with h2 | ⟨n,cs,e,_,rfl,_⟩
        ·exact h2
        ·exact absurd rfl (hns n cs e)
       exact OpS.val inv hq hrun hv hp
   ·exact hp.elim
  ·exact hp.elim
 ·exact hp.elim
theorem op_fieldAddr {T f:Nat} {x:Operand} {o:Oper} {K:KK} (hT:ttOk P tt=true) (ho:o.op=.fieldAddr T x f) (inv:Inv P g0 w0 H0 F0 N g w a E H) (hq:QRel a g w q) (hp:pOp P tt imm E q H o K) :
  OpS P g0 w0 H0 F0 N a w o K:=by
 simp only [pOp,ho,isLe] at hp
 have hx:=opnd_VC inv.rel x
 split at hp
 ·rename_i i hi
  split at hp
  ·rename_i ft off hf
   split at hp
   ·rename_i fi hfi
    split at hp
    ·split at hp
     ·rename_i id o' hb
      rw [hb] at hx
      obtain ⟨b,hvb,hib,hkd⟩:=(plain_of hx (by simp) (by simp)).inv_ptr
      exact OpS.val inv hq (by simp [execOp,ho,hvb,run_fieldAt hT hi hf hfi]) (.ptr id b (o'+off) hib hkd) hp
     ·rename_i cs hb
      rw [hb] at hx
      obtain ⟨b,o',hvb,himm⟩:=(plain_of hx (by simp) (by simp)).inv_elem
      exact OpS.val inv hq (by simp [execOp,ho,hvb,run_fieldAt hT hi hf hfi]) (himm.drop off).velem hp
     ·exact hp.elim
    ·exact hp.elim
   ·exact hp.elim
  ·exact hp.elim
 ·exact hp.elim
theorem op_field {T f:Nat} {x:Operand} {o:Oper} {K:KK} (hT:ttOk P tt=true) (ho:o.op=.field T x f) (inv:Inv P g0 w0 H0 F0 N g w a E H) (hq:QRel a g w q) (hp:pOp P tt imm E q H o K) :
  OpS P g0 w0 H0 F0 N a w o K:=by
 simp only [pOp,ho] at hp
 have hx:=opnd_VC inv.rel x
 split at hp
 ·rename_i i hi
  split at hp
  ·rename_i ft off hf
   split at hp
   ·rename_i fi hfi
    split at hp
    ·rename_i cs hb
     rw [hb] at hx
     obtain ⟨vs,hvb,hs,hv⟩:=(plain_of hx (by simp) (by simp)).inv_agg
     obtain ⟨u,p,h1,h2,h3⟩:=run_part (tis hT hfi) hs hv hp
     refine OpS.val inv hq ?_ h2 h3
     unfold fieldOf at hf
     split at hf
     ·rename_i fs hk
      obtain ⟨gs,g1,g2,g3⟩:=(tis hT hi).strct hk
      obtain ⟨g4,g5⟩:=fieldsOk_get g2
      obtain ⟨fd,g6,g7,g8,g9⟩:=g5 f ft off hf
      rw [Array.getElem?_toList] at g6
      simp [execOp,ho,hvb,Instr.field,run_underlying g1,g6,asAgg,g7,g8,h1]
     ·rename_i fs hk
      obtain ⟨gs,g1,g2⟩:=(tis hT hi).strB hk
      obtain ⟨fd,g6,g7,g8⟩:=fieldsOkB_get g2 f ft off hf
      rw [Array.getElem?_toList] at g6
      simp [execOp,ho,hvb,Instr.field,run_underlying g1,g6,asAgg,g7,g8,h1]
     ·cases hf
    ·exact hp.elim
   ·exact hp.elim
  ·exact hp.elim
 ·exact hp.elim
end
end Ps
/- PSem, part 8: operations, second part: places, cuts, calls of the built-in functions that write nothing. -/
namespace Ps
open Go
section
variable {P : Program} {tt : TT} {imm : List Nat} {g0 : Gh} {w0 : World} {H0 : PH} {F0 : Nat → Prop} {N : Nat} {g : Gh} {w : World} {a : Act} {E : Env} {H : PH} {q : Q}
theorem opnd_int (inv:Inv P g0 w0 H0 F0 N g w a E H) {x:Operand} {k:IntKind} {n:Int} (h:opnd E x=.int k n):a.eval x=.int k n:=by
 have:=opnd_VC inv.rel x;rw [h] at this;exact this.int
theorem op_indexAddr {T:Nat} {x ix:Operand} {o:Oper} {K:KK} (hT:ttOk P tt=true) (ho:o.op=.indexAddr T x ix) (inv:Inv P g0 w0 H0 F0 N g w a E H) (hq:QRel a g w q) (hp:pOp P tt imm E q H o K) :
  OpS P g0 w0 H0 F0 N a w o K:=by
 simp only [pOp,ho,pIndexAddr] at hp
 have hx:=opnd_VC inv.rel x
 split at hp
 ·rename_i i hi
  split at hp
  ·rename_i k j hj
   have hj:=opnd_int inv hj
   split at hp
   ·rename_i n cs ow hb
    rw [hb] at hx
    split at hp
    ·rename_i e hk
     split at hp
     ·rename_i ei hei
      obtain ⟨⟨h0,h1⟩,ds,hds,hp⟩:=hp
      rcases hx.slice.inv_slice with ⟨_,hn,_⟩ | ⟨b,off,cap,hvb,hle,himm⟩
      ·omega
      ·exact OpS.val inv hq (by simp [execOp,ho,hvb,hj,run_indexAt_slice (tis hT hi) hk (tis hT hei) k j h0 h1]) (himm.sub hds).velem hp
     ·exact hp.elim
    ·exact hp.elim
   ·rename_i id off n cap hb
    rw [hb] at hx
    split at hp
    ·rename_i e hk
     split at hp
     ·rename_i ei hei
      obtain ⟨⟨h0,h1⟩,hp⟩:=hp
      obtain ⟨b,hvb,hib,hle,hkd⟩:=(plain_of hx (by simp) (by simp)).inv_sref
      exact OpS.val inv hq (by simp [execOp,ho,hvb,hj,run_indexAt_slice (tis hT hi) hk (tis hT hei) k j h0 h1]) (.ptr id b _ hib hkd) hp
     ·exact hp.elim
    ·exact hp.elim
   ·rename_i id off n hb
    rw [hb] at hx
    split at hp
    ·rename_i e hk
     split at hp
     ·rename_i ei hei
      obtain ⟨⟨h0,h1⟩,hp⟩:=hp
      obtain ⟨b,cap,hvb,hib,hle,hkd⟩:=(plain_of hx (by simp) (by simp)).inv_rref
      exact OpS.val inv hq (by simp [execOp,ho,hvb,hj,run_indexAt_slice (tis hT hi) hk (tis hT hei) k j h0 h1]) (.ptr id b _ hib hkd) hp
     ·exact hp.elim
    ·exact hp.elim
   ·rename_i cs hb
    rw [hb] at hx
    split at hp
    ·rename_i n e hk
     split at hp
     ·rename_i ei hei
      obtain ⟨⟨h0,h1⟩,ds,hds,hp⟩:=hp
      obtain ⟨b,off,hvb,himm⟩:=(plain_of hx (by simp) (by simp)).inv_elem
      exact OpS.val inv hq (by simp [execOp,ho,hvb,hj,run_indexAt_arr (tis hT hi) hk (tis hT hei) k j h0 h1]) (himm.sub hds).velem hp
     ·exact hp.elim
    ·exact hp.elim
   ·rename_i id off hb
    rw [hb] at hx
    split at hp
    ·rename_i n e hk
     split at hp
     ·rename_i ei hei
      obtain ⟨⟨h0,h1⟩,hp⟩:=hp
      obtain ⟨b,hvb,hib,hkd⟩:=(plain_of hx (by simp) (by simp)).inv_ptr
      exact OpS.val inv hq (by simp [execOp,ho,hvb,hj,run_indexAt_arr (tis hT hi) hk (tis hT hei) k j h0 h1]) (.ptr id b _ hib hkd) hp
     ·exact hp.elim
    ·exact hp.elim
   ·exact hp.elim
  ·exact hp.elim
 ·exact hp.elim
theorem op_index {T:Nat} {x ix:Operand} {o:Oper} {K:KK} (hT:ttOk P tt=true) (ho:o.op=.index T x ix) (inv:Inv P g0 w0 H0 F0 N g w a E H) (hq:QRel a g w q) (hp:pOp P tt imm E q H o K) :
  OpS P g0 w0 H0 F0 N a w o K:=by
 simp only [pOp,ho,pIndex] at hp
 have hx:=opnd_VC inv.rel x
 split at hp
 ·rename_i k j hj
  have hj:=opnd_int inv hj
  split at hp
  ·rename_i s hb
   rw [hb] at hx
   split at hp
   ·rename_i i hi
    split at hp
    ·rename_i hk
     have hu:=(tis hT hi).str hk
     obtain ⟨⟨h0,h1⟩,b,hb',hp⟩:=hp
     have hs:(⟨⟨s⟩⟩:ByteArray)[j.toNat]? = some b:=by
      have hl:j.toNat<s.length:=by omega
      rw [getElem?_pos (⟨⟨s⟩⟩:ByteArray) j.toNat hl]
      rw [zqc hl] at hb'
      exact hb'
     refine OpS.val (v:=.int .u8 b.toNat) inv hq ?_ (.int _ _) hp
     simp [execOp,ho,hx.str,strV_eq,hj,Instr.index,asIntOf,run_underlying hu,h0,hs]
    ·exact hp.elim
   ·exact hp.elim
  ·rename_i cs hb
   rw [hb] at hx
   split at hp
   ·rename_i i hi
    split at hp
    ·rename_i n e hk
     split at hp
     ·rename_i ei hei
      obtain ⟨⟨h0,h1⟩,hp⟩:=hp
      obtain ⟨vs,hvb,hs,hv⟩:=(plain_of hx (by simp) (by simp)).inv_agg
      obtain ⟨u,p,h2,h3,h4⟩:=run_part (tis hT hei) hs hv hp
      exact OpS.val inv hq (by simp [execOp,ho,hvb,hj,Instr.index,asIntOf,run_underlying ((tis hT hi).arr hk),h0,h1,(tis hT hei).run_sizeOf,h2]) h3 h4
     ·exact hp.elim
    ·exact hp.elim
   ·exact hp.elim
  ·exact hp.elim
 ·exact hp.elim
theorem op_len {c:Call} {o:Oper} {K:KK} (hT:ttOk P tt=true) (ho:o.op=.call c) (hc:c.callee=.builtin .len) (inv:Inv P g0 w0 H0 F0 N g w a E H) (hq:QRel a g w q) (hp:pOp P tt imm E q H o K) :
  OpS P g0 w0 H0 F0 N a w o K:=by
 simp only [pOp,ho,hc] at hp
 split at hp
 ·rename_i x hx'
  have hargs:c.args=#[x]:=by rw [←Array.toList_inj];exact hx'
  have hx:=opnd_VC inv.rel x
  split at hp
  ·rename_i T hT'
   have htys:c.argTypes=#[T]:=by rw [←Array.toList_inj];exact hT'
   split at hp
   ·rename_i i hi
    split at hp
    ·rename_i n cs ow hb
     rw [hb] at hx
     split at hp
     ·rename_i e hk
      have hu:=(tis hT hi).slice hk
      rcases hx.slice.inv_slice with ⟨hvb,hn,_⟩ | ⟨b,off,cap,hvb,hle,himm⟩
      ·exact OpS.val inv hq (by simp [execOp,ho,resolve,hc,hargs,htys,invoke,builtin,Builtin.len_,run_underlying hu,hvb,hn,goInt]) (.int _ _) hp
      ·exact OpS.val inv hq (by simp [execOp,ho,resolve,hc,hargs,htys,invoke,builtin,Builtin.len_,run_underlying hu,hvb,goInt]) (.int _ _) hp
     ·exact hp.elim
    ·rename_i id off n cap hb
     rw [hb] at hx
     split at hp
     ·rename_i e hk
      have hu:=(tis hT hi).slice hk
      obtain ⟨b,hvb,hib,hle,hkd⟩:=(plain_of hx (by simp) (by simp)).inv_sref
      exact OpS.val inv hq (by simp [execOp,ho,resolve,hc,hargs,htys,invoke,builtin,Builtin.len_,run_underlying hu,hvb,goInt]) (.int _ _) hp
     ·exact hp.elim
    ·rename_i id off n hb
     rw [hb] at hx
     split at hp
     ·rename_i e hk
      have hu:=(tis hT hi).slice hk
      obtain ⟨b,cap,hvb,hib,hle,hkd⟩:=(plain_of hx (by simp) (by simp)).inv_rref
      exact OpS.val inv hq (by simp [execOp,ho,resolve,hc,hargs,htys,invoke,builtin,Builtin.len_,run_underlying hu,hvb,goInt]) (.int _ _) hp
     ·exact hp.elim
    ·rename_i hb
     rw [hb] at hx
     split at hp
     ·rename_i e hk
      have hu:=(tis hT hi).slice hk
      have hvb:=(plain_of hx (by simp) (by simp)).inv_nilS
      exact OpS.val inv hq (by simp [execOp,ho,resolve,hc,hargs,htys,invoke,builtin,Builtin.len_,run_underlying hu,hvb,goInt]) (.int _ _) hp
     ·exact hp.elim
    ·rename_i s hb
     rw [hb] at hx
     split at hp
     ·rename_i hk
      have hu:=(tis hT hi).str hk
      have:((⟨⟨s⟩⟩:ByteArray).size:Int)=s.length:=rfl
      exact OpS.val inv hq (by simp [execOp,ho,resolve,hc,hargs,htys,invoke,builtin,Builtin.len_,run_underlying hu,hx.str,strV_eq,goInt,this]) (.int _ _) hp
     ·exact hp.elim
    ·rename_i id hb
     rw [hb] at hx
     split at hp
     ·rename_i kt et hk
      have hu:=(tis hT hi).map hk
      obtain ⟨b,hvb,hib,hkd⟩:=(plain_of hx (by simp) (by simp)).inv_mref
      split at hp
      ·rename_i ob hob
       obtain ⟨es,clock,hbm,hlen,_⟩:=inv.rel.h.mapR hob hib hkd
       have h2:ob.cs.length / 2=es.size:=by omega
       rw [h2] at hp
       exact OpS.val inv hq (by simp [execOp,ho,resolve,hc,hargs,htys,invoke,builtin,Builtin.len_,run_underlying hu,hvb,run_getObj_mapP hbm,goInt]) (.int _ _) hp
      ·exact hp.elim
     ·exact hp.elim
    ·exact hp.elim
   ·exact hp.elim
  ·exact hp.elim
 ·exact hp.elim
theorem op_cap {c:Call} {o:Oper} {K:KK} (hT:ttOk P tt=true) (ho:o.op=.call c) (hc:c.callee=.builtin .cap) (inv:Inv P g0 w0 H0 F0 N g w a E H) (hq:QRel a g w q) (hp:pOp P tt imm E q H o K) :
  OpS P g0 w0 H0 F0 N a w o K:=by
 simp only [pOp,ho,hc] at hp
 split at hp
 ·rename_i x hx'
  have hargs:c.args=#[x]:=by rw [←Array.toList_inj];exact hx'
  have hx:=opnd_VC inv.rel x
  split at hp
  ·rename_i T hT'
   have htys:c.argTypes=#[T]:=by rw [←Array.toList_inj];exact hT'
   split at hp
   ·rename_i i hi
    split at hp
    ·rename_i e hk
     have hu:=(tis hT hi).slice hk
     split at hp
     ·rename_i id off n cap hb
      rw [hb] at hx
      obtain ⟨b,hvb,hib,hle,hkd⟩:=(plain_of hx (by simp) (by simp)).inv_sref
      exact OpS.val inv hq (by simp [execOp,ho,resolve,hc,hargs,htys,invoke,builtin,Builtin.cap_,run_underlying hu,hvb,goInt]) (.int _ _) hp
     ·rename_i hb
      rw [hb] at hx
      have hvb:=(plain_of hx (by simp) (by simp)).inv_nilS
      exact OpS.val inv hq (by simp [execOp,ho,resolve,hc,hargs,htys,invoke,builtin,Builtin.cap_,run_underlying hu,hvb,goInt]) (.int _ _) hp
     ·exact hp.elim
    ·exact hp.elim
   ·exact hp.elim
  ·exact hp.elim
 ·exact hp.elim
theorem op_min {c:Call} {o:Oper} {K:KK} (ho:o.op=.call c) (hc:c.callee=.builtin .min) (inv:Inv P g0 w0 H0 F0 N g w a E H) (hq:QRel a g w q) (hp:pOp P tt imm E q H o K) :
  OpS P g0 w0 H0 F0 N a w o K:=by
 simp only [pOp,ho,hc] at hp
 split at hp
 ·rename_i x y hx'
  have hargs:c.args=#[x,y]:=by rw [←Array.toList_inj];exact hx'
  split at hp
  ·rename_i k m hm
   have hm:=opnd_int inv hm
   split at hp
   ·rename_i k' n hn
    have hn:=opnd_int inv hn
    obtain ⟨rfl,hp'⟩:=ikeq_eq _ _ _ hp
    refine OpS.val (v:=.int k (min m n)) inv hq ?_ (.int _ _) hp'
    have:(if n<m then n else m)=min m n:=by omega
    simp [execOp,ho,resolve,hc,hargs,invoke,builtin,Builtin.min_,Builtin.min2,hm,hn,this]
   ·exact hp.elim
  ·exact hp.elim
 ·exact hp.elim
theorem op_max {c:Call} {o:Oper} {K:KK} (ho:o.op=.call c) (hc:c.callee=.builtin .max) (inv:Inv P g0 w0 H0 F0 N g w a E H) (hq:QRel a g w q) (hp:pOp P tt imm E q H o K) :
  OpS P g0 w0 H0 F0 N a w o K:=by
 simp only [pOp,ho,hc] at hp
 split at hp
 ·rename_i x y hx'
  have hargs:c.args=#[x,y]:=by rw [←Array.toList_inj];exact hx'
  split at hp
  ·rename_i k m hm
   have hm:=opnd_int inv hm
   split at hp
   ·rename_i k' n hn
    have hn:=opnd_int inv hn
    obtain ⟨rfl,hp'⟩:=ikeq_eq _ _ _ hp
    refine OpS.val (v:=.int k (max m n)) inv hq ?_ (.int _ _) hp'
    have:(if n > m then n else m)=max m n:=by omega
    simp [execOp,ho,resolve,hc,hargs,invoke,builtin,Builtin.max_,Builtin.max2,hm,hn]
    omega
   ·exact hp.elim
  ·exact hp.elim
 ·exact hp.elim
theorem frcs_spec:∀{xs:List Operand} {K:List PV→Prop},(∀x∈xs,VC P g w (a.eval x) (opnd E x))→frcs (opnds E xs) K→∃ps,ps.length=xs.length∧(∀(j:Nat) (c:PV),ps[j]? = some c→∃x,xs[j]? = some x∧V g w (a.eval x) c)∧K ps
 | [],K,_,h=>⟨[],rfl,fun j c hj=>by simp at hj,h⟩
 | x::xs,K,hv,h=>by
  simp only [opnds,frcs,frc_eq] at h
  obtain ⟨ps,h1,h2,h3⟩:=frcs_spec (fun y hy=>hv y (List.mem_cons_of_mem _ hy)) h
  refine ⟨_,by simp [h1],fun j c hj=>?_,h3⟩
  cases j with
  | zero=>simp at hj;subst hj;exact ⟨x,rfl,(hv x List.mem_cons_self).dem⟩
  | succ j=>simpa using h2 j c (by simpa using hj)
theorem op_makeFunc {f:Nat} {x y:Array Operand} {o:Oper} {K:KK} (ho:o.op=.makeFunc (.func f) x y) (inv:Inv P g0 w0 H0 F0 N g w a E H) (hq:QRel a g w q) (hp:pOp P tt imm E q H o K) :
  OpS P g0 w0 H0 F0 N a w o K:=by
 simp only [pOp,ho] at hp
 obtain ⟨ps,h1,h2,hp⟩:=frcs_spec (fun x _=>opnd_VC inv.rel x) hp
 obtain ⟨qs,h3,h4,hp⟩:=frcs_spec (fun x _=>opnd_VC inv.rel x) hp
 refine OpS.val (v:=.func (.func f) (x.map a.eval) (y.map a.eval)) inv hq (by simp [execOp,ho,Instr.makeFunc]) (.func f _ _ ps qs (by simp [h1]) (by simp [h3]) (fun j c hj=>?_) (fun j c hj=>?_)) hp
 ·obtain ⟨z,hz,hv⟩:=h2 j c hj
  rw [Array.getElem?_toList] at hz
  rw [Array.getD_eq_getD_getElem?];simp [hz,hv]
 ·obtain ⟨z,hz,hv⟩:=h4 j c hj
  rw [Array.getElem?_toList] at hz
  rw [Array.getD_eq_getD_getElem?];simp [hz,hv]
theorem op_extract {x:Operand} {j:Nat} {o:Oper} {K:KK} (ho:o.op=.extract x j) (inv:Inv P g0 w0 H0 F0 N g w a E H) (hq:QRel a g w q) (hp:pOp P tt imm E q H o K) :
  OpS P g0 w0 H0 F0 N a w o K:=by
 simp only [pOp,ho] at hp
 split at hp
 ·rename_i t
  have hx:=inv.rel.e t
  split at hp
  ·rename_i cs hb
   rw [hb] at hx
   obtain ⟨vs,hvs,hs,hv⟩:=hx
   have hrun:∀c,cs[j]? = some c→(execOp a.eval o).run P w=.ok (.value (vs.getD j undef)) w:=fun c hc=>by
    have hlt:j<vs.size:=by rw [hs];exact (zq1.1 hc).1
    have he:a.eval (.tmp t)=.tuple vs:=hvs
    simp [execOp,ho,Instr.extract,he,Array.getElem?_eq_getElem hlt,Array.getD_eq_getD_getElem?]
   split at hp
   ·rename_i n ds e hc
    intro next Q' hn
    refine wp_value (hrun _ hc) (hn g w _ _ _ _ _ _ ?_ hp)
    have hdem:V g w (vs.getD j undef) (.slice n ds none):=(hv j _ hc).dem
    have hset:VC P g w (vals a t) (.tup (cs.set j (.slice n ds none))):=by
     refine ⟨vs,hvs,by simp [hs],fun i c hi=>?_⟩
     rw [List.getElem?_set] at hi
     split at hi
     ·rename_i e';subst e'
      split at hi
      ·cases hi;exact .inl hdem
      ·cases hi
     ·exact hv i c hi
    have hsub:∀i b,ownAt (vals a t) (.tup (cs.set j (.slice n ds none))) i b→i≠j∧ownAt (vals a t) (E.get t) i b:=by
     rintro i b ⟨c,h1,h2,h3⟩
     rw [List.getElem?_set] at h1
     split at h1
     ·split at h1
      ·cases h1;cases h2
      ·cases h1
     ·rename_i e'
      rw [hb]
      exact ⟨fun e''=>e' e''.symm,c,h1,h2,h3⟩
    have hthis:∀i b,ownAt (vs.getD j undef) (.slice n ds (some e)) i b→ownAt (vals a t) (E.get t) j b:=fun i b ho'=>by
     rw [hb];exact ⟨_,hc,rfl,vs,hvs,ho'.2.2⟩
    refine ⟨inv.weaken hset (fun i b h=>(hsub i b h).2),hv j _ hc,fun i b ho'=>⟨fun t' i' ht=>?_,inv.rel.sc t j b (hthis i b ho'),inv.own t j b (hthis i b ho')⟩,
     fun i i' b h1 h2=>h1.1.trans h2.1.symm,hq.del t,fun _ h=>by cases h⟩
    rw [Env.get_cons] at ht
    by_cases e':t=t'
    ·rw [zqp e'] at ht
     subst e'
     obtain ⟨h1,h2⟩:=hsub i' b ht
     exact h1 (inv.rel.ss t j t i' b (hthis i b ho') h2).2.symm
    ·rw [zqo e'] at ht
     exact e' (inv.rel.ss t j t' i' b (hthis i b ho') ht).1
   ·rename_i c hc hcs
    rw [frc_eq] at hp
    exact OpS.val inv hq (hrun _ hcs) (hv j _ hcs).dem hp
   ·exact hp.elim
  ·exact hp.elim
 ·exact hp.elim
end
end Ps
/- PSem, part 9: cuts, conversions, two operands. -/
namespace Ps
open Go
section
variable {P : Program} {tt : TT} {imm : List Nat} {g0 : Gh} {w0 : World} {H0 : PH} {F0 : Nat → Prop} {N : Nat} {g : Gh} {w : World} {a : Act} {E : Env} {H : PH} {q : Q}
theorem low_int (inv:Inv P g0 w0 H0 F0 N g w a E H) {lo:Option Operand} {d:Int} {K:Int→Prop} (h:lowOf E lo d K) :
  ∃l,K l∧((lo=none∧l=d)∨∃x k,lo=some x∧a.eval x=.int k l):=by
 cases lo with
 | none=>exact ⟨d,h,.inl ⟨rfl,rfl⟩⟩
 | some x =>
  simp only [lowOf] at h
  split at h
  ·rename_i k i hi
   exact ⟨i,h,.inr ⟨x,k,rfl,opnd_int inv hi⟩⟩
  ·exact h.elim
theorem run_bounds {lo hi:Option Operand} {isS:Bool} {n cap:Nat} {l h:Int} (hl:(lo=none∧l=0)∨∃x k,lo=some x∧a.eval x=.int k l)
  (hh:(hi=none∧h=n)∨∃x k,hi=some x∧a.eval x=.int k h) (h0:0≤l∧l≤h∧h≤n) (hc:n≤cap) :
  (Instr.sliceBounds isS n cap (lo.map a.eval) (hi.map a.eval) none).run P w=.ok (l.toNat,h.toNat,cap) w:=by
 obtain ⟨h0,h1,h2⟩:=h0
 have e1:h≤(cap:Int):=by omega
 have e2:0≤h:=by omega
 rcases hl with ⟨rfl,rfl⟩ | ⟨x,k,rfl,hx⟩ <;> rcases hh with ⟨rfl,rfl⟩ | ⟨y,k',rfl,hy⟩
 ·simp [Instr.sliceBounds]
 ·simp [Instr.sliceBounds,hy,Instr.sliceBound,asIntOf,e1,e2]
 ·simp [Instr.sliceBounds,hx,Instr.sliceBound,asIntOf,h0,h1]
 ·have e3:l≤((h.toNat:Nat):Int):=by omega
  simp [Instr.sliceBounds,hx,hy,Instr.sliceBound,asIntOf,h0,e1,e2,e3]
  intro h';omega
theorem Imm.cut {b off:Nat} {cs:List PV} (h:Imm g w b off cs) (m k:Nat):Imm g w b (off+k) ((cs.take m).drop k) :=
 h.sub fun j c hj=>by
  rw [zqt,zqs] at hj
  split at hj
  ·exact hj
  ·cases hj
theorem Imm.nil {b off:Nat}:Imm g w b off []:=⟨fun _=>undef,fun j c h=>by simp at h,fun j c h=>by simp at h⟩
theorem op_slice {T:Nat} {x:Operand} {lo hi:Option Operand} {o:Oper} {K:KK} (hT:ttOk P tt=true) (ho:o.op=.slice T x lo hi none) (inv:Inv P g0 w0 H0 F0 N g w a E H) (hq:QRel a g w q) (hp:pOp P tt imm E q H o K) :
  OpS P g0 w0 H0 F0 N a w o K:=by
 simp only [pOp,ho,pSlice] at hp
 have hx:=opnd_VC inv.rel x
 split at hp
 ·rename_i s hb
  rw [hb] at hx
  split at hp
  ·rename_i i hi'
   split at hp
   ·rename_i hk
    obtain ⟨l,hp1,hl⟩:=low_int inv hp
    obtain ⟨h,hp2,hh⟩:=low_int inv hp1
    obtain ⟨h0,hp3⟩:=hp2
    have hu:=(tis hT hi').str hk
    have hs:(⟨⟨s⟩⟩:ByteArray).size=s.length:=rfl
    have hb0:=run_bounds (P:=P) (w:=w) (isS:=false) (n:=s.length) (cap:=s.length) hl hh h0 (zqn _)
    refine OpS.val (v:=strV ((s.take h.toNat).drop l.toNat)) inv hq ?_ (.str _) hp3
    have he:(⟨⟨s⟩⟩:ByteArray).extract l.toNat h.toNat=⟨⟨(s.take h.toNat).drop l.toNat⟩⟩:=by
     apply ByteArray.ext
     apply Array.ext'
     rw [ByteArray.data_extract]
     simp [List.extract_eq_take_drop,List.drop_take]
    simp [execOp,ho,hx.str,strV_eq,Instr.sliceAt,Instr.slice,run_underlying hu,hs,hb0,he]
   ·exact hp.elim
  ·exact hp.elim
 ·rename_i n cs ow hb
  rw [hb] at hx
  split at hp
  ·rename_i i hi'
   split at hp
   ·rename_i e hk
    split at hp
    ·rename_i ei hei
     obtain ⟨l,hp1,hl⟩:=low_int inv hp
     obtain ⟨h,hp2,hh⟩:=low_int inv hp1
     obtain ⟨h0,hp3⟩:=hp2
     have hu:=(tis hT hi').slice hk
     rcases hx.slice.inv_slice with ⟨hvb,hn,hcs⟩ | ⟨b,off,cap,hvb,hle,himm⟩
     ·subst hn
      have hb0:=run_bounds (P:=P) (w:=w) (isS:=true) (n:=0) (cap:=0) hl hh h0 (zqn _)
      have e1:l.toNat=0:=by omega
      have e2:h.toNat=0:=by omega
      rw [e1,e2] at hb0
      refine OpS.val (v:=.slice none 0 0) inv hq ?_ ?_ hp3
      ·simp [execOp,ho,hvb,Instr.sliceAt,Instr.slice,run_underlying hu,hb0,(tis hT hei).run_sizeOf]
      ·rw [e1,e2,hcs];simpa using V.snil none
     ·have hb0:=run_bounds (P:=P) (w:=w) (isS:=true) (n:=n) (cap:=cap) hl hh h0 hle
      refine OpS.val (v:=.slice (some (if cap=l.toNat then ⟨b,off,none⟩ else ⟨b,off+l.toNat*ei.sz,none⟩)) (h.toNat - l.toNat) (cap - l.toNat)) inv hq ?_ ?_ hp3
      ·simp [execOp,ho,hvb,Instr.sliceAt,Instr.slice,run_underlying hu,hb0,(tis hT hei).run_sizeOf,Addr.add_plain]
       split <;> rfl
      ·have hcut:=himm.cut (h.toNat*ei.sz) (l.toNat*ei.sz)
       have hle':h.toNat - l.toNat≤cap - l.toNat:=by omega
       split
       ·rename_i e'
        have:(cs.take (h.toNat*ei.sz)).drop (l.toNat*ei.sz)=[]:=by
         apply List.drop_eq_nil_of_le
         rw [zqr]
         have:h.toNat=l.toNat:=by omega
         rw [this];exact Nat.min_le_left _ _
        rw [this]
        exact Imm.nil.vslice hle'
       ·exact hcut.vslice hle'
    ·exact hp.elim
   ·exact hp.elim
  ·exact hp.elim
 ·rename_i id off n cap hb
  rw [hb] at hx
  split at hp
  ·rename_i i hi'
   split at hp
   ·rename_i e hk
    split at hp
    ·rename_i ei hei
     obtain ⟨l,hp1,hl⟩:=low_int inv hp
     obtain ⟨h,hp2,hh⟩:=low_int inv hp1
     obtain ⟨h0,hp3,hp4⟩:=hp2
     have hu:=(tis hT hi').slice hk
     obtain ⟨b,hvb,hib,hle,hkd⟩:=(plain_of hx (by simp) (by simp)).inv_sref
     have hb0:=run_bounds (P:=P) (w:=w) (isS:=true) (n:=n) (cap:=cap) hl hh h0 hle
     have hrun:(execOp a.eval o).run P w=.ok (.value (.slice (some (if cap=l.toNat then ⟨b,off,none⟩ else ⟨b,off+l.toNat*ei.sz,none⟩)) (h.toNat - l.toNat) (cap - l.toNat))) w:=by
      simp [execOp,ho,hvb,Instr.sliceAt,Instr.slice,run_underlying hu,hb0,(tis hT hei).run_sizeOf,Addr.add_plain]
      split <;> rfl
     by_cases hln:l<n
     ·refine OpS.val inv hq hrun ?_ (hp3 hln)
      rw [zqo (by omega)]
      exact .sref id b _ _ _ hib (by omega) hkd
     ·refine OpS.val inv hq hrun ?_ (hp4 hln)
      have e2:h.toNat - l.toNat=0:=by omega
      rw [e2]
      split
      ·exact Imm.nil.vslice (Nat.zero_le _)
      ·exact Imm.nil.vslice (Nat.zero_le _)
    ·exact hp.elim
   ·exact hp.elim
  ·exact hp.elim
 ·rename_i id off n hb
  rw [hb] at hx
  split at hp
  ·rename_i i hi'
   split at hp
   ·rename_i e hk
    split at hp
    ·rename_i ei hei
     obtain ⟨l,hp1,hl⟩:=low_int inv hp
     obtain ⟨h,hp2,hh⟩:=low_int inv hp1
     obtain ⟨h0,hp3,hp4⟩:=hp2
     have hu:=(tis hT hi').slice hk
     obtain ⟨b,cap,hvb,hib,hle,hkd⟩:=(plain_of hx (by simp) (by simp)).inv_rref
     have hb0:=run_bounds (P:=P) (w:=w) (isS:=true) (n:=n) (cap:=cap) hl hh h0 hle
     have hrun:(execOp a.eval o).run P w=.ok (.value (.slice (some (if cap=l.toNat then ⟨b,off,none⟩ else ⟨b,off+l.toNat*ei.sz,none⟩)) (h.toNat - l.toNat) (cap - l.toNat))) w:=by
      simp [execOp,ho,hvb,Instr.sliceAt,Instr.slice,run_underlying hu,hb0,(tis hT hei).run_sizeOf,Addr.add_plain]
      split <;> rfl
     by_cases hln:l<n
     ·refine OpS.val inv hq hrun ?_ (hp3 hln)
      rw [zqo (by omega)]
      exact .rref id b _ _ _ hib (by omega) hkd
     ·refine OpS.val inv hq hrun ?_ (hp4 hln)
      have e2:h.toNat - l.toNat=0:=by omega
      rw [e2]
      split
      ·exact Imm.nil.vslice (Nat.zero_le _)
      ·exact Imm.nil.vslice (Nat.zero_le _)
    ·exact hp.elim
   ·exact hp.elim
  ·exact hp.elim
 ·rename_i hb
  rw [hb] at hx
  split at hp
  ·rename_i i hi'
   split at hp
   ·rename_i e hk
    split at hp
    ·rename_i ei hei
     obtain ⟨l,hp1,hl⟩:=low_int inv hp
     obtain ⟨h,hp2,hh⟩:=low_int inv hp1
     obtain ⟨h0,hp3⟩:=hp2
     have hu:=(tis hT hi').slice hk
     have hvb:=(plain_of hx (by simp) (by simp)).inv_nilS
     have hb0:=run_bounds (P:=P) (w:=w) (isS:=true) (n:=0) (cap:=0) hl hh h0 (zqn _)
     have e1:l.toNat=0:=by omega
     have e2:h.toNat=0:=by omega
     rw [e1,e2] at hb0
     refine OpS.val (v:=.slice none 0 0) inv hq ?_ .nilS hp3
     simp [execOp,ho,hvb,Instr.sliceAt,Instr.slice,run_underlying hu,hb0,(tis hT hei).run_sizeOf]
    ·exact hp.elim
   ·exact hp.elim
  ·exact hp.elim
 ·rename_i cs hb
  rw [hb] at hx
  split at hp
  ·rename_i i hi'
   split at hp
   ·rename_i n e hk
    split at hp
    ·rename_i ei hei
     obtain ⟨l,hp1,hl⟩:=low_int inv hp
     obtain ⟨h,hp2,hh⟩:=low_int inv hp1
     obtain ⟨h0,hp3⟩:=hp2
     have hu:=(tis hT hi').arr hk
     obtain ⟨b,off,hvb,himm⟩:=(plain_of hx (by simp) (by simp)).inv_elem
     have hb0:=run_bounds (P:=P) (w:=w) (isS:=false) (n:=n) (cap:=n) hl hh h0 (zqn _)
     refine OpS.val (v:=.slice (some (if n=l.toNat then ⟨b,off,none⟩ else ⟨b,off+l.toNat*ei.sz,none⟩)) (h.toNat - l.toNat) (n - l.toNat)) inv hq ?_ ?_ hp3
     ·simp [execOp,ho,hvb,Instr.sliceAt,run_underlying hu,Instr.sureAddr,hb0,(tis hT hei).run_sizeOf,Addr.add_plain]
     ·have hcut:=himm.cut (h.toNat*ei.sz) (l.toNat*ei.sz)
      have hle':h.toNat - l.toNat≤n - l.toNat:=by omega
      split
      ·rename_i e'
       have:(cs.take (h.toNat*ei.sz)).drop (l.toNat*ei.sz)=[]:=by
        apply List.drop_eq_nil_of_le
        rw [zqr]
        have:h.toNat=l.toNat:=by omega
        rw [this];exact Nat.min_le_left _ _
       rw [this]
       exact Imm.nil.vslice hle'
      ·exact hcut.vslice hle'
    ·exact hp.elim
   ·exact hp.elim
  ·exact hp.elim
 ·rename_i id off hb
  rw [hb] at hx
  split at hp
  ·rename_i i hi'
   split at hp
   ·rename_i n e hk
    split at hp
    ·rename_i ei hei
     obtain ⟨l,hp1,hl⟩:=low_int inv hp
     obtain ⟨h,hp2,hh⟩:=low_int inv hp1
     obtain ⟨h0,hp3,hp4⟩:=hp2
     have hu:=(tis hT hi').arr hk
     obtain ⟨b,hvb,hib,hkd⟩:=(plain_of hx (by simp) (by simp)).inv_ptr
     have hb0:=run_bounds (P:=P) (w:=w) (isS:=false) (n:=n) (cap:=n) hl hh h0 (zqn _)
     have hrun:(execOp a.eval o).run P w=.ok (.value (.slice (some (if n=l.toNat then ⟨b,off,none⟩ else ⟨b,off+l.toNat*ei.sz,none⟩)) (h.toNat - l.toNat) (n - l.toNat))) w:=by
      simp [execOp,ho,hvb,Instr.sliceAt,run_underlying hu,Instr.sureAddr,hb0,(tis hT hei).run_sizeOf,Addr.add_plain]
     by_cases hln:l<n
     ·refine OpS.val inv hq hrun ?_ (hp3 hln)
      rw [zqo (by omega)]
      exact .sref id b _ _ _ hib (by omega) hkd
     ·refine OpS.val inv hq hrun ?_ (hp4 hln)
      have e2:h.toNat - l.toNat=0:=by omega
      rw [e2]
      split
      ·exact Imm.nil.vslice (Nat.zero_le _)
      ·exact Imm.nil.vslice (Nat.zero_le _)
    ·exact hp.elim
   ·exact hp.elim
  ·exact hp.elim
 ·exact hp.elim
theorem op_toArr {T:Nat} {x:Operand} {o:Oper} {K:KK} (hT:ttOk P tt=true) (ho:o.op=.sliceToArrayPointer T x) (inv:Inv P g0 w0 H0 F0 N g w a E H) (hq:QRel a g w q) (hp:pOp P tt imm E q H o K) :
  OpS P g0 w0 H0 F0 N a w o K:=by
 simp only [pOp,ho] at hp
 have hx:=opnd_VC inv.rel x
 split at hp
 ·rename_i n cs ow hb
  rw [hb] at hx
  split at hp
  ·rename_i i hi
   split at hp
   ·rename_i m e hk
    obtain ⟨⟨h1,h2⟩,hp⟩:=hp
    have hu:=(tis hT hi).arr hk
    rcases hx.slice.inv_slice with ⟨hvb,hn,hcs⟩ | ⟨b,off,cap,hvb,hle,himm⟩
    ·omega
    ·have:¬n<m:=by omega
     exact OpS.val inv hq (by simp [execOp,ho,hvb,Instr.arrayAt,run_underlying hu,this]) himm.velem hp
   ·exact hp.elim
  ·exact hp.elim
 ·exact hp.elim
end
end Ps
/- PSem, part 10: structs held against each other; two operands; conversions. -/
namespace Ps
open Go
section
variable {P : Program} {tt : TT} {imm : List Nat} {g0 : Gh} {w0 : World} {H0 : PH} {F0 : Nat → Prop} {N : Nat} {g : Gh} {w : World} {a : Act} {E : Env} {H : PH} {q : Q}
theorem run_part_agg {t:Nat} {i:TI} (hT:TIs P t i) {vs:Array Value} {cs:List PV} {off:Nat} (hs:vs.size=cs.length)
  (hv:∀(j:Nat) (c:PV),cs[j]? = some c→V g w (vs.getD j undef) c) (hl:off+i.sz≤cs.length) (ha:isAggT i=true) :
  ∃us:Array Value,(part t vs off).run P w=.ok (.agg us) w∧us.size=i.sz∧∀(j:Nat) (c:PV),((cs.drop off).take i.sz)[j]? = some c→V g w (us.getD j undef) c:=by
 refine ⟨vs.extract off (off+i.sz),?_,by simp;omega,fun j c hj=>?_⟩
 ·simp [part,hT.run_isAgg,ha,hT.run_sizeOf]
 ·rw [zqs] at hj
  split at hj
  ·rw [zqt] at hj
   have:=hv _ _ hj
   rw [Array.getD_eq_getD_getElem?] at this ⊢
   rw [Array.getElem?_extract,zqp (by omega)]
   exact this
  ·cases hj
theorem run_part_one {t:Nat} {i:TI} (hT:TIs P t i) {vs:Array Value} {off:Nat} (hl:off<vs.size) (ha:isAggT i=false) :
  (part t vs off).run P w=.ok (vs.getD off undef) w:=by
 simp [part,hT.run_isAgg,ha,Array.getElem?_eq_getElem hl,Array.getD_eq_getD_getElem?]
def EqRuns (P:Program) (tt:TT) (g:Gh) (w:World) (d:Nat):Prop :=
 ∀(m T:Nat) (i:TI) (xs ys:List PV),tt.get T=some i→FitP tt d T xs→FitP tt d T ys→d≤m →
  (isAggT i=true→∀us vs:Array Value,us.size=xs.length→vs.size=ys.length→(∀(j:Nat) (c:PV),xs[j]? = some c→V g w (us.getD j undef) c) →
   (∀(j:Nat) (c:PV),ys[j]? = some c→V g w (vs.getD j undef) c)→∃b,(Op.equalIn m T (.agg us) (.agg vs)).run P w=.ok b w∧(b=true↔xs=ys)) ∧
  (isAggT i=false→∃x y,xs=[x]∧ys=[y]∧∀u v,V g w u x→V g w v y→∃b,(Op.equalIn m T u v).run P w=.ok b w∧(b=true↔xs=ys))
theorem eqRuns_scalar (hT:ttOk P tt=true) {d m T:Nat} {i:TI} {xs ys:List PV} (hi:tt.get T=some i) (hx:FitP tt (d+1) T xs) (hy:FitP tt (d+1) T ys) (ha:isAggT i=false) :
  ∃x y,xs=[x]∧ys=[y]∧∀u v,V g w u x→V g w v y→∃b,(Op.equalIn (m+1) T u v).run P w=.ok b w∧(b=true↔xs=ys):=by
 simp only [FitP,hi] at hx hy
 cases hk:i.k <;> simp only [hk] at hx hy <;> simp [isAggT,hk] at ha
 case bool =>
  obtain ⟨b,rfl⟩:=hx
  obtain ⟨c,rfl⟩:=hy
  refine ⟨_,_,rfl,rfl,fun u v hu hv=>?_⟩
  cases hu;cases hv
  exact ⟨_,run_equalIn_bool' w m T b c ((tis hT hi).bool hk),by simp⟩
 case int k =>
  obtain ⟨b,rfl⟩:=hx
  obtain ⟨c,rfl⟩:=hy
  refine ⟨_,_,rfl,rfl,fun u v hu hv=>?_⟩
  cases hu;cases hv
  exact ⟨_,run_equalIn_int w m T k k b c ((tis hT hi).int hk),by simp⟩
 case str =>
  obtain ⟨b,rfl⟩:=hx
  obtain ⟨c,rfl⟩:=hy
  refine ⟨_,_,rfl,rfl,fun u v hu hv=>?_⟩
  cases hu;cases hv
  exact ⟨_,run_equalIn_string w m T _ _ ((tis hT hi).str hk),by simp [toList_mk]⟩
theorem eqFields_runs (hT:ttOk P tt=true) {d m:Nat} (ih:EqRuns P tt g w d) (hm:d≤m) {us vs:Array Value} {XS YS:List PV} (hu:us.size=XS.length) (hv:vs.size=YS.length)
  (hU:∀(j:Nat) (c:PV),XS[j]? = some c→V g w (us.getD j undef) c) (hV:∀(j:Nat) (c:PV),YS[j]? = some c→V g w (vs.getD j undef) c) :
  ∀(gs:List Field) (fs:List (Nat×Nat)) (off:Nat) (xs ys:List PV),fieldsOk gs fs=true→XS.drop off=xs→YS.drop off=ys→off≤XS.length→off≤YS.length →
   FitFs (FitP tt d) tt fs off xs→FitFs (FitP tt d) tt fs off ys→∃b,(Op.eqFields m us vs gs).run P w=.ok b w∧(b=true↔xs=ys)
 | [],[],off,xs,ys,_,_,_,_,_,hx,hy=>⟨true,by simp [Op.eqFields],by simp only [FitFs] at hx hy;simp [hx,hy]⟩
 | f::gs,(ft,fo)::fs,off,xs,ys,hf,ex,ey,lx,ly,hx,hy=>by
  simp only [fieldsOk,zqb] at hf
  obtain ⟨⟨⟨h1,h2⟩,h3⟩,h4⟩:=hf
  have h1:=of_decide_eq_true h1
  have h2:=of_decide_eq_true h2
  have h3 : f.name ≠ "_" := by simpa using h3
  simp only [FitFs] at hx hy
  obtain ⟨rfl,hx⟩:=hx
  obtain ⟨-,hy⟩:=hy
  split at hx
  ·rename_i fi hfi
   rw [hfi] at hy
   obtain ⟨⟨sx,fx⟩,rx⟩:=hx
   obtain ⟨⟨sy,fy⟩,ry⟩:=hy
   have hlx:fo+fi.sz≤XS.length:=by rw [←ex,List.length_drop] at sx;omega
   have hly:fo+fi.sz≤YS.length:=by rw [←ey,List.length_drop] at sy;omega
   obtain ⟨b2,k1,k2⟩:=eqFields_runs hT ih hm hu hv hU hV gs fs (fo+fi.sz) (xs.drop fi.sz) (ys.drop fi.sz) h4 (by rw [←ex,List.drop_drop]) (by rw [←ey,List.drop_drop]) hlx hly rx ry
   have hpart:∃b1 u v,(part f.type us f.offset).run P w=.ok u w∧(part f.type vs f.offset).run P w=.ok v w∧(Op.equalIn m f.type u v).run P w=.ok b1 w∧(b1=true↔xs.take fi.sz=ys.take fi.sz):=by
    rw [h1,h2]
    obtain ⟨p1,p2⟩:=ih m ft fi (xs.take fi.sz) (ys.take fi.sz) hfi fx fy hm
    cases ha:isAggT fi with
    | true =>
     obtain ⟨us',a1,a2,a3⟩:=run_part_agg (tis hT hfi) hu hU hlx ha
     obtain ⟨vs',c1,c2,c3⟩:=run_part_agg (tis hT hfi) hv hV hly ha
     rw [ex] at a3
     rw [ey] at c3
     obtain ⟨b1,e1,e2⟩:=p1 ha us' vs' (by rw [a2,zqr];omega) (by rw [c2,zqr];omega) a3 c3
     exact ⟨b1,_,_,a1,c1,e1,e2⟩
    | false =>
     obtain ⟨x,y,q1,q2,q3⟩:=p2 ha
     have gx:XS[fo]? = some x:=by
      have:(xs.take fi.sz)[0]? = some x:=by rw [q1];rfl
      rw [zqs] at this
      split at this
      ·rw [←ex,zqt] at this;simpa using this
      ·cases this
     have gy:YS[fo]? = some y:=by
      have:(ys.take fi.sz)[0]? = some y:=by rw [q2];rfl
      rw [zqs] at this
      split at this
      ·rw [←ey,zqt] at this;simpa using this
      ·cases this
     obtain ⟨b1,e1,e2⟩:=q3 _ _ (hU _ _ gx) (hV _ _ gy)
     have hp:=(tis hT hfi).pos
     exact ⟨b1,_,_,run_part_one (tis hT hfi) (by omega) ha,run_part_one (tis hT hfi) (by omega) ha,e1,e2⟩
   obtain ⟨b1,u,v,r1,r2,r3,r4⟩:=hpart
   have hsplit:xs=ys↔xs.take fi.sz=ys.take fi.sz∧xs.drop fi.sz=ys.drop fi.sz :=
    ⟨fun h=>by rw [h];exact ⟨rfl,rfl⟩,fun h=>by rw [←List.take_append_drop fi.sz xs,←List.take_append_drop fi.sz ys,h.1,h.2]⟩
   cases b1 with
   | true =>
    refine ⟨b2,?_,?_⟩
    ·simp [Op.eqFields,h3,r1,r2,r3,k1]
    ·rw [hsplit,←r4];simpa using k2
   | false =>
    refine ⟨false,?_,?_⟩
    ·simp [Op.eqFields,h3,r1,r2,r3]
    ·rw [hsplit,←r4];simp
  ·exact hx.elim
 | [],_::_,_,_,_,h,_,_,_,_,_,_=>by cases h
 | _::_,[],_,_,_,h,_,_,_,_,_,_=>by cases h
theorem eqItems_runs (hT:ttOk P tt=true) {d m e:Nat} {ei:TI} (he:tt.get e=some ei) (ih:EqRuns P tt g w d) (hm:d≤m) {us vs:Array Value} {XS YS:List PV} (hu:us.size=XS.length) (hv:vs.size=YS.length)
  (hU:∀(j:Nat) (c:PV),XS[j]? = some c→V g w (us.getD j undef) c) (hV:∀(j:Nat) (c:PV),YS[j]? = some c→V g w (vs.getD j undef) c) :
  ∀(n k:Nat) (xs ys:List PV),XS.drop (k*ei.sz)=xs→YS.drop (k*ei.sz)=ys→FitAs (FitP tt d e) ei.sz n xs→FitAs (FitP tt d e) ei.sz n ys →
   ∃b,(Op.eqItems m e ei.sz us vs (List.range' k n)).run P w=.ok b w∧(b=true↔xs=ys)
 | 0,k,xs,ys,_,_,hx,hy=>⟨true,by simp [Op.eqItems],by simp only [FitAs] at hx hy;simp [hx,hy]⟩
 | n+1,k,xs,ys,ex,ey,hx,hy=>by
  simp only [FitAs] at hx hy
  obtain ⟨⟨sx,fx⟩,rx⟩:=hx
  obtain ⟨⟨sy,fy⟩,ry⟩:=hy
  have hpos:=(tis hT he).pos
  have hlx:k*ei.sz+ei.sz≤XS.length:=by rw [←ex,List.length_drop] at sx;omega
  have hly:k*ei.sz+ei.sz≤YS.length:=by rw [←ey,List.length_drop] at sy;omega
  obtain ⟨b2,k1,k2⟩:=eqItems_runs hT he ih hm hu hv hU hV n (k+1) (xs.drop ei.sz) (ys.drop ei.sz) (by rw [←ex,List.drop_drop,Nat.add_mul,Nat.one_mul]) (by rw [←ey,List.drop_drop,Nat.add_mul,Nat.one_mul]) rx ry
  have hpart:∃b1 u v,(part e us (k*ei.sz)).run P w=.ok u w∧(part e vs (k*ei.sz)).run P w=.ok v w∧(Op.equalIn m e u v).run P w=.ok b1 w∧(b1=true↔xs.take ei.sz=ys.take ei.sz):=by
   obtain ⟨p1,p2⟩:=ih m e ei (xs.take ei.sz) (ys.take ei.sz) he fx fy hm
   cases ha:isAggT ei with
   | true =>
    obtain ⟨us',a1,a2,a3⟩:=run_part_agg (tis hT he) hu hU hlx ha
    obtain ⟨vs',c1,c2,c3⟩:=run_part_agg (tis hT he) hv hV hly ha
    rw [ex] at a3
    rw [ey] at c3
    obtain ⟨b1,e1,e2⟩:=p1 ha us' vs' (by rw [a2,zqr];omega) (by rw [c2,zqr];omega) a3 c3
    exact ⟨b1,_,_,a1,c1,e1,e2⟩
   | false =>
    obtain ⟨x,y,q1,q2,q3⟩:=p2 ha
    have gx:XS[k*ei.sz]? = some x:=by
     have:(xs.take ei.sz)[0]? = some x:=by rw [q1];rfl
     rw [zqs,zqp hpos,←ex,zqt] at this
     simpa using this
    have gy:YS[k*ei.sz]? = some y:=by
     have:(ys.take ei.sz)[0]? = some y:=by rw [q2];rfl
     rw [zqs,zqp hpos,←ey,zqt] at this
     simpa using this
    obtain ⟨b1,e1,e2⟩:=q3 _ _ (hU _ _ gx) (hV _ _ gy)
    exact ⟨b1,_,_,run_part_one (tis hT he) (by omega) ha,run_part_one (tis hT he) (by omega) ha,e1,e2⟩
  obtain ⟨b1,u,v,r1,r2,r3,r4⟩:=hpart
  have hsplit:xs=ys↔xs.take ei.sz=ys.take ei.sz∧xs.drop ei.sz=ys.drop ei.sz :=
   ⟨fun h=>by rw [h];exact ⟨rfl,rfl⟩,fun h=>by rw [←List.take_append_drop ei.sz xs,←List.take_append_drop ei.sz ys,h.1,h.2]⟩
  rw [List.range'_succ]
  cases b1 with
  | true =>
   refine ⟨b2,?_,?_⟩
   ·simp [Op.eqItems,r1,r2,r3,k1]
   ·rw [hsplit,←r4];simpa using k2
  | false =>
   refine ⟨false,?_,?_⟩
   ·simp [Op.eqItems,r1,r2,r3]
   ·rw [hsplit,←r4];simp
theorem eqRuns (hT:ttOk P tt=true):∀d,EqRuns P tt g w d
 | 0=>fun m T i xs ys _ hx _ _=>hx.elim
 | d+1=>fun m T i xs ys hi hx hy hm=>by
  obtain ⟨m,rfl⟩:∃k,m=k+1:=⟨m - 1,by omega⟩
  refine ⟨fun ha us vs hu hv hU hV=>?_,fun ha=>eqRuns_scalar hT hi hx hy ha⟩
  have ih:=eqRuns hT d
  simp only [FitP,hi] at hx hy
  cases hk:i.k <;> simp only [hk] at hx hy <;> simp [isAggT,hk] at ha
  case strct fs =>
   obtain ⟨gs,h1,h2,h3⟩:=(tis hT hi).strct hk
   have h4:P.fieldsOf T=gs:=by simp [Program.fieldsOf,h1]
   rw [run_equalIn_struct w m T us vs (by rw [h4];exact h1) h3,h4]
   exact eqFields_runs hT ih (by omega) hu hv hU hV gs.toList fs 0 xs ys h2 rfl rfl (Nat.zero_le _) (Nat.zero_le _) hx hy
  case arr n e =>
   cases he:tt.get e with
   | none=>rw [he] at hx;exact hx.elim
   | some ei =>
    rw [he] at hx hy
    obtain ⟨ti,z,k1,k2,_⟩:=(tis hT he).ex
    have hc:P.cellsOf e=ei.sz:=by simp [Program.cellsOf,k1,k2]
    rw [run_equalIn_array w m us vs ((tis hT hi).arr hk) k1,hc,List.range_eq_range']
    exact eqItems_runs hT he ih (by omega) hu hv hU hV n 0 xs ys (by simp) (by simp) hx.2 hy.2
theorem guard_fields {d n:Nat} (ih:∀T i (xs:List PV),tt.get T=some i→FitP tt d T xs→P.eqGuardType n T=false) :
  ∀ (gs : List Field) (fs : List (Nat × Nat)) (off : Nat) (xs : List PV), fieldsOk gs fs = true → FitFs (FitP tt d) tt fs off xs → gs.any (fun f => f.name != "_" && P.eqGuardType n f.type) = false
 | [],_,_,_,_,_=>rfl
 | f::gs,(ft,fo)::fs,off,xs,hf,hx=>by
  simp only [fieldsOk,zqb] at hf
  obtain ⟨⟨⟨h1,h2⟩,h3⟩,h4⟩:=hf
  have h1:=of_decide_eq_true h1
  simp only [FitFs] at hx
  obtain ⟨_,hx⟩:=hx
  split at hx
  ·rename_i fi hfi
   have:=ih ft fi _ hfi hx.1.2
   rw [List.any_cons,guard_fields ih gs fs _ _ h4 hx.2,h1,this]
   simp
  ·exact hx.elim
 | _::_,[],_,_,h,_=>by cases h
theorem guard_fit (hT:ttOk P tt=true):∀(d n T:Nat) (i:TI) (xs:List PV),tt.get T=some i→FitP tt d T xs→d≤n→P.eqGuardType n T=false
 | 0,_,_,_,_,_,h,_=>h.elim
 | d+1,n,T,i,xs,hi,hx,hn=>by
  obtain ⟨n,rfl⟩:∃k,n=k+1:=⟨n - 1,by omega⟩
  simp only [FitP,hi] at hx
  cases hk:i.k <;> simp only [hk] at hx
  case bool=>simp [Program.eqGuardType,(tis hT hi).bool hk]
  case int k=>simp [Program.eqGuardType,(tis hT hi).int hk]
  case str=>simp [Program.eqGuardType,(tis hT hi).str hk]
  case strct fs =>
   obtain ⟨gs,h1,h2,h3⟩:=(tis hT hi).strct hk
   have:=guard_fields (P:=P) (n:=n) (fun T i xs h1 h2=>guard_fit hT d n T i xs h1 h2 (by omega)) gs.toList fs 0 xs h2 hx
   simp only [Program.eqGuardType,h1]
   rw [←Array.any_toList]
   exact this
  case arr m e =>
   cases he:tt.get e with
   | none=>rw [he] at hx;exact hx.elim
   | some ei =>
    rw [he] at hx
    simp only [Program.eqGuardType,(tis hT hi).arr hk]
    cases m with
    | zero=>exact absurd hx.1 (Nat.lt_irrefl _)
    | succ m =>
     simp only [FitAs] at hx
     exact guard_fit hT d n e ei _ he hx.2.1.2 (by omega)
theorem run_bin_agg (hT:ttOk P tt=true) (hd:6≤P.depth) (op:BinOp) (T:Nat) (xo yo:Operand) {xs ys:List PV} {us vs:Array Value} {K:PV→Prop} (hu:us.size=xs.length) (hv:vs.size=ys.length)
  (hU:∀(j:Nat) (c:PV),xs[j]? = some c→V g w (us.getD j undef) c) (hV:∀(j:Nat) (c:PV),ys[j]? = some c→V g w (vs.getD j undef) c) (hp:pBin tt op T (.agg xs) (.agg ys) K) :
  ∃v p,(do eqGuard op T xo yo (.agg us) (.agg vs);binOp op T (.agg us) (.agg vs):Sem Value).run P w=.ok v w∧V g w v p∧K p:=by
 have hx:∃i,tt.get T=some i∧isAggT i=true∧(FitP tt 6 T xs∧FitP tt 6 T ys)∧aggEq op xs ys K:=by
  simp only [pBin] at hp
  split at hp
  ·rename_i i hi
   split at hp
   ·rename_i ha
    exact ⟨i,hi,ha,hp⟩
   ·exact hp.elim
  ·exact hp.elim
 obtain ⟨i,hi,ha,⟨f1,f2⟩,hp⟩:=hx
 have hg:(eqGuard op T xo yo (.agg us) (.agg vs)).run P w=.ok () w:=run_eqGuard_agg w op T xo yo us vs (guard_fit hT 6 P.depth T i xs hi f1 hd)
 obtain ⟨b,h1,h2⟩:=(eqRuns (g:=g) (w:=w) hT 6 10000 T i xs ys hi f1 f2 (by omega)).1 ha us vs hu hv hU hV
 simp only [Sem.run_bind,hg,Result.andThen_ok]
 cases op
 case eql =>
  refine ⟨.bool b,.bool b,by rw [run_eql_struct,h1];rfl,.bool _,?_⟩
  cases b with
  | true=>exact hp.1 (h2.1 rfl)
  | false=>exact hp.2 (fun h=>by have:=h2.2 h;cases this)
 case neq =>
  refine ⟨.bool (!b),.bool (!b),by rw [run_neq_struct,h1];rfl,.bool _,?_⟩
  cases b with
  | true=>exact hp.1 (h2.1 rfl)
  | false=>exact hp.2 (fun h=>by have:=h2.2 h;cases this)
 all_goals exact hp.elim
theorem op_bin {op:BinOp} {T T':Nat} {x y:Operand} {o:Oper} {K:KK} (hT:ttOk P tt=true) (hd:6≤P.depth) (ho:o.op=.binOp op T x y T') (inv:Inv P g0 w0 H0 F0 N g w a E H) (hq:QRel a g w q)
  (hp:pOp P tt imm E q H o K):OpS P g0 w0 H0 F0 N a w o K:=by
 simp only [pOp,ho] at hp
 have hx:=opnd_VC inv.rel x
 have hy:=opnd_VC inv.rel y
 have fin:∀u p,(do eqGuard op T x y (a.eval x) (a.eval y);binOp op T (a.eval x) (a.eval y):Sem Value).run P w=.ok u w→V g w u p→K p none E q H→OpS P g0 w0 H0 F0 N a w o K:=fun u p h1 h2 h3 =>
  OpS.val inv hq (by simp only [execOp,ho,Sem.run_bind] at h1 ⊢;rw [h1];rfl) h2 h3
 cases hX:opnd E x with
 | int k m =>
  cases hY:opnd E y with
  | int k' n =>
   rw [hX] at hx hp;rw [hY] at hy hp
   obtain ⟨u,p,h1,h2,h3⟩:=run_bin_int (P:=P) (g:=g) (w:=w) op T x y k k' m n hp
   exact fin u p (by rw [hx.int,hy.int];exact h1) h2 h3
  | _=>rw [hX,hY] at hp;exact hp.elim
 | str s =>
  cases hY:opnd E y with
  | str t =>
   rw [hX] at hx hp;rw [hY] at hy hp
   obtain ⟨u,p,h1,h2,h3⟩:=run_bin_str (P:=P) (g:=g) (w:=w) op T x y s t hp
   exact fin u p (by rw [hx.str,hy.str];exact h1) h2 h3
  | _=>rw [hX,hY] at hp;exact hp.elim
 | bool s =>
  cases hY:opnd E y with
  | bool t =>
   rw [hX] at hx hp;rw [hY] at hy hp
   obtain ⟨u,p,h1,h2,h3⟩:=run_bin_bool (P:=P) (g:=g) (w:=w) hT op T x y s t hp
   exact fin u p (by rw [hx.bool,hy.bool];exact h1) h2 h3
  | _=>rw [hX,hY] at hp;exact hp.elim
 | agg xs =>
  cases hY:opnd E y with
  | agg ys =>
   rw [hX] at hx hp;rw [hY] at hy hp
   obtain ⟨us,h1,h2,h3⟩:=(plain_of hx (by simp) (by simp)).inv_agg
   obtain ⟨vs,k1,k2,k3⟩:=(plain_of hy (by simp) (by simp)).inv_agg
   obtain ⟨u,p,e1,e2,e3⟩:=run_bin_agg hT hd op T x y h2 k2 h3 k3 hp
   exact fin u p (by rw [h1,k1];exact e1) e2 e3
  | _=>rw [hX,hY] at hp;exact hp.elim
 | slice n cs ow =>
  cases hY:opnd E y with
  | nilS =>
   rw [hX] at hx hp;rw [hY] at hy hp
   simp only [pBin] at hp
   split at hp
   ·rename_i i hi
    split at hp
    ·rename_i e hk
     have hu:=(tis hT hi).slice hk
     have hy':=(plain_of hy (by simp) (by simp)).inv_nilS
     rcases hx.slice.inv_slice with ⟨hvb,hn,_⟩ | ⟨b,off,cap,hvb,hle,himm⟩
     ·obtain ⟨r1,r2⟩:=run_bin_nils (P:=P) (w:=w) op T e x y none 0 0 hu
      cases op
      case eql=>exact fin _ _ (by rw [hvb,hy'];exact r1 rfl) (.bool _) (hp.2 hn).1
      case neq=>exact fin _ _ (by rw [hvb,hy'];exact r2 rfl) (.bool _) (hp.2 hn).2
      all_goals exact hp.elim
     ·obtain ⟨r1,r2⟩:=run_bin_nils (P:=P) (w:=w) op T e x y (some ⟨b,off,none⟩) n cap hu
      cases op
      case eql=>exact fin _ _ (by rw [hvb,hy'];exact r1 rfl) (.bool _) (by
       rcases Nat.eq_zero_or_pos n with h | h
       ·exact (hp.2 h).2
       ·exact hp.1 h)
      case neq=>exact fin _ _ (by rw [hvb,hy'];exact r2 rfl) (.bool _) (by
       rcases Nat.eq_zero_or_pos n with h | h
       ·exact (hp.2 h).1
       ·exact hp.1 h)
      all_goals exact hp.elim
    ·exact hp.elim
   ·exact hp.elim
  | _=>rw [hX,hY] at hp;exact hp.elim
 | sref id off n cap =>
  cases hY:opnd E y with
  | nilS =>
   rw [hX] at hx hp;rw [hY] at hy hp
   simp only [pBin] at hp
   split at hp
   ·rename_i i hi
    split at hp
    ·rename_i e hk
     have hu:=(tis hT hi).slice hk
     have hy':=(plain_of hy (by simp) (by simp)).inv_nilS
     obtain ⟨b,hvb,_,_⟩:=(plain_of hx (by simp) (by simp)).inv_sref
     obtain ⟨r1,r2⟩:=run_bin_nils (P:=P) (w:=w) op T e x y (some ⟨b,off,none⟩) n cap hu
     cases op
     case eql=>exact fin _ _ (by rw [hvb,hy'];exact r1 rfl) (.bool _) hp
     case neq=>exact fin _ _ (by rw [hvb,hy'];exact r2 rfl) (.bool _) hp
     all_goals exact hp.elim
    ·exact hp.elim
   ·exact hp.elim
  | _=>rw [hX,hY] at hp;exact hp.elim
 | rref id off n =>
  cases hY:opnd E y with
  | nilS =>
   rw [hX] at hx hp;rw [hY] at hy hp
   simp only [pBin] at hp
   split at hp
   ·rename_i i hi
    split at hp
    ·rename_i e hk
     have hu:=(tis hT hi).slice hk
     have hy':=(plain_of hy (by simp) (by simp)).inv_nilS
     obtain ⟨b,cap,hvb,_,_⟩:=(plain_of hx (by simp) (by simp)).inv_rref
     obtain ⟨r1,r2⟩:=run_bin_nils (P:=P) (w:=w) op T e x y (some ⟨b,off,none⟩) n cap hu
     cases op
     case eql=>exact fin _ _ (by rw [hvb,hy'];exact r1 rfl) (.bool _) hp
     case neq=>exact fin _ _ (by rw [hvb,hy'];exact r2 rfl) (.bool _) hp
     all_goals exact hp.elim
    ·exact hp.elim
   ·exact hp.elim
  | _=>rw [hX,hY] at hp;exact hp.elim
 | nilS =>
  cases hY:opnd E y with
  | nilS =>
   rw [hX] at hx hp;rw [hY] at hy hp
   simp only [pBin] at hp
   split at hp
   ·rename_i i hi
    split at hp
    ·rename_i e hk
     have hu:=(tis hT hi).slice hk
     have hy':=(plain_of hy (by simp) (by simp)).inv_nilS
     have hvb:=(plain_of hx (by simp) (by simp)).inv_nilS
     obtain ⟨r1,r2⟩:=run_bin_nils (P:=P) (w:=w) op T e x y none 0 0 hu
     cases op
     case eql=>exact fin _ _ (by rw [hvb,hy'];exact r1 rfl) (.bool _) hp
     case neq=>exact fin _ _ (by rw [hvb,hy'];exact r2 rfl) (.bool _) hp
     all_goals exact hp.elim
    ·exact hp.elim
   ·exact hp.elim
  | _=>rw [hX,hY] at hp;exact hp.elim
 | ptr pp =>
  cases hY:opnd E y with
  | ptr qq =>
   rw [hX] at hx hp;rw [hY] at hy hp
   simp only [pBin] at hp
   split at hp
   ·rename_i i hi
    split at hp
    ·rename_i hk
     obtain ⟨e,hu,_⟩:=(tis hT hi).ptr hk
     cases qq with
     | some _=>exact hp.elim
     | none =>
      have hy':=(plain_of hy (by simp) (by simp)).inv_nilp
      have hx':∃o,a.eval x=.pointer o∧o.isNone=pp.isNone:=by
       cases pp with
       | none=>exact ⟨none,(plain_of hx (by simp) (by simp)).inv_nilp,rfl⟩
       | some pp =>
        obtain ⟨id,off⟩:=pp
        obtain ⟨b,h,_⟩:=(plain_of hx (by simp) (by simp)).inv_ptr
        exact ⟨_,h,rfl⟩
      obtain ⟨o',h1,h2⟩:=hx'
      obtain ⟨r1,r2⟩:=run_bin_nil (P:=P) (w:=w) op T e x y o' hu
      cases op
      case eql=>exact fin _ _ (by rw [h1,hy'];exact r1 rfl) (.bool _) (by rw [h2];exact hp)
      case neq=>exact fin _ _ (by rw [h1,hy'];exact r2 rfl) (.bool _) (by rw [h2];exact hp)
      all_goals exact hp.elim
    ·exact hp.elim
   ·exact hp.elim
  | _=>rw [hX,hY] at hp;exact hp.elim
 | elem cs =>
  cases hY:opnd E y with
  | ptr qq =>
   cases qq with
   | some _=>rw [hX,hY] at hp;exact hp.elim
   | none =>
    rw [hX] at hx hp;rw [hY] at hy hp
    simp only [pBin] at hp
    split at hp
    ·rename_i i hi
     split at hp
     ·rename_i hk
      obtain ⟨e,hu,_⟩:=(tis hT hi).ptr hk
      have hy':=(plain_of hy (by simp) (by simp)).inv_nilp
      obtain ⟨b,off,h1,_⟩:=(plain_of hx (by simp) (by simp)).inv_elem
      obtain ⟨r1,r2⟩:=run_bin_nil (P:=P) (w:=w) op T e x y (some ⟨b,off,none⟩) hu
      cases op
      case eql=>exact fin _ _ (by rw [h1,hy'];exact r1 rfl) (.bool _) hp
      case neq=>exact fin _ _ (by rw [h1,hy'];exact r2 rfl) (.bool _) hp
      all_goals exact hp.elim
     ·exact hp.elim
    ·exact hp.elim
  | _=>rw [hX,hY] at hp;exact hp.elim
 | _=>rw [hX] at hp;exact hp.elim
end
end Ps
/- PSem, part 11: what makes memory. -/
namespace Ps
open Go
section
variable {P : Program} {tt : TT} {imm : List Nat} {g0 : Gh} {w0 : World} {H0 : PH} {F0 : Nat → Prop} {N : Nat} {g : Gh} {w : World} {a : Act} {E : Env} {H : PH} {q : Q}
theorem cellOwn_push {w1:World} {o:Obj} (hh:RelH P g w H) (hp:Pushes w w1 o) {I':Nat→Nat→Prop} {bb:Nat} (h:cellOwn ⟨g.ι,I'⟩ w1 H bb):cellOwn g w H bb:=by
 obtain ⟨id,j,o,c,b0,v,h1,h2,h3,h4,h5,h6⟩:=h
 exact ⟨id,j,o,c,b0,v,h1,h2,h3,h4,(cell?_of_heap (hp.old (hh.lt h4)) j).symm.trans h5,h6⟩
theorem imm_push {w1:World} {vs:Array Value} {e:Nat} {fr:Nat×Nat} (hh:RelH P g w H) (hp:Pushes w w1 (.cells vs e fr)) {cs:List PV} {k:Nat} (hk:cs.length≤k)
  (hv:∀(j:Nat) (c:PV),cs[j]? = some c→∃v,vs[j]? = some v∧V g w v c):Imm ⟨g.ι,addI g.I w.heap.size k⟩ w1 w.heap.size 0 cs:=by
 have hkeep:=keeps_push hh hp k
 have hex:∀j:Nat,∃v:Value,∀c,cs[j]? = some c→vs[j]? = some v∧V g w v c:=fun j=>by
  cases h:cs[j]? with
  | none=>exact ⟨undef,fun c h=>by cases h⟩
  | some c=>obtain ⟨v,h1,h2⟩:=hv j c h;exact ⟨v,fun c' e'=>by cases e';exact ⟨h1,h2⟩⟩
 obtain ⟨u,hu⟩:=Classical.axiomOfChoice hex
 refine ⟨u,fun j c hj=>⟨.inr ⟨rfl,?_⟩,?_⟩,fun j c hj=>(hu j c hj).2.mono hkeep⟩
 ·have:=(zq1.1 hj).1;omega
 ·rw [cell?_cells hp.new,Nat.zero_add];exact (hu j c hj).1
theorem no_slot_new (inv:Inv P g0 w0 H0 F0 N g w a E H) {b:Nat} (hb:w.heap.size≤b):∀t i,¬ownAt (vals a t) (E.get t) i b:=fun t i h=>by
 have:=(inv.rel.own_lt h).1;omega
theorem no_cell_new (hh:RelH P g w H) {b:Nat} (hb:w.heap.size≤b):¬cellOwn g w H b:=fun ⟨id,j,h⟩=>by
 obtain ⟨n,cs,e,u,hf⟩:=hh.cown h
 have:=ownF_lt hf;omega
theorem post_own (inv:Inv P g0 w0 H0 F0 N g w a E H) (hq:QRel a g w q) {w1:World} {vs:Array Value} {e:Nat} (hp:Pushes w w1 (.cells vs e (0,0))) {cs:List PV} {n cap:Nat}
  (hv:∀(j:Nat) (c:PV),cs[j]? = some c→∃v,vs[j]? = some v∧V g w v c) (hn:n≤cap) (hsz:0<psize P e) (hc:cs.length=n*psize P e) (hs:vs.size=cap*psize P e) :
  Post P g0 w0 H0 F0 N a ⟨g.ι,addI g.I w.heap.size cs.length⟩ w1 E q H (.slice (some ⟨w.heap.size,0,none⟩) n cap) (.slice n cs (some e)) none:=by
 have hh:=inv.rel.h
 have hle:cs.length≤vs.size:=by rw [hc,hs];exact Nat.mul_le_mul_right _ hn
 have himm:=imm_push hh hp (zqn cs.length) hv
 have hinv:=inv.push hp cs.length hle
 have hf:OwnF P ⟨g.ι,addI g.I w.heap.size cs.length⟩ w1 (.slice (some ⟨w.heap.size,0,none⟩) n cap) n cs e w.heap.size :=
  ⟨⟨cap,vs,rfl,hn,hp.new,hsz,hc,Nat.le_of_eq hs.symm⟩,fun id hi=>Nat.lt_irrefl _ (hh.lt hi),fun o ho h=>by
   rcases h with h | ⟨_,h⟩
   ·exact Nat.lt_irrefl _ (hh.ilt h)
   ·omega⟩
 refine ⟨hinv,.inr ⟨n,cs,e,_,rfl,himm.vslice hn,hf⟩,fun i b h=>?_,fun i i' b h1 h2=>h1.1.trans h2.1.symm,hq.keep (fun id b hi=>⟨hi,hp.old (hh.lt hi)⟩),fun _ h=>by cases h⟩
 have hb:w.heap.size=b:=by have:=h.2.2;simpa [blk] using this
 subst hb
 exact ⟨no_slot_new inv (zqn _),fun h=>no_cell_new hh (zqn _) (cellOwn_push hh hp h),.inl inv.step.size⟩
theorem post_imm (inv:Inv P g0 w0 H0 F0 N g w a E H) (hq:QRel a g w q) {w1:World} {vs:Array Value} {e:Nat} {fr:Nat×Nat} (hp:Pushes w w1 (.cells vs e fr)) {cs:List PV} (hl:cs.length≤vs.size)
  (hv:∀(j:Nat) (c:PV),cs[j]? = some c→∃v,vs[j]? = some v∧V g w v c) {v:Value} {p:PV}
  (hr:Imm ⟨g.ι,addI g.I w.heap.size cs.length⟩ w1 w.heap.size 0 cs→V ⟨g.ι,addI g.I w.heap.size cs.length⟩ w1 v p) :
  Post P g0 w0 H0 F0 N a ⟨g.ι,addI g.I w.heap.size cs.length⟩ w1 E q H v p none :=
 Post.ofV (inv.push hp cs.length hl) (hr (imm_push inv.rel.h hp (zqn _) hv)) (hq.keep (fun id b hi=>⟨hi,hp.old (inv.rel.h.lt hi)⟩))
theorem post_obj (inv:Inv P g0 w0 H0 F0 N g w a E H) (hq:QRel a g w q) {w1:World} {vs:Array Value} {T:Nat} (hp:Pushes w w1 (.cells vs T (0,0))) {cs:List PV} (hs:vs.size=cs.length)
  (hv:∀(j:Nat) (c:PV),cs[j]? = some c→∃v,vs[j]? = some v∧V g w v c) :
  Post P g0 w0 H0 F0 N a ⟨g.ι++[some w.heap.size],g.I⟩ w1 E (qslots q) (H++[⟨T,cs,0⟩]) (.pointer (some ⟨w.heap.size,0,none⟩)) (.ptr (some (H.length,0))) none :=
 Post.ofV (inv.pushObj hp hs hv) (.ptr _ _ _ (by rw [←inv.rel.h.len];simp) (kindAt_cells hp.new)) hq.slots
theorem cellsOf_V {v:Value} {p:PV} (h:V g w v p) (hp:p≠.undef):v.cells.size=(cellsOf p).length∧∀(j:Nat) (c:PV),(cellsOf p)[j]? = some c→∃u,v.cells[j]? = some u∧V g w u c:=by
 have one:∀{v:Value} {p:PV},v.cells=#[v]→cellsOf p=[p]→V g w v p→v.cells.size=(cellsOf p).length∧∀(j:Nat) (c:PV),(cellsOf p)[j]? = some c→∃u,v.cells[j]? = some u∧V g w u c:=by
  intro v p h1 h2 h3
  rw [h1,h2]
  refine ⟨rfl,fun j c hj=>?_⟩
  cases j with
  | zero=>simp at hj;subst hj;exact ⟨v,rfl,h3⟩
  | succ j=>simp at hj
 cases h with
 | undef v=>exact absurd rfl hp
 | agg vs cs h1 h2 =>
  refine ⟨h1,fun j c hj=>?_⟩
  have hj':cs[j]? = some c:=hj
  have hlt:j<vs.size:=by rw [h1];exact (zq1.1 hj').1
  have:=h2 j c hj'
  rw [Array.getD_eq_getD_getElem?,Array.getElem?_eq_getElem hlt] at this
  exact ⟨vs[j],Array.getElem?_eq_getElem hlt,this⟩
 | snil o =>
  refine ⟨rfl,fun j c hj=>?_⟩
  cases j with
  | zero=>simp [cellsOf] at hj;subst hj;exact ⟨_,rfl,.snil none⟩
  | succ j=>simp [cellsOf] at hj
 | slice b off n cap cs u hn h1 h2=>exact one rfl rfl (.slice b off n cap cs u hn h1 h2)
 | bool b=>exact one rfl rfl (.bool b)
 | int k n=>exact one rfl rfl (.int k n)
 | str s=>exact one rfl rfl (.str s)
 | nilp=>exact one rfl rfl .nilp
 | ptr id b off h hc=>exact one rfl rfl (.ptr id b off h hc)
 | elem b off cs u h1 h2=>exact one rfl rfl (.elem b off cs u h1 h2)
 | sref id b off n cap h hn hc=>exact one rfl rfl (.sref id b off n cap h hn hc)
 | mref id b h hc=>exact one rfl rfl (.mref id b h hc)
 | rref id b off n cap h hn hc=>exact one rfl rfl (.rref id b off n cap h hn hc)
 | func f x y ps qs h1 h2 h3 h4=>exact one rfl rfl (.func f x y ps qs h1 h2 h3 h4)
 | nilF=>exact one rfl rfl .nilF
 | nilS=>exact one rfl rfl .nilS
theorem op_alloc {T:Nat} {o:Oper} {K:KK} (hT:ttOk P tt=true) (ho:o.op=.alloc T) (inv:Inv P g0 w0 H0 F0 N g w a E H) (hq:QRel a g w q) (hp:pOp P tt imm E q H o K) :
  OpS P g0 w0 H0 F0 N a w o K:=by
 simp only [pOp,ho] at hp
 split at hp
 ·rename_i i hi
  obtain ⟨z,h1,h2,h3⟩:=(tis hT hi).run_zero w
  obtain ⟨h4,h5⟩:=zeqs_V (g:=g) (w:=w) h2
  intro next Q' hn
  refine wp_value (w':=w.alloc (.cells z.cells T (0,0))) (v:=.pointer (some ⟨w.heap.size,0,none⟩)) ?_ (hn _ _ _ _ _ _ _ _ (post_obj inv hq (Pushes.alloc w _) (by rw [←h4,Array.length_toList]) (fun j c hj=>by
   obtain ⟨v,k1,k2⟩:=h5 j c hj
   rw [Array.getElem?_toList] at k1
   exact ⟨v,k1,k2⟩)) hp)
  simp [execOp,ho,Instr.alloc,h1,newVar,newRow]
 ·exact hp.elim
theorem op_box {T:Nat} {x:Operand} {o:Oper} {K:KK} (ho:o.op=.box T x) (inv:Inv P g0 w0 H0 F0 N g w a E H) (hq:QRel a g w q) (hp:pOp P tt imm E q H o K) :
  OpS P g0 w0 H0 F0 N a w o K:=by
 simp only [pOp,ho] at hp
 obtain ⟨hu,hp'⟩:=frcd_eq hp
 have hx:=(opnd_VC inv.rel x).dem
 have hrun:(execOp a.eval o).run P w=.ok (.value (.pointer (some ⟨w.heap.size,0,none⟩))) (w.alloc (.cells (a.eval x).cells T (0,0))):=by
  simp [execOp,ho,Instr.box,newVar,newRow]
 obtain ⟨h1,h2⟩:=cellsOf_V hx hu
 intro next Q' hn
 split at hp'
 ·exact wp_value hrun (hn _ _ _ _ _ _ _ _ (post_imm inv hq (Pushes.alloc w _) (by omega) h2 (fun h=>h.velem)) hp')
 ·exact wp_value hrun (hn _ _ _ _ _ _ _ _ (post_obj inv hq (Pushes.alloc w _) h1 h2) hp')
end
end Ps
/- PSem, part 12: values that are built of parts; stores. -/
namespace Ps
open Go
def VL (g:Gh) (w:World) (vs:Array Value) (cs:List PV):Prop:=vs.size=cs.length∧∀(j:Nat) (c:PV),cs[j]? = some c→∃v,vs[j]? = some v∧V g w v c
theorem setCells_eq:∀(off:Nat) (ds cs:List PV),off+ds.length≤cs.length→setCells off ds cs=cs.take off++ds++cs.drop (off+ds.length)
 | off,[],cs,h=>by simp [setCells]
 | 0,d::ds,[],h=>by simp at h
 | 0,d::ds,c::cs,h=>by
  have:=setCells_eq 0 ds cs (by simp at h ⊢;omega)
  simp only [setCells,this]
  simp
 | off+1,d::ds,[],h=>by simp at h
 | off+1,d::ds,c::cs,h=>by
  have:=setCells_eq off (d::ds) cs (by simp at h ⊢;omega)
  simp only [setCells,this]
  rw [show off+1+(d::ds).length=(off+(d::ds).length)+1 by omega]
  simp
theorem setCells_get (off:Nat) (ds cs:List PV) (h:off+ds.length≤cs.length) (j:Nat):(setCells off ds cs)[j]? = if off≤j∧j<off+ds.length then ds[j - off]? else cs[j]?:=by
 rw [setCells_eq off ds cs h]
 have ht:(cs.take off).length=off:=by rw [zqr];omega
 rcases Nat.lt_or_ge j off with h1 | h1
 ·rw [zqo (by omega),List.append_assoc,zq2 (by omega),zqs,zqp h1]
 ·rcases Nat.lt_or_ge j (off+ds.length) with h2 | h2
  ·rw [zqp ⟨h1,h2⟩,zq2 (by simp [ht];omega),zqi (by omega),ht]
  ·rw [zqo (by omega),zqi (by simp [ht];omega),zqt]
   congr 1
   simp [ht];omega
theorem setCells_length (off:Nat) (ds cs:List PV) (h:off+ds.length≤cs.length):(setCells off ds cs).length=cs.length:=by
 rw [setCells_eq off ds cs h];simp;omega
theorem fold_set (off:Nat):∀(l:List Value) (i:Nat) (cells:Array Value),off+i+l.length≤cells.size →
  ((l.zipIdx i).foldl (fun cs (p:Value×Nat)=>cs.setIfInBounds (off+p.2) p.1) cells).size=cells.size ∧
  ∀(k:Nat),((l.zipIdx i).foldl (fun cs (p:Value×Nat)=>cs.setIfInBounds (off+p.2) p.1) cells)[k]? = if off+i≤k∧k<off+i+l.length then l[k - (off+i)]? else cells[k]?
 | [],i,cells,h=>by
  refine ⟨by simp,fun k=>?_⟩
  rw [zqo (by simp)];simp
 | v::l,i,cells,h=>by
  have ih:=fold_set off l (i+1) (cells.setIfInBounds (off+i) v) (by simp at h ⊢;omega)
  refine ⟨by simpa using ih.1,fun k=>?_⟩
  have ih2:=ih.2 k
  simp only [List.zipIdx_cons,List.foldl_cons]
  rw [ih2]
  simp only [List.length_cons] at h ⊢
  by_cases h1:k=off+i
  ·subst h1
   rw [zqo (by omega),zqp (by omega)]
   simp [Array.getElem?_setIfInBounds,show off+i<cells.size by omega]
  ·by_cases h2:off+(i+1)≤k∧k<off+(i+1)+l.length
   ·rw [zqp h2,zqp (by omega)]
    rw [show k - (off+i)=(k - (off+(i+1)))+1 by omega];simp
   ·rw [zqo h2,zqo (by omega),Array.getElem?_setIfInBounds,zqo (by omega)]
section
variable {P : Program} {tt : TT} {imm : List Nat} {g0 : Gh} {w0 : World} {H0 : PH} {F0 : Nat → Prop} {N : Nat} {g : Gh} {w : World} {a : Act} {E : Env} {H : PH} {q : Q}
theorem VL.fold {cells vs:Array Value} {cs ds:List PV} {off:Nat} (h:VL g w cells cs) (h':VL g w vs ds) (hl:off+ds.length≤cs.length) :
  VL g w (vs.zipIdx.foldl (fun cs (p:Value×Nat)=>cs.setIfInBounds (off+p.2) p.1) cells) (setCells off ds cs):=by
 have e:vs.zipIdx.foldl (fun cs (p:Value×Nat)=>cs.setIfInBounds (off+p.2) p.1) cells=(vs.toList.zipIdx 0).foldl (fun cs (p:Value×Nat)=>cs.setIfInBounds (off+p.2) p.1) cells:=by
  rw [←Array.foldl_toList,Array.toList_zipIdx]
 have hs:vs.toList.length=ds.length:=by rw [Array.length_toList];exact h'.1
 have f:=fold_set off vs.toList 0 cells (by rw [hs,h.1];simpa using hl)
 rw [e]
 refine ⟨by rw [f.1,setCells_length _ _ _ hl];exact h.1,fun j c hj=>?_⟩
 rw [setCells_get _ _ _ hl] at hj
 rw [f.2 j]
 simp only [Nat.add_zero,hs]
 split at hj
 ·rename_i hc
  rw [zqp hc,Array.getElem?_toList]
  exact h'.2 _ _ hj
 ·rename_i hc
  rw [zqo hc]
  exact h.2 _ _ hj
theorem fill_ok (hr:Rel P g w (vals a) E H) {pl place:Nat→Option (Nat×Nat)} (hpl:∀k r,pl k=some r→place k=some r) {K:List PV→Prop} :
  ∀(parts:List (Nat×Operand)) (cells:Array Value) (cs:List PV),VL g w cells cs→pFill pl E parts cs K →
   ∃cells' cs',Instr.fill place cells (parts.map fun p=>(p.1,a.eval p.2))=some cells'∧VL g w cells' cs'∧cs'.length=cs.length∧K cs'
 | [],cells,cs,hv,hp=>⟨cells,cs,rfl,hv,rfl,hp⟩
 | (i,x)::rest,cells,cs,hv,hp=>by
  unfold pFill at hp
  split at hp
  ·rename_i off sz hi
   obtain ⟨hu,hp⟩:=frcd_eq hp
   have hx:=(opnd_VC hr x).dem
   obtain ⟨h1,h2⟩:=cellsOf_V hx hu
   split at hp
   ·rename_i hb
    have hb:=zqg hb
    split at hp
    ·rename_i hle
     have hle:off+sz≤cs.length:=zqh hle
     have hf:VL g w _ _:=VL.fold (off:=off) hv ⟨h1,h2⟩ (by rw [hb];exact hle)
     obtain ⟨cells',cs',k1,k2,k3,k4⟩:=fill_ok hr hpl rest _ _ hf hp
     refine ⟨cells',cs',?_,k2,by rw [k3,setCells_length _ _ _ (by rw [hb];exact hle)],k4⟩
     simp only [List.map_cons,Instr.fill,hpl _ _ hi]
     rw [zqo (by simp only [h1,hb,hv.1];simp;omega)]
     exact k1
    ·exact hp.elim
   ·exact hp.elim
  ·exact hp.elim
theorem zeqs_VL {z:Value} {cs:List PV} (h:zeqs z.cells.toList cs=true):VL g w z.cells cs:=by
 obtain ⟨h4,h5⟩:=zeqs_V (g:=g) (w:=w) h
 exact ⟨by rw [←h4,Array.length_toList],fun j c hj=>by
  obtain ⟨v,k1,k2⟩:=h5 j c hj
  rw [Array.getElem?_toList] at k1
  exact ⟨v,k1,k2⟩⟩
theorem VL.agg {vs:Array Value} {cs:List PV} (h:VL g w vs cs):V g w (.agg vs) (.agg cs):=by
 refine .agg vs cs h.1 fun j c hj=>?_
 obtain ⟨v,h1,h2⟩:=h.2 j c hj
 rw [Array.getD_eq_getD_getElem?,h1];exact h2
theorem places_ok:∀(gs:List Field),(∀f∈gs,(P.info? f.type).isSome=true)→∃places:List (Nat×Nat),gs.mapM (fun f=>(P.info? f.type).map fun i=>(f.offset,i.size))=some places ∧
  ∀(k:Nat) (f:Field) (i:TypeInfo),gs[k]? = some f→P.info? f.type=some i→places[k]? = some (f.offset,i.size)
 | [],_=>⟨[],rfl,fun k f i h=>by simp at h⟩
 | f::gs,h=>by
  obtain ⟨ps,h1,h2⟩:=places_ok gs fun f hf=>h f (List.mem_cons_of_mem _ hf)
  obtain ⟨i,hi⟩:=Option.isSome_iff_exists.1 (h f List.mem_cons_self)
  refine ⟨(f.offset,i.size)::ps,by simp [List.mapM_cons,hi,h1],fun k f' i' hk hi'=>?_⟩
  cases k with
  | zero=>simp at hk;subst hk;rw [hi] at hi';cases hi';rfl
  | succ k=>simpa using h2 k f' i' (by simpa using hk) hi'
theorem op_build {T:Nat} {ps:Array (Nat×Operand)} {o:Oper} {K:KK} (hT:ttOk P tt=true) (ho:o.op=.build T ps) (inv:Inv P g0 w0 H0 F0 N g w a E H) (hq:QRel a g w q) (hp:pOp P tt imm E q H o K) :
  OpS P g0 w0 H0 F0 N a w o K:=by
 simp only [pOp,ho] at hp
 have hmap:(ps.map fun p=>(p.1,a.eval p.2)).toList=ps.toList.map fun p=>(p.1,a.eval p.2):=by simp
 split at hp
 ·rename_i i hi
  have ti:=tis hT hi
  obtain ⟨inf,z,i1,i2,i3,i4,i5⟩:=ti.ex
  split at hp
  ·rename_i fs hk
   obtain ⟨gs,u1,u2,u3⟩:=ti.strct hk
   obtain ⟨places,p1,p2⟩:=places_ok gs.toList (ti.strctInfo hk u1)
   obtain ⟨f1,f2⟩:=fieldsOk_get u2
   obtain ⟨cells,cs,c1,c2,c3,c4⟩:=fill_ok inv.rel (place:=(places.toArray[·]?)) (fun k r hkr=>by
    split at hkr
    ·rename_i ft off hfs
     split at hkr
     ·rename_i fi hfi
      cases hkr
      obtain ⟨fld,e1,e2,e3,e4⟩:=f2 k ft off hfs
      obtain ⟨finf,fz,y1,y2,_⟩:=(tis hT hfi).ex
      have:=p2 k fld finf e1 (by rw [e2];exact y1)
      simp only [List.getElem?_toArray]
      rw [this,e3,y2]
     ·cases hkr
    ·cases hkr) ps.toList z.cells i.zero (zeqs_VL i5) hp
   have hb:P.built T (ps.map fun p=>(p.1,a.eval p.2)).toList=some cells:=by
    unfold Program.built
    rw [hmap]
    simp only [i1,u1,i4]
    rw [p1]
    exact c1
   exact OpS.val inv hq (v:=.agg cells) (by simp only [execOp,ho];rw [show (ps.map fun (x:Nat×Operand)=>match x with | (i,x)=>(i,a.eval x))=ps.map fun p=>(p.1,a.eval p.2) from rfl,Sem.run_bind,run_build w T _ cells hb];rfl) c2.agg c4
  ·rename_i n e hk
   split at hp
   ·rename_i ei hei
    obtain ⟨einf,ez,y1,y2,_⟩:=(tis hT hei).ex
    obtain ⟨cells,cs,c1,c2,c3,c4⟩:=fill_ok inv.rel (place:=fun i=>some (i*ei.sz,ei.sz)) (fun k r hkr=>by
     split at hkr
     ·exact hkr
     ·cases hkr) ps.toList z.cells i.zero (zeqs_VL i5) hp
    have hb:P.built T (ps.map fun p=>(p.1,a.eval p.2)).toList=some cells:=by
     unfold Program.built
     simp only [i1,ti.arr hk,i4,y1,hmap,y2]
     exact c1
    exact OpS.val inv hq (v:=.agg cells) (by simp only [execOp,ho];rw [show (ps.map fun (x:Nat×Operand)=>match x with | (i,x)=>(i,a.eval x))=ps.map fun p=>(p.1,a.eval p.2) from rfl,Sem.run_bind,run_build w T _ cells hb];rfl) c2.agg c4
   ·exact hp.elim
  ·exact hp.elim
 ·exact hp.elim
theorem zerosOf_get {z:List PV} {sz:Nat} (hz:z.length=sz) (hs:0<sz):∀(n:Nat),(zerosOf z n).length=n*sz∧∀j,j<n*sz→(zerosOf z n)[j]? = z[j % sz]?
 | 0=>⟨by simp [zerosOf],fun j h=>by omega⟩
 | n+1=>by
  obtain ⟨h1,h2⟩:=zerosOf_get hz hs n
  refine ⟨by simp [zerosOf,h1,hz,Nat.add_mul,Nat.add_comm],fun j hj=>?_⟩
  simp only [zerosOf]
  rcases Nat.lt_or_ge j sz with h | h
  ·rw [zq2 (by omega),Nat.mod_eq_of_lt h]
  ·rw [zqi (by omega),hz,h2 (j - sz) (by rw [Nat.add_mul] at hj;omega)]
   congr 1
   conv=>rhs;rw [show j=(j - sz)+sz by omega,Nat.add_mod_right]
theorem made_VL {z : Value} {cs : List PV} {sz : Nat} (h : zeqs z.cells.toList cs = true) (hl : cs.length = sz) (hs : 0 < sz) (n : Nat) {zz : Array Value} (hzz : 0 < n → zz = z.cells) {m : Nat} (hnm : n ≤ m) :
    (madeCells zz (m * sz)).size = m * sz ∧ (zerosOf cs n).length = n * sz ∧ ∀ (j : Nat) (c : PV), (zerosOf cs n)[j]? = some c → ∃ v, (madeCells zz (m * sz))[j]? = some v ∧ V g w v c := by
  obtain ⟨h1, h2⟩ := zerosOf_get hl hs n
  refine ⟨size_madeCells _ _, h1, fun j c hj => ?_⟩
  have hj' : j < n * sz := by rw [← h1]; exact (zq1.1 hj).1
  have hn : 0 < n := by rcases Nat.eq_zero_or_pos n with rfl | h
                        · simp at hj'
                        · exact h
  have hm : j < m * sz := Nat.lt_of_lt_of_le hj' (Nat.mul_le_mul_right _ hnm)
  rw [h2 j hj'] at hj
  obtain ⟨v, k1, k2⟩ := (zeqs_VL (g := g) (w := w) h).2 _ _ hj
  have hsz : z.cells.size = sz := by rw [(zeqs_VL (g := g) (w := w) h).1, hl]
  rw [hzz hn]
  refine ⟨v, ?_, k2⟩
  simp only [madeCells, Array.getElem?_map, Array.getElem?_range, hm, if_true, Option.map_some, hsz]
  simp [Array.getElem!_eq_getD, Array.getD_eq_getD_getElem?, k1]
theorem op_makeSlice {T:Nat} {l c:Operand} {o:Oper} {K:KK} (hT:ttOk P tt=true) (ho:o.op=.makeSlice T l c) (inv:Inv P g0 w0 H0 F0 N g w a E H) (hq:QRel a g w q) (hp:pOp P tt imm E q H o K) :
  OpS P g0 w0 H0 F0 N a w o K:=by
 simp only [pOp,ho] at hp
 split at hp
 ·rename_i i hi
  have ti:=tis hT hi
  split at hp
  ·rename_i e hk
   split at hp
   ·rename_i ei hei
    have te:=tis hT hei
    obtain ⟨inf,z,i1,i2,i3,i4,i5⟩:=te.ex
    split at hp
    ·rename_i n hn
     split at hp
     ·rename_i m hm
      obtain ⟨⟨h0,h1,h2⟩,hp⟩:=hp
      have hl:=(opnd_VC inv.rel l);rw [hn] at hl
      have hc:=(opnd_VC inv.rel c);rw [hm] at hc
      have hl:=hl.int
      have hc:=hc.int
      have hb0:=te.bpos
      have hm63:m≤140737488355328:=by
       have:m*1≤m*ei.bytes:=Int.mul_le_mul_of_nonneg_left (by omega) (by omega)
       omega
      have hrun:=run_make (P:=P) w T e inf z (ti.slice hk) i1 i4 .i64 .i64 n m h0 h1 (by rw [i3,Int.mul_comm];omega) (by omega)
      obtain ⟨k1,k2,k3⟩:=made_VL (g:=g) (w:=w) i5 te.len te.pos n.toNat (zz:=z.cells) (fun _=>rfl) (m:=m.toNat) (by omega)
      intro next Q' hnx
      split at hp
      ·obtain ⟨y1,y2,y3⟩:=made_VL (g:=g) (w:=w) i5 te.len te.pos m.toNat (zz:=z.cells) (fun _=>rfl) (m:=m.toNat) (zqn _)
       have hpo:=post_obj (T:=e) inv hq (Pushes.alloc w (.cells (madeCells z.cells (m.toNat*ei.sz)) e (0,0))) (by rw [y1,y2]) y3
       refine wp_value ?_ (hnx _ _ _ _ _ _ _ _ (Post.ofV hpo.inv (.sref H.length w.heap.size 0 n.toNat m.toNat (by rw [←inv.rel.h.len];simp) (by omega) hpo.ptrKind) hpo.qr) hp)
       simp only [execOp,ho,hl,hc,Sem.run_bind,hrun,i2]
       rfl
      refine wp_value ?_ (hnx _ _ _ _ _ _ _ _ (post_own (e:=e) inv hq (Pushes.alloc w _) k3 (cap:=m.toNat) (by omega) (by rw [te.psize];exact te.pos) (by rw [te.psize];exact k2) (by rw [te.psize];exact k1)) hp)
      simp only [execOp,ho,hl,hc,Sem.run_bind,hrun,i2]
      rfl
     ·exact hp.elim
    ·exact hp.elim
   ·exact hp.elim
  ·exact hp.elim
 ·exact hp.elim
theorem op_buildSlice {T n:Nat} {ps:Array (Nat×Operand)} {o:Oper} {K:KK} (hT:ttOk P tt=true) (ho:o.op=.buildSlice T n ps) (inv:Inv P g0 w0 H0 F0 N g w a E H) (hq:QRel a g w q) (hp:pOp P tt imm E q H o K) :
  OpS P g0 w0 H0 F0 N a w o K:=by
 simp only [pOp,ho] at hp
 split at hp
 ·rename_i i hi
  have ti:=tis hT hi
  split at hp
  ·rename_i e hk
   split at hp
   ·rename_i ei hei
    have te:=tis hT hei
    unfold isLe at hp
    split at hp
    ·rename_i hle
     have hle:n*ei.sz≤16777216:=zqh hle
     obtain ⟨z,z1,z2,z3⟩:=te.run_zero w
     obtain ⟨k1,k2,k3⟩:=made_VL (g:=g) (w:=w) z2 te.len te.pos n (zz:=if n*ei.sz=0 then #[] else z.cells) (fun h=>by
      rw [zqo];exact Nat.ne_of_gt (Nat.mul_pos h te.pos)) (m:=n) (zqn _)
     obtain ⟨cells,cs,c1,c2,c3,c4⟩:=fill_ok inv.rel (place:=fun i=>some (i*ei.sz,ei.sz)) (fun k r hkr=>by
      split at hkr
      ·exact hkr
      ·cases hkr) ps.toList _ _ ⟨by rw [k1,k2],k3⟩ hp
     intro next Q' hnx
     have hcs:cs.length=n*ei.sz:=by rw [c3,k2]
     split at c4
     ·have hpo:=post_obj (T:=e) inv hq (Pushes.alloc w (.cells cells e (0,0))) c2.1 c2.2
      refine wp_value ?_ (hnx _ _ _ _ _ _ _ _ (Post.ofV hpo.inv (.sref H.length w.heap.size 0 n n (by rw [←inv.rel.h.len];simp) (zqn _) hpo.ptrKind) hpo.qr) c4)
      have hmap:(ps.map fun p=>(p.1,a.eval p.2)).toList=ps.toList.map fun p=>(p.1,a.eval p.2):=by simp
      have hmap2:(ps.map fun (x:Nat×Operand)=>match x with | (i,x)=>(i,a.eval x))=ps.map fun p=>(p.1,a.eval p.2):=rfl
      have hgt:¬(n*ei.sz > 2 ^ 24):=by omega
      simp only [execOp,ho,hmap2]
      unfold Instr.buildSlice
      simp only [Sem.run_bind,run_underlying (ti.slice hk),te.run_sizeOf,Result.andThen_ok,hgt,if_false]
      by_cases h0:n*ei.sz=0
      ·rw [zqp h0] at c1
       simp only [h0,if_true,hmap] at c1 ⊢
       simp [madeCells,Array.range_zero'] at c1
       simp [c1,newRow,Array.range_zero']
      ·rw [zqo h0] at c1
       simp only [h0,if_false,hmap,z1,Sem.run_bind,Result.andThen_ok,madeCells] at c1 ⊢
       simp [c1,newRow,z1]
     ·refine wp_value ?_ (hnx _ _ _ _ _ _ _ _ (post_own (e:=e) inv hq (Pushes.alloc w (.cells cells e (0,0))) c2.2 (n:=n) (cap:=n) (zqn _) (by rw [te.psize];exact te.pos) (by rw [te.psize];exact hcs) (by rw [te.psize,c2.1];exact hcs)) c4)
      have hmap:(ps.map fun p=>(p.1,a.eval p.2)).toList=ps.toList.map fun p=>(p.1,a.eval p.2):=by simp
      have hmap2:(ps.map fun (x:Nat×Operand)=>match x with | (i,x)=>(i,a.eval x))=ps.map fun p=>(p.1,a.eval p.2):=rfl
      have hgt:¬(n*ei.sz > 2 ^ 24):=by omega
      simp only [execOp,ho,hmap2]
      unfold Instr.buildSlice
      simp only [Sem.run_bind,run_underlying (ti.slice hk),te.run_sizeOf,Result.andThen_ok,hgt,if_false]
      by_cases h0:n*ei.sz=0
      ·rw [zqp h0] at c1
       simp only [h0,if_true,hmap] at c1 ⊢
       simp [madeCells,Array.range_zero'] at c1
       simp [c1,newRow,Array.range_zero']
      ·rw [zqo h0] at c1
       simp only [h0,if_false,hmap,z1,Sem.run_bind,Result.andThen_ok,madeCells] at c1 ⊢
       simp [c1,newRow,z1]
    ·exact hp.elim
   ·exact hp.elim
  ·exact hp.elim
 ·exact hp.elim
/-! ### stores -/
theorem V.one {v:Value} {p:PV} (h:V g w v p) (hp:oneP p=true):v.oneCell'=true:=by
 cases h <;> first | rfl | cases hp
theorem writes_setRow {b:Nat} {old cs:Array Value} {t:Nat} {fr:Nat×Nat} (h:w.heap[b]? = some (.cells old t fr)):Writes w (w.setRow b cs) b (.cells cs t fr) :=
 ⟨setRow_heap w b old cs t fr h,fun b' hb=>setRow_other w b b' cs hb,setRow_size w b cs,rfl,rfl,rfl⟩
theorem Inv.put_at (inv:Inv P g0 w0 H0 F0 N g w a E H) {id b off:Nat} {ob:PObj} {ds:List PV} {us:Array Value} (hid:H[id]? = some ob) (hi:g.ι[id]? = some (some b)) (hkd:kindAt w b=1)
  (hl:off+ds.length≤ob.cs.length) (hs:us.size=ds.length) (hu:∀(j:Nat) (c:PV),ds[j]? = some c→∃v,us[j]? = some v∧VH P g w v c)
  (hown:∀(j:Nat) (c:PV) (v:Value) (bb:Nat),ds[j]? = some c→isOwn c=true→us[j]? = some v→blk v=some bb →
   j=0∧(∀t i,¬ownAt (vals a t) (E.get t) i bb)∧¬cellOwn g w H bb∧(w0.heap.size≤bb∨F0 bb))
  (h1:∀v∈us,v.oneCell'=true) :
  ∃w1,(storeCells ⟨b,off,none⟩ us.toList).run P w=.ok () w1∧Inv P g0 w0 H0 F0 N g w1 a E (setH id ob (setCells off ds ob.cs) H)∧kindAt w1 b=1:=by
 obtain ⟨vs,k1,k2,k3⟩:=inv.rel.h.obj id b ob hid hi hkd
 have hlen:us.toList.length=ds.length:=by rw [Array.length_toList];exact hs
 have hst:=run_storeCells_at P b off ob.T us.toList 0 vs w k1 (by rw [hlen];simp only [Nat.add_zero];omega) (fun v hv=>h1 v (by simpa using hv))
 simp only [Nat.add_zero,hlen] at hst
 refine ⟨_,hst,?_,kindAt_cells (writes_setRow k1).here⟩
 have hgetv:∀(j:Nat),(vs.toList.take off++us.toList++vs.toList.drop (off+ds.length)).toArray[j]? = if off≤j∧j<off+ds.length then us[j - off]? else vs[j]?:=fun j=>by
  have ht:(vs.toList.take off).length=off:=by rw [zqr,Array.length_toList];omega
  rw [List.getElem?_toArray]
  rcases Nat.lt_or_ge j off with h1 | h1
  ·rw [zqo (by omega),List.append_assoc,zq2 (by omega),zqs,zqp h1,Array.getElem?_toList]
  ·rcases Nat.lt_or_ge j (off+ds.length) with h2 | h2
   ·rw [zqp ⟨h1,h2⟩,zq2 (by simp [ht,hs];omega),zqi (by omega),ht,Array.getElem?_toList]
   ·rw [zqo (by omega),zqi (by simp [ht,hs];omega),zqt,←Array.getElem?_toList]
    congr 1
    simp [ht,hs];omega
 have hgetc:=setCells_get off ds ob.cs hl
 refine inv.store hid hi hkd (writes_setRow k1) ?_ (fun j c hj=>?_) off (fun j c v bb hj ho hv hb=>?_)
 ·rw [setCells_length off ds ob.cs hl]
  simp [hs];omega
 ·rw [hgetc] at hj
  rw [hgetv]
  split at hj
  ·rename_i hc;rw [zqp hc];exact hu _ _ hj
  ·rename_i hc;rw [zqo hc];exact k3 _ _ hj
 ·rw [hgetc] at hj
  rw [hgetv] at hv
  split at hj
  ·rename_i hc
   rw [zqp hc] at hv
   obtain ⟨z1,z2⟩:=hown _ c v bb hj ho hv hb
   exact .inr ⟨by omega,z2⟩
  ·rename_i hc
   rw [zqo hc] at hv
   exact .inl ⟨ob,c,b,v,hid,hj,ho,hi,by rw [cell?_cells k1];exact hv,hb⟩
theorem run_storeAt {T:Nat} {i:TI} (hT:TIs P T i) {b off:Nat} {v:Value} (hs:v.cells.size=i.sz) {w1:World} (h:(storeCells ⟨b,off,none⟩ v.cells.toList).run P w=.ok () w1) :
  (Instr.storeAt T (.pointer (some ⟨b,off,none⟩)) v).run P w=.ok () w1:=by
 simp [Instr.storeAt,Instr.sureAddr,storeVar,hT.run_sizeOf,hs,h]
theorem op_store {T:Nat} {x y:Operand} {o:Oper} {K:KK} (hT:ttOk P tt=true) (ho:o.op=.store T x y) (inv:Inv P g0 w0 H0 F0 N g w a E H) (hq:QRel a g w q) (hp:pOp P tt imm E q H o K) :
  OpS P g0 w0 H0 F0 N a w o K:=by
 simp only [pOp,ho] at hp
 split at hp
 ·rename_i i hi
  have ti:=tis hT hi
  split at hp
  ·rename_i id off hx
   have hvx:=(opnd_V inv hx (by simp) rfl)
   obtain ⟨b,e1,e2,hkd⟩:=hvx.inv_ptr
   split at hp
   ·rename_i ob hob
    split at hp
    ·rename_i hle
     have hle:off+i.sz≤ob.cs.length:=zqh hle
     split at hp
     ·rename_i n cs e hy
      split at hp
      ·rename_i s
       have hy:E.get s=.slice n cs (some e):=hy
       have hv:=inv.rel.e s
       rw [hy] at hv
       have hv:VH P g w (vals a s) (.slice n cs (some e)):=hv
       have hns:(vals a s).cells=#[vals a s]∧(vals a s).oneCell'=true:=by
        rcases hv with h | ⟨n',cs',e',b',_,_,hf⟩
        ·obtain ⟨h,_⟩:=h.own_nil;rw [h];exact ⟨rfl,rfl⟩
        ·obtain ⟨cap,vs,h,_⟩:=hf.ex;rw [h];exact ⟨rfl,rfl⟩
       have inv':=inv.demote hy
       have hgs:∀t,Env.get ((s,PV.slice n cs none)::E) t=if t=s then .slice n cs none else E.get t:=fun t=>by
        rw [Env.get_cons];by_cases h:s=t
        ·subst h;simp
        ·rw [zqo h,zqo (Ne.symm h)]
       have hl1:off+1≤ob.cs.length:=by have:=ti.pos;omega
       obtain ⟨w1,h1,h2,_⟩:=inv'.put_at (ds:=[.slice n cs (some e)]) (us:=#[vals a s]) hob e2 hkd hl1 rfl (fun j c hj=>by
         cases j with
         | zero=>simp at hj;subst hj;exact ⟨_,rfl,hv⟩
         | succ j=>simp at hj)
        (fun j c v bb hj ho hv' hbb=>by
         cases j with
         | succ j=>simp at hj
         | zero =>
          have hv':some (vals a s)=some v:=hv'
          cases hv'
          have hat:ownAt (vals a s) (E.get s) 0 bb:=by rw [hy];exact ⟨rfl,rfl,hbb⟩
          refine ⟨rfl,fun t i ht=>?_,inv.rel.sc _ _ _ hat,inv.own _ _ _ hat⟩
          rw [hgs] at ht
          by_cases ets:t=s
          ·subst ets;rw [zqp rfl] at ht;cases ht.2.1
          ·rw [zqo ets] at ht
           exact ets (inv.rel.ss t i s 0 bb ht hat).1) (fun v hv=>by rw [Array.mem_singleton.1 hv];exact hns.2)
       intro next Q' hnx
       rw [←hns.1] at h1
       split at hp
       ·rename_i hsz
        have hsz:=zqg hsz
        refine wp_skip ?_ (hnx _ _ _ _ _ _ _ _ (Post.ofV h2 (.undef _) ((hq.del s).slots)) hp)
        simp only [execOp,ho,e1]
        rw [show a.eval (.tmp s)=vals a s from rfl,Sem.run_bind,run_storeAt ti (by rw [hns.1,hsz];rfl) h1]
        rfl
       ·exact hp.elim
      ·exact hp.elim
     ·rename_i hno
      obtain ⟨hu,hp⟩:=frcd_eq hp
      split at hp
      ·rename_i hb
       have hb:=zqg hb
       split at hp
       ·rename_i hone
        have hy:=(opnd_VC inv.rel y).dem
        obtain ⟨c1,c2⟩:=cellsOf_V hy hu
        obtain ⟨w1,h1,h2,_⟩:=inv.put_at (ds:=cellsOf (dem (opnd E y))) (us:=(a.eval y).cells) hob e2 hkd (by rw [hb];exact hle) c1 (fun j c hj=>by
          obtain ⟨v,k1,k2⟩:=c2 j c hj;exact ⟨v,k1,.inl k2⟩) (fun j c v bb hj ho hv hbb=>by
          obtain ⟨v',k1,k2⟩:=c2 j c hj
          rw [hv] at k1;cases k1
          rw [k2.own_blk ho] at hbb;cases hbb) (fun v hv=>by
          obtain ⟨j,hj,hv⟩:=Array.mem_iff_getElem.1 hv
          have hl:j<(cellsOf (dem (opnd E y))).length:=by rw [←c1];exact hj
          obtain ⟨v',k1,k2⟩:=c2 j _ (zqc hl)
          rw [Array.getElem?_eq_getElem hj,hv] at k1;cases k1
          exact k2.one (List.all_eq_true.1 hone _ (List.getElem_mem hl)))
        intro next Q' hnx
        refine wp_skip ?_ (hnx _ _ _ _ _ _ _ _ (Post.ofV h2 (.undef _) hq.slots) hp)
        simp only [execOp,ho,e1]
        rw [Sem.run_bind,run_storeAt ti (by rw [c1];exact hb) h1]
        rfl
       ·exact hp.elim
      ·exact hp.elim
    ·exact hp.elim
   ·exact hp.elim
  ·exact hp.elim
 ·exact hp.elim
end
end Ps
/- PSem, part 13: conversions; append. -/
namespace Ps
open Go
section
variable {P : Program} {tt : TT} {imm : List Nat} {g0 : Gh} {w0 : World} {H0 : PH} {F0 : Nat → Prop} {N : Nat} {g : Gh} {w : World} {a : Act} {E : Env} {H : PH} {q : Q}
theorem V.inv_byte {v:Value} {b:UInt8} (h:V g w v (bC b)):v=.int .u8 (b.toNat:Int):=by
 cases h;rfl
theorem VH.vc' {v:Value} {b:UInt8} (h:VH P g w v (bC b)):VC P g w v (bC b):=h
theorem op_convert {T U:Nat} {x:Operand} {o:Oper} {K:KK} (hT:ttOk P tt=true) (ho:o.op=.convert T U x) (inv:Inv P g0 w0 H0 F0 N g w a E H) (hq:QRel a g w q) (hp:pConv tt H T U (opnd E x) fun v=>K v none E q H) :
  OpS P g0 w0 H0 F0 N a w o K:=by
 simp only [pConv] at hp
 have hx:=opnd_VC inv.rel x
 split at hp
 ·rename_i i hi
  have ti:=tis hT hi
  split at hp
  ·rename_i k hk
   split at hp
   ·rename_i k' n hn
    split at hp
    ·rename_i l hl
     split at hp
     ·rename_i k2 hk2
      rw [hn] at hx
      exact OpS.val inv hq (v:=.int k (k.wrap n)) (by simp [execOp,ho,hx.int,convert,run_underlying ((tis hT hl).int hk2),run_underlying (ti.int hk),Conv.intToInt]) (.int _ _) hp
     ·exact hp.elim
    ·exact hp.elim
   ·exact hp.elim
  ·rename_i e hk
   split at hp
   ·rename_i j hj
    split at hp
    ·rename_i hjk
     split at hp
     ·rename_i l hl
      split at hp
      ·rename_i hlk
       split at hp
       ·rename_i s hs
        obtain ⟨hlen,hp⟩:=hp
        rw [hs] at hx
        have hx:=hx.str
        have hrun:=run_bytes_of_string (P:=P) w T U e ⟨s.toArray⟩ ((tis hT hl).str hlk) (ti.slice hk) ((tis hT hj).int hjk)
        have hsz:(⟨s.toArray⟩:ByteArray).size=s.length:=by simp [ByteArray.size]
        rw [hsz] at hrun
        intro next Q' hnx
        refine wp_value ?_ (hnx _ _ _ _ _ _ _ _ (post_imm (w1:=w.drew.alloc (.cells (bytesRow ⟨s.toArray⟩ (grownCap w s.length 0 e)) e ((bytesRow ⟨s.toArray⟩ (grownCap w s.length 0 e)).size,(bytesRow ⟨s.toArray⟩ (grownCap w s.length 0 e)).size+1)))
         inv hq ⟨rfl,rfl,rfl,rfl⟩ (cs:=s.map bC) ?_ ?_ (p:=.slice s.length (s.map bC) none) (v:=.slice (some ⟨w.heap.size,0,none⟩) s.length (grownCap w s.length 0 e)) (fun h=>h.vslice (grownCap_ge _ _ _ _))) hp)
        ·simp only [execOp,ho,hx]
         rw [Sem.run_bind]
         unfold strV
         rw [hrun]
         rfl
        ·simp [bytesRow]
        ·intro j c hj
         simp only [List.getElem?_map,Option.map_eq_some_iff] at hj
         obtain ⟨b,hb,rfl⟩:=hj
         refine ⟨.int .u8 (b.toNat:Int),?_,.int _ _⟩
         have hlt:=(zq1.1 hb).1
         simp [bytesRow,Array.getElem?_append,hlt]
         rw [zqc hlt] at hb
         cases hb;rfl
       ·exact hp.elim
      ·exact hp.elim
     ·exact hp.elim
    ·exact hp.elim
   ·exact hp.elim
  ·rename_i hk
   split at hp
   ·rename_i l hl
    split at hp
    ·rename_i hlk
     split at hp
     ·rename_i s hs
      rw [hs] at hx
      exact OpS.val inv hq (v:=strV s) (by simp [execOp,ho,hx.str,strV,convert,run_underlying ((tis hT hl).str hlk),run_underlying (ti.str hk)]) (.str _) hp
     ·exact hp.elim
    ·rename_i e hlk
     split at hp
     ·rename_i j hj
      split at hp
      ·rename_i hjk
       split at hp
       ·rename_i n cs ow hs
        obtain ⟨s,⟨hc,hn⟩,hp⟩:=hp
        rw [hs] at hx
        have hx:=hx.slice
        subst hc hn
        rcases hx.inv_slice with ⟨e1,e2,e3⟩ | ⟨b,off,cap,e1,e2,u,hI,hV⟩
        ·have:s=[]:=List.length_eq_zero_iff.1 e2
         subst this
         refine OpS.val inv hq (v:=strV []) ?_ (.str _) hp
         simp only [execOp,ho,e1]
         rw [Sem.run_bind,run_convert_bytes_nil w T e ((tis hT hl).slice hlk) ((tis hT hj).int hjk) 0 0 U (ti.str hk)]
         rfl
        ·refine OpS.val inv hq (v:=strV s) ?_ (.str _) hp
         simp only [execOp,ho,e1]
         rw [Sem.run_bind,run_convert_bytes_back w T U e ⟨b,off,none⟩ cap s ((tis hT hl).slice hlk) ((tis hT hj).int hjk) (ti.str hk) (fun j hj=>by
          have hg:(s.map bC)[j]? = some (bC s[j]):=by simp [hj]
          rw [Addr.add_plain,(hI j _ hg).2,(hV j _ hg).inv_byte])]
         rfl
       ·rename_i id off n cap hs
        rw [hs] at hx
        obtain ⟨b,e1,hib,hle,hkd⟩:=(plain_of hx (by simp) (by simp)).inv_sref
        split at hp
        ·rename_i ob hob
         obtain ⟨s,⟨hc,hn⟩,hp⟩:=hp
         subst hn
         obtain ⟨vs,k1,k2,k3⟩:=inv.rel.h.obj id b ob hob hib hkd
         refine OpS.val inv hq (v:=strV s) ?_ (.str _) hp
         simp only [execOp,ho,e1]
         rw [Sem.run_bind,run_convert_bytes_back w T U e ⟨b,off,none⟩ cap s ((tis hT hl).slice hlk) ((tis hT hj).int hjk) (ti.str hk) (fun j hj=>by
          have hg:(s.map bC)[j]? = some (bC s[j]):=by simp [hj]
          rw [←hc,zqs,zqp hj,zqt] at hg
          obtain ⟨v,y1,y2⟩:=k3 _ _ hg
          have y2:VC P g w v (bC s[j]):=y2.vc'
          rw [Addr.add_plain,cell?_cells k1,y1,y2.int])]
         rfl
        ·exact hp.elim
       ·rename_i id off n hs
        rw [hs] at hx
        obtain ⟨b,cap,e1,hib,hle,hkd⟩:=(plain_of hx (by simp) (by simp)).inv_rref
        split at hp
        ·rename_i ob hob
         obtain ⟨s,⟨hc,hn⟩,hp⟩:=hp
         subst hn
         obtain ⟨vs,k1,k2,k3⟩:=inv.rel.h.obj id b ob hob hib hkd
         refine OpS.val inv hq (v:=strV s) ?_ (.str _) hp
         simp only [execOp,ho,e1]
         rw [Sem.run_bind,run_convert_bytes_back w T U e ⟨b,off,none⟩ cap s ((tis hT hl).slice hlk) ((tis hT hj).int hjk) (ti.str hk) (fun j hj=>by
          have hg:(s.map bC)[j]? = some (bC s[j]):=by simp [hj]
          rw [←hc,zqs,zqp hj,zqt] at hg
          obtain ⟨v,y1,y2⟩:=k3 _ _ hg
          have y2:VC P g w v (bC s[j]):=y2.vc'
          rw [Addr.add_plain,cell?_cells k1,y1,y2.int])]
         rfl
        ·exact hp.elim
       ·exact hp.elim
      ·exact hp.elim
     ·exact hp.elim
    ·exact hp.elim
   ·exact hp.elim
  ·exact hp.elim
 ·exact hp.elim
end
end Ps
