import Derived.Test.YtekfgclbjenocaaGreatDoorA2
import Derived.Test.YtekfgclbjenocaaGreatDoorProg
import Derived.Test.YtekfgclbjenocaaGreatDoorA1
set_option linter.all false
/- CEval, part 8: code, functions, calls. -/
namespace Ps
open Go
noncomputable section
/-! ### a drawn region -/
def findFs (call:Nat→List PV→CH→CC) (tg:TG) (imm:List Nat) (ops:List Oper) (lf:List (Nat×Nat)):Nat→Nat→List Oper→CE→CH→List (Nat×Nat×Src)
 | _,0,_,_,_=>[]
 | _,_,[],_,_=>[]
 | i,m+1,o::rest,e,h=>match cOp call tg imm e [] h o with
  | .ok v s e' _ ho=>match o.dst with
   | some d=>(match s with
    | some s=>match getO lf i with
     | some j=>(i,j,s)::findFs call tg imm ops lf (Nat.succ i) m rest (e'.set v d) (ho.getD h)
     | none=>findFs call tg imm ops lf (Nat.succ i) m rest (e'.set v d) (ho.getD h)
    | none=>findFs call tg imm ops lf (Nat.succ i) m rest (e'.set v d) (ho.getD h))
   | none=>findFs call tg imm ops lf (Nat.succ i) m rest e' (ho.getD h)
  | .err _=>findFs call tg imm ops lf (Nat.succ i) m rest e h
def lastOf:List (Nat×Nat)→Nat
 | []=>0
 | (j,_)::r=>Nat.max (Nat.succ j) (lastOf r)
def zobjs (tg:TG):List Nat→Option (List PObj)
 | []=>some []
 | T::r=>match tg.get T with
  | some i=>match zobjs tg r with
   | some l=>some (⟨T,i.zero,0⟩::l)
   | none=>none
  | none=>none
def pushes (h:CH):List PObj→CH
 | []=>h
 | o::r=>pushes (h.push o) r
theorem pushes_ok:∀{l:List PObj} {H:PH} {h:CH},RH H h→RH (H++l) (pushes h l)
 | [],H,h,r=>by simpa [pushes] using r
 | o::l,H,h,r=>by
  have:=pushes_ok (l:=l) (r.push o)
  rw [List.append_assoc] at this
  exact this
theorem zobjs_len {tg:TG}:∀{l:List Nat} {r:List PObj},zobjs tg l=some r→r.length=l.length
 | [],r,h=>by cases h;rfl
 | T::l,r,h=>by
  unfold zobjs at h
  split at h
  ·split at h
   ·rename_i hl
    cases h;simp [zobjs_len hl]
   ·cases h
  ·cases h
def fsFit:List (Nat×Nat×Src)→List (Nat×Nat)→Bool
 | [],_=>true
 | _::_,[]=>false
 | (j,i,s)::r,(j',i')::l=>match (match Nat.beq j j' with | true=>Nat.beq i i' | false=>false) with
  | true=>match s with
   | .cell _ _=>fsFit r l
   | .slot _=>false
  | false=>fsFit ((j,i,s)::r) l
def verAt (id:Nat) (h:CH):Option Nat:=match h.get id with
 | some o=>some o.ver
 | none=>none
def sameVB (hs:List CH) (id:Nat):Nat→Nat→Bool
 | _,0=>true
 | k,m+1=>match nth hs k with
  | some a=>match nth hs (Nat.succ k) with
   | some b=>match verAt id a with
    | some x=>match verAt id b with
     | some y=>match Nat.beq y x with
      | true=>sameVB hs id (Nat.succ k) m
      | false=>false
     | none=>false
    | none=>false
   | none=>false
  | none=>false
def versB (D:Draw) (hs:List CH):List (Nat×Nat×Src)→Bool
 | []=>true
 | (j,i,s)::r=>match (match s with
   | .cell id _=>sameVB hs id (D.winOf j).1 (Nat.sub (D.winOf i).2 (D.winOf j).1)
   | .slot _=>true) with
  | true=>versB D hs r
  | false=>false
theorem sameVB_ok {hs:List CH} {Hs:List PH} (hr:∀(j:Nat) (h:CH),hs[j]? = some h→RH (hk Hs j) h) {id:Nat}:∀(m k:Nat),sameVB hs id k m=true→∀j,k≤j→j<k+m→sameVer id (hk Hs j) (hk Hs (j+1))
 | 0,k,_,j,h1,h2=>by omega
 | m+1,k,h,j,h1,h2=>by
  unfold sameVB at h
  split at h
  ·rename_i a ha
   split at h
   ·rename_i b hb
    split at h
    ·rename_i x hx
     split at h
     ·rename_i y hy
      split at h
      ·rename_i hxy
       rw [nth_eq] at ha hb
       by_cases e:j=k
       ·subst e
        unfold verAt at hx hy
        split at hx
        ·rename_i o ho
         split at hy
         ·rename_i o' ho'
          replace ho:=(hr _ _ ha).look ho
          replace ho':=(hr _ _ hb).look ho'
          cases hx;cases hy
          exact ⟨o,o',ho,ho',zqg hxy⟩
         ·cases hy
        ·cases hx
       ·exact sameVB_ok hr m (k+1) h j (by omega) (by omega)
      ·cases h
     ·cases h
    ·cases h
   ·cases h
  ·cases h
theorem versB_ok {D:Draw} {hs:List CH} {Hs:List PH} (hr:∀(j:Nat) (h:CH),hs[j]? = some h→RH (hk Hs j) h):∀(l:List (Nat×Nat×Src)),versB D hs l=true→pVers D Hs l
 | [],_=>trivial
 | (j,i,s)::r,h=>by
  unfold versB at h
  split at h
  ·rename_i h1
   refine ⟨?_,versB_ok hr r h⟩
   cases s with
   | slot t=>trivial
   | cell id off =>
    intro k a b
    have h1:sameVB hs id (D.winOf j).1 ((D.winOf i).2 - (D.winOf j).1)=true:=h1
    exact sameVB_ok hr _ _ h1 k a (by omega)
  ·cases h
def ownAll (e:CE):List (Nat×Nat×Nat)→Bool
 | []=>true
 | (_,_,s)::r=>match ceGet e s with
  | .slice _ _ (some _)=>ownAll e r
  | _=>false
def cDraw (call:Nat→List PV→CH→CC) (tg:TG) (imm:List Nat) (ops:List Oper) (d:DT) (e:CE) (h:CH):CR:=match zobjs tg d.robs with
 | some zs=>fL (match d.lf with | []=>[] | lf=>findFs call tg imm ops lf 0 (lastOf lf) ops e h) fun fs=>fB (ownAll e d.ls) fun b=>match fsFit fs d.lf with
  | true=>match cDr call tg imm ops (d.draw b fs zs h.n) 0 ops e [pushes h zs] 0 (pushes h zs) with
   | .ok e' tail=>match Nat.beq tail.length d.cnt with
    | true=>match versB (d.draw b fs zs h.n) (pushes h zs::tail) (d.draw b fs zs h.n).fs with
     | true=>match nth (pushes h zs::tail) d.cnt with
      | some h'=>.ok e' h'
      | none=>.err 601
     | false=>.err 602
    | false=>.err 603
   | .err n=>.err n
  | false=>.err 604
 | none=>.err 690
def dtOk (N:Nat) (ops:List Oper) (d:DT):Bool :=
 drawOk N ops (d.draw true (d.lf.map fun p=>(p.1,p.2,.cell 0 0)) (d.robs.map fun T=>⟨T,[],0⟩) 0)&&drawOk N ops (d.draw false (d.lf.map fun p=>(p.1,p.2,.cell 0 0)) (d.robs.map fun T=>⟨T,[],0⟩) 0)&&Nat.beq (cnt (fun i=>d.imp.contains i) ops.length) d.cnt
theorem fsFit_map {n:Nat} {ops:List Oper} {A:List (List Bool)}:∀{l:List (Nat×Nat)} {fs:List (Nat×Nat×Src)},fsFit fs l=true→(l.map fun p=>((p.1,p.2,.cell 0 0):Nat×Nat×Src)).all (fsOk n ops A)=true→fs.all (fsOk n ops A)=true
 | _,[],_,_=>rfl
 | [],(j,i,s)::r,h,hl=>by simp [fsFit] at h
 | (j',i')::l,(j,i,s)::r,h,hl=>by
  unfold fsFit at h
  simp only [List.map_cons,List.all_cons,zqb] at hl
  split at h
  ·rename_i h0
   split at h0
   ·rename_i h1
    have h1:=zqg h1
    have h2:=zqg h0
    subst h1;subst h2
    split at h
    ·simp only [List.all_cons,zqb]
     exact ⟨hl.1,fsFit_map h hl.2⟩
    ·cases h
   ·cases h0
  ·exact fsFit_map h hl.2
section
variable {P : Program} {tt : TT} {call : Nat → List PV → CH → CC} {tg : TG} {imm : List Nat} {N : Nat} {ops : List Oper}
theorem dtOk_draw {d:DT} (h:dtOk N ops d=true) (bb:Bool) {fs:List (Nat×Nat×Src)} {zs:List PObj} {b:Nat} (hf:fsFit fs d.lf=true) (hz:zs.length=d.robs.length):drawOk N ops (d.draw bb fs zs b)=true:=by
 unfold dtOk at h
 simp only [zqb] at h
 have h:drawOk N ops (d.draw bb (d.lf.map fun p=>(p.1,p.2,.cell 0 0)) (d.robs.map fun T=>⟨T,[],0⟩) 0)=true:=by
  cases bb
  ·exact h.1.2
  ·exact h.1.1
 unfold drawOk at h ⊢
 simp only [zqb] at h ⊢
 obtain ⟨⟨h1,h2⟩,h3⟩:=h
 refine ⟨⟨h1,?_⟩,?_⟩
 ·simp only [DT.draw,List.all_append,zqb] at h2 ⊢
  exact ⟨h2.1,fsFit_map hf h2.2⟩
 ·unfold resOk at h3 ⊢
  rw [List.all_eq_true] at h3 ⊢
  intro p hp
  have:=h3 p hp
  simp only [DT.draw,zqq] at this ⊢
  rw [hz];exact this
theorem cDraw_ok (ht:TGok tg tt) (hc:CallS P call) {d:DT} (hd:dtOk N ops d=true) {e e':CE} {h h':CH} (hr:cDraw call tg imm ops d e h=.ok e' h') {E:Env} {H:PH} (re:RE E e) (rh:RH H h) {K:Env→PH→Prop}
  (hk':∀E' H',RE E' e'→RH H' h'→K E' H'):drawK P tt imm N ops E H K:=by
 unfold cDraw at hr
 split at hr
 ·rename_i zs hzs
  rw [fL_eq,fB_eq] at hr
  generalize ownAll e d.ls=b at hr
  generalize hfs:(match d.lf with | []=>[] | lf=>findFs call tg imm ops lf 0 (lastOf lf) ops e h)=fs at hr
  split at hr
  ·rename_i hfit
   split at hr
   ·rename_i e1 tail hdr
    split at hr
    ·rename_i hcn
     split at hr
     ·rename_i hv
      split at hr
      ·rename_i h1 hn
       cases hr
       have hcn:=zqg hcn
       have hpz:=pushes_ok (l:=zs) rh
       have hall:∀(j:Nat) (x:CH),(pushes h zs::tail)[j]? = some x→RH (hk ((H++zs)::tail.map CH.ph) j) x:=fun j x hx=>by
        cases j with
        | zero=>simp at hx;subst hx;exact hpz
        | succ j=>simp at hx;simp [hk,hx];rfl
       have hcnt:cnt (d.draw b fs zs h.n).isImp ops.length=d.cnt:=by
        unfold dtOk at hd
        simp only [zqb] at hd
        exact zqg hd.2
       refine drawK_of (d.draw b fs zs h.n) ((H++zs)::tail.map CH.ph) (dtOk_draw hd b hfit (zobjs_len hzs)) ?_ (versB_ok hall _ hv) ?_
       ·unfold startOk
        cases zs with
        | nil=>simp [DT.draw,hk]
        | cons z zs=>exact ⟨rfl,rh.len.symm⟩
       ·refine cDr_ok ht hc ops 0 e [pushes h zs] 0 (pushes h zs) _ tail E _ hdr rfl rfl hall re fun E' re'=>?_
        rw [hcnt]
        rw [nth_eq] at hn
        exact hk' _ _ re' (hall _ _ hn)
      ·cases hr
     ·cases hr
    ·cases hr
   ·cases hr
  ·cases hr
 ·cases hr
end
end
end Ps
/- CEval, part 9: code, functions, calls. -/
namespace Ps
open Go
noncomputable section
inductive CX where
 | ok (x:Ex) (e:CE) (h:CH)
 | err (n:Nat)
def getD {α:Type}:List (Nat×α)→Nat→Option α
 | [],_=>none
 | (a,x)::r,i=>match Nat.beq a i with
  | true=>some x
  | false=>getD r i
def tagN (m k n:Nat):Nat:=match Nat.blt n m with
 | true=>Nat.add (Nat.mul m k) n
 | false=>n
section
variable (call : Nat → List PV → CH → CC) (tg : TG) (imm : List Nat) (N : Nat) (dts : List (Nat × DT))
def cCode:Nat→Code→CE→CH→CX
 | 0,_,_,_=>.err 701
 | n+1,c,e,h=>match c with
  | .skip=>.ok .normal e h
  | .ret=>.ok .ret e h
  | .exit i=>.ok (.exit i) e h
  | .region r ops draw=>match draw with
   | false=>match cOps call tg imm N ops.toList ops.toList e [] h with
    | .ok e h=>.ok .normal e h
    | .err m=>.err (tagN 1000 r m)
   | true=>match getD dts r with
    | some d=>match cDraw call tg imm ops.toList d e h with
     | .ok e h=>.ok .normal e h
     | .err m=>.err (tagN 1000 r m)
    | none=>.err (tagN 1000 r 702)
  | .seq a b=>match cCode n a e h with
   | .ok x e h=>match x with
    | .normal=>cCode n b e h
    | .ret=>.ok .ret e h
    | .exit i=>.ok (.exit i) e h
   | .err m=>.err m
  | .cond c a b=>match cOpnd e c with
   | .bool t=>match t with
    | true=>cCode n a e h
    | false=>cCode n b e h
   | _=>.err 703
  | .block i c=>match cCode n c e h with
   | .ok x e h=>match x with
    | .normal=>.ok .normal e h
    | .ret=>.ok .ret e h
    | .exit j=>match Nat.beq j i with
     | true=>.ok .normal e h
     | false=>.ok (.exit j) e h
   | .err m=>.err m
  | .loop c=>match cCode n c e h with
   | .ok x e h=>match x with
    | .normal=>cCode n (.loop c) e h
    | .ret=>.ok .ret e h
    | .exit i=>.ok (.exit i) e h
   | .err m=>.err m
  | _=>.err 704
def regsOk:Code→Bool
 | .region r ops draw=>Nat.blt r 1000000&&match draw with
  | false=>true
  | true=>match getD dts r with
   | some d=>dtOk N ops.toList d
   | none=>true
 | .seq a b=>regsOk a&&regsOk b
 | .cond _ a b=>regsOk a&&regsOk b
 | .block _ c=>regsOk c
 | .loop c=>regsOk c
 | _=>true
end
/-! ### slots as a list -/
def Tr.toL {α:Type}:Tr α→(Nat→Nat)→List (Nat×α)
 | .nil,_=>[]
 | .node l v r,g=>(match v with | some x=>[(g 0,x)] | none=>[])++(l.toL (fun j=>g (2*j+1))++r.toL (fun j=>g (2*j+2)))
theorem Tr.toL_mem {α:Type}:∀(t:Tr α) (g:Nat→Nat) (k:Nat) (x:α),(k,x)∈t.toL g→∃j,g j=k∧t.get j=some x
 | .nil,g,k,x,h=>by simp [toL] at h
 | .node l v r,g,k,x,h=>by
  unfold toL at h
  rcases List.mem_append.1 h with h | h
  ·cases v with
   | none=>simp at h
   | some y=>simp at h;obtain ⟨rfl,rfl⟩:=h;exact ⟨0,rfl,by rw [Tr.get_node]⟩
  ·rcases List.mem_append.1 h with h | h
   ·obtain ⟨j,h1,h2⟩:=toL_mem l _ k x h
    exact ⟨2*j+1,h1,by rw [Tr.get_node];show (if 2*j % 2=0 then _ else _)=_;rw [zqp (by omega),show 2*j / 2=j by omega];exact h2⟩
   ·obtain ⟨j,h1,h2⟩:=toL_mem r _ k x h
    exact ⟨2*j+2,h1,by rw [Tr.get_node];show (if (2*j+1) % 2=0 then _ else _)=_;rw [zqo (by omega),show (2*j+1) / 2=j by omega];exact h2⟩
theorem Tr.mem_toL {α:Type}:∀(t:Tr α) (g:Nat→Nat) (j:Nat) (x:α),t.get j=some x→(g j,x)∈t.toL g
 | .nil,g,j,x,h=>by rw [Tr.get_nil] at h;cases h
 | .node l v r,g,j,x,h=>by
  rw [Tr.get_node] at h
  unfold toL
  cases j with
  | zero=>simp only at h;subst h;simp
  | succ j =>
   simp only at h
   by_cases e:j % 2=0
   ·rw [zqp e] at h
    have:=mem_toL l (fun j=>g (2*j+1)) _ _ h
    simp only [show 2*(j / 2)+1=j+1 by omega] at this
    exact List.mem_append_right _ (List.mem_append_left _ this)
   ·rw [zqo e] at h
    have:=mem_toL r (fun j=>g (2*j+2)) _ _ h
    simp only [show 2*(j / 2)+2=j+1 by omega] at this
    exact List.mem_append_right _ (List.mem_append_right _ this)
def ceL (e:CE):Env:=e.toL fun j=>j
theorem ceL_mem {e:CE} {k:Nat} {x:PV} (h:(k,x)∈ceL e):e.get k=some x:=by
 obtain ⟨j,h1,h2⟩:=Tr.toL_mem _ _ _ _ h
 cases h1;exact h2
theorem env_get_of:∀(E:Env) (k:Nat) (v:PV),(∀x,(k,x)∈E→x=v)→((k,v)∈E∨v=.undef)→E.get k=v
 | [],k,v,_,h=>by
  rcases h with h | h
  ·cases h
  ·rw [h];rfl
 | (t,y)::E,k,v,h1,h2=>by
  rw [Env.get_cons]
  by_cases e:t=k
  ·subst e;rw [zqp rfl];exact h1 y List.mem_cons_self
  ·rw [zqo e]
   refine env_get_of E k v (fun x hx=>h1 x (List.mem_cons_of_mem _ hx)) ?_
   rcases h2 with h2 | h2
   ·rcases List.mem_cons.1 h2 with h2 | h2
    ·cases h2;exact absurd rfl e
    ·exact .inl h2
   ·exact .inr h2
theorem ceL_re (e:CE):RE (ceL e) e:=by
 intro t
 unfold ceGet
 cases h:e.get t with
 | some v=>exact env_get_of _ _ _ (fun x hx=>by rw [ceL_mem hx] at h;exact Option.some.inj h) (.inl (Tr.mem_toL e (fun j=>j) t v h))
 | none=>exact env_get_of _ _ _ (fun x hx=>by rw [ceL_mem hx] at h;cases h) (.inr rfl)
theorem subE_of {E':Env}:∀(E:Env),(∀k x,(k,x)∈E→E'.get k=x)→subE E E'
 | [],_=>trivial
 | (t,v)::r,h=>⟨h t v List.mem_cons_self,subE_of r fun k x hx=>h k x (List.mem_cons_of_mem _ hx)⟩
theorem ceL_sub {E:Env} {e:CE} (re:RE E e):subE (ceL e) E:=subE_of _ fun k x hx=>by
 rw [re k];unfold ceGet;rw [ceL_mem hx]
def immFree (imm:List Nat):Bool:=imm.all fun x=>Nat.blt x 1000000||Nat.ble 2000000 x
theorem immFree_no {imm:List Nat} (h:immFree imm=true) {r:Nat} (hr:Nat.blt r 1000000=true):imm.elem (1000000+r)=false:=by
 rw [Nat.blt_eq] at hr
 rw [←nmem_eq]
 unfold immFree at h
 induction imm with
 | nil=>rfl
 | cons a l ih =>
  simp only [List.all_cons,zqb] at h
  unfold nmem
  split
  ·rename_i hb
   have:=zqg hb
   have h1:=h.1
   rw [Bool.or_eq_true,Nat.blt_eq,Nat.ble_eq] at h1
   omega
  ·exact ih h.2
section
variable {P : Program} {tt : TT} {call : Nat → List PV → CH → CC} {tg : TG} {imm : List Nat} {N : Nat} {dts : List (Nat × DT)}
structure LS where
 n:Nat
 e:CE
 h:CH
 H:PH
theorem cCode_ok (ht:TGok tg tt) (hc:CallS P call) (him:immFree imm=true):∀(n:Nat) (c:Code) (e:CE) (h:CH) (x:Ex) (e':CE) (h':CH) (E:Env) (H:PH) (K:Ex→Env→PH→Prop),cCode call tg imm N dts n c e h=.ok x e' h'→regsOk N dts c=true →
  RE E e→RH H h→(∀E' H',RE E' e'→RH H' h'→K x E' H')→pCode P tt imm N c E H K:=by
 intro n
 induction n using Nat.strongRecOn with
 | _ n IH =>
  intro c e h x e' h' E H K hr ho re rh hk
  cases n with
  | zero=>simp [cCode] at hr
  | succ n =>
   have ih:=IH n (Nat.lt_succ_self n)
   cases c with
   | skip=>unfold cCode at hr;cases hr;exact hk _ _ re rh
   | ret=>unfold cCode at hr;cases hr;exact hk _ _ re rh
   | exit i=>unfold cCode at hr;cases hr;exact hk _ _ re rh
   | region r ops draw =>
    unfold cCode at hr
    unfold pCode
    unfold regsOk at ho
    simp only [zqb] at ho
    obtain ⟨hr0,ho⟩:=ho
    cases draw with
    | false =>
     simp only [] at hr ⊢
     split at hr
     ·rename_i e1 h1 hop
      cases hr
      unfold regK
      rw [immFree_no him hr0]
      exact cOps_ok ht hc hk _ _ _ _ _ _ hop re rh
     ·cases hr
    | true =>
     simp only [] at hr ho ⊢
     split at hr
     ·rename_i d hd
      rw [hd] at ho
      split at hr
      ·rename_i e1 h1 hop
       cases hr
       unfold regK
       rw [immFree_no him hr0]
       exact cDraw_ok ht hc ho hop re rh hk
      ·cases hr
     ·cases hr
   | seq a b =>
    unfold cCode at hr
    unfold pCode
    unfold regsOk at ho
    simp only [zqb] at ho
    simp only [] at hr
    split at hr
    ·rename_i y e1 h1 ha
     refine ih a e h y e1 h1 E H _ ha ho.1 re rh fun E1 H1 re1 rh1=>?_
     split at hr
     ·exact ih b _ _ _ _ _ _ _ K hr ho.2 re1 rh1 hk
     ·cases hr;exact hk _ _ re1 rh1
     ·cases hr;exact hk _ _ re1 rh1
    ·cases hr
   | cond c a b =>
    unfold cCode at hr
    unfold pCode
    unfold regsOk at ho
    simp only [zqb] at ho
    simp only [cOpnd_eq re] at hr ⊢
    split at hr
    ·rename_i t hct
     rw [hct]
     cases t with
     | true=>exact ih a _ _ _ _ _ _ _ K hr ho.1 re rh hk
     | false=>exact ih b _ _ _ _ _ _ _ K hr ho.2 re rh hk
    ·cases hr
   | block i c =>
    unfold cCode at hr
    unfold pCode
    unfold regsOk at ho
    simp only [] at hr
    split at hr
    ·rename_i y e1 h1 ha
     refine ih c e h y e1 h1 E H _ ha ho re rh fun E1 H1 re1 rh1=>?_
     split at hr
     ·cases hr;exact hk _ _ re1 rh1
     ·cases hr;exact hk _ _ re1 rh1
     ·rename_i j
      simp only []
      split at hr
      ·rename_i hb;cases hr;rw [hb];exact hk _ _ re1 rh1
      ·rename_i hb;cases hr;rw [hb];exact hk _ _ re1 rh1
    ·cases hr
   | loop c =>
    unfold pCode
    refine lO LS (fun s=>ceL s.e) (fun s=>s.H) (fun s=>s.n≤n+1∧RH s.H s.h∧cCode call tg imm N dts s.n (.loop c) s.e s.h=.ok x e' h') (fun s=>s.n) ⟨⟨n+1,e,h,H⟩,⟨zqn _,rh,hr⟩,ceL_sub re,rfl⟩ ?_
    rintro ⟨m,e1,h1,H1⟩ ⟨hm,rh1,hr1⟩
    simp only at hm rh1 hr1 ⊢
    cases m with
    | zero=>simp [cCode] at hr1
    | succ m =>
     unfold cCode at hr1
     simp only [] at hr1
     have ho':regsOk N dts c=true:=by unfold regsOk at ho;exact ho
     split at hr1
     ·rename_i y e2 h2 ha
      refine IH m (by omega) c _ _ _ _ _ _ _ _ ha ho' (ceL_re e1) rh1 fun E2 H2 re2 rh2=>?_
      split at hr1
      ·exact ⟨⟨m,e2,h2,H2⟩,⟨(by show m≤n+1;omega),rh2,hr1⟩,ceL_sub re2,rfl,Nat.lt_succ_self m⟩
      ·cases hr1;exact hk _ _ re2 rh2
      ·cases hr1;exact hk _ _ re2 rh2
     ·cases hr1
   | _=>unfold cCode at hr;cases hr
end
/-! ### functions -/
def untA {α:Type} (v:PV) (K:PV→α):α:=frA (untup v) K
def cRes {α:Type} (z:Nat→α) (tg:TG) (h:CH):List ResultVar→CE→(List PV→α)→α
 | [],_,K=>K []
 | .tmp t::r,e,K=>untA (ceGet e t) fun v=>dmA v fun w=>cRes z tg h r (e.set w t) fun vs=>K (v::vs)
 | .cell t T::r,e,K=>match cLoad tg T (ceGet e t) h with
  | .ok v _=>cRes z tg h r e fun vs=>K (v::vs)
  | .err n=>z n
theorem cRes_ok {α:Type} {z:Nat→α} {tg:TG} {tt:TT} (ht:TGok tg tt) {h:CH} {H:PH} (rh:RH H h) {y:α} (hz:∀n,z n≠y) :
  ∀(l:List ResultVar) (e:CE) (E:Env) (K:List PV→α) (Q:List PV→Prop),cRes z tg h l e K=y→RE E e→(∀vs,K vs=y→Q vs)→pRes tt H l E Q
 | [],e,E,K,Q,hr,re,hq=>hq _ hr
 | .tmp t::r,e,E,K,Q,hr,re,hq=>by
  unfold cRes untA at hr
  rw [frA_eq,dmA_eq] at hr
  unfold pRes
  rw [frc_eq,re t]
  exact cRes_ok ht rh hz r _ _ _ _ hr (re.put t _) fun vs hv=>hq _ hv
 | .cell t T::r,e,E,K,Q,hr,re,hq=>by
  unfold cRes at hr
  unfold pRes
  rw [re t]
  split at hr
  ·rename_i v s hv
   exact cLoad_ok ht rh hv _ (cRes_ok ht rh hz r _ _ _ _ hr re fun vs hv=>hq _ hv)
  ·exact absurd hr (hz _)
def ceArgs:Nat→List PV→CE
 | _,[]=>.nil
 | i,v::vs=>(ceArgs (Nat.succ i) vs).set v i
theorem ceArgs_ok:∀(vs:List PV) (i:Nat),RE (args0 i vs) (ceArgs i vs)
 | [],i=>re_nil
 | v::vs,i=>by
  unfold args0 ceArgs
  exact (ceArgs_ok vs (i+1)).put i v
structure FD where
 fn:Func
 imm:List Nat
 dts:List (Nat×DT)
def cFun (call:Nat→List PV→CH→CC) (tg:TG) (fuel f:Nat) (fd:FD) (args:List PV) (h:CH):CC:=match fd.fn.body with
 | some c=>match Nat.ble args.length fd.fn.ntmps with
  | true=>deL args fun args=>match cCode call tg fd.imm fd.fn.ntmps fd.dts fuel c (ceArgs 0 args) h with
   | .ok x e h=>match x with
    | .exit _=>.err 801
    | _=>cRes .err tg h fd.fn.results.toList e fun vs=>match vs with
     | [v]=>.ok v h
     | vs=>.ok (.tup vs) h
   | .err n=>.err (tagN 1000000 f n)
  | false=>.err 802
 | none=>.err 803
def fdOk (fd : FD) : Bool := immFree fd.imm && !(fd.fn.name == "runtime.NumGoroutine") && match fd.fn.body with
 | some c=>regsOk fd.fn.ntmps fd.dts c
 | none=>true
def FTok (P:Program) (ft:Tr FD):Prop:=∀f fd,ft.get f=some fd→P.funcs[f]? = some fd.fn∧fdOk fd=true
theorem cFun_ok {P:Program} {tt:TT} {call:Nat→List PV→CH→CC} {tg:TG} (hm:P.follows .mixedOrders=true) (hT:ttOk P tt=true) (hd:6≤P.depth) (ht:TGok tg tt) (hc:CallS P call) {fuel f:Nat} {fd:FD} (hf:P.funcs[f]? = some fd.fn) (ho:fdOk fd=true)
  {args:List PV} {h h':CH} {r:PV} (hr:cFun call tg fuel f fd args h=.ok r h') {H:PH} (rh:RH H h):CK P f args H fun r' H'=>r'=r∧RH H' h':=by
 unfold fdOk at ho
 simp only [zqb,Bool.not_eq_true'] at ho
 obtain ⟨⟨h1,h2⟩,h3⟩:=ho
 refine callOk_of_pFun (imm:=fd.imm) hm hT hd hf h2 ?_
 unfold cFun at hr
 unfold pFun
 split at hr
 ·rename_i c hb
  rw [hb] at h3 ⊢
  simp only []
  split at hr
  ·rename_i hle
   rw [hle]
   simp only []
   rw [deL_eq] at hr
   split at hr
   ·rename_i x e1 h1' hcode
    refine cCode_ok ht hc h1 fuel c _ _ _ _ _ _ _ _ hcode h3 (ceArgs_ok _ 0) rh fun E' H' re' rh'=>?_
    have fin:∀{l:List ResultVar},cRes CC.err tg h1' l e1 (fun vs=>match vs with
     | [v]=>.ok v h1'
     | vs=>.ok (.tup vs) h1')=.ok r h'→pRes tt H' l E' fun vs=>tupOf vs=r∧RH H' h':=fun {l} hl =>
      cRes_ok ht rh' (fun n=>by simp) l _ _ _ _ hl re' fun vs hv=>by
       split at hv
       ·cases hv;exact ⟨rfl,rh'⟩
       ·rename_i hne
        cases hv
        refine ⟨?_,rh'⟩
        unfold tupOf
        split
        ·rename_i v;exact absurd rfl (hne v)
        ·rfl
    cases x with
    | exit n=>cases hr
    | normal=>exact fin hr
    | ret=>exact fin hr
   ·cases hr
  ·cases hr
 ·cases hr
def cCall (ext:(Nat→List PV→CH→CC)→Nat→List PV→CH→CC) (tg:TG) (ft:Tr FD) (fuel:Nat):Nat→Nat→List PV→CH→CC
 | 0,f,args,h=>.err (tagN 1000000 f 902)
 | n+1,f,args,h=>match ext (cCall ext tg ft fuel n) f args h with
  | .ok r h'=>.ok r h'
  | .pure r=>.pure r
  | .err _=>match ft.get f with
   | some fd=>cFun (cCall ext tg ft fuel n) tg fuel f fd args h
   | none=>.err (tagN 1000000 f 901)
theorem cFun_no {call:Nat→List PV→CH→CC} {tg:TG} {fuel f:Nat} {fd:FD} {args:List PV} {h:CH} {r:PV} (hr:cFun call tg fuel f fd args h=.pure r):False:=by
 unfold cFun at hr
 split at hr
 ·split at hr
  ·rw [deL_eq] at hr
   split at hr
   ·rename_i x e h1 _
    have hres:∀(l:List ResultVar) (e:CE) (K:List PV→CC),(∀vs,K vs≠.pure r)→cRes CC.err tg h1 l e K≠.pure r:=by
     intro l
     induction l with
     | nil=>intro e K hK;exact hK _
     | cons v l ih =>
      intro e K hK
      cases v with
      | tmp t =>
       unfold cRes untA
       rw [frA_eq,dmA_eq]
       exact ih _ _ fun vs=>hK _
      | cell t T =>
       unfold cRes
       split
       ·exact ih _ _ fun vs=>hK _
       ·simp
    cases x with
    | exit i=>cases hr
    | normal=>exact hres _ _ _ (fun vs=>by split <;> simp) hr
    | ret=>exact hres _ _ _ (fun vs=>by split <;> simp) hr
   ·cases hr
  ·cases hr
 ·cases hr
theorem cCall_ok {P:Program} {tt:TT} {ext:(Nat→List PV→CH→CC)→Nat→List PV→CH→CC} {tg:TG} {ft:Tr FD} (hm:P.follows .mixedOrders=true) (hT:ttOk P tt=true) (hd:6≤P.depth) (ht:TGok tg tt) (hx:∀call,CallS P call→CallS P (ext call)) (hft:FTok P ft) (fuel:Nat) :
  ∀n,CallS P (cCall ext tg ft fuel n)
 | 0=>⟨fun f args h r h' hr=>(by cases hr),fun f args h r hr=>(by cases hr)⟩
 | n+1=>by
  have ih:=cCall_ok hm hT hd ht hx hft fuel n
  refine ⟨fun f args h r h' hr H rh=>?_,fun f args h r hr H rh=>?_⟩
  ·unfold cCall at hr
   split at hr
   ·rename_i r1 h1 he
    cases hr
    exact (hx _ ih).ok f args h r h' he H rh
   ·cases hr
   ·split at hr
    ·rename_i fd hfd
     obtain ⟨a,b⟩:=hft f fd hfd
     exact cFun_ok hm hT hd ht ih a b hr rh
    ·cases hr
  ·unfold cCall at hr
   split at hr
   ·cases hr
   ·rename_i r1 he
    cases hr
    exact (hx _ ih).pure f args h r he H rh
   ·split at hr
    ·exact (cFun_no hr).elim
    ·cases hr
end
end Ps
/- CEval, part 10: tables of a program. -/
namespace Ps
open Go
theorem tt_get_of:∀(tt:TT) (T:Nat) (v:TI),(∀x,(T,x)∈tt→x=v)→(T,v)∈tt→tt.get T=some v
 | [],T,v,_,h=>by cases h
 | (t,y)::r,T,v,h1,h2=>by
  unfold TT.get
  split
  ·rename_i hb
   have hb:=zqg hb
   subst hb
   rw [h1 y List.mem_cons_self]
  ·rename_i hb
   refine tt_get_of r T v (fun x hx=>h1 x (List.mem_cons_of_mem _ hx)) ?_
   rcases List.mem_cons.1 h2 with h | h
   ·cases h;simp at hb
   ·exact h
def ttOf (tg:TG):TT:=tg.toL fun j=>j
theorem ttOf_ok (tg:TG):TGok tg (ttOf tg):=fun T i h =>
 tt_get_of _ _ _ (fun x hx=>by
  obtain ⟨j,h1,h2⟩:=Tr.toL_mem _ _ _ _ hx
  cases h1
  rw [h] at h2;exact (Option.some.inj h2).symm) (Tr.mem_toL tg (fun j=>j) T i h)
def FAll (P:Program):List (Nat×FD)→Prop
 | []=>True
 | (f,fd)::r=>P.funcs[f]? = some fd.fn∧FAll P r
theorem FAll_mem {P:Program}:∀{l:List (Nat×FD)},FAll P l→∀{f:Nat} {fd:FD},(f,fd)∈l→P.funcs[f]? = some fd.fn
 | [],_,_,_,h=>by cases h
 | (f,fd)::r,ha,f',fd',h=>by
  rcases List.mem_cons.1 h with h | h
  ·cases h;exact ha.1
  ·exact FAll_mem ha.2 h
theorem FTok_of {P:Program} {ft:Tr FD} (h1:FAll P (ft.toL fun j=>j)) (h2:(ft.toL fun j=>j).all (fun p=>fdOk p.2)=true):FTok P ft:=fun f fd h=>by
 have hm:=Tr.mem_toL ft (fun j=>j) f fd h
 exact ⟨FAll_mem h1 hm,List.all_eq_true.1 h2 _ hm⟩
end Ps
set_option maxRecDepth 100000
set_option maxHeartbeats 40000000
namespace Go.Proofs.Tryz
open Go Ps
noncomputable section
noncomputable def tgA:TG:=(.node (.node (.node (.node (.node (.node (.node (.node (.node .nil (some ⟨.slice 214,1,24,[.nilS]⟩) .nil) (some ⟨.strct [(51,0),(120,2),(31,6)],7,120,[.str [],.str [],.str [],.str [],.int .i64 0,.nilS,.nilS]⟩) .nil) none (.node .nil none (.node .nil (some ⟨.arr 16 446,32,32,List.replicate 32 (.int .u8 0)⟩) .nil))) (some ⟨.slice 5,1,24,[.nilS]⟩) (.node .nil none (.node .nil (some ⟨.strct [(85,0),(151,1),(84,17),(84,18),(84,19)],20,48,[.ptr none]++List.replicate 16 (.int .u8 0)++[.int .i64 0,.int .i64 0,.int .i64 0]⟩) .nil))) none (.node (.node (.node (.node .nil (some ⟨.strct [(269,0)],1,24,[.nilS]⟩) .nil) none .nil) (some ⟨.map 3 3,1,8,[.undef]⟩) (.node .nil none (.node .nil (some ⟨.strct [(461,0),(31,1)],2,32,[.ptr none,.nilS]⟩) .nil))) none (.node .nil (some ⟨.fn,1,8,[.nilF]⟩) .nil))) none (.node (.node (.node .nil none (.node (.node .nil (some ⟨.arr 4 243,4,16,[.int .u32 0,.int .u32 0,.int .u32 0,.int .u32 0]⟩) .nil) none (.node .nil (some ⟨.fn,1,8,[.nilF]⟩) .nil))) none (.node (.node .nil (some ⟨.strct [(103,0),(103,1)],2,48,[.nilS,.nilS]⟩) .nil) (some ⟨.slice 73,1,24,[.nilS]⟩) .nil)) (some ⟨.ptr,1,8,[.ptr none]⟩) (.node (.node (.node (.node .nil (some ⟨.strct [(120,0),(37,4),(3,36)],37,104,[.str [],.str [],.int .i64 0,.nilS]++List.replicate 32 (.int .u8 0)++[.int .i64 0]⟩) .nil) (some ⟨.arr 16 5,16,16,List.replicate 16 (.int .u8 0)⟩) .nil) none .nil) none (.node (.node (.node .nil (some ⟨.ptr,1,8,[.ptr none]⟩) .nil) (some ⟨.strct [(9,0),(62,1),(177,4),(3,5),(3,6)],7,112,[.str [],.nilS,.nilS,.nilS,.ptr none,.int .i64 0,.int .i64 0]⟩) (.node .nil (some ⟨.strct [(31,0),(4,1)],2,32,[.nilS,.bool false]⟩) .nil)) none (.node .nil (some ⟨.strct [(21,0),(243,1)],2,8,[.int .i32 0,.int .u32 0]⟩) .nil))))) (some ⟨.int .i64,1,8,[.int .i64 0]⟩) (.node (.node (.node (.node (.node (.node .nil (some ⟨.int .u64,1,8,[.int .u64 0]⟩) .nil) (some ⟨.strct [(29,0),(3,1)],2,16,[.int .i64 0,.int .i64 0]⟩) (.node .nil (some ⟨.strct [(385,0)],1,8,[.ptr none]⟩) .nil)) none (.node (.node .nil (some ⟨.map 51 279,1,8,[.undef]⟩) .nil) none (.node .nil (some ⟨.ptr,1,8,[.ptr none]⟩) .nil))) none (.node (.node .nil none (.node .nil (some ⟨.ptr,1,8,[.ptr none]⟩) .nil)) none .nil)) none (.node (.node .nil none (.node .nil (some ⟨.ptr,1,8,[.ptr none]⟩) .nil)) (some ⟨.strct [(9,0),(9,1)],2,32,[.str [],.str []]⟩) (.node .nil none (.node .nil (some ⟨.int .u32,1,4,[.int .u32 0]⟩) .nil)))) none (.node (.node (.node (.node .nil (some ⟨.strct [(9,0),(120,1),(120,5)],9,144,[.str [],.str [],.str [],.int .i64 0,.nilS,.str [],.str [],.int .i64 0,.nilS]⟩) .nil) (some ⟨.slice 109,1,24,[.nilS]⟩) .nil) none (.node (.node .nil (some ⟨.slice 494,1,24,[.nilS]⟩) .nil) none .nil)) none (.node .nil (some ⟨.slice 142,1,24,[.nilS]⟩) (.node .nil (some ⟨.fn,1,8,[.nilF]⟩) (.node .nil (some ⟨.strB [(242,0),(245,0),(249,1)],3,12,[.int .u32 0,.int .i32 0,.int .u32 0]⟩) .nil)))))) (some ⟨.fn,1,8,[.nilF]⟩) (.node (.node (.node (.node (.node (.node (.node .nil (some ⟨.strct [(255,0)],1,24,[.nilS]⟩) .nil) (some ⟨.strct [(120,0),(31,4)],5,88,[.str [],.str [],.int .i64 0,.nilS,.nilS]⟩) (.node .nil (some ⟨.ptr,1,8,[.ptr none]⟩) .nil)) (some ⟨.slice 51,1,24,[.nilS]⟩) .nil) (some ⟨.strct [(3,0),(3,1),(3,2),(3,3),(31,4)],5,56,[.int .i64 0,.int .i64 0,.int .i64 0,.int .i64 0,.nilS]⟩) (.node .nil (some ⟨.ptr,1,8,[.ptr none]⟩) .nil)) none (.node (.node (.node (.node .nil (some ⟨.strct [(51,0),(37,2),(271,34),(3,35),(3,36),(3,37),(3,38),(3,39),(3,40),(51,41),(58,43),(37,44),(3,76),(4,77)],78,240,[.str [],.str []]++List.replicate 32 (.int .u8 0)++[.nilS]++List.replicate 6 (.int .i64 0)++[.str [],.str [],.nilS]++List.replicate 32 (.int .u8 0)++[.int .i64 0,.bool false]⟩) .nil) none .nil) none (.node .nil (some ⟨.fn,1,8,[.nilF]⟩) .nil)) none (.node (.node .nil (some ⟨.ptr,1,8,[.ptr none]⟩) .nil) (some ⟨.strct [(51,0),(37,2),(9,34),(3,35),(3,36)],37,96,[.str [],.str []]++List.replicate 32 (.int .u8 0)++[.str [],.int .i64 0,.int .i64 0]⟩) .nil))) (some ⟨.str,1,16,[.str []]⟩) (.node (.node (.node .nil (some ⟨.strct [(3,0),(3,1),(31,2)],3,40,[.int .i64 0,.int .i64 0,.nilS]⟩) .nil) (some ⟨.ptr,1,8,[.ptr none]⟩) (.node (.node .nil (some ⟨.slice 185,1,24,[.nilS]⟩) .nil) (some ⟨.strct [(103,0),(103,1)],2,48,[.nilS,.nilS]⟩) (.node .nil (some ⟨.fn,1,8,[.nilF]⟩) .nil))) none (.node .nil none (.node (.node .nil (some ⟨.ptr,1,8,[.ptr none]⟩) .nil) none (.node .nil (some ⟨.strB [(242,0),(247,0)],2,8,[.int .i32 0,.int .u32 0]⟩) .nil))))) (some ⟨.int .u8,1,1,[.int .u8 0]⟩) (.node (.node (.node (.node (.node (.node .nil (some ⟨.strct [(9,0),(62,1),(109,4),(84,5),(84,6)],7,112,[.str [],.nilS,.nilS,.nilS,.ptr none,.int .i64 0,.int .i64 0]⟩) .nil) (some ⟨.strct [(3,0),(125,1),(122,7),(127,16),(129,23),(131,28)],30,448,[.int .i64 0,.str [],.str [],.str [],.str [],.int .i64 0,.int .i64 0,.str [],.str [],.int .i64 0,.nilS,.nilS,.str [],.str [],.int .i64 0,.int .i64 0,.str [],.str [],.str [],.str [],.int .i64 0,.nilS,.nilS,.str [],.str [],.int .i64 0,.nilS,.nilS,.int .i64 0,.int .i64 0]⟩) .nil) none (.node (.node .nil (some ⟨.strct [(323,0)],1,8,[.undef]⟩) .nil) none .nil)) (some ⟨.arr 32 5,32,32,List.replicate 32 (.int .u8 0)⟩) (.node (.node .nil (some ⟨.ptr,1,8,[.ptr none]⟩) (.node .nil (some ⟨.strct [(58,0),(9,1),(4,2)],3,48,[.nilS,.str [],.bool false]⟩) .nil)) none .nil)) (some ⟨.int .i32,1,4,[.int .i32 0]⟩) (.node (.node (.node (.node .nil (some ⟨.strct [(51,0),(62,2),(177,5),(274,6),(3,7),(3,8)],9,136,[.str [],.str [],.nilS,.nilS,.nilS,.ptr none,.ptr none,.int .i64 0,.int .i64 0]⟩) .nil) none .nil) (some ⟨.ptr,1,8,[.ptr none]⟩) .nil) none (.node .nil none (.node .nil (some ⟨.strB [(81,0),(243,0)],1,4,[.int .u32 0]⟩) .nil)))) none (.node (.node (.node (.node (.node .nil (some ⟨.slice 498,1,24,[.nilS]⟩) .nil) none .nil) (some ⟨.slice 41,1,24,[.nilS]⟩) (.node (.node .nil (some ⟨.fn,1,8,[.nilF]⟩) .nil) none (.node .nil (some ⟨.ptr,1,8,[.ptr none]⟩) .nil))) none (.node (.node .nil (some ⟨.strct [(62,0),(168,3),(169,4),(170,5),(165,6),(79,7),(3,8),(52,9),(171,10),(34,11),(86,12)],13,248,List.replicate 6 (.nilS)++[.ptr none,.undef,.int .i64 0,.nilS,.nilS,.nilS,.undef]⟩) .nil) (some ⟨.ptr,1,8,[.ptr none]⟩) .nil)) (some ⟨.int .i64,1,8,[.int .i64 0]⟩) (.node (.node (.node .nil (some ⟨.ptr,1,8,[.ptr none]⟩) .nil) (some ⟨.ptr,1,8,[.ptr none]⟩) .nil) none (.node .nil (some ⟨.strct [(51,0),(51,2),(3,4),(3,5)],6,80,[.str [],.str [],.str [],.str [],.int .i64 0,.int .i64 0]⟩) .nil)))))) none (.node (.node (.node (.node .nil none (.node (.node (.node .nil none (.node .nil (some ⟨.fn,1,8,[.nilF]⟩) .nil)) none .nil) none (.node (.node (.node .nil (some ⟨.fn,1,8,[.nilF]⟩) .nil) none .nil) none (.node (.node .nil (some ⟨.arr 4 226,4,32,[.int .u64 0,.int .u64 0,.int .u64 0,.int .u64 0]⟩) .nil) none .nil)))) none (.node (.node (.node (.node .nil (some ⟨.strct [(51,0),(51,2),(37,4),(58,36),(3,37),(3,38)],39,136,[.str [],.str [],.str [],.str []]++List.replicate 32 (.int .u8 0)++[.nilS,.int .i64 0,.int .i64 0]⟩) (.node .nil (some ⟨.fn,1,8,[.nilF]⟩) .nil)) none .nil) none (.node (.node (.node .nil (some ⟨.strct [(294,0),(4,1),(3,2)],3,40,[.nilS,.bool false,.int .i64 0]⟩) .nil) (some ⟨.slice 174,1,24,[.nilS]⟩) .nil) none .nil)) (some ⟨.ptr,1,8,[.ptr none]⟩) (.node (.node .nil (some ⟨.strct [(62,0),(75,3),(76,4),(77,5),(65,6),(78,7),(44,8),(79,9),(84,10),(85,11),(52,12),(54,13),(34,14),(86,15)],16,304,List.replicate 8 (.nilS)++[.ptr none,.undef,.int .i64 0,.ptr none,.nilS,.nilS,.nilS,.undef]⟩) (.node .nil none (.node .nil (some ⟨.other,1,8,[.undef]⟩) .nil))) none (.node .nil (some ⟨.strct [(51,0),(3,2),(31,3)],4,64,[.str [],.str [],.int .i64 0,.nilS]⟩) .nil)))) (some ⟨.bool,1,1,[.bool false]⟩) (.node (.node (.node .nil none (.node .nil (some ⟨.strct [(3,0),(98,1),(3,2),(4,3)],4,32,[.int .i64 0,.ptr none,.int .i64 0,.bool false]⟩) .nil)) none (.node (.node .nil (some ⟨.strB [(81,0),(82,0),(2,0)],1,8,[.int .i64 0]⟩) .nil) (some ⟨.slice 136,1,24,[.nilS]⟩) (.node (.node .nil (some ⟨.strct [(178,0)],1,24,[.nilS]⟩) .nil) (some ⟨.strct [(51,0),(3,2),(3,3)],4,48,[.str [],.str [],.int .i64 0,.int .i64 0]⟩) .nil))) none (.node (.node (.node .nil (some ⟨.slice 157,1,24,[.nilS]⟩) (.node .nil (some ⟨.strct [(51,0),(62,2),(109,5),(202,6),(84,7),(84,8)],9,136,[.str [],.str [],.nilS,.nilS,.nilS,.ptr none,.ptr none,.int .i64 0,.int .i64 0]⟩) .nil)) (some ⟨.ptr,1,8,[.ptr none]⟩) .nil) (some ⟨.arr 3 4,3,3,[.bool false,.bool false,.bool false]⟩) (.node (.node .nil none (.node .nil none (.node .nil (some ⟨.ptr,1,8,[.ptr none]⟩) .nil))) (some ⟨.slice 146,1,24,[.nilS]⟩) (.node (.node .nil (some ⟨.ptr,1,8,[.ptr none]⟩) (.node .nil (some ⟨.arr 256 5,256,256,List.replicate 256 (.int .u8 0)⟩) .nil)) none (.node .nil (some ⟨.arr 27 243,27,108,List.replicate 27 (.int .u32 0)⟩) .nil)))))) (some ⟨.int .i64,1,8,[.int .i64 0]⟩) (.node (.node (.node (.node (.node .nil none (.node (.node .nil (some ⟨.slice 243,1,24,[.nilS]⟩) .nil) none .nil)) (some ⟨.slice 37,1,24,[.nilS]⟩) (.node .nil (some ⟨.ptr,1,8,[.ptr none]⟩) (.node .nil (some ⟨.int .u64,1,8,[.int .u64 0]⟩) .nil))) none (.node (.node (.node (.node .nil (some ⟨.ptr,1,8,[.ptr none]⟩) .nil) (some ⟨.strct [(9,0),(9,1),(58,2)],3,56,[.str [],.str [],.nilS]⟩) .nil) none .nil) none (.node (.node (.node .nil (some ⟨.slice 31,1,24,[.nilS]⟩) .nil) (some ⟨.slice 266,1,24,[.nilS]⟩) .nil) (some ⟨.fn,1,8,[.nilF]⟩) (.node .nil none (.node .nil (some ⟨.strct [(51,0),(279,2)],39,136,[.str [],.str [],.str [],.str [],.int .i64 0,.nilS]++List.replicate 32 (.int .u8 0)++[.int .i64 0]⟩) .nil))))) none (.node (.node (.node (.node (.node .nil (some ⟨.strct [(51,0),(3,2),(37,3)],35,72,[.str [],.str [],.int .i64 0]++List.replicate 32 (.int .u8 0)⟩) .nil) none .nil) none (.node (.node .nil (some ⟨.strct [(294,0),(4,1),(3,2)],3,40,[.nilS,.bool false,.int .i64 0]⟩) .nil) (some ⟨.ptr,1,8,[.ptr none]⟩) .nil)) none (.node (.node .nil (some ⟨.slice 188,1,24,[.nilS]⟩) .nil) none (.node (.node .nil (some ⟨.ptr,1,8,[.ptr none]⟩) .nil) none .nil))) none (.node (.node .nil none (.node (.node .nil (some ⟨.fn,1,8,[.nilF]⟩) .nil) none .nil)) (some ⟨.slice 9,1,24,[.nilS]⟩) (.node .nil (some ⟨.strct [(120,0),(31,4),(51,5),(3,7),(3,8)],9,136,[.str [],.str [],.int .i64 0,.nilS,.nilS,.str [],.str [],.int .i64 0,.int .i64 0]⟩) (.node (.node .nil (some ⟨.strct [(51,0),(113,2),(3,39),(98,40),(3,41)],42,152,[.str [],.str [],.str [],.str []]++List.replicate 32 (.int .u8 0)++[.str [],.int .i64 0,.int .i64 0,.int .i64 0,.ptr none,.int .i64 0]⟩) .nil) none .nil))))) none (.node (.node (.node .nil none (.node (.node (.node .nil (some ⟨.slice 116,1,24,[.nilS]⟩) .nil) none .nil) (some ⟨.strct [(51,0),(37,2),(97,34),(84,35),(84,36),(84,37),(3,38),(29,39),(3,40),(51,41),(58,43),(100,44)],48,208,[.str [],.str []]++List.replicate 32 (.int .u8 0)++[.ptr none]++List.replicate 6 (.int .i64 0)++[.str [],.str [],.nilS,.int .i64 0,.ptr none,.int .i64 0,.bool false]⟩) (.node (.node .nil (some ⟨.arr 256 4,256,256,List.replicate 256 (.bool false)⟩) .nil) none .nil))) (some ⟨.slice 3,1,24,[.nilS]⟩) (.node (.node .nil (some ⟨.map 3 4,1,8,[.undef]⟩) (.node (.node .nil (some ⟨.strct [(37,0),(51,32),(3,34),(3,35),(3,36)],37,88,List.replicate 32 (.int .u8 0)++[.str [],.str [],.int .i64 0,.int .i64 0,.int .i64 0]⟩) .nil) (some ⟨.strct [(51,0),(3,2),(37,3),(98,35)],36,80,[.str [],.str [],.int .i64 0]++List.replicate 32 (.int .u8 0)++[.ptr none]⟩) .nil)) (some ⟨.slice 139,1,24,[.nilS]⟩) .nil)) none (.node (.node (.node (.node .nil (some ⟨.arr 2 9,2,32,[.str [],.str []]⟩) .nil) (some ⟨.slice 93,1,24,[.nilS]⟩) .nil) none (.node (.node (.node .nil (some ⟨.fn,1,8,[.nilF]⟩) .nil) (some ⟨.ptr,1,8,[.ptr none]⟩) .nil) none (.node (.node .nil (some ⟨.ptr,1,8,[.ptr none]⟩) .nil) (some ⟨.slice 65,1,24,[.nilS]⟩) (.node .nil (some ⟨.strct [(9,0),(120,1),(120,5)],9,144,[.str [],.str [],.str [],.int .i64 0,.nilS,.str [],.str [],.int .i64 0,.nilS]⟩) .nil)))) none (.node .nil (some ⟨.strct [(58,0),(59,1),(60,2)],3,72,[.nilS,.nilS,.nilS]⟩) (.node (.node .nil none (.node .nil (some ⟨.strct [(5,0),(5,1)],2,2,[.int .u8 0,.int .u8 0]⟩) .nil)) none (.node .nil (some ⟨.strct [(151,0),(251,16),(252,19),(245,46)],47,140,List.replicate 16 (.int .u8 0)++[.int .u32 0,.int .i32 0]++List.replicate 29 (.int .u32 0)⟩) .nil))))))))
noncomputable def fd3:FD:=⟨Tryz.f3,[],[]⟩
noncomputable def fd4:FD:=⟨Tryz.f4,[],[]⟩
noncomputable def fd5:FD:=⟨Tryz.f5,[1],[(5,{ imp:=[2,10,15,20,23,27,33,38,39,42],win:=[(3,1,1),(4,1,1),(5,1,1),(6,1,1),(7,1,1),(8,1,1),(9,1,1),(10,1,1),(11,2,2),(12,2,2),(13,2,2),(14,2,2),(15,2,2),(16,3,3),(17,3,3),(18,3,3),(19,3,3),(20,3,3),(21,4,7),(22,3,4),(23,4,4),(24,5,7),(25,5,7),(26,3,5),(27,5,5),(28,6,7),(29,6,7),(30,3,6),(31,3,6),(32,3,6),(33,6,6),(34,7,7),(35,7,7),(36,7,7),(37,7,7),(38,7,7),(39,8,8),(40,9,9),(41,9,9),(42,9,9),(43,10,10),(44,10,10)],cnt:=10 })]⟩
noncomputable def fd6:FD:=⟨Tryz.f6,[],[]⟩
noncomputable def fd7:FD:=⟨Tryz.f7,[3],[(9,{ cons:=[(11,[39])],imp:=[6,11],win:=[(7,1,1),(8,1,1),(9,1,2),(10,0,1),(11,1,1),(12,2,2)],robs:=[73],res:=[(10,0)],cnt:=2 }),(12,{ imp:=[6],cnt:=1 }),(14,{ imp:=[6],cnt:=1 }),(16,{ cnt:=0 }),(19,{ imp:=[14],cnt:=1 }),(23,{ imp:=[9],cnt:=1 })]⟩
noncomputable def fd8:FD:=⟨Tryz.f8,[2],[]⟩
noncomputable def fd9:FD:=⟨Tryz.f9,[],[]⟩
noncomputable def fd10:FD:=⟨Tryz.f10,[],[]⟩
noncomputable def fd11:FD:=⟨Tryz.f11,[],[(3,{ cnt:=0 })]⟩
noncomputable def fd12:FD:=⟨Tryz.f12,[],[]⟩
noncomputable def fd13:FD:=⟨Tryz.f13,[],[]⟩
noncomputable def fd14:FD:=⟨Tryz.f14,[9,11,12],[(7,{ cons:=[(19,[76])],imp:=[16,19],win:=[(0,0,1),(1,0,1),(2,0,1),(3,0,1),(4,0,1),(5,0,1),(6,0,1),(7,0,1),(17,1,1),(18,0,1),(19,1,1)],robs:=[51],res:=[(18,0)],cnt:=2 }),(8,{ imp:=[8],win:=[(9,1,1),(10,1,1),(11,1,1),(12,1,1),(13,1,1),(14,1,1),(15,1,1)],cnt:=1 }),(12,{ cons:=[(10,[108]),(12,[118])],imp:=[8],win:=[(9,1,1),(10,1,1),(11,1,1),(12,1,1),(13,1,1)],cnt:=1 })]⟩
noncomputable def fd15:FD:=⟨Tryz.f15,[2],[]⟩
noncomputable def fd16:FD:=⟨Tryz.f16,[2,3],[(7,{ cons:=[(11,[3]),(12,[28])],imp:=[5,8],win:=[(0,0,2),(1,0,2),(2,0,2),(6,0,1),(7,0,1),(8,1,1),(9,2,2),(10,2,2),(11,2,2),(12,2,2)],ls:=[(0,11,3)],cnt:=2 })]⟩
noncomputable def fd17:FD:=⟨Tryz.f17,[],[]⟩
noncomputable def fd18:FD:=⟨Tryz.f18,[1],[(12,{ cnt:=0 }),(17,{ imp:=[6],win:=[(7,1,1)],cnt:=1 }),(22,{ cnt:=0 })]⟩
noncomputable def fd19:FD:=⟨Tryz.f19,[],[]⟩
noncomputable def fd20:FD:=⟨Tryz.f20,[0,1],[]⟩
noncomputable def fd21:FD:=⟨Tryz.f21,[3],[(1,{ imp:=[1,18,19],win:=[(2,1,1),(3,1,1),(4,1,1),(5,1,1),(6,1,1),(7,1,1),(8,1,1),(9,1,1),(10,1,1),(11,1,1),(12,1,1),(13,1,1),(14,1,2),(15,1,1),(16,1,1),(17,1,1),(18,1,1),(19,2,2),(20,3,3),(21,3,3)],cnt:=3 }),(10,{ cons:=[(18,[99]),(21,[106])],imp:=[8,15,18,21],win:=[(0,0,2),(1,0,3),(9,0,1),(10,0,1),(11,0,1),(12,0,1),(13,0,1),(14,0,1),(15,1,1),(16,2,2),(17,2,2),(18,2,2),(19,3,3),(20,3,3),(21,3,3)],lf:=[(5,8),(12,15)],cnt:=4 }),(15,{ cons:=[(10,[127]),(11,[129])],imp:=[4,7,10,11],win:=[(0,0,2),(1,0,2),(5,1,2),(6,0,1),(7,1,1),(8,0,2),(9,0,2),(10,2,2),(11,3,3)],robs:=[51,37],res:=[(8,0),(9,1)],cnt:=4 }),(16,{ imp:=[3,6],win:=[(4,0,1),(5,0,1),(6,1,1)],cnt:=2 }),(17,{ imp:=[3,6],win:=[(4,0,1),(5,0,1),(6,1,1)],cnt:=2 }),(23,{ imp:=[3,6],win:=[(4,0,1),(5,0,1),(6,1,1)],cnt:=2 }),(31,{ imp:=[3,6],win:=[(4,0,1),(5,0,1),(6,1,1)],cnt:=2 }),(34,{ imp:=[6],win:=[(7,1,1),(8,1,1),(9,1,1),(10,1,1),(11,1,1)],cnt:=1 })]⟩
noncomputable def fd22:FD:=⟨Tryz.f22,[3],[(1,{ cons:=[(17,[39]),(19,[41])],imp:=[1,20],win:=[(2,1,1),(3,1,1),(4,1,1),(5,1,1),(6,1,1),(7,1,1),(8,1,1),(9,1,1),(10,1,1),(11,1,1),(12,1,1),(13,1,1),(14,1,1),(15,1,1),(16,1,1),(17,1,1),(18,1,1),(19,1,1),(20,1,1),(21,2,2),(22,2,2)],cnt:=2 }),(7,{ imp:=[7,8],win:=[(0,0,1),(1,0,1),(2,0,1),(3,0,1),(4,0,1),(5,0,1),(8,1,1),(9,2,2),(10,2,2),(11,2,2),(12,2,2),(13,2,2)],cnt:=2 }),(8,{ imp:=[14,17,18],win:=[(0,0,2),(1,0,2),(2,0,2),(3,0,2),(4,0,2),(5,0,2),(6,0,2),(7,0,2),(8,0,2),(15,1,2),(16,0,1),(17,1,1),(18,2,2)],cnt:=3 }),(14,{ cons:=[(15,[124])],imp:=[12,15],win:=[(0,0,1),(1,0,1),(2,0,1),(3,0,1),(4,0,1),(5,0,1),(13,1,1),(14,0,1),(15,1,1)],robs:=[51],res:=[(14,0)],cnt:=2 }),(15,{ imp:=[12,20],win:=[(0,0,1),(1,0,1),(2,0,1),(3,0,1),(13,1,1),(14,1,1),(15,1,1),(16,1,1),(17,1,1),(18,0,1),(19,0,1),(20,1,1)],cnt:=2 }),(16,{ imp:=[12,20],win:=[(0,0,1),(1,0,1),(2,0,1),(3,0,1),(13,1,1),(14,1,1),(15,1,1),(16,1,1),(17,1,1),(18,0,1),(19,0,1),(20,1,1)],cnt:=2 }),(21,{ imp:=[11,22],win:=[(0,0,1),(1,0,1),(2,0,1),(3,0,1),(12,1,1),(13,1,1),(14,1,1),(15,1,1),(16,1,1),(17,0,1),(18,0,1),(19,0,1),(20,0,1),(21,0,1),(22,1,1)],cnt:=2 }),(22,{ imp:=[5],win:=[(6,1,1),(7,1,1),(8,1,1),(9,1,1),(10,1,1)],cnt:=1 }),(28,{ imp:=[11,22],win:=[(0,0,1),(1,0,1),(2,0,1),(3,0,1),(12,1,1),(13,1,1),(14,1,1),(15,1,1),(16,1,1),(17,0,1),(18,0,1),(19,0,1),(20,0,1),(21,0,1),(22,1,1)],cnt:=2 }),(30,{ imp:=[6],cnt:=1 }),(31,{ imp:=[6],win:=[(7,1,1),(8,1,1),(9,1,1),(10,1,1),(11,1,1)],cnt:=1 })]⟩
noncomputable def fd23:FD:=⟨Tryz.f23,[3],[(6,{ cnt:=0 }),(10,{ imp:=[10],win:=[(4,0,1),(5,0,1),(11,1,1),(12,1,1),(13,1,1)],cnt:=1 })]⟩
noncomputable def fd24:FD:=⟨Tryz.f24,[3],[(2,{ cons:=[(25,[17]),(28,[42])],imp:=[22],win:=[(23,1,1),(24,1,1),(25,1,1),(26,1,1),(27,1,1),(28,1,1),(29,1,1)],cnt:=1 })]⟩
noncomputable def fd25:FD:=⟨Tryz.f25,[3],[(2,{ cons:=[(24,[16]),(26,[40])],imp:=[22],win:=[(23,1,1),(24,1,1),(25,1,1),(26,1,1),(27,1,1)],cnt:=1 }),(4,{ imp:=[11],cnt:=1 })]⟩
noncomputable def fd26:FD:=⟨Tryz.f26,[],[]⟩
noncomputable def fd27:FD:=⟨Tryz.f27,[3],[(6,{ cons:=[(19,[34]),(21,[53])],imp:=[16],win:=[(17,1,1),(18,1,1),(19,1,1),(20,1,1),(21,1,1)],cnt:=1 }),(10,{ cons:=[(21,[86])],imp:=[16,21],win:=[(17,1,1),(18,1,1),(19,1,2),(20,0,1),(21,1,1),(22,2,2)],robs:=[136],res:=[(20,0)],cnt:=2 }),(12,{ cons:=[(10,[97])],imp:=[7,10],win:=[(0,0,1),(8,1,1),(9,1,1),(10,1,1)],lf:=[(4,7)],cnt:=2 })]⟩
noncomputable def fd28:FD:=⟨Tryz.f28,[],[(4,{ cons:=[(10,[30])],imp:=[7,10],win:=[(0,0,1),(8,1,1),(9,1,1),(10,1,1)],lf:=[(4,7)],cnt:=2 })]⟩
noncomputable def fd29:FD:=⟨Tryz.f29,[],[]⟩
noncomputable def fd30:FD:=⟨Tryz.f30,[],[]⟩
noncomputable def fd31:FD:=⟨Tryz.f31,[],[(4,{ imp:=[5],win:=[(6,1,1)],cnt:=1 }),(5,{ cons:=[(10,[38])],imp:=[7,10],win:=[(0,0,1),(8,1,1),(9,1,1),(10,1,1)],lf:=[(4,7)],cnt:=2 })]⟩
noncomputable def fd32:FD:=⟨Tryz.f32,[3],[(3,{ cons:=[(11,[35])],imp:=[6,8,11],win:=[(0,0,2),(1,0,1),(2,0,1),(3,0,1),(4,0,1),(7,1,1),(8,1,1),(9,2,2),(10,2,2),(11,2,2)],lf:=[(4,8)],cnt:=3 }),(4,{ cons:=[(11,[46])],imp:=[6,8,11],win:=[(0,0,2),(1,0,1),(2,0,1),(3,0,1),(4,0,1),(7,1,1),(8,1,1),(9,2,2),(10,2,2),(11,2,2)],lf:=[(4,8)],cnt:=3 })]⟩
noncomputable def fd33:FD:=⟨Tryz.f33,[2],[]⟩
noncomputable def fd34:FD:=⟨Tryz.f34,[],[]⟩
noncomputable def fd35:FD:=⟨Tryz.f35,[1],[]⟩
noncomputable def fd36:FD:=⟨Tryz.f36,[],[]⟩
noncomputable def fd37:FD:=⟨Tryz.f37,[],[]⟩
noncomputable def fd38:FD:=⟨Tryz.f38,[3],[(4,{ cnt:=0 })]⟩
noncomputable def fd39:FD:=⟨Tryz.f39,[1,2],[(1,{ cons:=[(34,[37]),(36,[38])],imp:=[2,6,14,18,21,24,27,30,32,33],win:=[(3,1,1),(4,1,1),(5,1,1),(6,1,1),(7,2,2),(8,2,2),(9,2,2),(10,2,2),(11,2,2),(12,2,2),(13,2,2),(14,2,2),(15,3,9),(16,0,3),(17,0,3),(18,3,3),(19,0,4),(20,0,4),(21,4,4),(22,0,5),(23,0,5),(24,5,5),(25,0,6),(26,0,6),(27,6,6),(28,0,7),(29,0,7),(30,7,7),(31,8,8),(32,8,8),(33,9,9),(34,10,10),(35,10,10),(36,10,10),(37,10,10)],cnt:=10 })]⟩
noncomputable def fd40:FD:=⟨Tryz.f40,[1,2],[(1,{ cons:=[(26,[29]),(28,[30])],imp:=[2,7,12,16,19,22,24,25],win:=[(3,1,1),(4,1,1),(5,1,1),(6,1,1),(7,1,1),(8,2,2),(9,2,2),(10,2,2),(11,2,2),(12,2,2),(13,3,7),(14,0,3),(15,0,3),(16,3,3),(17,0,4),(18,0,4),(19,4,4),(20,0,5),(21,0,5),(22,5,5),(23,6,6),(24,6,6),(25,7,7),(26,8,8),(27,8,8),(28,8,8),(29,8,8)],cnt:=8 })]⟩
noncomputable def fd41:FD:=⟨Tryz.f41,[8],[]⟩
noncomputable def fd42:FD:=⟨Tryz.f42,[1],[(1,{ imp:=[3,8],win:=[(4,0,1),(5,0,1),(6,0,1),(7,1,1),(8,1,1),(9,2,2)],cnt:=2 })]⟩
noncomputable def fd43:FD:=⟨Tryz.f43,[1,2],[]⟩
noncomputable def fd44:FD:=⟨Tryz.f44,[2],[]⟩
noncomputable def fd45:FD:=⟨Tryz.f45,[2],[]⟩
noncomputable def fd46:FD:=⟨Tryz.f46,[],[]⟩
noncomputable def fd47:FD:=⟨Tryz.f47,[],[(4,{ imp:=[4,14],win:=[(5,1,1),(6,1,1),(7,1,1),(8,1,1),(9,1,1),(10,1,1),(11,1,1),(12,1,1),(13,1,1),(14,1,1),(15,2,2),(16,2,2)],cnt:=2 })]⟩
noncomputable def fd48:FD:=⟨Tryz.f48,[],[]⟩
noncomputable def fd49:FD:=⟨Tryz.f49,[2,3],[(6,{ imp:=[7,19],win:=[(8,1,1),(9,1,1),(10,1,1),(11,1,1),(12,1,1),(13,1,1),(14,1,1),(15,1,1),(16,1,1),(17,1,1),(18,1,1),(19,1,1),(20,2,2),(21,2,2),(22,2,2),(23,2,2),(24,2,2),(25,2,2),(26,2,2),(27,2,2),(28,2,2),(29,2,2),(30,2,2),(31,2,2),(32,2,2),(33,2,2),(34,2,2),(35,2,2),(36,2,2),(37,2,2),(38,2,2),(39,2,2),(40,2,2),(41,2,2)],cnt:=2 })]⟩
noncomputable def fd50:FD:=⟨Tryz.f50,[1,3],[]⟩
noncomputable def fd51:FD:=⟨Tryz.f51,[2],[(4,{ imp:=[2,9],win:=[(3,1,1),(4,1,1),(5,1,1),(6,1,1),(7,1,1),(8,1,1),(9,1,1),(10,2,2)],cnt:=2 })]⟩
noncomputable def fd52:FD:=⟨Tryz.f52,[2],[]⟩
noncomputable def fd53:FD:=⟨Tryz.f53,[],[(1,{ cons:=[(10,[7]),(12,[10]),(14,[13])],imp:=[2,5,8,10,12,14],win:=[(3,0,1),(4,0,1),(5,1,1),(6,0,2),(7,0,2),(8,2,2),(9,1,3),(10,3,3),(11,4,4),(12,4,4),(13,5,5),(14,5,5)],cnt:=6 }),(5,{ cons:=[(8,[30])],imp:=[5,8],win:=[(0,0,1),(1,0,1),(2,0,1),(6,1,1),(7,1,1),(8,1,1)],cnt:=2 })]⟩
noncomputable def fd54:FD:=⟨Tryz.f54,[],[]⟩
noncomputable def fd55:FD:=⟨Tryz.f55,[1],[]⟩
noncomputable def fd56:FD:=⟨Tryz.f56,[2],[]⟩
noncomputable def fd57:FD:=⟨Tryz.f57,[],[]⟩
noncomputable def fd58:FD:=⟨Tryz.f58,[4,5],[(9,{ cons:=[(15,[49])],imp:=[9,12,15],win:=[(0,0,2),(1,0,1),(2,0,1),(3,0,1),(4,0,1),(5,0,1),(6,0,1),(7,0,1),(10,1,1),(11,1,1),(12,1,1),(13,2,2),(14,2,2),(15,2,2)],lf:=[(4,12)],cnt:=3 })]⟩
noncomputable def fd59:FD:=⟨Tryz.f59,[],[]⟩
noncomputable def fd60:FD:=⟨Tryz.f60,[4],[]⟩
noncomputable def fd61:FD:=⟨Tryz.f61,[],[(1,{ imp:=[10],win:=[(0,0,1),(1,0,1),(2,0,1),(3,0,1),(11,1,1),(12,1,1),(13,1,1)],cnt:=1 })]⟩
noncomputable def fd62:FD:=⟨Tryz.f62,[2,3],[(3,{ imp:=[2,4],win:=[(0,0,1),(1,0,1),(3,1,1),(4,1,1),(5,2,2),(6,2,2)],cnt:=2 })]⟩
noncomputable def fd63:FD:=⟨Tryz.f63,[4,5],[(3,{ imp:=[2,5,7],win:=[(0,0,2),(3,0,2),(4,0,1),(5,1,1),(6,2,2),(7,2,2),(8,3,3),(9,3,3)],cnt:=3 })]⟩
noncomputable def fd64:FD:=⟨Tryz.f64,[2],[(5,{ imp:=[4,17],win:=[(5,1,1),(6,1,1),(7,1,1),(8,1,1),(9,1,1),(10,1,1),(11,1,1),(12,1,1),(13,1,1),(14,1,1),(15,1,1),(16,1,1),(17,1,1),(18,2,2),(19,2,2)],cnt:=2 }),(10,{ cnt:=0 })]⟩
noncomputable def fd65:FD:=⟨Tryz.f65,[4],[]⟩
noncomputable def fd66:FD:=⟨Tryz.f66,[4,5],[(6,{ cons:=[(14,[36])],imp:=[11,14],win:=[(0,0,1),(12,1,1),(13,1,1),(14,1,1)],lf:=[(4,11)],cnt:=2 })]⟩
noncomputable def fd67:FD:=⟨Tryz.f67,[],[]⟩
noncomputable def fd68:FD:=⟨Tryz.f68,[],[(1,{ cons:=[(9,[14])],imp:=[1,8],win:=[(2,0,1),(3,0,1),(4,0,1),(5,0,1),(6,0,1),(7,0,1),(8,1,1),(9,2,2)],cnt:=2 })]⟩
noncomputable def fd69:FD:=⟨Tryz.f69,[2,3],[]⟩
noncomputable def fd70:FD:=⟨Tryz.f70,[4,5],[(3,{ imp:=[4,6],win:=[(0,0,1),(1,0,1),(2,0,1),(5,1,1),(6,1,1),(7,2,2),(8,2,2)],cnt:=2 })]⟩
noncomputable def fd71:FD:=⟨Tryz.f71,[],[]⟩
noncomputable def fd72:FD:=⟨Tryz.f72,[],[]⟩
noncomputable def fd73:FD:=⟨Tryz.f73,[4,7],[(7,{ cons:=[(17,[38])],imp:=[8,11,14,17,20],win:=[(1,0,1),(2,0,2),(3,0,3),(4,0,4),(5,0,3),(9,1,1),(10,1,1),(11,1,1),(12,2,2),(13,2,2),(14,2,2),(15,3,3),(16,3,3),(17,3,3),(18,4,4),(19,4,4),(20,4,4)],cnt:=5 }),(8,{ cons:=[(12,[58])],imp:=[5,7,12],win:=[(0,0,1),(1,0,1),(2,0,1),(3,0,1),(6,0,1),(7,1,1),(8,2,2),(9,2,2),(10,2,3),(11,0,2),(12,2,2),(13,3,3)],robs:=[279],res:=[(11,0)],cnt:=3 }),(10,{ cons:=[(11,[61]),(13,[72])],imp:=[8],win:=[(9,1,1),(10,1,1),(11,1,1),(12,1,1),(13,1,1)],cnt:=1 })]⟩
noncomputable def fd74:FD:=⟨Tryz.f74,[],[]⟩
noncomputable def fd75:FD:=⟨Tryz.f75,[4,6],[(3,{ cons:=[(11,[26])],imp:=[6,11],win:=[(7,1,1),(8,1,1),(9,1,2),(10,0,1),(11,1,1),(12,2,2)],robs:=[279],res:=[(10,0)],cnt:=2 }),(6,{ cons:=[(10,[39])],imp:=[3,8,9],win:=[(0,0,2),(4,0,2),(5,0,1),(6,0,1),(7,0,1),(8,1,1),(9,2,2),(10,3,3)],cnt:=3 })]⟩
noncomputable def fd76:FD:=⟨Tryz.f76,[6],[(5,{ cons:=[(6,[22]),(7,[26])],cnt:=0 })]⟩
noncomputable def fd77:FD:=⟨Tryz.f77,[5],[(3,{ cons:=[(13,[34])],imp:=[11,12],win:=[(0,0,1),(1,0,1),(2,0,1),(3,0,1),(4,0,1),(5,0,1),(6,0,1),(7,0,1),(8,0,1),(9,0,1),(12,1,1),(13,2,2)],cnt:=2 }),(7,{ cons:=[(24,[71])],imp:=[21,24],win:=[(0,0,1),(22,1,1),(23,1,1),(24,1,1)],lf:=[(4,21)],cnt:=2 }),(8,{ imp:=[10],cnt:=1 })]⟩
noncomputable def fd78:FD:=⟨Tryz.f78,[7],[(6,{ cnt:=0 }),(11,{ imp:=[7],win:=[(8,1,1)],cnt:=1 })]⟩
noncomputable def fd79:FD:=⟨Tryz.f79,[],[]⟩
noncomputable def fd80:FD:=⟨Tryz.f80,[],[]⟩
noncomputable def fd81:FD:=⟨Tryz.f81,[],[]⟩
noncomputable def fd82:FD:=⟨Tryz.f82,[2,3],[]⟩
noncomputable def fd83:FD:=⟨Tryz.f83,[3],[]⟩
noncomputable def fd84:FD:=⟨Tryz.f84,[],[]⟩
noncomputable def fd85:FD:=⟨Tryz.f85,[],[]⟩
noncomputable def fd86:FD:=⟨Tryz.f86,[],[]⟩
noncomputable def fd87:FD:=⟨Tryz.f87,[],[]⟩
noncomputable def fd88:FD:=⟨Tryz.f88,[3],[]⟩
noncomputable def fd89:FD:=⟨Tryz.f89,[4],[]⟩
noncomputable def fd90:FD:=⟨Tryz.f90,[],[]⟩
noncomputable def fd91:FD:=⟨Tryz.f91,[],[]⟩
noncomputable def fd92:FD:=⟨Tryz.f92,[4],[]⟩
noncomputable def fd93:FD:=⟨Tryz.f93,[1,2],[(1,{ cons:=[(8,[10])],imp:=[2,5,7],win:=[(3,0,1),(4,0,1),(5,1,1),(6,2,2),(7,2,2),(8,3,3)],cnt:=3 })]⟩
noncomputable def fd94:FD:=⟨Tryz.f94,[2],[]⟩
noncomputable def fd95:FD:=⟨Tryz.f95,[2],[]⟩
noncomputable def fd96:FD:=⟨Tryz.f96,[2,3],[]⟩
noncomputable def fd97:FD:=⟨Tryz.f97,[],[]⟩
noncomputable def fd98:FD:=⟨Tryz.f98,[],[]⟩
noncomputable def fd99:FD:=⟨Tryz.f99,[],[]⟩
noncomputable def fd100:FD:=⟨Tryz.f100,[2,5],[]⟩
noncomputable def fd101:FD:=⟨Tryz.f101,[8,3000013],[]⟩
noncomputable def fd102:FD:=⟨Tryz.f102,[6],[]⟩
noncomputable def fd103:FD:=⟨Tryz.f103,[1],[]⟩
noncomputable def fd104:FD:=⟨Tryz.f104,[1,2],[(4,{ cons:=[(14,[24])],imp:=[2,5,8,11,13],win:=[(3,0,1),(4,0,1),(5,1,1),(6,0,2),(7,0,2),(8,2,2),(9,0,3),(10,0,3),(11,3,3),(12,4,4),(13,4,4),(14,5,5)],cnt:=5 }),(7,{ cons:=[(17,[45])],imp:=[2,5,8,11,14,16],win:=[(3,0,1),(4,0,1),(5,1,1),(6,0,2),(7,0,2),(8,2,2),(9,0,3),(10,0,3),(11,3,3),(12,0,4),(13,0,4),(14,4,4),(15,5,5),(16,5,5),(17,6,6)],cnt:=6 }),(9,{ cons:=[(14,[61])],imp:=[3,7,11,13],win:=[(4,0,1),(5,0,1),(6,0,1),(7,1,1),(8,0,2),(9,0,2),(10,0,2),(11,2,2),(12,3,3),(13,3,3),(14,4,4)],cnt:=4 }),(11,{ cons:=[(10,[73])],imp:=[3,7,9],win:=[(4,0,1),(5,0,1),(6,0,1),(7,1,1),(8,2,2),(9,2,2),(10,3,3)],cnt:=3 }),(12,{ cons:=[(10,[83])],imp:=[3,7,9],win:=[(4,0,1),(5,0,1),(6,0,1),(7,1,1),(8,2,2),(9,2,2),(10,3,3)],cnt:=3 })]⟩
noncomputable def fd105:FD:=⟨Tryz.f105,[2],[]⟩
noncomputable def fd106:FD:=⟨Tryz.f106,[],[]⟩
noncomputable def fd107:FD:=⟨Tryz.f107,[],[]⟩
noncomputable def fd108:FD:=⟨Tryz.f108,[],[(4,{ imp:=[4],cnt:=1 })]⟩
noncomputable def fd109:FD:=⟨Tryz.f109,[2,3],[]⟩
noncomputable def fd110:FD:=⟨Tryz.f110,[2],[]⟩
noncomputable def fd111:FD:=⟨Tryz.f111,[],[]⟩
noncomputable def fd112:FD:=⟨Tryz.f112,[],[]⟩
noncomputable def fd113:FD:=⟨Tryz.f113,[],[]⟩
noncomputable def fd114:FD:=⟨Tryz.f114,[],[]⟩
noncomputable def fd115:FD:=⟨Tryz.f115,[2,3],[]⟩
noncomputable def fd116:FD:=⟨Tryz.f116,[3],[]⟩
noncomputable def fd117:FD:=⟨Tryz.f117,[4],[]⟩
noncomputable def fd118:FD:=⟨Tryz.f118,[2],[]⟩
noncomputable def fd119:FD:=⟨Tryz.f119,[2],[]⟩
noncomputable def fd120:FD:=⟨Tryz.f120,[6],[]⟩
noncomputable def fd121:FD:=⟨Tryz.f121,[],[(1,{ cons:=[(10,[7]),(12,[10]),(14,[13])],imp:=[2,5,8,10,12,14],win:=[(3,0,1),(4,0,1),(5,1,1),(6,0,2),(7,0,2),(8,2,2),(9,1,3),(10,3,3),(11,4,4),(12,4,4),(13,5,5),(14,5,5)],cnt:=6 }),(5,{ cons:=[(8,[30])],imp:=[5,8],win:=[(0,0,1),(1,0,1),(2,0,1),(6,1,1),(7,1,1),(8,1,1)],cnt:=2 })]⟩
noncomputable def fd122:FD:=⟨Tryz.f122,[],[]⟩
noncomputable def fd123:FD:=⟨Tryz.f123,[1],[]⟩
noncomputable def fd124:FD:=⟨Tryz.f124,[],[]⟩
noncomputable def fd125:FD:=⟨Tryz.f125,[],[(1,{ cons:=[(10,[7]),(12,[10]),(14,[13])],imp:=[2,5,8,10,12,14],win:=[(3,0,1),(4,0,1),(5,1,1),(6,0,2),(7,0,2),(8,2,2),(9,1,3),(10,3,3),(11,4,4),(12,4,4),(13,5,5),(14,5,5)],cnt:=6 }),(5,{ cons:=[(8,[30])],imp:=[5,8],win:=[(0,0,1),(1,0,1),(2,0,1),(6,1,1),(7,1,1),(8,1,1)],cnt:=2 })]⟩
noncomputable def fd126:FD:=⟨Tryz.f126,[],[]⟩
noncomputable def fd127:FD:=⟨Tryz.f127,[],[]⟩
noncomputable def fd128:FD:=⟨Tryz.f128,[1],[]⟩
noncomputable def fd129:FD:=⟨Tryz.f129,[3],[(5,{ cnt:=0 })]⟩
noncomputable def fd130:FD:=⟨Tryz.f130,[3,6,7],[]⟩
noncomputable def fd131:FD:=⟨Tryz.f131,[1],[(5,{ cons:=[(17,[27])],imp:=[17],cnt:=1 }),(12,{ cons:=[(14,[6]),(15,[57])],imp:=[8],win:=[(0,0,1),(1,0,1),(2,0,1),(3,0,1),(9,1,1),(10,0,1),(11,0,1),(12,1,1),(13,1,1),(14,1,1),(15,1,1)],ls:=[(0,14,6)],cnt:=1 }),(13,{ cons:=[(13,[69])],imp:=[5,13],win:=[(0,0,1),(1,0,1),(6,0,1),(7,0,1),(8,0,1),(9,0,1),(10,0,1),(11,1,1),(12,1,1),(13,1,1)],cnt:=2 })]⟩
noncomputable def fd132:FD:=⟨Tryz.f132,[],[]⟩
noncomputable def fd133:FD:=⟨Tryz.f133,[],[]⟩
noncomputable def fd134:FD:=⟨Tryz.f134,[4],[(3,{ cons:=[(10,[20])],imp:=[10],win:=[(8,0,1),(11,1,1)],robs:=[279],res:=[(9,0)],cnt:=1 })]⟩
noncomputable def fd135:FD:=⟨Tryz.f135,[],[(1,{ cons:=[(12,[14])],imp:=[10,12],win:=[(0,0,1),(1,0,1),(2,0,1),(3,0,1),(4,0,1),(11,1,1),(12,1,1)],cnt:=2 })]⟩
noncomputable def fd136:FD:=⟨Tryz.f136,[4,6,7,9],[(3,{ cons:=[(10,[26])],imp:=[7,10],win:=[(0,0,1),(8,1,1),(9,1,1),(10,1,1)],lf:=[(4,7)],cnt:=2 })]⟩
noncomputable def fd137:FD:=⟨Tryz.f137,[2,3,5],[(1,{ cons:=[(15,[19])],imp:=[10,13],win:=[(0,0,2),(1,0,2),(2,0,2),(3,0,2),(4,0,2),(5,0,1),(11,1,1),(12,0,1),(13,1,1),(14,2,2),(15,2,2)],cnt:=2 })]⟩
noncomputable def fd138:FD:=⟨Tryz.f138,[10],[]⟩
noncomputable def fd139:FD:=⟨Tryz.f139,[],[]⟩
noncomputable def fd140:FD:=⟨Tryz.f140,[7,8],[]⟩
noncomputable def fd141:FD:=⟨Tryz.f141,[],[]⟩
noncomputable def fd142:FD:=⟨Tryz.f142,[5],[]⟩
noncomputable def fd143:FD:=⟨Tryz.f143,[3],[(1,{ cnt:=0 }),(3,{ cons:=[(14,[20]),(16,[34])],imp:=[12],win:=[(13,1,1),(14,1,1),(15,1,1),(16,1,1),(17,1,1)],cnt:=1 }),(7,{ cnt:=0 }),(8,{ cons:=[(10,[66]),(11,[73])],imp:=[10,11],win:=[(2,0,1),(3,0,1),(4,0,1),(5,0,1),(6,0,1),(7,0,1),(8,0,1),(9,0,2),(11,1,1),(12,2,2)],cnt:=2 })]⟩
noncomputable def fd144:FD:=⟨Tryz.f144,[5,6,7],[(4,{ cons:=[(10,[26])],imp:=[10],win:=[(8,0,1),(11,1,1)],robs:=[279],res:=[(9,0)],cnt:=1 }),(7,{ imp:=[6],win:=[(0,0,1),(1,0,1),(2,0,1),(3,0,1),(4,0,1),(7,1,1)],cnt:=1 })]⟩
noncomputable def fd145:FD:=⟨Tryz.f145,[5,6,9],[(1,{ cnt:=0 }),(5,{ imp:=[11],win:=[(9,0,1),(12,1,1),(13,1,1),(14,1,1),(15,1,1)],cnt:=1 })]⟩
noncomputable def fd146:FD:=⟨Tryz.f146,[],[(14,{ imp:=[6],win:=[(7,1,1)],cnt:=1 }),(17,{ cons:=[(14,[90])],imp:=[14],win:=[(15,1,1)],cnt:=1 })]⟩
noncomputable def fd147:FD:=⟨Tryz.f147,[3],[(4,{ cnt:=0 })]⟩
noncomputable def fd148:FD:=⟨Tryz.f148,[],[]⟩
noncomputable def fd149:FD:=⟨Tryz.f149,[],[]⟩
noncomputable def fd150:FD:=⟨Tryz.f150,[],[(4,{ imp:=[3,6],win:=[(4,0,1),(5,0,1),(6,1,1),(7,2,2)],cnt:=2 })]⟩
noncomputable def fd151:FD:=⟨Tryz.f151,[],[]⟩
noncomputable def fd152:FD:=⟨Tryz.f152,[2],[]⟩
noncomputable def fd153:FD:=⟨Tryz.f153,[],[]⟩
noncomputable def fd154:FD:=⟨Tryz.f154,[],[]⟩
noncomputable def fd155:FD:=⟨Tryz.f155,[],[]⟩
noncomputable def fd156:FD:=⟨Tryz.f156,[2],[]⟩
noncomputable def fd157:FD:=⟨Tryz.f157,[2],[]⟩
noncomputable def fd158:FD:=⟨Tryz.f158,[],[(3,{ cons:=[(13,[21]),(15,[25])],imp:=[13,15],win:=[(2,0,1),(3,0,1),(14,1,1),(15,1,1)],cnt:=2 })]⟩
noncomputable def fd160:FD:=⟨Tryz.f160,[2],[(1,{ imp:=[1,3],win:=[(2,0,1),(3,1,1),(4,2,2),(5,2,2)],cnt:=2 }),(9,{ cons:=[(7,[51])],imp:=[7],cnt:=1 }),(11,{ cnt:=0 })]⟩
noncomputable def fd161:FD:=⟨Tryz.f161,[1],[]⟩
noncomputable def fd162:FD:=⟨Tryz.f162,[],[]⟩
noncomputable def fd163:FD:=⟨Tryz.f163,[1],[(1,{ cons:=[(9,[7]),(10,[9]),(11,[11])],imp:=[9,10,11],win:=[(2,0,1),(3,0,1),(4,0,2),(5,0,2),(10,1,1),(11,2,2)],robs:=[122,127,129],res:=[(6,0),(7,1),(8,2)],cnt:=3 })]⟩
noncomputable def fd164:FD:=⟨Tryz.f164,[1,2],[(1,{ cons:=[(11,[13])],imp:=[2,5,8,10],win:=[(3,0,1),(4,0,1),(5,1,1),(6,0,2),(7,0,2),(8,2,2),(9,3,3),(10,3,3),(11,4,4)],cnt:=4 })]⟩
noncomputable def fd165:FD:=⟨Tryz.f165,[],[]⟩
noncomputable def fd166:FD:=⟨Tryz.f166,[3],[]⟩
noncomputable def fd167:FD:=⟨Tryz.f167,[],[]⟩
noncomputable def fd168:FD:=⟨Tryz.f168,[],[]⟩
noncomputable def fd169:FD:=⟨Tryz.f169,[],[]⟩
noncomputable def fd170:FD:=⟨Tryz.f170,[3],[(4,{ cnt:=0 })]⟩
noncomputable def fd171:FD:=⟨Tryz.f171,[],[]⟩
noncomputable def fd172:FD:=⟨Tryz.f172,[3],[(4,{ imp:=[1],win:=[(2,0,1),(3,1,1),(4,0,1),(5,0,1),(6,0,1),(7,1,1),(8,1,1)],cnt:=1 })]⟩
noncomputable def fd173:FD:=⟨Tryz.f173,[],[]⟩
noncomputable def fd174:FD:=⟨Tryz.f174,[],[]⟩
noncomputable def fd175:FD:=⟨Tryz.f175,[1],[]⟩
noncomputable def fd176:FD:=⟨Tryz.f176,[6],[]⟩
noncomputable def fd177:FD:=⟨Tryz.f177,[],[(1,{ cons:=[(12,[18])],imp:=[8,12],win:=[(0,0,1),(1,0,1),(2,0,1),(3,0,1),(4,0,1),(5,0,1),(6,0,1),(9,0,1),(10,1,1),(11,1,1),(12,1,1)],cnt:=2 })]⟩
noncomputable def fd178:FD:=⟨Tryz.f178,[],[]⟩
noncomputable def fd179:FD:=⟨Tryz.f179,[],[(1,{ cons:=[(11,[15])],imp:=[5,7,11],win:=[(0,0,2),(1,0,2),(2,0,2),(3,0,2),(6,0,1),(7,1,1),(8,0,2),(9,2,2),(10,2,2),(11,2,2)],cnt:=3 })]⟩
noncomputable def fd180:FD:=⟨Tryz.f180,[],[]⟩
noncomputable def fd181:FD:=⟨Tryz.f181,[5,7],[(4,{ imp:=[6],win:=[(7,1,1),(8,1,1),(9,1,1),(10,1,1),(11,1,1),(12,1,1),(13,1,1)],cnt:=1 }),(5,{ imp:=[6],win:=[(7,1,1),(8,1,1),(9,1,1),(10,1,1),(11,1,1),(12,1,1),(13,1,1)],cnt:=1 }),(6,{ cnt:=0 }),(8,{ imp:=[7],win:=[(0,0,1),(1,0,1),(8,1,1),(9,1,1),(10,1,1),(11,1,1),(12,1,1),(13,1,1)],cnt:=1 })]⟩
noncomputable def fd182:FD:=⟨Tryz.f182,[5,7],[]⟩
noncomputable def fd183:FD:=⟨Tryz.f183,[4],[]⟩
noncomputable def fd184:FD:=⟨Tryz.f184,[],[]⟩
noncomputable def fd185:FD:=⟨Tryz.f185,[6],[(4,{ cons:=[(8,[29])],imp:=[7],win:=[(0,0,1),(1,0,1),(2,0,1),(3,0,1),(4,0,1),(8,1,1),(9,1,1)],cnt:=1 }),(5,{ imp:=[6,12],win:=[(7,0,1),(8,0,1),(9,0,1),(10,0,1),(11,0,1),(12,1,1),(13,2,2)],cnt:=2 })]⟩
noncomputable def fd186:FD:=⟨Tryz.f186,[],[]⟩
noncomputable def fd187:FD:=⟨Tryz.f187,[],[]⟩
noncomputable def fd188:FD:=⟨Tryz.f188,[3,4],[]⟩
noncomputable def fd189:FD:=⟨Tryz.f189,[4],[(1,{ cnt:=0 }),(3,{ imp:=[10],win:=[(11,1,1),(12,1,1),(13,1,1),(14,1,1),(15,1,1)],cnt:=1 })]⟩
noncomputable def fd190:FD:=⟨Tryz.f190,[2],[]⟩
noncomputable def fd191:FD:=⟨Tryz.f191,[3,4],[(1,{ cons:=[(12,[8]),(14,[20])],imp:=[10],win:=[(11,1,1),(12,1,1),(13,1,1),(14,1,1),(15,1,1)],cnt:=1 }),(4,{ imp:=[8],win:=[(9,1,1),(10,1,1)],cnt:=1 }),(6,{ imp:=[13],win:=[(14,1,1),(15,1,1)],cnt:=1 })]⟩
noncomputable def fd192:FD:=⟨Tryz.f192,[4,5],[(3,{ cnt:=0 }),(6,{ imp:=[5],win:=[(6,1,1)],cnt:=1 }),(10,{ cons:=[(10,[69])],imp:=[7,10],win:=[(0,0,1),(8,1,1),(9,1,1),(10,1,1)],lf:=[(4,7)],cnt:=2 })]⟩
noncomputable def fd193:FD:=⟨Tryz.f193,[],[]⟩
noncomputable def fd194:FD:=⟨Tryz.f194,[2],[]⟩
noncomputable def fd195:FD:=⟨Tryz.f195,[],[]⟩
noncomputable def fd196:FD:=⟨Tryz.f196,[],[]⟩
noncomputable def fd197:FD:=⟨Tryz.f197,[],[]⟩
noncomputable def fd198:FD:=⟨Tryz.f198,[],[]⟩
noncomputable def fd199:FD:=⟨Tryz.f199,[],[]⟩
noncomputable def fd200:FD:=⟨Tryz.f200,[],[]⟩
noncomputable def fd201:FD:=⟨Tryz.f201,[],[]⟩
noncomputable def fd202:FD:=⟨Tryz.f202,[],[]⟩
noncomputable def fd203:FD:=⟨Tryz.f203,[4],[]⟩
noncomputable def fd204:FD:=⟨Tryz.f204,[],[]⟩
noncomputable def fd205:FD:=⟨Tryz.f205,[],[(0,{ cons:=[(8,[9])],imp:=[8],cnt:=1 }),(2,{ cons:=[(8,[19])],imp:=[8],cnt:=1 })]⟩
noncomputable def fd206:FD:=⟨Tryz.f206,[],[(2,{ cons:=[(11,[15])],imp:=[11],cnt:=1 }),(3,{ cons:=[(13,[28])],imp:=[5,13],win:=[(0,0,1),(6,0,1),(7,0,1),(8,0,1),(9,0,1),(10,1,1),(11,0,1),(12,1,1),(13,1,1)],cnt:=2 }),(4,{ cons:=[(8,[36])],imp:=[5,8],win:=[(0,0,1),(6,0,1),(7,1,1),(8,1,1)],cnt:=2 }),(5,{ cons:=[(11,[47])],imp:=[11],cnt:=1 }),(6,{ cons:=[(13,[60])],imp:=[5,13],win:=[(0,0,1),(6,0,1),(7,0,1),(8,0,1),(9,0,1),(10,1,1),(11,0,1),(12,1,1),(13,1,1)],cnt:=2 }),(7,{ cons:=[(11,[71])],imp:=[11],cnt:=1 }),(8,{ cons:=[(13,[84])],imp:=[5,13],win:=[(0,0,1),(6,0,1),(7,0,1),(8,0,1),(9,0,1),(10,1,1),(11,0,1),(12,1,1),(13,1,1)],cnt:=2 }),(9,{ cons:=[(11,[95])],imp:=[11],cnt:=1 }),(10,{ cons:=[(13,[108])],imp:=[5,13],win:=[(0,0,1),(6,0,1),(7,0,1),(8,0,1),(9,0,1),(10,1,1),(11,0,1),(12,1,1),(13,1,1)],cnt:=2 }),(11,{ cons:=[(8,[116])],imp:=[5,8],win:=[(0,0,1),(6,0,1),(7,1,1),(8,1,1)],cnt:=2 })]⟩
noncomputable def fd207:FD:=⟨Tryz.f207,[1],[]⟩
noncomputable def fd208:FD:=⟨Tryz.f208,[],[]⟩
noncomputable def fd209:FD:=⟨Tryz.f209,[4,5],[]⟩
noncomputable def fd210:FD:=⟨Tryz.f210,[3],[(4,{ cnt:=0 })]⟩
noncomputable def fd211:FD:=⟨Tryz.f211,[2],[]⟩
noncomputable def fd212:FD:=⟨Tryz.f212,[],[]⟩
noncomputable def fd214:FD:=⟨Tryz.f214,[],[]⟩
noncomputable def fd215:FD:=⟨Tryz.f215,[],[(1,{ cons:=[(7,[11])],imp:=[5,7],win:=[(0,0,1),(1,0,1),(2,0,1),(3,0,1),(6,1,1),(7,1,1)],cnt:=2 })]⟩
noncomputable def fd216:FD:=⟨Tryz.f216,[3],[(1,{ imp:=[6],win:=[(7,1,1),(8,1,1),(9,1,1),(10,1,1),(11,1,1),(12,1,1),(13,1,1)],cnt:=1 }),(9,{ cons:=[(9,[70]),(11,[79])],imp:=[5,7],win:=[(0,0,1),(1,0,1),(2,0,1),(3,0,1),(6,0,1),(7,1,1),(8,2,2),(9,2,2),(10,2,2),(11,2,2),(12,2,2)],cnt:=2 })]⟩
noncomputable def fd217:FD:=⟨Tryz.f217,[4],[(1,{ imp:=[7],win:=[(0,0,1),(1,0,1),(2,0,1),(8,1,1)],cnt:=1 }),(3,{ imp:=[8],win:=[(9,1,1),(10,1,1),(11,1,1),(12,1,1),(13,1,1)],cnt:=1 })]⟩
noncomputable def fd218:FD:=⟨Tryz.f218,[5],[]⟩
noncomputable def fd219:FD:=⟨Tryz.f219,[3],[(2,{ cnt:=0 }),(3,{ imp:=[7],win:=[(8,1,1)],cnt:=1 }),(5,{ imp:=[10],win:=[(11,1,1),(12,1,1),(13,1,1),(14,1,1),(15,1,1)],cnt:=1 }),(9,{ imp:=[5],win:=[(6,1,1),(7,1,1),(8,1,1),(9,1,1),(10,1,1),(11,1,1),(12,1,1)],cnt:=1 })]⟩
noncomputable def fd220:FD:=⟨Tryz.f220,[5],[]⟩
noncomputable def fd221:FD:=⟨Tryz.f221,[],[]⟩
noncomputable def fd222:FD:=⟨Tryz.f222,[],[]⟩
noncomputable def fd223:FD:=⟨Tryz.f223,[1],[]⟩
noncomputable def fd224:FD:=⟨Tryz.f224,[],[]⟩
noncomputable def fd225:FD:=⟨Tryz.f225,[1],[]⟩
noncomputable def fd226:FD:=⟨Tryz.f226,[2],[]⟩
noncomputable def fd227:FD:=⟨Tryz.f227,[],[]⟩
noncomputable def fd228:FD:=⟨Tryz.f228,[],[(6,{ cnt:=0 })]⟩
noncomputable def fd229:FD:=⟨Tryz.f229,[1],[(2,{ imp:=[3,4],win:=[(0,0,1),(4,1,1)],cnt:=2 })]⟩
noncomputable def fd230:FD:=⟨Tryz.f230,[4],[]⟩
noncomputable def fd231:FD:=⟨Tryz.f231,[1,2],[(1,{ cons:=[(34,[37]),(36,[38])],imp:=[2,9,14,18,21,24,27,30,32,33],win:=[(3,1,1),(4,1,1),(5,1,1),(6,1,1),(7,1,1),(8,1,1),(9,1,1),(10,2,2),(11,2,2),(12,2,2),(13,2,2),(14,2,2),(15,3,9),(16,0,3),(17,0,3),(18,3,3),(19,0,4),(20,0,4),(21,4,4),(22,0,5),(23,0,5),(24,5,5),(25,0,6),(26,0,6),(27,6,6),(28,0,7),(29,0,7),(30,7,7),(31,8,8),(32,8,8),(33,9,9),(34,10,10),(35,10,10),(36,10,10),(37,10,10)],cnt:=10 })]⟩
noncomputable def fd232:FD:=⟨Tryz.f232,[4,5],[]⟩
noncomputable def fd233:FD:=⟨Tryz.f233,[],[]⟩
noncomputable def fd234:FD:=⟨Tryz.f234,[],[]⟩
noncomputable def fd235:FD:=⟨Tryz.f235,[6],[]⟩
noncomputable def fd236:FD:=⟨Tryz.f236,[4],[]⟩
noncomputable def fd237:FD:=⟨Tryz.f237,[4],[]⟩
noncomputable def fd238:FD:=⟨Tryz.f238,[2],[]⟩
noncomputable def fd239:FD:=⟨Tryz.f239,[3],[]⟩
noncomputable def fd240:FD:=⟨Tryz.f240,[],[]⟩
noncomputable def fd241:FD:=⟨Tryz.f241,[4],[]⟩
noncomputable def fd242:FD:=⟨Tryz.f242,[],[]⟩
noncomputable def fd243:FD:=⟨Tryz.f243,[],[(3,{ cons:=[(13,[21]),(15,[25])],imp:=[13,15],win:=[(2,0,1),(3,0,1),(14,1,1),(15,1,1)],cnt:=2 })]⟩
noncomputable def fd244:FD:=⟨Tryz.f244,[],[]⟩
noncomputable def fd245:FD:=⟨Tryz.f245,[],[]⟩
noncomputable def fd246:FD:=⟨Tryz.f246,[],[]⟩
noncomputable def fd247:FD:=⟨Tryz.f247,[],[]⟩
noncomputable def fd248:FD:=⟨Tryz.f248,[],[]⟩
noncomputable def fd249:FD:=⟨Tryz.f249,[],[]⟩
noncomputable def fd251:FD:=⟨Tryz.f251,[],[(4,{ cons:=[(12,[27])],imp:=[12],cnt:=1 }),(6,{ cons:=[(4,[32])],cnt:=0 })]⟩
noncomputable def fd252:FD:=⟨Tryz.f252,[],[]⟩
noncomputable def fd253:FD:=⟨Tryz.f253,[3,4],[]⟩
noncomputable def fd254:FD:=⟨Tryz.f254,[],[]⟩
noncomputable def fd255:FD:=⟨Tryz.f255,[],[]⟩
noncomputable def fd256:FD:=⟨Tryz.f256,[],[]⟩
noncomputable def fd257:FD:=⟨Tryz.f257,[],[]⟩
noncomputable def fd258:FD:=⟨Tryz.f258,[4],[]⟩
noncomputable def fd259:FD:=⟨Tryz.f259,[],[]⟩
noncomputable def fd260:FD:=⟨Tryz.f260,[2],[]⟩
noncomputable def fd261:FD:=⟨Tryz.f261,[3],[]⟩
noncomputable def fd262:FD:=⟨Tryz.f262,[4],[]⟩
noncomputable def fd263:FD:=⟨Tryz.f263,[4],[]⟩
noncomputable def fd264:FD:=⟨Tryz.f264,[],[]⟩
noncomputable def fd265:FD:=⟨Tryz.f265,[],[]⟩
noncomputable def fd266:FD:=⟨Tryz.f266,[],[]⟩
noncomputable def fd267:FD:=⟨Tryz.f267,[3,6],[]⟩
noncomputable def fd268:FD:=⟨Tryz.f268,[],[]⟩
noncomputable def fd269:FD:=⟨Tryz.f269,[],[]⟩
noncomputable def fd270:FD:=⟨Tryz.f270,[3],[(4,{ cnt:=0 })]⟩
noncomputable def fd271:FD:=⟨Tryz.f271,[8,31],[]⟩
noncomputable def fd272:FD:=⟨Tryz.f272,[],[]⟩
noncomputable def fd273:FD:=⟨Tryz.f273,[],[(6,{ cnt:=0 }),(7,{ imp:=[7],win:=[(8,1,1)],cnt:=1 }),(14,{ cnt:=0 }),(31,{ cnt:=0 })]⟩
noncomputable def fd274:FD:=⟨Tryz.f274,[],[]⟩
noncomputable def fd275:FD:=⟨Tryz.f275,[],[]⟩
noncomputable def fd277:FD:=⟨Tryz.f277,[],[(0,{ imp:=[4,5],win:=[(0,0,1),(1,0,1),(2,0,1),(5,1,1)],cnt:=2 })]⟩
noncomputable def fd278:FD:=⟨Tryz.f278,[3,4,5,6],[]⟩
noncomputable def fd279:FD:=⟨Tryz.f279,[1],[]⟩
noncomputable def fd280:FD:=⟨Tryz.f280,[3],[]⟩
noncomputable def fd281:FD:=⟨Tryz.f281,[4],[]⟩
noncomputable def fd282:FD:=⟨Tryz.f282,[],[]⟩
noncomputable def fd283:FD:=⟨Tryz.f283,[],[(2,{ cnt:=0 }),(4,{ cnt:=0 }),(6,{ cnt:=0 })]⟩
noncomputable def fd284:FD:=⟨Tryz.f284,[],[]⟩
noncomputable def fd285:FD:=⟨Tryz.f285,[2,3,4,10],[(6,{ cnt:=0 })]⟩
noncomputable def fd286:FD:=⟨Tryz.f286,[4,21],[]⟩
noncomputable def fd287:FD:=⟨Tryz.f287,[],[]⟩
noncomputable def fd288:FD:=⟨Tryz.f288,[],[]⟩
noncomputable def fd289:FD:=⟨Tryz.f289,[],[]⟩
noncomputable def fd290:FD:=⟨Tryz.f290,[],[]⟩
noncomputable def fd291:FD:=⟨Tryz.f291,[],[]⟩
noncomputable def fd297:FD:=⟨Tryz.f297,[],[]⟩
noncomputable def fd298:FD:=⟨Tryz.f298,[],[]⟩
noncomputable def fd299:FD:=⟨Tryz.f299,[3],[]⟩
noncomputable def fd300:FD:=⟨Tryz.f300,[],[]⟩
noncomputable def fd301:FD:=⟨Tryz.f301,[],[]⟩
noncomputable def fd302:FD:=⟨Tryz.f302,[],[]⟩
noncomputable def fd303:FD:=⟨Tryz.f303,[],[]⟩
noncomputable def fd304:FD:=⟨Tryz.f304,[],[]⟩
noncomputable def fd305:FD:=⟨Tryz.f305,[3000006],[]⟩
noncomputable def fd306:FD:=⟨Tryz.f306,[4],[]⟩
noncomputable def fd307:FD:=⟨Tryz.f307,[],[]⟩
noncomputable def fd308:FD:=⟨Tryz.f308,[],[]⟩
noncomputable def fd310:FD:=⟨Tryz.f310,[],[]⟩
noncomputable def fd311:FD:=⟨Tryz.f311,[],[]⟩
noncomputable def fd314:FD:=⟨Tryz.f314,[],[]⟩
noncomputable def fd315:FD:=⟨Tryz.f315,[],[]⟩
noncomputable def fd316:FD:=⟨Tryz.f316,[],[]⟩
noncomputable def fd317:FD:=⟨Tryz.f317,[],[(3,{ cnt:=0 })]⟩
noncomputable def fd318:FD:=⟨Tryz.f318,[],[]⟩
noncomputable def fd319:FD:=⟨Tryz.f319,[],[(1,{ cnt:=0 })]⟩
noncomputable def fd320:FD:=⟨Tryz.f320,[],[]⟩
noncomputable def fd330:FD:=⟨Tryz.f330,[],[(6,{ cnt:=0 })]⟩
noncomputable def fd331:FD:=⟨Tryz.f331,[],[]⟩
noncomputable def fd332:FD:=⟨Tryz.f332,[],[]⟩
noncomputable def fd333:FD:=⟨Tryz.f333,[],[]⟩
noncomputable def fd334:FD:=⟨Tryz.f334,[],[(0,{ cons:=[(15,[19])],imp:=[8],win:=[(9,0,1),(10,0,1),(11,0,1),(12,0,1),(13,0,1),(14,1,1),(15,1,1)],cnt:=1 })]⟩
noncomputable def fd335:FD:=⟨Tryz.f335,[],[]⟩
noncomputable def fd377:FD:=⟨Tryz.f377,[],[]⟩
noncomputable def ftA:Tr FD:=(.node (.node (.node (.node (.node (.node (.node (.node (.node .nil (some fd255) .nil) (some fd127) .nil) (some fd63) (.node (.node .nil (some fd319) .nil) (some fd191) .nil)) (some fd31) (.node (.node (.node .nil (some fd287) .nil) none .nil) (some fd95) (.node .nil (some fd223) .nil))) (some fd15) (.node (.node (.node (.node .nil (some fd271) .nil) (some fd143) .nil) (some fd79) (.node (.node .nil (some fd335) .nil) (some fd207) .nil)) (some fd47) (.node (.node (.node .nil (some fd303) .nil) (some fd175) .nil) (some fd111) (.node .nil (some fd239) .nil)))) (some fd7) (.node (.node (.node (.node (.node .nil (some fd263) .nil) (some fd135) .nil) (some fd71) (.node .nil (some fd199) .nil)) (some fd39) (.node (.node .nil (some fd167) .nil) (some fd103) (.node .nil (some fd231) .nil))) (some fd23) (.node (.node (.node (.node .nil (some fd279) .nil) (some fd151) .nil) (some fd87) (.node .nil (some fd215) .nil)) (some fd55) (.node (.node (.node .nil (some fd311) .nil) (some fd183) .nil) (some fd119) (.node .nil (some fd247) .nil))))) (some fd3) (.node (.node (.node (.node (.node (.node .nil (some fd259) .nil) (some fd131) .nil) (some fd67) (.node .nil (some fd195) .nil)) (some fd35) (.node (.node (.node .nil (some fd291) .nil) (some fd163) .nil) (some fd99) (.node .nil (some fd227) .nil))) (some fd19) (.node (.node (.node (.node .nil (some fd275) .nil) (some fd147) .nil) (some fd83) (.node .nil (some fd211) .nil)) (some fd51) (.node (.node (.node .nil (some fd307) .nil) (some fd179) .nil) (some fd115) (.node .nil (some fd243) .nil)))) (some fd11) (.node (.node (.node (.node (.node .nil (some fd267) .nil) (some fd139) .nil) (some fd75) (.node (.node .nil (some fd331) .nil) (some fd203) .nil)) (some fd43) (.node (.node (.node .nil (some fd299) .nil) (some fd171) .nil) (some fd107) (.node .nil (some fd235) .nil))) (some fd27) (.node (.node (.node (.node .nil (some fd283) .nil) (some fd155) .nil) (some fd91) (.node .nil (some fd219) .nil)) (some fd59) (.node (.node (.node .nil (some fd315) .nil) (some fd187) .nil) (some fd123) (.node .nil (some fd251) .nil)))))) none (.node (.node (.node (.node (.node (.node (.node .nil (some fd257) .nil) (some fd129) .nil) (some fd65) (.node .nil (some fd193) .nil)) (some fd33) (.node (.node (.node .nil (some fd289) .nil) (some fd161) .nil) (some fd97) (.node .nil (some fd225) .nil))) (some fd17) (.node (.node (.node (.node .nil (some fd273) .nil) (some fd145) .nil) (some fd81) (.node .nil (some fd209) .nil)) (some fd49) (.node (.node (.node .nil (some fd305) .nil) (some fd177) .nil) (some fd113) (.node .nil (some fd241) .nil)))) (some fd9) (.node (.node (.node (.node (.node .nil (some fd265) .nil) (some fd137) .nil) (some fd73) (.node .nil (some fd201) .nil)) (some fd41) (.node (.node (.node .nil (some fd297) .nil) (some fd169) .nil) (some fd105) (.node .nil (some fd233) .nil))) (some fd25) (.node (.node (.node (.node .nil (some fd281) .nil) (some fd153) .nil) (some fd89) (.node .nil (some fd217) .nil)) (some fd57) (.node (.node .nil (some fd185) .nil) (some fd121) (.node (.node .nil (some fd377) .nil) (some fd249) .nil))))) (some fd5) (.node (.node (.node (.node (.node (.node .nil (some fd261) .nil) (some fd133) .nil) (some fd69) (.node .nil (some fd197) .nil)) (some fd37) (.node (.node .nil (some fd165) .nil) (some fd101) (.node .nil (some fd229) .nil))) (some fd21) (.node (.node (.node (.node .nil (some fd277) .nil) (some fd149) .nil) (some fd85) .nil) (some fd53) (.node (.node .nil (some fd181) .nil) (some fd117) (.node .nil (some fd245) .nil)))) (some fd13) (.node (.node (.node (.node (.node .nil (some fd269) .nil) (some fd141) .nil) (some fd77) (.node (.node .nil (some fd333) .nil) (some fd205) .nil)) (some fd45) (.node (.node (.node .nil (some fd301) .nil) (some fd173) .nil) (some fd109) (.node .nil (some fd237) .nil))) (some fd29) (.node (.node (.node (.node .nil (some fd285) .nil) (some fd157) .nil) (some fd93) (.node .nil (some fd221) .nil)) (some fd61) (.node (.node (.node .nil (some fd317) .nil) (some fd189) .nil) (some fd125) (.node .nil (some fd253) .nil))))))) none (.node (.node (.node (.node (.node (.node (.node (.node .nil (some fd256) .nil) (some fd128) .nil) (some fd64) (.node (.node .nil (some fd320) .nil) (some fd192) .nil)) (some fd32) (.node (.node (.node .nil (some fd288) .nil) (some fd160) .nil) (some fd96) (.node .nil (some fd224) .nil))) (some fd16) (.node (.node (.node (.node .nil (some fd272) .nil) (some fd144) .nil) (some fd80) (.node .nil (some fd208) .nil)) (some fd48) (.node (.node (.node .nil (some fd304) .nil) (some fd176) .nil) (some fd112) (.node .nil (some fd240) .nil)))) (some fd8) (.node (.node (.node (.node (.node .nil (some fd264) .nil) (some fd136) .nil) (some fd72) (.node .nil (some fd200) .nil)) (some fd40) (.node (.node .nil (some fd168) .nil) (some fd104) (.node .nil (some fd232) .nil))) (some fd24) (.node (.node (.node (.node .nil (some fd280) .nil) (some fd152) .nil) (some fd88) (.node .nil (some fd216) .nil)) (some fd56) (.node (.node .nil (some fd184) .nil) (some fd120) (.node .nil (some fd248) .nil))))) (some fd4) (.node (.node (.node (.node (.node (.node .nil (some fd260) .nil) (some fd132) .nil) (some fd68) (.node .nil (some fd196) .nil)) (some fd36) (.node (.node .nil (some fd164) .nil) (some fd100) (.node .nil (some fd228) .nil))) (some fd20) (.node (.node (.node .nil (some fd148) .nil) (some fd84) (.node .nil (some fd212) .nil)) (some fd52) (.node (.node (.node .nil (some fd308) .nil) (some fd180) .nil) (some fd116) (.node .nil (some fd244) .nil)))) (some fd12) (.node (.node (.node (.node (.node .nil (some fd268) .nil) (some fd140) .nil) (some fd76) (.node (.node .nil (some fd332) .nil) (some fd204) .nil)) (some fd44) (.node (.node (.node .nil (some fd300) .nil) (some fd172) .nil) (some fd108) (.node .nil (some fd236) .nil))) (some fd28) (.node (.node (.node (.node .nil (some fd284) .nil) (some fd156) .nil) (some fd92) (.node .nil (some fd220) .nil)) (some fd60) (.node (.node (.node .nil (some fd316) .nil) (some fd188) .nil) (some fd124) (.node .nil (some fd252) .nil)))))) none (.node (.node (.node (.node (.node (.node (.node .nil (some fd258) .nil) (some fd130) .nil) (some fd66) (.node .nil (some fd194) .nil)) (some fd34) (.node (.node (.node .nil (some fd290) .nil) (some fd162) .nil) (some fd98) (.node .nil (some fd226) .nil))) (some fd18) (.node (.node (.node (.node .nil (some fd274) .nil) (some fd146) .nil) (some fd82) (.node .nil (some fd210) .nil)) (some fd50) (.node (.node (.node .nil (some fd306) .nil) (some fd178) .nil) (some fd114) (.node .nil (some fd242) .nil)))) (some fd10) (.node (.node (.node (.node (.node .nil (some fd266) .nil) (some fd138) .nil) (some fd74) (.node (.node .nil (some fd330) .nil) (some fd202) .nil)) (some fd42) (.node (.node (.node .nil (some fd298) .nil) (some fd170) .nil) (some fd106) (.node .nil (some fd234) .nil))) (some fd26) (.node (.node (.node (.node .nil (some fd282) .nil) (some fd154) .nil) (some fd90) (.node .nil (some fd218) .nil)) (some fd58) (.node (.node (.node .nil (some fd314) .nil) (some fd186) .nil) (some fd122) .nil)))) (some fd6) (.node (.node (.node (.node (.node (.node .nil (some fd262) .nil) (some fd134) .nil) (some fd70) (.node .nil (some fd198) .nil)) (some fd38) (.node (.node .nil (some fd166) .nil) (some fd102) (.node .nil (some fd230) .nil))) (some fd22) (.node (.node (.node (.node .nil (some fd278) .nil) (some fd150) .nil) (some fd86) (.node .nil (some fd214) .nil)) (some fd54) (.node (.node (.node .nil (some fd310) .nil) (some fd182) .nil) (some fd118) (.node .nil (some fd246) .nil)))) (some fd14) (.node (.node (.node (.node (.node .nil (some fd270) .nil) (some fd142) .nil) (some fd78) (.node (.node .nil (some fd334) .nil) (some fd206) .nil)) (some fd46) (.node (.node (.node .nil (some fd302) .nil) (some fd174) .nil) (some fd110) (.node .nil (some fd238) .nil))) (some fd30) (.node (.node (.node (.node .nil (some fd286) .nil) (some fd158) .nil) (some fd94) (.node .nil (some fd222) .nil)) (some fd62) (.node (.node (.node .nil (some fd318) .nil) (some fd190) .nil) (some fd126) (.node .nil (some fd254) .nil))))))))
end
end Go.Proofs.Tryz
/- order: 3 7 15 31 63 127 255 191 319 95 287 223 47 79 143 271 207 335 111 175 303 239 23 39 71 135 263 199 103 167 231 55 87 151 279 215 119 183 311 247 11 19 35 67 131 259 195 99 163 291 227 51 83 147 275 211 115 179 307 243 27 43 75 139 267 203 331 107 171 299 235 59 91 155 283 219 123 187 315 251 5 9 17 33 65 129 257 193 97 161 289 225 49 81 145 273 209 113 177 305 241 25 41 73 137 265 201 105 169 297 233 57 89 153 281 217 121 185 249 377 13 21 37 69 133 261 197 101 165 229 53 85 149 277 117 181 245 29 45 77 141 269 205 333 109 173 301 237 61 93 157 285 221 125 189 317 253 4 8 16 32 64 128 256 192 320 96 160 288 224 48 80 144 272 208 112 176 304 240 24 40 72 136 264 200 104 168 232 56 88 152 280 216 120 184 248 12 20 36 68 132 260 196 100 164 228 52 84 148 212 116 180 308 244 28 44 76 140 268 204 332 108 172 300 236 60 92 156 284 220 124 188 316 252 6 10 18 34 66 130 258 194 98 162 290 226 50 82 146 274 210 114 178 306 242 26 42 74 138 266 202 330 106 170 298 234 58 90 154 282 218 122 186 314 14 22 38 70 134 262 198 102 166 230 54 86 150 278 214 118 182 310 246 30 46 78 142 270 206 334 110 174 302 238 62 94 158 286 222 126 190 318 254 -/
/- The words that the walks use at home; export.py writes them out. -/
namespace Ps
open Go
end Ps
namespace Go.Proofs.Tryz
open Go Ps
theorem follows:prog.follows .mixedOrders=true:=by kernel_rfl
theorem depth6:6≤prog.depth:=by
 have h:Nat.ble 6 prog.depth=true:=by kernel_rfl
 exact zqh h
theorem fnS {tt : TT} {imm : List Nat} {f : Nat} {fn : Func} {args : List PV} {H : PH} {Q : PV → PH → Prop} (hT : ttOk prog tt = true) (hf : prog.funcs[f]? = some fn) (h : pFun2 prog tt imm fn args H Q) (hn : (fn.name == "runtime.NumGoroutine") = false := by kernel_rfl) : CK prog f args H Q :=
  callOk_of_pFun2 follows hT depth6 hf hn h
def tt240:TT:=[(3,⟨.int .i64,1,8,[.int .i64 0]⟩),(9,⟨.str,1,16,[.str []]⟩)]
theorem tt240_ok:ttOk prog tt240=true:=by kernel_rfl
def imm240:List Nat:=[]
def tt242:TT:=[(9,⟨.str,1,16,[.str []]⟩)]
theorem tt242_ok:ttOk prog tt242=true:=by kernel_rfl
def imm242:List Nat:=[]
def tt193:TT:=[(4,⟨.bool,1,1,[.bool false]⟩),(9,⟨.str,1,16,[.str []]⟩)]
theorem tt193_ok:ttOk prog tt193=true:=by kernel_rfl
def imm193:List Nat:=[]
def tt148:TT:=[(9,⟨.str,1,16,[.str []]⟩)]
theorem tt148_ok:ttOk prog tt148=true:=by kernel_rfl
def imm148:List Nat:=[]
theorem take_of_prefix {p s:List UInt8} (h:p.length≤s.length):(s.take p.length=p)↔p.isPrefixOf s=true:=by
 rw [List.isPrefixOf_iff_prefix,List.prefix_iff_eq_take];exact eq_comm
theorem c240 (s p:List UInt8):Pure prog 240 [.str s,.str p] (.bool (p.isPrefixOf s)):=by
 intro H
 (refine fnS (imm:=imm240) tt240_ok func240 ?_;(conv=>whnf))
 refine ⟨fun h=>?_,fun h=>?_⟩
 ·conv=>whnf
  have h:p.length≤s.length:=by omega
  refine ⟨⟨by omega,by omega,by omega⟩,?_⟩
  conv=>whnf
  simp only [Int.toNat_natCast,Int.toNat_zero,List.drop_zero]
  refine ⟨fun h2=>?_,fun h2=>?_⟩
  ·conv=>whnf
   exact ⟨by rw [(take_of_prefix h).1 h2];rfl,rfl⟩
  ·conv=>whnf
   have:p.isPrefixOf s=false:=by
    cases hb:p.isPrefixOf s with
    | false=>rfl
    | true=>exact absurd ((take_of_prefix h).2 hb) h2
   exact ⟨by rw [this];rfl,rfl⟩
 ·conv=>whnf
  have:p.isPrefixOf s=false:=by
   cases hb:p.isPrefixOf s with
   | false=>rfl
   | true =>
    have:=(List.isPrefixOf_iff_prefix.1 hb).length_le
    omega
  exact ⟨by rw [this];rfl,rfl⟩
theorem c242 (s p:List UInt8):Pure prog 242 [.str s,.str p] (.bool (p.isPrefixOf s)):=by
 intro H
 (refine fnS (imm:=imm242) tt242_ok func242 ?_;(conv=>whnf))
 (refine cP ((c240 s p)) ?_;try (conv=>whnf))
 exact ⟨rfl,rfl⟩
def cutP (s p:List UInt8):PV:=if p.isPrefixOf s then .tup [.str (s.drop p.length),.bool true] else .tup [.str s,.bool false]
theorem c193 (s p:List UInt8):Pure prog 193 [.str s,.str p] (cutP s p):=by
 intro H
 (refine fnS (imm:=imm193) tt193_ok func193 ?_;(conv=>whnf))
 refine cP (c240 s p) ?_
 unfold cutP
 cases hb:p.isPrefixOf s
 ·conv=>whnf
  exact ⟨rfl,rfl⟩
 ·conv=>whnf
  have:=(List.isPrefixOf_iff_prefix.1 hb).length_le
  refine ⟨⟨by omega,by omega,by omega⟩,?_⟩
  conv=>whnf
  refine ⟨?_,rfl⟩
  simp [tupOf]
theorem c148 (s p:List UInt8):Pure prog 148 [.str s,.str p] (cutP s p):=by
 intro H
 (refine fnS (imm:=imm148) tt148_ok func148 ?_;(conv=>whnf))
 refine cP (c193 s p) ?_
 unfold cutP
 cases hb:p.isPrefixOf s
 ·conv=>whnf
  exact ⟨rfl,rfl⟩
 ·conv=>whnf
  exact ⟨rfl,rfl⟩
def tt311:TT:=[(5,⟨.int .u8,1,1,[.int .u8 0]⟩),(9,⟨.str,1,16,[.str []]⟩)]
theorem tt311_ok:ttOk prog tt311=true:=by kernel_rfl
def imm311:List Nat:=[]
def tt310:TT:=[(3,⟨.int .i64,1,8,[.int .i64 0]⟩),(5,⟨.int .u8,1,1,[.int .u8 0]⟩),(9,⟨.str,1,16,[.str []]⟩)]
theorem tt310_ok:ttOk prog tt310=true:=by kernel_rfl
def imm310:List Nat:=[]
def tt288:TT:=[(9,⟨.str,1,16,[.str []]⟩)]
theorem tt288_ok:ttOk prog tt288=true:=by kernel_rfl
def imm288:List Nat:=[]
def tt287:TT:=[(3,⟨.int .i64,1,8,[.int .i64 0]⟩),(5,⟨.int .u8,1,1,[.int .u8 0]⟩),(9,⟨.str,1,16,[.str []]⟩)]
theorem tt287_ok:ttOk prog tt287=true:=by kernel_rfl
def imm287:List Nat:=[]
def tt271:TT:=[(3,⟨.int .i64,1,8,[.int .i64 0]⟩),(9,⟨.str,1,16,[.str []]⟩),(58,⟨.slice 9,1,24,[.slice 0 [] (some 9)]⟩)]
theorem tt271_ok:ttOk prog tt271=true:=by kernel_rfl
def tt241:TT:=[(3,⟨.int .i64,1,8,[.int .i64 0]⟩),(9,⟨.str,1,16,[.str []]⟩),(58,⟨.slice 9,1,24,[.slice 0 [] (some 9)]⟩)]
theorem tt241_ok:ttOk prog tt241=true:=by kernel_rfl
def imm241:List Nat:=[]
theorem c309 (s:List UInt8) (c:UInt8):Pure prog 309 [.str s,bC c] (.int .i64 (Lib.countByte s c)) :=
 pure_extern2 (e:=Extern.BytealgCount.count) func309 (by kernel_rfl) (by kernel_rfl) (by kernel_rfl) (by kernel_rfl) (run_count s c)
theorem c321 (s:List UInt8) (c:UInt8):Pure prog 321 [.str s,bC c] (.int .i64 (Lib.indexByte s c)) :=
 pure_extern2 (e:=Extern.BytealgIndexByte.indexByte) func321 (by kernel_rfl) (by kernel_rfl) (by kernel_rfl) (by kernel_rfl) (run_index s c)
theorem c311 (s:List UInt8) (c:UInt8):Pure prog 311 [.str s,bC c] (.int .i64 (Lib.indexByte s c)):=by
 intro H
 (refine fnS (imm:=imm311) tt311_ok func311 ?_;(conv=>whnf))
 (refine cP ((c321 s c)) ?_;try (conv=>whnf))
 exact ⟨rfl,rfl⟩
theorem c310 (s:List UInt8) (c:UInt8):Pure prog 310 [.str s,.str [c]] (.int .i64 (Lib.indexByte s c)):=by
 intro H
 (refine fnS (imm:=imm310) tt310_ok func310 ?_;(conv=>whnf))
 refine ⟨fun h=>absurd h (by simp),fun h=>?_⟩
 conv=>whnf
 refine ⟨fun h=>?_,fun h=>?_⟩
 ·subst h
  conv=>whnf
  exact ⟨by simp [Lib.indexByte,tupOf],rfl⟩
 ·conv=>whnf
  refine ⟨fun h1=>?_,fun h1=>absurd (by simp) h1⟩
  conv=>whnf
  refine ⟨⟨by omega,by simp⟩,c,rfl,?_⟩
  conv=>whnf
  (refine cP ((c311 s c)) ?_;try (conv=>whnf))
  exact ⟨rfl,rfl⟩
theorem c288 (s:List UInt8) (c:UInt8):Pure prog 288 [.str s,.str [c]] (.int .i64 (Lib.indexByte s c)):=by
 intro H
 (refine fnS (imm:=imm288) tt288_ok func288 ?_;(conv=>whnf))
 (refine cP ((c310 s c)) ?_;try (conv=>whnf))
 exact ⟨rfl,rfl⟩
theorem c287 (s:List UInt8) (c:UInt8):Pure prog 287 [.str s,.str [c]] (.int .i64 (Lib.countByte s c)):=by
 intro H
 (refine fnS (imm:=imm287) tt287_ok func287 ?_;(conv=>whnf))
 refine ⟨fun h=>absurd h (by simp),fun h=>?_⟩
 conv=>whnf
 refine ⟨fun h1=>?_,fun h1=>absurd (by simp) h1⟩
 conv=>whnf
 refine ⟨⟨by omega,by simp⟩,c,rfl,?_⟩
 conv=>whnf
 (refine cP ((c309 s c)) ?_;try (conv=>whnf))
 exact ⟨rfl,rfl⟩
def imm271':List Nat:=[31]
theorem c271 (s:List UInt8) (c:UInt8) (H:PH) (hs:s.length≤1099511627776) :
  CK prog 271 [.str s,.str [c],.int .i64 0,.int .i64 (-1)] H fun r H' =>
   r=.sref H.length 0 (splitB c s).length (splitB c s).length∧∃v,H'=H++[⟨9,(splitB c s).map .str,v⟩]:=by
 have hcl:=countB_le c s
 have hsl:=splitB_len c s
 refine callOk_of_pFun (tt:=tt271) (imm:=imm271') follows tt271_ok depth6 func271 (by kernel_rfl) ?_
 conv=>whnf
 refine ⟨fun h=>absurd h (by decide),fun h=>?_⟩
 conv=>whnf
 refine ⟨fun h=>absurd h (by simp),fun h=>?_⟩
 conv=>whnf
 refine ⟨fun h=>?_,fun h=>absurd (by decide) h⟩
 conv=>whnf
 refine cP (c287 s c) ?_
 conv=>whnf
 rw [w64 (by omega) (by omega),w64 (by omega) (by omega),Int.min_eq_left (by omega)]
 refine ⟨⟨by omega,by omega,by simp;omega⟩,?_⟩
 conv=>whnf
 refine lO (List UInt8×List (List UInt8)) (fun x=>[(0,.str x.1),(1,.str [c]),(2,.int .i64 0),(3,.int .i64 (Lib.countByte s c)),(9,.sref H.length 0 (splitB c s).length (splitB c s).length),(10,.int .i64 x.2.length)])
  (fun x=>H++[⟨9,x.2.map .str++List.replicate (Lib.countByte x.1 c+1) (.str []),x.2.length⟩])
  (fun x=>x.2++splitB c x.1=splitB c s∧x.1.length≤s.length) (fun x=>x.1.length) ⟨(s,[]),⟨rfl,zqn _⟩,?_,?_⟩ ?_
 ·refine ⟨rfl,rfl,rfl,?_,?_,rfl,zqv⟩
  ·show PV.int _ _=PV.int _ _
   rw [w64 (by omega) (by omega)];congr 1;omega
  ·show PV.sref _ _ _ _=PV.sref _ _ _ _
   congr 1 <;> omega
 ·show H++[PObj.mk _ _ _]=H++[PObj.mk _ _ _]
  rw [zerosOf_one]
  simp
 ·rintro ⟨r,done⟩ ⟨h1,h2⟩
  have hl:done.length+(splitB c r).length=(splitB c s).length:=by rw [←h1,zqf]
  have hrl:=splitB_len c r
  have h1:done++splitB c r=splitB c s:=h1
  have h2:r.length≤s.length:=h2
  have tail:splitB c r=[r]→setCells (0+(done.length:Int).toNat*1) [PV.str r] (done.map .str++List.replicate (Lib.countByte r c+1) (.str []))=(splitB c s).map .str:=fun hr=>by
   have hz:Lib.countByte r c=0:=by rw [hr] at hrl;simp at hrl;exact hrl
   rw [hz,←h1,hr]
   exact (setCells_one _ _ _ _ _ (by simp)).trans (by simp)
  conv=>whnf
  refine ⟨fun h3=>?_,fun h3=>?_⟩
  ·conv=>whnf
   refine cP (c288 r c) ?_
   conv=>whnf
   refine ⟨fun h4=>?_,fun h4=>?_⟩
   ·conv=>whnf
    rcases splitB_idx c r with ⟨i1,i2,i3⟩ | ⟨i,i1,_⟩
    ·have h3:(done.length:Int)<(Lib.countByte s c:Int):=h3
     refine ⟨⟨by omega,by omega⟩,?_⟩
     conv=>whnf
     rw [gL]
     conv=>whnf
     ((conv in (Nat.ble _ _)=>tactic=>exact (show Nat.ble (0+(done.length:Int).toNat*1+1) (done.map PV.str++List.replicate (Lib.countByte r c+1) (PV.str [])).length=true by rw [Nat.ble_eq];simp));(conv=>whnf))
     rw [w64 (by simp;omega) (by simp;omega)]
     refine ⟨⟨by omega,by simp;omega,by simp;omega⟩,fun _=>?_,fun hc=>absurd (by omega) hc⟩
     conv=>whnf
     refine ⟨?_,done.length+1,?_⟩
     ·show PV.sref _ _ _ _=PV.sref _ _ _ _
      congr 1 <;> simp <;> omega
     ·show (H++[_]).set _ _=_
      rw [sL]
      show H++[PObj.mk _ (setCells (0+(done.length:Int).toNat*1) [PV.str r] (done.map .str++List.replicate (Lib.countByte r c+1) (.str []))) _]=_
      rw [tail i2]
    ·omega
   ·conv=>whnf
    rcases splitB_idx c r with ⟨i1,_⟩ | ⟨i,i1,i2,i3,i4⟩
    ·omega
    ·have h3:(done.length:Int)<(Lib.countByte s c:Int):=h3
     rw [w64 (by omega) (by omega)]
     refine ⟨⟨by omega,by omega,by show Lib.indexByte r c+0≤(r.length:Int);omega⟩,?_⟩
     conv=>whnf
     refine ⟨⟨by show (0:Int)≤done.length;omega,by show (done.length:Int)<_;omega⟩,?_⟩
     conv=>whnf
     rw [gL]
     conv=>whnf
     ((conv in (Nat.ble _ _)=>tactic=>exact (show Nat.ble (0+(done.length:Int).toNat*1+1) (done.map PV.str++List.replicate (Lib.countByte r c+1) (PV.str [])).length=true by rw [Nat.ble_eq];simp));(conv=>whnf))
     rw [w64 (by simp;omega) (by simp;omega)]
     refine ⟨⟨by simp;omega,by simp;omega,by simp⟩,?_⟩
     conv=>whnf
     have e1:((Lib.indexByte r c+([c].length:Int)).toNat)=i+1:=by rw [i1];simp
     have e2:(Lib.indexByte r c+0).toNat=i:=by rw [i1];simp
     refine ⟨(r.drop (i+1),done++[r.take i]),⟨?_,?_⟩,⟨?_,rfl,rfl,rfl,rfl,?_,zqv⟩,?_,?_⟩
     ·show (done++[r.take i])++splitB c (r.drop (i+1))=_
      rw [←h1,i3];simp
     ·show (r.drop (i+1)).length≤_
      rw [List.length_drop];omega
     ·show PV.str ((r.take ((r.length:Int).toNat)).drop ((Lib.indexByte r c+([c].length:Int)).toNat))=PV.str _
      rw [e1];simp
     ·show PV.int _ (IntKind.i64.wrap ((done.length:Int)+1))=PV.int _ _
      rw [w64 (by omega) (by omega)];simp
     ·show (H++[_]).set _ _=_
      rw [sL]
      show H++[PObj.mk _ (setCells (0+(done.length:Int).toNat*1) [PV.str ((r.take (Lib.indexByte r c+0).toNat).drop 0)] (done.map .str++List.replicate (Lib.countByte r c+1) (.str []))) _]=_
      rw [e2,i4,List.replicate_succ,setCells_one _ _ _ _ _ (by simp)]
      simp
     ·show (r.drop (i+1)).length<r.length
      rw [List.length_drop];omega
  ·conv=>whnf
   have h3:¬(done.length:Int)<(Lib.countByte s c:Int):=h3
   have i2:splitB c r=[r]:=by
    rcases splitB_idx c r with ⟨_,i2,_⟩ | ⟨i,_,_,_,i4⟩
    ·exact i2
    ·omega
   have i3:Lib.countByte r c=0:=by rw [i2] at hrl;simp at hrl;exact hrl
   refine ⟨⟨by show (0:Int)≤(done.length:Int);omega,by show (done.length:Int)<_;omega⟩,?_⟩
   conv=>whnf
   rw [gL]
   conv=>whnf
   ((conv in (Nat.ble _ _)=>tactic=>exact (show Nat.ble (0+(done.length:Int).toNat*1+1) (done.map PV.str++List.replicate (Lib.countByte r c+1) (PV.str [])).length=true by rw [Nat.ble_eq];simp));(conv=>whnf))
   rw [w64 (by simp;omega) (by simp;omega)]
   refine ⟨⟨by omega,by simp;omega,by simp;omega⟩,fun _=>?_,fun hc=>absurd (by omega) hc⟩
   conv=>whnf
   refine ⟨?_,done.length+1,?_⟩
   ·show PV.sref _ _ _ _=PV.sref _ _ _ _
    congr 1 <;> simp <;> omega
   ·show (H++[_]).set _ _=_
    rw [sL]
    show H++[PObj.mk _ (setCells (0+(done.length:Int).toNat*1) [PV.str r] (done.map .str++List.replicate (Lib.countByte r c+1) (.str []))) _]=_
    rw [tail i2]
def tt169:TT:=[(3,⟨.int .i64,1,8,[.int .i64 0]⟩),(9,⟨.str,1,16,[.str []]⟩),(58,⟨.slice 9,1,24,[.slice 0 [] (some 9)]⟩)]
theorem tt169_ok:ttOk prog tt169=true:=by kernel_rfl
def imm169:List Nat:=[]
def tt113:TT:=[(3,⟨.int .i64,1,8,[.int .i64 0]⟩),(9,⟨.str,1,16,[.str []]⟩),(58,⟨.slice 9,1,24,[.slice 0 [] (some 9)]⟩),(209,⟨.fn,1,8,[.nilF]⟩)]
theorem tt113_ok:ttOk prog tt113=true:=by kernel_rfl
def imm113:List Nat:=[]
theorem c241 (s:List UInt8) (c:UInt8) (H:PH) (hs:s.length≤1099511627776) :
  CK prog 241 [.str s,.str [c]] H fun r H' =>
   r=.sref H.length 0 (splitB c s).length (splitB c s).length∧∃v,H'=H++[⟨9,(splitB c s).map .str,v⟩]:=by
 (refine fnS (imm:=imm241) tt241_ok func241 ?_;(conv=>whnf))
 refine cO (c271 s c H hs) ?_
 rintro _ _ ⟨rfl,v,rfl⟩
 conv=>whnf
 exact ⟨rfl,v,rfl⟩
def idxF (p:List UInt8→Bool):List (List UInt8)→Int
 | []=>-1
 | x::l=>if p x then 0 else (if idxF p l<0 then -1 else idxF p l+1)
theorem idxF_cons (p:List UInt8→Bool) (x:List UInt8) (l:List (List UInt8)):idxF p (x::l)=if p x then 0 else (if idxF p l<0 then -1 else idxF p l+1):=rfl
theorem idxF_ge (p:List UInt8→Bool):∀l,-1≤idxF p l
 | []=>by simp [idxF]
 | x::l=>by
  have:=idxF_ge p l
  unfold idxF
  split
  ·omega
  ·split <;> omega
theorem idxF_neg (p:List UInt8→Bool):∀l,0≤idxF p l↔l.any p=true
 | []=>by simp [idxF]
 | x::l=>by
  have:=idxF_neg p l
  have h2:=idxF_ge p l
  unfold idxF
  cases hp:p x
  ·simp only [hp,List.any_cons,zq7]
   rw [←this]
   by_cases h:idxF p l<0
   ·simp [h]
   ·simp [h];omega
  ·simp [hp]
theorem c169 (f id n:Nat) (p:List UInt8→Bool) (l:List (List UInt8)) (T v:Nat) (H:PH) (hid:H[id]? = some ⟨T,l.map .str,v⟩) (hn:n=l.length) (hs:l.length≤1099511627776)
  (hp:∀x∈l,Pure prog f [.str x] (.bool (p x))):CK prog 169 [.sref id 0 n n,.func f [] []] H fun r H'=>r=.int .i64 (idxF p l)∧H'=H:=by
 subst hn
 (refine fnS (imm:=imm169) tt169_ok func169 ?_;(conv=>whnf))
 refine lO Nat (fun i=>[(0,.sref id 0 l.length l.length),(1,.func f [] []),(7,.int .i64 l.length),(8,.int .i64 i)]) (fun _=>H)
  (fun i=>i≤l.length∧idxF p l=if idxF p (l.drop i)<0 then -1 else idxF p (l.drop i)+i) (fun i=>l.length - i) ⟨0,⟨Nat.zero_le _,by have:=idxF_ge p l;simp;omega⟩,⟨rfl,rfl,rfl,rfl,zqv⟩,rfl⟩ ?_
 rintro i ⟨h1,h2⟩
 conv=>whnf
 refine ⟨fun h3=>?_,fun h3=>?_⟩
 ·conv=>whnf
  have h3:(i:Int)<l.length:=h3
  have hi:i<l.length:=by omega
  have hgi:=zqc hi
  refine ⟨⟨by omega,by omega⟩,?_⟩
  conv=>whnf
  rw [hid]
  conv=>whnf
  generalize hd:dropN _ _=L
  have hL:=dropN_cells PV.str l hgi
  rw [show L=_ from hd.symm.trans hL]
  conv=>whnf
  refine cP (hp _ (List.getElem_mem hi)) ?_
  have hdr:=List.drop_eq_getElem_cons hi
  have hge:=idxF_ge p (l.drop (i+1))
  rw [hdr,idxF_cons] at h2
  cases hb:p l[i]
  ·conv=>whnf
   rw [hb] at h2
   refine ⟨i+1,⟨by omega,?_⟩,⟨rfl,rfl,rfl,?_,zqv⟩,rfl,by omega⟩
   ·rw [h2]
    simp only [Bool.false_eq_true,if_false]
    split <;> split <;> (try split) <;> omega
   ·show PV.int _ (IntKind.i64.wrap ((i:Int)+1))=PV.int _ _
    rw [w64 (by omega) (by omega)];simp
  ·conv=>whnf
   rw [hb] at h2
   refine ⟨?_,rfl⟩
   show PV.int _ _=PV.int _ _
   rw [h2];simp
 ·conv=>whnf
  have h3:¬(i:Int)<l.length:=h3
  refine ⟨?_,rfl⟩
  show PV.int _ _=PV.int _ _
  rw [h2,List.drop_eq_nil_of_le (by omega)];simp [idxF]
theorem c113 (f id n:Nat) (p:List UInt8→Bool) (l:List (List UInt8)) (T v:Nat) (H:PH) (hid:H[id]? = some ⟨T,l.map .str,v⟩) (hn:n=l.length) (hs:l.length≤1099511627776)
  (hp:∀x∈l,Pure prog f [.str x] (.bool (p x))):CK prog 113 [.sref id 0 n n,.func f [] []] H fun r H'=>r=.bool (l.any p)∧H'=H:=by
 (refine fnS (imm:=imm113) tt113_ok func113 ?_;(conv=>whnf))
 refine cO (c169 f id n p l T v H hid hn hs hp) ?_
 rintro _ _ ⟨rfl,rfl⟩
 conv=>whnf
 have:=idxF_neg p l
 refine ⟨fun h=>?_,fun h=>?_⟩
 ·conv=>whnf
  exact ⟨by rw [this.1 h];rfl,rfl⟩
 ·conv=>whnf
  refine ⟨?_,rfl⟩
  cases hb:l.any p with
  | false=>rfl
  | true=>exact absurd (this.2 hb) h
def tt243:TT:=[(3,⟨.int .i64,1,8,[.int .i64 0]⟩),(9,⟨.str,1,16,[.str []]⟩),(58,⟨.slice 9,1,24,[.slice 0 [] (some 9)]⟩)]
theorem tt243_ok:ttOk prog tt243=true:=by kernel_rfl
def imm243:List Nat:=[]
def D243:Draw:={ imp:=[13,15],win:=[(2,0,1),(3,0,1),(14,1,1),(15,1,1)] }
structure RevS where
 i:Nat
 cur:List (List UInt8)
 v:Nat
theorem c243 (id n:Nat) (l:List (List UInt8)) (T v:Nat) (H:PH) (hid:H[id]? = some ⟨T,l.map .str,v⟩) (hn:n=l.length) (hs:l.length≤1099511627776) :
  CK prog 243 [.sref id 0 n n] H fun r H'=>r=.tup []∧∃v',H'=H.set id ⟨T,l.reverse.map .str,v'⟩:=by
 subst hn
 (refine fnS (imm:=imm243) tt243_ok func243 ?_;(conv=>whnf))
 refine lO RevS (fun x=>[(0,.sref id 0 l.length l.length),(2,.int .i64 x.i),(3,.int .i64 ((l.length:Int) - 1 - x.i))]) (fun x=>H.set id ⟨T,x.cur.map .str,x.v⟩)
  (fun x=>x.i≤l.length∧x.cur.length=l.length∧∀k,k<l.length→x.cur[k]? = if k<x.i∨l.length - x.i≤k then l[l.length - 1 - k]? else l[k]?) (fun x=>l.length - x.i)
  ⟨⟨0,l,v⟩,⟨Nat.zero_le _,rfl,fun k hk=>by rw [zqo (by show ¬(k<0∨l.length - 0≤k);omega)]⟩,⟨rfl,rfl,?_,zqv⟩,(set_self hid).symm⟩ ?_
 ·show PV.int _ (IntKind.i64.wrap ((l.length:Int) - 1))=PV.int _ ((l.length:Int) - 1 - 0)
  rw [w64 (by omega) (by omega)];simp
 rintro ⟨i,cur,v⟩ ⟨h1,h2,h3⟩
 conv=>whnf
 refine ⟨fun h4=>?_,fun h4=>?_⟩
 ·conv=>whnf
  have h4:(i:Int)<(l.length:Int) - 1 - i:=h4
  have h2:cur.length=l.length:=h2
  have hi:i<cur.length:=by omega
  have hj:cur.length - 1 - i<cur.length:=by omega
  refine dO2 D243 [H.set id ⟨T,cur.map .str,v⟩,H.set id ⟨T,(cur.set i cur[cur.length - 1 - i]).map .str,v+1⟩,H.set id ⟨T,((cur.set i cur[cur.length - 1 - i]).set (cur.length - 1 - i) cur[i]).map .str,v+1+1⟩] (by kernel_rfl) rfl trivial ?_
  have g0:=gS (o':=⟨T,cur.map .str,v⟩) hid
  have hlen:H.length=H.length:=rfl
  conv=>whnf
  iterate 2 (refine dS ?_;(conv=>whnf))
  iterate 2 (refine dS2 ?_;(conv=>whnf))
  iterate 2 (refine dS ?_;(conv=>whnf))
  apply exA
  ·conv=>whnf
   refine ⟨⟨by omega,by omega⟩,rfl,rfl,zqv⟩
  conv=>whnf
  apply exA
  ·conv=>whnf
   ((conv in (_[_]?)=>tactic=>exact g0);(conv=>whnf))
   have e:((l.length:Int) - 1 - i).toNat=cur.length - 1 - i:=by omega
   have hL:dropN (0+((l.length:Int) - 1 - i).toNat*1) (cur.map PV.str)=PV.str cur[cur.length - 1 - i]::(cur.drop (cur.length - 1 - i+1)).map PV.str:=by rw [e];exact dropN_cells PV.str cur (zqc hj)
   generalize hd:dropN _ _=L
   rw [show L=_ from hd.symm.trans hL]
   conv=>whnf
   exact ⟨rfl,rfl,zqv⟩
  conv=>whnf
  iterate 2 (refine dS ?_;(conv=>whnf))
  apply exA
  ·conv=>whnf
   refine ⟨⟨by show (0:Int)≤(i:Int);omega,by show (i:Int)<l.length;omega⟩,rfl,rfl,zqv⟩
  conv=>whnf
  apply exA
  ·conv=>whnf
   ((conv in (_[_]?)=>tactic=>exact g0);(conv=>whnf))
   ((conv in (dropN _ _)=>tactic=>exact (dropN_cells PV.str cur (zqc hi)));(conv=>whnf))
   exact ⟨rfl,rfl,zqv⟩
  conv=>whnf
  apply exA
  ·conv=>whnf
   refine ⟨⟨by show (0:Int)≤(i:Int);omega,by show (i:Int)<l.length;omega⟩,rfl,rfl,zqv⟩
  conv=>whnf
  apply exA
  ·conv=>whnf
   ((conv in (_[_]?)=>tactic=>exact g0);(conv=>whnf))
   ((conv in (Nat.ble _ _)=>tactic=>exact (show Nat.ble (0+(i:Int).toNat*1+1) (cur.map PV.str).length=true by rw [Nat.ble_eq];simp;omega));(conv=>whnf))
   refine ⟨rfl,?_,zqv⟩
   show (H.set id ⟨T,cur.map .str,v⟩).set id ⟨T,setCells (0+(i:Int).toNat*1) [PV.str cur[cur.length - 1 - i]] (cur.map .str),v+1⟩=H.set id ⟨T,(cur.set i cur[cur.length - 1 - i]).map .str,v+1⟩
   rw [List.set_set,←setCells_map _ _ _ _ hi]
   simp
  conv=>whnf
  apply exA
  ·conv=>whnf
   refine ⟨⟨by omega,by omega⟩,rfl,rfl,zqv⟩
  conv=>whnf
  apply exA
  ·conv=>whnf
   ((conv in (_[_]?)=>tactic=>exact (gS (o':=⟨T,(cur.set i cur[cur.length - 1 - i]).map .str,v+1⟩) hid));(conv=>whnf))
   ((conv in (Nat.ble _ _)=>tactic=>exact (show Nat.ble (0+((l.length:Int) - 1 - i).toNat*1+1) ((cur.set i cur[cur.length - 1 - i]).map PV.str).length=true by rw [Nat.ble_eq];simp;omega));(conv=>whnf))
   refine ⟨rfl,?_,zqv⟩
   show (H.set id ⟨T,(cur.set i cur[cur.length - 1 - i]).map .str,v+1⟩).set id ⟨T,setCells (0+((l.length:Int) - 1 - i).toNat*1) [PV.str cur[i]] ((cur.set i cur[cur.length - 1 - i]).map .str),v+1+1⟩=H.set id _
   have e:0+((l.length:Int) - 1 - i).toNat*1=cur.length - 1 - i:=by omega
   rw [List.set_set,e,setCells_map PV.str (cur.set i cur[cur.length - 1 - i]) (cur.length - 1 - i) cur[i] (by simpa using hj)]
  conv=>whnf
  refine ⟨⟨i+1,(cur.set i cur[cur.length - 1 - i]).set (cur.length - 1 - i) cur[i],v+1+1⟩,⟨?_,?_,?_⟩,⟨rfl,?_,?_,zqv⟩,rfl,?_⟩
  ·show i+1≤l.length;omega
  ·show List.length _=_;simp;exact h2
  ·intro k hk
   show ((cur.set i _).set _ _)[k]? = if k<i+1∨l.length - (i+1)≤k then _ else _
   have h3k:=h3 k hk
   have h3k:cur[k]? = if k<i∨l.length - i≤k then l[l.length - 1 - k]? else l[k]?:=h3k
   have h3i:cur[i]? = if i<i∨l.length - i≤i then l[l.length - 1 - i]? else l[i]?:=h3 i (by omega)
   have h3j:cur[cur.length - 1 - i]? = if cur.length - 1 - i<i∨l.length - i≤cur.length - 1 - i then l[l.length - 1 - (cur.length - 1 - i)]? else l[cur.length - 1 - i]?:=h3 _ (by omega)
   rw [zqo (by omega),zqc hi] at h3i
   rw [zqo (by omega),zqc hj] at h3j
   simp only [List.getElem?_set]
   by_cases e1:cur.length - 1 - i=k
   ·subst e1
    rw [zqp rfl,zqp (by simpa using hj),zqp (by omega),h3i]
    congr 1;omega
   ·rw [zqo e1]
    by_cases e2:i=k
    ·subst e2
     rw [zqp rfl,zqp hi,zqp (by omega),h3j]
     congr 1;omega
    ·rw [zqo e2,h3k]
     by_cases e3:k<i∨l.length - i≤k
     ·rw [zqp e3,zqp (by omega)]
     ·rw [zqo e3,zqo (by omega)]
  ·show PV.int _ (IntKind.i64.wrap ((i:Int)+1))=PV.int _ _
   rw [w64 (by omega) (by omega)];simp
  ·show PV.int _ (IntKind.i64.wrap ((l.length:Int) - 1 - i - 1))=PV.int _ ((l.length:Int) - 1 - ((i+1:Nat):Int))
   rw [w64 (by omega) (by omega)];congr 1;omega
  ·show l.length - (i+1)<l.length - i
   omega
 ·conv=>whnf
  have h2:cur.length=l.length:=h2
  have h4:¬(i:Int)<(l.length:Int) - 1 - i:=h4
  have h1:i≤l.length:=h1
  refine ⟨rfl,v,?_⟩
  have hc:cur=l.reverse:=by
   apply List.ext_getElem?
   intro k
   rcases Nat.lt_or_ge k l.length with hk | hk
   ·have h3k:cur[k]? = if k<i∨l.length - i≤k then l[l.length - 1 - k]? else l[k]?:=h3 k hk
    rw [h3k,List.getElem?_reverse hk]
    by_cases e3:k<i∨l.length - i≤k
    ·rw [zqp e3]
    ·rw [zqo e3];congr 1;omega
   ·rw [List.getElem?_eq_none (by omega),List.getElem?_eq_none (by simpa using hk)]
  show H.set id ⟨T,cur.map PV.str,v⟩=_
  rw [hc]
def tt245:TT:=[(4,⟨.bool,1,1,[.bool false]⟩),(358,⟨.arr 256 4,256,256,List.replicate 256 (.bool false)⟩)]
theorem tt245_ok:ttOk prog tt245=true:=by kernel_rfl
def imm245:List Nat:=[]
def tt197:TT:=[(3,⟨.int .i64,1,8,[.int .i64 0]⟩),(4,⟨.bool,1,1,[.bool false]⟩),(5,⟨.int .u8,1,1,[.int .u8 0]⟩),(9,⟨.str,1,16,[.str []]⟩),(358,⟨.arr 256 4,256,256,List.replicate 256 (.bool false)⟩)]
theorem tt197_ok:ttOk prog tt197=true:=by kernel_rfl
def imm197:List Nat:=[]
def tt198:TT:=[(3,⟨.int .i64,1,8,[.int .i64 0]⟩),(4,⟨.bool,1,1,[.bool false]⟩),(5,⟨.int .u8,1,1,[.int .u8 0]⟩),(9,⟨.str,1,16,[.str []]⟩),(362,⟨.ptr,1,8,[.ptr none]⟩)]
theorem tt198_ok:ttOk prog tt198=true:=by kernel_rfl
def imm198:List Nat:=[]
def tt199:TT:=[(3,⟨.int .i64,1,8,[.int .i64 0]⟩),(4,⟨.bool,1,1,[.bool false]⟩),(5,⟨.int .u8,1,1,[.int .u8 0]⟩),(9,⟨.str,1,16,[.str []]⟩),(362,⟨.ptr,1,8,[.ptr none]⟩)]
theorem tt199_ok:ttOk prog tt199=true:=by kernel_rfl
def imm199:List Nat:=[]
def tt150:TT:=[(3,⟨.int .i64,1,8,[.int .i64 0]⟩),(4,⟨.bool,1,1,[.bool false]⟩),(5,⟨.int .u8,1,1,[.int .u8 0]⟩),(9,⟨.str,1,16,[.str []]⟩),(358,⟨.arr 256 4,256,256,List.replicate 256 (.bool false)⟩),(362,⟨.ptr,1,8,[.ptr none]⟩)]
theorem tt150_ok:ttOk prog tt150=true:=by kernel_rfl
def imm150:List Nat:=[]
def tt87:TT:=[(3,⟨.int .i64,1,8,[.int .i64 0]⟩),(9,⟨.str,1,16,[.str []]⟩)]
theorem tt87_ok:ttOk prog tt87=true:=by kernel_rfl
def imm87:List Nat:=[]
def tabB (p:Nat→Bool):List PV:=(List.range 256).map fun k=>.bool (p k)
theorem tabB_get (p:Nat→Bool) (c:UInt8):dropN (0+(c.toNat:Int).toNat*1) (tabB p)=.bool (p c.toNat)::(((List.range 256).drop (c.toNat+1)).map fun k=>.bool (p k)):=by
 have hc:c.toNat<256:=c.toNat_lt
 have h:(List.range 256)[c.toNat]? = some c.toNat:=by simp [hc]
 exact dropN_cells (fun k=>PV.bool (p k)) _ h
theorem c245 (p:Nat→Bool) (id T v:Nat) (c:UInt8) (H:PH) (hid:H[id]? = some ⟨T,tabB p,v⟩):CK prog 245 [.ptr (some (id,0)),bC c] H fun r H'=>r=.bool (p c.toNat)∧H'=H:=by
 have hc:c.toNat<256:=c.toNat_lt
 (refine fnS (imm:=imm245) tt245_ok func245 ?_;(conv=>whnf))
 refine ⟨⟨by omega,by omega⟩,?_⟩
 conv=>whnf
 ((conv in (_[_]?)=>tactic=>exact hid);(conv=>whnf))
 ((conv in (dropN _ _)=>tactic=>exact (tabB_get p c));(conv=>whnf))
 exact ⟨rfl,rfl⟩
theorem c198 (p:Nat→Bool) (id T v:Nat) (s:List UInt8) (H:PH) (hid:H[id]? = some ⟨T,tabB p,v⟩) (hs:s.length≤1099511627776) :
  CK prog 198 [.str s,.ptr (some (id,0))] H fun r H'=>r=.str (s.dropWhile fun c=>p c.toNat)∧H'=H:=by
 (refine fnS (imm:=imm198) tt198_ok func198 ?_;(conv=>whnf))
 refine lO (List UInt8) (fun x=>[(0,.str x),(1,.ptr (some (id,0)))]) (fun _=>H) (fun x=>x.dropWhile (fun c=>p c.toNat)=s.dropWhile (fun c=>p c.toNat)) (fun x=>x.length) ⟨s,rfl,⟨rfl,rfl,zqv⟩,rfl⟩ ?_
 intro x hx
 conv=>whnf
 refine ⟨fun h=>?_,fun h=>?_⟩
 ·conv=>whnf
  cases x with
  | nil=>simp at h
  | cons c x =>
   refine ⟨⟨by omega,by simp⟩,c,rfl,?_⟩
   conv=>whnf
   refine cO (c245 p id T v c H hid) ?_
   rintro _ _ ⟨rfl,rfl⟩
   cases hb:p c.toNat
   ·conv=>whnf
    refine ⟨?_,rfl⟩
    rw [←hx];simp [hb,tupOf]
   ·conv=>whnf
    refine ⟨⟨by omega,by simp <;> omega,by simp⟩,?_⟩
    conv=>whnf
    refine ⟨x,?_,⟨?_,rfl,zqv⟩,rfl,by simp⟩
    ·rw [←hx];simp [hb]
    ·show PV.str _=PV.str _
     simp
 ·conv=>whnf
  have:x=[]:=by
   cases x with
   | nil=>rfl
   | cons c x=>exact absurd (by simp <;> omega) h
  subst this
  refine ⟨?_,rfl⟩
  rw [←hx];rfl
def trimR (p:UInt8→Bool) (s:List UInt8):List UInt8:=(s.reverse.dropWhile p).reverse
theorem trimR_concat (p:UInt8→Bool) (x:List UInt8) (c:UInt8):trimR p (x++[c])=if p c then trimR p x else x++[c]:=by
 unfold trimR
 simp only [List.reverse_append,List.reverse_cons,List.reverse_nil,List.nil_append,List.singleton_append,List.dropWhile_cons]
 split <;> simp
theorem c199 (p:Nat→Bool) (id T v:Nat) (s:List UInt8) (H:PH) (hid:H[id]? = some ⟨T,tabB p,v⟩) (hs:s.length≤1099511627776) :
  CK prog 199 [.str s,.ptr (some (id,0))] H fun r H'=>r=.str (trimR (fun c=>p c.toNat) s)∧H'=H:=by
 (refine fnS (imm:=imm199) tt199_ok func199 ?_;(conv=>whnf))
 refine lO (List UInt8) (fun x=>[(0,.str x),(1,.ptr (some (id,0)))]) (fun _=>H) (fun x=>x.length≤s.length∧trimR (fun c=>p c.toNat) x=trimR (fun c=>p c.toNat) s) (fun x=>x.length) ⟨s,⟨zqn _,rfl⟩,⟨rfl,rfl,zqv⟩,rfl⟩ ?_
 rintro x ⟨hl,hx⟩
 conv=>whnf
 rcases List.eq_nil_or_concat x with rfl | ⟨x,c,rfl⟩
 ·refine ⟨fun h=>absurd h (by simp),fun h=>?_⟩
  conv=>whnf
  refine ⟨?_,rfl⟩
  rw [←hx];rfl
 ·refine ⟨fun h=>?_,fun h=>absurd (by simp <;> omega) h⟩
  simp only [List.concat_eq_append] at *
  have hl':x.length+1≤s.length:=by simpa using hl
  conv=>whnf
  have e:((IntKind.i64.wrap (((x++[c]).length:Int) - 1)))=(x.length:Int):=by
   rw [w64 (by simp <;> omega) (by simp <;> omega)];simp
  refine ⟨by show 0≤IntKind.i64.wrap _∧IntKind.i64.wrap _<_;rw [e];simp;omega,c,?_,?_⟩
  ·show (x++[c])[(IntKind.i64.wrap (((x++[c]).length:Int) - 1)).toNat]? = some c
   rw [e];simp
  conv=>whnf
  refine cO (c245 p id T v c H hid) ?_
  rintro _ _ ⟨rfl,rfl⟩
  rw [trimR_concat] at hx
  cases hb:p c.toNat
  ·conv=>whnf
   refine ⟨?_,rfl⟩
   rw [←hx];simp [hb,tupOf]
  ·conv=>whnf
   refine ⟨by show 0≤0∧0≤IntKind.i64.wrap _∧IntKind.i64.wrap _≤_;rw [e];simp;omega,?_⟩
   conv=>whnf
   refine ⟨x,⟨by omega,?_⟩,⟨?_,rfl,zqv⟩,rfl,by simp⟩
   ·rw [←hx];simp [hb]
   ·show PV.str (((x++[c]).take (IntKind.i64.wrap (((x++[c]).length:Int) - 1)).toNat).drop (Int.toNat 0))=PV.str _
    rw [e];simp
theorem tabB_len (p:Nat→Bool):(tabB p).length=256:=by simp [tabB]
theorem tabB_set (p:Nat→Bool) (c:UInt8):setCells (0+(c.toNat:Int).toNat*1) [.bool true] (tabB p)=tabB fun k=>p k||(c.toNat==k):=by
 have hc:c.toNat<256:=c.toNat_lt
 apply List.ext_getElem?
 intro j
 rw [setCells_get _ _ _ (by simp [tabB];omega)]
 simp only [tabB,List.getElem?_map,List.length_cons,List.length_nil]
 by_cases hj:j<256
 ·rw [List.getElem?_range hj]
  by_cases e:j=c.toNat
  ·subst e;simp
  ·rw [zqo (by omega)]
   have:(c.toNat==j)=false:=by simpa using fun h=>e h.symm
   simp [this]
 ·have hn:(List.range 256)[j]? = none:=List.getElem?_eq_none (by simpa using hj)
  rw [zqo (by omega),hn];rfl
theorem tabB_self (p:Nat→Bool):setCells 0 (cellsOf (.agg (((tabB p).take 256).map dem))) (tabB p)=tabB p:=by
 have h:((tabB p).take 256).map dem=tabB p:=by
  rw [List.take_of_length_le (by simp [tabB])]
  simp [tabB,dem]
 rw [h,setCells_eq _ _ _ (by simp [cellsOf])]
 simp [cellsOf]
theorem tabB_dem (p:Nat→Bool):((tabB p).take 256).map dem=tabB p:=by
 rw [List.take_of_length_le (by simp [tabB])]
 simp [tabB,dem]
theorem oldPs_tab (p:Nat→Bool):oldPs (tabB p)=true:=by
 unfold tabB
 generalize List.range 256=l
 induction l with
 | nil=>rfl
 | cons a l ih=>simp [oldPs,oldP,ih]
def inB (s:List UInt8) (k:Nat):Bool:=s.any fun c=>c.toNat==k
theorem c197 (s:List UInt8) (h0:∀c∈s,c.toNat<128) (hs:s.length≤1099511627776):Pure prog 197 [.str s] (.tup [.agg (tabB (inB s)),.bool true]):=by
 refine Pure.of_gc (by simp [oldR,oldPs,oldP,oldPs_tab]) fun H=>?_
 (refine fnS (imm:=imm197) tt197_ok func197 ?_;(conv=>whnf))
 refine lO Nat (fun i=>[(0,.str s),(2,.ptr (some (H.length,0))),(4,.int .i64 i)]) (fun i=>H++[⟨358,tabB (inB (s.take i)),i⟩]) (fun i=>i≤s.length) (fun i=>s.length - i) ⟨0,Nat.zero_le _,⟨rfl,rfl,rfl,zqv⟩,?_⟩ ?_
 ·show H++[PObj.mk _ _ _]=H++[PObj.mk _ _ _]
  congr 3
 rintro i hi
 conv=>whnf
 refine ⟨fun h=>?_,fun h=>?_⟩
 ·conv=>whnf
  have h:(i:Int)<s.length:=h
  have hi':i<s.length:=by omega
  refine ⟨⟨by omega,h⟩,s[i],zqc hi',?_⟩
  conv=>whnf
  have hc:=h0 s[i] (List.getElem_mem hi')
  refine ⟨fun h2=>absurd h2 (by omega),fun _=>?_⟩
  conv=>whnf
  refine ⟨⟨by omega,by omega⟩,?_⟩
  conv=>whnf
  ((conv in (_[_]?)=>tactic=>exact (gL H ⟨358,tabB (inB (s.take i)),i⟩));(conv=>whnf))
  ((conv in (Nat.ble _ _)=>tactic=>exact (show Nat.ble (0+(s[i].toNat:Int).toNat*1+1) (tabB (inB (s.take i))).length=true by rw [Nat.ble_eq,tabB_len];omega));(conv=>whnf))
  refine ⟨i+1,by omega,⟨rfl,rfl,?_,zqv⟩,?_,by omega⟩
  ·show PV.int _ (IntKind.i64.wrap ((i:Int)+1))=PV.int _ _
   rw [w64 (by omega) (by omega)];simp
  ·show (H++[_]).set _ _=_
   rw [sL]
   show H++[PObj.mk _ (setCells (0+(s[i].toNat:Int).toNat*1) [.bool true] (tabB (inB (s.take i)))) _]=H++[PObj.mk _ _ _]
   rw [tabB_set]
   have:inB (s.take (i+1))=fun k=>inB (s.take i) k||(s[i].toNat==k):=by
    funext k
    unfold inB
    rw [List.take_succ_eq_append_getElem hi',List.any_append]
    simp only [List.any_cons,List.any_nil,zq8]
   rw [this]
 ·conv=>whnf
  have h:¬(i:Int)<s.length:=h
  have e:s.take i=s:=List.take_of_length_le (by omega)
  rw [e,gL]
  conv=>whnf
  rw [gL]
  conv=>whnf
  have h2:((H++[PObj.mk 358 (tabB (inB s)) i]).set H.length ⟨358,setCells 0 (cellsOf (.agg (((tabB (inB s)).take 256).map dem))) (tabB (inB s)),i+1⟩)[H.length]? = some ⟨358,tabB (inB s),i+1⟩:=by
   rw [sL,tabB_self,gL]
  generalize hh:(setH _ _ _ _)[List.length H]? = X
  rw [show X=_ from hh.symm.trans h2]
  conv=>whnf
  refine ⟨?_,[⟨358,tabB (inB s),i+1⟩],?_⟩
  ·show PV.tup [.agg (((tabB (inB s)).take 256).map dem),.bool true]=_
   rw [tabB_dem]
  ·show (H++[PObj.mk 358 (tabB (inB s)) i]).set H.length ⟨358,setCells 0 (cellsOf (.agg (((tabB (inB s)).take 256).map dem))) (tabB (inB s)),i+1⟩=_
   rw [sL,tabB_self]
def trimB (s set:List UInt8):List UInt8:=(trimR (fun c=>inB set c.toNat) s).dropWhile fun c=>inB set c.toNat
theorem c150 (s set:List UInt8) (h0:∀c∈set,c.toNat<128) (h1:2≤set.length) (h2:set.length≤1099511627776) (hs:s.length≤1099511627776) :
  Pure prog 150 [.str s,.str set] (.str (trimB s set)):=by
 refine Pure.of_gc rfl fun H=>?_
 (refine fnS (imm:=imm150) tt150_ok func150 ?_;(conv=>whnf))
 refine ⟨fun h=>?_,fun h=>?_⟩
 ·have h:s=[]:=h
  subst h
  conv=>whnf
  exact ⟨rfl,[],by simp⟩
 conv=>whnf
 refine ⟨fun h=>?_,fun h=>?_⟩
 ·have h:set=[]:=h
  subst h
  simp at h1
 conv=>whnf
 refine ⟨fun h=>absurd h (by omega),fun h=>?_⟩
 conv=>whnf
 refine cP (c197 set h0 h2) ?_
 conv=>whnf
 rw [gL]
 conv=>whnf
 have hz:setCells 0 (tabB (inB set)) (List.replicate 256 (PV.bool false))=tabB (inB set):=by
  rw [setCells_eq _ _ _ (by simp [tabB])]
  simp [tabB]
 have hone:(tabB (inB set)).all oneP=true:=by simp [tabB,oneP]
 have hH:(H++[PObj.mk 358 (List.replicate 256 (PV.bool false)) 0]).set H.length ⟨358,setCells 0 (tabB (inB set)) (List.replicate 256 (PV.bool false)),0+1⟩=H++[⟨358,tabB (inB set),0+1⟩]:=by
  rw [sL,hz]
 refine cO (Q:=fun r H'=>r=.str (trimR (fun c=>inB set c.toNat) s)∧H'=H++[⟨358,tabB (inB set),0+1⟩]) ?_ ?_
 ·show CK prog 199 _ ((H++[PObj.mk 358 (List.replicate 256 (PV.bool false)) 0]).set H.length ⟨358,setCells 0 (tabB (inB set)) (List.replicate 256 (PV.bool false)),0+1⟩) _
  rw [hH]
  exact c199 (inB set) H.length 358 (0+1) s _ (gL H _) hs
 rintro _ _ ⟨rfl,rfl⟩
 conv=>whnf
 have hl:(trimR (fun c=>inB set c.toNat) s).length≤s.length:=by
  unfold trimR
  rw [List.length_reverse]
  exact Nat.le_trans (List.dropWhile_sublist _).length_le (by simp)
 refine cO (c198 (inB set) H.length 358 (0+1) (trimR (fun c=>inB set c.toNat) s) _ (gL H _) (by omega)) ?_
 rintro _ _ ⟨rfl,rfl⟩
 conv=>whnf
 exact ⟨rfl,_,rfl⟩
theorem takeWhile_mem {p:UInt8→Bool} {c:UInt8}:∀{l:List UInt8},c∈l.takeWhile p→p c=true
 | [],h=>by simp at h
 | x::l,h=>by
  rw [List.takeWhile_cons] at h
  split at h
  ·rcases List.mem_cons.1 h with rfl | h
   ·assumption
   ·exact takeWhile_mem h
  ·simp at h
theorem dropWhile_nil' (p:UInt8→Bool):∀l:List UInt8,l.dropWhile p=[]↔∀x∈l,p x=true
 | []=>by simp
 | x::l=>by
  have:=dropWhile_nil' p l
  rw [List.dropWhile_cons]
  cases h:p x
  ·simp [h]
  ·simp [h,this]
theorem trimB_nil (s set:List UInt8):trimB s set=[]↔s.all (fun c=>inB set c.toNat)=true:=by
 unfold trimB trimR
 rw [dropWhile_nil']
 constructor
 ·intro h
  rw [List.all_eq_true]
  intro c hc
  by_cases hd:c∈(s.reverse.dropWhile fun c=>inB set c.toNat).reverse
  ·exact h c hd
  ·have:c∈s.reverse:=by simpa using hc
   rw [←List.takeWhile_append_dropWhile (p:=fun c=>inB set c.toNat) (l:=s.reverse)] at this
   rcases List.mem_append.1 this with h2 | h2
   ·exact takeWhile_mem h2
   ·exact absurd (by simpa using h2) hd
 ·intro h c hc
  rw [List.all_eq_true] at h
  have hc2:c∈s.reverse:=(List.dropWhile_sublist _).subset (by simpa using hc)
  exact h c (by simpa using hc2)
def tt244:TT:=[(4,⟨.bool,1,1,[.bool false]⟩),(9,⟨.str,1,16,[.str []]⟩)]
theorem tt244_ok:ttOk prog tt244=true:=by kernel_rfl
def imm244:List Nat:=[]
def tt194:TT:=[(3,⟨.int .i64,1,8,[.int .i64 0]⟩),(9,⟨.str,1,16,[.str []]⟩),(58,⟨.slice 9,1,24,[.slice 0 [] (some 9)]⟩),(209,⟨.fn,1,8,[.nilF]⟩)]
theorem tt194_ok:ttOk prog tt194=true:=by kernel_rfl
def imm194:List Nat:=[]
def tt149:TT:=[(9,⟨.str,1,16,[.str []]⟩)]
theorem tt149_ok:ttOk prog tt149=true:=by kernel_rfl
def imm149:List Nat:=[]
def tt86:TT:=[(3,⟨.int .i64,1,8,[.int .i64 0]⟩),(9,⟨.str,1,16,[.str []]⟩)]
theorem tt86_ok:ttOk prog tt86=true:=by kernel_rfl
def imm86:List Nat:=[]
def tt85:TT:=[(4,⟨.bool,1,1,[.bool false]⟩),(9,⟨.str,1,16,[.str []]⟩)]
theorem tt85_ok:ttOk prog tt85=true:=by kernel_rfl
def imm85:List Nat:=[]
def tt35:TT:=[(9,⟨.str,1,16,[.str []]⟩),(51,⟨.strct [(9,0),(9,1)],2,32,[.str [],.str []]⟩)]
theorem tt35_ok:ttOk prog tt35=true:=by kernel_rfl
def imm35:List Nat:=[1]
def isWordB (s set:List UInt8):Bool:=decide (s≠[])&&(decide (s.length≤8)&&s.all (fun c=>inB set c.toNat))
theorem c87 (s set:List UInt8) (h0:∀c∈set,c.toNat<128) (h1:2≤set.length) (h2:set.length≤1099511627776):Pure prog 87 [.str s,.str set] (.bool (isWordB s set)):=by
 intro H
 (refine fnS (imm:=imm87) tt87_ok func87 ?_;(conv=>whnf))
 refine ⟨fun h=>?_,fun h=>?_⟩
 ·have h:s=[]:=h
  subst h
  conv=>whnf
  exact ⟨rfl,rfl⟩
 conv=>whnf
 have h:¬s=[]:=h
 refine ⟨fun h3=>?_,fun h3=>?_⟩
 ·conv=>whnf
  refine cP (c150 s set h0 h1 h2 (by omega)) ?_
  conv=>whnf
  refine ⟨fun h4=>?_,fun h4=>?_⟩
  ·conv=>whnf
   have:=(trimB_nil s set).1 h4
   refine ⟨?_,rfl⟩
   show PV.bool true=_
   unfold isWordB
   rw [this]
   have:s.length≤8:=by omega
   simp [h,this]
  ·conv=>whnf
   refine ⟨?_,rfl⟩
   show PV.bool false=_
   have:¬s.all (fun c=>inB set c.toNat)=true:=fun e=>h4 ((trimB_nil s set).2 e)
   unfold isWordB
   rw [Bool.not_eq_true] at this
   rw [this]
   simp
 ·conv=>whnf
  refine ⟨?_,rfl⟩
  show PV.bool false=_
  have:¬s.length≤8:=by omega
  unfold isWordB
  simp [this]
def upperB:List UInt8:=[65,66,67,68,69,70,71,72,73,74,75,76,77,78,79,80,81,82,83,84,85,86,87,88,89,90]
theorem c244 (s:List UInt8):Pure prog 244 [.str s] (.bool (!isWordB s upperB)):=by
 intro H
 (refine fnS (imm:=imm244) tt244_ok func244 ?_;(conv=>whnf))
 refine cP (c87 s upperB (by decide) (by decide) (by decide)) ?_
 cases isWordB s upperB
 ·conv=>whnf
  exact ⟨rfl,rfl⟩
 ·conv=>whnf
  exact ⟨rfl,rfl⟩
def badL (l:List (List UInt8)):Bool:=decide (4<l.length)||l.any fun s=>!isWordB s upperB
def labelsB (r:List UInt8):Nat×List (List UInt8):=match r with
 | 47::t=>if badL (splitB 47 t) then (0,[]) else (2,splitB 47 t)
 | _=>if badL (splitB 46 r) then (0,[]) else (1,(splitB 46 r).reverse)
def LabRes (r:List UInt8) (H:PH) (x:PV) (H':PH):Prop:=∃ext,H'=H++ext ∧
 (((labelsB r).1=0∧x=.tup [.slice 0 [] (some 9),.int .i64 0]) ∨
  ((labelsB r).1≠0∧∃id v,x=.tup [.sref id 0 (labelsB r).2.length (labelsB r).2.length,.int .i64 (labelsB r).1]∧H'[id]? = some ⟨9,(labelsB r).2.map .str,v⟩))
theorem c194 (r : List UInt8) (H : PH) (hs : r.length ≤ 1099511627775) : CK prog 194 [.str r] H (LabRes r H) := by
  (refine fnS (imm := imm194) tt194_ok func194 ?_; (conv => whnf))
  refine cO (c241 r 46 H (by omega)) ?_
  rintro _ _ ⟨rfl, v, rfl⟩
  conv => whnf
  refine cP (c242 r [47]) ?_
  cases hb : [47].isPrefixOf r
  · conv => whnf
    refine cO (c243 H.length _ (splitB 46 r) 9 v _ (gL H _) rfl (by have := countB_le 46 r; have := splitB_len 46 r; omega)) ?_
    rintro _ _ ⟨rfl, v', rfl⟩
    rw [sL]
    have hlb : labelsB r = if badL (splitB 46 r) then (0, []) else (1, (splitB 46 r).reverse) := by
      unfold labelsB
      split
      · simp at hb
      · rfl
    have hany : ((splitB 46 r).reverse).any (fun s => !isWordB s upperB) = (splitB 46 r).any (fun s => !isWordB s upperB) := by rw [List.any_reverse]
    have hn : (splitB 46 r).length = (splitB 46 r).reverse.length := by simp
    conv => whnf
    refine ⟨fun h4 => ?_, fun h4 => ?_⟩
    · conv => whnf
      have hbad : badL (splitB 46 r) = true := by unfold badL; have : 4 < (splitB 46 r).length := by omega
                                                  simp [this]
      refine ⟨_, rfl, .inl ⟨by rw [hlb, hbad]; rfl, rfl⟩⟩
    · conv => whnf
      refine cO (c113 244 H.length _ (fun s => !isWordB s upperB) (splitB 46 r).reverse 9 v' _ (gL H _) hn (by omega) (fun x _ => c244 x)) ?_
      rintro _ _ ⟨rfl, rfl⟩
      rw [hany]
      have h4' : ¬ 4 < (splitB 46 r).length := by omega
      cases hany2 : (splitB 46 r).any (fun s => !isWordB s upperB)
      · conv => whnf
        have hbad : badL (splitB 46 r) = false := by unfold badL; rw [hany2]; simp [h4']
        refine ⟨_, rfl, .inr ⟨by rw [hlb, hbad]; simp, H.length, v', ?_, ?_⟩⟩
        · rw [hlb, hbad]
          show PV.tup _ = PV.tup _
          simp
        · rw [gL, hlb, hbad]; rfl
      · conv => whnf
        have hbad : badL (splitB 46 r) = true := by unfold badL; rw [hany2]; simp
        refine ⟨_, rfl, .inl ⟨by rw [hlb, hbad]; rfl, rfl⟩⟩
  · obtain ⟨t, rfl⟩ : ∃ t, r = 47 :: t := by
      cases r with
      | nil => simp at hb
      | cons x t => 
        have hx : x = 47 := by simpa using (by simpa using hb : (47 : UInt8) = x).symm
        exact ⟨t, by rw [hx]⟩
    conv => whnf
    refine ⟨⟨by omega, by simp <;> omega, by simp⟩, ?_⟩
    have hst : t.length ≤ 1099511627776 := by simp at hs; omega
    have hc := countB_le 47 t
    have hc2 := splitB_len 47 t
    conv => whnf
    refine cO (Q := fun r H' => r = .sref (H ++ [PObj.mk 9 ((splitB 46 (47 :: t)).map .str) v]).length 0 (splitB 47 t).length (splitB 47 t).length ∧ ∃ v2, H' = (H ++ [PObj.mk 9 ((splitB 46 (47 :: t)).map .str) v]) ++ [⟨9, (splitB 47 t).map .str, v2⟩]) ?_ ?_
    · show CK prog 241 [.str (((47 :: t).take ((47 :: t).length : Int).toNat).drop (1 : Int).toNat), .str [47]] _ _
      have e : ((47 :: t).take ((47 :: t).length : Int).toNat).drop (1 : Int).toNat = t := by simp
      rw [e]
      exact c241 t 47 _ hst
    rintro _ _ ⟨rfl, v2, rfl⟩
    conv => whnf
    have hlb : labelsB (47 :: t) = if badL (splitB 47 t) then (0, []) else (2, splitB 47 t) := rfl
    refine ⟨fun h4 => ?_, fun h4 => ?_⟩
    · conv => whnf
      have hbad : badL (splitB 47 t) = true := by
        unfold badL
        have : 4 < (splitB 47 t).length := by omega
        simp [this]
      refine ⟨_, List.append_assoc _ _ _, .inl ⟨by rw [hlb, hbad]; rfl, rfl⟩⟩
    · conv => whnf
      refine cO (c113 244 _ _ (fun s => !isWordB s upperB) (splitB 47 t) 9 v2 _ (gL _ _) rfl (by omega) (fun x _ => c244 x)) ?_
      rintro _ _ ⟨rfl, rfl⟩
      have h4' : ¬ 4 < (splitB 47 t).length := by omega
      cases hany2 : (splitB 47 t).any (fun s => !isWordB s upperB)
      · conv => whnf
        have hbad : badL (splitB 47 t) = false := by unfold badL; rw [hany2]; simp [h4']
        refine ⟨_, List.append_assoc _ _ _, .inr ⟨by rw [hlb, hbad]; simp, (H ++ [PObj.mk 9 ((splitB 46 (47 :: t)).map .str) v]).length, v2, ?_, ?_⟩⟩
        · rw [hlb, hbad]; rfl
        · rw [gL, hlb, hbad]; rfl
      · conv => whnf
        have hbad : badL (splitB 47 t) = true := by unfold badL; rw [hany2]; simp
        refine ⟨_, List.append_assoc _ _ _, .inl ⟨by rw [hlb, hbad]; rfl, rfl⟩⟩
theorem c149 (r:List UInt8) (hs:r.length≤1099511627775):Pure prog 149 [.str r] (.int .i64 (labelsB r).1):=by
 refine Pure.of_gc rfl fun H=>?_
 (refine fnS (imm:=imm149) tt149_ok func149 ?_;(conv=>whnf))
 refine cO (c194 r H hs) ?_
 rintro _ _ ⟨ext,rfl,⟨h1,rfl⟩ | ⟨h1,id,v,rfl,h2⟩⟩
 ·conv=>whnf
  exact ⟨by rw [h1];rfl,ext,rfl⟩
 ·conv=>whnf
  exact ⟨rfl,ext,rfl⟩
theorem c86 (r:List UInt8) (hs:r.length≤1099511627775):Pure prog 86 [.str r] (.bool (decide ((labelsB r).1≠0))):=by
 intro H
 (refine fnS (imm:=imm86) tt86_ok func86 ?_;(conv=>whnf))
 refine cP (c149 r hs) ?_
 conv=>whnf
 refine ⟨fun h=>?_,fun h=>?_⟩
 ·conv=>whnf
  have:(labelsB r).1=0:=by omega
  exact ⟨by simp [this,tupOf],rfl⟩
 ·conv=>whnf
  have:(labelsB r).1≠0:=by omega
  exact ⟨by simp [this,tupOf],rfl⟩
def krbB:List UInt8:=[107,114,98,116,103,116,47]
def smallB:List UInt8:=[97,98,99,100,101,102,103,104,105,106,107,108,109,110,111,112,113,114,115,116,117,118,119,120,121,122,48,49,50,51,52,53,54,55,56,57]
def isRealmB (r:List UInt8):Bool:=decide ((labelsB r).1≠0)
def targetB (n:List UInt8):List UInt8×Bool:=if krbB.isPrefixOf n&&isRealmB (n.drop 7) then (n.drop 7,true) else ([],false)
def isPrincB (realm name:List UInt8):Bool:=isRealmB realm&&((targetB name).2||isWordB name smallB)
theorem c85 (n:List UInt8) (hs:n.length≤1099511627775):Pure prog 85 [.str n] (.tup [.str (targetB n).1,.bool (targetB n).2]):=by
 intro H
 (refine fnS (imm:=imm85) tt85_ok func85 ?_;(conv=>whnf))
 refine cP (c148 n krbB) ?_
 unfold cutP targetB
 cases hb:krbB.isPrefixOf n
 ·conv=>whnf
  exact ⟨rfl,rfl⟩
 ·conv=>whnf
  refine cP (c86 (n.drop 7) (by rw [List.length_drop];omega)) ?_
  show _
  unfold isRealmB
  cases hr:decide ((labelsB (n.drop 7)).1≠0)
  ·conv=>whnf
   exact ⟨rfl,rfl⟩
  ·conv=>whnf
   exact ⟨rfl,rfl⟩
theorem c35 (realm name:List UInt8) (h1:realm.length≤1099511627775) (h2:name.length≤1099511627775):Pure prog 35 [.agg [.str realm,.str name]] (.bool (isPrincB realm name)):=by
 intro H
 (refine fnS (imm:=imm35) tt35_ok func35 ?_;(conv=>whnf))
 refine cP (c85 name h2) ?_
 conv=>whnf
 refine cP (c86 realm h1) ?_
 unfold isPrincB isRealmB
 cases hr:decide ((labelsB realm).1≠0)
 ·conv=>whnf
  exact ⟨rfl,rfl⟩
 ·cases ht:(targetB name).2
  ·conv=>whnf
   refine cP (c87 name smallB (by decide) (by decide) (by decide)) ?_
   cases isWordB name smallB
   ·conv=>whnf
    exact ⟨rfl,rfl⟩
   ·conv=>whnf
    exact ⟨rfl,rfl⟩
  ·conv=>whnf
   exact ⟨rfl,rfl⟩
def tt209:TT:=[(3,⟨.int .i64,1,8,[.int .i64 0]⟩),(5,⟨.int .u8,1,1,[.int .u8 0]⟩),(9,⟨.str,1,16,[.str []]⟩),(58,⟨.slice 9,1,24,[.slice 0 [] (some 9)]⟩)]
theorem tt209_ok:ttOk prog tt209=true:=by kernel_rfl
def imm209:List Nat:=[]
theorem splitB_at (c:UInt8):∀(x y:List UInt8),(∀b∈x,b≠c)→splitB c (x++c::y)=x::splitB c y
 | [],y,_=>by simp [splitB]
 | b::x,y,h=>by
  have ih:=splitB_at c x y fun b hb=>h b (List.mem_cons_of_mem _ hb)
  simp [splitB,h b List.mem_cons_self,ih]
theorem splitB_no (c:UInt8):∀(x:List UInt8),(∀b∈x,b≠c)→splitB c x=[x]
 | [],_=>rfl
 | b::x,h=>by
  have ih:=splitB_no c x fun b hb=>h b (List.mem_cons_of_mem _ hb)
  simp [splitB,h b List.mem_cons_self,ih]
structure SpS where
 i:Nat
 fr:Nat
 l:List (List UInt8)
theorem c209 (s:List UInt8) (c:UInt8) (hs:s.length≤1099511627776):Pure prog 209 [.str s,bC c] (.slice (splitB c s).length ((splitB c s).map .str) (some 9)):=by
 intro H
 (refine fnS (imm:=imm209) tt209_ok func209 ?_;(conv=>whnf))
 refine lO SpS (fun x=>[(0,.str s),(1,bC c),(5,.slice x.l.length (x.l.map .str) (some 9)),(6,.int .i64 x.fr),(7,.int .i64 x.i)]) (fun _=>H)
  (fun x=>x.fr≤x.i∧x.i≤s.length∧x.l.length≤x.i∧(∀b∈(s.drop x.fr).take (x.i - x.fr),b≠c)∧x.l++splitB c (s.drop x.fr)=splitB c s) (fun x=>s.length - x.i)
  ⟨⟨0,0,[]⟩,⟨zqn _,Nat.zero_le _,Nat.zero_le _,by simp,rfl⟩,⟨rfl,rfl,rfl,rfl,rfl,zqv⟩,rfl⟩ ?_
 rintro ⟨i,fr,l⟩ ⟨h1,h2,h3,h4,h5⟩
 have h1:fr≤i:=h1
 have h2:i≤s.length:=h2
 have h3:l.length≤i:=h3
 have h4:∀b∈(s.drop fr).take (i - fr),b≠c:=h4
 have h5:l++splitB c (s.drop fr)=splitB c s:=h5
 conv=>whnf
 refine ⟨fun h=>?_,fun h=>?_⟩
 ·conv=>whnf
  have h:(i:Int)<s.length:=h
  have hi:i<s.length:=by omega
  refine ⟨⟨by show (0:Int)≤(i:Int);omega,h⟩,s[i],zqc hi,?_⟩
  conv=>whnf
  refine ⟨fun e=>?_,fun e=>?_⟩
  ·conv=>whnf
   refine ⟨⟨by show (0:Int)≤(fr:Int);omega,by show (fr:Int)≤(i:Int);omega,by show (i:Int)≤_;omega⟩,?_⟩
   conv=>whnf
   refine ⟨⟨by show (l.length+1)*16≤_;omega,rfl,rfl⟩,?_⟩
   conv=>whnf
   have e:s[i]=c:=by
    have e:(s[i].toNat:Int)=(c.toNat:Int):=e
    exact UInt8.toNat_inj.1 (by omega)
   have hseg:s.drop fr=(s.drop fr).take (i - fr)++c::s.drop (i+1):=by
    conv=>lhs;rw [←List.take_append_drop (i - fr) (s.drop fr)]
    rw [List.drop_drop,show fr+(i - fr)=i by omega,List.drop_eq_getElem_cons hi,e]
   refine ⟨⟨i+1,i+1,l++[(s.drop fr).take (i - fr)]⟩,⟨zqn _,hi,by simp;omega,by simp,?_⟩,⟨rfl,rfl,?_,?_,?_,zqv⟩,rfl,?_⟩
   ·show (l++[(s.drop fr).take (i - fr)])++splitB c (s.drop (i+1))=_
    rw [←h5]
    conv=>rhs;rw [hseg,splitB_at c _ _ h4]
    simp
   ·show PV.slice (l.length+1) (l.map PV.str++[PV.str ((s.take (i:Int).toNat).drop (fr:Int).toNat)]) (some 9)=PV.slice (l++[(s.drop fr).take (i - fr)]).length ((l++[(s.drop fr).take (i - fr)]).map PV.str) (some 9)
    simp [List.drop_take]
   ·show PV.int _ (IntKind.i64.wrap ((i:Int)+1))=PV.int _ ((i+1:Nat):Int)
    rw [w64 (by omega) (by omega)];simp
   ·show PV.int _ (IntKind.i64.wrap ((i:Int)+1))=PV.int _ ((i+1:Nat):Int)
    rw [w64 (by omega) (by omega)];simp
   ·show s.length - (i+1)<s.length - i
    omega
  ·conv=>whnf
   have e:s[i]≠c:=fun h=>e (by rw [h])
   refine ⟨⟨i+1,fr,l⟩,⟨by show fr≤i+1;omega,hi,by show l.length≤i+1;omega,?_,h5⟩,⟨rfl,rfl,rfl,rfl,?_,zqv⟩,rfl,?_⟩
   ·show ∀b∈(s.drop fr).take (i+1 - fr),b≠c
    intro b hb
    rw [show i+1 - fr=(i - fr)+1 by omega,List.take_succ_eq_append_getElem (by rw [List.length_drop];omega)] at hb
    rcases List.mem_append.1 hb with hb | hb
    ·exact h4 b hb
    ·have:b=s[i]:=by
      have:=List.mem_singleton.1 hb
      rw [this,List.getElem_drop];congr 1;omega
     rw [this];exact e
   ·show PV.int _ (IntKind.i64.wrap ((i:Int)+1))=PV.int _ ((i+1:Nat):Int)
    rw [w64 (by omega) (by omega)];simp
   ·show s.length - (i+1)<s.length - i
    omega
 ·conv=>whnf
  have h:¬(i:Int)<s.length:=h
  refine ⟨⟨by show (0:Int)≤(fr:Int);omega,by show (fr:Int)≤_;omega,by omega⟩,?_⟩
  conv=>whnf
  refine ⟨⟨by show (l.length+1)*16≤_;omega,rfl,rfl⟩,?_⟩
  conv=>whnf
  have hno:splitB c (s.drop fr)=[s.drop fr]:=splitB_no c _ fun b hb=>h4 b (by rw [List.take_of_length_le (by rw [List.length_drop];omega)];exact hb)
  refine ⟨?_,rfl⟩
  show PV.slice (l.length+1) (l.map PV.str++[PV.str ((s.take (s.length:Int).toNat).drop (fr:Int).toNat)]) (some 9)=_
  rw [←h5,hno]
  simp
def tt208:TT:=[(3,⟨.int .i64,1,8,[.int .i64 0]⟩),(5,⟨.int .u8,1,1,[.int .u8 0]⟩),(9,⟨.str,1,16,[.str []]⟩),(58,⟨.slice 9,1,24,[.slice 0 [] (some 9)]⟩)]
theorem tt208_ok:ttOk prog tt208=true:=by kernel_rfl
def imm208:List Nat:=[]
def okC (b:UInt8):Bool:=decide (65≤b.toNat)&&decide (b.toNat≤90)
def okL (s:List UInt8):Bool:=decide (1≤s.length)&&(decide (s.length≤8)&&s.all okC)
theorem elem_cells (l:List (List UInt8)) {i:Nat} {x:List UInt8} (h:l[i]? = some x):∀(j:Nat) (c:PV),[PV.str x][j]? = some c→(l.map PV.str)[(i:Int).toNat*1+j]? = some c:=by
 intro j c hj
 cases j with
 | zero=>simp at hj;subst hj;simp [h]
 | succ j=>simp at hj
theorem c208 (l : List (List UInt8)) (o : Option Nat) (hs : l.length ≤ 1099511627776) : Pure prog 208 [.slice l.length (l.map .str) o] (.bool (l.all okL && (decide (1 ≤ l.length) && decide (l.length ≤ 4)))) := by
  intro H
  (refine fnS (imm := imm208) tt208_ok func208 ?_; (conv => whnf))
  refine lO Nat (fun i => [(0, .slice l.length (l.map .str) none), (3, .int .i64 i)]) (fun _ => H) (fun i => i ≤ l.length ∧ ∀ j, j < i → (l[j]?.map okL) = some true) (fun i => l.length - i) ⟨0, ⟨Nat.zero_le _, fun j h => by omega⟩, ⟨?_, rfl, trivial⟩, rfl⟩ ?_
  · cases o <;> rfl
  rintro i ⟨h1, h2⟩
  conv => whnf
  refine ⟨fun h => ?_, fun h => ?_⟩
  · conv => whnf
    have h : (i : Int) < l.length := h
    have hi : i < l.length := by omega
    have hg := zqc hi
    refine ⟨⟨by omega, h⟩, [.str l[i]], elem_cells l hg, ?_⟩
    conv => whnf
    have hbad : okL l[i] = false → (l.all okL && (decide (1 ≤ l.length) && decide (l.length ≤ 4))) = false := fun hb => by
      have : l.all okL = false := by
        cases ha : l.all okL with
        | false => rfl
        | true => rw [List.all_eq_true.1 ha _ (List.getElem_mem hi)] at hb; cases hb
      rw [this]; rfl
    refine ⟨fun h5 => ?_, fun h5 => ?_⟩
    · conv => whnf
      refine ⟨?_, rfl⟩
      rw [hbad (by unfold okL; have : ¬ 1 ≤ l[i].length := by omega
                   simp [this])]; rfl
    conv => whnf
    refine ⟨⟨by omega, h⟩, [.str l[i]], elem_cells l hg, ?_⟩
    conv => whnf
    refine ⟨fun h6 => ?_, fun h6 => ?_⟩
    · conv => whnf
      refine ⟨?_, rfl⟩
      rw [hbad (by unfold okL; have : ¬ l[i].length ≤ 8 := by omega
                   simp [this])]; rfl
    conv => whnf
    refine lO Nat (fun k => [(0, .slice l.length (l.map .str) none), (3, .int .i64 i), (4, .int .i64 k)]) (fun _ => H) (fun k => k ≤ l[i].length ∧ ∀ j, j < k → (l[i][j]?.map okC) = some true) (fun k => l[i].length - k) ⟨0, ⟨Nat.zero_le _, fun j h => by omega⟩, ⟨rfl, rfl, rfl, trivial⟩, rfl⟩ ?_
    rintro k ⟨k1, k2⟩
    conv => whnf
    refine ⟨⟨by omega, h⟩, [.str l[i]], elem_cells l hg, ?_⟩
    conv => whnf
    refine ⟨fun h7 => ?_, fun h7 => ?_⟩
    · conv => whnf
      have h7 : (k : Int) < l[i].length := h7
      have hk : k < l[i].length := by omega
      refine ⟨⟨by omega, h⟩, [.str l[i]], elem_cells l hg, ?_⟩
      conv => whnf
      refine ⟨⟨by omega, h7⟩, l[i][k], zqc hk, ?_⟩
      conv => whnf
      have hbadc : okC l[i][k] = false → okL l[i] = false := fun hb => by
        unfold okL
        have : l[i].all okC = false := by
          cases ha : l[i].all okC with
          | false => rfl
          | true => rw [List.all_eq_true.1 ha _ (List.getElem_mem hk)] at hb; cases hb
        rw [this]; simp
      refine ⟨fun h8 => ?_, fun h8 => ?_⟩
      · conv => whnf
        refine ⟨?_, rfl⟩
        rw [hbad (hbadc (by unfold okC; have : ¬ 65 ≤ l[i][k].toNat := by omega
                            simp [this]))]; rfl
      conv => whnf
      refine ⟨⟨by omega, h⟩, [.str l[i]], elem_cells l hg, ?_⟩
      conv => whnf
      refine ⟨⟨by omega, h7⟩, l[i][k], zqc hk, ?_⟩
      conv => whnf
      refine ⟨fun h9 => ?_, fun h9 => ?_⟩
      · conv => whnf
        refine ⟨?_, rfl⟩
        rw [hbad (hbadc (by unfold okC; have : ¬ l[i][k].toNat ≤ 90 := by omega
                            simp [this]))]; rfl
      conv => whnf
      refine ⟨k + 1, ⟨hk, fun j hj => ?_⟩, ⟨rfl, rfl, ?_, trivial⟩, rfl, by show l[i].length - (k + 1) < l[i].length - k; omega⟩
      · by_cases e : j = k
        · subst e
          rw [zqc hk]
          have a1 : 65 ≤ l[i][j].toNat := by omega
          have a2 : l[i][j].toNat ≤ 90 := by omega
          simp [okC, a1, a2]
        · exact k2 j (by omega)
      · show PV.int _ (IntKind.i64.wrap ((k : Int) + 1)) = PV.int _ ((k + 1 : Nat) : Int)
        rw [w64 (by omega) (by omega)]; simp
    · conv => whnf
      have h7 : ¬ (k : Int) < l[i].length := h7
      have hok : okL l[i] = true := by
        have ha : l[i].all okC = true := by
          rw [List.all_eq_true]
          intro x hx
          obtain ⟨j, hj, rfl⟩ := List.mem_iff_getElem.1 hx
          have := k2 j (by omega)
          rw [zqc hj] at this
          simpa using this
        have a1 : 1 ≤ l[i].length := by omega
        have a2 : l[i].length ≤ 8 := by omega
        unfold okL
        rw [ha]; simp [a1, a2]
      refine ⟨i + 1, ⟨hi, fun j hj => ?_⟩, ⟨rfl, ?_, trivial⟩, rfl, by omega⟩
      · by_cases e : j = i
        · subst e
          rw [hg]; simp [hok]
        · exact h2 j (by omega)
      · show PV.int _ (IntKind.i64.wrap ((i : Int) + 1)) = PV.int _ ((i + 1 : Nat) : Int)
        rw [w64 (by omega) (by omega)]; simp
  · conv => whnf
    have h : ¬ (i : Int) < l.length := h
    have hall : l.all okL = true := by
      rw [List.all_eq_true]
      intro x hx
      obtain ⟨j, hj, rfl⟩ := List.mem_iff_getElem.1 hx
      have := h2 j (by omega)
      rw [zqc hj] at this
      simpa using this
    rw [hall]
    refine ⟨fun h5 => ?_, fun h5 => ?_⟩
    · conv => whnf
      refine ⟨fun h6 => ?_, fun h6 => ?_⟩
      · conv => whnf
        refine ⟨?_, rfl⟩
        have a1 : 1 ≤ l.length := by omega
        have a2 : l.length ≤ 4 := by omega
        simp [a1, a2, tupOf]
      · conv => whnf
        refine ⟨?_, rfl⟩
        have a2 : ¬ l.length ≤ 4 := by omega
        simp [a2, tupOf]
    · conv => whnf
      refine ⟨?_, rfl⟩
      have a1 : ¬ 1 ≤ l.length := by omega
      simp [a1, tupOf]
def tt165:TT:=[(3,⟨.int .i64,1,8,[.int .i64 0]⟩),(5,⟨.int .u8,1,1,[.int .u8 0]⟩),(9,⟨.str,1,16,[.str []]⟩),(58,⟨.slice 9,1,24,[.slice 0 [] (some 9)]⟩)]
theorem tt165_ok:ttOk prog tt165=true:=by kernel_rfl
def imm165:List Nat:=[]
def tt106:TT:=[(3,⟨.int .i64,1,8,[.int .i64 0]⟩),(9,⟨.str,1,16,[.str []]⟩)]
theorem tt106_ok:ttOk prog tt106=true:=by kernel_rfl
def imm106:List Nat:=[]
def labs (l:List (List UInt8)):Bool:=l.all okL&&(decide (1≤l.length)&&decide (l.length≤4))
theorem okC_eq:∀b:UInt8,inB upperB b.toNat=okC b:=by
 intro b
 have h:∀n:Fin 256,inB upperB n.val=(decide (65≤n.val)&&decide (n.val≤90)):=by decide
 exact h ⟨b.toNat,b.toNat_lt⟩
theorem okL_eq (s:List UInt8):isWordB s upperB=okL s:=by
 unfold isWordB okL
 have:(fun c:UInt8=>inB upperB c.toNat)=okC:=funext okC_eq
 rw [this]
 cases s <;> simp
theorem labs_eq (c:UInt8) (s:List UInt8):labs (splitB c s)=!badL (splitB c s):=by
 have h1:=splitB_len c s
 unfold labs badL
 have:(fun s=>!isWordB s upperB)=fun s=>!okL s:=funext fun s=>by rw [okL_eq]
 rw [this]
 have h2:decide (1≤(splitB c s).length)=true:=by simp;omega
 rw [h2]
 rw [Bool.not_or,List.not_any_eq_all_not,zq5,Bool.and_comm]
 congr 1
 ·by_cases h:4<(splitB c s).length
  ·have:¬(splitB c s).length≤4:=by omega
   simp [h,this]
  ·have:(splitB c s).length≤4:=by omega
   simp [h,this]
 ·simp
theorem labs_slash (t:List UInt8):labs (splitB 46 (47::t))=false:=by
 have h:∃x l,splitB 46 (47::t)=(47::x)::l:=by
  simp only [splitB]
  rw [zqo (by decide)]
  cases splitB 46 t with
  | nil=>exact ⟨[],[],rfl⟩
  | cons a b=>exact ⟨a,b,rfl⟩
 obtain ⟨x,l,h⟩:=h
 have hk:okL (47::x)=false:=by
  have:okC 47=false:=by decide
  simp [okL,this]
 rw [h]
 simp [labs,hk]
theorem c165 (r:List UInt8) (hs:r.length≤1099511627775):Pure prog 165 [.str r] (.int .i64 (labelsB r).1):=by
 intro H
 have dot:∀r:List UInt8,r.length≤1099511627775→(splitB 46 r).length≤1099511627776:=fun r h=>by have:=countB_le 46 r;have:=splitB_len 46 r;omega
 (refine fnS (imm:=imm165) tt165_ok func165 ?_;(conv=>whnf))
 refine ⟨fun h=>?_,fun h=>?_⟩
 ·conv=>whnf
  cases r with
  | nil=>simp at h
  | cons x t =>
   refine ⟨⟨by omega,by simp <;> omega⟩,x,rfl,?_⟩
   conv=>whnf
   refine ⟨fun e=>?_,fun e=>?_⟩
   ·have e:x=47:=by
     have e:(x.toNat:Int)=47:=e
     exact UInt8.toNat_inj.1 (by show x.toNat=47;omega)
    subst e
    conv=>whnf
    refine ⟨⟨by omega,by simp <;> omega,by simp⟩,?_⟩
    have ht:((47::t).take ((47::t).length:Int).toNat).drop (1:Int).toNat=t:=by simp
    conv=>whnf
    have htl:t.length≤1099511627775:=by simp at hs;omega
    refine cP (P:=prog) (v:=.slice (splitB 47 t).length ((splitB 47 t).map .str) (some 9)) ?_ ?_
    ·show Pure prog 209 [.str (((47::t).take ((47::t).length:Int).toNat).drop (1:Int).toNat),bC 47] _
     rw [ht]
     exact c209 t 47 (by omega)
    conv=>whnf
    refine cP (c208 (splitB 47 t) none (by have:=countB_le 47 t;have:=splitB_len 47 t;omega)) ?_
    have hl:=labs_eq 47 t
    have hd:=labs_slash t
    unfold labs at hl hd
    rw [hl]
    cases hb:badL (splitB 47 t)
    ·conv=>whnf
     refine ⟨?_,rfl⟩
     simp [labelsB,hb,tupOf]
    ·conv=>whnf
     refine cP (c209 (47::t) 46 (by omega)) ?_
     conv=>whnf
     refine cP (c208 (splitB 46 (47::t)) none (dot _ hs)) ?_
     rw [hd]
     conv=>whnf
     refine ⟨?_,rfl⟩
     simp [labelsB,hb,tupOf]
   ·have hx:x≠47:=fun h=>e (by rw [h];rfl)
    have hlb:labelsB (x::t)=if badL (splitB 46 (x::t)) then (0,[]) else (1,(splitB 46 (x::t)).reverse):=by
     unfold labelsB
     split
     ·rename_i h2;cases h2;exact absurd rfl hx
     ·rfl
    conv=>whnf
    refine cP (c209 (x::t) 46 (by omega)) ?_
    conv=>whnf
    refine cP (c208 (splitB 46 (x::t)) none (dot _ hs)) ?_
    have hl:=labs_eq 46 (x::t)
    unfold labs at hl
    rw [hl,hlb]
    cases hb:badL (splitB 46 (x::t))
    ·conv=>whnf
     exact ⟨rfl,rfl⟩
    ·conv=>whnf
     exact ⟨rfl,rfl⟩
 ·have hr:r=[]:=by
   cases r with
   | nil=>rfl
   | cons x t=>exact absurd (by simp <;> omega) h
  subst hr
  conv=>whnf
  refine cP (c209 [] 46 (by simp)) ?_
  conv=>whnf
  refine cP (c208 (splitB 46 []) none (by simp [splitB])) ?_
  have:((splitB 46 []).all okL&&(decide (1≤(splitB 46 []).length)&&decide ((splitB 46 []).length≤4)))=false:=by decide
  rw [this]
  conv=>whnf
  have h0:(labelsB []).1=0:=by decide
  exact ⟨by rw [h0];rfl,rfl⟩
theorem c106 (r:List UInt8) (hs:r.length≤1099511627775):Pure prog 106 [.str r] (.bool (isRealmB r)):=by
 intro H
 (refine fnS (imm:=imm106) tt106_ok func106 ?_;(conv=>whnf))
 refine cP (c165 r hs) ?_
 conv=>whnf
 refine ⟨fun h=>?_,fun h=>?_⟩
 ·conv=>whnf
  have:(labelsB r).1≠0:=by omega
  exact ⟨by simp [isRealmB,this,tupOf],rfl⟩
 ·conv=>whnf
  have:(labelsB r).1=0:=by omega
  exact ⟨by simp [isRealmB,this,tupOf],rfl⟩
def tt127:TT:=[(3,⟨.int .i64,1,8,[.int .i64 0]⟩),(4,⟨.bool,1,1,[.bool false]⟩),(9,⟨.str,1,16,[.str []]⟩)]
theorem tt127_ok:ttOk prog tt127=true:=by kernel_rfl
def imm127:List Nat:=[]
def tt128:TT:=[(3,⟨.int .i64,1,8,[.int .i64 0]⟩),(4,⟨.bool,1,1,[.bool false]⟩),(5,⟨.int .u8,1,1,[.int .u8 0]⟩),(9,⟨.str,1,16,[.str []]⟩),(51,⟨.strct [(9,0),(9,1)],2,32,[.str [],.str []]⟩)]
theorem tt128_ok:ttOk prog tt128=true:=by kernel_rfl
def imm128:List Nat:=[1]
theorem c127 (n:List UInt8) (hs:n.length≤1099511627775):Pure prog 127 [.str n] (.tup [.str (targetB n).1,.bool (targetB n).2]):=by
 intro H
 (refine fnS (imm:=imm127) tt127_ok func127 ?_;(conv=>whnf))
 refine ⟨fun h=>?_,fun h=>?_⟩
 ·have ht:targetB n=([],false):=by
   unfold targetB
   by_cases hp:krbB.isPrefixOf n=true
   ·have hl:=(List.isPrefixOf_iff_prefix.1 hp).length_le
    have hl:7≤n.length:=hl
    have:n.drop 7=[]:=List.drop_eq_nil_of_le (by omega)
    have h0:isRealmB []=false:=by decide
    rw [this,h0];simp
   ·simp [hp]
  rw [ht]
  conv=>whnf
  exact ⟨rfl,rfl⟩
 ·conv=>whnf
  refine ⟨⟨by omega,by omega,by omega⟩,?_⟩
  conv=>whnf
  have hl:krbB.length≤n.length:=by show 7≤_;omega
  refine ⟨fun e=>?_,fun e=>?_⟩
  ·have e:n.take 7=krbB:=e
   have hp:krbB.isPrefixOf n=true:=(take_of_prefix hl).1 e
   conv=>whnf
   refine ⟨⟨by omega,by omega,by omega⟩,?_⟩
   conv=>whnf
   have hd:(n.take (n.length:Int).toNat).drop (7:Int).toNat=n.drop 7:=by simp
   refine cP (P:=prog) (v:=.bool (isRealmB (n.drop 7))) ?_ ?_
   ·show Pure prog 106 [.str ((n.take (n.length:Int).toNat).drop (7:Int).toNat)] _
    rw [hd]
    exact c106 _ (by rw [List.length_drop];omega)
   cases hr:isRealmB (n.drop 7)
   ·conv=>whnf
    refine ⟨?_,rfl⟩
    simp [targetB,hp,hr,tupOf]
   ·conv=>whnf
    refine ⟨⟨by omega,by omega,by omega⟩,?_⟩
    conv=>whnf
    refine ⟨?_,rfl⟩
    simp [targetB,hp,hr,tupOf]
  ·have e:¬n.take 7=krbB:=e
   have hp:krbB.isPrefixOf n=false:=by
    cases hb:krbB.isPrefixOf n with
    | false=>rfl
    | true=>exact absurd ((take_of_prefix hl).2 hb) e
   conv=>whnf
   refine ⟨?_,rfl⟩
   simp [targetB,hp,tupOf]
def okS (b:UInt8):Bool:=(decide (97≤b.toNat)&&decide (b.toNat≤122))||(decide (48≤b.toNat)&&decide (b.toNat≤57))
theorem okS_eq:∀b:UInt8,inB smallB b.toNat=okS b:=by
 intro b
 have h:∀n:Fin 256,inB smallB n.val=((decide (97≤n.val)&&decide (n.val≤122))||(decide (48≤n.val)&&decide (n.val≤57))):=by decide
 exact h ⟨b.toNat,b.toNat_lt⟩
theorem word_small (s:List UInt8):isWordB s smallB=(s.all okS&&(decide (1≤s.length)&&decide (s.length≤8))):=by
 unfold isWordB
 have:(fun c:UInt8=>inB smallB c.toNat)=okS:=funext okS_eq
 rw [this]
 cases s with
 | nil=>rfl
 | cons a s =>
  have h1:decide (1≤(a::s).length)=true:=by simp
  have h2:decide (a::s≠[])=true:=by simp
  rw [h1,h2,zq5,zq5,Bool.and_comm]
theorem c128 (realm name : List UInt8) (h1 : realm.length ≤ 1099511627775) (h2 : name.length ≤ 1099511627775) : Pure prog 128 [.agg [.str realm, .str name]] (.bool (isPrincB realm name)) := by
  intro H
  (refine fnS (imm := imm128) tt128_ok func128 ?_; (conv => whnf))
  refine cP (c106 realm h1) ?_
  unfold isPrincB
  cases hr : isRealmB realm
  · conv => whnf
    exact ⟨rfl, rfl⟩
  conv => whnf
  refine cP (c127 name h2) ?_
  cases ht : (targetB name).2
  · conv => whnf
    rw [word_small]
    refine lO Nat (fun i => [(1, .elem [.str realm, .str name]), (5, .int .i64 i)]) (fun _ => H) (fun i => i ≤ name.length ∧ ∀ j, j < i → (name[j]?.map okS) = some true) (fun i => name.length - i) ⟨0, ⟨Nat.zero_le _, fun j h => by omega⟩, ⟨rfl, rfl, trivial⟩, rfl⟩ ?_
    rintro i ⟨k1, k2⟩
    conv => whnf
    refine ⟨fun h => ?_, fun h => ?_⟩
    · conv => whnf
      have h : (i : Int) < name.length := h
      have hi : i < name.length := by omega
      refine ⟨⟨by omega, h⟩, name[i], zqc hi, ?_⟩
      conv => whnf
      have hbad : okS name[i] = false → (name.all okS && (decide (1 ≤ name.length) && decide (name.length ≤ 8))) = false := fun hb => by
        have : name.all okS = false := by
          cases ha : name.all okS with
          | false => rfl
          | true => rw [List.all_eq_true.1 ha _ (List.getElem_mem hi)] at hb; cases hb
        rw [this]; rfl
      have go : okS name[i] = true → ∃ s' : Nat, (s' ≤ name.length ∧ ∀ j, j < s' → (name[j]?.map okS) = some true) ∧ PV.int .i64 (IntKind.i64.wrap ((i : Int) + 1)) = PV.int .i64 s' ∧ name.length - s' < name.length - i := fun hok =>
        ⟨i + 1, ⟨hi, fun j hj => by
          by_cases e : j = i
          · subst e; rw [zqc hi]; simp [hok]
          · exact k2 j (by omega)⟩, by rw [w64 (by omega) (by omega)]; simp, by omega⟩
      refine ⟨fun a1 => ?_, fun a1 => ?_⟩
      · conv => whnf
        refine ⟨fun a2 => ?_, fun a2 => ?_⟩
        · conv => whnf
          refine ⟨?_, rfl⟩
          rw [hbad (by unfold okS
                       have e1 : ¬ 97 ≤ name[i].toNat := by omega
                       have e2 : ¬ 48 ≤ name[i].toNat := by omega
                       simp [e1, e2])]; rfl
        · conv => whnf
          refine ⟨fun a3 => ?_, fun a3 => ?_⟩
          · conv => whnf
            refine ⟨?_, rfl⟩
            rw [hbad (by unfold okS
                         have e1 : ¬ 97 ≤ name[i].toNat := by omega
                         have e2 : ¬ name[i].toNat ≤ 57 := by omega
                         simp [e1, e2])]; rfl
          · conv => whnf
            obtain ⟨s', y1, y2, y3⟩ := go (by
              unfold okS
              have e1 : 48 ≤ name[i].toNat := by omega
              have e2 : name[i].toNat ≤ 57 := by omega
              simp [e1, e2])
            exact ⟨s', y1, ⟨rfl, y2, trivial⟩, rfl, y3⟩
      · conv => whnf
        refine ⟨fun a2 => ?_, fun a2 => ?_⟩
        · conv => whnf
          refine ⟨fun a3 => absurd a3 (by omega), fun a3 => ?_⟩
          conv => whnf
          refine ⟨fun a4 => ?_, fun a4 => absurd a4 (by omega)⟩
          conv => whnf
          refine ⟨?_, rfl⟩
          rw [hbad (by unfold okS
                       have e1 : ¬ name[i].toNat ≤ 122 := by omega
                       have e2 : ¬ name[i].toNat ≤ 57 := by omega
                       simp [e1, e2])]; rfl
        · conv => whnf
          obtain ⟨s', y1, y2, y3⟩ := go (by
            unfold okS
            have e1 : 97 ≤ name[i].toNat := by omega
            have e2 : name[i].toNat ≤ 122 := by omega
            simp [e1, e2])
          exact ⟨s', y1, ⟨rfl, y2, trivial⟩, rfl, y3⟩
    · conv => whnf
      have h : ¬ (i : Int) < name.length := h
      have hall : name.all okS = true := by
        rw [List.all_eq_true]
        intro x hx
        obtain ⟨j, hj, rfl⟩ := List.mem_iff_getElem.1 hx
        have := k2 j (by omega)
        rw [zqc hj] at this
        simpa using this
      rw [hall]
      refine ⟨fun a1 => ?_, fun a1 => ?_⟩
      · conv => whnf
        refine ⟨fun a2 => ?_, fun a2 => ?_⟩
        · conv => whnf
          refine ⟨?_, rfl⟩
          have e1 : 1 ≤ name.length := by omega
          have e2 : name.length ≤ 8 := by omega
          simp [e1, e2, tupOf]
        · conv => whnf
          refine ⟨?_, rfl⟩
          have e2 : ¬ name.length ≤ 8 := by omega
          simp [e2, tupOf]
      · conv => whnf
        refine ⟨?_, rfl⟩
        have e1 : ¬ 1 ≤ name.length := by omega
        simp [e1, tupOf]
  · conv => whnf
    exact ⟨rfl, rfl⟩
end Go.Proofs.Tryz
namespace Ps
open Go
theorem CK.nil {P:Program} {f:Nat} {args:List PV} {H:PH} (h:CK P f args H fun r H'=>r=.nilS∧H'=H):CK P f args H fun r H'=>r=.slice 0 [] none∧H'=H:=by
 intro g w vs hs hr
 refine (h g w vs hs hr).mono ?_
 rintro e w' ⟨v,r,H',g',rfl,⟨rfl,rfl⟩,hr',st,ho,hc⟩
 have h0:VC P g' w' v .nilS:=hr'.e 0
 have h0:v=.slice none 0 0:=by
  rcases h0 with h0 | ⟨_,_,_,_,h0,_⟩
  ·exact h0.inv_nilS
  ·cases h0
 subst h0
 have hv:V g' w' (.slice none 0 0) (.slice 0 [] none):=.snil none
 have hno:∀t i b,¬ownAt (one (.slice none 0 0) t) (Env.get [(0,.slice 0 [] none)] t) i b:=fun t i b h=>by
  rw [Env.get_cons] at h
  unfold one at h
  by_cases e:t=0
  ·rw [zqp e,zqp e.symm] at h;exact no_own hv i b h
  ·rw [zqo (Ne.symm e)] at h;cases h.2.1
 refine ⟨_,.slice 0 [] none,H',g',rfl,⟨rfl,rfl⟩,⟨hr'.h,fun t=>?_,fun t i t' i' b h _=>absurd h (hno t i b),fun t i b h=>absurd h (hno t i b),hr'.cc⟩,st,fun i b h=>absurd h (no_own hv i b),hc⟩
 rw [Env.get_cons]
 unfold one
 by_cases e:t=0
 ·rw [zqp e,zqp e.symm];exact hv.vc
 ·rw [zqo e,zqo (Ne.symm e)];exact (V.undef _).vc
end Ps
namespace Go.Proofs.Tryz
open Go Ps
def ttB:TT:=[(3,⟨.int .i64,1,8,[.int .i64 0]⟩),(5,⟨.int .u8,1,1,[.int .u8 0]⟩),(9,⟨.str,1,16,[.str []]⟩),(31,⟨.slice 5,1,24,[.slice 0 [] (some 5)]⟩),(306,⟨.slice 31,1,24,[.slice 0 [] (some 31)]⟩)]
theorem ttB_ok:ttOk prog ttB=true:=by kernel_rfl
def imm203:List Nat:=[22]
def imm156:List Nat:=[33]
def imm92:List Nat:=[]
def imm157:List Nat:=[]
def imm96:List Nat:=[3,15,30]
def imm158:List Nat:=[]
def Ext (H H':PH):Prop:=∃ext,H'=H++ext
theorem Ext.refl (H:PH):Ext H H:=⟨[],by simp⟩
theorem Ext.push {H H':PH} (h:Ext H H') (o:PObj):Ext H (H'++[o]):=by
 obtain ⟨e,rfl⟩:=h
 exact ⟨e++[o],by simp⟩
theorem Ext.set {H H':PH} (h:Ext H H') {id:Nat} (hid:H.length≤id) (o:PObj):Ext H (H'.set id o):=by
 obtain ⟨e,rfl⟩:=h
 exact ⟨e.set (id - H.length) o,by rw [List.set_append_right _ _ hid]⟩
theorem Ext.len {H H':PH} (h:Ext H H'):H.length≤H'.length:=by
 obtain ⟨e,rfl⟩:=h
 simp
theorem c203 (n:Nat) (hn:n≤1099511627776) (H:PH):CK prog 203 [.nilS,.int .i64 n] H fun r H'=>(n=0∧r=.nilS∧H'=H)∨(0<n∧∃cap o,n≤cap∧r=.sref H.length 0 0 cap∧H'=H++[o]∧o.cs.length=cap):=by
 (refine fnS (imm:=imm203) ttB_ok func203 ?_;(conv=>whnf))
 refine ⟨fun h=>absurd (show (n:Int)<0 from h) (by omega),fun _=>?_⟩
 conv=>whnf
 have hw:IntKind.i64.wrap ((n:Int) - IntKind.i64.wrap (0 - 0))=n:=by
  rw [show IntKind.i64.wrap ((0:Int) - 0)=0 from rfl,w64 (by omega) (by omega)];omega
 refine ⟨fun h=>?_,fun h=>?_⟩
 ·conv=>whnf
  have h:IntKind.i64.wrap ((n:Int) - IntKind.i64.wrap (0 - 0)) > 0:=h
  rw [hw] at h
  refine ⟨⟨by omega,by omega,by omega⟩,?_⟩
  conv=>whnf
  rw [hw]
  refine ⟨⟨h,by show (n:Int)*(1:Nat)≤_;omega⟩,fun cap hc=>?_⟩
  conv=>whnf
  have hc:n≤cap:=hc
  refine ⟨⟨by omega,by omega,by show (0:Int)≤n;omega⟩,fun h2=>?_,fun h2=>absurd (show (0:Int)<((n:Int).toNat:Int) by omega) h2⟩
  conv=>whnf
  refine .inr ⟨by omega,cap,_,hc,rfl,rfl,?_⟩
  show (zerosOf [PV.int .u8 0] n++zerosOf [PV.int .u8 0] (cap - n)).length=cap
  rw [zqf,(zerosOf_get (z:=[PV.int .u8 0]) (sz:=1) rfl (by omega) n).1,(zerosOf_get (z:=[PV.int .u8 0]) (sz:=1) rfl (by omega) (cap - n)).1]
  omega
 ·conv=>whnf
  have h:¬IntKind.i64.wrap ((n:Int) - IntKind.i64.wrap (0 - 0)) > 0:=h
  rw [hw] at h
  exact .inl ⟨by omega,rfl,rfl⟩
def sl (b:List UInt8):PV:=.slice b.length (b.map bC) none
def Rep (H:PH) (c:PV) (b:List UInt8):Prop:=c=sl b∨∃id off cap o,c=.sref id off b.length cap∧H[id]? = some o∧(((o.cs.drop off).take (b.length*1)).map dem)=b.map bC
def Reps (H:PH) (cs:List PV) (ls:List (List UInt8)):Prop:=cs.length=ls.length∧∀(i:Nat) (c:PV) (b:List UInt8),cs[i]? = some c→ls[i]? = some b→Rep H c b
theorem Reps.sl (H:PH) (ls:List (List UInt8)):Reps H (ls.map sl) ls:=⟨by simp,fun i c b hc hb=>by
 rw [List.getElem?_map,hb] at hc
 exact .inl (Option.some.inj hc).symm⟩
theorem Ext.get {H H':PH} (h:Ext H H') {j:Nat} {o:PObj} (hj:H[j]? = some o):H'[j]? = some o:=by
 obtain ⟨e,rfl⟩:=h
 rw [zq2 (zq1.1 hj).1];exact hj
structure CoS where
 k:Nat
structure CoT where
 k:Nat
 H:PH
 v:PV
theorem take_pre {a b:List PV} {n:Nat} (h:a.length=n):(a++b).take n=a:=by subst h;simp
theorem flat_take {ls:List (List UInt8)} {k:Nat} (hk:k<ls.length):(ls.take (k+1)).flatten=(ls.take k).flatten++ls[k]:=by
 rw [List.take_succ_eq_append_getElem hk,List.flatten_append,zqk,zql,List.append_nil]
theorem flat_le (ls:List (List UInt8)) (k:Nat):((ls.take k).flatten).length≤ls.flatten.length:=by
 conv=>rhs;rw [←List.take_append_drop k ls]
 rw [List.flatten_append,zqf];omega
theorem allOne (b:List UInt8):(b.map bC).all oneP=true:=List.all_eq_true.2 fun x hx=>by
 obtain ⟨b,_,rfl⟩:=List.mem_map.1 hx
 rfl
def coOk (H0:PH) (ls:List (List UInt8)) (k:Nat) (H:PH) (v:PV):Prop :=
 (ls.flatten.length=0∧v=.nilS∧H=H0)∨(0<ls.flatten.length∧∃id cap o,v=.sref id 0 ((ls.take k).flatten).length cap∧H0.length≤id∧H[id]? = some o∧(o.cs.length=cap∧ls.flatten.length≤cap)∧o.cs.take ((ls.take k).flatten).length=((ls.take k).flatten).map bC)
theorem c156x (ls:List (List UInt8)) (hn:ls.length≤1099511627776) (ht:ls.flatten.length≤1099511627776) (H0:PH) (cs:List PV) (hr:Reps H0 cs ls):CK prog 156 [.slice ls.length cs none] H0 fun r H'=>Ext H0 H'∧coOk H0 ls ls.length H' r:=by
  (refine fnS (imm:=imm156) ttB_ok func156 ?_;(conv=>whnf))
  refine lO CoS (fun x=>[(0,.slice ls.length cs none),(9,.slice ls.length cs none),(10,.int .i64 ls.length),(11,.int .i64 x.k),(3,.int .i64 ((ls.take x.k).flatten).length)]) (fun _=>H0)
    (fun x=>x.k≤ls.length) (fun x=>ls.length - x.k) ⟨⟨0⟩,Nat.zero_le _,⟨rfl,rfl,rfl,rfl,rfl,zqv⟩,rfl⟩ ?_
  rintro ⟨k⟩ hk
  have hk:k≤ls.length:=hk
  conv=>whnf
  refine ⟨fun h=>?_,fun h=>?_⟩
  · conv=>whnf
    have h:(k:Int)<ls.length:=h
    have hi:k<ls.length:=by omega
    have hic:k<cs.length:=by rw [hr.1];exact hi
    have hrep:=hr.2 k _ _ (zqc hic) (zqc hi)
    refine ⟨⟨by show (0:Int)≤(k:Int);omega,h⟩,[cs[k]],fun j c hj=>?_,?_⟩
    · match j with
      | 0 =>
        have hj:some cs[k]=some c:=hj
        show cs[(k:Int).toNat*1+0]? = _
        rw [←hj]
        simp [hic]
      | j+1=>simp at hj
    have hf:=flat_take hi
    have hl:=flat_le ls (k+1)
    rw [hf,zqf] at hl
    have hw:IntKind.i64.wrap ((((ls.take k).flatten).length:Int)+(ls[k].length:Int))=((((ls.take (k+1)).flatten).length:Nat):Int):=by
      rw [w64 (by omega) (by omega),hf,zqf];rfl
    generalize cs[k]=c at hrep ⊢
    rcases hrep with rfl | ⟨id,off,cap,o,rfl,_,_⟩
    all_goals
     conv=>whnf
     refine ⟨fun h=>absurd (show IntKind.i64.wrap ((((ls.take k).flatten).length:Int)+(ls[k].length:Int))<0 from h) (by rw [hw];omega),fun _=>?_⟩
     conv=>whnf
     refine ⟨⟨k+1⟩,by show k+1≤ls.length;omega,⟨rfl,rfl,rfl,?_,?_,zqv⟩,rfl,by show ls.length - (k+1)<ls.length - k;omega⟩
     · show PV.int _ (IntKind.i64.wrap ((k:Int)+1))=PV.int _ ((k+1:Nat):Int)
       rw [w64 (by omega) (by omega)];rfl
     · exact zqm (PV.int .i64) hw
  · conv=>whnf
    have h:¬(k:Int)<ls.length:=h
    have hkl:k=ls.length:=by omega
    subst hkl
    have htake:ls.take ls.length=ls:=List.take_of_length_le (zqn _)
    refine cA (args':=[.nilS,.int .i64 ls.flatten.length]) (by show [PV.nilS,.int .i64 ((ls.take ls.length).flatten).length]=_;rw [htake]) ?_
    refine cO (c203 ls.flatten.length ht H0) ?_
    rintro r H1 hr1
    have hstart:Ext H0 H1∧coOk H0 ls 0 H1 r:=by
      rcases hr1 with ⟨h1,rfl,rfl⟩ | ⟨h1,cap,o,h2,rfl,rfl,h3⟩
      · exact ⟨Ext.refl _,.inl ⟨h1,rfl,rfl⟩⟩
      · exact ⟨⟨_,rfl⟩,.inr ⟨h1,H0.length,cap,o,rfl,zqn _,by simp,⟨h3,h2⟩,by simp⟩⟩
    obtain ⟨e1,e2⟩:=hstart
    have hcase:(∃(v:PV),r=v∧(v=.nilS∨∃id n cap,v=.sref id 0 n cap)):=by
      rcases e2 with ⟨_,rfl,_⟩ | ⟨_,id,cap,_,rfl,_⟩
      · exact ⟨_,rfl,.inl rfl⟩
      · exact ⟨_,rfl,.inr ⟨id,_,cap,rfl⟩⟩
    have hgo:∀(E:Env),subE [(0,.slice ls.length cs none),(25,.slice ls.length cs none),(26,.int .i64 ls.length),(27,.int .i64 0),(6,r)] E→True:=fun _ _=>trivial
    obtain ⟨v,rfl,hv⟩:=hcase
    rcases hv with rfl | ⟨id,n,cap,rfl⟩
    all_goals
      conv=>whnf
      refine lO CoT (fun x=>[(25,.slice ls.length cs none),(26,.int .i64 ls.length),(27,.int .i64 x.k),(6,x.v)]) (fun x=>x.H)
        (fun x=>x.k≤ls.length∧Ext H0 x.H∧coOk H0 ls x.k x.H x.v) (fun x=>ls.length - x.k) ⟨⟨0,H1,_⟩,⟨Nat.zero_le _,e1,e2⟩,⟨rfl,rfl,rfl,rfl,zqv⟩,rfl⟩ ?_
      clear hgo e1 e2 hr1
      rintro ⟨k,H,v⟩ ⟨g1,g2,g3⟩
      have g1:k≤ls.length:=g1
      have g2:Ext H0 H:=g2
      have g3:coOk H0 ls k H v:=g3
      conv=>whnf
      refine ⟨fun h=>?_,fun h=>?_⟩
      · conv=>whnf
        have h:(k:Int)<ls.length:=h
        have hi:k<ls.length:=by omega
        have hic:k<cs.length:=by rw [hr.1];exact hi
        have hrep:=hr.2 k _ _ (zqc hic) (zqc hi)
        refine ⟨⟨by show (0:Int)≤(k:Int);omega,h⟩,[cs[k]],fun j c hj=>?_,?_⟩
        · match j with
          | 0 =>
            have hj:some cs[k]=some c:=hj
            show cs[(k:Int).toNat*1+0]? = _
            rw [←hj]
            simp [hic]
          | j+1=>simp at hj
        generalize cs[k]=c at hrep ⊢
        have hf:=flat_take hi
        have hl:=flat_le ls (k+1)
        rw [hf,zqf] at hl
        have hlast:∀(E:Env) (H':PH) (v':PV),subE [(25,.slice ls.length cs none),(26,.int .i64 ls.length),(27,.int .i64 (IntKind.i64.wrap ((k:Int)+1))),(6,v')] E→Ext H0 H'→coOk H0 ls (k+1) H' v' →
          ∃s':CoT,(s'.k≤ls.length∧Ext H0 s'.H∧coOk H0 ls s'.k s'.H s'.v)∧subE [(25,.slice ls.length cs none),(26,.int .i64 ls.length),(27,.int .i64 s'.k),(6,s'.v)] E∧H'=s'.H∧ls.length - s'.k<ls.length - k:=by
          intro E H' v' hE hx hy
          rw [w64 (by omega) (by omega)] at hE
          exact ⟨⟨k+1,H',v'⟩,⟨by show k+1≤ls.length;omega,hx,hy⟩,hE,rfl,by show ls.length - (k+1)<ls.length - k;omega⟩
        rcases g3 with ⟨y1,rfl,y3⟩ | ⟨y1,id,cap,o,rfl,hid,hob,⟨hcap,htc⟩,htk⟩
        · have hz:ls[k].length=0:=by omega
          rcases hrep with rfl | ⟨id,off,cap,o,rfl,ho,hbytes⟩
          · conv=>whnf
            refine ⟨⟨by show ls[k].length*1≤_;omega,by rw [zqq,Nat.mul_one],allOne _⟩,fun _=>?_,fun h=>absurd (show 0<ls[k].length from h) (by omega)⟩
            conv=>whnf
            exact hlast _ _ _ ⟨rfl,rfl,rfl,rfl,zqv⟩ g2 (.inl ⟨y1,rfl,y3⟩)
          · have ho':=g2.get ho
            conv=>whnf
            ((conv in (_[_]?)=>tactic=>exact ho');(conv=>whnf))
            refine ⟨⟨by show ls[k].length*1≤_;omega,(zqm List.length hbytes).trans (by rw [zqq];exact (Nat.mul_one _).symm),(zqm (List.all · oneP) hbytes).trans (allOne _)⟩,fun _=>?_,fun h=>absurd (show 0<ls[k].length from h) (by omega)⟩
            conv=>whnf
            exact hlast _ _ _ ⟨rfl,rfl,rfl,rfl,zqv⟩ g2 (.inl ⟨y1,rfl,y3⟩)
        · have hfin:∀(ds:List PV),ds=ls[k].map bC→(setCells (((ls.take k).flatten).length*1) ds o.cs).length=cap∧(setCells (((ls.take k).flatten).length*1) ds o.cs).take ((ls.take (k+1)).flatten).length=((ls.take (k+1)).flatten).map bC:=by
            rintro ds rfl
            have hse:setCells (((ls.take k).flatten).length*1) (ls[k].map bC) o.cs=o.cs.take (((ls.take k).flatten).length*1)++ls[k].map bC++o.cs.drop (((ls.take k).flatten).length*1+(ls[k].map bC).length):=setCells_eq _ _ _ (by rw [zqq];omega)
            refine ⟨by rw [setCells_length _ _ _ (by rw [zqq];omega)];exact hcap,?_⟩
            rw [hse,hf,Nat.mul_one,htk,take_pre (by rw [zqf,zqf,zqq,zqq]),List.map_append]
          rcases hrep with rfl | ⟨id2,off2,cap2,o2,rfl,ho,hbytes⟩
          · obtain ⟨f1,f2⟩:=hfin _ rfl
            conv=>whnf
            ((conv in (_[_]?)=>tactic=>exact hob);(conv=>whnf))
            refine ⟨⟨rfl,by show (((ls.take k).flatten).length+ls[k].length)*1≤_;omega,by rw [zqq,Nat.mul_one],allOne _,by show ((ls.take k).flatten).length*1≤_;omega⟩,fun _=>⟨by show (((ls.take k).flatten).length+ls[k].length)*1≤_;omega,?_⟩,fun h=>absurd h (by omega)⟩
            conv=>whnf
            exact hlast _ _ _ ⟨rfl,rfl,rfl,rfl,zqv⟩ (g2.set hid _) (.inr ⟨y1,id,cap,⟨o.T,setCells (((ls.take k).flatten).length*1) (ls[k].map bC) o.cs,o.ver+1⟩,by rw [hf,zqf];rfl,hid,gS hob,⟨f1,htc⟩,f2⟩)
          · obtain ⟨f1,f2⟩:=hfin _ hbytes
            have ho':=g2.get ho
            conv=>whnf
            ((conv in (_[_]?)=>tactic=>exact ho');(conv=>whnf))
            ((conv in (_[_]?)=>tactic=>exact hob);(conv=>whnf))
            refine ⟨⟨rfl,by show (((ls.take k).flatten).length+ls[k].length)*1≤_;omega,(zqm List.length hbytes).trans (by rw [zqq];exact (Nat.mul_one _).symm),(zqm (List.all · oneP) hbytes).trans (allOne _),by show ((ls.take k).flatten).length*1≤_;omega⟩,fun _=>⟨by show (((ls.take k).flatten).length+ls[k].length)*1≤_;omega,?_⟩,fun h=>absurd h (by omega)⟩
            conv=>whnf
            exact hlast _ _ _ ⟨rfl,rfl,rfl,rfl,zqv⟩ (g2.set hid _) (.inr ⟨y1,id,cap,⟨o.T,setCells (((ls.take k).flatten).length*1) (((o2.cs.drop off2).take (ls[k].length*1)).map dem) o.cs,o.ver+1⟩,by rw [hf,zqf];rfl,hid,gS hob,⟨f1,htc⟩,f2⟩)
      · conv=>whnf
        have h:¬(k:Int)<ls.length:=h
        have hkl:k=ls.length:=by omega
        subst hkl
        rcases g3 with ⟨y1,rfl,y3⟩ | ⟨y1,id,cap,o,rfl,y2⟩
        · conv=>whnf
          exact ⟨g2,.inl ⟨y1,rfl,y3⟩⟩
        · conv=>whnf
          exact ⟨g2,.inr ⟨y1,id,cap,o,rfl,y2⟩⟩
theorem c156 (ls:List (List UInt8)) (hn:ls.length≤1099511627776) (ht:ls.flatten.length≤1099511627776) {H0:PH} {cs:List PV} (hr:Reps H0 cs ls):CK prog 156 [.slice ls.length cs none] H0 fun r H'=>r=sl ls.flatten∧H'=H0:=by
 have htake:ls.take ls.length=ls:=List.take_of_length_le (zqn _)
 rcases Nat.eq_zero_or_pos ls.flatten.length with h0 | h0
 ·have hnil:ls.flatten=[]:=List.length_eq_zero_iff.1 h0
  rw [hnil]
  refine CK.nil ((c156x ls hn ht H0 cs hr).mono fun r H' ⟨_,h⟩=>?_)
  rcases h with ⟨_,h1,h2⟩ | ⟨h1,_⟩
  ·exact ⟨h1,h2⟩
  ·omega
 ·refine CK.frz (c156x ls hn ht H0 cs hr) fun r H' ⟨⟨ext,he⟩,h⟩=>?_
  rcases h with ⟨h1,_⟩ | ⟨_,id,cap,o,h1,h2,h3,⟨h4,h5⟩,h6⟩
  ·omega
  rw [htake] at h1 h6
  refine ⟨ext,id,cap,o,he,h1,h2,h3,by rw [zqq];omega,by rw [zqq];exact h6,?_⟩
  exact List.all_eq_true.2 fun x hx=>by
   obtain ⟨b,_,rfl⟩:=List.mem_map.1 hx
   rfl
set_option maxHeartbeats 1000000
def ttW:TT:=[(3,⟨.int .i64,1,8,[.int .i64 0]⟩),(5,⟨.int .u8,1,1,[.int .u8 0]⟩),(31,⟨.slice 5,1,24,[.slice 0 [] (some 5)]⟩),(151,⟨.arr 16 5,16,16,List.replicate 16 (.int .u8 0)⟩),(226,⟨.int .u64,1,8,[.int .u64 0]⟩),(259,⟨.int .u64,1,8,[.int .u64 0]⟩),(306,⟨.slice 31,1,24,[.slice 0 [] (some 31)]⟩),(366,⟨.ptr,1,8,[.ptr none]⟩),(368,⟨.arr 4 226,4,32,[.int .u64 0,.int .u64 0,.int .u64 0,.int .u64 0]⟩)]
theorem ttW_ok:ttOk prog ttW=true:=by kernel_rfl
def imm249:List Nat:=[]
def imm206:List Nat:=[]
def imm205:List Nat:=[]
def imm204:List Nat:=[]
def imm160:List Nat:=[2]
def rotS (k:Int):Int:=ibits .and .u64 (IntKind.u64.wrap k) 63
def rotC (x k:Int):Int:=ibits .or .u64 (ishl .u64 x (rotS k)) (ishr .u64 x (IntKind.u64.wrap (64 - rotS k)))
theorem u64_nonneg (x:Int):0≤IntKind.u64.wrap x:=by
 show 0≤x % _
 exact Int.emod_nonneg _ (by decide)
theorem c249 (x k:Int):Pure prog 249 [.int .u64 x,.int .i64 k] (.int .u64 (rotC x k)):=by
 intro H
 (refine fnS (imm:=imm249) ttW_ok func249 ?_;(conv=>whnf))
 refine ⟨u64_nonneg _,?_⟩
 conv=>whnf
 refine ⟨u64_nonneg _,?_⟩
 conv=>whnf
 exact ⟨rfl,rfl⟩
structure S4 where
 a:Int
 b:Int
 c:Int
 d:Int
def S4.O (s:S4) (v:Nat):PObj:=⟨368,[.int .u64 s.a,.int .u64 s.b,.int .u64 s.c,.int .u64 s.d],v⟩
def addW (x y:Int):Int:=IntKind.u64.wrap (x+y)
def xorW (x y:Int):Int:=ibits .xor .u64 x y
def S4.s0 (s:S4):S4:=⟨addW s.a s.b,s.b,s.c,s.d⟩
def S4.s1 (s:S4):S4:=⟨s.a,xorW (rotC s.b 13) s.a,s.c,s.d⟩
def S4.s2 (s:S4):S4:=⟨rotC s.a 32,s.b,s.c,s.d⟩
def S4.s3 (s:S4):S4:=⟨s.a,s.b,addW s.c s.d,s.d⟩
def S4.s4 (s:S4):S4:=⟨s.a,s.b,s.c,xorW (rotC s.d 16) s.c⟩
def S4.s5 (s:S4):S4:=⟨addW s.a s.d,s.b,s.c,s.d⟩
def S4.s6 (s:S4):S4:=⟨s.a,s.b,s.c,xorW (rotC s.d 21) s.a⟩
def S4.s7 (s:S4):S4:=⟨s.a,s.b,addW s.c s.b,s.d⟩
def S4.s8 (s:S4):S4:=⟨s.a,xorW (rotC s.b 17) s.c,s.c,s.d⟩
def S4.s9 (s:S4):S4:=⟨s.a,s.b,rotC s.c 32,s.d⟩
def S4.rnd (s:S4):S4:=s.s0.s1.s2.s3.s4.s5.s6.s7.s8.s9
def S4.rnds:Nat→S4→S4
 | 0,s=>s
 | n+1,s=>(S4.rnds n s).rnd
theorem S4.look (s:S4) (v:Nat) {id:Nat} {H:PH} {o:PObj} (h:H[id]? = some o):(H.set id (s.O v))[id]? = some ⟨368,[.int .u64 s.a,.int .u64 s.b,.int .u64 s.c,.int .u64 s.d],v⟩:=gS h
def D206_2:Draw:={ imp:=[11],win:=[] }
def D206_3:Draw:={ imp:=[13],win:=[] }
def D206_4:Draw:={ imp:=[8],win:=[] }
def D206_5:Draw:={ imp:=[11],win:=[] }
def D206_6:Draw:={ imp:=[13],win:=[] }
def D206_7:Draw:={ imp:=[11],win:=[] }
def D206_8:Draw:={ imp:=[13],win:=[] }
def D206_9:Draw:={ imp:=[11],win:=[] }
def D206_10:Draw:={ imp:=[13],win:=[] }
def D206_11:Draw:={ imp:=[8],win:=[] }
theorem c206 (n:Nat) (hn:n≤1000) (s:S4) (id v:Nat) (H:PH) (hid:H[id]? = some (s.O v)) :
  CK prog 206 [.ptr (some (id,0)),.int .i64 n] H fun r H'=>r=.tup []∧∃v',H'=H.set id ((S4.rnds n s).O v'):=by
 (refine fnS (imm:=imm206) ttW_ok func206 ?_;(conv=>whnf))
 refine lO (Nat×Nat) (fun x=>[(0,.ptr (some (id,0))),(4,.int .i64 n),(5,.int .i64 x.1)]) (fun x=>H.set id ((S4.rnds x.1 s).O x.2)) (fun x=>x.1≤n) (fun x=>n - x.1) ⟨(0,v),Nat.zero_le _,⟨rfl,rfl,rfl,zqv⟩,(set_self hid).symm⟩ ?_
 rintro ⟨i,w⟩ hi
 replace hi:i≤n:=hi
 conv=>whnf
 refine ⟨fun h=>?_,fun h=>?_⟩
 ·have h:(i:Int)<n:=h
  conv=>whnf
  generalize hs:S4.rnds i s=z0
  refine dO2 D206_2 [H.set id (z0.O (w+0)),H.set id (z0.s0.O (w+1))] (by kernel_rfl) rfl trivial ?_
  conv=>whnf
  iterate 3 (refine dS ?_;(conv=>whnf))
  apply exA
  ·conv=>whnf
   ((conv in (_[_]?)=>tactic=>exact (z0.look (w+0) hid));(conv=>whnf))
   exact ⟨rfl,rfl,zqv⟩
  conv=>whnf
  iterate 3 (refine dS ?_;(conv=>whnf))
  apply exA
  ·conv=>whnf
   ((conv in (_[_]?)=>tactic=>exact (z0.look (w+0) hid));(conv=>whnf))
   exact ⟨rfl,rfl,zqv⟩
  conv=>whnf
  iterate 3 (refine dS ?_;(conv=>whnf))
  apply exA
  ·conv=>whnf
   ((conv in (_[_]?)=>tactic=>exact (z0.look (w+0) hid));(conv=>whnf))
   exact ⟨rfl,List.set_set ..,zqv⟩
  conv=>whnf
  generalize hs1:S4.s0 z0=z1
  refine dO2 D206_3 [H.set id (z1.O (w+1)),H.set id (z1.s1.O (w+2))] (by kernel_rfl) rfl trivial ?_
  conv=>whnf
  iterate 4 (refine dS ?_;(conv=>whnf))
  apply exA
  ·conv=>whnf
   ((conv in (_[_]?)=>tactic=>exact (z1.look (w+1) hid));(conv=>whnf))
   exact ⟨rfl,rfl,zqv⟩
  conv=>whnf
  refine ⟨_,cP (c249 _ _) ⟨rfl,rfl,zqv⟩,?_⟩
  conv=>whnf
  iterate 3 (refine dS ?_;(conv=>whnf))
  apply exA
  ·conv=>whnf
   ((conv in (_[_]?)=>tactic=>exact (z1.look (w+1) hid));(conv=>whnf))
   exact ⟨rfl,rfl,zqv⟩
  conv=>whnf
  iterate 3 (refine dS ?_;(conv=>whnf))
  apply exA
  ·conv=>whnf
   ((conv in (_[_]?)=>tactic=>exact (z1.look (w+1) hid));(conv=>whnf))
   exact ⟨rfl,List.set_set ..,zqv⟩
  conv=>whnf
  generalize hs2:S4.s1 z1=z2
  refine dO2 D206_4 [H.set id (z2.O (w+2)),H.set id (z2.s2.O (w+3))] (by kernel_rfl) rfl trivial ?_
  conv=>whnf
  iterate 4 (refine dS ?_;(conv=>whnf))
  apply exA
  ·conv=>whnf
   ((conv in (_[_]?)=>tactic=>exact (z2.look (w+2) hid));(conv=>whnf))
   exact ⟨rfl,rfl,zqv⟩
  conv=>whnf
  refine ⟨_,cP (c249 _ _) ⟨rfl,rfl,zqv⟩,?_⟩
  conv=>whnf
  iterate 2 (refine dS ?_;(conv=>whnf))
  apply exA
  ·conv=>whnf
   ((conv in (_[_]?)=>tactic=>exact (z2.look (w+2) hid));(conv=>whnf))
   exact ⟨rfl,List.set_set ..,zqv⟩
  conv=>whnf
  generalize hs3:S4.s2 z2=z3
  refine dO2 D206_5 [H.set id (z3.O (w+3)),H.set id (z3.s3.O (w+4))] (by kernel_rfl) rfl trivial ?_
  conv=>whnf
  iterate 3 (refine dS ?_;(conv=>whnf))
  apply exA
  ·conv=>whnf
   ((conv in (_[_]?)=>tactic=>exact (z3.look (w+3) hid));(conv=>whnf))
   exact ⟨rfl,rfl,zqv⟩
  conv=>whnf
  iterate 3 (refine dS ?_;(conv=>whnf))
  apply exA
  ·conv=>whnf
   ((conv in (_[_]?)=>tactic=>exact (z3.look (w+3) hid));(conv=>whnf))
   exact ⟨rfl,rfl,zqv⟩
  conv=>whnf
  iterate 3 (refine dS ?_;(conv=>whnf))
  apply exA
  ·conv=>whnf
   ((conv in (_[_]?)=>tactic=>exact (z3.look (w+3) hid));(conv=>whnf))
   exact ⟨rfl,List.set_set ..,zqv⟩
  conv=>whnf
  generalize hs4:S4.s3 z3=z4
  refine dO2 D206_6 [H.set id (z4.O (w+4)),H.set id (z4.s4.O (w+5))] (by kernel_rfl) rfl trivial ?_
  conv=>whnf
  iterate 4 (refine dS ?_;(conv=>whnf))
  apply exA
  ·conv=>whnf
   ((conv in (_[_]?)=>tactic=>exact (z4.look (w+4) hid));(conv=>whnf))
   exact ⟨rfl,rfl,zqv⟩
  conv=>whnf
  refine ⟨_,cP (c249 _ _) ⟨rfl,rfl,zqv⟩,?_⟩
  conv=>whnf
  iterate 3 (refine dS ?_;(conv=>whnf))
  apply exA
  ·conv=>whnf
   ((conv in (_[_]?)=>tactic=>exact (z4.look (w+4) hid));(conv=>whnf))
   exact ⟨rfl,rfl,zqv⟩
  conv=>whnf
  iterate 3 (refine dS ?_;(conv=>whnf))
  apply exA
  ·conv=>whnf
   ((conv in (_[_]?)=>tactic=>exact (z4.look (w+4) hid));(conv=>whnf))
   exact ⟨rfl,List.set_set ..,zqv⟩
  conv=>whnf
  generalize hs5:S4.s4 z4=z5
  refine dO2 D206_7 [H.set id (z5.O (w+5)),H.set id (z5.s5.O (w+6))] (by kernel_rfl) rfl trivial ?_
  conv=>whnf
  iterate 3 (refine dS ?_;(conv=>whnf))
  apply exA
  ·conv=>whnf
   ((conv in (_[_]?)=>tactic=>exact (z5.look (w+5) hid));(conv=>whnf))
   exact ⟨rfl,rfl,zqv⟩
  conv=>whnf
  iterate 3 (refine dS ?_;(conv=>whnf))
  apply exA
  ·conv=>whnf
   ((conv in (_[_]?)=>tactic=>exact (z5.look (w+5) hid));(conv=>whnf))
   exact ⟨rfl,rfl,zqv⟩
  conv=>whnf
  iterate 3 (refine dS ?_;(conv=>whnf))
  apply exA
  ·conv=>whnf
   ((conv in (_[_]?)=>tactic=>exact (z5.look (w+5) hid));(conv=>whnf))
   exact ⟨rfl,List.set_set ..,zqv⟩
  conv=>whnf
  generalize hs6:S4.s5 z5=z6
  refine dO2 D206_8 [H.set id (z6.O (w+6)),H.set id (z6.s6.O (w+7))] (by kernel_rfl) rfl trivial ?_
  conv=>whnf
  iterate 4 (refine dS ?_;(conv=>whnf))
  apply exA
  ·conv=>whnf
   ((conv in (_[_]?)=>tactic=>exact (z6.look (w+6) hid));(conv=>whnf))
   exact ⟨rfl,rfl,zqv⟩
  conv=>whnf
  refine ⟨_,cP (c249 _ _) ⟨rfl,rfl,zqv⟩,?_⟩
  conv=>whnf
  iterate 3 (refine dS ?_;(conv=>whnf))
  apply exA
  ·conv=>whnf
   ((conv in (_[_]?)=>tactic=>exact (z6.look (w+6) hid));(conv=>whnf))
   exact ⟨rfl,rfl,zqv⟩
  conv=>whnf
  iterate 3 (refine dS ?_;(conv=>whnf))
  apply exA
  ·conv=>whnf
   ((conv in (_[_]?)=>tactic=>exact (z6.look (w+6) hid));(conv=>whnf))
   exact ⟨rfl,List.set_set ..,zqv⟩
  conv=>whnf
  generalize hs7:S4.s6 z6=z7
  refine dO2 D206_9 [H.set id (z7.O (w+7)),H.set id (z7.s7.O (w+8))] (by kernel_rfl) rfl trivial ?_
  conv=>whnf
  iterate 3 (refine dS ?_;(conv=>whnf))
  apply exA
  ·conv=>whnf
   ((conv in (_[_]?)=>tactic=>exact (z7.look (w+7) hid));(conv=>whnf))
   exact ⟨rfl,rfl,zqv⟩
  conv=>whnf
  iterate 3 (refine dS ?_;(conv=>whnf))
  apply exA
  ·conv=>whnf
   ((conv in (_[_]?)=>tactic=>exact (z7.look (w+7) hid));(conv=>whnf))
   exact ⟨rfl,rfl,zqv⟩
  conv=>whnf
  iterate 3 (refine dS ?_;(conv=>whnf))
  apply exA
  ·conv=>whnf
   ((conv in (_[_]?)=>tactic=>exact (z7.look (w+7) hid));(conv=>whnf))
   exact ⟨rfl,List.set_set ..,zqv⟩
  conv=>whnf
  generalize hs8:S4.s7 z7=z8
  refine dO2 D206_10 [H.set id (z8.O (w+8)),H.set id (z8.s8.O (w+9))] (by kernel_rfl) rfl trivial ?_
  conv=>whnf
  iterate 4 (refine dS ?_;(conv=>whnf))
  apply exA
  ·conv=>whnf
   ((conv in (_[_]?)=>tactic=>exact (z8.look (w+8) hid));(conv=>whnf))
   exact ⟨rfl,rfl,zqv⟩
  conv=>whnf
  refine ⟨_,cP (c249 _ _) ⟨rfl,rfl,zqv⟩,?_⟩
  conv=>whnf
  iterate 3 (refine dS ?_;(conv=>whnf))
  apply exA
  ·conv=>whnf
   ((conv in (_[_]?)=>tactic=>exact (z8.look (w+8) hid));(conv=>whnf))
   exact ⟨rfl,rfl,zqv⟩
  conv=>whnf
  iterate 3 (refine dS ?_;(conv=>whnf))
  apply exA
  ·conv=>whnf
   ((conv in (_[_]?)=>tactic=>exact (z8.look (w+8) hid));(conv=>whnf))
   exact ⟨rfl,List.set_set ..,zqv⟩
  conv=>whnf
  generalize hs9:S4.s8 z8=z9
  refine dO2 D206_11 [H.set id (z9.O (w+9)),H.set id (z9.s9.O (w+10))] (by kernel_rfl) rfl trivial ?_
  conv=>whnf
  iterate 4 (refine dS ?_;(conv=>whnf))
  apply exA
  ·conv=>whnf
   ((conv in (_[_]?)=>tactic=>exact (z9.look (w+9) hid));(conv=>whnf))
   exact ⟨rfl,rfl,zqv⟩
  conv=>whnf
  refine ⟨_,cP (c249 _ _) ⟨rfl,rfl,zqv⟩,?_⟩
  conv=>whnf
  iterate 2 (refine dS ?_;(conv=>whnf))
  apply exA
  ·conv=>whnf
   ((conv in (_[_]?)=>tactic=>exact (z9.look (w+9) hid));(conv=>whnf))
   exact ⟨rfl,List.set_set ..,zqv⟩
  conv=>whnf
  refine ⟨(i+1,w+10),by show i+1≤n;omega,⟨rfl,rfl,?_,zqv⟩,?_,by show n - (i+1)<n - i;omega⟩
  ·show PV.int _ (IntKind.i64.wrap ((i:Int)+1))=PV.int _ _
   rw [w64 (by omega) (by omega)];simp
  ·subst hs hs1 hs2 hs3 hs4 hs5 hs6 hs7 hs8 hs9
   rfl
 ·have h:¬(i:Int)<n:=h
  have e:i=n:=by omega
  subst e
  conv=>whnf
  exact ⟨rfl,w,rfl⟩
def leN:List UInt8→Nat
 | []=>0
 | c::l=>c.toNat+256*leN l
theorem leN_lt:∀l:List UInt8,leN l<256 ^ l.length
 | []=>by decide
 | c::l=>by
  have:=leN_lt l
  have:=c.toNat_lt
  rw [List.length_cons,Nat.pow_succ]
  show c.toNat+256*leN l<_
  omega
theorem leN_snoc:∀(l:List UInt8) (c:UInt8),leN (l++[c])=leN l+256 ^ l.length*c.toNat
 | [],c=>by simp [leN]
 | x::l,c=>by
  show x.toNat+256*leN (l++[c])=x.toNat+256*leN l+_
  rw [leN_snoc l c,List.length_cons,Nat.pow_succ,Nat.mul_add,Nat.add_assoc]
  congr 2
  rw [←Nat.mul_assoc,Nat.mul_comm 256]
theorem wrapU64 {n:Nat} (h:n<18446744073709551616):IntKind.u64.wrap (n:Int)=(n:Int):=by
 show (n:Int) % _=_
 have:(2 ^ IntKind.u64.bits:Int)=18446744073709551616:=by decide
 rw [this];omega
theorem or_u64 {x y:Nat} (hx:x<18446744073709551616) (hy:y<18446744073709551616):ibits .or .u64 x y=((x ||| y:Nat):Int):=by
 show IntKind.u64.wrap ((BitVec.ofInt 64 x ||| BitVec.ofInt 64 y).toNat:Int)=_
 have hb:∀{n:Nat},n<18446744073709551616→(BitVec.ofInt 64 (n:Int)).toNat=n:=fun h=>by
  rw [BitVec.toNat_ofInt];omega
 rw [BitVec.toNat_or,hb hx,hb hy]
 have:x ||| y<2 ^ 64:=Nat.or_lt_two_pow hx hy
 exact wrapU64 this
theorem or_shl (x c i:Nat) (hx:x<2 ^ i) (hc:c*2 ^ i<18446744073709551616) (h2:2 ^ i≤18446744073709551616) (hi:i≤64) :
  ibits .or .u64 x (ishl .u64 c i)=((x+c*2 ^ i:Nat):Int):=by
 have e:ishl .u64 c i=((c*2 ^ i:Nat):Int):=by
  show IntKind.u64.wrap ((c:Int)*2 ^ (min (i:Int).toNat 64))=_
  rw [Int.toNat_natCast,Nat.min_eq_left hi]
  have:((c:Int)*2 ^ i)=((c*2 ^ i:Nat):Int):=by push_cast;rfl
  rw [this]
  exact wrapU64 hc
 rw [e,or_u64 (by omega) hc,Nat.or_comm,Nat.mul_comm,←Nat.two_pow_add_eq_or_of_lt hx,Nat.add_comm]
theorem pow8 (i:Nat):256 ^ i=2 ^ (8*i):=by rw [Nat.pow_mul]
theorem pow_le8 {i:Nat} (h:i≤8):2 ^ (8*i)≤18446744073709551616:=by
 have:2 ^ (8*i)≤2 ^ 64:=Nat.pow_le_pow_right (by omega) (by omega)
 exact this
theorem le_step (l:List UInt8) (c:UInt8) (h:l.length<8) :
  ibits .or .u64 (leN l:Nat) (ishl .u64 (IntKind.u64.wrap c.toNat) (8*(l.length:Int)))=((leN (l++[c]):Nat):Int):=by
 have hc:=c.toNat_lt
 have h1:=leN_lt l
 rw [pow8] at h1
 have h3:2 ^ (8*(l.length+1))≤18446744073709551616:=pow_le8 (by omega)
 have h4:2 ^ (8*(l.length+1))=256*2 ^ (8*l.length):=by rw [Nat.mul_add,Nat.pow_add];omega
 have h2:c.toNat*2 ^ (8*l.length)<18446744073709551616:=by
  have:c.toNat*2 ^ (8*l.length)<256*2 ^ (8*l.length):=Nat.mul_lt_mul_of_pos_right hc (Nat.pow_pos (by omega))
  omega
 rw [wrapU64 (by omega)]
 have:=or_shl (leN l) c.toNat (8*l.length) h1 h2 (by omega) (by omega)
 rw [leN_snoc,pow8,Nat.mul_comm (2 ^ _)]
 have e:(8*(l.length:Int))=((8*l.length:Nat):Int):=by push_cast;rfl
 rw [e]
 exact this
theorem at1' {cs:List PV} {k:Nat} {x:PV} (h:cs[k]? = some x):∀(j:Nat) (c:PV),[x][j]? = some c→cs[k+j]? = some c:=by
 intro j c hj
 match j with
 | 0=>simpa using h.trans hj
 | j+1=>simp at hj
theorem c204 (b:List UInt8) (hb:b.length≤8):Pure prog 204 [sl b] (.int .u64 (leN b)):=by
 intro H
 (refine fnS (imm:=imm204) ttW_ok func204 ?_;(conv=>whnf))
 refine lO Nat (fun i=>[(6,sl b),(7,.int .i64 b.length),(8,.int .i64 i),(3,.int .u64 (leN (b.take i)))]) (fun _=>H) (fun i=>i≤b.length) (fun i=>b.length - i) ⟨0,Nat.zero_le _,⟨rfl,rfl,rfl,rfl,zqv⟩,rfl⟩ ?_
 intro i hi
 conv=>whnf
 refine ⟨fun h=>?_,fun h=>?_⟩
 ·have h:(i:Int)<b.length:=h
  have hi':i<b.length:=by omega
  conv=>whnf
  refine ⟨⟨by omega,h⟩,[bC b[i]],at1' (k:=(i:Int).toNat*1) (by rw [Int.toNat_natCast,Nat.mul_one,List.getElem?_map,zqc hi'];rfl),?_⟩
  conv=>whnf
  refine ⟨by rw [w64 (by omega) (by omega)];omega,?_⟩
  conv=>whnf
  refine ⟨i+1,by omega,⟨rfl,rfl,?_,?_,zqv⟩,rfl,by omega⟩
  ·show PV.int _ (IntKind.i64.wrap ((i:Int)+1))=PV.int _ _
   rw [w64 (by omega) (by omega)];simp
  ·show PV.int _ (ibits .or .u64 (leN (b.take i):Nat) (ishl .u64 (IntKind.u64.wrap (b[i].toNat:Int)) (IntKind.i64.wrap (8*(i:Int)))))=PV.int _ _
   rw [w64 (by omega) (by omega),List.take_succ_eq_append_getElem hi']
   have hl:(b.take i).length=i:=by rw [zqr];omega
   have:=le_step (b.take i) b[i] (by omega)
   rw [hl] at this
   rw [this]
 ·have h:¬(i:Int)<b.length:=h
  have e:b.take i=b:=List.take_of_length_le (by omega)
  rw [e]
  conv=>whnf
  exact ⟨rfl,rfl⟩
def S4.takes (s:S4) (m:Int):S4:={ S4.rnds 2 { s with d:=xorW s.d m } with a:=xorW (S4.rnds 2 { s with d:=xorW s.d m }).a m }
def D205:Draw:={ imp:=[8],win:=[] }
theorem c205 (s:S4) (m:Int) (id v:Nat) (H:PH) (hid:H[id]? = some (s.O v)) :
  CK prog 205 [.ptr (some (id,0)),.int .u64 m] H fun r H'=>r=.tup []∧∃v',H'=H.set id ((s.takes m).O v'):=by
 (refine fnS (imm:=imm205) ttW_ok func205 ?_;(conv=>whnf))
 refine dO2 D205 [H,H.set id (S4.O { s with d:=xorW s.d m } (v+1))] (by kernel_rfl) rfl trivial ?_
 have g0:H[id]? = some ⟨368,[.int .u64 s.a,.int .u64 s.b,.int .u64 s.c,.int .u64 s.d],v⟩:=hid
 conv=>whnf
 iterate 3 (refine dS ?_;(conv=>whnf))
 apply exA
 ·conv=>whnf
  ((conv in (_[_]?)=>tactic=>exact g0);(conv=>whnf))
  exact ⟨rfl,rfl,zqv⟩
 conv=>whnf
 iterate 4 (refine dS ?_;(conv=>whnf))
 apply exA
 ·conv=>whnf
  ((conv in (_[_]?)=>tactic=>exact g0);(conv=>whnf))
  exact ⟨rfl,rfl,zqv⟩
 conv=>whnf
 refine cO (Q:=fun r H'=>r=.tup []∧∃v',H'=H.set id ((S4.rnds 2 { s with d:=xorW s.d m }).O v')) ((c206 2 (by omega) { s with d:=xorW s.d m } id (v+1) (H.set id _) (gS hid)).mono fun r H' hh=>?_) ?_
 ·obtain ⟨h1,v',h2⟩:=hh
  exact ⟨h1,v',by rw [h2,List.set_set]⟩
 rintro _ _ ⟨rfl,v',rfl⟩
 conv=>whnf
 generalize hs:S4.rnds 2 { s with d:=xorW s.d m }=z
 refine dO2 D205 [H.set id (z.O v'),H.set id (S4.O { z with a:=xorW z.a m } (v'+1))] (by kernel_rfl) rfl trivial ?_
 conv=>whnf
 iterate 3 (refine dS ?_;(conv=>whnf))
 apply exA
 ·conv=>whnf
  ((conv in (_[_]?)=>tactic=>exact (z.look v' hid));(conv=>whnf))
  exact ⟨rfl,rfl,zqv⟩
 conv=>whnf
 iterate 4 (refine dS ?_;(conv=>whnf))
 apply exA
 ·conv=>whnf
  ((conv in (_[_]?)=>tactic=>exact (z.look v' hid));(conv=>whnf))
  exact ⟨rfl,List.set_set ..,zqv⟩
 conv=>whnf
 refine ⟨rfl,v'+1,?_⟩
 subst hs
 rfl
def sipN (s:S4) (p:List UInt8):Nat→S4
 | 0=>s
 | n+1=>(sipN s p n).takes (leN ((p.drop (8*n)).take 8):Nat)
def sipI (k:List UInt8):S4:=⟨xorW 8317987319222330741 (leN (k.take 8):Nat),xorW 7237128888997146477 (leN (k.drop 8):Nat),xorW 7816392313619706465 (leN (k.take 8):Nat),xorW 8387220255154660723 (leN (k.drop 8):Nat)⟩
def lastW (n:Int):Int:=ishl .u64 (IntKind.u64.wrap (IntKind.u8.wrap n)) 56
def S4.fin (s:S4):S4:=S4.rnds 4 { s with c:=xorW s.c 255 }
def S4.out (s:S4):Int:=xorW (xorW (xorW s.a s.b) s.c) s.d
def sipV (k p:List UInt8):Int:=(((sipN (sipI k) p (p.length / 8)).takes (ibits .or .u64 (lastW p.length) (leN (p.drop (8*(p.length / 8))):Nat))).fin).out
theorem Rep.ext {H H':PH} (e:Ext H H') {c:PV} {b:List UInt8} (h:Rep H c b):Rep H' c b:=by
 rcases h with h | ⟨id,off,cap,o,h1,h2,h3⟩
 ·exact .inl h
 ·exact .inr ⟨id,off,cap,o,h1,e.get h2,h3⟩
theorem Reps.ext {H H':PH} (e:Ext H H') {cs:List PV} {ls:List (List UInt8)} (h:Reps H cs ls):Reps H' cs ls:=⟨h.1,fun i c b hc hb=>(h.2 i c b hc hb).ext e⟩
theorem len16 {k:List UInt8} (h:k.length=16):∃k0 k1 k2 k3 k4 k5 k6 k7 k8 k9 ka kb kc kd ke kf,k=[k0,k1,k2,k3,k4,k5,k6,k7,k8,k9,ka,kb,kc,kd,ke,kf]:=by
 match k,h with
 | [k0,k1,k2,k3,k4,k5,k6,k7,k8,k9,ka,kb,kc,kd,ke,kf],_=>exact ⟨_,_,_,_,_,_,_,_,_,_,_,_,_,_,_,_,rfl⟩
theorem sl_cut2 (b:List UInt8) (l h:Int) (h0:0≤l∧l≤h∧h≤b.length) :
  PV.slice (h.toNat - l.toNat) (((b.map bC).take (h.toNat*1)).drop (l.toNat*1)) none=sl ((b.take h.toNat).drop l.toNat):=by
 unfold sl
 have:((b.take h.toNat).drop l.toNat).length=h.toNat - l.toNat:=by rw [List.length_drop,zqr];omega
 rw [this,List.map_drop,List.map_take,Nat.mul_one,Nat.mul_one]
structure SipS where
 i:Nat
 v:Nat
def D160_9:Draw:={ imp:=[7],win:=[] }
theorem c160x (k:List UInt8) (hk:k.length=16) (ls:List (List UInt8)) (hn:ls.length≤1099511627776) (ht:ls.flatten.length≤1099511627776) (H:PH) (cs:List PV) (hr:Reps H cs ls) :
  CK prog 160 [.agg (k.map bC),.slice ls.length cs none] H fun r H'=>r=.int .u64 (sipV k ls.flatten)∧∃ext,H'=H++ext:=by
 obtain ⟨k0,k1,k2,k3,k4,k5,k6,k7,k8,k9,ka,kb,kc,kd,ke,kf,rfl⟩:=len16 hk
 have hk2:sipI [k0,k1,k2,k3,k4,k5,k6,k7,k8,k9,ka,kb,kc,kd,ke,kf]=⟨xorW 8317987319222330741 (leN [k0,k1,k2,k3,k4,k5,k6,k7]:Nat),xorW 7237128888997146477 (leN [k8,k9,ka,kb,kc,kd,ke,kf]:Nat),xorW 7816392313619706465 (leN [k0,k1,k2,k3,k4,k5,k6,k7]:Nat),xorW 8387220255154660723 (leN [k8,k9,ka,kb,kc,kd,ke,kf]:Nat)⟩:=rfl
 unfold sipV
 generalize hs0:sipI [k0,k1,k2,k3,k4,k5,k6,k7,k8,k9,ka,kb,kc,kd,ke,kf]=s0
 rw [hk2] at hs0
 (refine fnS (imm:=imm160) ttW_ok func160 ?_;(conv=>whnf))
 refine dP2 (by kernel_rfl) ?_
 conv=>whnf
 (refine dS ?_;(conv=>whnf))
 refine ⟨_,cA rfl (cP (c204 [k0,k1,k2,k3,k4,k5,k6,k7] (by simp)) ⟨rfl,rfl,zqv⟩),?_⟩
 conv=>whnf
 (refine dS ?_;(conv=>whnf))
 refine ⟨_,cA rfl (cP (c204 [k8,k9,ka,kb,kc,kd,ke,kf] (by simp)) ⟨rfl,rfl,zqv⟩),?_⟩
 conv=>whnf
 iterate 2 (refine dS ?_;(conv=>whnf))
 refine cO (c156 ls hn ht (hr.ext ((Ext.refl H).push _))) ?_
 rintro _ _ ⟨rfl,rfl⟩
 conv=>whnf
 generalize hp:ls.flatten=p at ht ⊢
 have hO:(PObj.mk 368 [.int .u64 (ibits .xor .u64 8317987319222330741 (leN [k0,k1,k2,k3,k4,k5,k6,k7]:Nat)),.int .u64 (ibits .xor .u64 7237128888997146477 (leN [k8,k9,ka,kb,kc,kd,ke,kf]:Nat)),.int .u64 (ibits .xor .u64 7816392313619706465 (leN [k0,k1,k2,k3,k4,k5,k6,k7]:Nat)),.int .u64 (ibits .xor .u64 8387220255154660723 (leN [k8,k9,ka,kb,kc,kd,ke,kf]:Nat))] 0)=s0.O 0:=by subst hs0;rfl
 refine ⟨by decide,?_⟩
 conv=>whnf
 refine lO SipS (fun x=>[(7,.ptr (some (H.length,0))),(8,sl (p.drop (8*x.i))),(9,.int .u64 (lastW p.length))]) (fun x=>H++[(sipN s0 p x.i).O x.v]) (fun x=>x.i≤p.length / 8) (fun x=>p.length / 8 - x.i) ⟨⟨0,0⟩,Nat.zero_le _,⟨rfl,rfl,rfl,zqv⟩,zqm (fun o=>H++[o]) hO⟩ ?_
 rintro ⟨i,v⟩ hi
 replace hi:i≤p.length / 8:=hi
 have hl:(p.drop (8*i)).length=p.length - 8*i:=List.length_drop
 conv=>whnf
 refine ⟨fun h=>?_,fun h=>?_⟩
 ·have h:(8:Int)≤(p.drop (8*i)).length:=h
  conv=>whnf
  refine ⟨⟨by omega,by omega,h⟩,?_⟩
  conv=>whnf
  refine cA (zqm (fun x=>[x]) (sl_cut2 (p.drop (8*i)) 0 8 ⟨by omega,by omega,h⟩)) (cP (c204 (((p.drop (8*i)).take 8).drop 0) (by rw [List.length_drop,zqr];omega)) ?_)
  conv=>whnf
  refine cO (Q:=fun r H'=>r=.tup []∧∃v',H'=H++[(sipN s0 p (i+1)).O v']) ((c205 (sipN s0 p i) (leN (((p.drop (8*i)).take 8).drop 0):Nat) H.length v _ (gL H _)).mono fun r H' hh=>?_) ?_
  ·obtain ⟨h1,v',h2⟩:=hh
   exact ⟨h1,v',by rw [h2,sL];rfl⟩
  rintro _ _ ⟨rfl,v',rfl⟩
  conv=>whnf
  refine ⟨⟨by omega,h,by omega⟩,?_⟩
  conv=>whnf
  refine ⟨⟨i+1,v'⟩,by show i+1≤p.length / 8;omega,⟨rfl,?_,rfl,zqv⟩,rfl,by show p.length / 8 - (i+1)<p.length / 8 - i;omega⟩
  have e:=sl_cut2 (p.drop (8*i)) 8 (p.drop (8*i)).length ⟨by omega,h,by omega⟩
  rw [Int.toNat_natCast,List.take_length,List.drop_drop] at e
  exact e
 ·have h:¬(8:Int)≤(p.drop (8*i)).length:=h
  have hi2:i=p.length / 8:=by omega
  rw [←hi2]
  conv=>whnf
  refine cP (c204 (p.drop (8*i)) (by omega)) ?_
  conv=>whnf
  generalize hm:ibits .or .u64 (lastW p.length) (leN (p.drop (8*i)):Nat)=m
  generalize hs1:sipN s0 p i=s1
  refine cO (Q:=fun r H'=>r=.tup []∧∃v',H'=H++[(s1.takes m).O v']) ?_ ?_
  ·refine (c205 s1 m H.length v _ (gL H _)).mono fun r H' hh=>?_
   obtain ⟨h1,v',h2⟩:=hh
   exact ⟨h1,v',by rw [h2,sL]⟩
  rintro _ _ ⟨rfl,v1,rfl⟩
  conv=>whnf
  generalize hs2:s1.takes m=s2
  refine dO2 D160_9 [H++[s2.O v1],H++[S4.O { s2 with c:=xorW s2.c 255 } (v1+1)]] (by kernel_rfl) rfl trivial ?_
  have g0:(H++[s2.O v1])[H.length]? = some ⟨368,[.int .u64 s2.a,.int .u64 s2.b,.int .u64 s2.c,.int .u64 s2.d],v1⟩:=gL H _
  conv=>whnf
  iterate 3 (refine dS ?_;(conv=>whnf))
  apply exA
  ·conv=>whnf
   ((conv in (_[_]?)=>tactic=>exact g0);(conv=>whnf))
   exact ⟨rfl,rfl,zqv⟩
  conv=>whnf
  iterate 3 (refine dS ?_;(conv=>whnf))
  apply exA
  ·conv=>whnf
   ((conv in (_[_]?)=>tactic=>exact g0);(conv=>whnf))
   exact ⟨rfl,sL H _ _,zqv⟩
  conv=>whnf
  refine cO (Q:=fun r H'=>r=.tup []∧∃v',H'=H++[s2.fin.O v']) ((c206 4 (by omega) { s2 with c:=xorW s2.c 255 } H.length (v1+1) (H++[_]) (gL H _)).mono fun r H' hh=>?_) ?_
  ·obtain ⟨h1,v',h2⟩:=hh
   exact ⟨h1,v',by rw [h2,sL];rfl⟩
  rintro _ _ ⟨rfl,v2,rfl⟩
  conv=>whnf
  generalize hs3:s2.fin=s3
  have g1:(H++[s3.O v2])[H.length]? = some ⟨368,[.int .u64 s3.a,.int .u64 s3.b,.int .u64 s3.c,.int .u64 s3.d],v2⟩:=gL H _
  refine dP2 (by kernel_rfl) ?_
  conv=>whnf
  iterate 3 (refine dS ?_;(conv=>whnf))
  apply exA
  ·conv=>whnf
   ((conv in (_[_]?)=>tactic=>exact g1);(conv=>whnf))
   exact ⟨rfl,rfl,zqv⟩
  conv=>whnf
  iterate 3 (refine dS ?_;(conv=>whnf))
  apply exA
  ·conv=>whnf
   ((conv in (_[_]?)=>tactic=>exact g1);(conv=>whnf))
   exact ⟨rfl,rfl,zqv⟩
  conv=>whnf
  iterate 4 (refine dS ?_;(conv=>whnf))
  apply exA
  ·conv=>whnf
   ((conv in (_[_]?)=>tactic=>exact g1);(conv=>whnf))
   exact ⟨rfl,rfl,zqv⟩
  conv=>whnf
  iterate 4 (refine dS ?_;(conv=>whnf))
  apply exA
  ·conv=>whnf
   ((conv in (_[_]?)=>tactic=>exact g1);(conv=>whnf))
   exact ⟨rfl,rfl,zqv⟩
  conv=>whnf
  iterate 2 (refine dS ?_;(conv=>whnf))
  exact ⟨rfl,_,rfl⟩
theorem c160 (k:List UInt8) (hk:k.length=16) (ls:List (List UInt8)) (hn:ls.length≤1099511627776) (ht:ls.flatten.length≤1099511627776) {H:PH} {cs:List PV} (hr:Reps H cs ls) :
  CK prog 160 [.agg (k.map bC),.slice ls.length cs none] H fun r H'=>r=.int .u64 (sipV k ls.flatten)∧H'=H:=by
 exact ((c160x k hk ls hn ht H cs hr).gc fun r H' ⟨h1,h2⟩=>by subst h1;exact ⟨rfl,h2⟩).mono fun r H' ⟨h1,_,h2,_⟩=>⟨h2,h1⟩
def ttS:TT:=[(2,⟨.int .i64,1,8,[.int .i64 0]⟩),(3,⟨.int .i64,1,8,[.int .i64 0]⟩),(4,⟨.bool,1,1,[.bool false]⟩),(5,⟨.int .u8,1,1,[.int .u8 0]⟩),(31,⟨.slice 5,1,24,[.slice 0 [] (some 5)]⟩),(98,⟨.ptr,1,8,[.ptr none]⟩),(85,⟨.ptr,1,8,[.ptr none]⟩),(151,⟨.arr 16 5,16,16,List.replicate 16 (.int .u8 0)⟩),(84,⟨.strB [(81,0),(82,0),(2,0)],1,8,[.int .i64 0]⟩),(223,⟨.strct [(85,0),(151,1),(84,17),(84,18),(84,19)],20,48,[.ptr none]++List.replicate 16 (.int .u8 0)++[.int .i64 0,.int .i64 0,.int .i64 0]⟩),(226,⟨.int .u64,1,8,[.int .u64 0]⟩),(306,⟨.slice 31,1,24,[.slice 0 [] (some 31)]⟩),(311,⟨.ptr,1,8,[.ptr none]⟩),(243,⟨.int .u32,1,4,[.int .u32 0]⟩),(322,⟨.slice 243,1,24,[.slice 0 [] (some 243)]⟩)]
theorem ttS_ok:ttOk prog ttS=true:=by kernel_rfl
def imm101:List Nat:=[]
def imm120:List Nat:=[]
def imm105y:List Nat:=[]
def byteI (x:Int):UInt8:=UInt8.ofNat (x % 256).toNat
theorem byteC_I (x:Int):PV.int .u8 (IntKind.u8.wrap x)=bC (byteI x):=by
 show PV.int .u8 (x % (2 ^ IntKind.u8.bits:Int))=PV.int .u8 (((byteI x).toNat:Nat):Int)
 have:(2 ^ IntKind.u8.bits:Int)=256:=by decide
 rw [this]
 unfold byteI
 rw [UInt8.toNat_ofNat']
 congr 1
 omega
theorem dropN_app (cs:List UInt8) (rest:List PV) {i:Nat} {x:UInt8} (h:cs[i]? = some x):dropN (0+(i:Int).toNat*1) (cs.map bC++rest)=bC x::((cs.drop (i+1)).map bC++rest):=by
 have hl:=(zq1.1 h).1
 rw [dropN_eq]
 simp only [Nat.zero_add,Int.toNat_natCast,Nat.mul_one]
 rw [List.drop_append_of_le_length (by rw [zqq];omega),←List.map_drop,List.drop_eq_getElem_cons hl,List.map_cons,List.cons_append]
 congr 2
 exact (zq1.1 h).2
theorem setCells_app (cs:List UInt8) (rest:List PV) (i:Nat) (x:UInt8) (h:i<cs.length):setCells i [bC x] (cs.map bC++rest)=(cs.set i x).map bC++rest:=by
 induction cs generalizing i with
 | nil=>simp at h
 | cons y cs ih =>
  cases i with
  | zero=>simp [setCells]
  | succ i =>
   have:=ih i (by simpa using h)
   simp [setCells,this]
def D158:Draw:={ imp:=[13,15],win:=[(2,0,1),(3,0,1),(14,1,1),(15,1,1)] }
structure RevB where
 i:Nat
 cur:List UInt8
 v:Nat
theorem c158 (id n cap:Nat) (l:List UInt8) (rest:List PV) (T v:Nat) (H:PH) (hid:H[id]? = some ⟨T,l.map bC++rest,v⟩) (hn:n=l.length) (hs:l.length≤1099511627776) :
  CK prog 158 [.sref id 0 n cap] H fun r H'=>r=.tup []∧∃v',H'=H.set id ⟨T,l.reverse.map bC++rest,v'⟩:=by
 subst hn
 (refine fnS (imm:=imm158) ttB_ok func158 ?_;(conv=>whnf))
 refine lO RevB (fun x=>[(0,.sref id 0 l.length cap),(2,.int .i64 x.i),(3,.int .i64 ((l.length:Int) - 1 - x.i))]) (fun x=>H.set id ⟨T,x.cur.map bC++rest,x.v⟩)
  (fun x=>x.i≤l.length∧x.cur.length=l.length∧∀k,k<l.length→x.cur[k]? = if k<x.i∨l.length - x.i≤k then l[l.length - 1 - k]? else l[k]?) (fun x=>l.length - x.i)
  ⟨⟨0,l,v⟩,⟨Nat.zero_le _,rfl,fun k hk=>by rw [zqo (by show ¬(k<0∨l.length - 0≤k);omega)]⟩,⟨rfl,rfl,?_,zqv⟩,(set_self hid).symm⟩ ?_
 ·show PV.int _ (IntKind.i64.wrap ((l.length:Int) - 1))=PV.int _ ((l.length:Int) - 1 - 0)
  rw [w64 (by omega) (by omega)];simp
 rintro ⟨i,cur,v⟩ ⟨h1,h2,h3⟩
 conv=>whnf
 refine ⟨fun h4=>?_,fun h4=>?_⟩
 ·conv=>whnf
  have h4:(i:Int)<(l.length:Int) - 1 - i:=h4
  have h2:cur.length=l.length:=h2
  have hi:i<cur.length:=by omega
  have hj:cur.length - 1 - i<cur.length:=by omega
  refine dO2 D158 [H.set id ⟨T,cur.map bC++rest,v⟩,H.set id ⟨T,(cur.set i cur[cur.length - 1 - i]).map bC++rest,v+1⟩,H.set id ⟨T,((cur.set i cur[cur.length - 1 - i]).set (cur.length - 1 - i) cur[i]).map bC++rest,v+1+1⟩] (by kernel_rfl) rfl trivial ?_
  have g0:=gS (o':=⟨T,cur.map bC++rest,v⟩) hid
  have hlen:H.length=H.length:=rfl
  conv=>whnf
  iterate 2 (refine dS ?_;(conv=>whnf))
  iterate 2 (refine dS2 ?_;(conv=>whnf))
  iterate 2 (refine dS ?_;(conv=>whnf))
  apply exA
  ·conv=>whnf
   refine ⟨⟨by omega,by omega⟩,rfl,rfl,zqv⟩
  conv=>whnf
  apply exA
  ·conv=>whnf
   ((conv in (_[_]?)=>tactic=>exact g0);(conv=>whnf))
   have e:((l.length:Int) - 1 - i).toNat=cur.length - 1 - i:=by omega
   have hL:dropN (0+((l.length:Int) - 1 - i).toNat*1) (cur.map bC++rest)=bC cur[cur.length - 1 - i]::((cur.drop (cur.length - 1 - i+1)).map bC++rest):=by rw [e];exact dropN_app cur rest (zqc hj)
   generalize hd:dropN _ _=L
   rw [show L=_ from hd.symm.trans hL]
   conv=>whnf
   exact ⟨rfl,rfl,zqv⟩
  conv=>whnf
  iterate 2 (refine dS ?_;(conv=>whnf))
  apply exA
  ·conv=>whnf
   refine ⟨⟨by show (0:Int)≤(i:Int);omega,by show (i:Int)<l.length;omega⟩,rfl,rfl,zqv⟩
  conv=>whnf
  apply exA
  ·conv=>whnf
   ((conv in (_[_]?)=>tactic=>exact g0);(conv=>whnf))
   ((conv in (dropN _ _)=>tactic=>exact (dropN_app cur rest (zqc hi)));(conv=>whnf))
   exact ⟨rfl,rfl,zqv⟩
  conv=>whnf
  apply exA
  ·conv=>whnf
   refine ⟨⟨by show (0:Int)≤(i:Int);omega,by show (i:Int)<l.length;omega⟩,rfl,rfl,zqv⟩
  conv=>whnf
  apply exA
  ·conv=>whnf
   ((conv in (_[_]?)=>tactic=>exact g0);(conv=>whnf))
   ((conv in (Nat.ble _ _)=>tactic=>exact (show Nat.ble (0+(i:Int).toNat*1+1) (cur.map bC++rest).length=true by rw [Nat.ble_eq];simp;omega));(conv=>whnf))
   refine ⟨rfl,?_,zqv⟩
   show (H.set id ⟨T,cur.map bC++rest,v⟩).set id ⟨T,setCells (0+(i:Int).toNat*1) [bC cur[cur.length - 1 - i]] (cur.map bC++rest),v+1⟩=H.set id ⟨T,(cur.set i cur[cur.length - 1 - i]).map bC++rest,v+1⟩
   rw [List.set_set,←setCells_app _ _ _ _ hi]
   simp
  conv=>whnf
  apply exA
  ·conv=>whnf
   refine ⟨⟨by omega,by omega⟩,rfl,rfl,zqv⟩
  conv=>whnf
  apply exA
  ·conv=>whnf
   ((conv in (_[_]?)=>tactic=>exact (gS (o':=⟨T,(cur.set i cur[cur.length - 1 - i]).map bC++rest,v+1⟩) hid));(conv=>whnf))
   ((conv in (Nat.ble _ _)=>tactic=>exact (show Nat.ble (0+((l.length:Int) - 1 - i).toNat*1+1) ((cur.set i cur[cur.length - 1 - i]).map bC++rest).length=true by rw [Nat.ble_eq];simp;omega));(conv=>whnf))
   refine ⟨rfl,?_,zqv⟩
   show (H.set id ⟨T,(cur.set i cur[cur.length - 1 - i]).map bC++rest,v+1⟩).set id ⟨T,setCells (0+((l.length:Int) - 1 - i).toNat*1) [bC cur[i]] ((cur.set i cur[cur.length - 1 - i]).map bC++rest),v+1+1⟩=H.set id _
   have e:0+((l.length:Int) - 1 - i).toNat*1=cur.length - 1 - i:=by omega
   rw [List.set_set,e,setCells_app (cur.set i cur[cur.length - 1 - i]) rest (cur.length - 1 - i) cur[i] (by simpa using hj)]
  conv=>whnf
  refine ⟨⟨i+1,(cur.set i cur[cur.length - 1 - i]).set (cur.length - 1 - i) cur[i],v+1+1⟩,⟨?_,?_,?_⟩,⟨rfl,?_,?_,zqv⟩,rfl,?_⟩
  ·show i+1≤l.length;omega
  ·show List.length _=_;simp;exact h2
  ·intro k hk
   show ((cur.set i _).set _ _)[k]? = if k<i+1∨l.length - (i+1)≤k then _ else _
   have h3k:=h3 k hk
   have h3k:cur[k]? = if k<i∨l.length - i≤k then l[l.length - 1 - k]? else l[k]?:=h3k
   have h3i:cur[i]? = if i<i∨l.length - i≤i then l[l.length - 1 - i]? else l[i]?:=h3 i (by omega)
   have h3j:cur[cur.length - 1 - i]? = if cur.length - 1 - i<i∨l.length - i≤cur.length - 1 - i then l[l.length - 1 - (cur.length - 1 - i)]? else l[cur.length - 1 - i]?:=h3 _ (by omega)
   rw [zqo (by omega),zqc hi] at h3i
   rw [zqo (by omega),zqc hj] at h3j
   simp only [List.getElem?_set]
   by_cases e1:cur.length - 1 - i=k
   ·subst e1
    rw [zqp rfl,zqp (by simpa using hj),zqp (by omega),h3i]
    congr 1;omega
   ·rw [zqo e1]
    by_cases e2:i=k
    ·subst e2
     rw [zqp rfl,zqp hi,zqp (by omega),h3j]
     congr 1;omega
    ·rw [zqo e2,h3k]
     by_cases e3:k<i∨l.length - i≤k
     ·rw [zqp e3,zqp (by omega)]
     ·rw [zqo e3,zqo (by omega)]
  ·show PV.int _ (IntKind.i64.wrap ((i:Int)+1))=PV.int _ _
   rw [w64 (by omega) (by omega)];simp
  ·show PV.int _ (IntKind.i64.wrap ((l.length:Int) - 1 - i - 1))=PV.int _ ((l.length:Int) - 1 - ((i+1:Nat):Int))
   rw [w64 (by omega) (by omega)];congr 1;omega
  ·show l.length - (i+1)<l.length - i
   omega
 ·conv=>whnf
  have h2:cur.length=l.length:=h2
  have h4:¬(i:Int)<(l.length:Int) - 1 - i:=h4
  have h1:i≤l.length:=h1
  refine ⟨rfl,v,?_⟩
  have hc:cur=l.reverse:=by
   apply List.ext_getElem?
   intro k
   rcases Nat.lt_or_ge k l.length with hk | hk
   ·have h3k:cur[k]? = if k<i∨l.length - i≤k then l[l.length - 1 - k]? else l[k]?:=h3 k hk
    rw [h3k,List.getElem?_reverse hk]
    by_cases e3:k<i∨l.length - i≤k
    ·rw [zqp e3]
    ·rw [zqo e3];congr 1;omega
   ·rw [List.getElem?_eq_none (by omega),List.getElem?_eq_none (by simpa using hk)]
  show H.set id ⟨T,cur.map bC++rest,v⟩=_
  rw [hc]
def ow (b:List UInt8):PV:=.slice b.length (b.map bC) (some 5)
theorem psize5:psize prog 5=1:=by kernel_rfl
theorem allFlat (b:List UInt8):(b.map bC).all flatP=true:=List.all_eq_true.2 fun x hx=>by
 obtain ⟨b,_,rfl⟩:=List.mem_map.1 hx
 rfl
theorem clone140 (b:List UInt8) (hb:b.length≤140737488355328):Pure prog 105 [sl b] (ow b):=by
 intro H
 (refine fnS (imm:=imm105y) ttS_ok func105 ?_;(conv=>whnf))
 have happ:(0+b.length)*1≤140737488355328∧(b.map bC).length=b.length*1∧(b.map bC).all oneP=true:=⟨by omega,by simp,allOne b⟩
 refine ⟨fun h=>?_,fun h=>⟨?_,?_⟩⟩
 ·conv=>whnf
  refine ⟨happ,?_⟩
  conv=>whnf
  exact ⟨by rw [Nat.zero_add];rfl,rfl⟩
 ·conv=>whnf
  have e:b=[]:=List.length_eq_zero_iff.1 h
  subst e
  exact ⟨rfl,rfl⟩
 ·conv=>whnf
  refine ⟨happ,?_⟩
  conv=>whnf
  exact ⟨by rw [Nat.zero_add];rfl,rfl⟩
theorem c105o (b:List UInt8) (hb:b.length≤140737488355328) (h0:0<b.length) (H:PH) :
  CK prog 105 [sl b] H fun r H'=>∃cap k,r=.sref H.length 0 b.length cap∧b.length+k=cap∧H'=H++[⟨5,b.map bC++List.replicate k PV.undef,0⟩]:=by
 refine (CK.obj (n:=b.length) (cs:=b.map bC) (clone140 b hb H) h0 psize5 (allFlat b)).mono fun r H' hh=>?_
 obtain ⟨cap,k,h1,h2,h3,h4⟩:=hh
 rw [zqq] at h2
 exact ⟨cap,k,h3,by omega,h4⟩
def boxS (sid:Nat) (sp:List UInt8) (s o r:Int) (v:Nat):PObj:=⟨223,[.ptr (some (sid,0))]++sp.map bC++[.int .i64 s,.int .i64 o,.int .i64 r],v⟩
def xorL (p st:List UInt8):List UInt8:=List.zipWith (· ^^^ ·) p st
theorem xorL_len (p st:List UInt8) (h:st.length=p.length):(xorL p st).length=p.length:=by
 unfold xorL;rw [List.length_zipWith];omega
theorem xor8 (c d:UInt8):PV.int .u8 (ibits .xor .u8 (c.toNat:Int) (d.toNat:Int))=bC (c ^^^ d):=by
 show PV.int .u8 (IntKind.u8.wrap ((BitVec.ofInt 8 (c.toNat:Int) ^^^ BitVec.ofInt 8 (d.toNat:Int)).toNat:Int))=PV.int .u8 (((c ^^^ d).toNat:Nat):Int)
 have hb:∀{x:UInt8},BitVec.ofInt 8 (x.toNat:Int)=x.toBitVec:=fun {x}=>by
  apply BitVec.eq_of_toNat_eq
  rw [BitVec.toNat_ofInt]
  have:=x.toNat_lt
  show _=x.toNat
  omega
 rw [hb,hb]
 have:((c.toBitVec ^^^ d.toBitVec).toNat)=(c ^^^ d).toNat:=rfl
 rw [this]
 congr 1
 have:=(c ^^^ d).toNat_lt
 show (((c ^^^ d).toNat:Nat):Int) % (2 ^ IntKind.u8.bits:Int)=_
 have e:(2 ^ IntKind.u8.bits:Int)=256:=by decide
 rw [e];omega
def curX (p st:List UInt8) (i:Nat):List UInt8:=(xorL p st).take i++p.drop i
theorem curX_len (p st:List UInt8) (i:Nat) (h:st.length=p.length) (hi:i≤p.length):(curX p st i).length=p.length:=by
 unfold curX
 rw [zqf,zqr,List.length_drop,xorL_len p st h];omega
theorem curX_get (p st:List UInt8) (i:Nat) (h:st.length=p.length) (hi:i<p.length):(curX p st i)[i]? = some p[i]:=by
 unfold curX
 rw [zqi (by rw [zqr,xorL_len p st h];omega),zqr,xorL_len p st h,zqt]
 have:i+(i - min i p.length)=i:=by omega
 rw [this];exact zqc hi
theorem curX_set (p st:List UInt8) (i:Nat) (h:st.length=p.length) (hi:i<p.length):(curX p st i).set i (p[i] ^^^ st[i])=curX p st (i+1):=by
 unfold curX
 have hx:i<(xorL p st).length:=by rw [xorL_len p st h];exact hi
 rw [List.set_append_right _ _ (by rw [zqr];omega),zqr,Nat.min_eq_left (by omega),Nat.sub_self,List.drop_eq_getElem_cons hi,List.set_cons_zero,List.take_succ_eq_append_getElem hx,List.append_assoc,List.singleton_append]
 congr 2
 have:∀(a b:List UInt8) (h:i<(List.zipWith (· ^^^ ·) a b).length) (ha:i<a.length) (hb:i<b.length),a[i] ^^^ b[i]=(List.zipWith (· ^^^ ·) a b)[i]:=fun a b h ha hb=>by simp
 exact this p st hx hi (by omega)
def mixN (nn u:Int):Int:=IntKind.u64.wrap (ishl .u64 nn 8+IntKind.u64.wrap u)
structure MixS where
 i:Nat
theorem c101x (OkS:PObj→Prop) (so:PObj) (sid:Nat) (nn u:Int) (p st:List UInt8) (hl:st.length=p.length) (hp:0<p.length) (hp2:p.length≤1000000)
  (hst:∀H:PH,H[sid]? = some so→CK prog 120 [.ptr (some (sid,0)),.int .u64 (mixN nn u),.int .i64 p.length] H fun r H'=>r=sl st∧∃o',OkS o'∧H'=H.set sid o')
  (sp:List UInt8) (hsp:sp.length=16) (s o r:Int) (v:Nat) (bid:Nat) (H:PH) (hb:H[bid]? = some (boxS sid sp s o r v)) (hs:H[sid]? = some so) :
  CK prog 101 [.ptr (some (bid,0)),.int .i64 u,.int .u64 nn,sl p] H fun x H'=>∃cap k o' vv,x=.sref H.length 0 p.length cap∧p.length+k=cap∧OkS o'∧H'=H.set sid o'++[⟨5,(xorL p st).map bC++List.replicate k PV.undef,vv⟩]:=by
 obtain ⟨k0,k1,k2,k3,k4,k5,k6,k7,k8,k9,ka,kb,kc,kd,ke,kf,rfl⟩:=len16 hsp
 have hsl:sid<H.length:=(zq1.1 hs).1
 (refine fnS (imm:=imm101) ttS_ok func101 ?_;(conv=>whnf))
 refine cO (c105o p (by omega) hp H) ?_
 rintro _ _ ⟨cap,k,rfl,hk,rfl⟩
 conv=>whnf
 have hb':(H++[(⟨5,p.map bC++List.replicate k PV.undef,0⟩:PObj)])[bid]? = some (boxS sid [k0,k1,k2,k3,k4,k5,k6,k7,k8,k9,ka,kb,kc,kd,ke,kf] s o r v):=by
  rw [zq2 (zq1.1 hb).1];exact hb
 ((conv in (_[_]?)=>tactic=>exact hb');(conv=>whnf))
 refine ⟨by decide,?_⟩
 conv=>whnf
 refine cO (Q:=fun r H'=>r=sl st∧∃o',OkS o'∧H'=H.set sid o'++[⟨5,(curX p st 0).map bC++List.replicate k PV.undef,0⟩]) ((hst (H++[_]) (by rw [zq2 hsl];exact hs)).mono fun r H' hh=>?_) ?_
 ·obtain ⟨h1,o',h2,h3⟩:=hh
  exact ⟨h1,o',h2,by rw [h3,List.set_append_left _ _ hsl];rfl⟩
 rintro _ _ ⟨rfl,o',ho',rfl⟩
 conv=>whnf
 have hKl:(H.set sid o').length=H.length:=List.length_set
 generalize hK:H.set sid o'=K at hKl
 refine lO MixS (fun x=>[(9,.sref H.length 0 p.length cap),(25,sl st),(26,.int .i64 st.length),(27,.int .i64 x.i)]) (fun x=>K++[⟨5,(curX p st x.i).map bC++List.replicate k PV.undef,x.i⟩]) (fun x=>x.i≤p.length) (fun x=>p.length - x.i) ⟨⟨0⟩,Nat.zero_le _,⟨rfl,rfl,rfl,rfl,zqv⟩,rfl⟩ ?_
 rintro ⟨i⟩ hi
 replace hi:i≤p.length:=hi
 have gx:∀x:PObj,(K++[x])[H.length]? = some x:=fun x=>by rw [←hKl];exact gL K x
 conv=>whnf
 refine ⟨fun h=>?_,fun h=>?_⟩
 ·have h:(i:Int)<st.length:=h
  have hi':i<p.length:=by omega
  have his:i<st.length:=by omega
  have hcl:=curX_len p st i hl hi
  conv=>whnf
  refine ⟨⟨by omega,h⟩,[bC st[i]],at1' (k:=(i:Int).toNat*1) (by rw [Int.toNat_natCast,Nat.mul_one,List.getElem?_map,zqc his];rfl),?_⟩
  conv=>whnf
  refine ⟨⟨by omega,by show (i:Int)<(p.length:Int);omega⟩,?_⟩
  conv=>whnf
  ((conv in (_[_]?)=>tactic=>exact (gx _));(conv=>whnf))
  ((conv in (dropN _ _)=>tactic=>exact (dropN_app (curX p st i) (List.replicate k PV.undef) (curX_get p st i hl hi')));(conv=>whnf))
  refine ⟨⟨by omega,by show (i:Int)<(p.length:Int);omega⟩,?_⟩
  conv=>whnf
  ((conv in (_[_]?)=>tactic=>exact (gx _));(conv=>whnf))
  ((conv in (Nat.ble _ _)=>tactic=>exact (show Nat.ble (0+(i:Int).toNat*1+1) ((curX p st i).map bC++List.replicate k PV.undef).length=true by rw [Nat.ble_eq];simp [hcl];omega));(conv=>whnf))
  refine ⟨⟨i+1⟩,by show i+1≤p.length;omega,⟨rfl,rfl,rfl,?_,zqv⟩,?_,by show p.length - (i+1)<p.length - i;omega⟩
  ·show PV.int _ (IntKind.i64.wrap ((i:Int)+1))=PV.int _ _
   rw [w64 (by omega) (by omega)];simp
  ·show (K++[_]).set H.length ⟨5,setCells (0+(i:Int).toNat*1) [.int .u8 (ibits .xor .u8 (p[i].toNat:Int) (st[i].toNat:Int))] ((curX p st i).map bC++List.replicate k PV.undef),i+1⟩=K++[⟨5,(curX p st (i+1)).map bC++List.replicate k PV.undef,i+1⟩]
   rw [←hKl,sL,xor8]
   have e:0+(i:Int).toNat*1=i:=by omega
   rw [e,setCells_app _ _ _ _ (by omega),curX_set p st i hl hi']
 ·have h:¬(i:Int)<st.length:=h
  have e:curX p st i=xorL p st:=by
   unfold curX
   rw [List.take_of_length_le (by rw [xorL_len p st hl];omega),List.drop_eq_nil_of_le (by omega),List.append_nil]
  rw [e]
  conv=>whnf
  exact ⟨cap,k,o',i,rfl,hk,ho',by rw [hK]⟩
theorem get_end {K:PH} {n:Nat} (h:K.length=n) (x:PObj):(K++[x])[n]? = some x:=by subst h;exact gL K x
theorem kept_set {H:PH} {sid:Nat} {o':PObj} (hs:sid<H.length) (hf:∀c∈o'.cs,flatP c=true∨c∈H[sid].cs):Kept H (H.set sid o'):=⟨List.length_set,fun id o h=>by
 by_cases e:id=sid
 ·subst e
  rw [List.getElem?_set_self hs] at h
  cases h
  exact ⟨H[id],zqc hs,hf⟩
 ·rw [zqj (Ne.symm e)] at h
  exact ⟨o,h,fun c hc=>.inr hc⟩⟩
theorem c101 (OkS:PObj→Prop) (hOk:∀o',OkS o'→o'.cs.all flatP=true) (so:PObj) (sid:Nat) (nn u:Int) (p st:List UInt8) (hl:st.length=p.length) (hp2:p.length≤1000000)
  (hst:∀H:PH,H[sid]? = some so→CK prog 120 [.ptr (some (sid,0)),.int .u64 (mixN nn u),.int .i64 p.length] H fun r H'=>r=sl st∧∃o',OkS o'∧H'=H.set sid o')
  (sp:List UInt8) (hsp:sp.length=16) (s o r:Int) (v:Nat) (bid:Nat) (H:PH) (hb:H[bid]? = some (boxS sid sp s o r v)) (hs:H[sid]? = some so) :
  CK prog 101 [.ptr (some (bid,0)),.int .i64 u,.int .u64 nn,sl p] H fun x H'=>x=sl (xorL p st)∧∃o',OkS o'∧H'=H.set sid o':=by
 have hsl:sid<H.length:=(zq1.1 hs).1
 rcases Nat.eq_zero_or_pos p.length with hp | hp
 ·have hp':p=[]:=List.length_eq_zero_iff.1 hp
  have hst':st=[]:=List.length_eq_zero_iff.1 (by omega)
  subst hp' hst'
  obtain ⟨k0,k1,k2,k3,k4,k5,k6,k7,k8,k9,ka,kb,kc,kd,ke,kf,rfl⟩:=len16 hsp
  (refine fnS (imm:=imm101) ttS_ok func101 ?_;(conv=>whnf))
  refine cP (clone140 [] (by simp)) ?_
  conv=>whnf
  ((conv in (_[_]?)=>tactic=>exact hb);(conv=>whnf))
  refine ⟨by decide,?_⟩
  conv=>whnf
  refine cO (hst H hs) ?_
  rintro _ _ ⟨rfl,o',ho',rfl⟩
  conv=>whnf
  refine lO MixS (fun x=>[(9,ow []),(25,sl []),(26,.int .i64 0),(27,.int .i64 0)]) (fun x=>H.set sid o') (fun x=>True) (fun x=>0) ⟨⟨0⟩,trivial,⟨rfl,rfl,rfl,rfl,zqv⟩,rfl⟩ ?_
  rintro ⟨i⟩ _
  conv=>whnf
  refine ⟨fun h=>absurd h (by decide),fun _=>?_⟩
  conv=>whnf
  exact ⟨rfl,o',ho',rfl⟩
 ·have h:=c101x OkS so sid nn u p st hl hp hp2 hst sp hsp s o r v bid H hb hs
  refine (CK.own (nn:=p.length) (cs:=(xorL p st).map bC) (R:=fun H'=>∃o',OkS o'∧H'=H.set sid o') h psize5 (by decide) (by rw [zqq,xorL_len p st hl,Nat.mul_one]) (allFlat _) (fun x H' hh=>?_)).dem fun x H' hh=>?_
  ·obtain ⟨cap,k,o',vv,rfl,hk,ho',rfl⟩:=hh
   refine ⟨H.set sid o',_,H.length,cap,_,rfl,kept_set hsl fun c hc=>.inl (List.all_eq_true.1 (hOk o' ho') c hc),⟨o',ho',rfl⟩,rfl,zqn _,get_end List.length_set _,rfl,?_,?_⟩
   ·show ((xorL p st).map bC++List.replicate k PV.undef).length=_
    rw [zqf,zqq,List.length_replicate,xorL_len p st hl];omega
   ·show List.take _ ((xorL p st).map bC++List.replicate k PV.undef)=_
    rw [List.take_left]
  ·obtain ⟨rfl,hh⟩:=hh
   refine ⟨fun cs hx=>(by cases hx),?_,hh⟩
   unfold sl
   rw [xorL_len p st hl];rfl
theorem Kept.refl (H:PH):Kept H H:=⟨rfl,fun id o h=>⟨o,h,fun c hc=>.inr hc⟩⟩
theorem ow_app (a b:List UInt8):PV.slice (a.length+b.length) (a.map bC++b.map bC) (some 5)=ow (a++b):=by
 unfold ow
 rw [zqf,List.map_append]
set_option maxHeartbeats 2000000
end Go.Proofs.Tryz
