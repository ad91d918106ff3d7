import Derived.Test.YtldfjimgfnjdjaaGreatDoorA5
import Derived.Test.YtldfjimgfnjdjaaGreatDoorA3
set_option linter.all false
set_option maxRecDepth 100000
set_option maxHeartbeats 4000000
namespace Go.Proofs.Tryz
open Go Ps
theorem c45 {H:PH} {cid mid:Nat} {c:Cs} {L:List Crd} (hC:Cl H cid mid c L) (e:Int) :
  ∃H1,Cl H1 cid mid { c with st:=3,er:=e } L∧Evo (·=cid) H H1∧CK prog 45 [.ptr (some (cid,0)),.int .i64 e] H fun r H'=>r=.tup [.str [],.slice 0 [] (some 5)]∧H'=H1:=by
 obtain ⟨v,ho⟩:=hC.o
 obtain ⟨hC1,e1⟩:=hC.put { c with st:=3 } rfl (v+1)
 have ho1:(H.set cid (cliO { c with st:=3 } (v+1)))[cid]? = some (cliO { c with st:=3 } (v+1)):=gS ho
 obtain ⟨hC2,e2⟩:=hC1.put { c with st:=3,er:=e } rfl (v+2)
 refine ⟨_,hC2,e1.trans e2,?_⟩
 clear hC1 e1 hC2 e2 hC
 (refine fnS (imm:=imm45) ttK_ok func45 ?_;(conv=>whnf))
 exact wX
structure RepI where
 r1:List UInt8
 r2:List UInt8
 r3:List UInt8
 r4:List UInt8
 kv:Int
 b:List UInt8
 bl:List UInt8
def RepI.cells (q:RepI):List PV:=[.str q.r1,.str q.r2,.str q.r3,.str q.r4,.int .i64 q.kv,sl q.b,sl q.bl]
def D46a:Draw:={ imp:=[12],win:=[(13,1,1),(14,1,1),(15,1,1),(16,1,1),(17,1,1)] }
def D46b:Draw:={ imp:=[10,11],win:=[(2,0,1),(3,0,1),(4,0,1),(5,0,1),(6,0,1),(7,0,1),(8,0,1),(9,0,2),(11,1,1),(12,2,2)] }
theorem n36:36≠keyT∧36≠boxT:=by decide
theorem n83:83≠keyT∧83≠boxT:=by decide
def imm46x:List Nat:=[3,1000007]
def z123o:PObj:=⟨123,zRpt.cells,0⟩
theorem c46d {H:PH} {cid:Nat} {c:Cs} {v:Nat} (ho:H[cid]? = some (cliO c v)) {bid:Nat} {okey:List UInt8} (hob:c.ob=.ptr (some (bid,0))) (hb:BoxAt H bid okey) (hu:isUseB c.ou=true) (q:RepI) (h1:q.r1=c.r) (h2:q.r2=c.n) {p:List UInt8} (hop:openK okey c.ou q.bl=some p) (g:Rpt) (e:Int) (k89:Pure prog 89 [sl p] (.tup [.agg g.cells,.int .i64 e])) :
  CK prog 46 [.ptr (some (cid,0)),.agg q.cells] H fun x H'=>x=.tup [.agg [.str g.r,.str g.n],.agg (Crd.cells ⟨q.r3,q.r4,q.kv,q.b,g.k,g.en⟩),.bool (decide (e=0)&&decide (g.nc=c.on)&&(decide (g.r=q.r3)&&decide (g.n=q.r4)))]∧Evo (fun _=>False) H H':=by
 have e1:=((Xt.refl H).app [z36o]).app [z83c]
 have ho1:=e1.get ho
 have gA:=gA2 H z36o z83c
 have gB:=gB2 H z36o z83c z36o
 have hXl:(H++[z36o]++[z83c]).length=H.length+2:=by simp
 have hYl:(H++[z36o]).length=H.length+1:=by simp
 have hb1:=(Evo.xt (S:=fun _=>False) e1).box _ _ hb
 have hO:=openAt hb1 c.ou hu q.bl
 generalize hX:H++[z36o]++[z83c]=X at *
 obtain ⟨r1,r2,r3,r4,kv,tb,bl⟩:=q
 simp only at h1 h2 hO hop ⊢
 subst h1
 subst h2
 have ho1:X[cid]? = some (cliO { c with ob:=.ptr (some (bid,0)) } v):=by rw [←hob];exact ho1
 unfold openV at hO
 rw [hop] at hO
 (refine fnS (imm:=imm46x) ttK_ok func46 ?_;(conv=>whnf))
 refine drawK_at hX ?_
 refine dP2 (by kernel_rfl) ?_
 conv=>whnf
 repeat (first | (first | ((first | (apply exA;(focus exact oN)) | refine bT ?_ | refine bF ?_ | refine bW (bT ?_) | refine bW (bF ?_) | (apply cP;(focus assumption)) | (apply cE;(focus assumption)) | refine ⟨by first | decide | omega,?_⟩);((conv=>whnf))) | ((conv in (_[_]?)=>tactic=>first | exact oL | exact gS (by assumption));(conv=>whnf))) | (refine dX ?_;(conv=>whnf)))
 refine drawK_call 12 D46a _ X (by kernel_rfl) rfl rfl trivial ?_
 conv=>whnf
 repeat (first | (first | ((first | (apply exA;(focus exact oN)) | refine bT ?_ | refine bF ?_ | refine bW (bT ?_) | refine bW (bF ?_) | (apply cP;(focus assumption)) | (apply cE;(focus assumption)) | refine ⟨by first | decide | omega,?_⟩);((conv=>whnf))) | ((conv in (_[_]?)=>tactic=>first | exact oL | exact gS (by assumption));(conv=>whnf))) | (refine dX ?_;(conv=>whnf)))
 refine cO hO ?_
 rintro _ H3 ⟨rfl,e3,hl3⟩
 have gA3:=e3.same _ _ gA id n36.1 n36.2
 have gB3:=e3.same _ _ gB id n83.1 n83.2
 have ho3:=e3.same _ _ ho1 id (cliT ..).1 (cliT ..).2
 have hl3':H3.length=H.length+2:=by rw [hl3,←hX];simp
 have e4:=((Xt.refl H3).app [z123o]).set (zqn _) (⟨123,g.cells,1⟩:PObj)
 have gT0:=gL H3 z123o
 have gT:((H3++[z123o]).set H3.length (⟨123,g.cells,1⟩:PObj))[H3.length]? = some ⟨123,g.cells,1⟩:=gS gT0
 have gA4:=e4.get gA3
 have gB4:=e4.get gB3
 have ho4:=e4.get ho3
 have gA5:(((H3++[z123o]).set H3.length (⟨123,g.cells,1⟩:PObj)).set H.length (⟨36,[.str g.r,.str g.n],1⟩:PObj))[H.length]? = some ⟨36,[.str g.r,.str g.n],1⟩:=gS gA4
 have gB5:(((H3++[z123o]).set H3.length (⟨123,g.cells,1⟩:PObj)).set H.length (⟨36,[.str g.r,.str g.n],1⟩:PObj))[(H++[z36o]).length]? = some z83c:=by rw [zqj (by omega)];exact gB4
 have gT5:(((H3++[z123o]).set H3.length (⟨123,g.cells,1⟩:PObj)).set H.length (⟨36,[.str g.r,.str g.n],1⟩:PObj))[H3.length]? = some ⟨123,g.cells,1⟩:=by rw [zqj (by omega)];exact gT
 have gA6:((((H3++[z123o]).set H3.length (⟨123,g.cells,1⟩:PObj)).set H.length (⟨36,[.str g.r,.str g.n],1⟩:PObj)).set (H++[z36o]).length (⟨83,Crd.cells ⟨r3,r4,kv,tb,g.k,g.en⟩,1⟩:PObj))[H.length]? = some ⟨36,[.str g.r,.str g.n],1⟩:=by rw [zqj (by omega)];exact gA5
 have fin:Evo (fun _=>False) H ((((H3++[z123o]).set H3.length (⟨123,g.cells,1⟩:PObj)).set H.length (⟨36,[.str g.r,.str g.n],1⟩:PObj)).set (H++[z36o]).length (⟨83,Crd.cells ⟨r3,r4,kv,tb,g.k,g.en⟩,1⟩:PObj)):=((((Evo.xt e1).trans e3).trans (Evo.xt e4)).own gA4 n36.1 n36.2 (zqn _) _).own gB5 n83.1 n83.2 (by omega) _
 refine ⟨[X,H3],rfl,?_⟩
 conv=>whnf
 repeat (first | (first | ((first | (apply exA;(focus exact oN)) | refine bT ?_ | refine bF ?_ | refine bW (bT ?_) | refine bW (bF ?_) | (apply cP;(focus assumption)) | (apply cE;(focus assumption)) | refine ⟨by first | decide | omega,?_⟩);((conv=>whnf))) | ((conv in (_[_]?)=>tactic=>first | exact oL | exact gS (by assumption));(conv=>whnf))) | (refine dX ?_;(conv=>whnf)))
 refine cutK_of [(0,.ptr (some (cid,0))),(3,.elem [.str c.r,.str c.n,.str r3,.str r4,.int .i64 kv,sl tb,sl bl]),(4,.ptr (some (H.length,0))),(5,.ptr (some ((H++[z36o]).length,0))),(9,.ptr (some (H3.length,0))),(10,.bool (decide (e=0)&&decide (g.nc=c.on)&&(decide (g.r=r3)&&decide (g.n=r4))))] ((H3++[z123o]).set H3.length (⟨123,g.cells,1⟩:PObj)) ?_ ?_
 ·conv=>whnf
  refine drawK_of3 D46b [((H3++[z123o]).set H3.length (⟨123,g.cells,1⟩:PObj)),(((H3++[z123o]).set H3.length (⟨123,g.cells,1⟩:PObj)).set H.length (⟨36,[.str g.r,.str g.n],1⟩:PObj)),((((H3++[z123o]).set H3.length (⟨123,g.cells,1⟩:PObj)).set H.length (⟨36,[.str g.r,.str g.n],1⟩:PObj)).set (H++[z36o]).length (⟨83,Crd.cells ⟨r3,r4,kv,tb,g.k,g.en⟩,1⟩:PObj))] _ (by kernel_rfl) rfl trivial rfl ?_
  conv=>whnf
  repeat (first | (first | ((first | (apply exA;(focus exact oN)) | refine bT ?_ | refine bF ?_ | refine bW (bT ?_) | refine bW (bF ?_) | (apply cP;(focus assumption)) | (apply cE;(focus assumption)) | refine ⟨by first | decide | omega,?_⟩);((conv=>whnf))) | ((conv in (_[_]?)=>tactic=>first | exact oL | exact gS (by assumption));(conv=>whnf))) | (refine dX ?_;(conv=>whnf)))
  exact ⟨rfl,fin⟩
 clear fin gA6 gA5 gB5 gT5 e4 gA4 gB4 gT0 ho3 gB3 gA3 e3 hl3 hl3' hop hO gA gB ho1 e1 hXl hYl hb hb1
 by_cases he:e=0
 ·by_cases hn:g.nc=c.on
  ·by_cases hr:g.r=r3∧g.n=r4
   ·have hP:[PV.str g.r,.str g.n]=[PV.str r3,.str r4]:=by rw [hr.1,hr.2]
    rw [zqe he,zqe hn,zqe hr.1,zqe hr.2]
    refine dP2 (by kernel_rfl) ?_
    conv=>whnf
    repeat (first | (first | ((first | (apply exA;(focus exact oN)) | refine bT ?_ | refine bF ?_ | refine bW (bT ?_) | refine bW (bF ?_) | (apply cP;(focus assumption)) | (apply cE;(focus assumption)) | refine ⟨by first | decide | omega,?_⟩);((conv=>whnf))) | ((conv in (_[_]?)=>tactic=>first | exact oL | exact gS (by assumption));(conv=>whnf))) | (refine dX ?_;(conv=>whnf)))
    exact ⟨(),trivial,⟨rfl,rfl,rfl,rfl,rfl,rfl,zqv⟩,rfl⟩
   ·have hP:¬([PV.str g.r,.str g.n]=[PV.str r3,.str r4]):=fun h=>by
     injection h with h1 h2
     injection h1 with h1
     injection h2 with h2 _
     injection h2 with h2
     exact hr ⟨h1,h2⟩
    have hb2:(decide (g.r=r3)&&decide (g.n=r4))=false:=by
     cases hd:(decide (g.r=r3)&&decide (g.n=r4))
     ·rfl
     ·rw [zqb] at hd
      exact absurd ⟨of_decide_eq_true hd.1,of_decide_eq_true hd.2⟩ hr
    rw [zqe he,zqe hn,hb2]
    refine dP2 (by kernel_rfl) ?_
    conv=>whnf
    repeat (first | (first | ((first | (apply exA;(focus exact oN)) | refine bT ?_ | refine bF ?_ | refine bW (bT ?_) | refine bW (bF ?_) | (apply cP;(focus assumption)) | (apply cE;(focus assumption)) | refine ⟨by first | decide | omega,?_⟩);((conv=>whnf))) | ((conv in (_[_]?)=>tactic=>first | exact oL | exact gS (by assumption));(conv=>whnf))) | (refine dX ?_;(conv=>whnf)))
    exact ⟨(),trivial,⟨rfl,rfl,rfl,rfl,rfl,rfl,zqv⟩,rfl⟩
  ·rw [zqe he,zqd hn]
   refine dP2 (by kernel_rfl) ?_
   conv=>whnf
   repeat (first | (first | ((first | (apply exA;(focus exact oN)) | refine bT ?_ | refine bF ?_ | refine bW (bT ?_) | refine bW (bF ?_) | (apply cP;(focus assumption)) | (apply cE;(focus assumption)) | refine ⟨by first | decide | omega,?_⟩);((conv=>whnf))) | ((conv in (_[_]?)=>tactic=>first | exact oL | exact gS (by assumption));(conv=>whnf))) | (refine dX ?_;(conv=>whnf)))
   exact ⟨(),trivial,⟨rfl,rfl,rfl,rfl,rfl,rfl,zqv⟩,rfl⟩
 ·rw [zqd he]
  refine dP2 (by kernel_rfl) ?_
  conv=>whnf
  repeat (first | (first | ((first | (apply exA;(focus exact oN)) | refine bT ?_ | refine bF ?_ | refine bW (bT ?_) | refine bW (bF ?_) | (apply cP;(focus assumption)) | (apply cE;(focus assumption)) | refine ⟨by first | decide | omega,?_⟩);((conv=>whnf))) | ((conv in (_[_]?)=>tactic=>first | exact oL | exact gS (by assumption));(conv=>whnf))) | (refine dX ?_;(conv=>whnf)))
  exact ⟨(),trivial,⟨rfl,rfl,rfl,rfl,rfl,rfl,zqv⟩,rfl⟩
theorem pne {a b c d:List UInt8} (h:¬(a=c∧b=d)):¬([PV.str a,.str b]=[PV.str c,.str d]):=fun e=>by
 injection e with h1 h2
 injection h1 with h1
 injection h2 with h2 _
 injection h2 with h2
 exact h ⟨h1,h2⟩
theorem peq {a b c d:List UInt8} (h:a=c∧b=d):[PV.str a,.str b]=[PV.str c,.str d]:=by rw [h.1,h.2]
theorem c48t {H:PH} {cid mid:Nat} {c:Cs} {L:List Crd} (hC:Cl H cid mid c L) (sr sn:List UInt8) (x:Crd) (now:Int) (ht:sr=c.tr∧sn=c.tn) :
  ∃H1,Cl H1 cid mid { c with st:=2 } L∧Evo (·=cid) H H1∧CK prog 48 [.ptr (some (cid,0)),.agg [.str sr,.str sn],.agg x.cells,.int .i64 now] H fun r H'=>r=.tup [.str [],.slice 0 [] (some 5)]∧H'=H1:=by
 obtain ⟨v,ho⟩:=hC.o
 obtain ⟨hC1,e1⟩:=hC.put { c with st:=2 } rfl (v+1)
 refine ⟨_,hC1,e1,?_⟩
 clear hC hC1 e1
 have hP:=peq ht
 (refine fnS (imm:=imm48) ttK_ok func48 ?_;(conv=>whnf))
 refine dP2 (by kernel_rfl) ?_
 conv=>whnf
 exact wX
theorem c48l {H:PH} {cid mid:Nat} {c:Cs} {L:List Crd} (hC:Cl H cid mid c L) (hr:c.r.length≤1000000) (sr sn:List UInt8) (hsn:sn.length≤1000000) (x:Crd) (now:Int) (ht:¬(sr=c.tr∧sn=c.tn)) {next:List UInt8} (hx:targetB sn=(next,true)) (hb:c.fi=true→(sr=c.r∧sn=krb c.r)) (l:List (List UInt8)) (hv:c.vis=visP l) (hl:next∈l) (hll:l.length≤1000000) :
  ∃H1,Cl H1 cid mid { c with st:=3,er:=14 } L∧Evo (·=cid) H H1∧CK prog 48 [.ptr (some (cid,0)),.agg [.str sr,.str sn],.agg x.cells,.int .i64 now] H fun r H'=>r=.tup [.str [],.slice 0 [] (some 5)]∧H'=H1:=by
 obtain ⟨v,ho⟩:=hC.o
 obtain ⟨H1,hC1,e1,k45⟩:=c45 hC 14
 refine ⟨_,hC1,e1,?_⟩
 clear hC hC1 e1
 have hP:=pne ht
 have k78:=c78 sn (by omega)
 rw [hx] at k78
 have k41:=c41 ho hr
 obtain ⟨y,l',rfl⟩:∃y l',l=y::l':=by
  cases l with
  | nil=>cases hl
  | cons y l'=>exact ⟨y,l',rfl⟩
 have k92:Pure prog 92 [.slice (l'.length+1) (.str y::l'.map .str) none,.str next] (.bool true):=(c92 (y::l') next none (by omega)).of_eq (by rw [zqe hl])
 obtain ⟨w,hvw⟩:∃w,w=c.vis:=⟨_,rfl⟩
 cases hfi:c.fi with
 | false =>
  have ho':H[cid]? = some (cliO { c with fi:=false,vis:=visP (y::l') } v):=by rw [←hfi,←hv];exact ho
  clear ho
  (refine fnS (imm:=imm48) ttK_ok func48 ?_;(conv=>whnf))
  refine dP2 (by kernel_rfl) ?_
  conv=>whnf
  repeat (first | (first | ((first | (apply exA;(focus exact oN)) | refine bT ?_ | refine bF ?_ | refine bW (bT ?_) | refine bW (bF ?_) | (apply cP;(focus assumption)) | (apply cE;(focus assumption)) | refine ⟨by first | decide | omega,?_⟩);((conv=>whnf))) | ((conv in (_[_]?)=>tactic=>first | exact oL | exact gS (by assumption));(conv=>whnf))) | (refine dX ?_;(conv=>whnf)) | (refine dP2 (by kernel_rfl) ?_;(conv=>whnf)))
  exact ⟨rfl,rfl⟩
 | true =>
  have hQ:=peq (hb hfi)
  have ho':H[cid]? = some (cliO { c with fi:=true,vis:=visP (y::l') } v):=by rw [←hfi,←hv];exact ho
  clear ho
  (refine fnS (imm:=imm48) ttK_ok func48 ?_;(conv=>whnf))
  refine dP2 (by kernel_rfl) ?_
  conv=>whnf
  repeat (first | (first | ((first | (apply exA;(focus exact oN)) | refine bT ?_ | refine bF ?_ | refine bW (bT ?_) | refine bW (bF ?_) | (apply cP;(focus assumption)) | (apply cE;(focus assumption)) | refine ⟨by first | decide | omega,?_⟩);((conv=>whnf))) | ((conv in (_[_]?)=>tactic=>first | exact oL | exact gS (by assumption));(conv=>whnf))) | (refine dX ?_;(conv=>whnf)) | (refine dP2 (by kernel_rfl) ?_;(conv=>whnf)))
  exact ⟨rfl,rfl⟩
theorem c48h {H:PH} {cid mid:Nat} {c:Cs} {L:List Crd} (hC:Cl H cid mid c L) (hr:c.r.length≤1000000) (sr sn:List UInt8) (hsn:sn.length≤1000000) (x:Crd) (now:Int) (ht:¬(sr=c.tr∧sn=c.tn)) {next:List UInt8} (hx:targetB sn=(next,true)) (hb:c.fi=true→(sr=c.r∧sn=krb c.r)) (l:List (List UInt8)) (hv:c.vis=visP l) (hl:next ∉ l) (hll:l.length≤1000000) (h5:5<l.length) :
  ∃H1,Cl H1 cid mid { c with st:=3,er:=15 } L∧Evo (·=cid) H H1∧CK prog 48 [.ptr (some (cid,0)),.agg [.str sr,.str sn],.agg x.cells,.int .i64 now] H fun r H'=>r=.tup [.str [],.slice 0 [] (some 5)]∧H'=H1:=by
 obtain ⟨v,ho⟩:=hC.o
 obtain ⟨H1,hC1,e1,k45⟩:=c45 hC 15
 refine ⟨_,hC1,e1,?_⟩
 clear hC hC1 e1
 have hP:=pne ht
 have k78:=c78 sn (by omega)
 rw [hx] at k78
 have k41:=c41 ho hr
 obtain ⟨y,l',rfl⟩:∃y l',l=y::l':=by
  cases l with
  | nil=>exact absurd h5 (by simp)
  | cons y l'=>exact ⟨y,l',rfl⟩
 have k92:Pure prog 92 [.slice (l'.length+1) (.str y::l'.map .str) none,.str next] (.bool false):=(c92 (y::l') next none (by omega)).of_eq (by rw [zqd hl])
 have h5':(5:Int)<((l'.length+1:Nat):Int):=by have:5<l'.length+1:=h5;omega
 obtain ⟨w,hvw⟩:∃w,w=c.vis:=⟨_,rfl⟩
 cases hfi:c.fi with
 | false =>
  have ho':H[cid]? = some (cliO { c with fi:=false,vis:=visP (y::l') } v):=by rw [←hfi,←hv];exact ho
  clear ho
  (refine fnS (imm:=imm48) ttK_ok func48 ?_;(conv=>whnf))
  refine dP2 (by kernel_rfl) ?_
  conv=>whnf
  repeat (first | (first | ((first | (apply exA;(focus exact oN)) | refine bT ?_ | refine bF ?_ | refine bW (bT ?_) | refine bW (bF ?_) | (apply cP;(focus assumption)) | (apply cE;(focus assumption)) | refine ⟨by first | decide | omega,?_⟩);((conv=>whnf))) | ((conv in (_[_]?)=>tactic=>first | exact oL | exact gS (by assumption));(conv=>whnf))) | (refine dX ?_;(conv=>whnf)) | (refine dP2 (by kernel_rfl) ?_;(conv=>whnf)))
  exact ⟨rfl,rfl⟩
 | true =>
  have hQ:=peq (hb hfi)
  have ho':H[cid]? = some (cliO { c with fi:=true,vis:=visP (y::l') } v):=by rw [←hfi,←hv];exact ho
  clear ho
  (refine fnS (imm:=imm48) ttK_ok func48 ?_;(conv=>whnf))
  refine dP2 (by kernel_rfl) ?_
  conv=>whnf
  repeat (first | (first | ((first | (apply exA;(focus exact oN)) | refine bT ?_ | refine bF ?_ | refine bW (bT ?_) | refine bW (bF ?_) | (apply cP;(focus assumption)) | (apply cE;(focus assumption)) | refine ⟨by first | decide | omega,?_⟩);((conv=>whnf))) | ((conv in (_[_]?)=>tactic=>first | exact oL | exact gS (by assumption));(conv=>whnf))) | (refine dX ?_;(conv=>whnf)) | (refine dP2 (by kernel_rfl) ?_;(conv=>whnf)))
  exact ⟨rfl,rfl⟩
theorem k92n (x:List UInt8):Pure prog 92 [.nilS,.str x] (.bool false):=fun H=>((c92 [] x none (by decide)).of_eq (by rfl) H).nils (.turn (.same _ .nil))
theorem c48f {H:PH} {cid mid:Nat} {c:Cs} {L:List Crd} (hC:Cl H cid mid c L) (hr:c.r.length≤1000000) (sr sn:List UInt8) (hsn:sn.length≤1000000) (x:Crd) (now:Int) (ht:¬(sr=c.tr∧sn=c.tn)) {next:List UInt8} (hx:targetB sn=(next,true)) (hb:c.fi=true→(sr=c.r∧sn=krb c.r)) (l:List (List UInt8)) (hv:c.vis=visP l) (hl:next ∉ l) (h5:l.length≤5) (hn0:0≤now) (hn1:now≤1073741824) (ha:isAutB ⟨c.r,c.n,now,0⟩=true)
  (hm:msgOk (c.furM x now).d) (h0:0≤c.nn) (h1:c.nn≤100000) (h2:0≤c.se) (h3:c.se≤100000) (h4:0≤c.sn) (h6:c.sn≤100000) :
  ∃H1 bid,BoxAt H1 bid (keyB x.k)∧Cl H1 cid mid (c.fur bid l next) L∧Evo (Wc cid mid) H H1∧CK prog 48 [.ptr (some (cid,0)),.agg [.str sr,.str sn],.agg x.cells,.int .i64 now] H fun r H'=>r=.tup [.str next,sl (laidB (c.furM x now))]∧H'=H1:=by
 obtain ⟨v,ho⟩:=hC.o
 obtain ⟨H1,bid,hb1,hC1,e1,k42⟩:=c42 hC x l hv (by omega) next now hn0 hn1 ha hm h0 h1 h2 h3 h4 h6
 refine ⟨_,bid,hb1,hC1,e1,?_⟩
 clear hC hC1 e1 hb1 hm
 generalize laidB (c.furM x now)=ob at *
 have hP:=pne ht
 have k78:=c78 sn (by omega)
 rw [hx] at k78
 have k41:=c41 ho hr
 cases l with
 | nil =>
  have k92:=k92n next
  cases hfi:c.fi with
  | false =>
   have ho':H[cid]? = some (cliO { c with fi:=false,vis:=visP [] } v):=by rw [←hfi,←hv];exact ho
   clear ho
   (refine fnS (imm:=imm48) ttK_ok func48 ?_;(conv=>whnf))
   refine dP2 (by kernel_rfl) ?_
   conv=>whnf
   repeat (first | (first | ((first | (apply exA;(focus exact oN)) | refine bT ?_ | refine bF ?_ | refine bW (bT ?_) | refine bW (bF ?_) | (apply cP;(focus assumption)) | (apply cE;(focus assumption)) | refine ⟨by first | decide | omega,?_⟩);((conv=>whnf))) | ((conv in (_[_]?)=>tactic=>first | exact oL | exact gS (by assumption));(conv=>whnf))) | (refine dX ?_;(conv=>whnf)) | (refine dP2 (by kernel_rfl) ?_;(conv=>whnf)))
   exact ⟨rfl,rfl⟩
  | true =>
   have hQ:=peq (hb hfi)
   have ho':H[cid]? = some (cliO { c with fi:=true,vis:=visP [] } v):=by rw [←hfi,←hv];exact ho
   clear ho
   (refine fnS (imm:=imm48) ttK_ok func48 ?_;(conv=>whnf))
   refine dP2 (by kernel_rfl) ?_
   conv=>whnf
   repeat (first | (first | ((first | (apply exA;(focus exact oN)) | refine bT ?_ | refine bF ?_ | refine bW (bT ?_) | refine bW (bF ?_) | (apply cP;(focus assumption)) | (apply cE;(focus assumption)) | refine ⟨by first | decide | omega,?_⟩);((conv=>whnf))) | ((conv in (_[_]?)=>tactic=>first | exact oL | exact gS (by assumption));(conv=>whnf))) | (refine dX ?_;(conv=>whnf)) | (refine dP2 (by kernel_rfl) ?_;(conv=>whnf)))
   exact ⟨rfl,rfl⟩
 | cons y l' =>
  have k92:Pure prog 92 [.slice (l'.length+1) (.str y::l'.map .str) none,.str next] (.bool false):=(c92 (y::l') next none (by have:l'.length+1≤5:=h5;show l'.length+1≤_;omega)).of_eq (by rw [zqd hl])
  have h5':¬(5:Int)<((l'.length+1:Nat):Int):=by have:l'.length+1≤5:=h5;omega
  cases hfi:c.fi with
  | false =>
   have ho':H[cid]? = some (cliO { c with fi:=false,vis:=visP (y::l') } v):=by rw [←hfi,←hv];exact ho
   clear ho
   (refine fnS (imm:=imm48) ttK_ok func48 ?_;(conv=>whnf))
   refine dP2 (by kernel_rfl) ?_
   conv=>whnf
   repeat (first | (first | ((first | (apply exA;(focus exact oN)) | refine bT ?_ | refine bF ?_ | refine bW (bT ?_) | refine bW (bF ?_) | (apply cP;(focus assumption)) | (apply cE;(focus assumption)) | refine ⟨by first | decide | omega,?_⟩);((conv=>whnf))) | ((conv in (_[_]?)=>tactic=>first | exact oL | exact gS (by assumption));(conv=>whnf))) | (refine dX ?_;(conv=>whnf)) | (refine dP2 (by kernel_rfl) ?_;(conv=>whnf)))
   exact ⟨rfl,rfl⟩
  | true =>
   have hQ:=peq (hb hfi)
   have ho':H[cid]? = some (cliO { c with fi:=true,vis:=visP (y::l') } v):=by rw [←hfi,←hv];exact ho
   clear ho
   (refine fnS (imm:=imm48) ttK_ok func48 ?_;(conv=>whnf))
   refine dP2 (by kernel_rfl) ?_
   conv=>whnf
   repeat (first | (first | ((first | (apply exA;(focus exact oN)) | refine bT ?_ | refine bF ?_ | refine bW (bT ?_) | refine bW (bF ?_) | (apply cP;(focus assumption)) | (apply cE;(focus assumption)) | refine ⟨by first | decide | omega,?_⟩);((conv=>whnf))) | ((conv in (_[_]?)=>tactic=>first | exact oL | exact gS (by assumption));(conv=>whnf))) | (refine dX ?_;(conv=>whnf)) | (refine dP2 (by kernel_rfl) ?_;(conv=>whnf)))
   exact ⟨rfl,rfl⟩
def Msg.repI (m:Msg):RepI:=⟨m.r1,m.r2,m.r3,m.r4,m.rKv,m.rB,m.rBl⟩
def D17:Draw:={ imp:=[7],win:=[(8,1,1)] }
theorem c17r {H:PH} {cid mid:Nat} {c:Cs} {L:List Crd} (hC:Cl H cid mid c L) (hst:c.st=1) (b:List UInt8) (m:Msg) (hd:Pure prog 44 [sl b] (.tup [.agg m.d.cells,.int .i64 0])) (now:Int) (h0:0≤now) (h1:now≤1073741824) (hk:m.kind=3)
  (x:Crd) (hg:∀X,Evo (fun _=>False) H X→CK prog 46 [.ptr (some (cid,0)),.agg m.repI.cells] X fun r H'=>r=.tup [.agg [.str x.r,.str x.n],.agg x.cells,.bool true]∧Evo (fun _=>False) X H')
  (hen:∀y∈L,¬y.en<now) (hL:L.length<10) (hxb:x.b.length≤1000000) (a:List UInt8) (out:List UInt8) (G:PH→Prop)
  (hgo:∀X,Evo (Wc cid mid) H X→Cl X cid mid c (putL L x)→∃H1,G H1∧Evo (Wc cid mid) X H1∧CK prog 48 [.ptr (some (cid,0)),.agg [.str x.r,.str x.n],.agg x.cells,.int .i64 now] X fun r H'=>r=.tup [.str a,.slice out.length (out.map bC) none]∧H'=H1) :
  CK prog 17 [.ptr (some (cid,0)),sl b,.int .i64 now] H fun r H'=>r=.tup [.str a,.slice out.length (out.map bC) none]∧G H'∧Evo (Wc cid mid) H H':=by
 obtain ⟨v,ho⟩:=hC.o
 have k39:Pure prog 39 [.int .i64 now] (.bool true):=(c39 now).of_eq (by rw [inZ_of h0 h1])
 have e1:=((Xt.refl H).app [z63o]).set (zqn _) (⟨63,m.d.cells,1⟩:PObj)
 have g0:=gL H z63o
 have g1:((H++[z63o]).set H.length (⟨63,m.d.cells,1⟩:PObj))[H.length]? = some ⟨63,m.d.cells,1⟩:=gS g0
 have ho1:=e1.get ho
 have kg:=hg _ (Evo.xt e1)
 have hk5:m.kind≠5:=by omega
 (refine fnS (imm:=imm17) ttK_ok func17 ?_;(conv=>whnf))
 repeat (first | (first | ((first | (apply exA;(focus exact oN)) | refine bT ?_ | refine bF ?_ | refine bW (bT ?_) | refine bW (bF ?_) | (apply cP;(focus assumption)) | (apply cE;(focus assumption)) | refine ⟨by first | decide | omega,?_⟩);((conv=>whnf))) | ((conv in (_[_]?)=>tactic=>first | exact oL | exact gS (by assumption));(conv=>whnf))) | (refine dX ?_;(conv=>whnf)))
 refine cO kg ?_
 rintro _ H3 ⟨rfl,e3⟩
 have e4:=(((Xt.refl H3).app [z36o]).app [z83c])
 have gA:=gA2 H3 z36o z83c
 have gB:((H3++[z36o]++[z83c]).set H3.length (⟨36,[.str x.r,.str x.n],1⟩:PObj))[(H3++[z36o]).length]? = some z83c:=by rw [zqj (by simp)];exact gB2 H3 z36o z83c z36o
 have e5:=(e4.set (zqn _) (⟨36,[.str x.r,.str x.n],1⟩:PObj)).set (show H3.length≤(H3++[z36o]).length by simp) (⟨83,x.cells,1⟩:PObj)
 have E5:Evo (fun _=>False) H (((H3++[z36o]++[z83c]).set H3.length (⟨36,[.str x.r,.str x.n],1⟩:PObj)).set (H3++[z36o]).length (⟨83,x.cells,1⟩:PObj)):=(Evo.xt e1).trans (e3.trans (Evo.xt e5))
 have gA5:(((H3++[z36o]++[z83c]).set H3.length (⟨36,[.str x.r,.str x.n],1⟩:PObj)).set (H3++[z36o]).length (⟨83,x.cells,1⟩:PObj))[H3.length]? = some ⟨36,[.str x.r,.str x.n],1⟩:=by rw [zqj (by simp)];exact gS gA
 have gB5:(((H3++[z36o]++[z83c]).set H3.length (⟨36,[.str x.r,.str x.n],1⟩:PObj)).set (H3++[z36o]).length (⟨83,x.cells,1⟩:PObj))[(H3++[z36o]).length]? = some ⟨83,x.cells,1⟩:=gS gB
 have hC5:=hC.evo E5 id id id
 obtain ⟨Y,hY⟩:∃Y,((H3++[z36o]++[z83c]).set H3.length (⟨36,[.str x.r,.str x.n],1⟩:PObj)).set (H3++[z36o]).length (⟨83,x.cells,1⟩:PObj)=Y:=⟨_,rfl⟩
 rw [hY] at E5 gA5 gB5 hC5
 have hn5:=hC5.ne
 obtain ⟨v5,ho5⟩:=hC5.o
 obtain ⟨w5,ha5⟩:=hC5.a
 obtain ⟨u5,hm5⟩:=hC5.m.ex
 obtain ⟨H6,hm6,e6,k47⟩:=c47 x now ha5 hm5 hn5.2.2 hen hL hxb
 have hC6:Cl H6 cid mid c (putL L x):=⟨⟨v5,e6.same _ _ ho5 hn5.2.1 (cliT ..).1 (cliT ..).2⟩,⟨w5,e6.same _ _ ha5 hn5.2.2 (cacheOT ..).1 (cacheOT ..).2⟩,hm6⟩
 have hml:mid<H.length:=(zq1.1 hC.m.ex.choose_spec).1
 have h3l:H.length≤H3.length:=Nat.le_trans e1.len e3.len
 have gA6:=e6.same _ _ gA5 (show ¬H3.length=mid by omega) n36.1 n36.2
 have gB6:=e6.same _ _ gB5 (show ¬(H3++[z36o]).length=mid by simp;omega) n83.1 n83.2
 have E6:Evo (Wc cid mid) H H6:=E5.no.trans e6.m
 obtain ⟨H7,hG,e7,k48⟩:=hgo H6 E6 hC6
 have fin:G H7∧Evo (Wc cid mid) H H7:=⟨hG,E6.trans e7⟩
 clear e7 E6 hC6 hm6 e6 hm5 hn5 hC5 E5 e5 e4 e3 hgo hg hen hC h3l hml
 conv=>whnf
 repeat (first | (first | ((first | (apply exA;(focus exact oN)) | refine bT ?_ | refine bF ?_ | refine bW (bT ?_) | refine bW (bF ?_) | (apply cP;(focus assumption)) | (apply cE;(focus assumption)) | refine ⟨by first | decide | omega,?_⟩);((conv=>whnf))) | ((conv in (_[_]?)=>tactic=>first | exact oL | exact gS (by assumption));(conv=>whnf))) | (refine dX ?_;(conv=>whnf)))
 refine drawK_at hY ?_
 refine drawK_of3 D17 [Y,H6] _ (by kernel_rfl) rfl trivial rfl ?_
 conv=>whnf
 repeat (first | (first | ((first | (apply exA;(focus exact oN)) | refine bT ?_ | refine bF ?_ | refine bW (bT ?_) | refine bW (bF ?_) | (apply cP;(focus assumption)) | (apply cE;(focus assumption)) | refine ⟨by first | decide | omega,?_⟩);((conv=>whnf))) | ((conv in (_[_]?)=>tactic=>first | exact oL | exact gS (by assumption));(conv=>whnf))) | (refine dX ?_;(conv=>whnf)))
 exact ⟨rfl,fin⟩
theorem c17s {H:PH} {cid mid:Nat} {c:Cs} {L:List Crd} (hC:Cl H cid mid c L) (hst:c.st=1) (b:List UInt8) (m:Msg) (hd:Pure prog 44 [sl b] (.tup [.agg m.d.cells,.int .i64 0])) (now:Int) (h0:0≤now) (h1:now≤1073741824) (hk:m.kind=3)
  (x:Crd) (hg:∀X,Evo (fun _=>False) H X→CK prog 46 [.ptr (some (cid,0)),.agg m.repI.cells] X fun r H'=>r=.tup [.agg [.str x.r,.str x.n],.agg x.cells,.bool true]∧Evo (fun _=>False) X H')
  (hen:∀y∈L,¬y.en<now) (hL:L.length<10) (hxb:x.b.length≤1000000) (a:List UInt8) (G:PH→Prop)
  (hgo:∀X,Evo (Wc cid mid) H X→Cl X cid mid c (putL L x)→∃H1,G H1∧Evo (Wc cid mid) X H1∧CK prog 48 [.ptr (some (cid,0)),.agg [.str x.r,.str x.n],.agg x.cells,.int .i64 now] X fun r H'=>r=.tup [.str a,.slice 0 [] (some 5)]∧H'=H1) :
  CK prog 17 [.ptr (some (cid,0)),sl b,.int .i64 now] H fun r H'=>r=.tup [.str a,.slice 0 [] (some 5)]∧G H'∧Evo (Wc cid mid) H H':=by
 obtain ⟨v,ho⟩:=hC.o
 have k39:Pure prog 39 [.int .i64 now] (.bool true):=(c39 now).of_eq (by rw [inZ_of h0 h1])
 have e1:=((Xt.refl H).app [z63o]).set (zqn _) (⟨63,m.d.cells,1⟩:PObj)
 have g0:=gL H z63o
 have g1:((H++[z63o]).set H.length (⟨63,m.d.cells,1⟩:PObj))[H.length]? = some ⟨63,m.d.cells,1⟩:=gS g0
 have ho1:=e1.get ho
 have kg:=hg _ (Evo.xt e1)
 have hk5:m.kind≠5:=by omega
 (refine fnS (imm:=imm17) ttK_ok func17 ?_;(conv=>whnf))
 repeat (first | (first | ((first | (apply exA;(focus exact oN)) | refine bT ?_ | refine bF ?_ | refine bW (bT ?_) | refine bW (bF ?_) | (apply cP;(focus assumption)) | (apply cE;(focus assumption)) | refine ⟨by first | decide | omega,?_⟩);((conv=>whnf))) | ((conv in (_[_]?)=>tactic=>first | exact oL | exact gS (by assumption));(conv=>whnf))) | (refine dX ?_;(conv=>whnf)))
 refine cO kg ?_
 rintro _ H3 ⟨rfl,e3⟩
 have e4:=(((Xt.refl H3).app [z36o]).app [z83c])
 have gA:=gA2 H3 z36o z83c
 have gB:((H3++[z36o]++[z83c]).set H3.length (⟨36,[.str x.r,.str x.n],1⟩:PObj))[(H3++[z36o]).length]? = some z83c:=by rw [zqj (by simp)];exact gB2 H3 z36o z83c z36o
 have e5:=(e4.set (zqn _) (⟨36,[.str x.r,.str x.n],1⟩:PObj)).set (show H3.length≤(H3++[z36o]).length by simp) (⟨83,x.cells,1⟩:PObj)
 have E5:Evo (fun _=>False) H (((H3++[z36o]++[z83c]).set H3.length (⟨36,[.str x.r,.str x.n],1⟩:PObj)).set (H3++[z36o]).length (⟨83,x.cells,1⟩:PObj)):=(Evo.xt e1).trans (e3.trans (Evo.xt e5))
 have gA5:(((H3++[z36o]++[z83c]).set H3.length (⟨36,[.str x.r,.str x.n],1⟩:PObj)).set (H3++[z36o]).length (⟨83,x.cells,1⟩:PObj))[H3.length]? = some ⟨36,[.str x.r,.str x.n],1⟩:=by rw [zqj (by simp)];exact gS gA
 have gB5:(((H3++[z36o]++[z83c]).set H3.length (⟨36,[.str x.r,.str x.n],1⟩:PObj)).set (H3++[z36o]).length (⟨83,x.cells,1⟩:PObj))[(H3++[z36o]).length]? = some ⟨83,x.cells,1⟩:=gS gB
 have hC5:=hC.evo E5 id id id
 obtain ⟨Y,hY⟩:∃Y,((H3++[z36o]++[z83c]).set H3.length (⟨36,[.str x.r,.str x.n],1⟩:PObj)).set (H3++[z36o]).length (⟨83,x.cells,1⟩:PObj)=Y:=⟨_,rfl⟩
 rw [hY] at E5 gA5 gB5 hC5
 have hn5:=hC5.ne
 obtain ⟨v5,ho5⟩:=hC5.o
 obtain ⟨w5,ha5⟩:=hC5.a
 obtain ⟨u5,hm5⟩:=hC5.m.ex
 obtain ⟨H6,hm6,e6,k47⟩:=c47 x now ha5 hm5 hn5.2.2 hen hL hxb
 have hC6:Cl H6 cid mid c (putL L x):=⟨⟨v5,e6.same _ _ ho5 hn5.2.1 (cliT ..).1 (cliT ..).2⟩,⟨w5,e6.same _ _ ha5 hn5.2.2 (cacheOT ..).1 (cacheOT ..).2⟩,hm6⟩
 have hml:mid<H.length:=(zq1.1 hC.m.ex.choose_spec).1
 have h3l:H.length≤H3.length:=Nat.le_trans e1.len e3.len
 have gA6:=e6.same _ _ gA5 (show ¬H3.length=mid by omega) n36.1 n36.2
 have gB6:=e6.same _ _ gB5 (show ¬(H3++[z36o]).length=mid by simp;omega) n83.1 n83.2
 have E6:Evo (Wc cid mid) H H6:=E5.no.trans e6.m
 obtain ⟨H7,hG,e7,k48⟩:=hgo H6 E6 hC6
 have fin:G H7∧Evo (Wc cid mid) H H7:=⟨hG,E6.trans e7⟩
 clear e7 E6 hC6 hm6 e6 hm5 hn5 hC5 E5 e5 e4 e3 hgo hg hen hC h3l hml
 conv=>whnf
 repeat (first | (first | ((first | (apply exA;(focus exact oN)) | refine bT ?_ | refine bF ?_ | refine bW (bT ?_) | refine bW (bF ?_) | (apply cP;(focus assumption)) | (apply cE;(focus assumption)) | refine ⟨by first | decide | omega,?_⟩);((conv=>whnf))) | ((conv in (_[_]?)=>tactic=>first | exact oL | exact gS (by assumption));(conv=>whnf))) | (refine dX ?_;(conv=>whnf)))
 refine drawK_at hY ?_
 refine drawK_of3 D17 [Y,H6] _ (by kernel_rfl) rfl trivial rfl ?_
 conv=>whnf
 repeat (first | (first | ((first | (apply exA;(focus exact oN)) | refine bT ?_ | refine bF ?_ | refine bW (bT ?_) | refine bW (bF ?_) | (apply cP;(focus assumption)) | (apply cE;(focus assumption)) | refine ⟨by first | decide | omega,?_⟩);((conv=>whnf))) | ((conv in (_[_]?)=>tactic=>first | exact oL | exact gS (by assumption));(conv=>whnf))) | (refine dX ?_;(conv=>whnf)))
 exact ⟨rfl,fin⟩
theorem o4 {A:Prop} (h:A:=by
 (conv=>whnf);apply And.intro
 ·exact oN
 ·exact o3):A:=h
theorem o5 {A:Prop} (h:A:=by
 (conv=>whnf);apply And.intro
 ·exact oN
 ·exact o4):A:=h
theorem dY {O R:PV→Prop} {v:PV} (k:R v) (h:O v:=by first | exact o4 | exact o5):∃v,O v∧R v:=⟨v,h,k⟩
def D14a:Draw:={ imp:=[8,11,14,17,20],win:=[(1,0,1),(2,0,2),(3,0,3),(4,0,4),(5,0,3),(9,1,1),(10,1,1),(11,1,1),(12,2,2),(13,2,2),(14,2,2),(15,3,3),(16,3,3),(17,3,3),(18,4,4),(19,4,4),(20,4,4)] }
def D14b (b:Nat):Draw:={ imp:=[12],win:=[(10,0,1),(13,1,1)],robs:=[z83c],res:=[(11,0)],base:=b }
def Cs.beg (c:Cs) (tr tn:List UInt8):Cs:={ c with st:=1,er:=0,se:=0,tr:=tr,tn:=tn,vis:=.nilS }
theorem c14f {H:PH} {cid mid:Nat} {c:Cs} {L:List Crd} (hC:Cl H cid mid c L) (hst:c.st≠1) (hr:c.r.length≤1000000) (tr tn:List UInt8) (h1:tr.length≤1000000) (h2:tn.length≤1000000) (hu:isUserB tr tn=true) (now:Int) (hn0:0≤now) (hn1:now≤1073741824)
  (hf:findL c.r (krb c.r) L=none∨∃y,findL c.r (krb c.r) L=some y∧y.en<now)
  (hm:msgOk (asM c.r c.n (tillI now) (c.nn+1)).d) (h0:0≤c.nn) (h3:c.nn≤100000) :
  ∃H1 bid,BoxAt H1 bid (keyB c.k)∧Cl H1 cid mid ((c.beg tr tn).out (.ptr (some (bid,0))) 3 true) L∧Evo (Wc cid mid) H H1∧CK prog 14 [.ptr (some (cid,0)),.agg [.str tr,.str tn],.int .i64 now] H fun r H'=>r=.tup [.str c.r,sl (laidB (asM c.r c.n (tillI now) (c.nn+1))),.int .i64 0]∧H'=H1:=by
 obtain ⟨v,ho⟩:=hC.o
 have k38:Pure prog 38 [.agg [.str tr,.str tn]] (.bool true):=(c38 tr tn (by omega) (by omega)).of_eq (by rw [hu])
 have k39:Pure prog 39 [.int .i64 now] (.bool true):=(c39 now).of_eq (by rw [inZ_of hn0 hn1])
 obtain ⟨hC1,e1⟩:=hC.put { c with st:=1 } rfl (v+1)
 have ho1:=gS (o':=cliO { c with st:=1 } (v+1)) ho
 obtain ⟨hC2,e2⟩:=hC1.put { c with st:=1,er:=0 } rfl (v+2)
 have ho2:=gS (o':=cliO { c with st:=1,er:=0 } (v+2)) ho1
 obtain ⟨hC3,e3⟩:=hC2.put { c with st:=1,er:=0,se:=0 } rfl (v+3)
 have ho3:=gS (o':=cliO { c with st:=1,er:=0,se:=0 } (v+3)) ho2
 obtain ⟨hC4,e4⟩:=hC3.put { c with st:=1,er:=0,se:=0,tr:=tr,tn:=tn } rfl (v+4)
 have ho4:=gS (o':=cliO { c with st:=1,er:=0,se:=0,tr:=tr,tn:=tn } (v+4)) ho3
 obtain ⟨hC5,e5⟩:=hC4.put (c.beg tr tn) rfl (v+5)
 have ho5:=gS (o':=cliO (c.beg tr tn) (v+5)) ho4
 have E5:=(((e1.trans e2).trans e3).trans e4).trans e5
 generalize hY5:(((((H.set cid (cliO { c with st:=1 } (v+1))).set cid (cliO { c with st:=1,er:=0 } (v+2))).set cid (cliO { c with st:=1,er:=0,se:=0 } (v+3))).set cid (cliO { c with st:=1,er:=0,se:=0,tr:=tr,tn:=tn } (v+4))).set cid (cliO (c.beg tr tn) (v+5)))=Y5 at hC5 E5 ho5
 clear hC1 hC2 hC3 hC4 e1 e2 e3 e4 e5
 have x6:=(Xt.refl Y5).app [z83c]
 have hC6:=hC5.xt x6
 have g6:=gL Y5 z83c
 obtain ⟨v6,ho6⟩:=hC6.o
 obtain ⟨w6,ha6⟩:=hC6.a
 obtain ⟨u6,hm6⟩:=hC6.m.ex
 have k41:=c41 ho6 hr
 have k40:CK prog 40 [.ptr (some (c.ca,0)),.agg [.str c.r,.str (krb c.r)],.int .i64 now] (Y5++[z83c]) fun x H'=>x=.tup [.agg zCrd.cells,.bool false]∧H'=Y5++[z83c]:=by
  rcases hf with hf | ⟨y,hf,hy⟩
  ·exact c40n now ha6 hm6 hf
  ·exact c40o now ha6 hm6 hf hy
 have x7:=x6.set (zqn _) (⟨83,zCrd.cells,1⟩:PObj)
 generalize hY7:(Y5++[z83c]).set Y5.length (⟨83,zCrd.cells,1⟩:PObj)=Y7 at *
 have hC7:=hC5.xt x7
 obtain ⟨H1,bid,hb,hC8,e8,k43⟩:=c43 hC7 now hn0 hn1 hr hm h0 h3 (Int.le_refl _) (by show (0:Int)≤100000;omega)
 refine ⟨H1,bid,hb,hC8,(E5.trans ((Evo.xt x7).trans e8)).c,?_⟩
 clear hb hC8 e8 hC7 x7 hm6 ha6 hC6 x6 E5 hC5 hf hm hC
 (refine fnS (imm:=imm14) ttK_ok func14 ?_;(conv=>whnf))
 repeat (first | (first | ((first | (apply exA;(focus exact oN)) | refine bT ?_ | refine bF ?_ | refine bW (bT ?_) | refine bW (bF ?_) | (apply cP;(focus assumption)) | (apply cE;(focus assumption)) | refine ⟨by first | decide | omega,?_⟩);((conv=>whnf))) | ((conv in (_[_]?)=>tactic=>first | exact oL | exact gS (by assumption));(conv=>whnf))) | (refine dX ?_;(conv=>whnf)))
 refine drawK_of3 D14a [H,(H.set cid (cliO { c with st:=1 } (v+1))),((H.set cid (cliO { c with st:=1 } (v+1))).set cid (cliO { c with st:=1,er:=0 } (v+2))),(((H.set cid (cliO { c with st:=1 } (v+1))).set cid (cliO { c with st:=1,er:=0 } (v+2))).set cid (cliO { c with st:=1,er:=0,se:=0 } (v+3))),((((H.set cid (cliO { c with st:=1 } (v+1))).set cid (cliO { c with st:=1,er:=0 } (v+2))).set cid (cliO { c with st:=1,er:=0,se:=0 } (v+3))).set cid (cliO { c with st:=1,er:=0,se:=0,tr:=tr,tn:=tn } (v+4))),(((((H.set cid (cliO { c with st:=1 } (v+1))).set cid (cliO { c with st:=1,er:=0 } (v+2))).set cid (cliO { c with st:=1,er:=0,se:=0 } (v+3))).set cid (cliO { c with st:=1,er:=0,se:=0,tr:=tr,tn:=tn } (v+4))).set cid (cliO (c.beg tr tn) (v+5)))] _ (by kernel_rfl) rfl trivial hY5 ?_
 conv=>whnf
 repeat (first | (first | ((first | (apply exA;(focus exact oN)) | refine bT ?_ | refine bF ?_ | refine bW (bT ?_) | refine bW (bF ?_) | (apply cP;(focus assumption)) | (apply cE;(focus assumption)) | refine ⟨by first | decide | omega,?_⟩);((conv=>whnf))) | ((conv in (_[_]?)=>tactic=>first | exact oL | exact gS (by assumption));(conv=>whnf))) | (refine dX ?_;(conv=>whnf)) | (refine dY ?_;(conv=>whnf)))
 refine drawK_of3 (D14b Y5.length) [Y5++[z83c],(Y5++[z83c]).set Y5.length (⟨83,zCrd.cells,1⟩:PObj)] _ (by kernel_rfl) ⟨rfl,rfl⟩ trivial hY7 ?_
 conv=>whnf
 exact wX
theorem c14s {H:PH} {cid:Nat} {c:Cs} {v:Nat} (ho:H[cid]? = some (cliO c v)) (hst:c.st=1) (tr tn:List UInt8) (now:Int) :
  CK prog 14 [.ptr (some (cid,0)),.agg [.str tr,.str tn],.int .i64 now] H fun r H'=>r=.tup [.str [],.slice 0 [] (some 5),.int .i64 16]∧H'=H:=by
 (refine fnS (imm:=imm14) ttK_ok func14 ?_;(conv=>whnf))
 exact wX
theorem c20 {H:PH} {cid:Nat} {c:Cs} {v:Nat} (ho:H[cid]? = some (cliO c v)) :
  CK prog 20 [.ptr (some (cid,0))] H fun r H'=>r=.tup [.int .i64 c.st,.int .i64 c.er,.int .i64 c.se]∧H'=H:=by
 (refine fnS (imm:=imm20) ttK_ok func20 ?_;(conv=>whnf))
 repeat (first | (first | ((first | (apply exA;(focus exact oN)) | refine bT ?_ | refine bF ?_ | refine bW (bT ?_) | refine bW (bF ?_) | (apply cP;(focus assumption)) | (apply cE;(focus assumption)) | refine ⟨by first | decide | omega,?_⟩);((conv=>whnf))) | ((conv in (_[_]?)=>tactic=>first | exact oL | exact gS (by assumption));(conv=>whnf))) | (refine dX ?_;(conv=>whnf)) | (refine dP2 (by kernel_rfl) ?_;(conv=>whnf)))
 exact ⟨rfl,rfl⟩
theorem c77 (H:PH):CK prog 77 [] H fun r H'=>r=.ptr (some (H.length+1,0))∧H'=H++[mapO [] 0]++[cacheO H.length 0]:=by
 have hl:(H++[mapO [] 0]).length=H.length+1:=by simp
 (refine fnS (imm:=imm77) ttK_ok func77 ?_;(conv=>whnf))
 exact ⟨zqm (fun i=>PV.ptr (some (i,0))) hl,rfl⟩
def cli0 (r n:List UInt8) (k:Nat→UInt8) (ca:Nat):Cs:=⟨r,n,k,ca,0,0,0,0,0,0,[],[],.slice 0 [] (some 9),0,.ptr none,0,false⟩
def D34:Draw:={ imp:=[2,4],win:=[(0,0,1),(1,0,1),(3,1,1),(4,1,1),(5,2,2),(6,2,2)] }
theorem c34 (H:PH) (r n:List UInt8) (k:Nat→UInt8) (h1:r.length≤1000000) (h2:n.length≤1000000) (hu:isUserB r n=true) :
  ∃H1 cid mid,Cl H1 cid mid (cli0 r n k (mid+1)) []∧Evo (fun _=>False) H H1∧H.length≤mid∧H.length≤cid∧CK prog 34 [.agg [.str r,.str n],.agg (keyC k)] H fun x H'=>x=.tup [.ptr (some (cid,0)),.int .i64 0]∧H'=H1:=by
 have k38:Pure prog 38 [.agg [.str r,.str n]] (.bool true):=(c38 r n (by omega) (by omega)).of_eq (by rw [hu])
 have k77:=c77 H
 have e1:=((Xt.refl H).app [mapO [] 0]).app [cacheO H.length 0]
 have ga:=gA2 H (mapO [] 0) (cacheO H.length 0)
 have gb:=gL (H++[mapO [] 0]) (cacheO H.length 0)
 have hl:(H++[mapO [] 0]).length=H.length+1:=by simp
 rw [hl] at gb
 have hl2:(H++[mapO [] 0]++[cacheO H.length 0]).length=H.length+2:=by simp
 generalize hX:H++[mapO [] 0]++[cacheO H.length 0]=X at *
 have e2:=(Xt.refl X).app [cliO (cli0 r n k (H.length+1)) 0]
 refine ⟨X++[cliO (cli0 r n k (H.length+1)) 0],X.length,H.length,⟨⟨0,gL _ _⟩,⟨0,e2.get gb⟩,⟨0,e2.get ga⟩⟩,(Evo.xt e1).trans (Evo.xt e2),zqn _,by omega,?_⟩
 (refine fnS (imm:=imm34) ttK_ok func34 ?_;(conv=>whnf))
 repeat (first | (first | ((first | (apply exA;(focus exact oN)) | refine bT ?_ | refine bF ?_ | refine bW (bT ?_) | refine bW (bF ?_) | (apply cP;(focus assumption)) | (apply cE;(focus assumption)) | refine ⟨by first | decide | omega,?_⟩);((conv=>whnf))) | ((conv in (_[_]?)=>tactic=>first | exact oL | exact gS (by assumption));(conv=>whnf))) | (refine dX ?_;(conv=>whnf)))
 refine drawK_of3 D34 [H,X,X++[cliO (cli0 r n k (H.length+1)) 0]] _ (by kernel_rfl) rfl trivial rfl ?_
 conv=>whnf
 exact wX
/-! The laws' own: ann, mail, what is out. -/
def aR:List UInt8:=[65]
def aN:List UInt8:=[97,110,110]
def sR:List UInt8:=[83]
def mN:List UInt8:=[109,97,105,108]
def k9:Nat→UInt8:=fun i=>if i=0 then 9 else 0
def sesF (n:Int):Nat→UInt8:=fun i=>if i=0 then byteI n else if i=1 then byteI (ishr .i64 n 8) else if i=2 then 3 else 0
theorem c25:Pure prog 25 [] (.agg [.str aR,.str aN]):=by
 refine Pure.of_gc rfl fun H=>?_
 have e1:=((Xt.refl H).app [z36o]).set (zqn _) (⟨36,[.str aR,.str aN],1⟩:PObj)
 have g1:=gL H z36o
 (refine fnS (imm:=imm25) ttK_ok func25 ?_;(conv=>whnf))
 repeat (first | (first | ((first | (apply exA;(focus exact oN)) | refine bT ?_ | refine bF ?_ | refine bW (bT ?_) | refine bW (bF ?_) | (apply cP;(focus assumption)) | (apply cE;(focus assumption)) | refine ⟨by first | decide | omega,?_⟩);((conv=>whnf))) | ((conv in (_[_]?)=>tactic=>first | exact oL | exact gS (by assumption));(conv=>whnf))) | (refine dX ?_;(conv=>whnf)))
 exact ⟨rfl,e1⟩
theorem c15:Pure prog 15 [] (.agg [.str sR,.str mN]):=by
 refine Pure.of_gc rfl fun H=>?_
 have e1:=((Xt.refl H).app [z36o]).set (zqn _) (⟨36,[.str sR,.str mN],1⟩:PObj)
 have g1:=gL H z36o
 (refine fnS (imm:=imm15) ttK_ok func15 ?_;(conv=>whnf))
 repeat (first | (first | ((first | (apply exA;(focus exact oN)) | refine bT ?_ | refine bF ?_ | refine bW (bT ?_) | refine bW (bF ?_) | (apply cP;(focus assumption)) | (apply cE;(focus assumption)) | refine ⟨by first | decide | omega,?_⟩);((conv=>whnf))) | ((conv in (_[_]?)=>tactic=>first | exact oL | exact gS (by assumption));(conv=>whnf))) | (refine dX ?_;(conv=>whnf)))
 exact ⟨rfl,e1⟩
def z31o:PObj:=⟨31,List.replicate 32 (.int .u8 0),0⟩
def sesC (n:Int):List PV:=[.int .u8 (IntKind.u8.wrap n),.int .u8 (IntKind.u8.wrap (ishr .i64 n 8)),.int .u8 3]++List.replicate 29 (.int .u8 0)
theorem sesC_eq (n:Int):sesC n=keyC (sesF n):=by
 unfold sesC
 rw [byteC_I,byteC_I];rfl
theorem c26 (n:Int):Pure prog 26 [.int .i64 n] (.agg (keyC (sesF n))):=by
 rw [←sesC_eq]
 refine Pure.of_gc rfl fun H=>?_
 have e1:=((Xt.refl H).app [z31o]).set (zqn _) (⟨31,sesC n,1⟩:PObj)
 have g1:=gL H z31o
 (refine fnS (imm:=imm26) ttK_ok func26 ?_;(conv=>whnf))
 repeat (first | (first | ((first | (apply exA;(focus exact oN)) | refine bT ?_ | refine bF ?_ | refine bW (bT ?_) | refine bW (bF ?_) | (apply cP;(focus assumption)) | (apply cE;(focus assumption)) | refine ⟨by first | decide | omega,?_⟩);((conv=>whnf))) | ((conv in (_[_]?)=>tactic=>first | exact oL | exact gS (by assumption));(conv=>whnf))) | (refine dX ?_;(conv=>whnf)))
 exact ⟨rfl,e1⟩
theorem c37 (H:PH) (r n:List UInt8) (k:Nat→UInt8) (h1:r.length≤1000000) (h2:n.length≤1000000) (hu:isUserB r n=true) :
  ∃o:PObj,o.T=90∧CK prog 37 [.agg [.str r,.str n],.agg (keyC k)] H fun x H'=>x=.tup [.ptr (some (H.length,0)),.int .i64 0]∧H'=H++[o]:=by
 have k35:=c35 n (by omega)
 have k36:=c36 r n (by omega) (by omega)
 unfold isUserB at hu
 rw [zqb,Bool.not_eq_true'] at hu
 rw [hu.1] at k36
 rw [hu.2] at k35
 refine ⟨⟨90,[.str r,.str n]++keyC k++([.slice 0 [] (some 156)]++List.replicate 6 (.int .i64 0)++[.str [],.str [],.slice 0 [] (some 9)]++List.replicate 32 (.int .u8 0)++[.int .i64 0,.bool false]),0⟩,rfl,?_⟩
 (refine fnS (imm:=imm37) ttK_ok func37 ?_;(conv=>whnf))
 exact wX
def pairO (cid xid:Nat) (n:Int) (k:Nat→UInt8) (u:Int) (v:Nat):PObj:=⟨33,[.ptr (some (cid,0)),.ptr (some (xid,0)),.int .i64 n]++keyC k++[.int .i64 u],v⟩
theorem pairT (cid xid:Nat) (n:Int) (k:Nat→UInt8) (u:Int) (v:Nat):(pairO cid xid n k u v).T≠keyT∧(pairO cid xid n k u v).T≠boxT:=⟨fun h=>absurd (show 33=keyT from h) (by decide),fun h=>absurd (show 33=boxT from h) (by decide)⟩
structure Pr (H:PH) (pid xid cid mid:Nat) (n:Int) (k:Nat→UInt8) (u:Int) (c:Cs) (L:List Crd):Prop where
 p:∃v,H[pid]? = some (pairO cid xid n k u v)
 cl:Cl H cid mid c L
theorem Pr.ne {H:PH} {pid xid cid mid:Nat} {n:Int} {k:Nat→UInt8} {u:Int} {c:Cs} {L:List Crd} (h:Pr H pid xid cid mid n k u c L):pid≠cid∧pid≠c.ca∧pid≠mid:=by
 obtain ⟨⟨v,h0⟩,⟨⟨w,h1⟩,⟨x,h2⟩,⟨y,h3⟩⟩⟩:=h
 exact ⟨ne_of_T h0 h1 (show 33≠110 by decide),ne_of_T h0 h2 (show 33≠160 by decide),ne_of_T h0 h3 (show 33≠158 by decide)⟩
theorem Pr.go {H H':PH} {pid xid cid mid:Nat} {n:Int} {k:Nat→UInt8} {u:Int} {c c':Cs} {L L':List Crd} (h:Pr H pid xid cid mid n k u c L) (e:Evo (Wc cid mid) H H') (hc:Cl H' cid mid c' L'):Pr H' pid xid cid mid n k u c' L':=by
 obtain ⟨h1,h2,h3⟩:=h.ne
 obtain ⟨v,h0⟩:=h.p
 exact ⟨⟨v,e.same _ _ h0 (fun h=>h.elim h1 h3) (pairT ..).1 (pairT ..).2⟩,hc⟩
theorem Pr.stay {H H':PH} {pid xid cid mid:Nat} {n:Int} {k:Nat→UInt8} {u:Int} {c:Cs} {L:List Crd} (h:Pr H pid xid cid mid n k u c L) (e:Evo (fun _=>False) H H'):Pr H' pid xid cid mid n k u c L :=
 h.go e.no (h.cl.evo e id id id)
theorem Pr.put {H:PH} {pid xid cid mid:Nat} {n:Int} {k:Nat→UInt8} {u:Int} {c:Cs} {L:List Crd} (h:Pr H pid xid cid mid n k u c L) (n':Int) (k':Nat→UInt8) (u':Int) (v:Nat) :
  Pr (H.set pid (pairO cid xid n' k' u' v)) pid xid cid mid n' k' u' c L∧Evo (·=pid) H (H.set pid (pairO cid xid n' k' u' v)):=by
 obtain ⟨h1,h2,h3⟩:=h.ne
 obtain ⟨w,h0⟩:=h.p
 have e:Evo (·=pid) H (H.set pid (pairO cid xid n' k' u' v)):=Evo.setOther h0 rfl (pairT ..).1 (pairT ..).2
 exact ⟨⟨⟨v,gS h0⟩,h.cl.evo e (Ne.symm h1) (Ne.symm h2) (Ne.symm h3)⟩,e⟩
theorem uAnn:isUserB aR aN=true:=by kernel_rfl
theorem uMail:isUserB sR mN=true:=by kernel_rfl
theorem c13 (H:PH):∃H1 pid xid cid mid,Pr H1 pid xid cid mid 0 k9 3 (cli0 aR aN k9 (mid+1)) []∧H.length≤H1.length∧CK prog 13 [] H fun r H'=>r=.ptr (some (pid,0))∧H'=H1:=by
 have k25:=c25
 obtain ⟨H1,cid,mid,hC,e1,_,_,k34⟩:=c34 H aR aN k9 (by decide) (by decide) uAnn
 obtain ⟨o,ho,k37⟩:=c37 H1 aR aN k9 (by decide) (by decide) uAnn
 have e2:=((Xt.refl H1).app [o]).app [pairO cid H1.length 0 k9 3 0]
 refine ⟨H1++[o]++[pairO cid H1.length 0 k9 3 0],(H1++[o]).length,H1.length,cid,mid,⟨⟨0,gL _ _⟩,hC.xt e2⟩,Nat.le_trans e1.len e2.len,?_⟩
 clear hC e1 e2
 have k34':CK prog 34 [.agg [.str aR,.str aN],.agg ([.int .u8 9]++List.replicate 31 (.int .u8 0))] H fun x H'=>x=.tup [.ptr (some (cid,0)),.int .i64 0]∧H'=H1:=k34
 have k37':CK prog 37 [.agg [.str aR,.str aN],.agg ([.int .u8 9]++List.replicate 31 (.int .u8 0))] H1 fun x H'=>x=.tup [.ptr (some (H1.length,0)),.int .i64 0]∧H'=H1++[o]:=k37
 clear k34 k37
 (refine fnS (imm:=imm13) ttK_ok func13 ?_;(conv=>whnf))
 exact wX
theorem isB_d (m:Msg):isB m.d=isB m:=rfl
theorem laidB_d (m:Msg):laidB m.d=laidB m:=rfl
theorem msgOk_d {m:Msg} (h:msgOk m):msgOk m.d:=h
theorem dec_ok {m:Msg} (h:msgOk m):decV (laidB m)=.tup [.agg m.d.cells,.int .i64 0]:=by
 have hd:=taken_laid m h.1
 have hok:okM (takenB (laidB m)) (laidB m)=true:=by
  rw [okM_iff,←isB_d,←laidB_d (takenB _),hd,isB_d,laidB_d]
  exact ⟨h.1,h.2.1,rfl⟩
 unfold decV
 rw [agM_yes hok,hd]
theorem c44m {m:Msg} (h:msgOk m):Pure prog 44 [sl (laidB m)] (.tup [.agg m.d.cells,.int .i64 0]):=(c44 _ (by have:=h.2.1;omega)).of_eq (dec_ok h)
theorem c22m {m:Msg} (h:msgOk m):Pure prog 22 [sl (laidB m)] (.tup [.agg m.d.cells,.int .i64 0]):=(c22 _ (by have:=h.2.1;omega)).of_eq ((refDec_eq _).trans (dec_ok h))
theorem asOk {r n:List UInt8} {till nonce:Int} (h1:isPrincB r n=true) (h2:isPrincB r (krb r)=true) (h3:inZ till 0 1073741824=true) (h4:inZ nonce 0 1073741824=true):msgOk (asM r n till nonce):=by
 have g1:=princ_len h1
 have g2:=princ_len h2
 refine ⟨?_,?_,?_⟩
 ·show (isPrincB r n&&isPrincB r (krb r)&&inZ till 0 1073741824&&inZ nonce 0 1073741824&&othersB (asM r n till nonce))=true
  rw [h1,h2,h3,h4,show othersB (asM r n till nonce)=true from rfl];rfl
 ·have a0:=wrapB_len 106 [princE r n,princE r (krb r),intE till,intE nonce].flatten
  have a1:=princE_len r n
  have a2:=princE_len r (krb r)
  have a3:=intE_len till
  have a4:=intE_len nonce
  show (wrapB 106 [princE r n,princE r (krb r),intE till,intE nonce].flatten).length≤2000
  simp only [zqk,zql,zqf,List.length_nil] at a0 ⊢
  omega
 ·refine ⟨?_,?_,?_,?_,Nat.zero_le _,Nat.zero_le _,Nat.zero_le _,Nat.zero_le _,Nat.zero_le _,Nat.zero_le _,Nat.zero_le _,Nat.zero_le _,Nat.zero_le _,Nat.zero_le _⟩
  ·show r.length≤_;omega
  ·show n.length≤_;omega
  ·show r.length≤_;omega
  ·show (krb r).length≤_;omega
theorem tgOk {x:Crd} {au tr tn:List UInt8} {till nonce:Int} (h1:tickB x.r x.n x.kv x.b.length=true) (h2:inZ au.length 1 800=true) (h3:isPrincB tr tn=true) (h4:inZ till 0 1073741824=true) (h5:inZ nonce 0 1073741824=true):msgOk (tgM x au tr tn till nonce):=by
 have g1:=tick_len h1
 have g2:=inZ_le h2
 have g3:=princ_len h3
 refine ⟨?_,?_,?_⟩
 ·show (tickB x.r x.n x.kv x.b.length&&inZ au.length 1 800&&isPrincB tr tn&&inZ till 0 1073741824&&inZ nonce 0 1073741824&&othersB (tgM x au tr tn till nonce))=true
  rw [h1,h2,h3,h4,h5,show othersB (tgM x au tr tn till nonce)=true from rfl];rfl
 ·have a0:=wrapB_len 108 [ticketE x.r x.n x.kv x.b,wrapB 4 au,princE tr tn,intE till,intE nonce].flatten
  have a1:=ticketE_len x.r x.n x.kv x.b
  have a2:=wrapB_len 4 au
  have a3:=princE_len tr tn
  have a4:=intE_len till
  have a5:=intE_len nonce
  show (wrapB 108 [ticketE x.r x.n x.kv x.b,wrapB 4 au,princE tr tn,intE till,intE nonce].flatten).length≤2000
  simp only [zqk,zql,zqf,List.length_nil] at a0 ⊢
  omega
 ·refine ⟨Nat.zero_le _,Nat.zero_le _,Nat.zero_le _,Nat.zero_le _,?_,?_,?_,?_,Nat.zero_le _,Nat.zero_le _,Nat.zero_le _,Nat.zero_le _,Nat.zero_le _,Nat.zero_le _⟩
  ·show x.r.length≤_;omega
  ·show x.n.length≤_;omega
  ·show tr.length≤_;omega
  ·show tn.length≤_;omega
def rpM (r n:List UInt8) (sr sn:List UInt8) (kv:Int) (tb bl:List UInt8):Msg:={ mZ with kind:=3,r1:=r,r2:=n,r3:=sr,r4:=sn,rKv:=kv,rB:=tb,rBo:=none,rBl:=bl,rBlo:=none }
theorem rpOk {r n sr sn tb bl:List UInt8} {kv:Int} (h1:isPrincB r n=true) (h2:tickB sr sn kv tb.length=true) (h3:inZ bl.length 1 800=true):msgOk (rpM r n sr sn kv tb bl):=by
 have g1:=princ_len h1
 have g2:=tick_len h2
 have g3:=inZ_le h3
 refine ⟨?_,?_,?_⟩
 ·show (isPrincB r n&&tickB sr sn kv tb.length&&inZ bl.length 1 800&&othersB (rpM r n sr sn kv tb bl))=true
  rw [h1,h2,h3,show othersB (rpM r n sr sn kv tb bl)=true from rfl];rfl
 ·have a0:=wrapB_len 107 [princE r n,ticketE sr sn kv tb,wrapB 4 bl].flatten
  have a1:=princE_len r n
  have a2:=ticketE_len sr sn kv tb
  have a3:=wrapB_len 4 bl
  show (wrapB 107 [princE r n,ticketE sr sn kv tb,wrapB 4 bl].flatten).length≤2000
  simp only [zqk,zql,zqf,List.length_nil] at a0 ⊢
  omega
 ·refine ⟨Nat.zero_le _,Nat.zero_le _,Nat.zero_le _,Nat.zero_le _,Nat.zero_le _,Nat.zero_le _,Nat.zero_le _,Nat.zero_le _,?_,?_,?_,?_,Nat.zero_le _,Nat.zero_le _⟩
  ·show r.length≤_;omega
  ·show n.length≤_;omega
  ·show sr.length≤_;omega
  ·show sn.length≤_;omega
theorem tgt_krb {r:List UInt8} (h:isRealmB r=true):targetB (krb r)=(r,true):=by
 unfold targetB krb
 rw [show (krbB.isPrefixOf (krbB++r))=true from by simp [krbB],show (krbB++r).drop 7=r from rfl,h];rfl
theorem prKrb {r x:List UInt8} (h1:isRealmB r=true) (h2:isRealmB x=true):isPrincB r (krb x)=true:=by
 unfold isPrincB;rw [h1,tgt_krb h2];rfl
theorem user_princ {r n:List UInt8} (h:isUserB r n=true):isPrincB r n=true:=by
 unfold isUserB at h;rw [zqb] at h;exact h.1
theorem rA:isRealmB aR=true:=by kernel_rfl
theorem tillZ {now:Int} (h0:0≤now):inZ (tillI now) 0 1073741824=true:=inZ_of (by unfold tillI;omega) (by unfold tillI;omega)
theorem autA {r n:List UInt8} (h:isPrincB r n=true) {now seq:Int} (h0:0≤now) (h1:now≤1073741824) (h2:0≤seq) (h3:seq≤1073741824):isAutB ⟨r,n,now,seq⟩=true:=by
 unfold isAutB;rw [h,inZ_of h0 h1,inZ_of h2 h3];rfl
theorem seal_in {k:List UInt8} {u n:Int} {a:Aut} (h:isAutB a=true):inZ (sealK k u n (autL a)).length 1 800=true:=by
 have:=autL_784 h
 rw [sealK_len]
 exact inZ_of (by omega) (by omega)
theorem furOk {c:Cs} {x:Crd} {now:Int} (h1:tickB x.r x.n x.kv x.b.length=true) (h2:isPrincB c.r c.n=true) (h3:isPrincB c.tr c.tn=true) (h0:0≤now) (h4:now≤1073741824) (h5:0≤c.nn) (h6:c.nn≤100000):msgOk (c.furM x now) :=
 tgOk h1 (seal_in (autA h2 h0 h4 (Int.le_refl _) (by decide))) h3 (tillZ h0) (inZ_of (by omega) (by omega))
theorem c16a {H:PH} {pid xid cid mid:Nat} {n:Int} {k:Nat→UInt8} {u:Int} {c:Cs} {L:List Crd} (hP:Pr H pid xid cid mid n k u c L) (m:Msg) (hm:msgOk m) (hk:m.kind=1) :
  ∃H1,Pr H1 pid xid cid mid m.aNonce k9 3 c L∧Evo (·=pid) H H1∧CK prog 16 [.ptr (some (pid,0)),sl (laidB m)] H fun r H'=>r=.tup []∧H'=H1:=by
 obtain ⟨v,hp⟩:=hP.p
 have hlt:=(zq1.1 hp).1
 have k22:=c22m hm
 have e1:=((Xt.refl H).app [z63o]).set (zqn _) (⟨63,m.d.cells,1⟩:PObj)
 have g0:=gL H z63o
 have g1:((H++[z63o]).set H.length (⟨63,m.d.cells,1⟩:PObj))[H.length]? = some ⟨63,m.d.cells,1⟩:=gS g0
 have hp1:=e1.get hp
 have hP1:=hP.stay (Evo.xt e1)
 obtain ⟨hP2,e2⟩:=hP1.put m.aNonce k u (v+1)
 have hp2:(((H++[z63o]).set H.length (⟨63,m.d.cells,1⟩:PObj)).set pid (pairO cid xid m.aNonce k u (v+1)))[pid]? = some (pairO cid xid m.aNonce k u (v+1)):=gS hp1
 have g2:(((H++[z63o]).set H.length (⟨63,m.d.cells,1⟩:PObj)).set pid (pairO cid xid m.aNonce k u (v+1)))[H.length]? = some ⟨63,m.d.cells,1⟩:=by rw [zqj (by omega)];exact g1
 obtain ⟨hP3,e3⟩:=hP2.put m.aNonce k9 u (v+2)
 have hp3:((((H++[z63o]).set H.length (⟨63,m.d.cells,1⟩:PObj)).set pid (pairO cid xid m.aNonce k u (v+1))).set pid (pairO cid xid m.aNonce k9 u (v+2)))[pid]? = some (pairO cid xid m.aNonce k9 u (v+2)):=gS hp2
 obtain ⟨hP4,e4⟩:=hP3.put m.aNonce k9 3 (v+3)
 have g4:(((((H++[z63o]).set H.length (⟨63,m.d.cells,1⟩:PObj)).set pid (pairO cid xid m.aNonce k u (v+1))).set pid (pairO cid xid m.aNonce k9 u (v+2))).set pid (pairO cid xid m.aNonce k9 3 (v+3)))[H.length]? = some ⟨63,m.d.cells,1⟩:=by rw [zqj (by omega),zqj (by omega)];exact g2
 refine ⟨_,hP4,(((Evo.xt e1).trans e2).trans e3).trans e4,?_⟩
 clear e4 e3 e2 hP4 hP3 hP2 hP1 e1 hP
 have hk2:m.kind≠2:=by omega
 generalize laidB m=b at *
 (refine fnS (imm:=imm16) ttK_ok func16 ?_;(conv=>whnf))
 exact wX
theorem c16t {H:PH} {pid xid cid mid:Nat} {n:Int} {k:Nat→UInt8} {u:Int} {c:Cs} {L:List Crd} (hP:Pr H pid xid cid mid n k u c L) (m:Msg) (hm:msgOk m) (hk:m.kind=2) (h0:0≤m.tNonce) (h1:m.tNonce≤1000000) :
  ∃H1,Pr H1 pid xid cid mid m.tNonce (sesF (m.tNonce - 1)) 8 c L∧Evo (·=pid) H H1∧CK prog 16 [.ptr (some (pid,0)),sl (laidB m)] H fun r H'=>r=.tup []∧H'=H1:=by
 obtain ⟨v,hp⟩:=hP.p
 have hlt:=(zq1.1 hp).1
 have k22:=c22m hm
 have e1:=((Xt.refl H).app [z63o]).set (zqn _) (⟨63,m.d.cells,1⟩:PObj)
 have g0:=gL H z63o
 have g1:((H++[z63o]).set H.length (⟨63,m.d.cells,1⟩:PObj))[H.length]? = some ⟨63,m.d.cells,1⟩:=gS g0
 have hp1:=e1.get hp
 have hP1:=hP.stay (Evo.xt e1)
 obtain ⟨hP2,e2⟩:=hP1.put m.tNonce k u (v+1)
 have hp2:(((H++[z63o]).set H.length (⟨63,m.d.cells,1⟩:PObj)).set pid (pairO cid xid m.tNonce k u (v+1)))[pid]? = some (pairO cid xid m.tNonce k u (v+1)):=gS hp1
 have g2:(((H++[z63o]).set H.length (⟨63,m.d.cells,1⟩:PObj)).set pid (pairO cid xid m.tNonce k u (v+1)))[H.length]? = some ⟨63,m.d.cells,1⟩:=by rw [zqj (by omega)];exact g1
 obtain ⟨hP3,e3⟩:=hP2.put m.tNonce (sesF (m.tNonce - 1)) u (v+2)
 have hp3:((((H++[z63o]).set H.length (⟨63,m.d.cells,1⟩:PObj)).set pid (pairO cid xid m.tNonce k u (v+1))).set pid (pairO cid xid m.tNonce (sesF (m.tNonce - 1)) u (v+2)))[pid]? = some (pairO cid xid m.tNonce (sesF (m.tNonce - 1)) u (v+2)):=gS hp2
 obtain ⟨hP4,e4⟩:=hP3.put m.tNonce (sesF (m.tNonce - 1)) 8 (v+3)
 have g4:(((((H++[z63o]).set H.length (⟨63,m.d.cells,1⟩:PObj)).set pid (pairO cid xid m.tNonce k u (v+1))).set pid (pairO cid xid m.tNonce (sesF (m.tNonce - 1)) u (v+2))).set pid (pairO cid xid m.tNonce (sesF (m.tNonce - 1)) 8 (v+3)))[H.length]? = some ⟨63,m.d.cells,1⟩:=by rw [zqj (by omega),zqj (by omega)];exact g2
 refine ⟨_,hP4,(((Evo.xt e1).trans e2).trans e3).trans e4,?_⟩
 clear e4 e3 e2 hP4 hP3 hP2 hP1 e1 hP
 have hk1:m.kind≠1:=by omega
 have hw:IntKind.i64.wrap (m.tNonce - 1)=m.tNonce - 1:=w64 (by omega) (by omega)
 have k26:=c26 (m.tNonce - 1)
 rw [←hw] at k26
 rw [show sesF (m.tNonce - 1)=sesF (IntKind.i64.wrap (m.tNonce - 1)) by rw [hw]] at *
 generalize laidB m=b at *
 (refine fnS (imm:=imm16) ttK_ok func16 ?_;(conv=>whnf))
 exact wX
/-! What is answered. -/
theorem rptL_784 {p:Rpt} (h:isRptB p=true):(rptL p).length≤784:=by
 have h0:=rpt_len p
 unfold isRptB at h
 simp only [zqb] at h
 have gp:=princ_len h.1.1
 omega
theorem eBRpt_784 (p:Rpt):(eBRpt p).length≤784:=by
 unfold eBRpt
 split
 ·rename_i h;exact rptL_784 (by first | exact h | exact h.1)
 ·exact Nat.zero_le _
def D18a (b:Nat):Draw:={ imp:=[7],robs:=[z36o],res:=[(6,0)],base:=b }
def D18b (b:Nat):Draw:={ imp:=[7],robs:=[z36o],res:=[(5,0)],base:=b }
theorem c18_0 {H:PH} {pid xid cid:Nat} {n:Int} {k:Nat→UInt8} {u:Int} {v:Nat} (hp:H[pid]? = some (pairO cid xid n k u v)) (hu:isUseB u=true) (realm next:List UInt8) (hr1:realm.length≤100000) (hr2:next.length≤100000) 
  (kd nn now:Int) (hm:msgOk (rpM aR aN realm (krb next) 1 [1,2] (sealK (keyB k) u 55 (eBRpt ⟨sesF n,realm,(krb next),0,500,n⟩)))) :
  CK prog 18 [.ptr (some (pid,0)),.agg [.int .i64 kd,.int .i64 0,.str realm,.str next,.int .i64 nn,.slice 0 [] (some 5),.int .i64 now]] H fun x H'=>x=sl (laidB (rpM aR aN realm (krb next) 1 [1,2] (sealK (keyB k) u 55 (eBRpt ⟨sesF n,realm,(krb next),0,500,n⟩))))∧H'=H:=by
 refine (CK.gc (Q:=fun x H'=>x=sl (laidB (rpM aR aN realm (krb next) 1 [1,2] (sealK (keyB k) u 55 (eBRpt ⟨sesF n,realm,(krb next),0,500,n⟩))))∧Xt H H') ?_ (fun r H' h=>⟨(by rw [h.1];exact oldPs_bytes _),h.2⟩)).mono (fun x H' h=>⟨h.2.choose_spec.1,h.1⟩)
 have k49:=c49 next (by omega)
 have k15:=c15
 have k25:=c25
 have k26:=c26 n
 have hkl:(krb next).length≤200000:=by show (krbB++next).length≤_;rw [zqf];show 7+next.length≤_;omega
 have k50:=c50s ⟨sesF n,realm,(krb next),0,500,n⟩ (by first | (show realm.length≤_;omega) | (show sR.length≤_;decide)) (by first | (show (krb next).length≤_;omega) | (show mN.length≤_;decide))
 have k51:Pure prog 51 [.agg (keyC k),.int .i64 u,.int .i64 55,sl (eBRpt ⟨sesF n,realm,(krb next),0,500,n⟩)] (.tup [ow (sealK (keyB k) u 55 (eBRpt ⟨sesF n,realm,(krb next),0,500,n⟩)),.int .i64 0]):=c51 (keyB k) (keyB_len k) u 55 hu (by decide) (by decide) _ (eBRpt_784 _)
 have k24:=c24 (rpM aR aN realm (krb next) 1 [1,2] (sealK (keyB k) u 55 (eBRpt ⟨sesF n,realm,(krb next),0,500,n⟩))) hm.2.2
 rw [encV_yes ⟨hm.1,hm.2.1⟩] at k24
 generalize eERpt ⟨sesF n,realm,(krb next),0,500,n⟩=er at *
 generalize eBRpt ⟨sesF n,realm,(krb next),0,500,n⟩=rb at *
 generalize sealK (keyB k) u 55 rb=sb at *
 have eX:Xt H ((H++[z36o]).set H.length (⟨36,[.str realm,.str (krb next)],1⟩:PObj)):=((Xt.refl H).app [z36o]).set (zqn _) (⟨36,[.str realm,.str (krb next)],1⟩:PObj)
 have g0:=gL H z36o
 have g1:((H++[z36o]).set H.length (⟨36,[.str realm,.str (krb next)],1⟩:PObj))[H.length]? = some (⟨36,[.str realm,.str (krb next)],1⟩:PObj):=gS g0
 have hlx:H.length<((H++[z36o]).set H.length (⟨36,[.str realm,.str (krb next)],1⟩:PObj)).length:=by simp
 obtain ⟨X,hX⟩:∃X,((H++[z36o]).set H.length (⟨36,[.str realm,.str (krb next)],1⟩:PObj))=X:=⟨_,rfl⟩
 rw [hX] at g1 hlx eX
 have f0:=gL X z36o
 have f1:((X++[z36o]).set X.length (⟨36,[.str aR,.str aN],1⟩:PObj))[X.length]? = some (⟨36,[.str aR,.str aN],1⟩:PObj):=gS f0
 have h1:((X++[z36o]).set X.length (⟨36,[.str aR,.str aN],1⟩:PObj))[H.length]? = some (⟨36,[.str realm,.str (krb next)],1⟩:PObj):=by rw [zqj (by omega),zq2 hlx];exact g1
 have eY:Xt H ((X++[z36o]).set X.length (⟨36,[.str aR,.str aN],1⟩:PObj)):=(eX.app [z36o]).set (by omega) (⟨36,[.str aR,.str aN],1⟩:PObj)
 have pX:=eX.get hp
 have pX0:=(eX.app [z36o]).get hp
 have pY:=eY.get hp
 (refine fnS (imm:=imm18) ttK_ok func18 ?_;(conv=>whnf))
 refine drawK_of3 (D18a H.length) [(H++[z36o]),((H++[z36o]).set H.length (⟨36,[.str realm,.str (krb next)],1⟩:PObj))] _ (by kernel_rfl) ⟨rfl,rfl⟩ trivial rfl ?_
 conv=>whnf
 repeat (first | (first | ((first | (apply exA;(focus exact oN)) | refine bT ?_ | refine bF ?_ | refine bW (bT ?_) | refine bW (bF ?_) | (apply cP;(focus assumption)) | (apply cE;(focus assumption)) | refine ⟨by first | decide | omega,?_⟩);((conv=>whnf))) | ((conv in (_[_]?)=>tactic=>first | exact oL | exact gS (by assumption));(conv=>whnf))) | (refine dX ?_;(conv=>whnf)))
 refine drawK_at hX ?_
 refine drawK_of3 (D18b X.length) [X++[z36o],((X++[z36o]).set X.length (⟨36,[.str aR,.str aN],1⟩:PObj))] _ (by kernel_rfl) ⟨rfl,rfl⟩ trivial rfl ?_
 conv=>whnf
 repeat (first | (first | ((first | (apply exA;(focus exact oN)) | refine bT ?_ | refine bF ?_ | refine bW (bT ?_) | refine bW (bF ?_) | (apply cP;(focus assumption)) | (apply cE;(focus assumption)) | refine ⟨by first | decide | omega,?_⟩);((conv=>whnf))) | ((conv in (_[_]?)=>tactic=>first | exact oL | exact gS (by assumption));(conv=>whnf))) | (refine dX ?_;(conv=>whnf)))
 refine dP2 (by kernel_rfl) ?_
 conv=>whnf
 repeat (first | (first | ((first | (apply exA;(focus exact oN)) | refine bT ?_ | refine bF ?_ | refine bW (bT ?_) | refine bW (bF ?_) | (apply cP;(focus assumption)) | (apply cE;(focus assumption)) | refine ⟨by first | decide | omega,?_⟩);((conv=>whnf))) | ((conv in (_[_]?)=>tactic=>first | exact oL | exact gS (by assumption));(conv=>whnf))) | (refine dX ?_;(conv=>whnf)))
 refine dP2 (by kernel_rfl) ?_
 conv=>whnf
 repeat (first | (first | ((first | (apply exA;(focus exact oN)) | refine bT ?_ | refine bF ?_ | refine bW (bT ?_) | refine bW (bF ?_) | (apply cP;(focus assumption)) | (apply cE;(focus assumption)) | refine ⟨by first | decide | omega,?_⟩);((conv=>whnf))) | ((conv in (_[_]?)=>tactic=>first | exact oL | exact gS (by assumption));(conv=>whnf))) | (refine dX ?_;(conv=>whnf)))
 exact ⟨rfl,eY⟩
theorem c18_1 {H:PH} {pid xid cid:Nat} {n:Int} {k:Nat→UInt8} {u:Int} {v:Nat} (hp:H[pid]? = some (pairO cid xid n k u v)) (hu:isUseB u=true) (realm next:List UInt8) (hr1:realm.length≤100000) (hr2:next.length≤100000) 
  (kd nn now:Int) (hm:msgOk (rpM aR aN sR mN 1 [1,2] (sealK (keyB k) u 55 (eBRpt ⟨sesF n,sR,mN,0,500,n⟩)))) :
  CK prog 18 [.ptr (some (pid,0)),.agg [.int .i64 kd,.int .i64 1,.str realm,.str next,.int .i64 nn,.slice 0 [] (some 5),.int .i64 now]] H fun x H'=>x=sl (laidB (rpM aR aN sR mN 1 [1,2] (sealK (keyB k) u 55 (eBRpt ⟨sesF n,sR,mN,0,500,n⟩))))∧H'=H:=by
 refine (CK.gc (Q:=fun x H'=>x=sl (laidB (rpM aR aN sR mN 1 [1,2] (sealK (keyB k) u 55 (eBRpt ⟨sesF n,sR,mN,0,500,n⟩))))∧Xt H H') ?_ (fun r H' h=>⟨(by rw [h.1];exact oldPs_bytes _),h.2⟩)).mono (fun x H' h=>⟨h.2.choose_spec.1,h.1⟩)
 have k49:=c49 next (by omega)
 have k15:=c15
 have k25:=c25
 have k26:=c26 n
 have hkl:(krb next).length≤200000:=by show (krbB++next).length≤_;rw [zqf];show 7+next.length≤_;omega
 have k50:=c50s ⟨sesF n,sR,mN,0,500,n⟩ (by first | (show realm.length≤_;omega) | (show sR.length≤_;decide)) (by first | (show (krb next).length≤_;omega) | (show mN.length≤_;decide))
 have k51:Pure prog 51 [.agg (keyC k),.int .i64 u,.int .i64 55,sl (eBRpt ⟨sesF n,sR,mN,0,500,n⟩)] (.tup [ow (sealK (keyB k) u 55 (eBRpt ⟨sesF n,sR,mN,0,500,n⟩)),.int .i64 0]):=c51 (keyB k) (keyB_len k) u 55 hu (by decide) (by decide) _ (eBRpt_784 _)
 have k24:=c24 (rpM aR aN sR mN 1 [1,2] (sealK (keyB k) u 55 (eBRpt ⟨sesF n,sR,mN,0,500,n⟩))) hm.2.2
 rw [encV_yes ⟨hm.1,hm.2.1⟩] at k24
 generalize eERpt ⟨sesF n,sR,mN,0,500,n⟩=er at *
 generalize eBRpt ⟨sesF n,sR,mN,0,500,n⟩=rb at *
 generalize sealK (keyB k) u 55 rb=sb at *
 have eX:Xt H (((H++[z36o]).set H.length (⟨36,[.str realm,.str (krb next)],1⟩:PObj)).set H.length (⟨36,[.str sR,.str mN],2⟩:PObj)):=(((Xt.refl H).app [z36o]).set (zqn _) (⟨36,[.str realm,.str (krb next)],1⟩:PObj)).set (zqn _) (⟨36,[.str sR,.str mN],2⟩:PObj)
 have g0:=gL H z36o
 have g1:((H++[z36o]).set H.length (⟨36,[.str realm,.str (krb next)],1⟩:PObj))[H.length]? = some (⟨36,[.str realm,.str (krb next)],1⟩:PObj):=gS g0
 have g2:(((H++[z36o]).set H.length (⟨36,[.str realm,.str (krb next)],1⟩:PObj)).set H.length (⟨36,[.str sR,.str mN],2⟩:PObj))[H.length]? = some (⟨36,[.str sR,.str mN],2⟩:PObj):=gS g1
 have hlx:H.length<(((H++[z36o]).set H.length (⟨36,[.str realm,.str (krb next)],1⟩:PObj)).set H.length (⟨36,[.str sR,.str mN],2⟩:PObj)).length:=by simp
 obtain ⟨X,hX⟩:∃X,(((H++[z36o]).set H.length (⟨36,[.str realm,.str (krb next)],1⟩:PObj)).set H.length (⟨36,[.str sR,.str mN],2⟩:PObj))=X:=⟨_,rfl⟩
 rw [hX] at g2 hlx eX
 have f0:=gL X z36o
 have f1:((X++[z36o]).set X.length (⟨36,[.str aR,.str aN],1⟩:PObj))[X.length]? = some (⟨36,[.str aR,.str aN],1⟩:PObj):=gS f0
 have h1:((X++[z36o]).set X.length (⟨36,[.str aR,.str aN],1⟩:PObj))[H.length]? = some (⟨36,[.str sR,.str mN],2⟩:PObj):=by rw [zqj (by omega),zq2 hlx];exact g2
 have eY:Xt H ((X++[z36o]).set X.length (⟨36,[.str aR,.str aN],1⟩:PObj)):=(eX.app [z36o]).set (by omega) (⟨36,[.str aR,.str aN],1⟩:PObj)
 have pX:=eX.get hp
 have pX0:=(eX.app [z36o]).get hp
 have pY:=eY.get hp
 (refine fnS (imm:=imm18) ttK_ok func18 ?_;(conv=>whnf))
 refine drawK_of3 (D18a H.length) [(H++[z36o]),((H++[z36o]).set H.length (⟨36,[.str realm,.str (krb next)],1⟩:PObj))] _ (by kernel_rfl) ⟨rfl,rfl⟩ trivial rfl ?_
 conv=>whnf
 repeat (first | (first | ((first | (apply exA;(focus exact oN)) | refine bT ?_ | refine bF ?_ | refine bW (bT ?_) | refine bW (bF ?_) | (apply cP;(focus assumption)) | (apply cE;(focus assumption)) | refine ⟨by first | decide | omega,?_⟩);((conv=>whnf))) | ((conv in (_[_]?)=>tactic=>first | exact oL | exact gS (by assumption));(conv=>whnf))) | (refine dX ?_;(conv=>whnf)))
 refine drawK_at hX ?_
 refine drawK_of3 (D18b X.length) [X++[z36o],((X++[z36o]).set X.length (⟨36,[.str aR,.str aN],1⟩:PObj))] _ (by kernel_rfl) ⟨rfl,rfl⟩ trivial rfl ?_
 conv=>whnf
 repeat (first | (first | ((first | (apply exA;(focus exact oN)) | refine bT ?_ | refine bF ?_ | refine bW (bT ?_) | refine bW (bF ?_) | (apply cP;(focus assumption)) | (apply cE;(focus assumption)) | refine ⟨by first | decide | omega,?_⟩);((conv=>whnf))) | ((conv in (_[_]?)=>tactic=>first | exact oL | exact gS (by assumption));(conv=>whnf))) | (refine dX ?_;(conv=>whnf)))
 refine dP2 (by kernel_rfl) ?_
 conv=>whnf
 repeat (first | (first | ((first | (apply exA;(focus exact oN)) | refine bT ?_ | refine bF ?_ | refine bW (bT ?_) | refine bW (bF ?_) | (apply cP;(focus assumption)) | (apply cE;(focus assumption)) | refine ⟨by first | decide | omega,?_⟩);((conv=>whnf))) | ((conv in (_[_]?)=>tactic=>first | exact oL | exact gS (by assumption));(conv=>whnf))) | (refine dX ?_;(conv=>whnf)))
 refine dP2 (by kernel_rfl) ?_
 conv=>whnf
 repeat (first | (first | ((first | (apply exA;(focus exact oN)) | refine bT ?_ | refine bF ?_ | refine bW (bT ?_) | refine bW (bF ?_) | (apply cP;(focus assumption)) | (apply cE;(focus assumption)) | refine ⟨by first | decide | omega,?_⟩);((conv=>whnf))) | ((conv in (_[_]?)=>tactic=>first | exact oL | exact gS (by assumption));(conv=>whnf))) | (refine dX ?_;(conv=>whnf)))
 exact ⟨rfl,eY⟩
def okey (u:Int):Prop:=u=3∨u=8
structure Out (H:PH) (pid xid cid mid:Nat) (n:Int) (k:Nat→UInt8) (u:Int) (c:Cs) (l:List (List UInt8)) (L:List Crd):Prop where
 pr:Pr H pid xid cid mid n k u c L
 box:∃bid,c.ob=.ptr (some (bid,0))∧BoxAt H bid (keyB k)
 st:c.st=1
 hr:c.r=aR
 hn:c.n=aN
 tr:c.tr=sR
 tn:c.tn=mN
 on:c.on=n
 nn:c.nn=n
 ou:c.ou=u
 hu:okey u
 vis:c.vis=visP l
 n0:0≤n
 n1:n≤1000
 se0:0≤c.se
 se1:c.se≤1000
 sn0:0≤c.sn
 sn1:c.sn≤1000
 L:∀y∈L,y.en=500∧y.b=[1,2]
theorem okey.use {u:Int} (h:okey u):isUseB u=true:=by rcases h with rfl | rfl <;> rfl
theorem Out.stay {H H':PH} {pid xid cid mid:Nat} {n:Int} {k:Nat→UInt8} {u:Int} {c:Cs} {l:List (List UInt8)} {L:List Crd} (o:Out H pid xid cid mid n k u c l L) (e:Evo (fun _=>False) H H'):Out H' pid xid cid mid n k u c l L :=
 { o with pr:=o.pr.stay e,box:=by obtain ⟨b,h1,h2⟩:=o.box;exact ⟨b,h1,e.box _ _ h2⟩ }
def C1 (ca bid:Nat) (q:Int):Cs:=⟨aR,aN,k9,ca,q,0,0,1,0,1,sR,mN,.nilS,q,.ptr (some (bid,0)),3,true⟩
theorem prAnn:isPrincB aR aN=true:=user_princ uAnn
theorem prMail:isPrincB sR mN=true:=user_princ uMail
theorem prTgt:isPrincB aR (krb aR)=true:=prKrb rA rA
def m1 (now q:Int):Msg:=asM aR aN (tillI now) q
theorem m1Ok {now q:Int} (h0:0≤now) (h1:0≤q) (h2:q≤1000):msgOk (m1 now q):=asOk prAnn prTgt (tillZ h0) (inZ_of h1 (by omega))
theorem chase1 {H:PH} {pid xid cid mid ca:Nat} (hP:Pr H pid xid cid mid 0 k9 3 (cli0 aR aN k9 ca) []) (now:Int) (h0:0≤now) (h1:now≤1073741824) :
  ∃H1 bid,BoxAt H1 bid (keyB k9)∧Pr H1 pid xid cid mid 0 k9 3 (C1 ca bid 1) []∧CK prog 14 [.ptr (some (cid,0)),.agg [.str sR,.str mN],.int .i64 now] H fun r H'=>r=.tup [.str aR,sl (laidB (m1 now 1)),.int .i64 0]∧H'=H1:=by
 obtain ⟨H1,bid,hb,hC,e,k⟩:=c14f hP.cl (show (0:Int)≠1 by decide) (show aR.length≤1000000 by decide) sR mN (by decide) (by decide) uMail now h0 h1 (.inl rfl) (msgOk_d (m1Ok (q:=1) h0 (by decide) (by decide))) (Int.le_refl _) (show (0:Int)≤100000 by decide)
 exact ⟨H1,bid,hb,hP.go e hC,k⟩
theorem sent1 {H:PH} {pid xid cid mid ca bid:Nat} (hb:BoxAt H bid (keyB k9)) (hP:Pr H pid xid cid mid 0 k9 3 (C1 ca bid 1) []) (now:Int) (h0:0≤now) :
  ∃H1,Out H1 pid xid cid mid 1 k9 3 (C1 ca bid 1) [] []∧Evo (·=pid) H H1∧CK prog 16 [.ptr (some (pid,0)),sl (laidB (m1 now 1))] H fun r H'=>r=.tup []∧H'=H1:=by
 obtain ⟨H1,hP1,e1,k⟩:=c16a hP (m1 now 1) (m1Ok h0 (by decide) (by decide)) rfl
 exact ⟨H1,⟨hP1,⟨bid,rfl,e1.box _ _ hb⟩,rfl,rfl,rfl,rfl,rfl,rfl,rfl,rfl,(.inl rfl:okey 3),rfl,by decide,by decide,show (0:Int)≤1 by decide,show (1:Int)≤1000 by decide,show (0:Int)≤0 by decide,show (0:Int)≤1000 by decide,fun y h=>by cases h⟩,e1,k⟩
def D21:Draw:={ imp:=[5],win:=[(6,1,1),(7,1,1),(8,1,1),(9,1,1),(10,1,1),(11,1,1),(12,1,1)] }
theorem c21 (H:PH):∃H1,CK prog 21 [] H fun r H'=>r=.bool true∧H'=H1:=by
 obtain ⟨H1,pid,xid,cid,mid,hP,_,k13⟩:=c13 H
 obtain ⟨H2,bid,hb,hP2,k14⟩:=chase1 hP 1 (by decide) (by decide)
 obtain ⟨v,ho⟩:=hP2.cl.o
 obtain ⟨w,hp⟩:=hP.p
 obtain ⟨w2,hp2⟩:=hP2.p
 have k14b:=c14s ho rfl sR mN 1
 have k20:=c20 ho
 have k15:=c15
 have hl:0<(laidB (m1 1 1)).length:=by
  show 0<(wrapB 106 _).length
  simp [wrapB]
 have hl':((0:Int)<((laidB (m1 1 1)).length:Nat)):=by omega
 refine ⟨H2,?_⟩
 clear hP2 hb hP ho
 generalize laidB (m1 1 1)=b at *
 (refine fnS (imm:=imm21) ttK_ok func21 ?_;(conv=>whnf))
 repeat (first | (first | ((first | (apply exA;(focus exact oN)) | refine bT ?_ | refine bF ?_ | refine bW (bT ?_) | refine bW (bF ?_) | (apply cP;(focus assumption)) | (apply cE;(focus assumption)) | refine ⟨by first | decide | omega,?_⟩);((conv=>whnf))) | ((conv in (_[_]?)=>tactic=>first | exact oL | exact gS (by assumption));(conv=>whnf))) | (refine dX ?_;(conv=>whnf)))
 refine drawK_of3 D21 [H1,H2] _ (by kernel_rfl) rfl trivial rfl ?_
 conv=>whnf
 repeat (first | (first | ((first | (apply exA;(focus exact oN)) | refine bT ?_ | refine bF ?_ | refine bW (bT ?_) | refine bW (bF ?_) | (apply cP;(focus assumption)) | (apply cE;(focus assumption)) | refine ⟨by first | decide | omega,?_⟩);((conv=>whnf))) | ((conv in (_[_]?)=>tactic=>first | exact oL | exact gS (by assumption));(conv=>whnf))) | (refine dX ?_;(conv=>whnf)) | (refine dP2 (by kernel_rfl) ?_;(conv=>whnf)))
 exact ⟨rfl,rfl⟩
def ansP (n:Int) (sr sn:List UInt8):Rpt:=⟨sesF n,sr,sn,0,500,n⟩
def ansM (n:Int) (k:Nat→UInt8) (u:Int) (sr sn:List UInt8):Msg:=rpM aR aN sr sn 1 [1,2] (sealK (keyB k) u 55 (eBRpt (ansP n sr sn)))
def ansX (n:Int) (sr sn:List UInt8):Crd:=⟨sr,sn,1,[1,2],sesF n,500⟩
theorem ansP_ok {n:Int} {sr sn:List UInt8} (h0:0≤n) (h1:n≤1000) (h:isPrincB sr sn=true):isRptB (ansP n sr sn)=true:=by
 show (isPrincB sr sn&&(inZ 0 0 1073741824&&inZ 500 0 1073741824)&&inZ n 0 1073741824)=true
 rw [h,inZ_of h0 (by omega)];rfl
theorem tick12 {sr sn:List UInt8} (h:isPrincB sr sn=true):tickB sr sn 1 2=true:=by unfold tickB;rw [h];rfl
theorem ansM_ok {n:Int} {k:Nat→UInt8} {u:Int} {sr sn:List UInt8} (h:isPrincB sr sn=true):msgOk (ansM n k u sr sn) :=
 rpOk prAnn (tick12 h) (by rw [sealK_len];have:=eBRpt_784 (ansP n sr sn);exact inZ_of (by omega) (by omega))
theorem ans_open {n:Int} {k:Nat→UInt8} {u:Int} {sr sn:List UInt8} (h0:0≤n) (h1:n≤1000) (h:isPrincB sr sn=true) :
  openK (keyB k) u (sealK (keyB k) u 55 (eBRpt (ansP n sr sn)))=some (eBRpt (ansP n sr sn))∧Pure prog 89 [sl (eBRpt (ansP n sr sn))] (.tup [.agg (ansP n sr sn).cells,.int .i64 0]):=by
 have hP:=ansP_ok h0 h1 h
 refine ⟨open_seal (keyB k) u 55 _ (by decide) (by decide) (eBRpt_784 _),?_⟩
 have k89:=c89s (rptL (ansP n sr sn)) (by have:=rptL_784 hP;omega)
 rw [(backRpt hP).1,(backRpt hP).2] at k89
 rw [(ebRpt hP).1]
 exact k89
theorem got1 {H:PH} {pid xid cid mid:Nat} {n:Int} {k:Nat→UInt8} {u:Int} {c:Cs} {l:List (List UInt8)} {L:List Crd} (o:Out H pid xid cid mid n k u c l L) {sr sn:List UInt8} (h:isPrincB sr sn=true) :
  ∀X,Evo (fun _=>False) H X→CK prog 46 [.ptr (some (cid,0)),.agg (ansM n k u sr sn).repI.cells] X fun r H'=>r=.tup [.agg [.str sr,.str sn],.agg (ansX n sr sn).cells,.bool true]∧Evo (fun _=>False) X H':=by
 intro X e
 have o1:=o.stay e
 obtain ⟨v,ho⟩:=o1.pr.cl.o
 obtain ⟨bid,hb1,hb2⟩:=o1.box
 obtain ⟨g1,g2⟩:=ans_open (k:=k) (u:=u) o.n0 o.n1 h
 refine (c46d ho hb1 hb2 (by rw [o.ou];exact o.hu.use) (ansM n k u sr sn).repI o.hr.symm o.hn.symm (by rw [o.ou];exact g1) (ansP n sr sn) 0 g2).mono ?_
 rintro r H' ⟨rfl,h2⟩
 refine ⟨?_,h2⟩
 have hb:(decide ((0:Int)=0)&&decide ((ansP n sr sn).nc=c.on)&&(decide ((ansP n sr sn).r=(ansM n k u sr sn).repI.r3)&&decide ((ansP n sr sn).n=(ansM n k u sr sn).repI.r4)))=true:=by
  rw [o.on,zqe rfl,zqe (show (ansP n sr sn).nc=n from rfl),zqe (show (ansP n sr sn).r=(ansM n k u sr sn).repI.r3 from rfl),zqe (show (ansP n sr sn).n=(ansM n k u sr sn).repI.r4 from rfl)];rfl
 rw [hb];rfl
theorem Out.look {H:PH} {pid xid cid mid:Nat} {n:Int} {k:Nat→UInt8} {u:Int} {c:Cs} {l:List (List UInt8)} {L:List Crd} (o:Out H pid xid cid mid n k u c l L) {now:Int} (h:now≤500):∀y∈L,¬y.en<now:=fun y hy=>by rw [(o.L y hy).1];omega
theorem not_target {r x:List UInt8}:¬(r=sR∧krb x=mN):=fun h=>by
 have:=zqm (fun l:List UInt8=>l.take 1) h.2
 exact absurd this (by show ¬([107]:List UInt8)=[109];decide)
theorem takeF {H:PH} {pid xid cid mid:Nat} {n:Int} {k:Nat→UInt8} {u:Int} {c:Cs} {l:List (List UInt8)} {L:List Crd} (o:Out H pid xid cid mid n k u c l L) {realm next:List UInt8} (h1:isRealmB realm=true) (h2:isRealmB next=true)
  (hf:c.fi=true→realm=aR∧next=aR) (hl:next ∉ l) (h5:l.length≤5) (hL:L.length<10) (now:Int) (hn0:0≤now) (hn1:now≤500) :
  CK prog 17 [.ptr (some (cid,0)),sl (laidB (ansM n k u realm (krb next))),.int .i64 now] H fun r H'=>r=.tup [.str next,sl (laidB (c.furM (ansX n realm (krb next)) now))] ∧
   (∃bid,BoxAt H' bid (keyB (sesF n))∧Pr H' pid xid cid mid n k u (c.fur bid l next) (putL L (ansX n realm (krb next))))∧Evo (Wc cid mid) H H':=by
 have hp:=prKrb h1 h2
 have hm:=ansM_ok (n:=n) (k:=k) (u:=u) hp
 have hnk:(krb next).length≤1000000:=by have:=(princ_len hp).2;omega
 refine (c17r o.pr.cl o.st _ _ (c44m hm) now hn0 (by omega) rfl (ansX n realm (krb next)) (got1 o hp) (o.look hn1) hL (by show (2:Nat)≤_;decide) next (laidB (c.furM (ansX n realm (krb next)) now))
  (fun H'=>∃bid,BoxAt H' bid (keyB (sesF n))∧Cl H' cid mid (c.fur bid l next) (putL L (ansX n realm (krb next)))) (fun X e hX=>?_)).mono (fun r H' ⟨q1,⟨bid,q2,q3⟩,q4⟩=>⟨q1,⟨bid,q2,o.pr.go q4 q3⟩,q4⟩)
 have ha:=autA (seq:=0) (show isPrincB c.r c.n=true by rw [o.hr,o.hn];exact prAnn) hn0 (by omega) (Int.le_refl _) (by decide)
 obtain ⟨H1,bid,g1,g2,g3,g4⟩:=c48f hX (by rw [o.hr];decide) realm (krb next) hnk (ansX n realm (krb next)) now (by rw [o.tr,o.tn];exact not_target) (tgt_krb h2) (fun h=>by rw [o.hr];obtain ⟨q1,q2⟩:=hf h;rw [q1,q2];exact ⟨rfl,rfl⟩) l o.vis hl h5 hn0 (by omega) ha
  (msgOk_d (furOk (tick12 hp) (by rw [o.hr,o.hn];exact prAnn) (by rw [o.tr,o.tn];exact prMail) hn0 (by omega) (by rw [o.nn];exact o.n0) (by rw [o.nn];have:=o.n1;omega))) (by rw [o.nn];exact o.n0) (by rw [o.nn];have:=o.n1;omega) o.se0 (by have:=o.se1;omega) o.sn0 (by have:=o.sn1;omega)
 exact ⟨H1,⟨bid,g1,g2⟩,g3,g4⟩
theorem putL_mem:∀{L:List Crd} {x y:Crd},y∈putL L x→y=x∨y∈L
 | [],x,y,h=>.inl (by simpa [putL] using h)
 | c::L,x,y,h=>by
  unfold putL at h
  split at h
  ·rcases List.mem_cons.1 h with h | h
   ·exact .inl h
   ·exact .inr (List.mem_cons_of_mem _ h)
  ·rcases List.mem_cons.1 h with h | h
   ·exact .inr (h▸List.mem_cons_self)
   ·rcases putL_mem h with h | h
    ·exact .inl h
    ·exact .inr (List.mem_cons_of_mem _ h)
theorem sentF {H0:PH} {pid xid cid mid:Nat} {n:Int} {k:Nat→UInt8} {u:Int} {c:Cs} {l:List (List UInt8)} {L:List Crd} (o:Out H0 pid xid cid mid n k u c l L) {realm next:List UInt8} (h1:isRealmB realm=true) (h2:isRealmB next=true) (now:Int) (hn0:0≤now) (hn1:now≤500)
  (b1:n+1≤1000) (b2:c.se+1≤1000) (b3:c.sn+1≤1000) {H:PH} {bid:Nat} (hb:BoxAt H bid (keyB (sesF n))) (hP:Pr H pid xid cid mid n k u (c.fur bid l next) (putL L (ansX n realm (krb next)))) :
  ∃H1,Out H1 pid xid cid mid (n+1) (sesF n) 8 (c.fur bid l next) (l++[next]) (putL L (ansX n realm (krb next)))∧Evo (·=pid) H H1∧CK prog 16 [.ptr (some (pid,0)),sl (laidB (c.furM (ansX n realm (krb next)) now))] H fun r H'=>r=.tup []∧H'=H1:=by
 have hp:=prKrb h1 h2
 have n0:=o.n0
 have hm:msgOk (c.furM (ansX n realm (krb next)) now):=furOk (tick12 hp) (by rw [o.hr,o.hn];exact prAnn) (by rw [o.tr,o.tn];exact prMail) hn0 (by omega) (by rw [o.nn];exact o.n0) (by rw [o.nn];omega)
 have hnc:(c.furM (ansX n realm (krb next)) now).tNonce=n+1:=by show c.nn+1=n+1;rw [o.nn]
 obtain ⟨H1,hP1,e1,k16⟩:=c16t hP (c.furM (ansX n realm (krb next)) now) hm rfl (by rw [hnc];omega) (by rw [hnc];omega)
 rw [hnc,show n+1 - 1=n by omega] at hP1
 refine ⟨H1,⟨hP1,⟨bid,rfl,e1.box _ _ hb⟩,o.st,o.hr,o.hn,o.tr,o.tn,?_,?_,rfl,.inr rfl,rfl,by omega,b1,?_,b2,?_,b3,fun y hy=>?_⟩,e1,k16⟩
 ·show c.nn+1=n+1;rw [o.nn]
 ·show c.nn+1=n+1;rw [o.nn]
 ·show 0≤c.se+1;have:=o.se0;omega
 ·show 0≤c.sn+1;have:=o.sn0;omega
 ·rcases putL_mem hy with rfl | hy
  ·exact ⟨rfl,rfl⟩
  ·exact o.L y hy
section
variable {H : PH} {pid xid cid mid : Nat} {n : Int} {k : Nat → UInt8} {u : Int} {c : Cs} {l : List (List UInt8)} {L : List Crd}
theorem takeT (o:Out H pid xid cid mid n k u c l L) (hL:L.length<10) (now:Int) (hn0:0≤now) (hn1:now≤500) :
  CK prog 17 [.ptr (some (cid,0)),sl (laidB (ansM n k u sR mN)),.int .i64 now] H fun r H'=>r=.tup [.str [],.slice 0 [] (some 5)]∧Pr H' pid xid cid mid n k u { c with st:=2 } (putL L (ansX n sR mN))∧Evo (Wc cid mid) H H':=by
 have hm:=ansM_ok (n:=n) (k:=k) (u:=u) prMail
 exact (c17s o.pr.cl o.st _ _ (c44m hm) now hn0 (by omega) rfl (ansX n sR mN) (got1 o prMail) (o.look hn1) hL (by show (2:Nat)≤_;decide) []
  (fun H'=>Cl H' cid mid { c with st:=2 } (putL L (ansX n sR mN))) (fun X e hX=>by
   obtain ⟨H1,g1,g2,g3⟩:=c48t hX sR mN (ansX n sR mN) now ⟨o.tr.symm,o.tn.symm⟩
   exact ⟨H1,g1,g2.c,g3⟩)).mono (fun r H' ⟨q1,q2,q3⟩=>⟨q1,o.pr.go q3 q2,q3⟩)
theorem takeL (o:Out H pid xid cid mid n k u c l L) {realm next:List UInt8} (h1:isRealmB realm=true) (h2:isRealmB next=true)
  (hf:c.fi=true→realm=aR∧next=aR) (hl:next∈l) (hll:l.length≤1000000) (hL:L.length<10) (now:Int) (hn0:0≤now) (hn1:now≤500) :
  CK prog 17 [.ptr (some (cid,0)),sl (laidB (ansM n k u realm (krb next))),.int .i64 now] H fun r H'=>r=.tup [.str [],.slice 0 [] (some 5)]∧Pr H' pid xid cid mid n k u { c with st:=3,er:=14 } (putL L (ansX n realm (krb next))):=by
 have hp:=prKrb h1 h2
 have hm:=ansM_ok (n:=n) (k:=k) (u:=u) hp
 have hnk:(krb next).length≤1000000:=by have:=(princ_len hp).2;omega
 exact (c17s o.pr.cl o.st _ _ (c44m hm) now hn0 (by omega) rfl (ansX n realm (krb next)) (got1 o hp) (o.look hn1) hL (by show (2:Nat)≤_;decide) []
  (fun H'=>Cl H' cid mid { c with st:=3,er:=14 } (putL L (ansX n realm (krb next)))) (fun X e hX=>by
   obtain ⟨H1,g1,g2,g3⟩:=c48l hX (by rw [o.hr];decide) realm (krb next) hnk (ansX n realm (krb next)) now (by rw [o.tr,o.tn];exact not_target) (tgt_krb h2) (fun h=>by rw [o.hr];obtain ⟨q1,q2⟩:=hf h;rw [q1,q2];exact ⟨rfl,rfl⟩) l o.vis hl hll
   exact ⟨H1,g1,g2.c,g3⟩)).mono (fun r H' ⟨q1,q2,q3⟩=>⟨q1,o.pr.go q3 q2⟩)
theorem takeH (o:Out H pid xid cid mid n k u c l L) {realm next:List UInt8} (h1:isRealmB realm=true) (h2:isRealmB next=true)
  (hf:c.fi=true→realm=aR∧next=aR) (hl:next ∉ l) (hll:l.length≤1000000) (h5:5<l.length) (hL:L.length<10) (now:Int) (hn0:0≤now) (hn1:now≤500) :
  CK prog 17 [.ptr (some (cid,0)),sl (laidB (ansM n k u realm (krb next))),.int .i64 now] H fun r H'=>r=.tup [.str [],.slice 0 [] (some 5)]∧Pr H' pid xid cid mid n k u { c with st:=3,er:=15 } (putL L (ansX n realm (krb next))):=by
 have hp:=prKrb h1 h2
 have hm:=ansM_ok (n:=n) (k:=k) (u:=u) hp
 have hnk:(krb next).length≤1000000:=by have:=(princ_len hp).2;omega
 exact (c17s o.pr.cl o.st _ _ (c44m hm) now hn0 (by omega) rfl (ansX n realm (krb next)) (got1 o hp) (o.look hn1) hL (by show (2:Nat)≤_;decide) []
  (fun H'=>Cl H' cid mid { c with st:=3,er:=15 } (putL L (ansX n realm (krb next)))) (fun X e hX=>by
   obtain ⟨H1,g1,g2,g3⟩:=c48h hX (by rw [o.hr];decide) realm (krb next) hnk (ansX n realm (krb next)) now (by rw [o.tr,o.tn];exact not_target) (tgt_krb h2) (fun h=>by rw [o.hr];obtain ⟨q1,q2⟩:=hf h;rw [q1,q2];exact ⟨rfl,rfl⟩) l o.vis hl hll h5
   exact ⟨H1,g1,g2.c,g3⟩)).mono (fun r H' ⟨q1,q2,q3⟩=>⟨q1,o.pr.go q3 q2⟩)
end
open Go.Proofs.YtldfjimgfnjdjaaGreatDoor (rows_ints bytes_of)
open Go Ps
def ttF:TT:=[(3,⟨.int .i64,1,8,[.int .i64 0]⟩),(4,⟨.bool,1,1,[.bool false]⟩),(5,⟨.int .u8,1,1,[.int .u8 0]⟩),(9,⟨.str,1,16,[.str []]⟩),(22,⟨.slice 9,1,24,[.slice 0 [] (some 9)]⟩),(23,⟨.ptr,1,8,[.ptr none]⟩),(25,⟨.slice 5,1,24,[.slice 0 [] (some 5)]⟩),(26,⟨.int .i64,1,8,[.int .i64 0]⟩),(28,⟨.ptr,1,8,[.ptr none]⟩),(29,⟨.ptr,1,8,[.ptr none]⟩),(31,⟨.arr 32 5,32,32,List.replicate 32 (.int .u8 0)⟩),(33,⟨.strct [(28,0),(29,1),(3,2),(31,3),(3,35)],36,64,[.ptr none,.ptr none,.int .i64 0]++List.replicate 32 (.int .u8 0)++[.int .i64 0]⟩),(36,⟨.strct [(9,0),(9,1)],2,32,[.str [],.str []]⟩),(43,⟨.strct [(3,0),(3,1),(9,2),(9,3),(3,4),(25,5),(3,6)],7,88,[.int .i64 0,.int .i64 0,.str [],.str [],.int .i64 0,.slice 0 [] (some 5),.int .i64 0]⟩),(51,⟨.strct [(36,0),(36,2),(3,4),(3,5)],6,80,[.str [],.str [],.str [],.str [],.int .i64 0,.int .i64 0]⟩),(53,⟨.strct [(36,0),(3,2),(25,3)],4,64,[.str [],.str [],.int .i64 0,.slice 0 [] (some 5)]⟩),(55,⟨.strct [(53,0),(25,4),(36,5),(3,7),(3,8)],9,136,[.str [],.str [],.int .i64 0,.slice 0 [] (some 5),.slice 0 [] (some 5),.str [],.str [],.int .i64 0,.int .i64 0]⟩),(57,⟨.strct [(36,0),(53,2),(25,6)],7,120,[.str [],.str [],.str [],.str [],.int .i64 0,.slice 0 [] (some 5),.slice 0 [] (some 5)]⟩),(59,⟨.strct [(53,0),(25,4)],5,88,[.str [],.str [],.int .i64 0,.slice 0 [] (some 5),.slice 0 [] (some 5)]⟩),(61,⟨.strct [(26,0),(3,1)],2,16,[.int .i64 0,.int .i64 0]⟩),(63,⟨.strct [(3,0),(51,1),(55,7),(57,16),(59,23),(61,28)],30,448,[.int .i64 0,.str [],.str [],.str [],.str [],.int .i64 0,.int .i64 0,.str [],.str [],.int .i64 0,.slice 0 [] (some 5),.slice 0 [] (some 5),.str [],.str [],.int .i64 0,.int .i64 0,.str [],.str [],.str [],.str [],.int .i64 0,.slice 0 [] (some 5),.slice 0 [] (some 5),.str [],.str [],.int .i64 0,.slice 0 [] (some 5),.slice 0 [] (some 5),.int .i64 0,.int .i64 0]⟩),(73,⟨.strct [(36,0),(3,2),(3,3)],4,48,[.str [],.str [],.int .i64 0,.int .i64 0]⟩),(83,⟨.strct [(53,0),(31,4),(3,36)],37,104,[.str [],.str [],.int .i64 0,.slice 0 [] (some 5)]++List.replicate 32 (.int .u8 0)++[.int .i64 0]⟩)]
theorem ttF_ok:ttOk prog ttF=true:=by kernel_rfl
def imm4:List Nat:=[]
def Dbeg:Draw:={ imp:=[5],win:=[(6,1,1),(7,1,1),(8,1,1),(9,1,1),(10,1,1),(11,1,1),(12,1,1)] }
theorem start (H:PH) (now:Int) (h0:0≤now) (h1:now≤1073741824):∃H1 H2 H3 pid xid cid mid ca bid w w2,CK prog 13 [] H (fun r H'=>r=.ptr (some (pid,0))∧H'=H1)∧H1[pid]? = some (pairO cid xid 0 k9 3 w) ∧
  CK prog 14 [.ptr (some (cid,0)),.agg [.str sR,.str mN],.int .i64 now] H1 (fun r H'=>r=.tup [.str aR,sl (laidB (m1 now 1)),.int .i64 0]∧H'=H2)∧H2[pid]? = some (pairO cid xid 0 k9 3 w2) ∧
  CK prog 16 [.ptr (some (pid,0)),sl (laidB (m1 now 1))] H2 (fun r H'=>r=.tup []∧H'=H3)∧Out H3 pid xid cid mid 1 k9 3 (C1 ca bid 1) [] []:=by
 obtain ⟨H1,pid,xid,cid,mid,hP,_,k13⟩:=c13 H
 obtain ⟨w,hp⟩:=hP.p
 obtain ⟨H2,bid,hb,hP2,k14⟩:=chase1 hP now h0 h1
 obtain ⟨w2,hp2⟩:=hP2.p
 obtain ⟨H3,o,_,k16⟩:=sent1 hb hP2 now h0
 exact ⟨H1,H2,H3,pid,xid,cid,mid,mid+1,bid,w,w2,k13,hp,k14,hp2,k16,o⟩
def rI (i:Nat):List UInt8:=[UInt8.ofNat (65+i)]
def rIs (i:Nat):List (List UInt8):=(List.range i).map rI
def allC:List PV:=[.str [65],.str [66],.str [67],.str [68],.str [69],.str [70],.str [71]]
theorem rI_ok:∀i,i<7→isRealmB (rI i)=true:=by
 intro i hi
 match i,hi with
 | 0,_=>exact (by kernel_rfl:isRealmB (rI 0)=true)
 | 1,_=>exact (by kernel_rfl:isRealmB (rI 1)=true)
 | 2,_=>exact (by kernel_rfl:isRealmB (rI 2)=true)
 | 3,_=>exact (by kernel_rfl:isRealmB (rI 3)=true)
 | 4,_=>exact (by kernel_rfl:isRealmB (rI 4)=true)
 | 5,_=>exact (by kernel_rfl:isRealmB (rI 5)=true)
 | 6,_=>exact (by kernel_rfl:isRealmB (rI 6)=true)
theorem rI_not:∀i,i<7→rI i ∉ rIs i:=by decide
theorem rI_all:∀i,i<7→allC[i]? = some (.str (rI i)):=by
 intro i hi
 match i,hi with
 | 0,_=>rfl
 | 1,_=>rfl
 | 2,_=>rfl
 | 3,_=>rfl
 | 4,_=>rfl
 | 5,_=>rfl
 | 6,_=>rfl
theorem rIs_succ (i:Nat):rIs i++[rI i]=rIs (i+1):=by unfold rIs;rw [List.range_succ,List.map_append];rfl
theorem rIs_mem {i j:Nat} (h:j<i):rI j∈rIs i:=List.mem_map.2 ⟨j,List.mem_range.2 h,rfl⟩
theorem el1 {i:Nat} (hi:i<7):∀(j:Nat) (c:PV),[PV.str (rI i)][j]? = some c→allC[i*1+j]? = some c:=by
 intro j c h
 match j,h with
 | 0,h=>cases h;rw [Nat.mul_one,Nat.add_zero];exact rI_all i hi
def D4b:Draw:={ imp:=[12],win:=[(13,1,1),(14,1,1),(15,1,1),(16,1,1)] }
def D4c:Draw:={ imp:=[7] }
def D4d:Draw:={ imp:=[15] }
structure LS where
 i:Nat
 H:PH
 k:Nat→UInt8
 u:Int
 c:Cs
 L:List Crd
structure LOk (pid xid cid mid:Nat) (n:Int) (s:LS):Prop where
 i1:(s.i:Int)≤n+1
 i2:s.i≤6
 o:Out s.H pid xid cid mid ((s.i:Int)+1) s.k s.u s.c (rIs s.i) s.L
 L:s.L.length≤s.i
 se:s.c.se=(s.i:Int)+1
 sn:s.c.sn=(s.i:Int)
 er:s.c.er=0
 fi:s.i≠0→s.c.fi=false
theorem c4 (n back:Int) (H:PH):CK prog 4 [.int .i64 n,.int .i64 back] H fun x _=>x=.bool true:=by
 by_cases g1:n<0
 ·(refine fnS (imm:=imm4) ttF_ok func4 ?_;(conv=>whnf))
  exact wR
 by_cases g2:6<n
 ·(refine fnS (imm:=imm4) ttF_ok func4 ?_;(conv=>whnf))
  exact wR
 by_cases g3:back < -1
 ·(refine fnS (imm:=imm4) ttF_ok func4 ?_;(conv=>whnf))
  exact wR
 by_cases g4:n≤back
 ·(refine fnS (imm:=imm4) ttF_ok func4 ?_;(conv=>whnf))
  exact wR
 obtain ⟨H1,H2,H3,pid,xid,cid,mid,ca,bid,w,w2,k13,hp1,k14,hp2,k16,o⟩:=start H 1 (by decide) (by decide)
 have k15:=c15
 generalize laidB (m1 1 1)=b1 at *
 (refine fnS (imm:=imm4) ttF_ok func4 ?_;(conv=>whnf))
 repeat (first | (first | ((first | (apply exA;(focus exact oN)) | refine bT ?_ | refine bF ?_ | refine bW (bT ?_) | refine bW (bF ?_) | (apply cP;(focus assumption)) | (apply cE;(focus assumption)) | refine ⟨by first | decide | omega,?_⟩);((conv=>whnf))) | ((conv in (_[_]?)=>tactic=>first | exact oL | exact gS (by assumption));(conv=>whnf))) | (refine dX ?_;(conv=>whnf)))
 refine drawK_of3 Dbeg [H1,H2] _ (by kernel_rfl) rfl trivial rfl ?_
 conv=>whnf
 repeat (first | (first | ((first | (apply exA;(focus exact oN)) | refine bT ?_ | refine bF ?_ | refine bW (bT ?_) | refine bW (bF ?_) | (apply cP;(focus assumption)) | (apply cE;(focus assumption)) | refine ⟨by first | decide | omega,?_⟩);((conv=>whnf))) | ((conv in (_[_]?)=>tactic=>first | exact oL | exact gS (by assumption));(conv=>whnf))) | (refine dX ?_;(conv=>whnf)))
 refine lO LS (fun s=>[(0,.int .i64 n),(1,.int .i64 back),(5,.ptr (some (pid,0))),(9,.slice 7 allC (some 9)),(10,.int .i64 s.i)]) (fun s=>s.H) (LOk pid xid cid mid n) (fun s=>7 - s.i)
  ⟨⟨0,H3,k9,3,C1 ca bid 1,[]⟩,⟨by show (0:Int)≤n+1;omega,Nat.zero_le _,o,zqn 0,rfl,rfl,rfl,fun h=>absurd rfl h⟩,⟨rfl,rfl,rfl,rfl,rfl,zqv⟩,rfl⟩ ?_
 rintro ⟨i,HS,k,u,c,L⟩ ⟨i1,i2,os,iL,ise,isn,ier,ifi⟩
 simp only at i1 i2 os iL ise isn ier ifi
 obtain ⟨w3,hp3⟩:=os.pr.p
 have hi7:i<7:=by omega
 by_cases hin:(i:Int)≤n
 ·have hnext:=rI_ok i hi7
  have hreal:=rI_ok (i - 1) (by omega)
  have hfirst:c.fi=true→rI (i - 1)=aR∧rI i=aR:=fun h=>by
   have:i=0:=by
    by_cases h0:i=0
    ·exact h0
    ·rw [ifi h0] at h;cases h
   subst this
   exact ⟨rfl,rfl⟩
  have hib:0≤(i:Int)∧(i:Int)<7:=by omega
  have hidx:(max 0 (IntKind.i64.wrap ((i:Int) - 1)))=((i - 1:Nat):Int):=by rw [w64 (by omega) (by omega)];omega
  have hmk:=ansM_ok (n:=(i:Int)+1) (k:=k) (u:=u) (prKrb hreal hnext)
  have k18:CK prog 18 [.ptr (some (pid,0)),.agg [.int .i64 0,.int .i64 0,.str (rI (i - 1)),.str (rI i),.int .i64 0,.slice 0 [] (some 5),.int .i64 0]] HS fun x H'=>x=sl (laidB (ansM ((i:Int)+1) k u (rI (i - 1)) (krb (rI i))))∧H'=HS :=
   c18_0 hp3 os.hu.use (rI (i - 1)) (rI i) (show (1:Nat)≤_ by decide) (show (1:Nat)≤_ by decide) 0 0 0 hmk
  have hj1:0≤max 0 (IntKind.i64.wrap ((i:Int) - 1))∧max 0 (IntKind.i64.wrap ((i:Int) - 1))<7:=by rw [hidx];omega
  have hj2:∀(j:Nat) (c:PV),[PV.str (rI (i - 1))][j]? = some c→allC[(max 0 (IntKind.i64.wrap ((i:Int) - 1))).toNat*1+j]? = some c:=by rw [hidx,Int.toNat_natCast];exact el1 (by omega)
  by_cases h5:i≤5
  ·have k17:=takeF os hreal hnext hfirst (rI_not i hi7) (by unfold rIs;simp;omega) (by omega) 1 (by decide) (by decide)
   have hsent:=fun {H4 bid4} hb4 hP4=>sentF os hreal hnext 1 (by decide) (by decide) (by omega) (by omega) (by omega) (H:=H4) (bid:=bid4) hb4 hP4
   generalize laidB (c.furM (ansX ((i:Int)+1) (rI (i - 1)) (krb (rI i))) 1)=b3 at *
   have hst:=os.st
   have h5':¬(5:Int)<(i:Int):=by omega
   generalize laidB (ansM ((i:Int)+1) k u (rI (i - 1)) (krb (rI i)))=b2 at *
   conv=>whnf
   repeat (first | (first | ((first | (apply exA;(focus exact oN)) | refine bT ?_ | refine bF ?_ | refine bW (bT ?_) | refine bW (bF ?_) | (apply cP;(focus assumption)) | (apply cE;(focus assumption)) | refine ⟨by first | decide | omega,?_⟩);((conv=>whnf))) | ((conv in (_[_]?)=>tactic=>first | exact oL | exact gS (by assumption));(conv=>whnf))) | (refine dX ?_;(conv=>whnf)))
   refine ⟨[.str (rI (i - 1))],hj2,?_⟩
   conv=>whnf
   repeat (first | (first | ((first | (apply exA;(focus exact oN)) | refine bT ?_ | refine bF ?_ | refine bW (bT ?_) | refine bW (bF ?_) | (apply cP;(focus assumption)) | (apply cE;(focus assumption)) | refine ⟨by first | decide | omega,?_⟩);((conv=>whnf))) | ((conv in (_[_]?)=>tactic=>first | exact oL | exact gS (by assumption));(conv=>whnf))) | (refine dX ?_;(conv=>whnf)))
   refine drawK_call 12 D4b _ HS (by kernel_rfl) rfl rfl trivial ?_
   conv=>whnf
   repeat (first | (first | ((first | (apply exA;(focus exact oN)) | refine bT ?_ | refine bF ?_ | refine bW (bT ?_) | refine bW (bF ?_) | (apply cP;(focus assumption)) | (apply cE;(focus assumption)) | refine ⟨by first | decide | omega,?_⟩);((conv=>whnf))) | ((conv in (_[_]?)=>tactic=>first | exact oL | exact gS (by assumption));(conv=>whnf))) | (refine dX ?_;(conv=>whnf)))
   apply exA
   ·conv=>whnf
    refine ⟨hib,[.str (rI i)],by rw [Int.toNat_natCast];exact el1 hi7,?_⟩
    exact ⟨rfl,rfl,zqv⟩
   conv=>whnf
   repeat (first | (first | ((first | (apply exA;(focus exact oN)) | refine bT ?_ | refine bF ?_ | refine bW (bT ?_) | refine bW (bF ?_) | (apply cP;(focus assumption)) | (apply cE;(focus assumption)) | refine ⟨by first | decide | omega,?_⟩);((conv=>whnf))) | ((conv in (_[_]?)=>tactic=>first | exact oL | exact gS (by assumption));(conv=>whnf))) | (refine dX ?_;(conv=>whnf)))
   refine cO k17 ?_
   rintro _ H4 ⟨rfl,⟨bid4,hb4,hP4⟩,_⟩
   obtain ⟨v4,ho4⟩:=hP4.cl.o
   obtain ⟨w4,hp4⟩:=hP4.p
   obtain ⟨H5,o5,_,k16b⟩:=hsent hb4 hP4
   have k20:=c20 ho4
   refine ⟨[HS,H4],rfl,?_⟩
   conv=>whnf
   repeat (first | (first | ((first | (apply exA;(focus exact oN)) | refine bT ?_ | refine bF ?_ | refine bW (bT ?_) | refine bW (bF ?_) | (apply cP;(focus assumption)) | (apply cE;(focus assumption)) | refine ⟨by first | decide | omega,?_⟩);((conv=>whnf))) | ((conv in (_[_]?)=>tactic=>first | exact oL | exact gS (by assumption));(conv=>whnf))) | (refine dX ?_;(conv=>whnf)))
   have o5':Out H5 pid xid cid mid (((i+1:Nat):Int)+1) (sesF (((i+1:Nat):Int))) 8 (c.fur bid4 (rIs i) (rI i)) (rIs (i+1)) (putL L (ansX ((i:Int)+1) (rI (i - 1)) (krb (rI i)))):=by rw [←rIs_succ];exact o5
   refine ⟨⟨i+1,H5,sesF (((i+1:Nat):Int)),8,c.fur bid4 (rIs i) (rI i),putL L (ansX ((i:Int)+1) (rI (i - 1)) (krb (rI i)))⟩,⟨?_,?_,o5',?_,?_,?_,ier,fun _=>rfl⟩,⟨rfl,rfl,rfl,rfl,?_,zqv⟩,rfl,?_⟩
   ·show ((i+1:Nat):Int)≤n+1;omega
   ·show i+1≤6;omega
   ·show (putL L _).length≤i+1;have:=putL_len L (ansX ((i:Int)+1) (rI (i - 1)) (krb (rI i)));omega
   ·show c.se+1=((i+1:Nat):Int)+1;rw [ise];rfl
   ·show c.sn+1=((i+1:Nat):Int);rw [isn];rfl
   ·show PV.int .i64 (IntKind.i64.wrap ((i:Int)+1))=.int .i64 ((i+1:Nat):Int)
    rw [w64 (by omega) (by omega)];rfl
   ·show 7 - (i+1)<7 - i;omega
  ·have hi6:i=6:=by omega
   have k17:=takeH os hreal hnext hfirst (rI_not i hi7) (by unfold rIs;simp;omega) (by unfold rIs;simp;omega) (by omega) 1 (by decide) (by decide)
   have h5':(5:Int)<(i:Int):=by omega
   generalize laidB (ansM ((i:Int)+1) k u (rI (i - 1)) (krb (rI i)))=b2 at *
   conv=>whnf
   repeat (first | (first | ((first | (apply exA;(focus exact oN)) | refine bT ?_ | refine bF ?_ | refine bW (bT ?_) | refine bW (bF ?_) | (apply cP;(focus assumption)) | (apply cE;(focus assumption)) | refine ⟨by first | decide | omega,?_⟩);((conv=>whnf))) | ((conv in (_[_]?)=>tactic=>first | exact oL | exact gS (by assumption));(conv=>whnf))) | (refine dX ?_;(conv=>whnf)))
   refine ⟨[.str (rI (i - 1))],hj2,?_⟩
   conv=>whnf
   repeat (first | (first | ((first | (apply exA;(focus exact oN)) | refine bT ?_ | refine bF ?_ | refine bW (bT ?_) | refine bW (bF ?_) | (apply cP;(focus assumption)) | (apply cE;(focus assumption)) | refine ⟨by first | decide | omega,?_⟩);((conv=>whnf))) | ((conv in (_[_]?)=>tactic=>first | exact oL | exact gS (by assumption));(conv=>whnf))) | (refine dX ?_;(conv=>whnf)))
   refine drawK_call 12 D4b _ HS (by kernel_rfl) rfl rfl trivial ?_
   conv=>whnf
   repeat (first | (first | ((first | (apply exA;(focus exact oN)) | refine bT ?_ | refine bF ?_ | refine bW (bT ?_) | refine bW (bF ?_) | (apply cP;(focus assumption)) | (apply cE;(focus assumption)) | refine ⟨by first | decide | omega,?_⟩);((conv=>whnf))) | ((conv in (_[_]?)=>tactic=>first | exact oL | exact gS (by assumption));(conv=>whnf))) | (refine dX ?_;(conv=>whnf)))
   apply exA
   ·conv=>whnf
    refine ⟨hib,[.str (rI i)],by rw [Int.toNat_natCast];exact el1 hi7,?_⟩
    exact ⟨rfl,rfl,zqv⟩
   conv=>whnf
   repeat (first | (first | ((first | (apply exA;(focus exact oN)) | refine bT ?_ | refine bF ?_ | refine bW (bT ?_) | refine bW (bF ?_) | (apply cP;(focus assumption)) | (apply cE;(focus assumption)) | refine ⟨by first | decide | omega,?_⟩);((conv=>whnf))) | ((conv in (_[_]?)=>tactic=>first | exact oL | exact gS (by assumption));(conv=>whnf))) | (refine dX ?_;(conv=>whnf)))
   refine cO k17 ?_
   rintro _ H4 ⟨rfl,hP4⟩
   obtain ⟨v4,ho4⟩:=hP4.cl.o
   obtain ⟨w4,hp4⟩:=hP4.p
   have k20:=c20 ho4
   obtain ⟨H9,k21⟩:=c21 H4
   refine ⟨[HS,H4],rfl,?_⟩
   conv=>whnf
   exact wR
 ·have hi:(i:Int)=n+1:=by omega
  have hi0:i≠0:=by omega
  have hfi:=ifi hi0
  by_cases hbk:back<0
  ·have hmk:=ansM_ok (n:=(i:Int)+1) (k:=k) (u:=u) prMail
   have k18:CK prog 18 [.ptr (some (pid,0)),.agg [.int .i64 0,.int .i64 1,.str [],.str [],.int .i64 0,.slice 0 [] (some 5),.int .i64 0]] HS fun x H'=>x=sl (laidB (ansM ((i:Int)+1) k u sR mN))∧H'=HS :=
    c18_1 hp3 os.hu.use [] [] (by decide) (by decide) 0 0 0 hmk
   have k17:=takeT os (by omega) 1 (by decide) (by decide)
   have hse:(n+2:Int)=c.se:=by rw [ise];omega
   have hse':c.se=IntKind.i64.wrap (n+2):=by rw [w64 (by omega) (by omega)];exact hse.symm
   generalize laidB (ansM ((i:Int)+1) k u sR mN)=b2 at *
   conv=>whnf
   repeat (first | (first | ((first | (apply exA;(focus exact oN)) | refine bT ?_ | refine bF ?_ | refine bW (bT ?_) | refine bW (bF ?_) | (apply cP;(focus assumption)) | (apply cE;(focus assumption)) | refine ⟨by first | decide | omega,?_⟩);((conv=>whnf))) | ((conv in (_[_]?)=>tactic=>first | exact oL | exact gS (by assumption));(conv=>whnf))) | (refine dX ?_;(conv=>whnf)))
   refine drawK_call 7 D4c _ HS (by kernel_rfl) rfl rfl trivial ?_
   conv=>whnf
   repeat (first | (first | ((first | (apply exA;(focus exact oN)) | refine bT ?_ | refine bF ?_ | refine bW (bT ?_) | refine bW (bF ?_) | (apply cP;(focus assumption)) | (apply cE;(focus assumption)) | refine ⟨by first | decide | omega,?_⟩);((conv=>whnf))) | ((conv in (_[_]?)=>tactic=>first | exact oL | exact gS (by assumption));(conv=>whnf))) | (refine dX ?_;(conv=>whnf)))
   refine cO k17 ?_
   rintro _ H4 ⟨rfl,hP4,_⟩
   obtain ⟨v4,ho4⟩:=hP4.cl.o
   obtain ⟨w4,hp4⟩:=hP4.p
   have k20:=c20 ho4
   obtain ⟨H9,k21⟩:=c21 H4
   refine ⟨[HS,H4],rfl,?_⟩
   conv=>whnf
   exact wR
  ·have hnext:=rI_ok back.toNat (by omega)
   have hreal:=rI_ok n.toNat (by omega)
   have hmem:rI back.toNat∈rIs i:=rIs_mem (by omega)
   have hmk:=ansM_ok (n:=(i:Int)+1) (k:=k) (u:=u) (prKrb hreal hnext)
   have k18:CK prog 18 [.ptr (some (pid,0)),.agg [.int .i64 0,.int .i64 0,.str (rI n.toNat),.str (rI back.toNat),.int .i64 0,.slice 0 [] (some 5),.int .i64 0]] HS fun x H'=>x=sl (laidB (ansM ((i:Int)+1) k u (rI n.toNat) (krb (rI back.toNat))))∧H'=HS :=
    c18_0 hp3 os.hu.use (rI n.toNat) (rI back.toNat) (show (1:Nat)≤_ by decide) (show (1:Nat)≤_ by decide) 0 0 0 hmk
   have k17:=takeL os hreal hnext (fun h=>by rw [hfi] at h;cases h) hmem (by unfold rIs;simp;omega) (by omega) 1 (by decide) (by decide)
   generalize laidB (ansM ((i:Int)+1) k u (rI n.toNat) (krb (rI back.toNat)))=b2 at *
   conv=>whnf
   repeat (first | (first | ((first | (apply exA;(focus exact oN)) | refine bT ?_ | refine bF ?_ | refine bW (bT ?_) | refine bW (bF ?_) | (apply cP;(focus assumption)) | (apply cE;(focus assumption)) | refine ⟨by first | decide | omega,?_⟩);((conv=>whnf))) | ((conv in (_[_]?)=>tactic=>first | exact oL | exact gS (by assumption));(conv=>whnf))) | (refine dX ?_;(conv=>whnf)))
   refine drawK_call 15 D4d _ HS (by kernel_rfl) rfl rfl trivial ?_
   conv=>whnf
   repeat (first | (first | ((first | (apply exA;(focus exact oN)) | refine bT ?_ | refine bF ?_ | refine bW (bT ?_) | refine bW (bF ?_) | (apply cP;(focus assumption)) | (apply cE;(focus assumption)) | refine ⟨by first | decide | omega,?_⟩);((conv=>whnf))) | ((conv in (_[_]?)=>tactic=>first | exact oL | exact gS (by assumption));(conv=>whnf))) | (refine dX ?_;(conv=>whnf)))
   apply exA
   ·conv=>whnf
    refine ⟨⟨by omega,by omega⟩,[.str (rI n.toNat)],el1 (by omega),?_⟩
    exact ⟨rfl,rfl,zqv⟩
   conv=>whnf
   repeat (first | (first | ((first | (apply exA;(focus exact oN)) | refine bT ?_ | refine bF ?_ | refine bW (bT ?_) | refine bW (bF ?_) | (apply cP;(focus assumption)) | (apply cE;(focus assumption)) | refine ⟨by first | decide | omega,?_⟩);((conv=>whnf))) | ((conv in (_[_]?)=>tactic=>first | exact oL | exact gS (by assumption));(conv=>whnf))) | (refine dX ?_;(conv=>whnf)))
   apply exA
   ·conv=>whnf
    refine ⟨⟨by omega,by omega⟩,[.str (rI back.toNat)],el1 (by omega),?_⟩
    exact ⟨rfl,rfl,zqv⟩
   conv=>whnf
   repeat (first | (first | ((first | (apply exA;(focus exact oN)) | refine bT ?_ | refine bF ?_ | refine bW (bT ?_) | refine bW (bF ?_) | (apply cP;(focus assumption)) | (apply cE;(focus assumption)) | refine ⟨by first | decide | omega,?_⟩);((conv=>whnf))) | ((conv in (_[_]?)=>tactic=>first | exact oL | exact gS (by assumption));(conv=>whnf))) | (refine dX ?_;(conv=>whnf)))
   refine cO k17 ?_
   rintro _ H4 ⟨rfl,hP4⟩
   obtain ⟨v4,ho4⟩:=hP4.cl.o
   obtain ⟨w4,hp4⟩:=hP4.p
   have k20:=c20 ho4
   obtain ⟨H9,k21⟩:=c21 H4
   refine ⟨[HS,H4],rfl,?_⟩
   conv=>whnf
   exact wR
theorem rdInt {B n:Nat} {ps:List PV} (h:RdP prog B (n+1) 3 ps):∃i,ps=[.int .i64 i]∧(Lit.int .i64 i).wf=true:=h
end Go.Proofs.Tryz
