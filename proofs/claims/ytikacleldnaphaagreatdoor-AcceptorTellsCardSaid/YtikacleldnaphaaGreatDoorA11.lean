import Derived.Test.YtikacleldnaphaaGreatDoorA10
import Derived.Test.YtikacleldnaphaaGreatDoorA3
import Derived.Test.YtikacleldnaphaaGreatDoorCards
import Derived.Test.YtikacleldnaphaaGreatDoorTie
import Derived.WalkKit
import Derived.ProofKit
import Derived.OpenShut
import Derived.Deep.DeepHandedRow
import Derived.Lib.LaidTab
import Derived.Test.YtikacleldnaphaaGreatDoorA9
set_option linter.all false
set_option maxRecDepth 100000
set_option maxHeartbeats 4000000
namespace Go.Proofs.Tryz
open Go Ps
def ttE:TT:=[(2,⟨.int .i64,1,8,[.int .i64 0]⟩),(3,⟨.int .i64,1,8,[.int .i64 0]⟩),(4,⟨.bool,1,1,[.bool false]⟩),(5,⟨.int .u8,1,1,[.int .u8 0]⟩),(9,⟨.str,1,16,[.str []]⟩),(22,⟨.slice 5,1,24,[.slice 0 [] (some 5)]⟩),(24,⟨.arr 32 5,32,32,List.replicate 32 (.int .u8 0)⟩),(25,⟨.ptr,1,8,[.ptr none]⟩),(30,⟨.strct [(9,0),(9,1)],2,32,[.str [],.str []]⟩),(33,⟨.strct [(30,0),(24,2),(9,34),(3,35),(3,36)],37,96,[.str [],.str []]++List.replicate 32 (.int .u8 0)++[.str [],.int .i64 0,.int .i64 0]⟩),(35,⟨.strct [(30,0),(3,2),(3,3)],4,48,[.str [],.str [],.int .i64 0,.int .i64 0]⟩),(36,⟨.slice 9,1,24,[.slice 0 [] (some 9)]⟩),(38,⟨.strct [(30,0),(30,2),(24,4),(36,36),(3,37),(3,38)],39,136,[.str [],.str [],.str [],.str []]++List.replicate 32 (.int .u8 0)++[.slice 0 [] (some 9),.int .i64 0,.int .i64 0]⟩),(39,⟨.int .i64,1,8,[.int .i64 0]⟩),(41,⟨.ptr,1,8,[.ptr none]⟩),(42,⟨.ptr,1,8,[.ptr none]⟩),(44,⟨.strct [(41,0),(42,1)],2,16,[.ptr none,.ptr none]⟩),(53,⟨.slice 130,1,24,[.slice 0 [] (some 130)]⟩),(54,⟨.slice 193,1,24,[.slice 0 [] (some 193)]⟩),(56,⟨.strct [(36,0),(53,1),(54,2)],3,72,[.slice 0 [] (some 9),.slice 0 [] (some 130),.slice 0 [] (some 193)]⟩),(64,⟨.strct [(30,0),(30,2),(3,4),(3,5)],6,80,[.str [],.str [],.str [],.str [],.int .i64 0,.int .i64 0]⟩),(66,⟨.strct [(30,0),(3,2),(22,3)],4,64,[.str [],.str [],.int .i64 0,.slice 0 [] (some 5)]⟩),(68,⟨.strct [(66,0),(22,4),(30,5),(3,7),(3,8)],9,136,[.str [],.str [],.int .i64 0,.slice 0 [] (some 5),.slice 0 [] (some 5),.str [],.str [],.int .i64 0,.int .i64 0]⟩),(70,⟨.strct [(30,0),(66,2),(22,6)],7,120,[.str [],.str [],.str [],.str [],.int .i64 0,.slice 0 [] (some 5),.slice 0 [] (some 5)]⟩),(72,⟨.strct [(66,0),(22,4)],5,88,[.str [],.str [],.int .i64 0,.slice 0 [] (some 5),.slice 0 [] (some 5)]⟩),(74,⟨.strct [(39,0),(3,1)],2,16,[.int .i64 0,.int .i64 0]⟩),(76,⟨.strct [(3,0),(64,1),(68,7),(70,16),(72,23),(74,28)],30,448,[.int .i64 0,.str [],.str [],.str [],.str [],.int .i64 0,.int .i64 0,.str [],.str [],.int .i64 0,.slice 0 [] (some 5),.slice 0 [] (some 5),.str [],.str [],.int .i64 0,.int .i64 0,.str [],.str [],.str [],.str [],.int .i64 0,.slice 0 [] (some 5),.slice 0 [] (some 5),.str [],.str [],.int .i64 0,.slice 0 [] (some 5),.slice 0 [] (some 5),.int .i64 0,.int .i64 0]⟩),(100,⟨.ptr,1,8,[.ptr none]⟩),(115,⟨.ptr,1,8,[.ptr none]⟩),(120,⟨.strB [(117,0),(118,0),(2,0)],1,8,[.int .i64 0]⟩),(122,⟨.strct [(30,0),(56,2),(100,5),(115,6),(120,7),(120,8)],9,136,[.str [],.str [],.slice 0 [] (some 9),.slice 0 [] (some 130),.slice 0 [] (some 193),.ptr none,.ptr none,.int .i64 0,.int .i64 0]⟩),(130,⟨.arr 2 9,2,32,[.str [],.str []]⟩),(140,⟨.slice 35,1,24,[.slice 0 [] (some 35)]⟩),(157,⟨.ptr,1,8,[.ptr none]⟩),(171,⟨.fn,1,8,[.nilF]⟩),(193,⟨.strct [(9,0),(9,1),(36,2)],3,56,[.str [],.str [],.slice 0 [] (some 9)]⟩),(199,⟨.strct [(140,0),(4,1),(3,2)],3,40,[.slice 0 [] (some 35),.bool false,.int .i64 0]⟩)]
theorem zgg:ttOk prog ttE=true:=by kernel_rfl
def imm3E:List Nat:=[]
def z0l:List Nat:=[4,5]
def z01:List Nat:=[]
def z24:List Nat:=[]
def z25:List Nat:=[4]
def z26:List Nat:=[2]
def zww:List Nat:=[3]
def z28:List Nat:=[4,5]
theorem c14E:Pure prog 14 [] (.agg [.str aE,.str nA]):=zfr rfl rfl (by kernel_rfl)
theorem c17E:Pure prog 17 [] (.agg [.str bE,.str nM]):=zfr rfl rfl (by kernel_rfl)
theorem zfu {a:Aut} (h:zax a=true):(autL a).length≤784:=by
 have h0:=zp7 a
 unfold zax at h
 simp only [zqb] at h
 have gp:=zaz h.1.1
 omega
theorem zev {p:Prt} (h:zao p=true):(partL p).length≤784:=by
 have h0:=zo1 p
 unfold zao at h
 simp only [zqb] at h
 have gp:=zaz h.1.1
 have gt:=ze8 h.1.2
 have g_st:=za8 h.2.1
 have g_en:=za8 h.2.2
 omega
theorem zf7 {n lo hi:Int} (h1:lo≤n) (h2:n≤hi):inZ n lo hi=true:=by unfold inZ;rw [zqe h1,zqe h2];rfl
theorem z3c (H:PH) {k:List UInt8} (hk:k.length=32):BoxAt (H++[zej (k.take 16),boxO k H.length]) (H.length+1) k:=by
 refine ⟨hk,H.length,0,0,0,0,zej (k.take 16),?_,?_,zl6 _⟩
 ·rw [zqi (by omega),show H.length+1 - H.length=1 by omega];rfl
 ·rw [zqi (by omega),show H.length - H.length=0 by omega];rfl
def apM (kv:Int) (tb ab:List UInt8):Msg:={ mZ with kind:=4,p1:=bE,p2:=nM,pKv:=kv,pB:=tb,pBo:=none,pAu:=ab,pAuo:=none }
def apOk (kv:Int) (tb ab:List UInt8):Bool:=tickB bE nM kv tb.length&&inZ ab.length 1 800
theorem zwl (kv:Int) (tb ab:List UInt8):isB (apM kv tb ab)=apOk kv tb ab:=by
 have h:isB (apM kv tb ab)=(apOk kv tb ab&&zab (apM kv tb ab)):=rfl
 have h2:zab (apM kv tb ab)=true:=rfl
 rw [h,h2,zq6]
theorem zml {kv:Int} {tb ab:List UInt8} (h:apOk kv tb ab=true):(laidB (apM kv tb ab)).length≤2000:=by
 unfold apOk at h
 simp only [zqb] at h
 have g1:=zcp h.1
 have g3:=za8 h.2
 have h0:=zah 110 [zaw bE nM kv tb,wrapB 4 ab].flatten
 have e1:=zbf bE nM kv tb
 have e2:=zah 4 ab
 have b1:bE.length=5:=rfl
 have b2:nM.length=4:=rfl
 simp only [zqk,zql,zqf,List.length_nil] at h0
 show (wrapB 110 [zaw bE nM kv tb,wrapB 4 ab].flatten).length≤2000
 simp only [zqk,zql,zqf,List.length_nil]
 omega
theorem encAp {kv:Int} {tb ab:List UInt8} (h:apOk kv tb ab=true):encV (apM kv tb ab)=.tup [sl (laidB (apM kv tb ab)),.int .i64 0]:=zn4 ⟨(zwl kv tb ab).trans h,zml h⟩
theorem zt9 (kv:Int) (tb ab:List UInt8):(apM kv tb ab).fits:=by
 unfold Msg.fits apM mZ
 refine ⟨Nat.zero_le _,Nat.zero_le _,Nat.zero_le _,Nat.zero_le _,Nat.zero_le _,Nat.zero_le _,Nat.zero_le _,Nat.zero_le _,Nat.zero_le _,Nat.zero_le _,Nat.zero_le _,Nat.zero_le _,?_,?_⟩
 ·show bE.length≤_;decide
 ·show nM.length≤_;decide
theorem isB_d (m:Msg):isB m.d=isB m:=rfl
theorem zsl (m:Msg):laidB m.d=laidB m:=rfl
theorem decAp {kv:Int} {tb ab:List UInt8} (h:apOk kv tb ab=true):decV (laidB (apM kv tb ab))=.tup [.agg (apM kv tb ab).d.cells,.int .i64 0]:=by
 have hB:=(zwl kv tb ab).trans h
 have hd:=zpx (apM kv tb ab) hB
 have hok:okM (zek (laidB (apM kv tb ab))) (laidB (apM kv tb ab))=true:=by
  rw [zyd,←isB_d,←zsl (zek _),hd,isB_d,zsl]
  exact ⟨hB,zml h,rfl⟩
 unfold decV
 rw [zjr hok,hd]
theorem zuw (k:UInt8):(keyK k).length=32:=rfl
theorem c13E (k:UInt8) {p:Prt} {a:Aut} (hP:zao p=true) (hA:zax a=true) (h1:1≤k.toNat) :
  Pure prog 13 [.int .i64 k.toNat,.agg p.cells,.agg a.cells] (.tup [sl (laidB (apM k.toNat (sealK (keyK k) 2 5 (partL p)) (sealK (keyB p.k) 11 6 (autL a)))),.bool true]):=by
 obtain ⟨g1,g2,g3⟩:=prPrt hP
 obtain ⟨g4,g5⟩:=prAut hA
 have k36:=c36s p g1 g2 g3
 rw [(ebPrt hP).1,(ebPrt hP).2] at k36
 have k37:=c37s a g4 g5
 rw [(ebAut hA).1,(ebAut hA).2] at k37
 have k38a:Pure prog 38 [.agg ((keyK k).map bC),.int .i64 2,.int .i64 5,sl (partL p)] (.tup [ow (sealK (keyK k) 2 5 (partL p)),.int .i64 0]):=c38 (keyK k) (zuw k) 2 5 rfl (by decide) (by decide) (partL p) (zev hP)
 have k38b:Pure prog 38 [.agg ((keyB p.k).map bC),.int .i64 11,.int .i64 6,sl (autL a)] (.tup [ow (sealK (keyB p.k) 11 6 (autL a)),.int .i64 0]):=c38 (keyB p.k) rfl 11 6 rfl (by decide) (by decide) (autL a) (zfu hA)
 have hl1:(sealK (keyK k) 2 5 (partL p)).length≤800:=by rw [zcd];have:=zev hP;omega
 have hl2:(sealK (keyB p.k) 11 6 (autL a)).length≤800:=by rw [zcd];have:=zfu hA;omega
 have hl3:1≤(sealK (keyK k) 2 5 (partL p)).length:=by rw [zcd];omega
 have hl4:1≤(sealK (keyB p.k) 11 6 (autL a)).length:=by rw [zcd];omega
 generalize sealK (keyK k) 2 5 (partL p)=b1 at *
 generalize sealK (keyB p.k) 11 6 (autL a)=b2 at *
 have hk:k.toNat<256:=k.toNat_lt
 have hok:apOk k.toNat b1 b2=true:=by
  unfold apOk tickB
  rw [show zap bE nM=true by kernel_rfl,zf7 (by omega) (by omega),zf7 (by omega) (by omega),zf7 (by omega) (by omega)];rfl
 have k30:=c30 (apM k.toNat b1 b2) (zt9 _ _ _)
 rw [encAp hok] at k30
 have k17:=c17E
 have hw:IntKind.u8.wrap (k.toNat:Int)=k.toNat:=by rw [u8w];simp
 have k38c:Pure prog 38 [.agg (.int .u8 (IntKind.u8.wrap k.toNat)::List.replicate 31 (.int .u8 0)),.int .i64 2,.int .i64 5,sl (partL p)] (.tup [ow b1,.int .i64 0]):=by rw [hw];exact k38a
 clear hw k38a
 intro H
 (refine fnS (imm:=z0l) zgg func13 ?_;(conv=>whnf))
 (repeat (first | ((first | (apply exA;(focus exact oN)) | refine bT ?_ | refine bF ?_ | refine bW (bT ?_) | refine bW (bF ?_) | (apply cP;(focus assumption)) | (apply cE;(focus assumption)) | refine ⟨by first | decide | omega,?_⟩);((conv=>whnf))) | ((conv in (_[_]?)=>tactic=>first | exact oL | exact gS (by assumption));(conv=>whnf))))
 exact ⟨rfl,rfl⟩
theorem Evo.drop {S:Nat→Prop} {H H':PH} {a:Nat} (h:Evo (fun i=>S i∨i=a) H H') (ha:H.length≤a):Evo S H H' :=
 ⟨h.len,h.box,fun id o ho hs=>h.same id o ho fun hh=>by
  rcases hh with hh | hh
  ·exact hs hh
  ·have:=(zq1.1 ho).1
   omega⟩
theorem Evo.put {H X:PH} (e:Evo (fun _=>False) H X) {a:Nat} {o:PObj} (ha:X[a]? = some o) (h1:o.T≠keyT) (h2:o.T≠boxT) (hle:H.length≤a) (o':PObj):Evo (fun _=>False) H (X.set a o') :=
 Evo.drop (S:=fun _=>False) ((e.mono fun _ h=>h.elim).trans ((Evo.setOther (S:=(·=a)) ha rfl h1 h2).mono fun _ h=>.inr h)) hle
theorem Evo.look {S:Nat→Prop} {H X:PH} (e:Evo S H X) {id:Nat} {o:PObj} (ho:H[id]? = some o) (hs:¬S id) (h1:o.T≠keyT) (h2:o.T≠boxT):X[id]? = some o:=e.same _ _ ho hs h1 h2
def z33:PObj:=⟨33,zPrt.cells,0⟩
def z35:PObj:=⟨35,zAut.cells,0⟩
theorem z33T (cs:List PV) (v:Nat):(⟨33,cs,v⟩:PObj).T≠keyT∧(⟨33,cs,v⟩:PObj).T≠boxT:=⟨fun h=>absurd (show 33=keyT from h) (by decide),fun h=>absurd (show 33=boxT from h) (by decide)⟩
theorem z35T (cs:List PV) (v:Nat):(⟨35,cs,v⟩:PObj).T≠keyT∧(⟨35,cs,v⟩:PObj).T≠boxT:=⟨fun h=>absurd (show 35=keyT from h) (by decide),fun h=>absurd (show 35=boxT from h) (by decide)⟩
theorem accT (rid sid:Nat) (ok bad:Int) (v:Nat):(accO rid sid ok bad v).T≠keyT∧(accO rid sid ok bad v).T≠boxT:=⟨fun h=>absurd (show 122=keyT from h) (by decide),fun h=>absurd (show 122=boxT from h) (by decide)⟩
theorem c81E {H:PH} {aid rid sid v:Nat} {ok bad:Int} {l:List Ent} {kv:Int} {e:Ent} {p:Prt} {now:Int} (hA:H[aid]? = some (accO rid sid ok bad v)) (hR:RingAt H rid l) (hl:l.length≤1000)
  (hL:lastE (isK bE nM kv) l=some e) (hP:zao p=true) (h0:0≤now) (h1:now≤1073741824) (hen:now≤p.en) (hst:p.st≤now+5) :
  CK prog 81 [.ptr (some (aid,0)),.agg [.str bE,.str nM,.int .i64 kv,sl (sealK e.key 2 5 (partL p))],.int .i64 now] H fun x H'=>x=.tup [.agg p.cells,.int .i64 0]∧Evo (fun _=>False) H H':=by
 have e1:Evo (fun _=>False) H (H++[z33]):=Evo.app H _
 have hA1:=e1.look hA id (accT _ _ _ _ _).1 (accT _ _ _ _ _).2
 have hR1:=hR.evo e1 id
 have ha:(H++[z33])[H.length]? = some z33:=gL H _
 have w5:IntKind.i64.wrap (now+5)=now+5:=w64 (by omega) (by omega)
 have hg:=zzj hR1 hl bE nM kv
 rw [hL] at hg
 have hop:openV e.key 2 (sealK e.key 2 5 (partL p))=.tup [sl (partL p),.int .i64 0]:=by unfold openV;rw [zlu e.key 2 5 (partL p) (by decide) (by decide) (zev hP)]
 have k132:=c132s (partL p) (by have:=zev hP;omega)
 rw [(zra hP).1,(zra hP).2] at k132
 have hO:=zw2 (hR1.box e (zsm hL)) 2 rfl (sealK e.key 2 5 (partL p))
 rw [hop] at hO
 generalize sealK e.key 2 5 (partL p)=tb at *
 generalize partL p=b at *
 (refine fnS (imm:=z25) zgg func81 ?_;(conv=>whnf))
 refine dP2 (by kernel_rfl) ?_
 conv=>whnf
 (repeat (first | ((first | (apply exA;(focus exact oN)) | refine bT ?_ | refine bF ?_ | refine bW (bT ?_) | refine bW (bF ?_) | (apply cP;(focus assumption)) | (apply cE;(focus assumption)) | refine ⟨by first | decide | omega,?_⟩);((conv=>whnf))) | ((conv in (_[_]?)=>tactic=>first | exact oL | exact gS (by assumption));(conv=>whnf))))
 refine dP2 (by kernel_rfl) ?_
 conv=>whnf
 (repeat (first | ((first | (apply exA;(focus exact oN)) | refine bT ?_ | refine bF ?_ | refine bW (bT ?_) | refine bW (bF ?_) | (apply cP;(focus assumption)) | (apply cE;(focus assumption)) | refine ⟨by first | decide | omega,?_⟩);((conv=>whnf))) | ((conv in (_[_]?)=>tactic=>first | exact oL | exact gS (by assumption));(conv=>whnf))))
 refine cO hO ?_
 rintro _ H2 ⟨rfl,e2,hl2⟩
 have eA:Evo (fun _=>False) H H2:=e1.trans e2
 have ha2:=e2.look ha id (z33T _ _).1 (z33T _ _).2
 have hlt:H.length<H2.length:=(zq1.1 ha2).1
 have ha3:((H2++[z33]).set H2.length (⟨33,p.cells,1⟩:PObj))[H.length]? = some z33:=by rw [zqj (by omega),zq2 hlt];exact ha2
 have eC:Evo (fun _=>False) H ((H2++[z33]).set H2.length (⟨33,p.cells,1⟩:PObj)):=(eA.trans (Evo.app _ _)).put (gL H2 _) (z33T _ _).1 (z33T _ _).2 (by omega) _
 have hst':¬IntKind.i64.wrap (now+5)<p.st:=by rw [w5];omega
 have hen':¬p.en<now:=by omega
 conv=>whnf
 (repeat (first | ((first | (apply exA;(focus exact oN)) | refine bT ?_ | refine bF ?_ | refine bW (bT ?_) | refine bW (bF ?_) | (apply cP;(focus assumption)) | (apply cE;(focus assumption)) | refine ⟨by first | decide | omega,?_⟩);((conv=>whnf))) | ((conv in (_[_]?)=>tactic=>first | exact oL | exact gS (by assumption));(conv=>whnf))))
 exact ⟨rfl,eC.put ha3 (z33T _ _).1 (z33T _ _).2 (zqn _) _⟩
theorem c82E {H:PH} {p:Prt} {a:Aut} (hA:zax a=true) (hr:a.r=p.r) (hn:a.n=p.n) :
  CK prog 82 [.agg p.cells,sl (sealK (keyB p.k) 11 6 (autL a))] H fun x H'=>x=.tup [.agg a.cells,.int .i64 0]∧Evo (fun _=>False) H H':=by
 have e1:Evo (fun _=>False) H (H++[z35]):=Evo.app H _
 have ha:(H++[z35])[H.length]? = some z35:=gL H _
 have hop:openV (keyB p.k) 11 (sealK (keyB p.k) 11 6 (autL a))=.tup [sl (autL a),.int .i64 0]:=by unfold openV;rw [zlu (keyB p.k) 11 6 (autL a) (by decide) (by decide) (zfu hA)]
 have k133:=c133s (autL a) (by have:=zfu hA;omega)
 rw [(zp9 hA).1,(zp9 hA).2] at k133
 have hnb:=z3c (H++[z35]) (k:=keyB p.k) rfl
 have h66:=c66 (keyB p.k) rfl (H++[z35])
 have hO:=zw2 hnb 11 rfl (sealK (keyB p.k) 11 6 (autL a))
 rw [hop] at hO
 generalize sealK (keyB p.k) 11 6 (autL a)=tb at *
 generalize autL a=b at *
 have e2:Evo (fun _=>False) (H++[z35]) ((H++[z35])++[zej ((keyB p.k).take 16),boxO (keyB p.k) (H++[z35]).length]):=Evo.app _ _
 generalize (H++[z35])++[zej ((keyB p.k).take 16),boxO (keyB p.k) (H++[z35]).length]=H1 at *
 obtain ⟨ar,an,atm,asq⟩:=a
 obtain ⟨pr,pn,pk,ptr,pst,pen⟩:=p
 simp only at hr hn
 subst hr
 subst hn
 (refine fnS (imm:=z26) zgg func82 ?_;(conv=>whnf))
 (repeat (first | ((first | (apply exA;(focus exact oN)) | refine bT ?_ | refine bF ?_ | refine bW (bT ?_) | refine bW (bF ?_) | (apply cP;(focus assumption)) | (apply cE;(focus assumption)) | refine ⟨by first | decide | omega,?_⟩);((conv=>whnf))) | ((conv in (_[_]?)=>tactic=>first | exact oL | exact gS (by assumption));(conv=>whnf))))
 refine cO hO ?_
 rintro _ H2 ⟨rfl,e3,hl2⟩
 have eA:Evo (fun _=>False) H H2:=e1.trans (e2.trans e3)
 have ha2:=(e2.trans e3).look ha id (z35T _ _).1 (z35T _ _).2
 have hlt:H.length<H2.length:=(zq1.1 ha2).1
 have ha3:((H2++[z35]).set H2.length (⟨35,(⟨ar,an,atm,asq⟩:Aut).cells,1⟩:PObj))[H.length]? = some z35:=by rw [zqj (by omega),zq2 hlt];exact ha2
 have eC:Evo (fun _=>False) H ((H2++[z35]).set H2.length (⟨35,(⟨ar,an,atm,asq⟩:Aut).cells,1⟩:PObj)):=(eA.trans (Evo.app _ _)).put (gL H2 _) (z35T _ _).1 (z35T _ _).2 (by omega) _
 conv=>whnf
 (repeat (first | ((first | (apply exA;(focus exact oN)) | refine bT ?_ | refine bF ?_ | refine bW (bT ?_) | refine bW (bF ?_) | (apply cP;(focus assumption)) | (apply cE;(focus assumption)) | refine ⟨by first | decide | omega,?_⟩);((conv=>whnf))) | ((conv in (_[_]?)=>tactic=>first | exact oL | exact gS (by assumption));(conv=>whnf))))
 exact ⟨rfl,eC.put ha3 (z35T _ _).1 (z35T _ _).2 (zqn _) _⟩
theorem c83E {H:PH} {aid rid sid v:Nat} {ok bad:Int} {p:Prt} {lv:PV} (hA:H[aid]? = some (accO rid sid ok bad v)) (hr:p.r=aE)
  (k134:Pure prog 134 [.str p.tr,.str aE,.str bE] (.tup [lv,.int .i64 0])) (k135:Pure prog 135 [.agg [zgt,zln,.nilS],.str aE,.str bE,lv] (.bool true)) (hlv:lv=lE∨lv=.nilS) :
  CK prog 83 [.ptr (some (aid,0)),.agg p.cells] H fun x H'=>x=.tup [lv,.int .i64 0]∧H'=H:=by
 have k69:=c69E
 obtain ⟨pr,pn,pk,ptr,pst,pen⟩:=p
 simp only at hr k134
 subst hr
 rcases hlv with rfl | rfl
 ·(refine fnS (imm:=zww) zgg func83 ?_;(conv=>whnf))
  (repeat (first | (first | ((first | (apply exA;(focus exact oN)) | refine bT ?_ | refine bF ?_ | refine bW (bT ?_) | refine bW (bF ?_) | (apply cP;(focus assumption)) | (apply cE;(focus assumption)) | refine ⟨by first | decide | omega,?_⟩);((conv=>whnf))) | ((conv in (_[_]?)=>tactic=>first | exact oL | exact gS (by assumption));(conv=>whnf))) | (refine dP2 (by kernel_rfl) ?_;(conv=>whnf))))
  exact ⟨rfl,rfl⟩
 ·(refine fnS (imm:=zww) zgg func83 ?_;(conv=>whnf))
  (repeat (first | (first | ((first | (apply exA;(focus exact oN)) | refine bT ?_ | refine bF ?_ | refine bW (bT ?_) | refine bW (bF ?_) | (apply cP;(focus assumption)) | (apply cE;(focus assumption)) | refine ⟨by first | decide | omega,?_⟩);((conv=>whnf))) | ((conv in (_[_]?)=>tactic=>first | exact oL | exact gS (by assumption));(conv=>whnf))) | (refine dP2 (by kernel_rfl) ?_;(conv=>whnf))))
  exact ⟨rfl,rfl⟩
theorem c136Z (now:Int):Pure prog 136 [.nilS,.func 137 [] [.elem [.int .i64 now]]] .nilS:=zfr rfl rfl (by kernel_rfl)
theorem c138Z (r n:List UInt8) (x y:Int):Pure prog 138 [.nilS,.agg [.str r,.str n,.int .i64 x,.int .i64 y]] (.bool false):=zfr rfl rfl (by kernel_rfl)
def D84:Draw:={ cons:=[(10,[69])],imp:=[10] }
def seeO (l:PV) (began:Bool) (since:Int) (v:Nat):PObj:=⟨199,[l,.bool began,.int .i64 since],v⟩
theorem c84Z {H:PH} {sid v:Nat} {a:Aut} {now:Int} (hS:H[sid]? = some (seeO .nilS false 0 v)) (h0:0≤now) (h1:now≤1073741824) (ht1:a.tm≤now+5) (ht2:now - 5≤a.tm) :
  CK prog 84 [.ptr (some (sid,0)),.agg a.cells,.int .i64 now] H fun x H'=>x=.int .i64 0∧H'=H.set sid (seeO (.slice 1 a.cells (some 35)) false 0 (v+2)):=by
 have w5:IntKind.i64.wrap (now+5)=now+5:=w64 (by omega) (by omega)
 have w6:IntKind.i64.wrap (now - 5)=now - 5:=w64 (by omega) (by omega)
 have g1:¬IntKind.i64.wrap (now+5)<a.tm:=by rw [w5];omega
 have g2:¬a.tm<IntKind.i64.wrap (now - 5):=by rw [w6];omega
 have hl:sid<H.length:=(zq1.1 hS).1
 have k136:=c136Z now
 obtain ⟨ar,an,atm,asq⟩:=a
 have k138:=c138Z ar an atm asq
 clear w5 w6
 have hS2:(H.set sid (seeO .nilS false 0 (v+1)))[sid]? = some (seeO .nilS false 0 (v+1)):=by simp [hl]
 (refine fnS (imm:=z28) zgg func84 ?_;(conv=>whnf))
 (repeat (first | ((first | (apply exA;(focus exact oN)) | refine bT ?_ | refine bF ?_ | refine bW (bT ?_) | refine bW (bF ?_) | (apply cP;(focus assumption)) | (apply cE;(focus assumption)) | refine ⟨by first | decide | omega,?_⟩);((conv=>whnf))) | ((conv in (_[_]?)=>tactic=>first | exact oL | exact gS (by assumption));(conv=>whnf))))
 (refine dP2 (by kernel_rfl) ?_;(conv=>whnf))
 (repeat (first | ((first | (apply exA;(focus exact oN)) | refine bT ?_ | refine bF ?_ | refine bW (bT ?_) | refine bW (bF ?_) | (apply cP;(focus assumption)) | (apply cE;(focus assumption)) | refine ⟨by first | decide | omega,?_⟩);((conv=>whnf))) | ((conv in (_[_]?)=>tactic=>first | exact oL | exact gS (by assumption));(conv=>whnf))))
 (refine dP2 (by kernel_rfl) ?_;(conv=>whnf))
 (repeat (first | ((first | (apply exA;(focus exact oN)) | refine bT ?_ | refine bF ?_ | refine bW (bT ?_) | refine bW (bF ?_) | (apply cP;(focus assumption)) | (apply cE;(focus assumption)) | refine ⟨by first | decide | omega,?_⟩);((conv=>whnf))) | ((conv in (_[_]?)=>tactic=>first | exact oL | exact gS (by assumption));(conv=>whnf))))
 refine dO2 D84 [H.set sid (seeO .nilS false 0 (v+1)),(H.set sid (seeO .nilS false 0 (v+1))).set sid (seeO (.slice 1 [.str ar,.str an,.int .i64 atm,.int .i64 asq] (some 35)) false 0 (v+2))] (by kernel_rfl) rfl trivial ?_
 conv=>whnf
 (repeat (first | ((first | (apply exA;(focus exact oN)) | refine bT ?_ | refine bF ?_ | refine bW (bT ?_) | refine bW (bF ?_) | (apply cP;(focus assumption)) | (apply cE;(focus assumption)) | refine ⟨by first | decide | omega,?_⟩);((conv=>whnf))) | ((conv in (_[_]?)=>tactic=>first | exact oL | exact gS (by assumption));(conv=>whnf))))
 apply exA
 ·conv=>whnf
  refine ⟨⟨by decide,rfl,rfl⟩,?_⟩
  conv=>whnf
  exact ⟨rfl,rfl,zqv⟩
 conv=>whnf
 iterate 2 (refine dS ?_;(conv=>whnf))
 apply exA
 ·conv=>whnf
  conv in (_[sid]?)=>tactic=>exact hS2
  conv=>whnf
  exact ⟨rfl,rfl,zqv⟩
 conv=>whnf
 refine ⟨rfl,?_⟩
 show (H.set sid _).set sid _=_
 rw [List.set_set]
 rfl
def accC (p:Prt) (lv:PV) (tm sq:Int):List PV:=[.str p.r,.str p.n,.str bE,.str nM]++keyC p.k++[lv,.int .i64 tm,.int .i64 sq]
def z38:PObj:=⟨38,accC0,0⟩
where accC0:List PV:=[.str [],.str [],.str [],.str []]++List.replicate 32 (.int .u8 0)++[.slice 0 [] (some 9),.int .i64 0,.int .i64 0]
def z76:PObj:=⟨76,mZ.cells,0⟩
theorem z38T (cs:List PV) (v:Nat):(⟨38,cs,v⟩:PObj).T≠keyT∧(⟨38,cs,v⟩:PObj).T≠boxT:=⟨fun h=>absurd (show 38=keyT from h) (by decide),fun h=>absurd (show 38=boxT from h) (by decide)⟩
theorem z76T (cs:List PV) (v:Nat):(⟨76,cs,v⟩:PObj).T≠keyT∧(⟨76,cs,v⟩:PObj).T≠boxT:=⟨fun h=>absurd (show 76=keyT from h) (by decide),fun h=>absurd (show 76=boxT from h) (by decide)⟩
theorem seeT (l:PV) (b:Bool) (s:Int) (v:Nat):(seeO l b s v).T≠keyT∧(seeO l b s v).T≠boxT:=⟨fun h=>absurd (show 199=keyT from h) (by decide),fun h=>absurd (show 199=boxT from h) (by decide)⟩
def D39:Draw:={ imp:=[6],win:=[(7,1,1)] }
def D39b:Draw:={ imp:=[14],win:=[(15,1,1)] }
theorem c39E {H:PH} {aid rid sid v w:Nat} {ok bad:Int} {l:List Ent} {kv:Int} {e:Ent} {p:Prt} {a:Aut} {now:Int} {lv:PV}
  (hA:H[aid]? = some (accO rid sid ok bad v)) (hS:H[sid]? = some (seeO .nilS false 0 w)) (hR:RingAt H rid l) (hl:l.length≤1000)
  (hL:lastE (isK bE nM kv) l=some e) (hkv:1≤kv∧kv≤255) (hP:zao p=true) (hAu:zax a=true) (h0:0≤now) (h1:now≤1073741824) (hen:now≤p.en) (hst:p.st≤now+5)
  (hr:p.r=aE) (har:a.r=p.r) (han:a.n=p.n) (ht1:a.tm≤now+5) (ht2:now - 5≤a.tm)
  (k134:Pure prog 134 [.str p.tr,.str aE,.str bE] (.tup [lv,.int .i64 0])) (k135:Pure prog 135 [.agg [zgt,zln,.nilS],.str aE,.str bE,lv] (.bool true)) (hlv:lv=lE∨lv=.nilS) :
  CK prog 39 [.ptr (some (aid,0)),sl (laidB (apM kv (sealK e.key 2 5 (partL p)) (sealK (keyB p.k) 11 6 (autL a)))),.int .i64 now] H fun x H' =>
   x=.tup [.agg (accC p lv a.tm a.sq),.int .i64 0]∧Evo (·=sid) H H':=by
 have hl1:(sealK e.key 2 5 (partL p)).length≤800:=by rw [zcd];have:=zev hP;omega
 have hl2:(sealK (keyB p.k) 11 6 (autL a)).length≤800:=by rw [zcd];have:=zfu hAu;omega
 have hl3:1≤(sealK e.key 2 5 (partL p)).length:=by rw [zcd];omega
 have hl4:1≤(sealK (keyB p.k) 11 6 (autL a)).length:=by rw [zcd];omega
 have hok:apOk kv (sealK e.key 2 5 (partL p)) (sealK (keyB p.k) 11 6 (autL a))=true:=by
  unfold apOk tickB
  rw [show zap bE nM=true by kernel_rfl,zf7 hkv.1 hkv.2,zf7 (by omega) (by omega),zf7 (by omega) (by omega)];rfl
 have k80:=c80 (laidB (apM kv (sealK e.key 2 5 (partL p)) (sealK (keyB p.k) 11 6 (autL a)))) (by have:=zml hok;omega)
 rw [decAp hok] at k80
 have e1:Evo (fun _=>False) H (H++[z38]):=Evo.app H _
 have hm1:(H++[z38])[H.length]? = some z38:=gL H _
 have e2:Evo (fun _=>False) (H++[z38]) (((H++[z38])++[z76]).set (H++[z38]).length (⟨76,(apM kv (sealK e.key 2 5 (partL p)) (sealK (keyB p.k) 11 6 (autL a))).d.cells,1⟩:PObj)) :=
  (Evo.app _ _).put (gL _ _) (z76T _ _).1 (z76T _ _).2 (zqn _) _
 have hm2:(((H++[z38])++[z76]).set (H++[z38]).length (⟨76,(apM kv (sealK e.key 2 5 (partL p)) (sealK (keyB p.k) 11 6 (autL a))).d.cells,1⟩:PObj))[(H++[z38]).length]? = some (⟨76,(apM kv (sealK e.key 2 5 (partL p)) (sealK (keyB p.k) 11 6 (autL a))).d.cells,1⟩:PObj) :=
  gS (gL _ _)
 have eX:=e1.trans e2
 have hSh:=c81E (e2.look (e1.look hA id (accT _ _ _ _ _).1 (accT _ _ _ _ _).2) id (accT _ _ _ _ _).1 (accT _ _ _ _ _).2) (hR.evo eX id) hl hL hP h0 h1 hen hst
 have hPr:=fun X:PH=>c82E (H:=X) (p:=p) hAu har han
 have hlen:(H++[z38]).length=H.length+1:=by simp
 generalize sealK e.key 2 5 (partL p)=b1 at *
 generalize sealK (keyB p.k) 11 6 (autL a)=b2 at *
 (refine fnS (imm:=z24) zgg func39 ?_;(conv=>whnf))
 (repeat (first | ((first | (apply exA;(focus exact oN)) | refine bT ?_ | refine bF ?_ | refine bW (bT ?_) | refine bW (bF ?_) | (apply cP;(focus assumption)) | (apply cE;(focus assumption)) | refine ⟨by first | decide | omega,?_⟩);((conv=>whnf))) | ((conv in (_[_]?)=>tactic=>first | exact oL | exact gS (by assumption));(conv=>whnf))))
 refine cO hSh ?_
 rintro _ X3 ⟨rfl,e3⟩
 have f1:Evo (fun _=>False) H X3:=eX.trans e3
 have n1:X3[H.length]? = some z38:=(e2.trans e3).look hm1 id (z38T _ _).1 (z38T _ _).2
 have n2:=e3.look hm2 id (z76T _ _).1 (z76T _ _).2
 have len3:H.length+1<X3.length:=by have:=(zq1.1 n2).1;omega
 have e4:Evo (fun _=>False) X3 ((X3++[z33]).set X3.length (⟨33,p.cells,1⟩:PObj)):=(Evo.app _ _).put (gL _ _) (z33T _ _).1 (z33T _ _).2 (zqn _) _
 have n3:((X3++[z33]).set X3.length (⟨33,p.cells,1⟩:PObj))[X3.length]? = some (⟨33,p.cells,1⟩:PObj):=gS (gL _ _)
 have n1':=e4.look n1 id (z38T _ _).1 (z38T _ _).2
 have n2':=e4.look n2 id (z76T _ _).1 (z76T _ _).2
 have hP4:=hPr ((X3++[z33]).set X3.length (⟨33,p.cells,1⟩:PObj))
 conv=>whnf
 (repeat (first | ((first | (apply exA;(focus exact oN)) | refine bT ?_ | refine bF ?_ | refine bW (bT ?_) | refine bW (bF ?_) | (apply cP;(focus assumption)) | (apply cE;(focus assumption)) | refine ⟨by first | decide | omega,?_⟩);((conv=>whnf))) | ((conv in (_[_]?)=>tactic=>first | exact oL | exact gS (by assumption));(conv=>whnf))))
 refine cO hP4 ?_
 rintro _ X5 ⟨rfl,e5⟩
 have m1:=e5.look n1' id (z38T _ _).1 (z38T _ _).2
 have m2:=e5.look n2' id (z76T _ _).1 (z76T _ _).2
 have m3:=e5.look n3 id (z33T _ _).1 (z33T _ _).2
 have len5:X3.length<X5.length:=(zq1.1 m3).1
 have e6:Evo (fun _=>False) X5 ((X5++[z35]).set X5.length (⟨35,a.cells,1⟩:PObj)):=(Evo.app _ _).put (gL _ _) (z35T _ _).1 (z35T _ _).2 (zqn _) _
 have m4:((X5++[z35]).set X5.length (⟨35,a.cells,1⟩:PObj))[X5.length]? = some (⟨35,a.cells,1⟩:PObj):=gS (gL _ _)
 have m1':=e6.look m1 id (z38T _ _).1 (z38T _ _).2
 have m3':=e6.look m3 id (z33T _ _).1 (z33T _ _).2
 have f6:Evo (fun _=>False) H ((X5++[z35]).set X5.length (⟨35,a.cells,1⟩:PObj)):=f1.trans (e4.trans (e5.trans e6))
 have hA6:=f6.look hA id (accT _ _ _ _ _).1 (accT _ _ _ _ _).2
 have hS6:=f6.look hS id (seeT _ _ _ _).1 (seeT _ _ _ _).2
 have k83:=c83E hA6 hr k134 k135 hlv
 have k84:=c84Z hS6 h0 h1 ht1 ht2
 conv=>whnf
 (repeat (first | ((first | (apply exA;(focus exact oN)) | refine bT ?_ | refine bF ?_ | refine bW (bT ?_) | refine bW (bF ?_) | (apply cP;(focus assumption)) | (apply cE;(focus assumption)) | refine ⟨by first | decide | omega,?_⟩);((conv=>whnf))) | ((conv in (_[_]?)=>tactic=>first | exact oL | exact gS (by assumption));(conv=>whnf))))
 have g6:=Evo.setOther (S:=(·=sid)) hS6 rfl (seeT _ _ _ _).1 (seeT _ _ _ _).2 (o':=seeO (.slice 1 a.cells (some 35)) false 0 (w+2))
 have hsl:sid<H.length:=(zq1.1 hS).1
 have hne:¬aid=sid:=fun e=>by
  subst e
  rw [hA] at hS
  exact absurd (zqm (fun o=>o.map PObj.T) hS) (by intro h;exact absurd (Option.some.inj h) (show ¬122=199 by decide))
 have q1:=g6.look m1' (by omega) (z38T _ _).1 (z38T _ _).2
 have q2:=g6.look hA6 hne (accT _ _ _ _ _).1 (accT _ _ _ _ _).2
 have q3:=g6.look m3' (by omega) (z33T _ _).1 (z33T _ _).2
 have q4:=g6.look m4 (by omega) (z35T _ _).1 (z35T _ _).2
 have hE:∀o,Evo (·=sid) H ((((X5++[z35]).set X5.length (⟨35,a.cells,1⟩:PObj)).set sid (seeO (.slice 1 a.cells (some 35)) false 0 (w+2))).set H.length o):=fun o =>
  Evo.drop (S:=(·=sid)) (((f6.mono fun _ h=>h.elim).trans (g6.mono fun _ h=>.inl h)).trans (Evo.setOther (S:=fun i=>i=sid∨i=H.length) q1 (.inr rfl) (z38T _ _).1 (z38T _ _).2)) (zqn _)
 rcases hlv with rfl | rfl
 ·conv=>whnf
  (repeat (first | ((first | (apply exA;(focus exact oN)) | refine bT ?_ | refine bF ?_ | refine bW (bT ?_) | refine bW (bF ?_) | (apply cP;(focus assumption)) | (apply cE;(focus assumption)) | refine ⟨by first | decide | omega,?_⟩);((conv=>whnf))) | ((conv in (_[_]?)=>tactic=>first | exact oL | exact gS (by assumption));(conv=>whnf))))
  refine dO2 D39 [(X5++[z35]).set X5.length (⟨35,a.cells,1⟩:PObj),((X5++[z35]).set X5.length (⟨35,a.cells,1⟩:PObj)).set sid (seeO (.slice 1 a.cells (some 35)) false 0 (w+2))] (by kernel_rfl) rfl trivial ?_
  conv=>whnf
  (repeat (first | ((first | (apply exA;(focus exact oN)) | refine bT ?_ | refine bF ?_ | refine bW (bT ?_) | refine bW (bF ?_) | (apply cP;(focus assumption)) | (apply cE;(focus assumption)) | refine ⟨by first | decide | omega,?_⟩);((conv=>whnf))) | ((conv in (_[_]?)=>tactic=>first | exact oL | exact gS (by assumption));(conv=>whnf))))
  refine dO2 D39b [((X5++[z35]).set X5.length (⟨35,a.cells,1⟩:PObj)).set sid (seeO (.slice 1 a.cells (some 35)) false 0 (w+2)),(((X5++[z35]).set X5.length (⟨35,a.cells,1⟩:PObj)).set sid (seeO (.slice 1 a.cells (some 35)) false 0 (w+2))).set H.length (⟨38,accC p lE a.tm a.sq,1⟩:PObj)] (by kernel_rfl) rfl trivial ?_
  conv=>whnf
  (repeat (first | ((first | (apply exA;(focus exact oN)) | refine bT ?_ | refine bF ?_ | refine bW (bT ?_) | refine bW (bF ?_) | (apply cP;(focus assumption)) | (apply cE;(focus assumption)) | refine ⟨by first | decide | omega,?_⟩);((conv=>whnf))) | ((conv in (_[_]?)=>tactic=>first | exact oL | exact gS (by assumption));(conv=>whnf))))
  exact ⟨rfl,hE _⟩
 ·conv=>whnf
  (repeat (first | ((first | (apply exA;(focus exact oN)) | refine bT ?_ | refine bF ?_ | refine bW (bT ?_) | refine bW (bF ?_) | (apply cP;(focus assumption)) | (apply cE;(focus assumption)) | refine ⟨by first | decide | omega,?_⟩);((conv=>whnf))) | ((conv in (_[_]?)=>tactic=>first | exact oL | exact gS (by assumption));(conv=>whnf))))
  refine dO2 D39 [(X5++[z35]).set X5.length (⟨35,a.cells,1⟩:PObj),((X5++[z35]).set X5.length (⟨35,a.cells,1⟩:PObj)).set sid (seeO (.slice 1 a.cells (some 35)) false 0 (w+2))] (by kernel_rfl) rfl trivial ?_
  conv=>whnf
  (repeat (first | ((first | (apply exA;(focus exact oN)) | refine bT ?_ | refine bF ?_ | refine bW (bT ?_) | refine bW (bF ?_) | (apply cP;(focus assumption)) | (apply cE;(focus assumption)) | refine ⟨by first | decide | omega,?_⟩);((conv=>whnf))) | ((conv in (_[_]?)=>tactic=>first | exact oL | exact gS (by assumption));(conv=>whnf))))
  refine dO2 D39b [((X5++[z35]).set X5.length (⟨35,a.cells,1⟩:PObj)).set sid (seeO (.slice 1 a.cells (some 35)) false 0 (w+2)),(((X5++[z35]).set X5.length (⟨35,a.cells,1⟩:PObj)).set sid (seeO (.slice 1 a.cells (some 35)) false 0 (w+2))).set H.length (⟨38,accC p .nilS a.tm a.sq,1⟩:PObj)] (by kernel_rfl) rfl trivial ?_
  conv=>whnf
  (repeat (first | ((first | (apply exA;(focus exact oN)) | refine bT ?_ | refine bF ?_ | refine bW (bT ?_) | refine bW (bF ?_) | (apply cP;(focus assumption)) | (apply cE;(focus assumption)) | refine ⟨by first | decide | omega,?_⟩);((conv=>whnf))) | ((conv in (_[_]?)=>tactic=>first | exact oL | exact gS (by assumption));(conv=>whnf))))
  exact ⟨rfl,hE _⟩
theorem c15E {H:PH} {aid rid sid v w:Nat} {ok bad:Int} {l:List Ent} {kv:Int} {e:Ent} {p:Prt} {a:Aut} {now:Int} {lv:PV}
  (hA:H[aid]? = some (accO rid sid ok bad v)) (hS:H[sid]? = some (seeO .nilS false 0 w)) (hR:RingAt H rid l) (hl:l.length≤1000)
  (hL:lastE (isK bE nM kv) l=some e) (hkv:1≤kv∧kv≤255) (hP:zao p=true) (hAu:zax a=true) (h0:0≤now) (h1:now≤1073741824) (hen:now≤p.en) (hst:p.st≤now+5)
  (hr:p.r=aE) (har:a.r=p.r) (han:a.n=p.n) (ht1:a.tm≤now+5) (ht2:now - 5≤a.tm)
  (k134:Pure prog 134 [.str p.tr,.str aE,.str bE] (.tup [lv,.int .i64 0])) (k135:Pure prog 135 [.agg [zgt,zln,.nilS],.str aE,.str bE,lv] (.bool true)) (hlv:lv=lE∨lv=.nilS) :
  CK prog 15 [.ptr (some (aid,0)),sl (laidB (apM kv (sealK e.key 2 5 (partL p)) (sealK (keyB p.k) 11 6 (autL a)))),.int .i64 now] H fun x H' =>
   x=.tup [.agg (accC p lv a.tm a.sq),.int .i64 0]∧Evo (fun i=>i=sid∨i=aid) H H':=by
 have e1:Evo (fun _=>False) H (H++[z38]):=Evo.app H _
 have hm1:(H++[z38])[H.length]? = some z38:=gL H _
 have hA1:=e1.look hA id (accT _ _ _ _ _).1 (accT _ _ _ _ _).2
 have hS1:=e1.look hS id (seeT _ _ _ _).1 (seeT _ _ _ _).2
 have hT:=c39E hA1 hS1 (hR.evo e1 id) hl hL hkv hP hAu h0 h1 hen hst hr har han ht1 ht2 k134 k135 hlv
 generalize sealK e.key 2 5 (partL p)=b1 at *
 generalize sealK (keyB p.k) 11 6 (autL a)=b2 at *
 generalize laidB (apM kv b1 b2)=b at *
 have hsl:sid<H.length:=(zq1.1 hS).1
 have hal:aid<H.length:=(zq1.1 hA).1
 have hne:¬aid=sid:=fun e=>by
  subst e
  rw [hA] at hS
  exact absurd (zqm (fun o=>o.map PObj.T) hS) (by intro h;exact absurd (Option.some.inj h) (show ¬122=199 by decide))
 (refine fnS (imm:=z01) zgg func15 ?_;(conv=>whnf))
 (repeat (first | ((first | (apply exA;(focus exact oN)) | refine bT ?_ | refine bF ?_ | refine bW (bT ?_) | refine bW (bF ?_) | (apply cP;(focus assumption)) | (apply cE;(focus assumption)) | refine ⟨by first | decide | omega,?_⟩);((conv=>whnf))) | ((conv in (_[_]?)=>tactic=>first | exact oL | exact gS (by assumption));(conv=>whnf))))
 refine cO hT ?_
 rintro _ X2 ⟨rfl,e2⟩
 have n1:X2[H.length]? = some z38:=e2.look hm1 (by omega) (z38T _ _).1 (z38T _ _).2
 have n2:=e2.look hA1 hne (accT _ _ _ _ _).1 (accT _ _ _ _ _).2
 have len2:H.length<X2.length:=(zq1.1 n1).1
 have e3:Evo (fun _=>False) X2 ((X2++[z38]).set X2.length (⟨38,accC p lv a.tm a.sq,1⟩:PObj)):=(Evo.app _ _).put (gL _ _) (z38T _ _).1 (z38T _ _).2 (zqn _) _
 have m3:((X2++[z38]).set X2.length (⟨38,accC p lv a.tm a.sq,1⟩:PObj))[X2.length]? = some (⟨38,accC p lv a.tm a.sq,1⟩:PObj):=gS (gL _ _)
 have n1':=e3.look n1 id (z38T _ _).1 (z38T _ _).2
 have n2':=e3.look n2 id (accT _ _ _ _ _).1 (accT _ _ _ _ _).2
 have k40:=c40 (off:=7) (n:=ok) 1 n2' rfl
 have g4:=Evo.setOther (S:=(·=aid)) n2' rfl (accT _ _ _ _ _).1 (accT _ _ _ _ _).2 (o':=⟨122,zaa 7 [.int .i64 (IntKind.i64.wrap (ok+1))] (accO rid sid ok bad v).cs,v+1⟩)
 have q1:=g4.look n1' (by omega) (z38T _ _).1 (z38T _ _).2
 have q3:=g4.look m3 (by omega) (z38T _ _).1 (z38T _ _).2
 have hE:∀o,Evo (fun i=>i=sid∨i=aid) H ((((X2++[z38]).set X2.length (⟨38,accC p lv a.tm a.sq,1⟩:PObj)).set aid ⟨122,zaa 7 [.int .i64 (IntKind.i64.wrap (ok+1))] (accO rid sid ok bad v).cs,v+1⟩).set H.length o):=fun o =>
  Evo.drop (S:=fun i=>i=sid∨i=aid) (((((e1.mono fun _ h=>h.elim).trans (e2.mono fun _ h=>.inl (.inl h))).trans (e3.mono fun _ h=>h.elim)).trans (g4.mono fun _ h=>.inl (.inr h))).trans (Evo.setOther (S:=fun i=>(i=sid∨i=aid)∨i=H.length) q1 (.inr rfl) (z38T _ _).1 (z38T _ _).2)) (zqn _)
 rcases hlv with rfl | rfl
 ·conv=>whnf
  (repeat (first | ((first | (apply exA;(focus exact oN)) | refine bT ?_ | refine bF ?_ | refine bW (bT ?_) | refine bW (bF ?_) | (apply cP;(focus assumption)) | (apply cE;(focus assumption)) | refine ⟨by first | decide | omega,?_⟩);((conv=>whnf))) | ((conv in (_[_]?)=>tactic=>first | exact oL | exact gS (by assumption));(conv=>whnf))))
  exact ⟨rfl,hE _⟩
 ·conv=>whnf
  (repeat (first | ((first | (apply exA;(focus exact oN)) | refine bT ?_ | refine bF ?_ | refine bW (bT ?_) | refine bW (bF ?_) | (apply cP;(focus assumption)) | (apply cE;(focus assumption)) | refine ⟨by first | decide | omega,?_⟩);((conv=>whnf))) | ((conv in (_[_]?)=>tactic=>first | exact oL | exact gS (by assumption));(conv=>whnf))))
  exact ⟨rfl,hE _⟩
def pE (k:Nat→UInt8) (now:Int):Prt:=⟨aE,nA,k,eE,0,now⟩
def aP (now sq:Int):Aut:=⟨aE,nA,now,sq⟩
theorem pE_ok {k:Nat→UInt8} {now:Int} (h0:0≤now) (h1:now≤1073741824):zao (pE k now)=true:=by
 show (zap aE nA&&zby eE&&(inZ 0 0 1073741824&&inZ now 0 1073741824))=true
 rw [show zap aE nA=true by kernel_rfl,show zby eE=true by kernel_rfl,zf7 h0 h1];rfl
theorem aP_ok {now sq:Int} (h0:0≤now) (h1:now≤1073741824) (h2:0≤sq) (h3:sq≤1073741824):zax (aP now sq)=true:=by
 show (zap aE nA&&inZ now 0 1073741824&&inZ sq 0 1073741824)=true
 rw [show zap aE nA=true by kernel_rfl,zf7 h0 h1,zf7 h2 h3];rfl
theorem zhq {d kv:Nat} (kb:UInt8) (e:Ent) (he:lastE (isK bE nM kv) (entsE d)=some e) (hk:e.key=keyK kb) (hkb:kb.toNat=kv) (hb:1≤kv) (k:Nat→UInt8) (now sq:Int)
  (h0:0≤now) (h1:now≤1073741824) (h2:0≤sq) (h3:sq≤1073741824) :
  ∃b,Pure prog 13 [.int .i64 kv,.agg (pE k now).cells,.agg (aP now sq).cells] (.tup [sl b,.bool true])∧∀H,Beg d H→CK prog 15 [.ptr (some (Nat.add 53 d,0)),sl b,.int .i64 now] H fun x H' =>
   x=.tup [.agg (accC (pE k now) lE now sq),.int .i64 0]∧Evo (fun i=>i=Nat.add 52 d∨i=Nat.add 53 d) H H':=by
 have hlt:kv<256:=by have:=kb.toNat_lt;omega
 subst hkb
 refine ⟨_,c13E kb (pE_ok h0 h1) (aP_ok h0 h1 h2 h3) hb,fun H hB=>?_⟩
 rw [←hk]
 exact c15E hB.a hB.s hB.ring (by show 2≤1000;decide) he ⟨by omega,by omega⟩ (pE_ok h0 h1) (aP_ok h0 h1 h2 h3) h0 h1 (Int.le_refl _) (by show (0:Int)≤now+5;omega) rfl rfl rfl (by show now≤now+5;omega) (by show now - 5≤now;omega) c134E c135E (.inl rfl)
theorem e1_ (d:Nat):lastE (isK bE nM (1:Nat)) (entsE d)=some (ent 1 1 (Nat.add 11 d)):=by
 unfold lastE
 rfl
theorem e2_ (d:Nat):lastE (isK bE nM (2:Nat)) (entsE d)=some (ent 2 2 (Nat.add 22 d)):=rfl
def k7:Nat→UInt8:=fun i=>match i with | 0=>7 | _=>0
def ttE2:TT:=[(3,⟨.int .i64,1,8,[.int .i64 0]⟩),(5,⟨.int .u8,1,1,[.int .u8 0]⟩),(9,⟨.str,1,16,[.str []]⟩),(24,⟨.arr 32 5,32,32,List.replicate 32 (.int .u8 0)⟩),(30,⟨.strct [(9,0),(9,1)],2,32,[.str [],.str []]⟩),(36,⟨.slice 9,1,24,[.slice 0 [] (some 9)]⟩),(38,⟨.strct [(30,0),(30,2),(24,4),(36,36),(3,37),(3,38)],39,136,[.str [],.str [],.str [],.str []]++List.replicate 32 (.int .u8 0)++[.slice 0 [] (some 9),.int .i64 0,.int .i64 0]⟩)]
theorem zyt:ttOk prog ttE2=true:=by kernel_rfl
def z1c:List Nat:=[2,3]
theorem fitBE (d:Nat):∀(l:List UInt8),FitAs (FitP ttE2 (d+1) 5) 1 l.length (l.map bC)
 | []=>rfl
 | x::l=>⟨⟨by simp,(x.toNat:Int),rfl⟩,fitBE d l⟩
theorem fitKE (k:Nat→UInt8):FitP ttE2 6 24 (keyC k):=⟨by decide,fitBE 4 (keyB k)⟩
theorem c16E (p:Prt) (tm sq:Int):Pure prog 16 [.agg (accC p lE tm sq),.agg (accC p lE tm sq)] (.bool true):=by
 intro H
 (refine fnS (imm:=z1c) zyt func16 ?_;(conv=>whnf))
 (repeat (first | ((first | (apply exA;(focus exact oN)) | refine bT ?_ | refine bF ?_ | refine bW (bT ?_) | refine bW (bF ?_) | (apply cP;(focus assumption)) | (apply cE;(focus assumption)) | refine ⟨by first | decide | omega,?_⟩);((conv=>whnf))) | ((conv in (_[_]?)=>tactic=>first | exact oL | exact gS (by assumption));(conv=>whnf))))
 refine And.intro ⟨fitKE p.k,fitKE p.k⟩ ⟨fun _=>?_,fun h=>absurd rfl h⟩
 conv=>whnf
 (repeat (first | ((first | (apply exA;(focus exact oN)) | refine bT ?_ | refine bF ?_ | refine bW (bT ?_) | refine bW (bF ?_) | (apply cP;(focus assumption)) | (apply cE;(focus assumption)) | refine ⟨by first | decide | omega,?_⟩);((conv=>whnf))) | ((conv in (_[_]?)=>tactic=>first | exact oL | exact gS (by assumption));(conv=>whnf))))
 refine lO Nat (fun i=>[(2,.elem (accC p lE tm sq)),(3,.elem (accC p lE tm sq)),(5,.int .i64 i)]) (fun _=>H) (fun i=>i≤1) (fun i=>1 - i) ⟨0,by omega,⟨rfl,rfl,rfl,zqv⟩,rfl⟩ ?_
 rintro i hi
 have hi:i=0∨i=1:=by omega
 rcases hi with rfl | rfl
 ·conv=>whnf
  (repeat (first | ((first | (apply exA;(focus exact oN)) | refine bT ?_ | refine bF ?_ | refine bW (bT ?_) | refine bW (bF ?_) | (apply cP;(focus assumption)) | (apply cE;(focus assumption)) | refine ⟨by first | decide | omega,?_⟩);((conv=>whnf))) | ((conv in (_[_]?)=>tactic=>first | exact oL | exact gS (by assumption));(conv=>whnf))))
  (refine dP2 (by kernel_rfl) ?_;(conv=>whnf))
  (repeat (first | ((first | (apply exA;(focus exact oN)) | refine bT ?_ | refine bF ?_ | refine bW (bT ?_) | refine bW (bF ?_) | (apply cP;(focus assumption)) | (apply cE;(focus assumption)) | refine ⟨by first | decide | omega,?_⟩);((conv=>whnf))) | ((conv in (_[_]?)=>tactic=>first | exact oL | exact gS (by assumption));(conv=>whnf))))
  apply exA
  ·conv=>whnf
   refine ⟨⟨by decide,by decide⟩,[.str eE],fun j c hj=>?_,?_⟩
   ·have e:((0:Nat):Int).toNat*1+j=j:=by simp
    show [PV.str eE][((0:Nat):Int).toNat*1+j]? = some c
    rw [e];exact hj
   conv=>whnf
   exact ⟨rfl,rfl,zqv⟩
  conv=>whnf
  (repeat (first | ((first | (apply exA;(focus exact oN)) | refine bT ?_ | refine bF ?_ | refine bW (bT ?_) | refine bW (bF ?_) | (apply cP;(focus assumption)) | (apply cE;(focus assumption)) | refine ⟨by first | decide | omega,?_⟩);((conv=>whnf))) | ((conv in (_[_]?)=>tactic=>first | exact oL | exact gS (by assumption));(conv=>whnf))))
  apply exA
  ·conv=>whnf
   refine ⟨⟨by decide,by decide⟩,[.str eE],fun j c hj=>?_,?_⟩
   ·have e:((0:Nat):Int).toNat*1+j=j:=by simp
    show [PV.str eE][((0:Nat):Int).toNat*1+j]? = some c
    rw [e];exact hj
   conv=>whnf
   exact ⟨rfl,rfl,zqv⟩
  conv=>whnf
  (repeat (first | ((first | (apply exA;(focus exact oN)) | refine bT ?_ | refine bF ?_ | refine bW (bT ?_) | refine bW (bF ?_) | (apply cP;(focus assumption)) | (apply cE;(focus assumption)) | refine ⟨by first | decide | omega,?_⟩);((conv=>whnf))) | ((conv in (_[_]?)=>tactic=>first | exact oL | exact gS (by assumption));(conv=>whnf))))
  exact ⟨1,zqn 1,⟨rfl,rfl,rfl,zqv⟩,rfl,by decide⟩
 ·conv=>whnf
  (repeat (first | ((first | (apply exA;(focus exact oN)) | refine bT ?_ | refine bF ?_ | refine bW (bT ?_) | refine bW (bF ?_) | (apply cP;(focus assumption)) | (apply cE;(focus assumption)) | refine ⟨by first | decide | omega,?_⟩);((conv=>whnf))) | ((conv in (_[_]?)=>tactic=>first | exact oL | exact gS (by assumption));(conv=>whnf))))
  exact ⟨rfl,rfl⟩
def kAt (s:List UInt8) (i:Nat):Nat→UInt8:=fun j=>if j<i then s.getD j 0 else 0
def o24 (k:Nat→UInt8) (v:Nat):PObj:=⟨24,keyC k,v⟩
theorem o24T (k:Nat→UInt8) (v:Nat):(o24 k v).T≠keyT∧(o24 k v).T≠boxT:=⟨fun h=>absurd (show 24=keyT from h) (by decide),fun h=>absurd (show 24=boxT from h) (by decide)⟩
theorem kAt0 (s:List UInt8):keyC (kAt s 0)=List.replicate 32 (.int .u8 0):=by
 have:∀j,kAt s 0 j=0:=fun j=>by unfold kAt;rw [zqo (Nat.not_lt_zero j)]
 unfold keyC
 simp only [this]
 rfl
theorem zsh (k:Nat→UInt8) (b:UInt8):∀i,i<32→zaa i [bC b] (keyC k)=keyC (fun j=>if j=i then b else k j):=by
 intro i hi
 have:i=0∨i=1∨i=2∨i=3∨i=4∨i=5∨i=6∨i=7∨i=8∨i=9∨i=10∨i=11∨i=12∨i=13∨i=14∨i=15∨i=16∨i=17∨i=18∨i=19∨i=20∨i=21∨i=22∨i=23∨i=24∨i=25∨i=26∨i=27∨i=28∨i=29∨i=30∨i=31:=by omega
 rcases this with rfl | rfl | rfl | rfl | rfl | rfl | rfl | rfl | rfl | rfl | rfl | rfl | rfl | rfl | rfl | rfl | rfl | rfl | rfl | rfl | rfl | rfl | rfl | rfl | rfl | rfl | rfl | rfl | rfl | rfl | rfl | rfl <;> rfl
theorem zut {s:List UInt8} {i:Nat} (hi:i<s.length):(fun j=>if j=i then s[i] else kAt s i j)=kAt s (i+1):=by
 funext j
 unfold kAt
 by_cases h:j=i
 ·subst h
  rw [zqp rfl,zqp (Nat.lt_succ_self j),List.getD_eq_getElem?_getD,zqc hi];rfl
 ·rw [zqo h]
  by_cases h2:j<i
  ·rw [zqp h2,zqp (by omega)]
  ·rw [zqo h2,zqo (by omega)]
theorem zuu (k:Nat→UInt8):(keyC k).length=32:=rfl
theorem c3E (s:List UInt8) (hs:s.length≤140737488355328) (sq now kv:Int):CK prog 3 [sl s,.int .i64 sq,.int .i64 now,.int .i64 kv] [] fun r _=>r=.bool true:=by
 (refine fnS (imm:=imm3E) zgg func3 ?_;(conv=>whnf))
 by_cases h1:sq<0
 ·(repeat (first | ((first | (apply exA;(focus exact oN)) | refine bT ?_ | refine bF ?_ | refine bW (bT ?_) | refine bW (bF ?_) | (apply cP;(focus assumption)) | (apply cE;(focus assumption)) | refine ⟨by first | decide | omega,?_⟩);((conv=>whnf))) | ((conv in (_[_]?)=>tactic=>first | exact oL | exact gS (by assumption));(conv=>whnf))));rfl
 by_cases h2:1073741824<sq
 ·(repeat (first | ((first | (apply exA;(focus exact oN)) | refine bT ?_ | refine bF ?_ | refine bW (bT ?_) | refine bW (bF ?_) | (apply cP;(focus assumption)) | (apply cE;(focus assumption)) | refine ⟨by first | decide | omega,?_⟩);((conv=>whnf))) | ((conv in (_[_]?)=>tactic=>first | exact oL | exact gS (by assumption));(conv=>whnf))));rfl
 by_cases h3:now<0
 ·(repeat (first | ((first | (apply exA;(focus exact oN)) | refine bT ?_ | refine bF ?_ | refine bW (bT ?_) | refine bW (bF ?_) | (apply cP;(focus assumption)) | (apply cE;(focus assumption)) | refine ⟨by first | decide | omega,?_⟩);((conv=>whnf))) | ((conv in (_[_]?)=>tactic=>first | exact oL | exact gS (by assumption));(conv=>whnf))));rfl
 by_cases h4:1073741824<now
 ·(repeat (first | ((first | (apply exA;(focus exact oN)) | refine bT ?_ | refine bF ?_ | refine bW (bT ?_) | refine bW (bF ?_) | (apply cP;(focus assumption)) | (apply cE;(focus assumption)) | refine ⟨by first | decide | omega,?_⟩);((conv=>whnf))) | ((conv in (_[_]?)=>tactic=>first | exact oL | exact gS (by assumption));(conv=>whnf))));rfl
 by_cases h5:kv<1
 ·(repeat (first | ((first | (apply exA;(focus exact oN)) | refine bT ?_ | refine bF ?_ | refine bW (bT ?_) | refine bW (bF ?_) | (apply cP;(focus assumption)) | (apply cE;(focus assumption)) | refine ⟨by first | decide | omega,?_⟩);((conv=>whnf))) | ((conv in (_[_]?)=>tactic=>first | exact oL | exact gS (by assumption));(conv=>whnf))));rfl
 by_cases h6:2<kv
 ·(repeat (first | ((first | (apply exA;(focus exact oN)) | refine bT ?_ | refine bF ?_ | refine bW (bT ?_) | refine bW (bF ?_) | (apply cP;(focus assumption)) | (apply cE;(focus assumption)) | refine ⟨by first | decide | omega,?_⟩);((conv=>whnf))) | ((conv in (_[_]?)=>tactic=>first | exact oL | exact gS (by assumption));(conv=>whnf))));rfl
 (repeat (first | ((first | (apply exA;(focus exact oN)) | refine bT ?_ | refine bF ?_ | refine bW (bT ?_) | refine bW (bF ?_) | (apply cP;(focus assumption)) | (apply cE;(focus assumption)) | refine ⟨by first | decide | omega,?_⟩);((conv=>whnf))) | ((conv in (_[_]?)=>tactic=>first | exact oL | exact gS (by assumption));(conv=>whnf))))
 refine lO Nat (fun i=>[(0,sl s),(1,.int .i64 sq),(2,.int .i64 now),(3,.int .i64 kv),(9,.ptr (some (0,0))),(10,.int .i64 i)]) (fun i=>[o24 (kAt s i) (i+1)]) (fun i=>i≤32∧i≤s.length) (fun i=>32 - i) ⟨0,⟨by omega,by omega⟩,⟨rfl,rfl,rfl,rfl,rfl,rfl,zqv⟩,?_⟩ ?_
 ·show _=[PObj.mk 24 (keyC (kAt s 0)) 1]
  rw [kAt0];rfl
 rintro i ⟨hi1,hi2⟩
 by_cases h7:i<32
 ·have h7':(i:Int)<32:=by omega
  by_cases h8:i<s.length
  ·have h8':(i:Int)<s.length:=by omega
   conv=>whnf
   (repeat (first | ((first | (apply exA;(focus exact oN)) | refine bT ?_ | refine bF ?_ | refine bW (bT ?_) | refine bW (bF ?_) | (apply cP;(focus assumption)) | (apply cE;(focus assumption)) | refine ⟨by first | decide | omega,?_⟩);((conv=>whnf))) | ((conv in (_[_]?)=>tactic=>first | exact oL | exact gS (by assumption));(conv=>whnf))))
   have hb:(i:Int).toNat=i:=by omega
   refine ⟨[bC s[i]],fun j c hj=>?_,?_⟩
   ·cases j with
    | zero =>
     simp only [List.getElem?_cons_zero,Option.some.injEq] at hj
     subst hj
     rw [hb,Nat.mul_one,Nat.add_zero,List.getElem?_map,zqc h8];rfl
    | succ j=>simp at hj
   conv=>whnf
   (repeat (first | ((first | (apply exA;(focus exact oN)) | refine bT ?_ | refine bF ?_ | refine bW (bT ?_) | refine bW (bF ?_) | (apply cP;(focus assumption)) | (apply cE;(focus assumption)) | refine ⟨by first | decide | omega,?_⟩);((conv=>whnf))) | ((conv in (_[_]?)=>tactic=>first | exact oL | exact gS (by assumption));(conv=>whnf))))
   ((conv in (Nat.ble _ _)=>tactic=>exact (show Nat.ble (0+(i:Int).toNat*1+1) (keyC (kAt s i)).length=true by rw [Nat.ble_eq,zuu,hb];omega));(conv=>whnf))
   refine ⟨i+1,⟨by omega,by omega⟩,⟨rfl,rfl,rfl,rfl,rfl,?_,zqv⟩,?_,by omega⟩
   ·show PV.int _ (IntKind.i64.wrap ((i:Int)+1))=PV.int _ _
    rw [w64 (by omega) (by omega)];simp
   ·show [PObj.mk 24 (zaa (0+(i:Int).toNat*1) [bC s[i]] (keyC (kAt s i))) (i+1+1)]=[PObj.mk 24 (keyC (kAt s (i+1))) (i+1+1)]
    rw [hb,show 0+i*1=i by omega,zsh _ _ _ h7,zut h8]
  ·have h8':¬(i:Int)<s.length:=by omega
   generalize kAt s i=k
   conv=>whnf
   (repeat (first | ((first | (apply exA;(focus exact oN)) | refine bT ?_ | refine bF ?_ | refine bW (bT ?_) | refine bW (bF ?_) | (apply cP;(focus assumption)) | (apply cE;(focus assumption)) | refine ⟨by first | decide | omega,?_⟩);((conv=>whnf))) | ((conv in (_[_]?)=>tactic=>first | exact oL | exact gS (by assumption));(conv=>whnf))))
   refine cO (c12E1 (o24 k (i+1))) ?_
   rintro _ H1 ⟨rfl,hB,hk0⟩
   have hp:=hB.p
   have k14:=c14E
   have k17:=c17E
   have last:∀(H:PH) (K:PV→PH→Prop),(∀H',K (.bool true) H')→callK prog 18 [] H K:=fun H K h=>cO (c18 H) fun r H' hr=>by rw [hr.1,hr.2];exact h H
   have ht:∃b,Pure prog 13 [.int .i64 kv,.agg (pE k now).cells,.agg (aP now sq).cells] (.tup [sl b,.bool true])∧∀H,Beg 1 H→CK prog 15 [.ptr (some (Nat.add 53 1,0)),sl b,.int .i64 now] H fun x H' =>
     x=.tup [.agg (accC (pE k now) lE now sq),.int .i64 0]∧Evo (fun i=>i=Nat.add 52 1∨i=Nat.add 53 1) H H':=by
    have hk:kv=1∨kv=2:=by omega
    rcases hk with rfl | rfl
    ·exact zhq 1 _ (e1_ 1) rfl rfl (by decide) k now sq (by omega) (by omega) (by omega) (by omega)
    ·exact zhq 2 _ (e2_ 1) rfl rfl (by decide) k now sq (by omega) (by omega) (by omega) (by omega)
   obtain ⟨b,k13,h15⟩:=ht
   have k16:=c16E (pE k now) now sq
   have k18:Pure prog 18 [] (.bool true):=fun H=>c18 H
   conv=>whnf
   (repeat (first | (first | ((first | (apply exA;(focus exact oN)) | refine bT ?_ | refine bF ?_ | refine bW (bT ?_) | refine bW (bF ?_) | (apply cP;(focus assumption)) | (apply cE;(focus assumption)) | refine ⟨by first | decide | omega,?_⟩);((conv=>whnf))) | ((conv in (_[_]?)=>tactic=>first | exact oL | exact gS (by assumption));(conv=>whnf))) | (refine dP2 (by kernel_rfl) ?_;(conv=>whnf))))
   refine cO (h15 H1 hB) ?_
   rintro _ H2 ⟨rfl,hE⟩
   have hk2:=hE.look hk0 (by decide) (o24T _ _).1 (o24T _ _).2
   have hl2:0<H2.length:=(zq1.1 hk2).1
   have hk3:((H2++[z38]).set H2.length (⟨38,accC (pE k now) lE now sq,1⟩:PObj))[0]? = some (o24 k (i+1)):=by rw [zqj (by omega),zq2 hl2];exact hk2
   conv=>whnf
   (repeat (first | ((first | (apply exA;(focus exact oN)) | refine bT ?_ | refine bF ?_ | refine bW (bT ?_) | refine bW (bF ?_) | (apply cP;(focus assumption)) | (apply cE;(focus assumption)) | refine ⟨by first | decide | omega,?_⟩);((conv=>whnf))) | ((conv in (_[_]?)=>tactic=>first | exact oL | exact gS (by assumption));(conv=>whnf))))
   (refine dP2 (by kernel_rfl) ?_;(conv=>whnf))
   (repeat (first | ((first | (apply exA;(focus exact oN)) | refine bT ?_ | refine bF ?_ | refine bW (bT ?_) | refine bW (bF ?_) | (apply cP;(focus assumption)) | (apply cE;(focus assumption)) | refine ⟨by first | decide | omega,?_⟩);((conv=>whnf))) | ((conv in (_[_]?)=>tactic=>first | exact oL | exact gS (by assumption));(conv=>whnf))))
   rfl
 ·have h7':¬(i:Int)<32:=by omega
  generalize kAt s i=k
  conv=>whnf
  (repeat (first | ((first | (apply exA;(focus exact oN)) | refine bT ?_ | refine bF ?_ | refine bW (bT ?_) | refine bW (bF ?_) | (apply cP;(focus assumption)) | (apply cE;(focus assumption)) | refine ⟨by first | decide | omega,?_⟩);((conv=>whnf))) | ((conv in (_[_]?)=>tactic=>first | exact oL | exact gS (by assumption));(conv=>whnf))))
  refine cO (c12E1 (o24 k (i+1))) ?_
  rintro _ H1 ⟨rfl,hB,hk0⟩
  have hp:=hB.p
  have k14:=c14E
  have k17:=c17E
  have last:∀(H:PH) (K:PV→PH→Prop),(∀H',K (.bool true) H')→callK prog 18 [] H K:=fun H K h=>cO (c18 H) fun r H' hr=>by rw [hr.1,hr.2];exact h H
  have ht:∃b,Pure prog 13 [.int .i64 kv,.agg (pE k now).cells,.agg (aP now sq).cells] (.tup [sl b,.bool true])∧∀H,Beg 1 H→CK prog 15 [.ptr (some (Nat.add 53 1,0)),sl b,.int .i64 now] H fun x H' =>
    x=.tup [.agg (accC (pE k now) lE now sq),.int .i64 0]∧Evo (fun i=>i=Nat.add 52 1∨i=Nat.add 53 1) H H':=by
   have hk:kv=1∨kv=2:=by omega
   rcases hk with rfl | rfl
   ·exact zhq 1 _ (e1_ 1) rfl rfl (by decide) k now sq (by omega) (by omega) (by omega) (by omega)
   ·exact zhq 2 _ (e2_ 1) rfl rfl (by decide) k now sq (by omega) (by omega) (by omega) (by omega)
  obtain ⟨b,k13,h15⟩:=ht
  have k16:=c16E (pE k now) now sq
  have k18:Pure prog 18 [] (.bool true):=fun H=>c18 H
  conv=>whnf
  (repeat (first | (first | ((first | (apply exA;(focus exact oN)) | refine bT ?_ | refine bF ?_ | refine bW (bT ?_) | refine bW (bF ?_) | (apply cP;(focus assumption)) | (apply cE;(focus assumption)) | refine ⟨by first | decide | omega,?_⟩);((conv=>whnf))) | ((conv in (_[_]?)=>tactic=>first | exact oL | exact gS (by assumption));(conv=>whnf))) | (refine dP2 (by kernel_rfl) ?_;(conv=>whnf))))
  refine cO (h15 H1 hB) ?_
  rintro _ H2 ⟨rfl,hE⟩
  have hk2:=hE.look hk0 (by decide) (o24T _ _).1 (o24T _ _).2
  have hl2:0<H2.length:=(zq1.1 hk2).1
  have hk3:((H2++[z38]).set H2.length (⟨38,accC (pE k now) lE now sq,1⟩:PObj))[0]? = some (o24 k (i+1)):=by rw [zqj (by omega),zq2 hl2];exact hk2
  conv=>whnf
  (repeat (first | ((first | (apply exA;(focus exact oN)) | refine bT ?_ | refine bF ?_ | refine bW (bT ?_) | refine bW (bF ?_) | (apply cP;(focus assumption)) | (apply cE;(focus assumption)) | refine ⟨by first | decide | omega,?_⟩);((conv=>whnf))) | ((conv in (_[_]?)=>tactic=>first | exact oL | exact gS (by assumption));(conv=>whnf))))
  (refine dP2 (by kernel_rfl) ?_;(conv=>whnf))
  (repeat (first | ((first | (apply exA;(focus exact oN)) | refine bT ?_ | refine bF ?_ | refine bW (bT ?_) | refine bW (bF ?_) | (apply cP;(focus assumption)) | (apply cE;(focus assumption)) | refine ⟨by first | decide | omega,?_⟩);((conv=>whnf))) | ((conv in (_[_]?)=>tactic=>first | exact oL | exact gS (by assumption));(conv=>whnf))))
  rfl
end Go.Proofs.Tryz
namespace Go.Proofs.YtikacleldnaphaaGreatDoor
open Go Go.RowKit Ps
theorem zim {k:IntKind}:∀{rs:List (List PV)},(∀r∈rs,∃x,r=[.int k x]∧(Lit.int k x).wf=true)→∃xs:List Int,rs.length=xs.length∧rs.flatten=xs.map (.int k)∧∀x∈xs,(Lit.int k x).wf=true
 | [],_=>⟨[],rfl,rfl,fun x h=>by cases h⟩
 | r::rs,h=>by
  obtain ⟨x,rfl,hx⟩:=h r List.mem_cons_self
  obtain ⟨xs,h1,h2,h3⟩:=zim fun r hr=>h r (List.mem_cons_of_mem _ hr)
  exact ⟨x::xs,by simp [h1],by simp [h2],fun y hy=>by
   rcases List.mem_cons.1 hy with rfl | hy
   ·exact hx
   ·exact h3 y hy⟩
theorem zg9:∀{xs:List Int},(∀x∈xs,(Lit.int .u8 x).wf=true)→∃bs:List UInt8,xs.length=bs.length∧xs.map (PV.int .u8)=bs.map bC
 | [],_=>⟨[],rfl,rfl⟩
 | x::xs,h=>by
  obtain ⟨bs,h1,h2⟩:=zg9 fun y hy=>h y (List.mem_cons_of_mem _ hy)
  have hx:=bounds_u8 (h x List.mem_cons_self)
  refine ⟨UInt8.ofNat x.toNat::bs,by simp [h1],?_⟩
  rw [List.map_cons,List.map_cons,h2]
  congr 1
  show PV.int .u8 x=.int .u8 _
  rw [UInt8.toNat_ofNat']
  congr 1;omega
theorem own:ownKnob Tryz.prog.godebug=none:=by kernel_rfl
theorem laidOut:laidOutB Tryz.prog=true:=by kernel_rfl
def litV:DataW Unit→Value
 | .lit (.int k n)=>.int k n
 | _=>Go.undef
def litVs:DataW Unit→List Value
 | .agg l=>l.map litV
 | d=>[litV d]
def tabVs:DataW Unit→List Value
 | .agg l=>l.flatMap litVs
 | _=>[]
def zr3 (l:List Value):Obj→Obj
 | .cells _ t frozen=>.cells l.toArray t frozen
 | o=>o
noncomputable def laidWorld (os:Os):World :=
 { World.holding Tryz.prog os ⟨#[],#[],[]⟩ with heap:=((World.holding Tryz.prog os ⟨#[],#[],[]⟩).heap.modify 0 (zr3 (tabVs Rows.laid_unicode_utf8_first))).modify 1 (zr3 (tabVs Rows.laid_unicode_utf8_acceptRanges)) }
theorem laid_met (os : Os) (args : Array Value) : laidMet Tryz.prog [("unicode/utf8.acceptRanges", Rows.laid_unicode_utf8_acceptRanges), ("unicode/utf8.first", Rows.laid_unicode_utf8_first)] ((laidWorld os).forCall (fun _ _ => 0) ⟨#[], args, []⟩).memory :=
 laidMet_of_run' 8 (by kernel_rfl) (by kernel_rfl)
theorem varsB (os:Os) (args:Array Value):((laidWorld os).forCall (fun _ _=>0) ⟨#[],args,[]⟩).variablesB Tryz.checked.prog=true:=by kernel_rfl
theorem heapB (os : Os) (args : Array Value) : (((laidWorld os).forCall (fun _ _ => 0) ⟨#[], args, []⟩).heap.toList.drop Tryz.checked.prog.globals.size).take ((begin Tryz.checked.prog (fun _ _ => 0) default).world.heap.size - Tryz.checked.prog.globals.size) =
      (begin Tryz.checked.prog (fun _ _ => 0) default).world.heap.toList.drop Tryz.checked.prog.globals.size := by kernel_rfl
theorem zya:false=Tryz.prog.looks []:=by kernel_rfl
theorem plainOf {name:String} {k:Nat} {g:Func} (hn:Tryz.prog.funcNamed name=some k) (hg:Tryz.prog.funcs[k]? = some g) (hall:(g.params.toList.all fun t=>Tryz.prog.wantsStandIn t==false)=true)
  (f:FuncId) (fn:Func) (hf:Tryz.pinned.checked.prog.funcNamed name=some f) (hfn:Tryz.pinned.checked.prog.funcs[f]? = some fn) :
  false=Tryz.pinned.checked.prog.looks []∧∀(j:Nat) t,fn.params[j]? = some t→Tryz.pinned.checked.prog.wantsStandIn t=false:=by
 obtain rfl:f=k:=Option.some.inj (hn.symm.trans hf) |>.symm
 obtain rfl:fn=g:=(Option.some.inj (hg.symm.trans hfn)).symm
 refine ⟨zya,fun j t ht=>?_⟩
 have h:Tryz.prog.wantsStandIn t=false:=by simpa using List.all_eq_true.1 hall t (Array.mem_toList_iff.2 (Array.mem_of_getElem? ht))
 exact h
end Go.Proofs.YtikacleldnaphaaGreatDoor
namespace Go.Proofs.Tryz
open Go Ps Go.RowKit
theorem rdInt {B n:Nat} {ps:List PV} (h:RdP prog B (n+1) 3 ps):∃i,ps=[.int .i64 i]∧(Lit.int .i64 i).wf=true:=h
open Go Ps
open Go.Proofs.YtikacleldnaphaaGreatDoor (zim zg9)
theorem rdBytes1 {B n:Nat} {ps:List PV} (h:RdP prog B (n+2) 22 ps):∃b:List UInt8,ps=[sl b]∧b.length≤B:=by
 obtain ⟨rs,rfl,hb,_,hr⟩:∃rs:List (List PV),ps=[.slice rs.length rs.flatten none]∧rs.length*prog.bytesOf 5≤B∧rs.length≤9223372036854775807∧∀r∈rs,r.length=prog.cellsOf 5∧RdP prog B (n+1) 5 r:=h
 obtain ⟨xs,e1,e2,e3⟩:=zim (k:=.u8) fun r hr'=>(hr r hr').2
 obtain ⟨bs,e4,e5⟩:=zg9 e3
 refine ⟨bs,by unfold sl;rw [e1,e2,e4,e5],?_⟩
 have hb:rs.length*1≤B:=hb
 omega
end Go.Proofs.Tryz
