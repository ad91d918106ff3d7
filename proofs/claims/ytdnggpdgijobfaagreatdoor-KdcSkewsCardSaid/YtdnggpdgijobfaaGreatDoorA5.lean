import Derived.Test.YtdnggpdgijobfaaGreatDoorA2
import Derived.Test.YtdnggpdgijobfaaGreatDoorA4
import Derived.Test.YtdnggpdgijobfaaGreatDoorA3
set_option linter.all false
set_option maxRecDepth 100000
set_option maxHeartbeats 2000000
namespace Go.Proofs.Tryz
open Go Ps
def imm149t:List Nat:=[]
def imm150t:List Nat:=[]
def imm151t:List Nat:=[]
def imm96t:List Nat:=[]
theorem allStr (l:List (List UInt8)):(l.map PV.str).all oneP=true:=List.all_eq_true.2 fun x hx=>by obtain ⟨b,_,rfl⟩:=List.mem_map.1 hx;rfl
theorem allPr (l:List Pr):(l.flatMap prC).all oneP=true:=List.all_eq_true.2 fun x hx=>by
 obtain ⟨b,_,hb⟩:=List.mem_flatMap.1 hx
 have hb:x∈[PV.str b.1,.str b.2]:=hb
 simp at hb
 rcases hb with rfl | rfl <;> rfl
theorem c149 (l:List (List UInt8)) (o:Option Nat) (hb:l.length≤1000000):Pure prog 149 [.slice l.length (l.map .str) o] (.slice l.length (l.map .str) (some 9)):=by
 intro H
 have ho:([.slice l.length (l.map .str) o]:List PV).map dem=[.slice l.length (l.map .str) none]:=by cases o <;> rfl
 (refine fnS (imm:=imm149t) ttT_ok func149 ?_;(conv=>whnf))
 have happ:(0+l.length)*16≤140737488355328∧(l.map PV.str).length=l.length*1∧(l.map PV.str).all oneP=true:=⟨by omega,by simp,allStr l⟩
 cases o
 all_goals
  refine ⟨fun h=>?_,fun h=>⟨?_,?_⟩⟩
  ·conv=>whnf
   refine ⟨happ,?_⟩
   conv=>whnf
   exact ⟨by rw [Nat.zero_add];rfl,rfl⟩
  ·conv=>whnf
   have e:l=[]:=List.length_eq_zero_iff.1 h
   subst e
   exact ⟨rfl,rfl⟩
  ·conv=>whnf
   refine ⟨happ,?_⟩
   conv=>whnf
   exact ⟨by rw [Nat.zero_add];rfl,rfl⟩
theorem c150 (l:List Pr) (o:Option Nat) (hb:l.length≤1000000):Pure prog 150 [.slice l.length (l.flatMap prC) o] (.slice l.length (l.flatMap prC) (some 200)):=by
 intro H
 (refine fnS (imm:=imm150t) ttT_ok func150 ?_;(conv=>whnf))
 have happ:(0+l.length)*32≤140737488355328∧(l.flatMap prC).length=l.length*2∧(l.flatMap prC).all oneP=true:=⟨by omega,prC_flat_len l,allPr l⟩
 cases o
 all_goals
  refine ⟨fun h=>?_,fun h=>⟨?_,?_⟩⟩
  ·conv=>whnf
   refine ⟨happ,?_⟩
   conv=>whnf
   exact ⟨by rw [Nat.zero_add];rfl,rfl⟩
  ·conv=>whnf
   have e:l=[]:=List.length_eq_zero_iff.1 h
   subst e
   exact ⟨rfl,rfl⟩
  ·conv=>whnf
   refine ⟨happ,?_⟩
   conv=>whnf
   exact ⟨by rw [Nat.zero_add];rfl,rfl⟩
theorem c151 (o:Option Nat):Pure prog 151 [.slice 0 [] o] (.slice 0 [] (some 261)):=by
 intro H
 (refine fnS (imm:=imm151t) ttT_ok func151 ?_;(conv=>whnf))
 cases o
 all_goals
  refine ⟨fun h=>absurd h (by decide),fun h=>⟨?_,?_⟩⟩
  ·conv=>whnf
   exact ⟨rfl,rfl⟩
  ·conv=>whnf
   refine ⟨⟨by decide,rfl,rfl⟩,?_⟩
   conv=>whnf
   exact ⟨rfl,rfl⟩
def D96:Draw:={ imp:=[10,12,14],win:=[(11,1,1),(12,1,1),(13,2,2),(14,2,2)] }
def trO (rs:List (List UInt8)) (ls:List Pr) (a b c:Option Nat) (v:Nat):PObj:=⟨92,treeC rs ls a b c,v⟩
theorem c96x (rs:List (List UInt8)) (ls:List Pr) (h1:rs.length≤1000000) (h2:ls.length≤1000000) (H:PH) :
  CallOk prog 96 [.agg (treeC rs ls none none none)] H fun r H'=>r=.agg (treeC rs ls none none none)∧∃ext,H'=H++ext:=by
 (refine fnS (imm:=imm96t) ttT_ok func96 ?_;(conv=>whnf))
 have a0:∀A B:PObj,(H++[A]++[B])[H.length]? = some A:=fun A B=>by simp
 have sA:∀A B A':PObj,(H++[A]++[B]).set H.length A'=H++[A']++[B]:=fun A B A'=>by simp
 have hB:∀A B:PObj,(H++[A]++[B])[(H++[A]).length]? = some B:=fun A B=>get_last _ _
 have sB:∀A B B':PObj,(H++[A]++[B]).set (H++[A]).length B'=H++[A]++[B']:=fun A B B'=>set_last _ _ _
 refine drawK_of2 D96 [H++[trO rs ls none none none 0]++[trO [] [] (some 9) (some 200) (some 261) 0],H++[trO rs ls none none none 1]++[trO [] [] (some 9) (some 200) (some 261) 0],H++[trO rs ls none none none 2]++[trO [] [] (some 9) (some 200) (some 261) 0],H++[trO rs ls none none none 3]++[trO [] [] (some 9) (some 200) (some 261) 0]] (by kernel_rfl) rfl trivial ?_
 conv=>whnf
 (refine dS ?_;(conv=>whnf))
 apply Exists.intro
 apply And.intro
 ·conv=>whnf
  ((conv in (_[_]?)=>tactic=>exact a0 _ _);(conv=>whnf))
  exact ⟨rfl,rfl,trivial⟩
 conv=>whnf
 refine ⟨_,callK_pure (c149 rs none h1) ⟨rfl,rfl,trivial⟩,?_⟩
 conv=>whnf
 (refine dS ?_;(conv=>whnf))
 apply Exists.intro
 apply And.intro
 ·conv=>whnf
  ((conv in (_[_]?)=>tactic=>exact a0 _ _);(conv=>whnf))
  exact ⟨rfl,rfl,trivial⟩
 conv=>whnf
 refine ⟨_,callK_pure (c150 ls none h2) ⟨rfl,rfl,trivial⟩,?_⟩
 conv=>whnf
 (refine dS ?_;(conv=>whnf))
 apply Exists.intro
 apply And.intro
 ·conv=>whnf
  ((conv in (_[_]?)=>tactic=>exact a0 _ _);(conv=>whnf))
  exact ⟨rfl,rfl,trivial⟩
 conv=>whnf
 refine ⟨_,callK_pure (c151 none) ⟨rfl,rfl,trivial⟩,?_⟩
 conv=>whnf
 (refine dS ?_;(conv=>whnf))
 apply Exists.intro
 apply And.intro
 ·conv=>whnf
  ((conv in (_[_]?)=>tactic=>exact a0 _ _);(conv=>whnf))
  exact ⟨rfl,sA _ _ _,trivial⟩
 conv=>whnf
 (refine dS ?_;(conv=>whnf))
 apply Exists.intro
 apply And.intro
 ·conv=>whnf
  ((conv in (_[_]?)=>tactic=>exact a0 _ _);(conv=>whnf))
  exact ⟨rfl,sA _ _ _,trivial⟩
 conv=>whnf
 (refine dS ?_;(conv=>whnf))
 apply Exists.intro
 apply And.intro
 ·conv=>whnf
  ((conv in (_[_]?)=>tactic=>exact a0 _ _);(conv=>whnf))
  exact ⟨rfl,sA _ _ _,trivial⟩
 conv=>whnf
 ((conv in (_[_]?)=>tactic=>exact a0 (trO rs ls none none none 3) (trO [] [] (some 9) (some 200) (some 261) 0));(conv=>whnf))
 have el:∀A:PObj,(H++[A]).length=H.length+1:=fun A=>by simp
 refine loopK_of Unit (fun _=>[(1,.ptr (some (H.length,0))),(2,.ptr (some (H.length+1,0))),(19,.int .i64 0),(20,.int .i64 0)]) (fun _=>H++[trO rs ls none none none 3]++[trO [] [] (some 9) (some 200) (some 261) 0]) (fun _=>True) (fun _=>0) ⟨(),trivial,⟨rfl,by rw [←el];rfl,rfl,rfl,trivial⟩,rfl⟩ ?_
 rintro _ _
 conv=>whnf
 refine ⟨fun h=>absurd (show (0:Int)<0 from h) (by decide),fun _=>?_⟩
 conv=>whnf
 ((conv in (_[_]?)=>tactic=>exact a0 (trO rs ls none none none 3) (trO [] [] (some 9) (some 200) (some 261) 0));(conv=>whnf))
 have hB':∀A B:PObj,(H++[A]++[B])[H.length+1]? = some B:=fun A B=>by rw [←el A];exact hB A B
 have sB':∀A B B':PObj,(H++[A]++[B]).set (H.length+1) B'=H++[A]++[B']:=fun A B B'=>by rw [←el A];exact sB A B B'
 ((conv in (_[_]?)=>tactic=>exact hB' _ _);(conv=>whnf))
 ((conv in (_[_]?)=>tactic=>exact (show ((H++[_]++[_]).set (H.length+1) _)[H.length+1]? = some _ from get_set (hB' _ _)));(conv=>whnf))
 refine ⟨rfl,[trO rs ls none none none 3,trO rs ls none none none 1],?_⟩
 exact (sB' _ _ _).trans (List.append_assoc _ _ _)
theorem oldPs_str:∀l:List (List UInt8),oldPs (l.map PV.str)=true
 | []=>rfl
 | x::l=>by
  show (true&&oldPs (l.map PV.str))=true
  rw [oldPs_str l];rfl
theorem oldPs_pr:∀l:List Pr,oldPs (l.flatMap prC)=true
 | []=>rfl
 | x::l=>by
  rw [List.flatMap_cons]
  show (true&&(true&&oldPs (l.flatMap prC)))=true
  rw [oldPs_pr l];rfl
theorem treeC_old (rs:List (List UInt8)) (ls:List Pr):oldR (.agg (treeC rs ls none none none))=true:=by
 show (oldPs (rs.map PV.str)&&(oldPs (ls.flatMap prC)&&true))=true
 rw [oldPs_str,oldPs_pr];rfl
theorem c96 (rs:List (List UInt8)) (ls:List Pr) (h1:rs.length≤1000000) (h2:ls.length≤1000000):Pure prog 96 [.agg (treeC rs ls none none none)] (.agg (treeC rs ls none none none)):=fun H =>
 ((c96x rs ls h1 h2 H).gc fun r H' hh=>⟨by rw [hh.1];exact treeC_old rs ls,hh.2⟩).mono fun x H' hh=>⟨hh.2.elim fun _ h=>h.1,hh.1⟩
def edu:List UInt8:=[69,68,85]
def aedu:List UInt8:=[65,46,69,68,85]
def bedu:List UInt8:=[66,46,69,68,85]
def rs0:List (List UInt8):=[aedu,edu,bedu]
def ls0:List Pr:=[(aedu,edu),(edu,aedu),(edu,bedu),(bedu,edu)]
theorem tree0:Tree rs0 ls0 where
 pos:=by decide
 six:=by decide
 nd:=by decide
 len:=by decide
 nl:=by decide
 good:=by
  intro p hp
  have:(decide (p.1∈rs0)&&decide (p.2∈rs0)&&decide (p.1≠p.2))=true:=by
   revert p
   rw [←List.all_eq_true (l:=ls0)]
   decide
  simp only [Bool.and_eq_true,decide_eq_true_eq] at this
  exact ⟨this.1.1,this.1.2,this.2⟩
 is:=by
  intro r hr
  have:(decide ((labelsB r).1≠0)&&decide (r.length≤1000))=true:=by
   revert r
   rw [←List.all_eq_true (l:=rs0)]
   kernel_rfl
  simp only [Bool.and_eq_true,decide_eq_true_eq] at this
  exact this
def imm42t:List Nat:=[]
theorem c42x (H:PH):CallOk prog 42 [] H fun r H'=>r=.agg (treeC rs0 ls0 none none none)∧∃ext,H'=H++ext:=by
 (refine fnS (imm:=imm42t) ttT_ok func42 ?_;(conv=>whnf))
 ((conv in (_[_]?)=>tactic=>exact get_last H _);(conv=>whnf))
 ((conv in (_[_]?)=>tactic=>exact (show ((H++[_]).set H.length _)[H.length]? = some _ from get_set (get_last H _)));(conv=>whnf))
 refine ⟨rfl,[⟨92,treeC rs0 ls0 none none (some 261),1⟩],?_⟩
 show (H++[_]).set H.length _=_
 rw [set_last];rfl
theorem c42:Pure prog 42 [] (.agg (treeC rs0 ls0 none none none)):=fun H =>
 ((c42x H).gc fun r H' hh=>⟨by rw [hh.1];exact treeC_old rs0 ls0,hh.2⟩).mono fun x H' hh=>⟨hh.2.elim fun _ h=>h.1,hh.1⟩
def ttKn:TT:=[(3,⟨.int .i64,1,8,[.int .i64 0]⟩),(4,⟨.bool,1,1,[.bool false]⟩),(5,⟨.int .u8,1,1,[.int .u8 0]⟩),(9,⟨.str,1,16,[.str []]⟩),(2,⟨.int .i64,1,8,[.int .i64 0]⟩),(31,⟨.int .i64,1,8,[.int .i64 0]⟩),(33,⟨.ptr,1,8,[.ptr none]⟩),(88,⟨.slice 9,1,24,[.slice 0 [] (some 9)]⟩),(89,⟨.slice 200,1,24,[.slice 0 [] (some 200)]⟩),(90,⟨.slice 261,1,24,[.slice 0 [] (some 261)]⟩),(92,⟨.strct [(88,0),(89,1),(90,2)],3,72,[.slice 0 [] (some 9),.slice 0 [] (some 200),.slice 0 [] (some 261)]⟩),(110,⟨.ptr,1,8,[.ptr none]⟩),(132,⟨.strB [(129,0),(130,0),(2,0)],1,8,[.int .i64 0]⟩),(134,⟨.strct [(9,0),(92,1),(110,4),(132,5),(132,6)],7,112,[.str [],.slice 0 [] (some 9),.slice 0 [] (some 200),.slice 0 [] (some 261),.ptr none,.int .i64 0,.int .i64 0]⟩),(200,⟨.arr 2 9,2,32,[.str [],.str []]⟩),(261,⟨.strct [(9,0),(9,1),(88,2)],3,56,[.str [],.str [],.slice 0 [] (some 9)]⟩)]
theorem ttKn_ok:ttOk prog ttKn=true:=by kernel_rfl
def imm41t:List Nat:=[4]
theorem c41 {rs:List (List UInt8)} {ls:List Pr} (t:Tree rs ls) (r:List UInt8) (hr:r∈rs) (rid off:Nat) (H:PH) :
  CallOk prog 41 [.str r,.agg (treeC rs ls none none none),.ptr (some (rid,off))] H fun x H'=>x=.tup [.ptr (some (H.length,0)),.int .i64 0] ∧
   H'=H++[⟨134,[.str r,.slice rs.length (rs.map .str) none,.slice ls.length (ls.flatMap prC) none,.slice 0 [] none,.ptr (some (rid,off)),.int .i64 0,.int .i64 0],0⟩]:=by
 have h2:=t.six
 have h3:=t.len
 (refine fnS (imm:=imm41t) ttKn_ok func41 ?_;(conv=>whnf))
 refine callK_of (c94x t none none none H) ?_
 rintro _ _ ⟨rfl,rfl⟩
 conv=>whnf
 refine callK_pure (c95 rs r none (by omega)) ?_
 rw [decide_eq_true hr]
 conv=>whnf
 refine callK_pure (c96 rs ls (by omega) (by omega)) ?_
 conv=>whnf
 exact ⟨rfl,rfl⟩
def imm101t:List Nat:=[]
def imm156t:List Nat:=[]
def imm100t:List Nat:=[1]
theorem c101r (l:List (List UInt8)) (x:List UInt8) (o:Option Nat) (hs:l.length≤1099511627775):Pure prog 101 [.slice l.length (l.map .str) o,.str x] (.int .i64 (idxF (fun y=>decide (y=x)) l)):=by
 intro H
 generalize hp:(fun y=>decide (y=x))=p
 (refine fnS (imm:=imm101t) ttT_ok func101 ?_;(conv=>whnf))
 refine loopK_of Nat (fun i=>[(0,.slice l.length (l.map .str) none),(1,.str x),(5,.int .i64 i)]) (fun _=>H)
  (fun i=>i≤l.length∧idxF p l=if idxF p (l.drop i)<0 then -1 else idxF p (l.drop i)+i) (fun i=>l.length - i) ⟨0,⟨Nat.zero_le _,by have:=idxF_ge p l;simp;omega⟩,⟨?_,rfl,rfl,trivial⟩,rfl⟩ ?_
 ·cases o <;> rfl
 rintro i ⟨h1,h2⟩
 conv=>whnf
 refine ⟨fun h3=>?_,fun h3=>?_⟩
 ·conv=>whnf
  have h3:(i:Int)<l.length:=h3
  have hi:i<l.length:=by omega
  have hgi:=List.getElem?_eq_getElem hi
  refine ⟨⟨by omega,h3⟩,[.str l[i]],elem_cells l hgi,?_⟩
  conv=>whnf
  have hdr:=List.drop_eq_getElem_cons hi
  have hge:=idxF_ge p (l.drop (i+1))
  rw [hdr,idxF_cons] at h2
  refine ⟨fun h5=>?_,fun h5=>?_⟩
  ·conv=>whnf
   have hb:p l[i]=true:=by rw [←hp];exact decide_eq_true h5
   rw [hb] at h2
   refine ⟨?_,rfl⟩
   show PV.int _ _=PV.int _ _
   rw [h2];simp
  ·conv=>whnf
   have hb:p l[i]=false:=by rw [←hp];exact decide_eq_false h5
   rw [hb] at h2
   refine ⟨i+1,⟨by omega,?_⟩,⟨rfl,rfl,?_,trivial⟩,rfl,by omega⟩
   ·rw [h2]
    simp only [Bool.false_eq_true,if_false]
    split <;> split <;> (try split) <;> omega
   ·show PV.int _ (IntKind.i64.wrap ((i:Int)+1))=PV.int _ _
    rw [wrap64 (by omega) (by omega)];simp
 ·conv=>whnf
  have h3:¬(i:Int)<l.length:=h3
  refine ⟨?_,rfl⟩
  show PV.int _ _=PV.int _ _
  rw [h2,List.drop_eq_nil_of_le (by omega)];simp [idxF]
theorem place {l:List (List UInt8)} {x:List UInt8}:(0≤idxF (fun y=>decide (y=x)) l↔x∈l):=by
 rw [idxF_neg,List.any_eq_true]
 constructor
 ·rintro ⟨y,hy,e⟩;rw [←of_decide_eq_true e];exact hy
 ·intro h;exact ⟨x,h,decide_eq_true rfl⟩
theorem c156 {rs:List (List UInt8)} (o:Option Nat) (h0:0<rs.length) (h6:rs.length≤6) (hnd:rs.Nodup) (his:∀r∈rs,isRealmB r=true∧r.length≤1000):Pure prog 156 [.slice rs.length (rs.map .str) o] (.bool true):=by
 intro H
 (refine fnS (imm:=imm156t) ttT_ok func156 ?_;(conv=>whnf))
 refine loopK_of Nat (fun i=>[(0,.slice rs.length (rs.map .str) none),(3,.int .i64 i)]) (fun _=>H) (fun i=>i≤rs.length) (fun i=>rs.length - i) ⟨0,Nat.zero_le _,⟨?_,rfl,trivial⟩,rfl⟩ ?_
 ·cases o <;> rfl
 rintro i h1
 replace h1:i≤rs.length:=h1
 conv=>whnf
 refine ⟨fun h3=>?_,fun h3=>?_⟩
 ·conv=>whnf
  have h3:(i:Int)<rs.length:=h3
  have hi:i<rs.length:=by omega
  have hgi:=List.getElem?_eq_getElem hi
  obtain ⟨hr1,hr2⟩:=his _ (List.getElem_mem hi)
  have h78:Pure prog 78 [.str rs[i]] (.bool true):=(c78 rs[i] (by omega)).of_eq (by rw [hr1])
  have hnm:rs[i] ∉ rs.take i:=((nodup_take hi).1 (nodup_of hnd)).2
  have ha:[PV.slice ((i:Int).toNat - 0) (List.drop (0*1) (List.take ((i:Int).toNat*1) (rs.map PV.str))) none,.str rs[i]]=[.slice (rs.take i).length ((rs.take i).map .str) none,.str rs[i]]:=by
   have e:(rs.take i).length=i:=by rw [List.length_take];omega
   rw [e,List.map_take,Int.toNat_natCast,Nat.sub_zero,Nat.mul_one,Nat.mul_one,List.drop_zero]
  refine drawK_pure2 (by kernel_rfl) ?_
  conv=>whnf
  iterate 2 (refine dS ?_;(conv=>whnf))
  apply Exists.intro
  apply And.intro
  ·conv=>whnf
   exact ⟨⟨by omega,h3⟩,[.str rs[i]],elem_cells rs hgi,rfl,rfl,trivial⟩
  conv=>whnf
  (refine dS ?_;(conv=>whnf))
  refine ⟨_,callK_pure h78 ⟨rfl,rfl,trivial⟩,?_⟩
  conv=>whnf
  iterate 4 (refine dS ?_;(conv=>whnf))
  apply Exists.intro
  apply And.intro
  ·conv=>whnf
   exact ⟨⟨by decide,by omega,by omega⟩,rfl,rfl,trivial⟩
  conv=>whnf
  iterate 2 (refine dS ?_;(conv=>whnf))
  apply Exists.intro
  apply And.intro
  ·conv=>whnf
   exact ⟨⟨by omega,h3⟩,[.str rs[i]],elem_cells rs hgi,rfl,rfl,trivial⟩
  conv=>whnf
  (refine dS ?_;(conv=>whnf))
  refine ⟨_,callK_args ha (callK_pure (c101r (rs.take i) rs[i] none (by simp;omega)) ⟨rfl,rfl,trivial⟩),?_⟩
  conv=>whnf
  refine ⟨.bool false,?_,?_⟩
  ·conv=>whnf
   exact ⟨fun h=>absurd (place.1 h) hnm,fun _=>⟨rfl,rfl,trivial⟩⟩
  conv=>whnf
  (refine dS ?_;(conv=>whnf))
  conv=>whnf
  refine ⟨i+1,by omega,⟨rfl,?_,trivial⟩,rfl,by omega⟩
  show PV.int _ (IntKind.i64.wrap ((i:Int)+1))=PV.int _ _
  rw [wrap64 (by omega) (by omega)];simp
 ·conv=>whnf
  refine ⟨fun _=>?_,fun h=>absurd (show (1:Int)≤rs.length by omega) h⟩
  conv=>whnf
  refine ⟨fun _=>?_,fun h=>absurd (show (rs.length:Int)≤6 by omega) h⟩
  conv=>whnf
  exact ⟨rfl,rfl⟩
theorem c100 {rs:List (List UInt8)} {ls:List Pr} (t:Tree rs ls) (his:∀r∈rs,isRealmB r=true∧r.length≤1000) (o1 o2 o3:Option Nat) (H:PH) :
  CallOk prog 100 [.agg (treeC rs ls o1 o2 o3)] H fun r H'=>r=.bool true∧∃ext,H'=H++ext:=by
 have h1:=t.pos
 have h2:=t.six
 have h3:=t.len
 (refine fnS (imm:=imm100t) ttT_ok func100 ?_;(conv=>whnf))
 refine callK_args (args':=[.slice rs.length (rs.map .str) none]) (by cases o1 <;> rfl) (callK_pure (c156 none h1 h2 t.nd his) ?_)
 conv=>whnf
 refine ⟨fun h=>absurd (show (20:Int)<ls.length from h) (by omega),fun _=>?_⟩
 conv=>whnf
 refine ⟨fun h=>absurd (show (8:Int)<0 from h) (by decide),fun _=>?_⟩
 conv=>whnf
 refine loopK_of (Nat×PH) (fun s=>[(1,.elem (treeC rs ls o1 o2 o3)),(3,.int .i64 s.1)]) (fun s=>H++s.2) (fun s=>s.1≤ls.length) (fun s=>ls.length - s.1) ⟨(0,[]),Nat.zero_le _,⟨rfl,rfl,trivial⟩,(List.append_nil H).symm⟩ ?_
 rintro ⟨i,X⟩ k1
 replace k1:i≤ls.length:=k1
 conv=>whnf
 refine ⟨fun k3=>?_,fun k3=>?_⟩
 ·conv=>whnf
  have k3:(i:Int)<ls.length:=k3
  have hi:i<ls.length:=by omega
  have hgi:=List.getElem?_eq_getElem hi
  obtain ⟨g1,g2,g3⟩:=t.good _ (List.getElem_mem hi)
  refine ⟨⟨by omega,k3⟩,prC ls[i],pr_cells ls hgi,?_⟩
  conv=>whnf
  ((conv in (_[_]?)=>tactic=>exact get_last (H++X) _);(conv=>whnf))
  have hat:∀A B:PObj,(((H++X)++[A]).set (H++X).length B)[(H++X).length]? = some B:=fun A B=>get_set (get_last (H++X) _)
  refine ⟨⟨by decide,by decide⟩,?_⟩
  conv=>whnf
  ((conv in (_[_]?)=>tactic=>exact hat _ _);(conv=>whnf))
  refine callK_args (args':=[.slice rs.length (rs.map .str) none,.str ls[i].1]) (by cases o1 <;> rfl) (callK_pure (c101r rs ls[i].1 none (by omega)) ?_)
  conv=>whnf
  refine ⟨fun h=>absurd (place.2 g1) (Int.not_le.2 h),fun _=>?_⟩
  conv=>whnf
  refine ⟨⟨by decide,by decide⟩,?_⟩
  conv=>whnf
  ((conv in (_[_]?)=>tactic=>exact hat _ _);(conv=>whnf))
  refine callK_args (args':=[.slice rs.length (rs.map .str) none,.str ls[i].2]) (by cases o1 <;> rfl) (callK_pure (c101r rs ls[i].2 none (by omega)) ?_)
  conv=>whnf
  refine ⟨fun h=>absurd (place.2 g2) (Int.not_le.2 h),fun _=>?_⟩
  conv=>whnf
  refine ⟨⟨by decide,by decide⟩,?_⟩
  conv=>whnf
  ((conv in (_[_]?)=>tactic=>exact hat _ _);(conv=>whnf))
  refine ⟨⟨by decide,by decide⟩,?_⟩
  conv=>whnf
  ((conv in (_[_]?)=>tactic=>exact hat _ _);(conv=>whnf))
  refine ⟨fun h=>absurd h g3,fun _=>?_⟩
  conv=>whnf
  refine loopK_of Nat (fun j=>[(1,.elem (treeC rs ls o1 o2 o3)),(3,.int .i64 i),(4,.ptr (some ((H++X).length,0))),(5,.int .i64 j)]) (fun _=>H++(X++[(⟨200,[.str ls[i].1,.str ls[i].2],1⟩:PObj)])) (fun j=>j≤i) (fun j=>i - j) ⟨0,Nat.zero_le _,⟨rfl,rfl,rfl,rfl,trivial⟩,set_appK H X _ _⟩ ?_
  have hat2:∀A:PObj,(H++(X++[A]))[(H++X).length]? = some A:=fun A=>by rw [←List.append_assoc];exact get_last _ _
  intro j kj
  replace kj:j≤i:=kj
  conv=>whnf
  refine ⟨fun k4=>?_,fun k4=>?_⟩
  ·conv=>whnf
   have k4:(j:Int)<i:=k4
   have hj:j<ls.length:=by omega
   have hgj:=List.getElem?_eq_getElem hj
   have hne:ls[j]≠ls[i]:=fun e=>by
    have:=(List.getElem_inj (h₀:=hj) (h₁:=hi) t.nl).1 e
    omega
   refine drawK_pure2 (by kernel_rfl) ?_
   conv=>whnf
   iterate 3 (refine dS ?_;(conv=>whnf))
   apply Exists.intro
   apply And.intro
   ·conv=>whnf
    exact ⟨⟨by omega,by omega⟩,prC ls[j],pr_cells ls hgj,rfl,rfl,trivial⟩
   conv=>whnf
   (refine dS ?_;(conv=>whnf))
   apply Exists.intro
   apply And.intro
   ·conv=>whnf
    ((conv in (_[_]?)=>tactic=>exact hat2 _);(conv=>whnf))
    exact ⟨rfl,rfl,trivial⟩
   conv=>whnf
   refine ⟨.bool false,?_,?_⟩
   ·conv=>whnf
    exact ⟨⟨fitT _ _,fitT _ _⟩,fun h=>absurd (prEq h) hne,fun _=>⟨rfl,rfl,trivial⟩⟩
   conv=>whnf
   refine ⟨j+1,by show j+1≤i;omega,⟨rfl,rfl,rfl,?_,trivial⟩,rfl,by omega⟩
   show PV.int _ (IntKind.i64.wrap ((j:Int)+1))=PV.int _ _
   rw [wrap64 (by omega) (by omega)];simp
  ·conv=>whnf
   refine ⟨(i+1,X++[(⟨200,[.str ls[i].1,.str ls[i].2],1⟩:PObj)]),by show i+1≤ls.length;omega,⟨rfl,?_,trivial⟩,rfl,by show ls.length - (i+1)<ls.length - i;omega⟩
   show PV.int _ (IntKind.i64.wrap ((i:Int)+1))=PV.int _ _
   rw [wrap64 (by omega) (by omega)];simp
 ·conv=>whnf
  have k3:¬(i:Int)<ls.length:=k3
  refine loopK_of Unit (fun _=>[(1,.elem (treeC rs ls o1 o2 o3)),(6,.int .i64 0)]) (fun _=>H++X) (fun _=>True) (fun _=>0) ⟨(),trivial,⟨rfl,rfl,trivial⟩,rfl⟩ ?_
  rintro _ _
  conv=>whnf
  refine ⟨fun h=>absurd (show (0:Int)<0 from h) (by decide),fun _=>?_⟩
  conv=>whnf
  exact ⟨rfl,X,rfl⟩
def ttBg:TT:=[(2,⟨.int .i64,1,8,[.int .i64 0]⟩),(3,⟨.int .i64,1,8,[.int .i64 0]⟩),(4,⟨.bool,1,1,[.bool false]⟩),(5,⟨.int .u8,1,1,[.int .u8 0]⟩),(9,⟨.str,1,16,[.str []]⟩),(25,⟨.strct [(9,0),(9,1)],2,32,[.str [],.str []]⟩),(31,⟨.int .i64,1,8,[.int .i64 0]⟩),(33,⟨.ptr,1,8,[.ptr none]⟩),(34,⟨.ptr,1,8,[.ptr none]⟩),(36,⟨.strct [(33,0),(34,1)],2,16,[.ptr none,.ptr none]⟩),(43,⟨.arr 32 5,32,32,List.replicate 32 (.int .u8 0)⟩),(88,⟨.slice 9,1,24,[.slice 0 [] (some 9)]⟩),(89,⟨.slice 200,1,24,[.slice 0 [] (some 200)]⟩),(90,⟨.slice 261,1,24,[.slice 0 [] (some 261)]⟩),(92,⟨.strct [(88,0),(89,1),(90,2)],3,72,[.slice 0 [] (some 9),.slice 0 [] (some 200),.slice 0 [] (some 261)]⟩),(93,⟨.ptr,1,8,[.ptr none]⟩),(95,⟨.strct [(9,0),(92,1),(93,4),(3,5),(3,6)],7,112,[.str [],.slice 0 [] (some 9),.slice 0 [] (some 200),.slice 0 [] (some 261),.ptr none,.int .i64 0,.int .i64 0]⟩),(110,⟨.ptr,1,8,[.ptr none]⟩),(113,⟨.slice 210,1,24,[.slice 0 [] (some 210)]⟩),(115,⟨.strct [(113,0)],1,24,[.slice 0 [] (some 210)]⟩),(116,⟨.slice 25,1,24,[.slice 0 [] (some 25)]⟩),(132,⟨.strB [(129,0),(130,0),(2,0)],1,8,[.int .i64 0]⟩),(134,⟨.strct [(9,0),(92,1),(110,4),(132,5),(132,6)],7,112,[.str [],.slice 0 [] (some 9),.slice 0 [] (some 200),.slice 0 [] (some 261),.ptr none,.int .i64 0,.int .i64 0]⟩),(200,⟨.arr 2 9,2,32,[.str [],.str []]⟩),(210,⟨.strct [(25,0),(3,2),(43,3)],35,72,[.str [],.str [],.int .i64 0]++List.replicate 32 (.int .u8 0)⟩),(261,⟨.strct [(9,0),(9,1),(88,2)],3,56,[.str [],.str [],.slice 0 [] (some 9)]⟩)]
theorem ttBg_ok:ttOk prog ttBg=true:=by kernel_rfl
def imm46t:List Nat:=[4]
def imm17t:List Nat:=[]
def xkdcO (realm:List UInt8) (rs:List (List UInt8)) (ls:List Pr) (rid off:Nat) (n i:Int) (v:Nat):PObj:=⟨95,[.str realm,.slice rs.length (rs.map .str) none,.slice ls.length (ls.flatMap prC) none,.slice 0 [] none,.ptr (some (rid,off)),.int .i64 n,.int .i64 i],v⟩
theorem c100p {rs:List (List UInt8)} {ls:List Pr} (t:Tree rs ls) (his:∀r∈rs,isRealmB r=true∧r.length≤1000) (o1 o2 o3:Option Nat):Pure prog 100 [.agg (treeC rs ls o1 o2 o3)] (.bool true):=fun H =>
 ((c100 t his o1 o2 o3 H).gc fun r H' hh=>⟨by rw [hh.1];rfl,hh.2⟩).mono fun x H' hh=>⟨hh.2.elim fun _ h=>h.1,hh.1⟩
theorem c46 {rs:List (List UInt8)} {ls:List Pr} (t:Tree rs ls) (his:∀r∈rs,isRealmB r=true∧r.length≤1000) (r:List UInt8) (hr:r∈rs) (rid off:Nat) (H:PH) :
  CallOk prog 46 [.str r,.agg (treeC rs ls none none none),.ptr (some (rid,off))] H fun x H'=>x=.tup [.ptr (some (H.length,0)),.int .i64 0]∧H'=H++[xkdcO r rs ls rid off 0 0 0]:=by
 have h2:=t.six
 have h3:=t.len
 (refine fnS (imm:=imm46t) ttBg_ok func46 ?_;(conv=>whnf))
 refine callK_pure (c100p t his none none none) ?_
 conv=>whnf
 refine callK_pure (c101r rs r none (by omega)) ?_
 conv=>whnf
 refine ⟨fun h=>absurd (place.2 hr) (Int.not_le.2 h),fun _=>?_⟩
 conv=>whnf
 exact ⟨rfl,rfl⟩
theorem c52 (r:List UInt8) (hr:r.length≤1000000):Pure prog 52 [.str r] (.str (krb r)):=by
 intro H
 (refine fnS (imm:=imm17t) ttBg_ok func52 ?_;(conv=>whnf))
 refine ⟨by show 7+r.length≤9223372036854775807;omega,?_⟩
 conv=>whnf
 exact ⟨rfl,rfl⟩
def ann:List UInt8:=[97,110,110]
theorem c17:Pure prog 17 [] (.agg [.str aedu,.str ann]):=fun H =>
 ((show CallOk prog 17 [] H fun r H'=>r=.agg [.str aedu,.str ann]∧∃ext,H'=H++ext by
  (refine fnS (imm:=imm17t) ttBg_ok func17 ?_;(conv=>whnf))
  ((conv in (_[_]?)=>tactic=>exact get_last H _);(conv=>whnf))
  ((conv in (_[_]?)=>tactic=>exact (show ((H++[_]).set H.length _)[H.length]? = some _ from get_set (get_last H _)));(conv=>whnf))
  refine ⟨rfl,[⟨25,[.str aedu,.str ann],1⟩],?_⟩
  show (H++[_]).set H.length _=_
  rw [set_last];rfl).gc fun r H' hh=>⟨by rw [hh.1];rfl,hh.2⟩).mono fun x H' hh=>⟨hh.2.elim fun _ h=>h.1,hh.1⟩
theorem c18 (a b:List UInt8) (hb:b.length≤1000000):Pure prog 18 [.str a,.str b] (.agg [.str a,.str (krb b)]):=fun H =>
 ((show CallOk prog 18 [.str a,.str b] H fun r H'=>r=.agg [.str a,.str (krb b)]∧∃ext,H'=H++ext by
  (refine fnS (imm:=imm17t) ttBg_ok func18 ?_;(conv=>whnf))
  refine callK_pure (c52 b hb) ?_
  conv=>whnf
  ((conv in (_[_]?)=>tactic=>exact get_last H _);(conv=>whnf))
  ((conv in (_[_]?)=>tactic=>exact (show ((H++[_]).set H.length _)[H.length]? = some _ from get_set (get_last H _)));(conv=>whnf))
  refine ⟨rfl,[⟨25,[.str a,.str (krb b)],1⟩],?_⟩
  show (H++[_]).set H.length _=_
  rw [set_last];rfl).gc fun r H' hh=>⟨by rw [hh.1];rfl,hh.2⟩).mono fun x H' hh=>⟨hh.2.elim fun _ h=>h.1,hh.1⟩
def keyN (n:UInt8):List UInt8:=n::7::List.replicate 30 0
theorem keyN_old (n:UInt8):oldR (.agg ((keyN n).map byteC))=true:=oldPs_bytesY _
theorem c19 (n:UInt8):Pure prog 19 [byteC n] (.agg ((keyN n).map byteC)):=fun H =>
 ((show CallOk prog 19 [byteC n] H fun r H'=>r=.agg ((keyN n).map byteC)∧∃ext,H'=H++ext by
  (refine fnS (imm:=imm17t) ttBg_ok func19 ?_;(conv=>whnf))
  ((conv in (_[_]?)=>tactic=>exact get_last H _);(conv=>whnf))
  ((conv in (_[_]?)=>tactic=>exact (show ((H++[_]).set H.length _)[H.length]? = some _ from get_set (get_last H _)));(conv=>whnf))
  refine ⟨rfl,[⟨43,(keyN n).map byteC,1⟩],?_⟩
  show (H++[_]).set H.length _=_
  rw [set_last];rfl).gc fun r H' hh=>⟨by rw [hh.1];exact keyN_old n,hh.2⟩).mono fun x H' hh=>⟨hh.2.elim fun _ h=>h.1,hh.1⟩
theorem c20 {H:PH} {kid:Nat} {realm:List UInt8} {rs ls ps:PV} {rid:Nat} {n i:Int} {v:Nat} (hv:H[kid]? = some (kdcO realm rs ls ps rid n i v)) :
  CallOk prog 20 [.ptr (some (kid,0))] H fun r H'=>r=.int .i64 i∧H'=H:=by
 (refine fnS (imm:=imm17t) ttBg_ok func20 ?_;(conv=>whnf))
 refine callK_of (c53 (off:=6) (n:=i) hv rfl) ?_
 rintro _ _ ⟨rfl,rfl⟩
 conv=>whnf
 exact ⟨rfl,rfl⟩
set_option maxHeartbeats 4000000
def mail:List UInt8:=[109,97,105,108]
theorem c27:Pure prog 27 [] (.agg [.str aedu,.str mail]):=fun H =>
 ((show CallOk prog 27 [] H fun r H'=>r=.agg [.str aedu,.str mail]∧∃ext,H'=H++ext by
  (refine fnS (imm:=imm17t) ttBg_ok func27 ?_;(conv=>whnf))
  ((conv in (_[_]?)=>tactic=>exact get_last H _);(conv=>whnf))
  ((conv in (_[_]?)=>tactic=>exact (show ((H++[_]).set H.length _)[H.length]? = some _ from get_set (get_last H _)));(conv=>whnf))
  refine ⟨rfl,[⟨25,[.str aedu,.str mail],1⟩],?_⟩
  show (H++[_]).set H.length _=_
  rw [set_last];rfl).gc fun r H' hh=>⟨by rw [hh.1];rfl,hh.2⟩).mono fun x H' hh=>⟨hh.2.elim fun _ h=>h.1,hh.1⟩
def nm0:List (Pr×UInt8):=[((aedu,krb aedu),10),((aedu,krb edu),99),((edu,krb aedu),12),((aedu,ann),13),((aedu,mail),14)]
def Small (l:List Ent) (k:Nat):Prop:=l.map (fun e=>(e.r,e.n,e.kv,e.key))=(nm0.take k).map fun x=>(x.1.1,x.1.2,1,keyN x.2)
theorem Small.len {l:List Ent} {k:Nat} (h:Small l k) (hk:k≤5):l.length=k:=by
 have:=congrArg List.length h
 rw [List.length_map,List.length_map,List.length_take] at this
 have e:nm0.length=5:=rfl
 omega
theorem Small.mem {l:List Ent} {k:Nat} (h:Small l k) {e:Ent} (he:e∈l):∃x∈nm0.take k,e.r=x.1.1∧e.n=x.1.2∧e.kv=1∧e.key=keyN x.2:=by
 have hm:(e.r,e.n,e.kv,e.key)∈l.map (fun e=>(e.r,e.n,e.kv,e.key)):=List.mem_map.2 ⟨e,he,rfl⟩
 rw [h] at hm
 obtain ⟨x,hx,hh⟩:=List.mem_map.1 hm
 injection hh with h1 h2
 injection h2 with h2 h3
 injection h3 with h3 h4
 exact ⟨x,hx,h1.symm,h2.symm,h3.symm,h4.symm⟩
theorem Small.none {l:List Ent} {k:Nat} (h:Small l k) {r n:List UInt8} (hn:∀x∈nm0.take k,¬(x.1.1=r∧x.1.2=n)):lastE (isP r n) l=none:=by
 cases he:lastE (isP r n) l with
 | none=>rfl
 | some e =>
  have h2:isP r n e=true:=by
   have:=List.find?_some he
   exact this
  obtain ⟨x,hx,e1,e2,_,_⟩:=h.mem (lastE_mem he)
  obtain ⟨a,b⟩:=isP_iff.1 h2
  exact absurd ⟨e1.symm.trans a,e2.symm.trans b⟩ (hn x hx)
theorem Small.snoc {l:List Ent} {k:Nat} (h:Small l k) {x:Pr×UInt8} (hx:nm0[k]? = some x) (e:Ent) (h1:e.r=x.1.1) (h2:e.n=x.1.2) (h3:e.kv=1) (h4:e.key=keyN x.2):Small (l++[e]) (k+1):=by
 obtain ⟨hk,rfl⟩:=List.getElem?_eq_some_iff.1 hx
 unfold Small at h ⊢
 rw [List.take_succ_eq_append_getElem hk,List.map_append,List.map_append,h]
 simp [h1,h2,h3,h4]
def imm15t:List Nat:=[]
def D15:Draw:={ imp:=[6],win:=[(7,1,1),(8,1,1),(9,1,1),(10,1,1),(11,1,1)] }
def D16:Draw:={ imp:=[6],win:=[] }
theorem nmAt {k:Nat} {x:Pr×UInt8} (h:nm0[k]? = some x):∀(j:Nat) (c:PV),(prC x.1)[j]? = some c→(nm0.flatMap fun x=>prC x.1)[(k:Int).toNat*2+j]? = some c:=by
 have e:(nm0.flatMap fun x=>prC x.1)=(nm0.map Prod.fst).flatMap prC:=by rw [List.flatMap_map]
 rw [e]
 exact pr_cells _ (by rw [List.getElem?_map,h];rfl)
theorem fitBg (a b:List UInt8):FitP ttBg 6 25 [.str a,.str b]:=⟨rfl,⟨by show 1≤2;omega,a,rfl⟩,rfl,⟨by show 1≤1;omega,b,rfl⟩,rfl⟩
theorem keyN_len (n:UInt8):(keyN n).length=32:=by unfold keyN;simp
structure BegS where
 k:Nat
 X:PH
structure BegOk (H:PH) (s:BegS):Prop where
 le:s.k≤5
 ex:∃l v,Small l s.k∧Inc l∧RingAt s.X H.length l∧s.X[H.length+1]? = some (xringO l v)
 evo:Evo (fun i=>i=H.length∨i=H.length+1) (H++[ringO [] 0]++[xringO [] 0]) s.X
theorem xringT (l:List Ent) (v:Nat):(xringO l v).T≠keyT∧(xringO l v).T≠boxT:=⟨fun h=>absurd (show 115=keyT from h) (by decide),fun h=>absurd (show 115=boxT from h) (by decide)⟩
theorem addY {H:PH} {rid v:Nat} {l:List Ent} (hid:H[rid]? = some (ringO l v)) (hl:l.length≤4) (r n key:List UInt8) (hkey:key.length=32) (hp:isPrincB r n=true) (hno:lastE (isP r n) l=none) :
  addR l r n=.tup [.int .i64 1,.int .i64 0]∧addB l r n=true∧Adds H rid l r n key (addH H rid v l r n key):=by
 have hlt:rid<H.length:=(List.getElem?_eq_some_iff.1 hid).1
 have hc:¬(40≤l.length∨255<nextKv (lastE (isP r n) l)):=by rw [hno];show ¬(40≤l.length∨255<1);omega
 have hR:addR l r n=.tup [.int .i64 1,.int .i64 0]:=by unfold addR;rw [hp];simp only [if_neg hc];rw [hno];rfl
 have hB:addB l r n=true:=by unfold addB;rw [hp,decide_eq_false hc];rfl
 refine ⟨hR,hB,?_⟩
 have h2:addH H rid v l r n key=(H++[speckO (key.take 16),boxO key H.length]).set rid (ringO (l++[addE H l r n key]) (v+2)):=by unfold addH;rw [hp];simp only [if_neg hc]
 have hid2:(H++[speckO (key.take 16),boxO key H.length])[rid]? = some (ringO l v):=by rw [List.getElem?_append_left hlt];exact hid
 refine ⟨⟨addE H l r n key,v+2,rfl,rfl,rfl,rfl,?_,?_⟩,?_⟩
 ·rw [h2,List.getElem?_set_self (by simp;omega)]
 ·rw [h2]
  refine (Evo.setOther (S:=(·=rid)) hid2 rfl (ringT _ _).1 (ringT _ _).2).box _ _ ⟨hkey,H.length,0,0,0,0,speckO (key.take 16),?_,?_,speck_key _⟩
  ·show (H++[speckO (key.take 16),boxO key H.length])[H.length+1]? = _
   rw [List.getElem?_append_right (by omega),show H.length+1 - H.length=1 by omega];rfl
  ·rw [List.getElem?_append_right (by omega),show H.length - H.length=0 by omega];rfl
 ·rw [h2]
  exact (Evo.app H _).trans (Evo.setOther hid2 rfl (ringT _ _).1 (ringT _ _).2)
theorem c15x (H:PH):CallOk prog 15 [.bool false] H fun r H'=>∃kid xid pid l v,r=.ptr (some (pid,0))∧Small l 5∧Inc l∧Kd H' kid H.length aedu (.slice 3 (rs0.map .str) none) (.slice 4 (ls0.flatMap prC) none) (.slice 0 [] none) l 0 0 ∧
  H'[xid]? = some (xkdcO aedu rs0 ls0 (H.length+1) 0 0 0 0)∧H'[H.length+1]? = some (xringO l v)∧H'[pid]? = some ⟨36,[.ptr (some (kid,0)),.ptr (some (xid,0))],0⟩∧Evo (fun _=>False) H H':=by
 (refine fnS (imm:=imm15t) ttBg_ok func15 ?_;(conv=>whnf))
 refine callK_of (c43 H) ?_
 rintro _ _ ⟨rfl,rfl⟩
 conv=>whnf
 have k1:Pure prog 18 [.str aedu,.str aedu] (.agg [.str aedu,.str (krb aedu)]):=c18 _ _ (by decide)
 have k2:Pure prog 18 [.str aedu,.str edu] (.agg [.str aedu,.str (krb edu)]):=c18 _ _ (by decide)
 have k3:Pure prog 18 [.str edu,.str aedu] (.agg [.str edu,.str (krb aedu)]):=c18 _ _ (by decide)
 refine callK_pure k1 ?_
 conv=>whnf
 refine callK_pure k2 ?_
 conv=>whnf
 refine callK_pure k3 ?_
 conv=>whnf
 refine callK_pure c17 ?_
 conv=>whnf
 refine callK_pure c27 ?_
 conv=>whnf
 refine loopK_of BegS (fun s=>[(3,.ptr (some (H.length,0))),(4,.ptr (some ((H++[ringO [] 0]).length,0))),(5,.str aedu),(6,.slice 5 (nm0.flatMap fun x=>prC x.1) (some 25)),(7,.int .i64 s.k)]) (fun s=>s.X) (BegOk H) (fun s=>5 - s.k)
  ⟨⟨0,H++[ringO [] 0]++[xringO [] 0]⟩,⟨Nat.zero_le _,⟨[],0,rfl,Inc.nil,?_,?_⟩,Evo.refl _⟩,⟨rfl,rfl,rfl,rfl,rfl,trivial⟩,rfl⟩ ?_
 ·exact newRing.evo (S:=fun _=>False) (Evo.app _ _) id
 ·have e:(H++[ringO [] 0]).length=H.length+1:=by simp
  rw [←e];exact get_last _ _
 rintro ⟨k,X⟩ ⟨hk,⟨l,v,hsm,hinc,hra,hx⟩,hev⟩
 replace hk:k≤5:=hk
 replace hsm:Small l k:=hsm
 replace hra:RingAt X H.length l:=hra
 replace hx:X[H.length+1]? = some (xringO l v):=hx
 have hat:∀A B:PObj,((X++[A]).set X.length B)[X.length]? = some B:=fun A B=>get_set (get_last X _)
 match k,hk,hsm with
 | 0,hk,hsm =>
  conv=>whnf
  refine ⟨fun _=>?_,fun h=>absurd (show ((0:Nat):Int)<5 by decide) h⟩
  conv=>whnf
  refine callK_args (args':=[byteC 10]) rfl (callK_pure (c19 10) ?_)
  conv=>whnf
  ((conv in (_[_]?)=>tactic=>exact get_last X _);(conv=>whnf))
  refine drawK_pure2 (by kernel_rfl) ?_
  conv=>whnf
  iterate 2 (refine dS ?_;(conv=>whnf))
  apply Exists.intro
  apply And.intro
  ·conv=>whnf
   exact ⟨⟨show (0:Int)≤((0:Nat):Int) by decide,show ((0:Nat):Int)<5 by decide⟩,[.str aedu,.str (krb aedu)],nmAt (x:=nm0[0]) rfl,rfl,rfl,trivial⟩
  conv=>whnf
  (refine dS ?_;(conv=>whnf))
  refine ⟨_,callK_pure k2 ⟨rfl,rfl,trivial⟩,?_⟩
  conv=>whnf
  refine ⟨.bool false,?_,?_⟩
  ·conv=>whnf
   exact ⟨⟨fitBg _ _,fitBg _ _⟩,fun h=>absurd (prEq h) (by decide),fun _=>⟨rfl,rfl,trivial⟩⟩
  conv=>whnf
  obtain ⟨v1,hv1⟩:=(hra.evo (S:=fun _=>False) (Evo.app X [(⟨43,(keyN 10).map byteC,1⟩:PObj)]) id).ex
  have hx1:(X++[(⟨43,(keyN 10).map byteC,1⟩:PObj)])[H.length+1]? = some (xringO l v):=by rw [List.getElem?_append_left (List.getElem?_eq_some_iff.1 hx).1];exact hx
  have hno:lastE (isP aedu (krb aedu)) l=none:=hsm.none (by decide)
  have hpr:isPrincB aedu (krb aedu)=true:=by kernel_rfl
  obtain ⟨X2,hX2⟩:∃X2,X2=addH (X++[(⟨43,(keyN 10).map byteC,1⟩:PObj)]) H.length v1 l aedu (krb aedu) (keyN 10):=⟨_,rfl⟩
  have hl5:l.length≤4:=by have:=hsm.len hk;omega
  have hkk:∀e∈l,e.key.length=32∧e.kv≤1000:=fun e he=>⟨hra.klen e he,by obtain ⟨x,_,_,_,h3,_⟩:=hsm.mem he;omega⟩
  obtain ⟨hR,hb,hA⟩:=addY hv1 hl5 aedu (krb aedu) (keyN 10) (keyN_len _) hpr hno
  rw [←hX2] at hA
  have h44:=c44 hv1 (by omega) hkk aedu (krb aedu) (keyN 10) (keyN_len _) (by decide) (by decide)
  rw [hR,←hX2] at h44
  refine drawK_of2 D15 [X++[(⟨43,(keyN 10).map byteC,1⟩:PObj)],X2] (by kernel_rfl) ?_ trivial ?_
  ·exact (set_last X _ _).symm
  conv=>whnf
  iterate 3 (refine dS ?_;(conv=>whnf))
  apply Exists.intro
  apply And.intro
  ·conv=>whnf
   exact ⟨⟨show (0:Int)≤((0:Nat):Int) by decide,show ((0:Nat):Int)<5 by decide⟩,[.str aedu,.str (krb aedu)],nmAt (x:=nm0[0]) rfl,rfl,rfl,trivial⟩
  conv=>whnf
  (refine dS ?_;(conv=>whnf))
  apply Exists.intro
  apply And.intro
  ·conv=>whnf
   ((conv in (_[_]?)=>tactic=>exact get_last X _);(conv=>whnf))
   exact ⟨rfl,rfl,trivial⟩
  conv=>whnf
  refine ⟨_,callK_of h44 (by rintro _ _ ⟨rfl,rfl⟩;exact ⟨rfl,rfl,trivial⟩),?_⟩
  conv=>whnf
  iterate 5 (refine dS ?_;(conv=>whnf))
  conv=>whnf
  obtain ⟨e,q1,q2,q3,q4,hra2⟩:=(hra.evo (S:=fun _=>False) (Evo.app X [(⟨43,(keyN 10).map byteC,1⟩:PObj)]) id).add hA
  have hE:=hA.evo
  have hlt:=(List.getElem?_eq_some_iff.1 hx).1
  have hx2:X2[H.length+1]? = some (xringO l v):=hE.same _ _ hx1 (by show ¬H.length+1=H.length;omega) (xringT l v).1 (xringT l v).2
  have ho2:X2[X.length]? = some (⟨43,(keyN 10).map byteC,1⟩:PObj):=hE.same _ _ (get_last X _) (by show ¬X.length=H.length;omega) (fun h=>absurd (show 43=keyT from h) (by decide)) (fun h=>absurd (show 43=boxT from h) (by decide))
  have h45:=c45 hx2 (by omega) hkk e (by rw [q4];exact keyN_len _) (by rw [q1,q2,q3]) (by rw [q1];decide) (by rw [q2];decide)
  rw [q1,q2,q4,hR] at h45
  have hX3:xaddH X2 (H.length+1) v l e=X2.set (H.length+1) (xringO (l++[e]) (v+2)):=by unfold xaddH;rw [q1,q2,hb]
  rw [hX3] at h45
  have eX:(H++[ringO [] 0]).length=H.length+1:=by simp
  refine drawK_of2 D16 [X2,X2.set (H.length+1) (xringO (l++[e]) (v+2))] (by kernel_rfl) ?_ trivial ?_
  ·exact rfl
  conv=>whnf
  iterate 3 (refine dS ?_;(conv=>whnf))
  apply Exists.intro
  apply And.intro
  ·conv=>whnf
   exact ⟨⟨show (0:Int)≤((0:Nat):Int) by decide,show ((0:Nat):Int)<5 by decide⟩,[.str aedu,.str (krb aedu)],nmAt (x:=nm0[0]) rfl,rfl,rfl,trivial⟩
  conv=>whnf
  (refine dS ?_;(conv=>whnf))
  apply Exists.intro
  apply And.intro
  ·conv=>whnf
   ((conv in (_[_]?)=>tactic=>exact ho2);(conv=>whnf))
   exact ⟨rfl,rfl,trivial⟩
  conv=>whnf
  refine ⟨_,callK_args (args':=[.ptr (some (H.length+1,0)),.agg [.str aedu,.str (krb aedu)],.agg ((keyN 10).map byteC)]) (by rw [←eX];rfl) (callK_of h45 (by rintro _ _ ⟨rfl,rfl⟩;exact ⟨rfl,rfl,trivial⟩)),?_⟩
  conv=>whnf
  refine ⟨fun _=>?_,fun h=>absurd rfl h⟩
  conv=>whnf
  have eS:Evo (·=H.length+1) X2 (X2.set (H.length+1) (xringO (l++[e]) (v+2))):=Evo.setOther hx2 rfl (xringT l v).1 (xringT l v).2
  refine ⟨⟨0+1,X2.set (H.length+1) (xringO (l++[e]) (v+2))⟩,⟨(show 0+1≤5 by decide),⟨l++[e],v+2,hsm.snoc (x:=nm0[0]) rfl e q1 q2 (q3.trans (by rw [hno];rfl)) q4,hinc.snoc (by rw [q1,q2,q3]),hra2.evo eS (by show ¬H.length=H.length+1;omega),get_set hx2⟩,
   ((hev.trans (Evo.app X [(⟨43,(keyN 10).map byteC,1⟩:PObj)])).trans (hE.mono fun _ h=>.inl h)).trans (eS.mono fun _ h=>.inr h)⟩,⟨rfl,rfl,rfl,rfl,rfl,trivial⟩,rfl,(show 5 - (0+1)<5 - 0 by decide)⟩
 | 1,hk,hsm =>
  conv=>whnf
  refine ⟨fun _=>?_,fun h=>absurd (show ((1:Nat):Int)<5 by decide) h⟩
  conv=>whnf
  refine callK_args (args':=[byteC 11]) rfl (callK_pure (c19 11) ?_)
  conv=>whnf
  ((conv in (_[_]?)=>tactic=>exact get_last X _);(conv=>whnf))
  refine drawK_pure2 (by kernel_rfl) ?_
  conv=>whnf
  iterate 2 (refine dS ?_;(conv=>whnf))
  apply Exists.intro
  apply And.intro
  ·conv=>whnf
   exact ⟨⟨show (0:Int)≤((1:Nat):Int) by decide,show ((1:Nat):Int)<5 by decide⟩,[.str aedu,.str (krb edu)],nmAt (x:=nm0[1]) rfl,rfl,rfl,trivial⟩
  conv=>whnf
  (refine dS ?_;(conv=>whnf))
  refine ⟨_,callK_pure k2 ⟨rfl,rfl,trivial⟩,?_⟩
  conv=>whnf
  refine ⟨.bool true,?_,?_⟩
  ·conv=>whnf
   exact ⟨⟨fitBg _ _,fitBg _ _⟩,fun _=>⟨rfl,rfl,trivial⟩,fun h=>absurd rfl h⟩
  conv=>whnf
  refine callK_args (args':=[byteC 99]) rfl (callK_pure (c19 99) ?_)
  conv=>whnf
  ((conv in (_[_]?)=>tactic=>exact hat _ _);(conv=>whnf))
  obtain ⟨v1,hv1⟩:=(hra.evo (S:=fun _=>False) (Evo.app X [(⟨43,(keyN 99).map byteC,2⟩:PObj)]) id).ex
  have hx1:(X++[(⟨43,(keyN 99).map byteC,2⟩:PObj)])[H.length+1]? = some (xringO l v):=by rw [List.getElem?_append_left (List.getElem?_eq_some_iff.1 hx).1];exact hx
  have hno:lastE (isP aedu (krb edu)) l=none:=hsm.none (by decide)
  have hpr:isPrincB aedu (krb edu)=true:=by kernel_rfl
  obtain ⟨X2,hX2⟩:∃X2,X2=addH (X++[(⟨43,(keyN 99).map byteC,2⟩:PObj)]) H.length v1 l aedu (krb edu) (keyN 99):=⟨_,rfl⟩
  have hl5:l.length≤4:=by have:=hsm.len hk;omega
  have hkk:∀e∈l,e.key.length=32∧e.kv≤1000:=fun e he=>⟨hra.klen e he,by obtain ⟨x,_,_,_,h3,_⟩:=hsm.mem he;omega⟩
  obtain ⟨hR,hb,hA⟩:=addY hv1 hl5 aedu (krb edu) (keyN 99) (keyN_len _) hpr hno
  rw [←hX2] at hA
  have h44:=c44 hv1 (by omega) hkk aedu (krb edu) (keyN 99) (keyN_len _) (by decide) (by decide)
  rw [hR,←hX2] at h44
  refine drawK_of2 D15 [X++[(⟨43,(keyN 99).map byteC,2⟩:PObj)],X2] (by kernel_rfl) ?_ trivial ?_
  ·exact ((congrArg (fun z=>List.set z X.length _) (set_last X _ _)).trans (set_last X _ _)).symm
  conv=>whnf
  iterate 3 (refine dS ?_;(conv=>whnf))
  apply Exists.intro
  apply And.intro
  ·conv=>whnf
   exact ⟨⟨show (0:Int)≤((1:Nat):Int) by decide,show ((1:Nat):Int)<5 by decide⟩,[.str aedu,.str (krb edu)],nmAt (x:=nm0[1]) rfl,rfl,rfl,trivial⟩
  conv=>whnf
  (refine dS ?_;(conv=>whnf))
  apply Exists.intro
  apply And.intro
  ·conv=>whnf
   ((conv in (_[_]?)=>tactic=>exact get_last X _);(conv=>whnf))
   exact ⟨rfl,rfl,trivial⟩
  conv=>whnf
  refine ⟨_,callK_of h44 (by rintro _ _ ⟨rfl,rfl⟩;exact ⟨rfl,rfl,trivial⟩),?_⟩
  conv=>whnf
  iterate 5 (refine dS ?_;(conv=>whnf))
  conv=>whnf
  obtain ⟨e,q1,q2,q3,q4,hra2⟩:=(hra.evo (S:=fun _=>False) (Evo.app X [(⟨43,(keyN 99).map byteC,2⟩:PObj)]) id).add hA
  have hE:=hA.evo
  have hlt:=(List.getElem?_eq_some_iff.1 hx).1
  have hx2:X2[H.length+1]? = some (xringO l v):=hE.same _ _ hx1 (by show ¬H.length+1=H.length;omega) (xringT l v).1 (xringT l v).2
  have ho2:X2[X.length]? = some (⟨43,(keyN 99).map byteC,2⟩:PObj):=hE.same _ _ (get_last X _) (by show ¬X.length=H.length;omega) (fun h=>absurd (show 43=keyT from h) (by decide)) (fun h=>absurd (show 43=boxT from h) (by decide))
  have h45:=c45 hx2 (by omega) hkk e (by rw [q4];exact keyN_len _) (by rw [q1,q2,q3]) (by rw [q1];decide) (by rw [q2];decide)
  rw [q1,q2,q4,hR] at h45
  have hX3:xaddH X2 (H.length+1) v l e=X2.set (H.length+1) (xringO (l++[e]) (v+2)):=by unfold xaddH;rw [q1,q2,hb]
  rw [hX3] at h45
  have eX:(H++[ringO [] 0]).length=H.length+1:=by simp
  refine drawK_of2 D16 [X2,X2.set (H.length+1) (xringO (l++[e]) (v+2))] (by kernel_rfl) ?_ trivial ?_
  ·exact rfl
  conv=>whnf
  iterate 3 (refine dS ?_;(conv=>whnf))
  apply Exists.intro
  apply And.intro
  ·conv=>whnf
   exact ⟨⟨show (0:Int)≤((1:Nat):Int) by decide,show ((1:Nat):Int)<5 by decide⟩,[.str aedu,.str (krb edu)],nmAt (x:=nm0[1]) rfl,rfl,rfl,trivial⟩
  conv=>whnf
  (refine dS ?_;(conv=>whnf))
  apply Exists.intro
  apply And.intro
  ·conv=>whnf
   ((conv in (_[_]?)=>tactic=>exact ho2);(conv=>whnf))
   exact ⟨rfl,rfl,trivial⟩
  conv=>whnf
  refine ⟨_,callK_args (args':=[.ptr (some (H.length+1,0)),.agg [.str aedu,.str (krb edu)],.agg ((keyN 99).map byteC)]) (by rw [←eX];rfl) (callK_of h45 (by rintro _ _ ⟨rfl,rfl⟩;exact ⟨rfl,rfl,trivial⟩)),?_⟩
  conv=>whnf
  refine ⟨fun _=>?_,fun h=>absurd rfl h⟩
  conv=>whnf
  have eS:Evo (·=H.length+1) X2 (X2.set (H.length+1) (xringO (l++[e]) (v+2))):=Evo.setOther hx2 rfl (xringT l v).1 (xringT l v).2
  refine ⟨⟨1+1,X2.set (H.length+1) (xringO (l++[e]) (v+2))⟩,⟨(show 1+1≤5 by decide),⟨l++[e],v+2,hsm.snoc (x:=nm0[1]) rfl e q1 q2 (q3.trans (by rw [hno];rfl)) q4,hinc.snoc (by rw [q1,q2,q3]),hra2.evo eS (by show ¬H.length=H.length+1;omega),get_set hx2⟩,
   ((hev.trans (Evo.app X [(⟨43,(keyN 99).map byteC,2⟩:PObj)])).trans (hE.mono fun _ h=>.inl h)).trans (eS.mono fun _ h=>.inr h)⟩,⟨rfl,rfl,rfl,rfl,rfl,trivial⟩,rfl,(show 5 - (1+1)<5 - 1 by decide)⟩
 | 2,hk,hsm =>
  conv=>whnf
  refine ⟨fun _=>?_,fun h=>absurd (show ((2:Nat):Int)<5 by decide) h⟩
  conv=>whnf
  refine callK_args (args':=[byteC 12]) rfl (callK_pure (c19 12) ?_)
  conv=>whnf
  ((conv in (_[_]?)=>tactic=>exact get_last X _);(conv=>whnf))
  refine drawK_pure2 (by kernel_rfl) ?_
  conv=>whnf
  iterate 2 (refine dS ?_;(conv=>whnf))
  apply Exists.intro
  apply And.intro
  ·conv=>whnf
   exact ⟨⟨show (0:Int)≤((2:Nat):Int) by decide,show ((2:Nat):Int)<5 by decide⟩,[.str edu,.str (krb aedu)],nmAt (x:=nm0[2]) rfl,rfl,rfl,trivial⟩
  conv=>whnf
  (refine dS ?_;(conv=>whnf))
  refine ⟨_,callK_pure k2 ⟨rfl,rfl,trivial⟩,?_⟩
  conv=>whnf
  refine ⟨.bool false,?_,?_⟩
  ·conv=>whnf
   exact ⟨⟨fitBg _ _,fitBg _ _⟩,fun h=>absurd (prEq h) (by decide),fun _=>⟨rfl,rfl,trivial⟩⟩
  conv=>whnf
  obtain ⟨v1,hv1⟩:=(hra.evo (S:=fun _=>False) (Evo.app X [(⟨43,(keyN 12).map byteC,1⟩:PObj)]) id).ex
  have hx1:(X++[(⟨43,(keyN 12).map byteC,1⟩:PObj)])[H.length+1]? = some (xringO l v):=by rw [List.getElem?_append_left (List.getElem?_eq_some_iff.1 hx).1];exact hx
  have hno:lastE (isP edu (krb aedu)) l=none:=hsm.none (by decide)
  have hpr:isPrincB edu (krb aedu)=true:=by kernel_rfl
  obtain ⟨X2,hX2⟩:∃X2,X2=addH (X++[(⟨43,(keyN 12).map byteC,1⟩:PObj)]) H.length v1 l edu (krb aedu) (keyN 12):=⟨_,rfl⟩
  have hl5:l.length≤4:=by have:=hsm.len hk;omega
  have hkk:∀e∈l,e.key.length=32∧e.kv≤1000:=fun e he=>⟨hra.klen e he,by obtain ⟨x,_,_,_,h3,_⟩:=hsm.mem he;omega⟩
  obtain ⟨hR,hb,hA⟩:=addY hv1 hl5 edu (krb aedu) (keyN 12) (keyN_len _) hpr hno
  rw [←hX2] at hA
  have h44:=c44 hv1 (by omega) hkk edu (krb aedu) (keyN 12) (keyN_len _) (by decide) (by decide)
  rw [hR,←hX2] at h44
  refine drawK_of2 D15 [X++[(⟨43,(keyN 12).map byteC,1⟩:PObj)],X2] (by kernel_rfl) ?_ trivial ?_
  ·exact (set_last X _ _).symm
  conv=>whnf
  iterate 3 (refine dS ?_;(conv=>whnf))
  apply Exists.intro
  apply And.intro
  ·conv=>whnf
   exact ⟨⟨show (0:Int)≤((2:Nat):Int) by decide,show ((2:Nat):Int)<5 by decide⟩,[.str edu,.str (krb aedu)],nmAt (x:=nm0[2]) rfl,rfl,rfl,trivial⟩
  conv=>whnf
  (refine dS ?_;(conv=>whnf))
  apply Exists.intro
  apply And.intro
  ·conv=>whnf
   ((conv in (_[_]?)=>tactic=>exact get_last X _);(conv=>whnf))
   exact ⟨rfl,rfl,trivial⟩
  conv=>whnf
  refine ⟨_,callK_of h44 (by rintro _ _ ⟨rfl,rfl⟩;exact ⟨rfl,rfl,trivial⟩),?_⟩
  conv=>whnf
  iterate 5 (refine dS ?_;(conv=>whnf))
  conv=>whnf
  obtain ⟨e,q1,q2,q3,q4,hra2⟩:=(hra.evo (S:=fun _=>False) (Evo.app X [(⟨43,(keyN 12).map byteC,1⟩:PObj)]) id).add hA
  have hE:=hA.evo
  have hlt:=(List.getElem?_eq_some_iff.1 hx).1
  have hx2:X2[H.length+1]? = some (xringO l v):=hE.same _ _ hx1 (by show ¬H.length+1=H.length;omega) (xringT l v).1 (xringT l v).2
  have ho2:X2[X.length]? = some (⟨43,(keyN 12).map byteC,1⟩:PObj):=hE.same _ _ (get_last X _) (by show ¬X.length=H.length;omega) (fun h=>absurd (show 43=keyT from h) (by decide)) (fun h=>absurd (show 43=boxT from h) (by decide))
  have h45:=c45 hx2 (by omega) hkk e (by rw [q4];exact keyN_len _) (by rw [q1,q2,q3]) (by rw [q1];decide) (by rw [q2];decide)
  rw [q1,q2,q4,hR] at h45
  have hX3:xaddH X2 (H.length+1) v l e=X2.set (H.length+1) (xringO (l++[e]) (v+2)):=by unfold xaddH;rw [q1,q2,hb]
  rw [hX3] at h45
  have eX:(H++[ringO [] 0]).length=H.length+1:=by simp
  refine drawK_of2 D16 [X2,X2.set (H.length+1) (xringO (l++[e]) (v+2))] (by kernel_rfl) ?_ trivial ?_
  ·exact rfl
  conv=>whnf
  iterate 3 (refine dS ?_;(conv=>whnf))
  apply Exists.intro
  apply And.intro
  ·conv=>whnf
   exact ⟨⟨show (0:Int)≤((2:Nat):Int) by decide,show ((2:Nat):Int)<5 by decide⟩,[.str edu,.str (krb aedu)],nmAt (x:=nm0[2]) rfl,rfl,rfl,trivial⟩
  conv=>whnf
  (refine dS ?_;(conv=>whnf))
  apply Exists.intro
  apply And.intro
  ·conv=>whnf
   ((conv in (_[_]?)=>tactic=>exact ho2);(conv=>whnf))
   exact ⟨rfl,rfl,trivial⟩
  conv=>whnf
  refine ⟨_,callK_args (args':=[.ptr (some (H.length+1,0)),.agg [.str edu,.str (krb aedu)],.agg ((keyN 12).map byteC)]) (by rw [←eX];rfl) (callK_of h45 (by rintro _ _ ⟨rfl,rfl⟩;exact ⟨rfl,rfl,trivial⟩)),?_⟩
  conv=>whnf
  refine ⟨fun _=>?_,fun h=>absurd rfl h⟩
  conv=>whnf
  have eS:Evo (·=H.length+1) X2 (X2.set (H.length+1) (xringO (l++[e]) (v+2))):=Evo.setOther hx2 rfl (xringT l v).1 (xringT l v).2
  refine ⟨⟨2+1,X2.set (H.length+1) (xringO (l++[e]) (v+2))⟩,⟨(show 2+1≤5 by decide),⟨l++[e],v+2,hsm.snoc (x:=nm0[2]) rfl e q1 q2 (q3.trans (by rw [hno];rfl)) q4,hinc.snoc (by rw [q1,q2,q3]),hra2.evo eS (by show ¬H.length=H.length+1;omega),get_set hx2⟩,
   ((hev.trans (Evo.app X [(⟨43,(keyN 12).map byteC,1⟩:PObj)])).trans (hE.mono fun _ h=>.inl h)).trans (eS.mono fun _ h=>.inr h)⟩,⟨rfl,rfl,rfl,rfl,rfl,trivial⟩,rfl,(show 5 - (2+1)<5 - 2 by decide)⟩
 | 3,hk,hsm =>
  conv=>whnf
  refine ⟨fun _=>?_,fun h=>absurd (show ((3:Nat):Int)<5 by decide) h⟩
  conv=>whnf
  refine callK_args (args':=[byteC 13]) rfl (callK_pure (c19 13) ?_)
  conv=>whnf
  ((conv in (_[_]?)=>tactic=>exact get_last X _);(conv=>whnf))
  refine drawK_pure2 (by kernel_rfl) ?_
  conv=>whnf
  iterate 2 (refine dS ?_;(conv=>whnf))
  apply Exists.intro
  apply And.intro
  ·conv=>whnf
   exact ⟨⟨show (0:Int)≤((3:Nat):Int) by decide,show ((3:Nat):Int)<5 by decide⟩,[.str aedu,.str (ann)],nmAt (x:=nm0[3]) rfl,rfl,rfl,trivial⟩
  conv=>whnf
  (refine dS ?_;(conv=>whnf))
  refine ⟨_,callK_pure k2 ⟨rfl,rfl,trivial⟩,?_⟩
  conv=>whnf
  refine ⟨.bool false,?_,?_⟩
  ·conv=>whnf
   exact ⟨⟨fitBg _ _,fitBg _ _⟩,fun h=>absurd (prEq h) (by decide),fun _=>⟨rfl,rfl,trivial⟩⟩
  conv=>whnf
  obtain ⟨v1,hv1⟩:=(hra.evo (S:=fun _=>False) (Evo.app X [(⟨43,(keyN 13).map byteC,1⟩:PObj)]) id).ex
  have hx1:(X++[(⟨43,(keyN 13).map byteC,1⟩:PObj)])[H.length+1]? = some (xringO l v):=by rw [List.getElem?_append_left (List.getElem?_eq_some_iff.1 hx).1];exact hx
  have hno:lastE (isP aedu (ann)) l=none:=hsm.none (by decide)
  have hpr:isPrincB aedu (ann)=true:=by kernel_rfl
  obtain ⟨X2,hX2⟩:∃X2,X2=addH (X++[(⟨43,(keyN 13).map byteC,1⟩:PObj)]) H.length v1 l aedu (ann) (keyN 13):=⟨_,rfl⟩
  have hl5:l.length≤4:=by have:=hsm.len hk;omega
  have hkk:∀e∈l,e.key.length=32∧e.kv≤1000:=fun e he=>⟨hra.klen e he,by obtain ⟨x,_,_,_,h3,_⟩:=hsm.mem he;omega⟩
  obtain ⟨hR,hb,hA⟩:=addY hv1 hl5 aedu (ann) (keyN 13) (keyN_len _) hpr hno
  rw [←hX2] at hA
  have h44:=c44 hv1 (by omega) hkk aedu (ann) (keyN 13) (keyN_len _) (by decide) (by decide)
  rw [hR,←hX2] at h44
  refine drawK_of2 D15 [X++[(⟨43,(keyN 13).map byteC,1⟩:PObj)],X2] (by kernel_rfl) ?_ trivial ?_
  ·exact (set_last X _ _).symm
  conv=>whnf
  iterate 3 (refine dS ?_;(conv=>whnf))
  apply Exists.intro
  apply And.intro
  ·conv=>whnf
   exact ⟨⟨show (0:Int)≤((3:Nat):Int) by decide,show ((3:Nat):Int)<5 by decide⟩,[.str aedu,.str (ann)],nmAt (x:=nm0[3]) rfl,rfl,rfl,trivial⟩
  conv=>whnf
  (refine dS ?_;(conv=>whnf))
  apply Exists.intro
  apply And.intro
  ·conv=>whnf
   ((conv in (_[_]?)=>tactic=>exact get_last X _);(conv=>whnf))
   exact ⟨rfl,rfl,trivial⟩
  conv=>whnf
  refine ⟨_,callK_of h44 (by rintro _ _ ⟨rfl,rfl⟩;exact ⟨rfl,rfl,trivial⟩),?_⟩
  conv=>whnf
  iterate 5 (refine dS ?_;(conv=>whnf))
  conv=>whnf
  obtain ⟨e,q1,q2,q3,q4,hra2⟩:=(hra.evo (S:=fun _=>False) (Evo.app X [(⟨43,(keyN 13).map byteC,1⟩:PObj)]) id).add hA
  have hE:=hA.evo
  have hlt:=(List.getElem?_eq_some_iff.1 hx).1
  have hx2:X2[H.length+1]? = some (xringO l v):=hE.same _ _ hx1 (by show ¬H.length+1=H.length;omega) (xringT l v).1 (xringT l v).2
  have ho2:X2[X.length]? = some (⟨43,(keyN 13).map byteC,1⟩:PObj):=hE.same _ _ (get_last X _) (by show ¬X.length=H.length;omega) (fun h=>absurd (show 43=keyT from h) (by decide)) (fun h=>absurd (show 43=boxT from h) (by decide))
  have h45:=c45 hx2 (by omega) hkk e (by rw [q4];exact keyN_len _) (by rw [q1,q2,q3]) (by rw [q1];decide) (by rw [q2];decide)
  rw [q1,q2,q4,hR] at h45
  have hX3:xaddH X2 (H.length+1) v l e=X2.set (H.length+1) (xringO (l++[e]) (v+2)):=by unfold xaddH;rw [q1,q2,hb]
  rw [hX3] at h45
  have eX:(H++[ringO [] 0]).length=H.length+1:=by simp
  refine drawK_of2 D16 [X2,X2.set (H.length+1) (xringO (l++[e]) (v+2))] (by kernel_rfl) ?_ trivial ?_
  ·exact rfl
  conv=>whnf
  iterate 3 (refine dS ?_;(conv=>whnf))
  apply Exists.intro
  apply And.intro
  ·conv=>whnf
   exact ⟨⟨show (0:Int)≤((3:Nat):Int) by decide,show ((3:Nat):Int)<5 by decide⟩,[.str aedu,.str (ann)],nmAt (x:=nm0[3]) rfl,rfl,rfl,trivial⟩
  conv=>whnf
  (refine dS ?_;(conv=>whnf))
  apply Exists.intro
  apply And.intro
  ·conv=>whnf
   ((conv in (_[_]?)=>tactic=>exact ho2);(conv=>whnf))
   exact ⟨rfl,rfl,trivial⟩
  conv=>whnf
  refine ⟨_,callK_args (args':=[.ptr (some (H.length+1,0)),.agg [.str aedu,.str (ann)],.agg ((keyN 13).map byteC)]) (by rw [←eX];rfl) (callK_of h45 (by rintro _ _ ⟨rfl,rfl⟩;exact ⟨rfl,rfl,trivial⟩)),?_⟩
  conv=>whnf
  refine ⟨fun _=>?_,fun h=>absurd rfl h⟩
  conv=>whnf
  have eS:Evo (·=H.length+1) X2 (X2.set (H.length+1) (xringO (l++[e]) (v+2))):=Evo.setOther hx2 rfl (xringT l v).1 (xringT l v).2
  refine ⟨⟨3+1,X2.set (H.length+1) (xringO (l++[e]) (v+2))⟩,⟨(show 3+1≤5 by decide),⟨l++[e],v+2,hsm.snoc (x:=nm0[3]) rfl e q1 q2 (q3.trans (by rw [hno];rfl)) q4,hinc.snoc (by rw [q1,q2,q3]),hra2.evo eS (by show ¬H.length=H.length+1;omega),get_set hx2⟩,
   ((hev.trans (Evo.app X [(⟨43,(keyN 13).map byteC,1⟩:PObj)])).trans (hE.mono fun _ h=>.inl h)).trans (eS.mono fun _ h=>.inr h)⟩,⟨rfl,rfl,rfl,rfl,rfl,trivial⟩,rfl,(show 5 - (3+1)<5 - 3 by decide)⟩
 | 4,hk,hsm =>
  conv=>whnf
  refine ⟨fun _=>?_,fun h=>absurd (show ((4:Nat):Int)<5 by decide) h⟩
  conv=>whnf
  refine callK_args (args':=[byteC 14]) rfl (callK_pure (c19 14) ?_)
  conv=>whnf
  ((conv in (_[_]?)=>tactic=>exact get_last X _);(conv=>whnf))
  refine drawK_pure2 (by kernel_rfl) ?_
  conv=>whnf
  iterate 2 (refine dS ?_;(conv=>whnf))
  apply Exists.intro
  apply And.intro
  ·conv=>whnf
   exact ⟨⟨show (0:Int)≤((4:Nat):Int) by decide,show ((4:Nat):Int)<5 by decide⟩,[.str aedu,.str (mail)],nmAt (x:=nm0[4]) rfl,rfl,rfl,trivial⟩
  conv=>whnf
  (refine dS ?_;(conv=>whnf))
  refine ⟨_,callK_pure k2 ⟨rfl,rfl,trivial⟩,?_⟩
  conv=>whnf
  refine ⟨.bool false,?_,?_⟩
  ·conv=>whnf
   exact ⟨⟨fitBg _ _,fitBg _ _⟩,fun h=>absurd (prEq h) (by decide),fun _=>⟨rfl,rfl,trivial⟩⟩
  conv=>whnf
  obtain ⟨v1,hv1⟩:=(hra.evo (S:=fun _=>False) (Evo.app X [(⟨43,(keyN 14).map byteC,1⟩:PObj)]) id).ex
  have hx1:(X++[(⟨43,(keyN 14).map byteC,1⟩:PObj)])[H.length+1]? = some (xringO l v):=by rw [List.getElem?_append_left (List.getElem?_eq_some_iff.1 hx).1];exact hx
  have hno:lastE (isP aedu (mail)) l=none:=hsm.none (by decide)
  have hpr:isPrincB aedu (mail)=true:=by kernel_rfl
  obtain ⟨X2,hX2⟩:∃X2,X2=addH (X++[(⟨43,(keyN 14).map byteC,1⟩:PObj)]) H.length v1 l aedu (mail) (keyN 14):=⟨_,rfl⟩
  have hl5:l.length≤4:=by have:=hsm.len hk;omega
  have hkk:∀e∈l,e.key.length=32∧e.kv≤1000:=fun e he=>⟨hra.klen e he,by obtain ⟨x,_,_,_,h3,_⟩:=hsm.mem he;omega⟩
  obtain ⟨hR,hb,hA⟩:=addY hv1 hl5 aedu (mail) (keyN 14) (keyN_len _) hpr hno
  rw [←hX2] at hA
  have h44:=c44 hv1 (by omega) hkk aedu (mail) (keyN 14) (keyN_len _) (by decide) (by decide)
  rw [hR,←hX2] at h44
  refine drawK_of2 D15 [X++[(⟨43,(keyN 14).map byteC,1⟩:PObj)],X2] (by kernel_rfl) ?_ trivial ?_
  ·exact (set_last X _ _).symm
  conv=>whnf
  iterate 3 (refine dS ?_;(conv=>whnf))
  apply Exists.intro
  apply And.intro
  ·conv=>whnf
   exact ⟨⟨show (0:Int)≤((4:Nat):Int) by decide,show ((4:Nat):Int)<5 by decide⟩,[.str aedu,.str (mail)],nmAt (x:=nm0[4]) rfl,rfl,rfl,trivial⟩
  conv=>whnf
  (refine dS ?_;(conv=>whnf))
  apply Exists.intro
  apply And.intro
  ·conv=>whnf
   ((conv in (_[_]?)=>tactic=>exact get_last X _);(conv=>whnf))
   exact ⟨rfl,rfl,trivial⟩
  conv=>whnf
  refine ⟨_,callK_of h44 (by rintro _ _ ⟨rfl,rfl⟩;exact ⟨rfl,rfl,trivial⟩),?_⟩
  conv=>whnf
  iterate 5 (refine dS ?_;(conv=>whnf))
  conv=>whnf
  obtain ⟨e,q1,q2,q3,q4,hra2⟩:=(hra.evo (S:=fun _=>False) (Evo.app X [(⟨43,(keyN 14).map byteC,1⟩:PObj)]) id).add hA
  have hE:=hA.evo
  have hlt:=(List.getElem?_eq_some_iff.1 hx).1
  have hx2:X2[H.length+1]? = some (xringO l v):=hE.same _ _ hx1 (by show ¬H.length+1=H.length;omega) (xringT l v).1 (xringT l v).2
  have ho2:X2[X.length]? = some (⟨43,(keyN 14).map byteC,1⟩:PObj):=hE.same _ _ (get_last X _) (by show ¬X.length=H.length;omega) (fun h=>absurd (show 43=keyT from h) (by decide)) (fun h=>absurd (show 43=boxT from h) (by decide))
  have h45:=c45 hx2 (by omega) hkk e (by rw [q4];exact keyN_len _) (by rw [q1,q2,q3]) (by rw [q1];decide) (by rw [q2];decide)
  rw [q1,q2,q4,hR] at h45
  have hX3:xaddH X2 (H.length+1) v l e=X2.set (H.length+1) (xringO (l++[e]) (v+2)):=by unfold xaddH;rw [q1,q2,hb]
  rw [hX3] at h45
  have eX:(H++[ringO [] 0]).length=H.length+1:=by simp
  refine drawK_of2 D16 [X2,X2.set (H.length+1) (xringO (l++[e]) (v+2))] (by kernel_rfl) ?_ trivial ?_
  ·exact rfl
  conv=>whnf
  iterate 3 (refine dS ?_;(conv=>whnf))
  apply Exists.intro
  apply And.intro
  ·conv=>whnf
   exact ⟨⟨show (0:Int)≤((4:Nat):Int) by decide,show ((4:Nat):Int)<5 by decide⟩,[.str aedu,.str (mail)],nmAt (x:=nm0[4]) rfl,rfl,rfl,trivial⟩
  conv=>whnf
  (refine dS ?_;(conv=>whnf))
  apply Exists.intro
  apply And.intro
  ·conv=>whnf
   ((conv in (_[_]?)=>tactic=>exact ho2);(conv=>whnf))
   exact ⟨rfl,rfl,trivial⟩
  conv=>whnf
  refine ⟨_,callK_args (args':=[.ptr (some (H.length+1,0)),.agg [.str aedu,.str (mail)],.agg ((keyN 14).map byteC)]) (by rw [←eX];rfl) (callK_of h45 (by rintro _ _ ⟨rfl,rfl⟩;exact ⟨rfl,rfl,trivial⟩)),?_⟩
  conv=>whnf
  refine ⟨fun _=>?_,fun h=>absurd rfl h⟩
  conv=>whnf
  have eS:Evo (·=H.length+1) X2 (X2.set (H.length+1) (xringO (l++[e]) (v+2))):=Evo.setOther hx2 rfl (xringT l v).1 (xringT l v).2
  refine ⟨⟨4+1,X2.set (H.length+1) (xringO (l++[e]) (v+2))⟩,⟨(show 4+1≤5 by decide),⟨l++[e],v+2,hsm.snoc (x:=nm0[4]) rfl e q1 q2 (q3.trans (by rw [hno];rfl)) q4,hinc.snoc (by rw [q1,q2,q3]),hra2.evo eS (by show ¬H.length=H.length+1;omega),get_set hx2⟩,
   ((hev.trans (Evo.app X [(⟨43,(keyN 14).map byteC,1⟩:PObj)])).trans (hE.mono fun _ h=>.inl h)).trans (eS.mono fun _ h=>.inr h)⟩,⟨rfl,rfl,rfl,rfl,rfl,trivial⟩,rfl,(show 5 - (4+1)<5 - 4 by decide)⟩
 | 5,hk,hsm =>
  conv=>whnf
  refine ⟨fun h=>absurd h (show ¬((5:Nat):Int)<5 by decide),fun _=>?_⟩
  conv=>whnf
  refine callK_pure c42 ?_
  conv=>whnf
  refine callK_of (c41 tree0 aedu (by decide) H.length 0 X) ?_
  rintro _ _ ⟨rfl,rfl⟩
  conv=>whnf
  refine callK_pure c42 ?_
  conv=>whnf
  have his:∀r∈rs0,isRealmB r=true∧r.length≤1000:=by
   intro r hr
   have:(isRealmB r&&decide (r.length≤1000))=true:=by
    revert r
    rw [←List.all_eq_true (l:=rs0)]
    kernel_rfl
   simp only [Bool.and_eq_true,decide_eq_true_eq] at this
   exact this
  refine callK_of (c46 tree0 his aedu (by decide) (H++[ringO [] 0]).length 0 _) ?_
  rintro _ _ ⟨rfl,rfl⟩
  conv=>whnf
  refine ⟨fun _=>?_,fun h=>absurd rfl h⟩
  conv=>whnf
  have eX:(H++[ringO [] 0]).length=H.length+1:=by simp
  have g1:∀A B C:PObj,(X++[A]++[B]++[C])[X.length]? = some A:=fun A B C=>by simp
  have g2:∀A B C:PObj,(X++[A]++[B]++[C])[(X++[A]).length]? = some B:=fun A B C=>by simp
  have g3:∀A B C:PObj,(X++[A]++[B]++[C])[(X++[A]++[B]).length]? = some C:=fun A B C=>by simp
  have gE:∀A B C:PObj,Evo (fun _=>False) X (X++[A]++[B]++[C]):=fun A B C=>((Evo.app X [A]).trans (Evo.app _ [B])).trans (Evo.app _ [C])
  have hl:l.length=5:=hsm.len (Nat.le_refl 5)
  have eH:Evo (fun _=>False) H X:=by
   have h0:Evo (fun i=>(False∨i=H.length)∨i=H.length+1) H X:=(((Evo.app H [ringO [] 0]).trans (Evo.app _ [xringO [] 0])).trans (hev.mono fun _ h=>h.elim (fun h=>.inl (.inr h)) .inr))
   exact Evo.drop (S:=fun _=>False) (Evo.drop (S:=fun i=>False∨i=H.length) (a:=H.length+1) h0 (Nat.le_succ _)) (Nat.le_refl _)
  refine ⟨X.length,(X++[kdcO aedu (.slice 3 (rs0.map .str) none) (.slice 4 (ls0.flatMap prC) none) (.slice 0 [] none) H.length 0 0 0]).length,_,l,v,rfl,hsm,hinc,⟨hra.evo (gE _ _ _) id,by omega,⟨0,g1 _ _ _⟩⟩,?_,(gE _ _ _).same _ _ hx id (xringT l v).1 (xringT l v).2,g3 _ _ _,eH.trans (gE _ _ _)⟩
  rw [←eX]
  exact g2 _ _ _
set_option maxHeartbeats 8000000
def asMsg (q:AsQ):Msg:={ mZ with kind:=1,a1:=q.cr,a2:=q.cn,a3:=q.sr,a4:=q.sn,aTill:=q.till,aNonce:=q.nonce }
theorem asMsg_is (q:AsQ):isB (asMsg q)=q.ok:=by
 have h:isB (asMsg q)=((isPrincB q.cr q.cn&&isPrincB q.sr q.sn&&inZ q.till 0 1073741824&&inZ q.nonce 0 1073741824)&&othersB (asMsg q)):=rfl
 have h2:othersB (asMsg q)=true:=rfl
 rw [h,h2,Bool.and_true];rfl
theorem asMsg_len (q:AsQ) (h:q.ok=true):(laidB (asMsg q)).length≤2000:=by
 unfold AsQ.ok at h
 simp only [Bool.and_eq_true] at h
 have g1:=princ_len h.1.1.1
 have g2:=princ_len h.1.1.2
 have h0:=wrapB_len 106 [princE q.cr q.cn,princE q.sr q.sn,intE q.till,intE q.nonce].flatten
 have e1:=princE_len q.cr q.cn
 have e2:=princE_len q.sr q.sn
 have e3:=intE_len q.till
 have e4:=intE_len q.nonce
 simp only [List.flatten_cons,List.flatten_nil,List.length_append,List.length_nil] at h0
 show (wrapB 106 [princE q.cr q.cn,princE q.sr q.sn,intE q.till,intE q.nonce].flatten).length≤2000
 simp only [List.flatten_cons,List.flatten_nil]
 omega
theorem encAs_yes (q:AsQ) (h:q.ok=true):encV (asMsg q)=.tup [sl (laidB (asMsg q)),.int .i64 0]:=encV_yes ⟨(asMsg_is q).trans h,asMsg_len q h⟩
theorem encAs_no (q:AsQ) (h:q.ok=false):encV (asMsg q)=.tup [.slice 0 [] (some 5),.int .i64 1]:=encV_no fun hh=>by rw [asMsg_is q,h] at hh;exact absurd hh.1 (by decide)
theorem c50x {H:PH} {kid rid:Nat} {realm:List UInt8} {rs ls ps:PV} {n i:Int} {v:Nat} (hv:H[kid]? = some (kdcO realm rs ls ps rid n i v)) (r:List UInt8) (hr:r.length≤1000000) :
  CallOk prog 50 [.ptr (some (kid,0)),.str r] H fun x H'=>x=.agg [.str realm,.str (krb r)]∧∃ext,H'=H++ext:=by
 have hv2:∀o,(H++[o])[kid]? = some (kdcO realm rs ls ps rid n i v):=fun o=>by rw [List.getElem?_append_left (List.getElem?_eq_some_iff.1 hv).1];exact hv
 (refine fnS (imm:=imm50) ttK_ok func50 ?_;(conv=>whnf))
 refine drawK_tail 6 {} [H++[(⟨25,[.str [],.str []],0⟩:PObj)]] (by kernel_rfl) rfl trivial ?_
 conv=>whnf
 iterate 3 (refine dS ?_;(conv=>whnf))
 apply Exists.intro
 apply And.intro
 ·conv=>whnf
  ((conv in (_[_]?)=>tactic=>exact hv2 _);(conv=>whnf))
  exact ⟨rfl,rfl,trivial⟩
 conv=>whnf
 (refine dS ?_;(conv=>whnf))
 refine ⟨_,callK_pure (c105 r (by omega)) ⟨rfl,rfl,trivial⟩,?_⟩
 conv=>whnf
 ((conv in (_[_]?)=>tactic=>exact get_last H _);(conv=>whnf))
 ((conv in (_[_]?)=>tactic=>exact (show ((H++[_]).set H.length _)[H.length]? = some _ from List.getElem?_set_self (by simp)));(conv=>whnf))
 refine ⟨rfl,[⟨25,[.str realm,.str (krb r)],1⟩],?_⟩
 show (H++[_]).set H.length _=_
 rw [set_last];rfl
theorem c50 {H:PH} {kid rid:Nat} {realm:List UInt8} {rs ls ps:PV} {n i:Int} {v:Nat} (hv:H[kid]? = some (kdcO realm rs ls ps rid n i v)) (r:List UInt8) (hr:r.length≤1000000) :
  CallOk prog 50 [.ptr (some (kid,0)),.str r] H fun x H'=>x=.agg [.str realm,.str (krb r)]∧H'=H :=
 ((c50x hv r hr).gc fun r H' hh=>⟨by rw [hh.1];rfl,hh.2⟩).mono fun x H' hh=>⟨hh.2.elim fun _ h=>h.1,hh.1⟩
theorem fitK (a b:List UInt8):FitP ttK 6 25 [.str a,.str b]:=⟨rfl,⟨by show 1≤2;omega,a,rfl⟩,rfl,⟨by show 1≤1;omega,b,rfl⟩,rfl⟩
theorem two_eq {a b c d:List UInt8} (h:[PV.str a,.str b]=[.str c,.str d]):a=c∧b=d:=by
 injection h with h1 h2
 injection h1 with h1
 injection h2 with h2 _
 injection h2 with h2
 exact ⟨h1,h2⟩
theorem two_eq' {a b c d:List UInt8} (h:a=c∧b=d):[PV.str a,.str b]=[.str c,.str d]:=by rw [h.1,h.2]
structure AsQ.fit (q:AsQ):Prop where
 cr:q.cr.length≤1000000
 cn:q.cn.length≤1000000
 sr:q.sr.length≤1000000
 sn:q.sn.length≤1000000
set_option maxHeartbeats 4000000
theorem c51d {H:PH} {kid rid:Nat} {realm:List UInt8} {rs ls ps:PV} {l:List Ent} {n i:Nat} (hK:Kd H kid rid realm rs ls ps l n i) (hn:n≤100000) (hi:i≤100000)
  (sr sn:List UInt8) (hsr:sr.length≤1000000) (hsn:sn.length≤1000000) (p:Prt) (hr:p.r.length≤1000000) (hpn:p.n.length≤1000000) (ht:p.tr.length≤1000000) (nonce:Int) (bid:Nat) (bkey:List UInt8) (hb:BoxAt H bid bkey) (u:Int) (hu:isUseB u=true) :
  ∃H1,(Kd H1 kid rid realm rs ls ps l (bump (makeV l n sr sn p nonce bkey u) n 2) (bump (makeV l n sr sn p nonce bkey u) i 1)∧Evo (·=kid) H H1∧H1.length=H.length+1)∧CallOk prog 51 [.ptr (some (kid,0)),.agg ([.str sr,.str sn]++p.cells++[.int .i64 nonce,.ptr (some (bid,0)),.int .i64 u])] H fun x H' =>
   x=.tup [.agg (makeV l n sr sn p nonce bkey u).1.cells,.int .i64 (makeV l n sr sn p nonce bkey u).2]∧H'=H1:=by
 have e1:Evo (fun _=>False) H (H++[ansO]):=Evo.app H _
 have hK1:=hK.evo e1 id id
 have hb1:=e1.box _ _ hb
 have hlt:kid<H.length:=by obtain ⟨v,hv⟩:=hK.k;exact (List.getElem?_eq_some_iff.1 hv).1
 have hne:H.length≠kid:=by omega
 have ha:(H++[ansO])[H.length]? = some ansO:=get_last H _
 obtain ⟨v1,hv1⟩:=hK1.k
 have hrl:rid<H.length:=by have:=hK.ring.ex.choose_spec;exact (List.getElem?_eq_some_iff.1 this).1
 have hg:=lastGet hK1.ring (by have:=hK1.len;omega) sr sn
 have hEp:=c106s p hr hpn ht
 have hEr:=c107s (rptOf p sr sn nonce) hsr hsn
 unfold makeV
 cases hL:lastE (isP sr sn) l with
 | none =>
  rw [hL] at hg
  have w:∃o,CallOk prog 51 [.ptr (some (kid,0)),.agg ([.str sr,.str sn]++p.cells++[.int .i64 nonce,.ptr (some (bid,0)),.int .i64 u])] H fun x H'=>x=.tup [.agg (repZ).cells,.int .i64 4]∧H'=(H++[ansO]).set H.length o:=by
   apply Exists.intro
   (refine fnS (imm:=imm51) ttK_ok func51 ?_;(conv=>whnf))
   refine drawK_pure2 (by kernel_rfl) ?_
   conv=>whnf
   iterate 3 (refine dS ?_;(conv=>whnf))
   apply Exists.intro
   apply And.intro
   ·conv=>whnf
    ((conv in (_[_]?)=>tactic=>exact hv1);(conv=>whnf))
    exact ⟨rfl,rfl,trivial⟩
   conv=>whnf
   iterate 2 (refine dS ?_;(conv=>whnf))
   refine ⟨_,callK_of hg (by rintro _ _ ⟨rfl,rfl⟩;exact ⟨rfl,rfl,trivial⟩),?_⟩
   conv=>whnf
   iterate 7 (refine dS ?_;(conv=>whnf))
   refine ⟨fun h=>absurd h (by decide),fun _=>?_⟩
   conv=>whnf
   ((conv in (_[_]?)=>tactic=>exact ha);(conv=>whnf))
   ((conv in (_[_]?)=>tactic=>exact (show ((H++[ansO]).set H.length _)[H.length]? = some _ from get_set ha));(conv=>whnf))
   exact ⟨rfl,rfl⟩
  obtain ⟨o,ho⟩:=w
  have e2:Evo (fun i=>i=kid∨i=H.length) (H++[ansO]) ((H++[ansO]).set H.length o):=Evo.setOther ha (.inr rfl) ansT.1 ansT.2
  have e3:Evo (fun i=>i=H.length) (H++[ansO]) ((H++[ansO]).set H.length o):=Evo.setOther ha rfl ansT.1 ansT.2
  exact ⟨_,⟨hK1.evo e3 (Ne.symm hne) (by show ¬rid=H.length;omega),((e1.mono fun _ h=>h.elim).trans e2).drop (Nat.le_refl _),by simp⟩,ho⟩
 | some e =>
  rw [hL] at hg
  cases hP:isPartB p with
  | false =>
   rw [(ePrt p).2 hP] at hEp
   have w:∃o,CallOk prog 51 [.ptr (some (kid,0)),.agg ([.str sr,.str sn]++p.cells++[.int .i64 nonce,.ptr (some (bid,0)),.int .i64 u])] H fun x H'=>x=.tup [.agg (repZ).cells,.int .i64 2]∧H'=(H++[ansO]).set H.length o:=by
    apply Exists.intro
    (refine fnS (imm:=imm51) ttK_ok func51 ?_;(conv=>whnf))
    refine drawK_pure2 (by kernel_rfl) ?_
    conv=>whnf
    iterate 3 (refine dS ?_;(conv=>whnf))
    apply Exists.intro
    apply And.intro
    ·conv=>whnf
     ((conv in (_[_]?)=>tactic=>exact hv1);(conv=>whnf))
     exact ⟨rfl,rfl,trivial⟩
    conv=>whnf
    iterate 2 (refine dS ?_;(conv=>whnf))
    refine ⟨_,callK_of hg (by rintro _ _ ⟨rfl,rfl⟩;exact ⟨rfl,rfl,trivial⟩),?_⟩
    conv=>whnf
    iterate 7 (refine dS ?_;(conv=>whnf))
    refine ⟨fun _=>?_,fun h=>absurd rfl h⟩
    conv=>whnf
    refine callK_pure hEp ?_
    conv=>whnf
    refine callK_pure hEr ?_
    conv=>whnf
    refine ⟨fun h=>absurd h (by decide),fun _=>?_⟩
    conv=>whnf
    ((conv in (_[_]?)=>tactic=>exact ha);(conv=>whnf))
    ((conv in (_[_]?)=>tactic=>exact (show ((H++[ansO]).set H.length _)[H.length]? = some _ from get_set ha));(conv=>whnf))
    exact ⟨rfl,rfl⟩
   obtain ⟨o,ho⟩:=w
   have e2:Evo (fun i=>i=kid∨i=H.length) (H++[ansO]) ((H++[ansO]).set H.length o):=Evo.setOther ha (.inr rfl) ansT.1 ansT.2
   have e3:Evo (fun i=>i=H.length) (H++[ansO]) ((H++[ansO]).set H.length o):=Evo.setOther ha rfl ansT.1 ansT.2
   exact ⟨_,⟨hK1.evo e3 (Ne.symm hne) (by show ¬rid=H.length;omega),((e1.mono fun _ h=>h.elim).trans e2).drop (Nat.le_refl _),by simp⟩,ho⟩
  | true =>
   cases hR:isRptB (rptOf p sr sn nonce) with
   | false =>
    rw [((ePrt p).1 hP).1,((ePrt p).1 hP).2] at hEp
    rw [(eRpt _).2 hR] at hEr
    have w:∃o,CallOk prog 51 [.ptr (some (kid,0)),.agg ([.str sr,.str sn]++p.cells++[.int .i64 nonce,.ptr (some (bid,0)),.int .i64 u])] H fun x H'=>x=.tup [.agg (repZ).cells,.int .i64 2]∧H'=(H++[ansO]).set H.length o:=by
     apply Exists.intro
     (refine fnS (imm:=imm51) ttK_ok func51 ?_;(conv=>whnf))
     refine drawK_pure2 (by kernel_rfl) ?_
     conv=>whnf
     iterate 3 (refine dS ?_;(conv=>whnf))
     apply Exists.intro
     apply And.intro
     ·conv=>whnf
      ((conv in (_[_]?)=>tactic=>exact hv1);(conv=>whnf))
      exact ⟨rfl,rfl,trivial⟩
     conv=>whnf
     iterate 2 (refine dS ?_;(conv=>whnf))
     refine ⟨_,callK_of hg (by rintro _ _ ⟨rfl,rfl⟩;exact ⟨rfl,rfl,trivial⟩),?_⟩
     conv=>whnf
     iterate 7 (refine dS ?_;(conv=>whnf))
     refine ⟨fun _=>?_,fun h=>absurd rfl h⟩
     conv=>whnf
     refine callK_pure hEp ?_
     conv=>whnf
     refine callK_pure hEr ?_
     conv=>whnf
     refine ⟨fun _=>?_,fun h=>absurd rfl h⟩
     conv=>whnf
     refine ⟨fun h=>absurd h (by decide),fun _=>?_⟩
     conv=>whnf
     ((conv in (_[_]?)=>tactic=>exact ha);(conv=>whnf))
     ((conv in (_[_]?)=>tactic=>exact (show ((H++[ansO]).set H.length _)[H.length]? = some _ from get_set ha));(conv=>whnf))
     exact ⟨rfl,rfl⟩
    obtain ⟨o,ho⟩:=w
    have e2:Evo (fun i=>i=kid∨i=H.length) (H++[ansO]) ((H++[ansO]).set H.length o):=Evo.setOther ha (.inr rfl) ansT.1 ansT.2
    have e3:Evo (fun i=>i=H.length) (H++[ansO]) ((H++[ansO]).set H.length o):=Evo.setOther ha rfl ansT.1 ansT.2
    exact ⟨_,⟨hK1.evo e3 (Ne.symm hne) (by show ¬rid=H.length;omega),((e1.mono fun _ h=>h.elim).trans e2).drop (Nat.le_refl _),by simp⟩,ho⟩
   | true =>
    rw [((ePrt p).1 hP).1,((ePrt p).1 hP).2] at hEp
    rw [((eRpt _).1 hR).1,((eRpt _).1 hR).2] at hEr
    have hP7:=partL_784 hP
    have hR7:=rptL_784 hR
    have hP0:=Nat.zero_lt_of_ne_zero (show (partL p).length≠0 from Nat.succ_ne_zero _)
    have hR0:=Nat.zero_lt_of_ne_zero (show (rptL (rptOf p sr sn nonce)).length≠0 from Nat.succ_ne_zero _)
    show ∃H1,(Kd H1 kid rid realm rs ls ps l (n+2) (i+1)∧Evo (·=kid) H H1∧H1.length=H.length+1)∧CallOk prog 51 [.ptr (some (kid,0)),.agg ([.str sr,.str sn]++p.cells++[.int .i64 nonce,.ptr (some (bid,0)),.int .i64 u])] H fun x H' =>
     x=.tup [.agg (RepO.cells ⟨p.r,p.n,sr,sn,e.kv,sealK e.key 2 (n+1:Int) (partL p),sealK bkey u (n+2:Int) (rptL (rptOf p sr sn nonce))⟩),.int .i64 0]∧H'=H1
    generalize partL p=pb at *
    generalize rptL (rptOf p sr sn nonce)=rb at *
    have hbx:=hK1.ring.box e (lastE_mem hL)
    have hw1:((n:Int)+1)=((n+1:Nat):Int):=by push_cast;rfl
    have hw2:((n:Int)+2)=((n+2:Nat):Int):=by push_cast;rfl
    obtain ⟨hK2,e2⟩:=hK1.put (n+1) i (v1+1)
    obtain ⟨H3,e3,l3,hc3⟩:=sealX (e2.box _ _ hbx) 2 ((n+1:Nat):Int) rfl (by omega) (by omega) pb hP7 hP0
    have hK3:=hK2.evo e3 id id
    have hb3:=e3.box _ _ (e2.box _ _ hb1)
    obtain ⟨v3,hv3⟩:=hK3.k
    obtain ⟨hK4,e4⟩:=hK3.put (n+2) i (v3+1)
    obtain ⟨H5,e5,l5,hc5⟩:=sealX (e4.box _ _ hb3) u ((n+2:Nat):Int) hu (by omega) (by omega) rb hR7 hR0
    have hK5:=hK4.evo e5 id id
    obtain ⟨v5,hv5⟩:=hK5.k
    obtain ⟨hK6,e6⟩:=hK5.put (n+2) (i+1) (v5+1)
    have e16:Evo (·=kid) (H++[ansO]) (H5.set kid (kdcO realm rs ls ps rid ((n+2:Nat):Int) ((i+1:Nat):Int) (v5+1))):=(((e2.trans (e3.mono fun _ h=>h.elim)).trans e4).trans (e5.mono fun _ h=>h.elim)).trans e6
    have ha6:=e16.same _ _ ha hne ansT.1 ansT.2
    have w:∃o,CallOk prog 51 [.ptr (some (kid,0)),.agg ([.str sr,.str sn]++p.cells++[.int .i64 nonce,.ptr (some (bid,0)),.int .i64 u])] H fun x H'=>x=.tup [.agg (RepO.cells ⟨p.r,p.n,sr,sn,e.kv,sealK e.key 2 (n+1:Int) pb,sealK bkey u (n+2:Int) rb⟩),.int .i64 0]∧H'=(H5.set kid (kdcO realm rs ls ps rid ((n+2:Nat):Int) ((i+1:Nat):Int) (v5+1))).set H.length o:=by
     apply Exists.intro
     (refine fnS (imm:=imm51) ttK_ok func51 ?_;(conv=>whnf))
     refine drawK_pure2 (by kernel_rfl) ?_
     conv=>whnf
     iterate 3 (refine dS ?_;(conv=>whnf))
     apply Exists.intro
     apply And.intro
     ·conv=>whnf
      ((conv in (_[_]?)=>tactic=>exact hv1);(conv=>whnf))
      exact ⟨rfl,rfl,trivial⟩
     conv=>whnf
     iterate 2 (refine dS ?_;(conv=>whnf))
     refine ⟨_,callK_of hg (by rintro _ _ ⟨rfl,rfl⟩;exact ⟨rfl,rfl,trivial⟩),?_⟩
     conv=>whnf
     iterate 7 (refine dS ?_;(conv=>whnf))
     refine ⟨fun _=>?_,fun h=>absurd rfl h⟩
     conv=>whnf
     refine callK_pure hEp ?_
     conv=>whnf
     refine callK_pure hEr ?_
     conv=>whnf
     refine ⟨fun _=>?_,fun h=>absurd rfl h⟩
     conv=>whnf
     refine ⟨fun _=>?_,fun h=>absurd rfl h⟩
     conv=>whnf
     refine callK_of (c109x hv1 (by omega)) ?_
     rintro _ _ ⟨rfl,rfl⟩
     conv=>whnf
     refine callK_of hc3 ?_
     rintro _ _ ⟨hx3,hH3⟩
     rw [hx3,hH3];clear hx3 hH3
     conv=>whnf
     refine drawK_of2 D51 [H3,H3.set kid (kdcO realm rs ls ps rid ((n+2:Nat):Int) i (v3+1)),H5] (by kernel_rfl) rfl trivial ?_
     conv=>whnf
     iterate 4 (refine dS2 ?_;(conv=>whnf))
     (refine dS ?_;(conv=>whnf))
     refine ⟨.int .i64 ((n+2:Nat):Int),?_,?_⟩
     ·conv=>whnf
      refine callK_of (c109x hv3 (by omega)) ?_
      rintro _ _ ⟨rfl,rfl⟩
      exact ⟨rfl,rfl,trivial⟩
     conv=>whnf
     (refine dS2 ?_;(conv=>whnf))
     refine ⟨_,callK_of hc5 (by rintro _ _ ⟨rfl,rfl⟩;exact ⟨rfl,rfl,trivial⟩),?_⟩
     conv=>whnf
     iterate 5 (refine dS ?_;(conv=>whnf))
     conv=>whnf
     refine callK_of (c110 (off:=6) (n:=i) 1 hv5 rfl) ?_
     rintro _ H6 ⟨rfl,hH6⟩
     have hwi:IntKind.i64.wrap ((i:Int)+1)=((i+1:Nat):Int):=by rw [wrap64 (by omega) (by omega)];rfl
     have hk6:(⟨(kdcO realm rs ls ps rid ((n+2:Nat):Int) i v5).T,setCells 6 [.int .i64 (IntKind.i64.wrap ((i:Int)+1))] (kdcO realm rs ls ps rid ((n+2:Nat):Int) i v5).cs,(kdcO realm rs ls ps rid ((n+2:Nat):Int) i v5).ver+1⟩:PObj)=kdcO realm rs ls ps rid ((n+2:Nat):Int) ((i+1:Nat):Int) (v5+1):=by
      rw [hwi];rfl
     replace hH6:H6=H5.set kid (kdcO realm rs ls ps rid ((n+2:Nat):Int) ((i+1:Nat):Int) (v5+1)):=hH6.trans (congrArg (fun o=>H5.set kid o) hk6)
     rw [hH6];clear hH6 H6
     conv=>whnf
     ((conv in (_[_]?)=>tactic=>exact ha6);(conv=>whnf))
     ((conv in (_[_]?)=>tactic=>exact (show ((H5.set kid (kdcO realm rs ls ps rid ((n+2:Nat):Int) ((i+1:Nat):Int) (v5+1))).set H.length _)[H.length]? = some _ from get_set ha6));(conv=>whnf))
     exact ⟨rfl,rfl⟩
    obtain ⟨o,ho⟩:=w
    have e7:Evo (fun i=>i=H.length) (H5.set kid (kdcO realm rs ls ps rid ((n+2:Nat):Int) ((i+1:Nat):Int) (v5+1))) ((H5.set kid (kdcO realm rs ls ps rid ((n+2:Nat):Int) ((i+1:Nat):Int) (v5+1))).set H.length o):=Evo.setOther ha6 rfl ansT.1 ansT.2
    exact ⟨_,⟨hK6.evo e7 (Ne.symm hne) (by show ¬rid=H.length;omega),Evo.drop (S:=(·=kid)) (((e1.mono fun _ h=>h.elim).trans (e16.mono fun _ h=>.inl h)).trans (e7.mono fun _ h=>.inr h)) (Nat.le_refl _),by simp [l3,l5]⟩,ho⟩
set_option maxHeartbeats 8000000
theorem c16g {H:PH} {kid rid:Nat} {realm:List UInt8} {rs ls ps:PV} {l:List Ent} {n i:Nat} (hK:Kd H kid rid realm rs ls ps l n i) (hn:n≤100000) (hi:i≤100000) (hrl:realm.length≤1000000)
  (q:AsQ) (hf:q.fit) (now:Int) (draw:Nat→UInt8) (hl:lateB now=false) (hq:q.ok=true) (c s:Ent) (hC:lastE (isP q.cr q.cn) l=some c) (hS:lastE (isP q.sr q.sn) l=some s)
  (hcr:q.cr=realm) (hs:q.sr=realm∧q.sn=krb realm) (ht:¬q.till<now) :
  ∃H1,(Kd H1 kid rid realm rs ls ps l (bump (makeV l n q.sr q.sn (asPart q now draw) q.nonce c.key 3) n 2) (bump (makeV l n q.sr q.sn (asPart q now draw) q.nonce c.key 3) i 1)∧Evo (·=kid) H H1∧H1.length=H.length+3)∧CallOk prog 16 [.ptr (some (kid,0)),.agg q.cells,.int .i64 now,.agg (keyC draw)] H fun x H' =>
   x=.tup [.agg (makeV l n q.sr q.sn (asPart q now draw) q.nonce c.key 3).1.cells,.int .i64 (makeV l n q.sr q.sn (asPart q now draw) q.nonce c.key 3).2]∧H'=H1:=by
 have e1:Evo (fun _=>False) H (H++[ansO]):=Evo.app H _
 have hK1:=hK.evo e1 id id
 have hlt:kid<H.length:=by obtain ⟨v,hv⟩:=hK.k;exact (List.getElem?_eq_some_iff.1 hv).1
 have hrlt:rid<H.length:=by have:=hK.ring.ex.choose_spec;exact (List.getElem?_eq_some_iff.1 this).1
 have hne:H.length≠kid:=by omega
 have ha:(H++[ansO])[H.length]? = some ansO:=get_last H _
 obtain ⟨v1,hv1⟩:=hK1.k
 have hfit:(asMsg q).fits:=by
  obtain ⟨f1,f2,f3,f4⟩:=hf
  unfold Msg.fits asMsg mZ
  exact ⟨by show q.cr.length≤_;omega,by show q.cn.length≤_;omega,by show q.sr.length≤_;omega,by show q.sn.length≤_;omega,Nat.zero_le _,Nat.zero_le _,Nat.zero_le _,Nat.zero_le _,Nat.zero_le _,Nat.zero_le _,Nat.zero_le _,Nat.zero_le _,Nat.zero_le _,Nat.zero_le _⟩
 have hgC:=lastGet hK1.ring (by have:=hK1.len;omega) q.cr q.cn
 have hgS:=lastGet hK1.ring (by have:=hK1.len;omega) q.sr q.sn
 rw [hC] at hgC
 rw [hS] at hgS
 have hnow:0≤now∧now≤1073741824:=by
  unfold lateB at hl
  rw [Bool.or_eq_false_iff,decide_eq_false_iff_not,decide_eq_false_iff_not] at hl
  omega
 have hw:IntKind.i64.wrap (now+1000)=now+1000:=wrap64 (by omega) (by omega)
 have hp:asPart q now draw=⟨q.cr,q.cn,draw,[],now,min q.till (IntKind.i64.wrap (now+1000))⟩:=by unfold asPart;rw [hw]
 have e2:Evo (fun _=>False) (H++[ansO]) ((H++[ansO])++[⟨50,(asPart q now draw).cells,1⟩]):=Evo.app _ _
 have hK2:=hK1.evo e2 id id
 obtain ⟨H6,⟨hK6,e6,l6⟩,h51⟩:=c51d hK2 hn hi q.sr q.sn hf.sr hf.sn (asPart q now draw) hf.cr hf.cn (Nat.zero_le _) q.nonce c.box c.key (hK2.ring.box c (lastE_mem hC)) 3 rfl
 have hset5:∀x:PObj,CallOk prog 51 [.ptr (some (kid,0)),.agg ([.str q.sr,.str q.sn]++(asPart q now draw).cells++[.int .i64 q.nonce,.ptr (some (c.box,0)),.int .i64 3])] (((H++[ansO])++[x]).set (H++[ansO]).length (⟨50,(⟨q.cr,q.cn,draw,[],now,min q.till (IntKind.i64.wrap (now+1000))⟩:Prt).cells,1⟩:PObj)) fun x H'=>x=.tup [.agg (makeV l n q.sr q.sn (asPart q now draw) q.nonce c.key 3).1.cells,.int .i64 (makeV l n q.sr q.sn (asPart q now draw) q.nonce c.key 3).2]∧H'=H6:=fun x=>by
  rw [set_last,←hp];exact h51
 have ha2:((H++[ansO])++[(⟨50,(asPart q now draw).cells,1⟩:PObj)])[H.length]? = some ansO:=by rw [List.getElem?_append_left (by simp)];exact ha
 have ha6:H6[H.length]? = some ansO:=e6.same _ _ ha2 hne ansT.1 ansT.2
 have w:∃o,CallOk prog 16 [.ptr (some (kid,0)),.agg q.cells,.int .i64 now,.agg (keyC draw)] H fun x H'=>x=.tup [.agg (makeV l n q.sr q.sn (asPart q now draw) q.nonce c.key 3).1.cells,.int .i64 (makeV l n q.sr q.sn (asPart q now draw) q.nonce c.key 3).2]∧H'=H6.set H.length o:=by
  apply Exists.intro
  (refine fnS (imm:=imm16) ttK_ok func16 ?_;(conv=>whnf))
  refine callK_pure ((c47 (asMsg q) hfit).of_eq (encAs_yes q hq)) ?_
  conv=>whnf
  refine callK_pure (c48 now) ?_
  rw [hl]
  conv=>whnf
  refine ⟨fun _=>?_,fun h=>absurd rfl h⟩
  conv=>whnf
  refine drawK_pure2 (by kernel_rfl) ?_
  conv=>whnf
  iterate 3 (refine dS ?_;(conv=>whnf))
  apply Exists.intro
  apply And.intro
  ·conv=>whnf
   ((conv in (_[_]?)=>tactic=>exact hv1);(conv=>whnf))
   exact ⟨rfl,rfl,trivial⟩
  conv=>whnf
  iterate 2 (refine dS ?_;(conv=>whnf))
  refine ⟨_,callK_of hgC (by rintro _ _ ⟨rfl,rfl⟩;exact ⟨rfl,rfl,trivial⟩),?_⟩
  conv=>whnf
  iterate 7 (refine dS ?_;(conv=>whnf))
  refine drawK_pure2 (by kernel_rfl) ?_
  conv=>whnf
  iterate 3 (refine dS ?_;(conv=>whnf))
  apply Exists.intro
  apply And.intro
  ·conv=>whnf
   ((conv in (_[_]?)=>tactic=>exact hv1);(conv=>whnf))
   exact ⟨rfl,rfl,trivial⟩
  conv=>whnf
  iterate 2 (refine dS ?_;(conv=>whnf))
  refine ⟨_,callK_of hgS (by rintro _ _ ⟨rfl,rfl⟩;exact ⟨rfl,rfl,trivial⟩),?_⟩
  conv=>whnf
  iterate 7 (refine dS ?_;(conv=>whnf))
  refine drawK_pure2 (by kernel_rfl) ?_
  conv=>whnf
  iterate 6 (refine dS ?_;(conv=>whnf))
  apply Exists.intro
  apply And.intro
  ·conv=>whnf
   ((conv in (_[_]?)=>tactic=>exact hv1);(conv=>whnf))
   exact ⟨rfl,rfl,trivial⟩
  conv=>whnf
  refine ⟨.bool false,?_,?_⟩
  ·conv=>whnf
   exact ⟨fun h=>⟨rfl,rfl,trivial⟩,fun h=>absurd hcr h⟩
  conv=>whnf
  iterate 2 (refine dS ?_;(conv=>whnf))
  refine ⟨.bool false,?_,?_⟩
  ·conv=>whnf
   exact ⟨fun h=>⟨rfl,rfl,trivial⟩,fun h=>absurd rfl h⟩
  conv=>whnf
  iterate 2 (refine dS ?_;(conv=>whnf))
  conv=>whnf
  refine drawK_pure2 (by kernel_rfl) ?_
  conv=>whnf
  iterate 6 (refine dS ?_;(conv=>whnf))
  apply Exists.intro
  apply And.intro
  ·conv=>whnf
   ((conv in (_[_]?)=>tactic=>exact hv1);(conv=>whnf))
   exact ⟨rfl,rfl,trivial⟩
  conv=>whnf
  refine ⟨_,callK_of (c50 hv1 realm hrl) (by rintro _ _ ⟨rfl,rfl⟩;exact ⟨rfl,rfl,trivial⟩),?_⟩
  conv=>whnf
  refine ⟨.bool false,?_,?_⟩
  ·conv=>whnf
   exact ⟨⟨fitK _ _,fitK _ _⟩,fun h=>⟨rfl,rfl,trivial⟩,fun h=>absurd (two_eq' hs) h⟩
  conv=>whnf
  iterate 2 (refine dS ?_;(conv=>whnf))
  refine ⟨.bool false,?_,?_⟩
  ·conv=>whnf
   exact ⟨fun h=>⟨rfl,rfl,trivial⟩,fun h=>absurd rfl h⟩
  conv=>whnf
  iterate 2 (refine dS ?_;(conv=>whnf))
  conv=>whnf
  refine ⟨fun h=>absurd h ht,fun h=>?_⟩
  conv=>whnf
  ((conv in (_[_]?)=>tactic=>exact (get_last (H++[ansO]) _));(conv=>whnf))
  ((conv in (_[_]?)=>tactic=>exact (show (((H++[ansO])++[_]).set (H++[ansO]).length _)[(H++[ansO]).length]? = some _ from get_set (get_last (H++[ansO]) _)));(conv=>whnf))
  refine callK_args (args':=[.ptr (some (kid,0)),.agg ([.str q.sr,.str q.sn]++(asPart q now draw).cells++[.int .i64 q.nonce,.ptr (some (c.box,0)),.int .i64 3])]) (by rw [hp];rfl) ?_
  refine callK_of (H:=(((H++[ansO])++[_]).set (H++[ansO]).length _)) ((hset5 ⟨50,[.str [],.str []]++List.replicate 32 (.int .u8 0)++[.str [],.int .i64 0,.int .i64 0],0⟩)) ?_
  rintro _ _ ⟨hx6,hH6⟩
  rw [hx6,hH6];clear hx6 hH6
  conv=>whnf
  ((conv in (_[_]?)=>tactic=>exact ha6);(conv=>whnf))
  ((conv in (_[_]?)=>tactic=>exact (show (H6.set H.length _)[H.length]? = some _ from get_set ha6));(conv=>whnf))
  exact ⟨rfl,rfl⟩
 obtain ⟨o,ho⟩:=w
 have e7:Evo (fun i=>i=H.length) H6 (H6.set H.length o):=Evo.setOther ha6 rfl ansT.1 ansT.2
 exact ⟨_,⟨hK6.evo e7 (Ne.symm hne) (by show ¬rid=H.length;omega),Evo.drop (S:=(·=kid)) ((((e1.mono fun _ h=>h.elim).trans (e2.mono fun _ h=>h.elim)).trans (e6.mono fun _ h=>.inl h)).trans (e7.mono fun _ h=>.inr h)) (Nat.le_refl _),by simp [l6]⟩,ho⟩
def E30:PObj:=⟨30,[.str [],.str [],.str [],.str [],.int .i64 0,.slice 0 [] (some 5),.slice 0 [] (some 5)],1⟩
theorem c16b {H:PH} {kid rid:Nat} {realm:List UInt8} {rs ls ps:PV} {l:List Ent} {n i:Nat} (hK:Kd H kid rid realm rs ls ps l n i) (hn:n≤100000) (hi:i≤100000) (hrl:realm.length≤1000000)
  (q:AsQ) (hf:q.fit) (now:Int) (draw:Nat→UInt8) (hng:¬(lateB now=false∧q.ok=true∧(∃c,lastE (isP q.cr q.cn) l=some c)∧(∃s,lastE (isP q.sr q.sn) l=some s)∧q.cr=realm∧(q.sr=realm∧q.sn=krb realm)∧¬q.till<now)) :
  CallOk prog 16 [.ptr (some (kid,0)),.agg q.cells,.int .i64 now,.agg (keyC draw)] H fun x H'=>x=.tup [.agg (asV realm l n q now draw).1.cells,.int .i64 (asV realm l n q now draw).2]∧H'=(H++[ansO]).set H.length E30:=by
 have e1:Evo (fun _=>False) H (H++[ansO]):=Evo.app H _
 have hK1:=hK.evo e1 id id
 have hlt:kid<H.length:=by obtain ⟨v,hv⟩:=hK.k;exact (List.getElem?_eq_some_iff.1 hv).1
 have hrlt:rid<H.length:=by have:=hK.ring.ex.choose_spec;exact (List.getElem?_eq_some_iff.1 this).1
 have hne:H.length≠kid:=by omega
 have ha:(H++[ansO])[H.length]? = some ansO:=get_last H _
 obtain ⟨v1,hv1⟩:=hK1.k
 obtain ⟨r,hr⟩:∃r,r=asV realm l n q now draw:=⟨_,rfl⟩
 rw [←hr]
 have bad:∀(e:Int),r=(repZ,e)∧e≠0→(PV.tup [.agg [.str [],.str [],.str [],.str [],.int .i64 0,.slice 0 [] none,.slice 0 [] none],.int .i64 e]=PV.tup [.agg r.1.cells,.int .i64 r.2]) ∧
   (H++[ansO]).set H.length E30=(H++[ansO]).set H.length E30:=fun e he=>⟨by rw [he.1];rfl,rfl⟩
 have hfit:(asMsg q).fits:=by
  obtain ⟨f1,f2,f3,f4⟩:=hf
  unfold Msg.fits asMsg mZ
  exact ⟨by show q.cr.length≤_;omega,by show q.cn.length≤_;omega,by show q.sr.length≤_;omega,by show q.sn.length≤_;omega,Nat.zero_le _,Nat.zero_le _,Nat.zero_le _,Nat.zero_le _,Nat.zero_le _,Nat.zero_le _,Nat.zero_le _,Nat.zero_le _,Nat.zero_le _,Nat.zero_le _⟩
 (refine fnS (imm:=imm16) ttK_ok func16 ?_;(conv=>whnf))
 cases hq:q.ok with
 | false =>
  have hr1:r=(repZ,1):=by rw [hr];unfold asV;rw [hq,Bool.not_false,Bool.or_true]
  refine callK_pure ((c47 (asMsg q) hfit).of_eq (encAs_no q hq)) ?_
  conv=>whnf
  refine callK_pure (c48 now) ?_
  cases hl:lateB now with
  | true =>
   conv=>whnf
   ((conv in (_[_]?)=>tactic=>exact ha);(conv=>whnf))
   ((conv in (_[_]?)=>tactic=>exact (show ((H++[ansO]).set H.length _)[H.length]? = some _ from get_set ha));(conv=>whnf))
   exact bad 1 (by exact ⟨hr1,by decide⟩)
  | false =>
   conv=>whnf
   refine ⟨fun h=>absurd h (by decide),fun _=>?_⟩
   conv=>whnf
   ((conv in (_[_]?)=>tactic=>exact ha);(conv=>whnf))
   ((conv in (_[_]?)=>tactic=>exact (show ((H++[ansO]).set H.length _)[H.length]? = some _ from get_set ha));(conv=>whnf))
   exact bad 1 (by exact ⟨hr1,by decide⟩)
 | true =>
  refine callK_pure ((c47 (asMsg q) hfit).of_eq (encAs_yes q hq)) ?_
  conv=>whnf
  refine callK_pure (c48 now) ?_
  cases hl:lateB now with
  | true =>
   have hr1:r=(repZ,1):=by rw [hr];unfold asV;rw [hl,Bool.true_or]
   conv=>whnf
   ((conv in (_[_]?)=>tactic=>exact ha);(conv=>whnf))
   ((conv in (_[_]?)=>tactic=>exact (show ((H++[ansO]).set H.length _)[H.length]? = some _ from get_set ha));(conv=>whnf))
   exact bad 1 (by exact ⟨hr1,by decide⟩)
  | false =>
   have hr0:r=match lastE (isP q.cr q.cn) l with
     | none=>(repZ,5)
     | some c=>match decide (q.cr=realm) with
      | false=>(repZ,5)
      | true=>match lastE (isP q.sr q.sn) l with
       | none=>(repZ,6)
       | some s=>match decide (q.sr=realm∧q.sn=krb realm) with
        | false=>(repZ,6)
        | true=>match decide (q.till<now) with
         | true=>(repZ,7)
         | false=>makeV l n q.sr q.sn (asPart q now draw) q.nonce c.key 3:=by rw [hr];unfold asV;rw [hl,hq];rfl
   clear hr
   conv=>whnf
   refine ⟨fun _=>?_,fun h=>absurd rfl h⟩
   conv=>whnf
   have hgC:=lastGet hK1.ring (by have:=hK1.len;omega) q.cr q.cn
   have hgS:=lastGet hK1.ring (by have:=hK1.len;omega) q.sr q.sn
   cases hC:lastE (isP q.cr q.cn) l with
   | none =>
    rw [hC] at hgC hr0
    have hr5:r=(repZ,5)∧(5:Int)≠0:=⟨hr0,by decide⟩
    refine drawK_pure2 (by kernel_rfl) ?_
    conv=>whnf
    iterate 3 (refine dS ?_;(conv=>whnf))
    apply Exists.intro
    apply And.intro
    ·conv=>whnf
     ((conv in (_[_]?)=>tactic=>exact hv1);(conv=>whnf))
     exact ⟨rfl,rfl,trivial⟩
    conv=>whnf
    iterate 2 (refine dS ?_;(conv=>whnf))
    refine ⟨_,callK_of hgC (by rintro _ _ ⟨rfl,rfl⟩;exact ⟨rfl,rfl,trivial⟩),?_⟩
    conv=>whnf
    iterate 7 (refine dS ?_;(conv=>whnf))
    cases hS:lastE (isP q.sr q.sn) l with
    | none =>
     rw [hS] at hgS
     refine drawK_pure2 (by kernel_rfl) ?_
     conv=>whnf
     iterate 3 (refine dS ?_;(conv=>whnf))
     apply Exists.intro
     apply And.intro
     ·conv=>whnf
      ((conv in (_[_]?)=>tactic=>exact hv1);(conv=>whnf))
      exact ⟨rfl,rfl,trivial⟩
     conv=>whnf
     iterate 2 (refine dS ?_;(conv=>whnf))
     refine ⟨_,callK_of hgS (by rintro _ _ ⟨rfl,rfl⟩;exact ⟨rfl,rfl,trivial⟩),?_⟩
     conv=>whnf
     iterate 7 (refine dS ?_;(conv=>whnf))
     by_cases hcr:q.cr=realm
     ·refine drawK_pure2 (by kernel_rfl) ?_
      conv=>whnf
      iterate 6 (refine dS ?_;(conv=>whnf))
      apply Exists.intro
      apply And.intro
      ·conv=>whnf
       ((conv in (_[_]?)=>tactic=>exact hv1);(conv=>whnf))
       exact ⟨rfl,rfl,trivial⟩
      conv=>whnf
      refine ⟨.bool false,?_,?_⟩
      ·conv=>whnf
       exact ⟨fun h=>⟨rfl,rfl,trivial⟩,fun h=>absurd hcr h⟩
      conv=>whnf
      iterate 2 (refine dS ?_;(conv=>whnf))
      refine ⟨.bool true,?_,?_⟩
      ·conv=>whnf
       exact ⟨fun h=>absurd h (by decide),fun h=>⟨rfl,rfl,trivial⟩⟩
      conv=>whnf
      iterate 2 (refine dS ?_;(conv=>whnf))
      conv=>whnf
      ((conv in (_[_]?)=>tactic=>exact ha);(conv=>whnf))
      ((conv in (_[_]?)=>tactic=>exact (show ((H++[ansO]).set H.length _)[H.length]? = some _ from get_set ha));(conv=>whnf))
      exact bad 5 (by exact hr5)
     ·refine drawK_pure2 (by kernel_rfl) ?_
      conv=>whnf
      iterate 6 (refine dS ?_;(conv=>whnf))
      apply Exists.intro
      apply And.intro
      ·conv=>whnf
       ((conv in (_[_]?)=>tactic=>exact hv1);(conv=>whnf))
       exact ⟨rfl,rfl,trivial⟩
      conv=>whnf
      refine ⟨.bool true,?_,?_⟩
      ·conv=>whnf
       exact ⟨fun h=>absurd h hcr,fun h=>⟨rfl,rfl,trivial⟩⟩
      conv=>whnf
      iterate 5 (refine dS ?_;(conv=>whnf))
      conv=>whnf
      ((conv in (_[_]?)=>tactic=>exact ha);(conv=>whnf))
      ((conv in (_[_]?)=>tactic=>exact (show ((H++[ansO]).set H.length _)[H.length]? = some _ from get_set ha));(conv=>whnf))
      exact bad 5 (by exact hr5)
    | some s =>
     rw [hS] at hgS
     refine drawK_pure2 (by kernel_rfl) ?_
     conv=>whnf
     iterate 3 (refine dS ?_;(conv=>whnf))
     apply Exists.intro
     apply And.intro
     ·conv=>whnf
      ((conv in (_[_]?)=>tactic=>exact hv1);(conv=>whnf))
      exact ⟨rfl,rfl,trivial⟩
     conv=>whnf
     iterate 2 (refine dS ?_;(conv=>whnf))
     refine ⟨_,callK_of hgS (by rintro _ _ ⟨rfl,rfl⟩;exact ⟨rfl,rfl,trivial⟩),?_⟩
     conv=>whnf
     iterate 7 (refine dS ?_;(conv=>whnf))
     by_cases hcr:q.cr=realm
     ·refine drawK_pure2 (by kernel_rfl) ?_
      conv=>whnf
      iterate 6 (refine dS ?_;(conv=>whnf))
      apply Exists.intro
      apply And.intro
      ·conv=>whnf
       ((conv in (_[_]?)=>tactic=>exact hv1);(conv=>whnf))
       exact ⟨rfl,rfl,trivial⟩
      conv=>whnf
      refine ⟨.bool false,?_,?_⟩
      ·conv=>whnf
       exact ⟨fun h=>⟨rfl,rfl,trivial⟩,fun h=>absurd hcr h⟩
      conv=>whnf
      iterate 2 (refine dS ?_;(conv=>whnf))
      refine ⟨.bool true,?_,?_⟩
      ·conv=>whnf
       exact ⟨fun h=>absurd h (by decide),fun h=>⟨rfl,rfl,trivial⟩⟩
      conv=>whnf
      iterate 2 (refine dS ?_;(conv=>whnf))
      conv=>whnf
      ((conv in (_[_]?)=>tactic=>exact ha);(conv=>whnf))
      ((conv in (_[_]?)=>tactic=>exact (show ((H++[ansO]).set H.length _)[H.length]? = some _ from get_set ha));(conv=>whnf))
      exact bad 5 (by exact hr5)
     ·refine drawK_pure2 (by kernel_rfl) ?_
      conv=>whnf
      iterate 6 (refine dS ?_;(conv=>whnf))
      apply Exists.intro
      apply And.intro
      ·conv=>whnf
       ((conv in (_[_]?)=>tactic=>exact hv1);(conv=>whnf))
       exact ⟨rfl,rfl,trivial⟩
      conv=>whnf
      refine ⟨.bool true,?_,?_⟩
      ·conv=>whnf
       exact ⟨fun h=>absurd h hcr,fun h=>⟨rfl,rfl,trivial⟩⟩
      conv=>whnf
      iterate 5 (refine dS ?_;(conv=>whnf))
      conv=>whnf
      ((conv in (_[_]?)=>tactic=>exact ha);(conv=>whnf))
      ((conv in (_[_]?)=>tactic=>exact (show ((H++[ansO]).set H.length _)[H.length]? = some _ from get_set ha));(conv=>whnf))
      exact bad 5 (by exact hr5)
   | some c =>
    rw [hC] at hgC hr0
    refine drawK_pure2 (by kernel_rfl) ?_
    conv=>whnf
    iterate 3 (refine dS ?_;(conv=>whnf))
    apply Exists.intro
    apply And.intro
    ·conv=>whnf
     ((conv in (_[_]?)=>tactic=>exact hv1);(conv=>whnf))
     exact ⟨rfl,rfl,trivial⟩
    conv=>whnf
    iterate 2 (refine dS ?_;(conv=>whnf))
    refine ⟨_,callK_of hgC (by rintro _ _ ⟨rfl,rfl⟩;exact ⟨rfl,rfl,trivial⟩),?_⟩
    conv=>whnf
    iterate 7 (refine dS ?_;(conv=>whnf))
    cases hS:lastE (isP q.sr q.sn) l with
    | none =>
     rw [hS] at hgS hr0
     refine drawK_pure2 (by kernel_rfl) ?_
     conv=>whnf
     iterate 3 (refine dS ?_;(conv=>whnf))
     apply Exists.intro
     apply And.intro
     ·conv=>whnf
      ((conv in (_[_]?)=>tactic=>exact hv1);(conv=>whnf))
      exact ⟨rfl,rfl,trivial⟩
     conv=>whnf
     iterate 2 (refine dS ?_;(conv=>whnf))
     refine ⟨_,callK_of hgS (by rintro _ _ ⟨rfl,rfl⟩;exact ⟨rfl,rfl,trivial⟩),?_⟩
     conv=>whnf
     iterate 7 (refine dS ?_;(conv=>whnf))
     by_cases hcr:q.cr=realm
     ·rw [decide_eq_true hcr] at hr0
      have hr6:r=(repZ,6)∧(6:Int)≠0:=⟨hr0,by decide⟩
      refine drawK_pure2 (by kernel_rfl) ?_
      conv=>whnf
      iterate 6 (refine dS ?_;(conv=>whnf))
      apply Exists.intro
      apply And.intro
      ·conv=>whnf
       ((conv in (_[_]?)=>tactic=>exact hv1);(conv=>whnf))
       exact ⟨rfl,rfl,trivial⟩
      conv=>whnf
      refine ⟨.bool false,?_,?_⟩
      ·conv=>whnf
       exact ⟨fun h=>⟨rfl,rfl,trivial⟩,fun h=>absurd hcr h⟩
      conv=>whnf
      iterate 2 (refine dS ?_;(conv=>whnf))
      refine ⟨.bool false,?_,?_⟩
      ·conv=>whnf
       exact ⟨fun h=>⟨rfl,rfl,trivial⟩,fun h=>absurd rfl h⟩
      conv=>whnf
      iterate 2 (refine dS ?_;(conv=>whnf))
      conv=>whnf
      refine drawK_pure2 (by kernel_rfl) ?_
      conv=>whnf
      iterate 6 (refine dS ?_;(conv=>whnf))
      apply Exists.intro
      apply And.intro
      ·conv=>whnf
       ((conv in (_[_]?)=>tactic=>exact hv1);(conv=>whnf))
       exact ⟨rfl,rfl,trivial⟩
      conv=>whnf
      refine ⟨_,callK_of (c50 hv1 realm hrl) (by rintro _ _ ⟨rfl,rfl⟩;exact ⟨rfl,rfl,trivial⟩),?_⟩
      conv=>whnf
      by_cases hs:q.sr=realm∧q.sn=krb realm
      ·refine ⟨.bool false,?_,?_⟩
       ·conv=>whnf
        exact ⟨⟨fitK _ _,fitK _ _⟩,fun h=>⟨rfl,rfl,trivial⟩,fun h=>absurd (two_eq' hs) h⟩
       conv=>whnf
       iterate 2 (refine dS ?_;(conv=>whnf))
       refine ⟨.bool true,?_,?_⟩
       ·conv=>whnf
        exact ⟨fun h=>absurd h (by decide),fun h=>⟨rfl,rfl,trivial⟩⟩
       conv=>whnf
       iterate 2 (refine dS ?_;(conv=>whnf))
       conv=>whnf
       ((conv in (_[_]?)=>tactic=>exact ha);(conv=>whnf))
       ((conv in (_[_]?)=>tactic=>exact (show ((H++[ansO]).set H.length _)[H.length]? = some _ from get_set ha));(conv=>whnf))
       exact bad 6 (by exact hr6)
      ·refine ⟨.bool true,?_,?_⟩
       ·conv=>whnf
        exact ⟨⟨fitK _ _,fitK _ _⟩,fun h=>absurd (two_eq h) hs,fun h=>⟨rfl,rfl,trivial⟩⟩
       conv=>whnf
       iterate 5 (refine dS ?_;(conv=>whnf))
       conv=>whnf
       ((conv in (_[_]?)=>tactic=>exact ha);(conv=>whnf))
       ((conv in (_[_]?)=>tactic=>exact (show ((H++[ansO]).set H.length _)[H.length]? = some _ from get_set ha));(conv=>whnf))
       exact bad 6 (by exact hr6)
     ·rw [decide_eq_false hcr] at hr0
      have hr5:r=(repZ,5)∧(5:Int)≠0:=⟨hr0,by decide⟩
      refine drawK_pure2 (by kernel_rfl) ?_
      conv=>whnf
      iterate 6 (refine dS ?_;(conv=>whnf))
      apply Exists.intro
      apply And.intro
      ·conv=>whnf
       ((conv in (_[_]?)=>tactic=>exact hv1);(conv=>whnf))
       exact ⟨rfl,rfl,trivial⟩
      conv=>whnf
      refine ⟨.bool true,?_,?_⟩
      ·conv=>whnf
       exact ⟨fun h=>absurd h hcr,fun h=>⟨rfl,rfl,trivial⟩⟩
      conv=>whnf
      iterate 5 (refine dS ?_;(conv=>whnf))
      conv=>whnf
      ((conv in (_[_]?)=>tactic=>exact ha);(conv=>whnf))
      ((conv in (_[_]?)=>tactic=>exact (show ((H++[ansO]).set H.length _)[H.length]? = some _ from get_set ha));(conv=>whnf))
      exact bad 5 (by exact hr5)
    | some s =>
     rw [hS] at hgS hr0
     refine drawK_pure2 (by kernel_rfl) ?_
     conv=>whnf
     iterate 3 (refine dS ?_;(conv=>whnf))
     apply Exists.intro
     apply And.intro
     ·conv=>whnf
      ((conv in (_[_]?)=>tactic=>exact hv1);(conv=>whnf))
      exact ⟨rfl,rfl,trivial⟩
     conv=>whnf
     iterate 2 (refine dS ?_;(conv=>whnf))
     refine ⟨_,callK_of hgS (by rintro _ _ ⟨rfl,rfl⟩;exact ⟨rfl,rfl,trivial⟩),?_⟩
     conv=>whnf
     iterate 7 (refine dS ?_;(conv=>whnf))
     by_cases hcr:q.cr=realm
     ·rw [decide_eq_true hcr] at hr0
      refine drawK_pure2 (by kernel_rfl) ?_
      conv=>whnf
      iterate 6 (refine dS ?_;(conv=>whnf))
      apply Exists.intro
      apply And.intro
      ·conv=>whnf
       ((conv in (_[_]?)=>tactic=>exact hv1);(conv=>whnf))
       exact ⟨rfl,rfl,trivial⟩
      conv=>whnf
      refine ⟨.bool false,?_,?_⟩
      ·conv=>whnf
       exact ⟨fun h=>⟨rfl,rfl,trivial⟩,fun h=>absurd hcr h⟩
      conv=>whnf
      iterate 2 (refine dS ?_;(conv=>whnf))
      refine ⟨.bool false,?_,?_⟩
      ·conv=>whnf
       exact ⟨fun h=>⟨rfl,rfl,trivial⟩,fun h=>absurd rfl h⟩
      conv=>whnf
      iterate 2 (refine dS ?_;(conv=>whnf))
      conv=>whnf
      refine drawK_pure2 (by kernel_rfl) ?_
      conv=>whnf
      iterate 6 (refine dS ?_;(conv=>whnf))
      apply Exists.intro
      apply And.intro
      ·conv=>whnf
       ((conv in (_[_]?)=>tactic=>exact hv1);(conv=>whnf))
       exact ⟨rfl,rfl,trivial⟩
      conv=>whnf
      refine ⟨_,callK_of (c50 hv1 realm hrl) (by rintro _ _ ⟨rfl,rfl⟩;exact ⟨rfl,rfl,trivial⟩),?_⟩
      conv=>whnf
      by_cases hs:q.sr=realm∧q.sn=krb realm
      ·rw [decide_eq_true hs] at hr0
       refine ⟨.bool false,?_,?_⟩
       ·conv=>whnf
        exact ⟨⟨fitK _ _,fitK _ _⟩,fun h=>⟨rfl,rfl,trivial⟩,fun h=>absurd (two_eq' hs) h⟩
       conv=>whnf
       iterate 2 (refine dS ?_;(conv=>whnf))
       refine ⟨.bool false,?_,?_⟩
       ·conv=>whnf
        exact ⟨fun h=>⟨rfl,rfl,trivial⟩,fun h=>absurd rfl h⟩
       conv=>whnf
       iterate 2 (refine dS ?_;(conv=>whnf))
       by_cases ht:q.till<now
       ·rw [decide_eq_true ht] at hr0
        have hr7:r=(repZ,7)∧(7:Int)≠0:=⟨hr0,by decide⟩
        conv=>whnf
        refine ⟨fun h=>?_,fun h=>absurd ht h⟩
        conv=>whnf
        ((conv in (_[_]?)=>tactic=>exact ha);(conv=>whnf))
        ((conv in (_[_]?)=>tactic=>exact (show ((H++[ansO]).set H.length _)[H.length]? = some _ from get_set ha));(conv=>whnf))
        exact bad 7 (by exact hr7)
       ·exact absurd ⟨hl,hq,⟨c,hC⟩,⟨s,hS⟩,hcr,hs,ht⟩ hng
      ·rw [decide_eq_false hs] at hr0
       have hr6:r=(repZ,6)∧(6:Int)≠0:=⟨hr0,by decide⟩
       refine ⟨.bool true,?_,?_⟩
       ·conv=>whnf
        exact ⟨⟨fitK _ _,fitK _ _⟩,fun h=>absurd (two_eq h) hs,fun h=>⟨rfl,rfl,trivial⟩⟩
       conv=>whnf
       iterate 5 (refine dS ?_;(conv=>whnf))
       conv=>whnf
       ((conv in (_[_]?)=>tactic=>exact ha);(conv=>whnf))
       ((conv in (_[_]?)=>tactic=>exact (show ((H++[ansO]).set H.length _)[H.length]? = some _ from get_set ha));(conv=>whnf))
       exact bad 6 (by exact hr6)
     ·rw [decide_eq_false hcr] at hr0
      have hr5:r=(repZ,5)∧(5:Int)≠0:=⟨hr0,by decide⟩
      refine drawK_pure2 (by kernel_rfl) ?_
      conv=>whnf
      iterate 6 (refine dS ?_;(conv=>whnf))
      apply Exists.intro
      apply And.intro
      ·conv=>whnf
       ((conv in (_[_]?)=>tactic=>exact hv1);(conv=>whnf))
       exact ⟨rfl,rfl,trivial⟩
      conv=>whnf
      refine ⟨.bool true,?_,?_⟩
      ·conv=>whnf
       exact ⟨fun h=>absurd h hcr,fun h=>⟨rfl,rfl,trivial⟩⟩
      conv=>whnf
      iterate 5 (refine dS ?_;(conv=>whnf))
      conv=>whnf
      ((conv in (_[_]?)=>tactic=>exact ha);(conv=>whnf))
      ((conv in (_[_]?)=>tactic=>exact (show ((H++[ansO]).set H.length _)[H.length]? = some _ from get_set ha));(conv=>whnf))
      exact bad 5 (by exact hr5)
set_option maxHeartbeats 1000000
theorem asV_good {realm:List UInt8} {l:List Ent} {n:Int} {q:AsQ} {now:Int} {draw:Nat→UInt8} (hl:lateB now=false) (hq:q.ok=true) {c s:Ent} (hC:lastE (isP q.cr q.cn) l=some c) (hS:lastE (isP q.sr q.sn) l=some s)
  (hcr:q.cr=realm) (hs:q.sr=realm∧q.sn=krb realm) (ht:¬q.till<now):asV realm l n q now draw=makeV l n q.sr q.sn (asPart q now draw) q.nonce c.key 3:=by
 unfold asV
 rw [hl,hq,hC,hS,decide_eq_true hcr,decide_eq_true hs,decide_eq_false ht]
 rfl
theorem asV_bad {realm:List UInt8} {l:List Ent} {n:Int} {q:AsQ} {now:Int} {draw:Nat→UInt8}
  (hng:¬(lateB now=false∧q.ok=true∧(∃c,lastE (isP q.cr q.cn) l=some c)∧(∃s,lastE (isP q.sr q.sn) l=some s)∧q.cr=realm∧(q.sr=realm∧q.sn=krb realm)∧¬q.till<now)) :
  (asV realm l n q now draw).2≠0:=by
 unfold asV
 cases hl:lateB now with
 | true=>rw [Bool.true_or];show (1:Int)≠0;decide
 | false =>
  cases hq:q.ok with
  | false=>show (1:Int)≠0;decide
  | true =>
   cases hC:lastE (isP q.cr q.cn) l with
   | none=>show (5:Int)≠0;decide
   | some c =>
    by_cases hcr:q.cr=realm
    ·rw [decide_eq_true hcr]
     cases hS:lastE (isP q.sr q.sn) l with
     | none=>show (6:Int)≠0;decide
     | some s =>
      by_cases hs:q.sr=realm∧q.sn=krb realm
      ·rw [decide_eq_true hs]
       by_cases ht:q.till<now
       ·rw [decide_eq_true ht];show (7:Int)≠0;decide
       ·exact absurd ⟨hl,hq,⟨c,hC⟩,⟨s,hS⟩,hcr,hs,ht⟩ hng
      ·rw [decide_eq_false hs];show (6:Int)≠0;decide
    ·rw [decide_eq_false hcr];show (5:Int)≠0;decide
theorem c16d {H:PH} {kid rid:Nat} {realm:List UInt8} {rs ls ps:PV} {l:List Ent} {n i:Nat} (hK:Kd H kid rid realm rs ls ps l n i) (hn:n≤100000) (hi:i≤100000) (hrl:realm.length≤1000000)
  (q:AsQ) (hf:q.fit) (now:Int) (draw:Nat→UInt8) :
  ∃H1,(Kd H1 kid rid realm rs ls ps l (bump (asV realm l n q now draw) n 2) (bump (asV realm l n q now draw) i 1)∧Evo (·=kid) H H1) ∧
   CallOk prog 16 [.ptr (some (kid,0)),.agg q.cells,.int .i64 now,.agg (keyC draw)] H fun x H'=>x=.tup [.agg (asV realm l n q now draw).1.cells,.int .i64 (asV realm l n q now draw).2]∧H'=H1:=by
 by_cases hg:lateB now=false∧q.ok=true∧(∃c,lastE (isP q.cr q.cn) l=some c)∧(∃s,lastE (isP q.sr q.sn) l=some s)∧q.cr=realm∧(q.sr=realm∧q.sn=krb realm)∧¬q.till<now
 ·obtain ⟨hl,hq,⟨c,hC⟩,⟨s,hS⟩,hcr,hs,ht⟩:=hg
  rw [asV_good hl hq hC hS hcr hs ht]
  obtain ⟨H1,⟨h1,h2,_⟩,h3⟩:=c16g hK hn hi hrl q hf now draw hl hq c s hC hS hcr hs ht
  exact ⟨H1,⟨h1,h2⟩,h3⟩
 ·have hb:=c16b hK hn hi hrl q hf now draw hg
  have h0:=asV_bad (n:=(n:Int)) (draw:=draw) hg
  have hbump:∀m k,bump (asV realm l n q now draw) m k=m:=fun m k=>by unfold bump;exact if_neg h0
  rw [hbump,hbump]
  have e1:Evo (fun _=>False) H (H++[ansO]):=Evo.app H _
  have ha:(H++[ansO])[H.length]? = some ansO:=get_last H _
  have hlt:kid<H.length:=by obtain ⟨v,hv⟩:=hK.k;exact (List.getElem?_eq_some_iff.1 hv).1
  have hrlt:rid<H.length:=by have:=hK.ring.ex.choose_spec;exact (List.getElem?_eq_some_iff.1 this).1
  have e2:Evo (fun i=>i=kid∨i=H.length) (H++[ansO]) ((H++[ansO]).set H.length E30):=Evo.setOther ha (.inr rfl) ansT.1 ansT.2
  have e3:Evo (fun i=>i=H.length) (H++[ansO]) ((H++[ansO]).set H.length E30):=Evo.setOther ha rfl ansT.1 ansT.2
  exact ⟨_,⟨(hK.evo e1 id id).evo e3 (by show ¬kid=H.length;omega) (by show ¬rid=H.length;omega),((e1.mono fun _ h=>h.elim).trans e2).drop (Nat.le_refl _)⟩,hb⟩
set_option maxHeartbeats 4000000
theorem Small.some {l:List Ent} (h:Small l 5) {x:Pr×UInt8} (hx:x∈nm0):∃e,lastE (isP x.1.1 x.1.2) l=some e∧e.kv=1∧e.key=keyN x.2∧e.r=x.1.1∧e.n=x.1.2:=by
 have hx5:x∈nm0.take 5:=hx
 have hm:(x.1.1,x.1.2,1,keyN x.2)∈l.map (fun e=>(e.r,e.n,e.kv,e.key)):=by
  rw [show l.map (fun e=>(e.r,e.n,e.kv,e.key))=_ from h]
  exact List.mem_map.2 ⟨x,hx5,rfl⟩
 obtain ⟨e0,he0,hh⟩:=List.mem_map.1 hm
 injection hh with h1 h2
 injection h2 with h2 h3
 injection h3 with h3 h4
 cases he:lastE (isP x.1.1 x.1.2) l with
 | none =>
  have:=List.find?_eq_none.1 he e0 (List.mem_reverse.2 he0)
  exact absurd (isP_iff.2 ⟨h1,h2⟩) this
 | some e =>
  have h5:isP x.1.1 x.1.2 e=true:=by
   have:=List.find?_some he
   exact this
  obtain ⟨a,b⟩:=isP_iff.1 h5
  obtain ⟨y,hy,e1,e2,e3,e4⟩:=h.mem (lastE_mem he)
  refine ⟨e,rfl,e3,?_,a,b⟩
  have hxy:(nm0.all fun y=>nm0.all fun x=>!(decide (y.1=x.1))||decide (y.2=x.2))=true:=by decide
  have:=List.all_eq_true.1 (List.all_eq_true.1 hxy y hy) x hx
  have hyx:y.1=x.1:=Prod.ext (e1.symm.trans a) (e2.symm.trans b)
  rw [decide_eq_true hyx,Bool.not_true,Bool.false_or] at this
  rw [e4,of_decide_eq_true this]
def draw1:Nat→UInt8:=fun i=>match i with
 | 0=>1
 | _=>0
def qK1:AsQ:=⟨aedu,ann,aedu,krb aedu,50,3⟩
def qK2:AsQ:=⟨aedu,mail,aedu,ann,50,0⟩
theorem as1 {l:List Ent} (h:Small l 5) (n:Int):(asV aedu l n qK1 5 draw1).2=0∧(asV aedu l n qK1 5 draw1).1.kv=1:=by
 obtain ⟨c,hC,_⟩:=h.some (x:=((aedu,ann),13)) (by decide)
 obtain ⟨s,hS,hk,_⟩:=h.some (x:=((aedu,krb aedu),10)) (by decide)
 rw [show asV aedu l n qK1 5 draw1=_ from asV_good (realm:=aedu) (q:=qK1) (by decide) (by kernel_rfl) hC hS rfl ⟨rfl,rfl⟩ (by decide)]
 unfold makeV
 rw [show lastE (isP qK1.sr qK1.sn) l=Option.some s from hS]
 have hP:(isPartB (asPart qK1 5 draw1)&&isRptB (rptOf (asPart qK1 5 draw1) qK1.sr qK1.sn qK1.nonce))=true:=by kernel_rfl
 simp only [hP]
 exact ⟨trivial,by show (s.kv:Int)=1;rw [hk];rfl⟩
theorem as2 {l:List Ent} (h:Small l 5) (n:Int):(asV aedu l n qK2 5 draw1).2=6:=by
 obtain ⟨c,hC,_⟩:=h.some (x:=((aedu,mail),14)) (by decide)
 obtain ⟨s,hS,hk,_⟩:=h.some (x:=((aedu,ann),13)) (by decide)
 unfold asV
 rw [show lateB 5=false by decide,show qK2.ok=true by kernel_rfl,show lastE (isP qK2.cr qK2.cn) l=Option.some c from hC,show lastE (isP qK2.sr qK2.sn) l=Option.some s from hS]
 rfl
def ttKw:TT:=[(3,⟨.int .i64,1,8,[.int .i64 0]⟩),(4,⟨.bool,1,1,[.bool false]⟩),(5,⟨.int .u8,1,1,[.int .u8 0]⟩),(9,⟨.str,1,16,[.str []]⟩),(22,⟨.ptr,1,8,[.ptr none]⟩),(25,⟨.strct [(9,0),(9,1)],2,32,[.str [],.str []]⟩),(26,⟨.slice 5,1,24,[.slice 0 [] (some 5)]⟩),(28,⟨.strct [(25,0),(3,2),(26,3)],4,64,[.str [],.str [],.int .i64 0,.slice 0 [] (some 5)]⟩),(30,⟨.strct [(25,0),(28,2),(26,6)],7,120,[.str [],.str [],.str [],.str [],.int .i64 0,.slice 0 [] (some 5),.slice 0 [] (some 5)]⟩),(31,⟨.int .i64,1,8,[.int .i64 0]⟩),(33,⟨.ptr,1,8,[.ptr none]⟩),(34,⟨.ptr,1,8,[.ptr none]⟩),(36,⟨.strct [(33,0),(34,1)],2,16,[.ptr none,.ptr none]⟩),(41,⟨.strct [(25,0),(25,2),(3,4),(3,5)],6,80,[.str [],.str [],.str [],.str [],.int .i64 0,.int .i64 0]⟩),(43,⟨.arr 32 5,32,32,List.replicate 32 (.int .u8 0)⟩),(50,⟨.strct [(25,0),(43,2),(9,34),(3,35),(3,36)],37,96,[.str [],.str []]++List.replicate 32 (.int .u8 0)++[.str [],.int .i64 0,.int .i64 0]⟩),(54,⟨.strct [(43,0),(25,32),(3,34),(3,35),(3,36)],37,88,List.replicate 32 (.int .u8 0)++[.str [],.str [],.int .i64 0,.int .i64 0,.int .i64 0]⟩),(58,⟨.slice 4,1,24,[.slice 0 [] (some 4)]⟩),(88,⟨.slice 9,1,24,[.slice 0 [] (some 9)]⟩),(89,⟨.slice 200,1,24,[.slice 0 [] (some 200)]⟩),(90,⟨.slice 261,1,24,[.slice 0 [] (some 261)]⟩),(92,⟨.strct [(88,0),(89,1),(90,2)],3,72,[.slice 0 [] (some 9),.slice 0 [] (some 200),.slice 0 [] (some 261)]⟩),(93,⟨.ptr,1,8,[.ptr none]⟩),(110,⟨.ptr,1,8,[.ptr none]⟩),(113,⟨.slice 210,1,24,[.slice 0 [] (some 210)]⟩),(115,⟨.strct [(113,0)],1,24,[.slice 0 [] (some 210)]⟩),(116,⟨.slice 25,1,24,[.slice 0 [] (some 25)]⟩),(200,⟨.arr 2 9,2,32,[.str [],.str []]⟩),(210,⟨.strct [(25,0),(3,2),(43,3)],35,72,[.str [],.str [],.int .i64 0]++List.replicate 32 (.int .u8 0)⟩),(261,⟨.strct [(9,0),(9,1),(88,2)],3,56,[.str [],.str [],.slice 0 [] (some 9)]⟩)]
theorem ttKw_ok:ttOk prog ttKw=true:=by kernel_rfl
def imm21t:List Nat:=[]
def z30:PObj:=⟨30,[.str [],.str [],.str [],.str [],.int .i64 0,.slice 0 [] (some 5),.slice 0 [] (some 5)],0⟩
def D21 (n:Nat):Draw:={ imp:=[8,13],robs:=[z30],res:=[(12,0)],base:=n,win:=[(9,1,1),(10,1,1),(11,1,2),(12,0,1),(13,1,1),(14,2,2)] }
theorem z30T:z30.T≠keyT∧z30.T≠boxT:=⟨fun h=>absurd (show 30=keyT from h) (by decide),fun h=>absurd (show 30=boxT from h) (by decide)⟩
theorem o36T (a b:PV):(⟨36,[a,b],0⟩:PObj).T≠keyT∧(⟨36,[a,b],0⟩:PObj).T≠boxT:=⟨fun h=>absurd (show 36=keyT from h) (by decide),fun h=>absurd (show 36=boxT from h) (by decide)⟩
theorem c21 (H:PH):CallOk prog 21 [] H fun r _=>r=.bool true:=by
 (refine fnS (imm:=imm21t) ttKw_ok func21 ?_;(conv=>whnf))
 refine callK_of (c15x H) ?_
 rintro _ X ⟨kid,xid,pid,l,v,rfl,hsm,hinc,hK,hxk,hxr,hp,hev⟩
 conv=>whnf
 have hlt:kid<X.length:=by obtain ⟨v,hv⟩:=hK.k;exact (List.getElem?_eq_some_iff.1 hv).1
 have hlp:=(List.getElem?_eq_some_iff.1 hp).1
 have hlr:H.length<X.length:=by have:=hK.ring.ex.choose_spec;exact (List.getElem?_eq_some_iff.1 this).1
 have hpk:pid≠kid:=by
  rintro rfl
  obtain ⟨w,hw⟩:=hK.k
  rw [hp] at hw
  exact absurd (congrArg (fun o=>o.map PObj.T) hw) (by intro h;exact absurd (Option.some.inj h) (show ¬36=134 by decide))
 have e1:Evo (fun _=>False) X (X++[z30]):=Evo.app X _
 obtain ⟨X1,⟨hK2,e2⟩,h16⟩:=c16d (hK.evo e1 id id) (by decide) (by decide) (by decide) qK1 ⟨by decide,by decide,by decide,by decide⟩ 5 draw1
 obtain ⟨hR1,hR1k⟩:=as1 hsm ((0:Nat):Int)
 generalize asV aedu l ((0:Nat):Int) qK1 5 draw1=R1 at *
 have hb1:∀m k,bump R1 m k=m+k:=fun m k=>if_pos hR1
 rw [hb1,hb1] at hK2
 have hp1:=e1.same _ _ hp id (o36T _ _).1 (o36T _ _).2
 have hz1:X1[X.length]? = some z30:=e2.same _ _ (get_last X _) (by show ¬X.length=kid;omega) z30T.1 z30T.2
 refine drawK_of2 (D21 (X).length) [X++[z30],X1,(X1).set (X).length (⟨30,R1.1.cells,1⟩:PObj)] (by kernel_rfl) ⟨rfl,rfl⟩ trivial ?_
 conv=>whnf
 iterate 3 (refine dS ?_;(conv=>whnf))
 apply Exists.intro
 apply And.intro
 ·conv=>whnf
  ((conv in (_[_]?)=>tactic=>exact hp1);(conv=>whnf))
  exact ⟨rfl,rfl,trivial⟩
 conv=>whnf
 refine ⟨_,callK_pure c17 ⟨rfl,rfl,trivial⟩,?_⟩
 conv=>whnf
 refine ⟨_,callK_pure (c18 aedu aedu (by decide)) ⟨rfl,rfl,trivial⟩,?_⟩
 conv=>whnf
 iterate 2 (refine dS ?_;(conv=>whnf))
 refine ⟨_,callK_args (args':=[.ptr (some (kid,0)),.agg qK1.cells,.int .i64 5,.agg (keyC draw1)]) rfl (callK_of h16 (by rintro _ _ ⟨rfl,rfl⟩;exact ⟨rfl,rfl,trivial⟩)),?_⟩
 conv=>whnf
 iterate 2 (refine dS ?_;(conv=>whnf))
 (refine dS2 ?_;(conv=>whnf))
 refine ⟨.ptr (some ((X).length,0)),?_,?_⟩
 ·conv=>whnf
  refine ⟨⟨⟨rfl,rfl,trivial⟩,get_last X _⟩,?_⟩
  conv=>whnf
  exact ⟨⟨rfl,rfl,trivial⟩,hz1⟩
 conv=>whnf
 apply Exists.intro
 apply And.intro
 ·conv=>whnf
  ((conv in (_[_]?)=>tactic=>exact hz1);(conv=>whnf))
  exact ⟨rfl,rfl,trivial⟩
 conv=>whnf
 (refine dS ?_;(conv=>whnf))
 conv=>whnf
 have e3:Evo (·=X.length) X1 (X1.set X.length ⟨30,R1.1.cells,1⟩):=Evo.setOther hz1 rfl z30T.1 z30T.2
 have hK3:=hK2.evo e3 (by show ¬kid=X.length;omega) (by show ¬H.length=X.length;omega)
 have hp3:=e3.same _ _ (e2.same _ _ hp1 hpk (o36T _ _).1 (o36T _ _).2) (by show ¬pid=X.length;omega) (o36T _ _).1 (o36T _ _).2
 have ho3:(X1.set X.length (⟨30,R1.1.cells,1⟩:PObj))[X.length]? = some ⟨30,R1.1.cells,1⟩:=get_set hz1
 have o30T:(⟨30,R1.1.cells,1⟩:PObj).T≠keyT∧(⟨30,R1.1.cells,1⟩:PObj).T≠boxT:=z30T
 obtain ⟨Y,hY⟩:∃Y,Y=X1.set X.length (⟨30,R1.1.cells,1⟩:PObj):=⟨_,rfl⟩
 rw [←hY] at hK3 hp3 ho3 e3
 have hly:X.length<Y.length:=(List.getElem?_eq_some_iff.1 ho3).1
 have e4:Evo (fun _=>False) Y (Y++[z30]):=Evo.app Y _
 obtain ⟨Y1,⟨hK5,e5⟩,h17⟩:=c16d (hK3.evo e4 id id) (by decide) (by decide) (by decide) qK2 ⟨by decide,by decide,by decide,by decide⟩ 5 draw1
 have hR2:=as2 hsm ((0+2:Nat):Int)
 generalize asV aedu l ((0+2:Nat):Int) qK2 5 draw1=R2 at *
 have hb2:∀m k,bump R2 m k=m:=fun m k=>if_neg (by rw [hR2];decide)
 rw [hb2,hb2] at hK5
 have hp4:=e4.same _ _ hp3 id (o36T _ _).1 (o36T _ _).2
 have hz2:Y1[Y.length]? = some z30:=e5.same _ _ (get_last Y _) (by show ¬Y.length=kid;omega) z30T.1 z30T.2
 have e6:Evo (·=Y.length) Y1 (Y1.set Y.length ⟨30,R2.1.cells,1⟩):=Evo.setOther hz2 rfl z30T.1 z30T.2
 have hK6:=hK5.evo e6 (by show ¬kid=Y.length;omega) (by show ¬H.length=Y.length;omega)
 have hp6:=e6.same _ _ (e5.same _ _ hp4 hpk (o36T _ _).1 (o36T _ _).2) (by show ¬pid=Y.length;omega) (o36T _ _).1 (o36T _ _).2
 have ho6:=e6.same _ _ (e5.same _ _ (e4.same _ _ ho3 id o30T.1 o30T.2) (by show ¬X.length=kid;omega) o30T.1 o30T.2) (by show ¬X.length=Y.length;omega) o30T.1 o30T.2
 refine drawK_of2 (D21 (Y).length) [Y++[z30],Y1,(Y1).set (Y).length (⟨30,R2.1.cells,1⟩:PObj)] (by kernel_rfl) ⟨by rw [hY];rfl,by rw [hY];rfl⟩ trivial ?_
 conv=>whnf
 iterate 3 (refine dS ?_;(conv=>whnf))
 apply Exists.intro
 apply And.intro
 ·conv=>whnf
  ((conv in (_[_]?)=>tactic=>exact hp4);(conv=>whnf))
  exact ⟨rfl,rfl,trivial⟩
 conv=>whnf
 refine ⟨_,callK_pure c27 ⟨rfl,rfl,trivial⟩,?_⟩
 conv=>whnf
 refine ⟨_,callK_pure c17 ⟨rfl,rfl,trivial⟩,?_⟩
 conv=>whnf
 iterate 2 (refine dS ?_;(conv=>whnf))
 refine ⟨_,callK_args (args':=[.ptr (some (kid,0)),.agg qK2.cells,.int .i64 5,.agg (keyC draw1)]) rfl (callK_of h17 (by rintro _ _ ⟨rfl,rfl⟩;exact ⟨rfl,rfl,trivial⟩)),?_⟩
 conv=>whnf
 iterate 2 (refine dS ?_;(conv=>whnf))
 (refine dS2 ?_;(conv=>whnf))
 refine ⟨.ptr (some ((Y).length,0)),?_,?_⟩
 ·conv=>whnf
  refine ⟨⟨⟨rfl,rfl,trivial⟩,get_last Y _⟩,?_⟩
  conv=>whnf
  exact ⟨⟨rfl,rfl,trivial⟩,hz2⟩
 conv=>whnf
 apply Exists.intro
 apply And.intro
 ·conv=>whnf
  ((conv in (_[_]?)=>tactic=>exact hz2);(conv=>whnf))
  exact ⟨rfl,rfl,trivial⟩
 conv=>whnf
 (refine dS ?_;(conv=>whnf))
 conv=>whnf
 refine ⟨fun _=>?_,fun h=>absurd hR1 h⟩
 conv=>whnf
 refine ⟨fun _=>?_,fun h=>absurd hR2 h⟩
 conv=>whnf
 ((conv in (_[_]?)=>tactic=>exact ho6);(conv=>whnf))
 refine ⟨fun _=>?_,fun h=>absurd hR1k h⟩
 conv=>whnf
 ((conv in (_[_]?)=>tactic=>exact hp6);(conv=>whnf))
 obtain ⟨w,hw⟩:=hK6.k
 refine callK_of (c20 hw) ?_
 rintro _ _ ⟨hx7,hH7⟩
 rw [hx7,hH7];clear hx7 hH7
 conv=>whnf
 refine ⟨fun _=>?_,fun h=>absurd rfl h⟩
 conv=>whnf
 rfl
set_option maxHeartbeats 1000000
def KnownP (r n:List UInt8):Prop:=r=aedu∧(n=ann∨n=mail∨n=krb aedu∨n=krb edu)
instance (r n : List UInt8) : Decidable (KnownP r n) := by unfold KnownP; exact inferInstance
set_option maxHeartbeats 4000000
def drawN (n:UInt8):Nat→UInt8:=fun i=>match i with
 | 0=>n
 | 1=>7
 | _=>0
theorem pne {a b c d:List UInt8} (h:¬(a=c∧b=d)):¬([PV.str a,.str b]=[.str c,.str d]):=fun e=>h (two_eq e)
theorem drawK_at {P:Program} {tt:TT} {imm:List Nat} {N:Nat} {ops:List Oper} {E:Env} {H Y:PH} {K:Env→PH→Prop} (e:H=Y) (h:drawK P tt imm N ops E Y K):drawK P tt imm N ops E H K:=e▸h
theorem callK_at {P:Program} {f:Nat} {args:List PV} {H Y:PH} {K:PV→PH→Prop} (e:H=Y) (h:callK P f args Y K):callK P f args H K:=e▸h
theorem inZ_of {n lo hi:Int} (h1:lo≤n) (h2:n≤hi):inZ n lo hi=true:=by unfold inZ;rw [decide_eq_true h1,decide_eq_true h2];rfl
theorem prAnn:isPrincB aedu ann=true:=by kernel_rfl
theorem prTgt:isPrincB aedu (krb aedu)=true:=by kernel_rfl
theorem late_no {now:Int} (h1:0≤now) (h2:now≤1073741824):lateB now=false:=by
 unfold lateB;rw [decide_eq_false (by omega),decide_eq_false (by omega)];rfl
theorem ebPrt {p:Prt} (h:isPartB p=true):eBPrt p=partL p∧eEPrt p=0:=⟨if_pos h,if_pos h⟩
theorem prPrt {p:Prt} (h:isPartB p=true):p.r.length≤1000000∧p.n.length≤1000000∧p.tr.length≤1000000:=by
 unfold isPartB at h
 simp only [Bool.and_eq_true] at h
 have gp:=princ_len h.1.1
 have gt:=isText_len h.1.2
 have g_st:=inZ_le h.2.1
 have g_en:=inZ_le h.2.2
 exact ⟨by omega,by omega,by omega⟩
theorem lePrt (p:Prt):0<(partL p).length:=by unfold partL wrapB;simp
theorem ebAut {p:Aut} (h:isAutB p=true):eBAut p=autL p∧eEAut p=0:=⟨if_pos h,if_pos h⟩
theorem prAut {p:Aut} (h:isAutB p=true):p.r.length≤1000000∧p.n.length≤1000000:=by
 unfold isAutB at h
 simp only [Bool.and_eq_true] at h
 have gp:=princ_len h.1.1
 have g_tm:=inZ_le h.1.2
 have g_sq:=inZ_le h.2
 exact ⟨by omega,by omega⟩
theorem leAut (p:Aut):0<(autL p).length:=by unfold autL wrapB;simp
set_option maxHeartbeats 2000000
def oldH:PH:=[ringO [] 0,⟨25,[.str [65],.str [120]],1⟩]
theorem oldR:RingAt oldH 0 []:=(newRing (H:=[])).evo (S:=fun _=>False) (Evo.app [ringO [] 0] [_]) id
set_option maxHeartbeats 4000000
def z50:PObj:=⟨50,[.str [],.str []]++List.replicate 32 (.int .u8 0)++[.str [],.int .i64 0,.int .i64 0],0⟩
def ttT3:TT:=[(2,⟨.int .i64,1,8,[.int .i64 0]⟩),(3,⟨.int .i64,1,8,[.int .i64 0]⟩),(4,⟨.bool,1,1,[.bool false]⟩),(5,⟨.int .u8,1,1,[.int .u8 0]⟩),(9,⟨.str,1,16,[.str []]⟩),(25,⟨.strct [(9,0),(9,1)],2,32,[.str [],.str []]⟩),(26,⟨.slice 5,1,24,[.slice 0 [] (some 5)]⟩),(28,⟨.strct [(25,0),(3,2),(26,3)],4,64,[.str [],.str [],.int .i64 0,.slice 0 [] (some 5)]⟩),(30,⟨.strct [(25,0),(28,2),(26,6)],7,120,[.str [],.str [],.str [],.str [],.int .i64 0,.slice 0 [] (some 5),.slice 0 [] (some 5)]⟩),(31,⟨.int .i64,1,8,[.int .i64 0]⟩),(33,⟨.ptr,1,8,[.ptr none]⟩),(41,⟨.strct [(25,0),(25,2),(3,4),(3,5)],6,80,[.str [],.str [],.str [],.str [],.int .i64 0,.int .i64 0]⟩),(43,⟨.arr 32 5,32,32,List.replicate 32 (.int .u8 0)⟩),(50,⟨.strct [(25,0),(43,2),(9,34),(3,35),(3,36)],37,96,[.str [],.str []]++List.replicate 32 (.int .u8 0)++[.str [],.int .i64 0,.int .i64 0]⟩),(64,⟨.strct [(28,0),(26,4),(25,5),(3,7),(3,8)],9,136,[.str [],.str [],.int .i64 0,.slice 0 [] (some 5),.slice 0 [] (some 5),.str [],.str [],.int .i64 0,.int .i64 0]⟩),(68,⟨.strct [(25,0),(3,2),(3,3)],4,48,[.str [],.str [],.int .i64 0,.int .i64 0]⟩),(88,⟨.slice 9,1,24,[.slice 0 [] (some 9)]⟩),(89,⟨.slice 200,1,24,[.slice 0 [] (some 200)]⟩),(90,⟨.slice 261,1,24,[.slice 0 [] (some 261)]⟩),(92,⟨.strct [(88,0),(89,1),(90,2)],3,72,[.slice 0 [] (some 9),.slice 0 [] (some 200),.slice 0 [] (some 261)]⟩),(98,⟨.strct [(28,0),(26,4)],5,88,[.str [],.str [],.int .i64 0,.slice 0 [] (some 5),.slice 0 [] (some 5)]⟩),(100,⟨.strct [(31,0),(3,1)],2,16,[.int .i64 0,.int .i64 0]⟩),(102,⟨.strct [(3,0),(41,1),(64,7),(30,16),(98,23),(100,28)],30,448,[.int .i64 0,.str [],.str [],.str [],.str [],.int .i64 0,.int .i64 0,.str [],.str [],.int .i64 0,.slice 0 [] (some 5),.slice 0 [] (some 5),.str [],.str [],.int .i64 0,.int .i64 0,.str [],.str [],.str [],.str [],.int .i64 0,.slice 0 [] (some 5),.slice 0 [] (some 5),.str [],.str [],.int .i64 0,.slice 0 [] (some 5),.slice 0 [] (some 5),.int .i64 0,.int .i64 0]⟩),(110,⟨.ptr,1,8,[.ptr none]⟩),(126,⟨.ptr,1,8,[.ptr none]⟩),(132,⟨.strB [(129,0),(130,0),(2,0)],1,8,[.int .i64 0]⟩),(134,⟨.strct [(9,0),(92,1),(110,4),(132,5),(132,6)],7,112,[.str [],.slice 0 [] (some 9),.slice 0 [] (some 200),.slice 0 [] (some 261),.ptr none,.int .i64 0,.int .i64 0]⟩),(139,⟨.strct [(25,0),(50,2),(3,39),(126,40),(3,41)],42,152,[.str [],.str [],.str [],.str []]++List.replicate 32 (.int .u8 0)++[.str [],.int .i64 0,.int .i64 0,.int .i64 0,.ptr none,.int .i64 0]⟩),(200,⟨.arr 2 9,2,32,[.str [],.str []]⟩),(221,⟨.arr 16 5,16,16,List.replicate 16 (.int .u8 0)⟩),(238,⟨.ptr,1,8,[.ptr none]⟩),(241,⟨.strct [(238,0),(221,1),(132,17),(132,18),(132,19)],20,48,[.ptr none]++List.replicate 16 (.int .u8 0)++[.int .i64 0,.int .i64 0,.int .i64 0]⟩),(261,⟨.strct [(9,0),(9,1),(88,2)],3,56,[.str [],.str [],.slice 0 [] (some 9)]⟩)]
theorem ttT3_ok:ttOk prog ttT3=true:=by kernel_rfl
def imm65t:List Nat:=[4]
def imm67t:List Nat:=[5]
def imm68t:List Nat:=[3]
def imm69t:List Nat:=[5]
def imm29t:List Nat:=[5,7]
theorem Evo.put {H X:PH} (e:Evo (fun _=>False) H X) {a:Nat} {o:PObj} (ha:X[a]? = some o) (h1:o.T≠keyT) (h2:o.T≠boxT) (hle:H.length≤a) (o':PObj):Evo (fun _=>False) H (X.set a o') :=
 Evo.drop (S:=fun _=>False) ((e.mono fun _ h=>h.elim).trans ((Evo.setOther (S:=(·=a)) ha rfl h1 h2).mono fun _ h=>.inr h)) hle
theorem Evo.look {S:Nat→Prop} {H X:PH} (e:Evo S H X) {id:Nat} {o:PObj} (ho:H[id]? = some o) (hs:¬S id) (h1:o.T≠keyT) (h2:o.T≠boxT):X[id]? = some o:=e.same _ _ ho hs h1 h2
theorem z50T:z50.T≠keyT∧z50.T≠boxT:=⟨fun h=>absurd (show 50=keyT from h) (by decide),fun h=>absurd (show 50=boxT from h) (by decide)⟩
theorem o50T (cs:List PV) (v:Nat):(⟨50,cs,v⟩:PObj).T≠keyT∧(⟨50,cs,v⟩:PObj).T≠boxT:=z50T
def shownV (realm:List UInt8) (l:List Ent) (tr tn:List UInt8) (kv:Int) (tb:List UInt8) (now:Int):Prt×Int:=match decide (tn=krb realm) with
 | false=>(zPrt,6)
 | true=>match lastE (isK tr tn kv) l with
  | none=>(zPrt,4)
  | some e=>match openK e.key 2 tb with
   | none=>(zPrt,3)
   | some b=>match decide (gEPrt (partC b) b=0) with
    | false=>(zPrt,2)
    | true=>match decide ((gPPrt (partC b) b).en<now) with
     | true=>(zPrt,7)
     | false=>match decide (now+5<(gPPrt (partC b) b).st) with
      | true=>(zPrt,8)
      | false=>(gPPrt (partC b) b,0)
theorem openK_len {key:List UInt8} {u:Int} {b p:List UInt8} (h:openK key u b=some p):p.length≤b.length:=by
 unfold openK at h
 split at h
 ·cases h
  unfold xorL
  rw [List.length_zipWith,List.length_drop,List.length_take]
  omega
 ·cases h
section
variable {realm : List UInt8} {l : List Ent} {tr tn : List UInt8} {kv : Int} {tb : List UInt8} {now : Int} {e : Ent} {b : List UInt8}
theorem sh_6 (h2:¬tn=krb realm):shownV realm l tr tn kv tb now=(zPrt,6):=by unfold shownV;rw [decide_eq_false h2]
theorem sh_4 (h2:tn=krb realm) (hL:lastE (isK tr tn kv) l=none):shownV realm l tr tn kv tb now=(zPrt,4):=by unfold shownV;rw [decide_eq_true h2,hL]
theorem sh_3 (h2:tn=krb realm) (hL:lastE (isK tr tn kv) l=some e) (hO:openK e.key 2 tb=none):shownV realm l tr tn kv tb now=(zPrt,3):=by unfold shownV;rw [decide_eq_true h2,hL];dsimp only;rw [hO]
theorem sh_2 (h2:tn=krb realm) (hL:lastE (isK tr tn kv) l=some e) (hO:openK e.key 2 tb=some b) (hG:¬gEPrt (partC b) b=0):shownV realm l tr tn kv tb now=(zPrt,2):=by
 unfold shownV;rw [decide_eq_true h2,hL];dsimp only;rw [hO];dsimp only;rw [decide_eq_false hG]
theorem sh_7 (h2:tn=krb realm) (hL:lastE (isK tr tn kv) l=some e) (hO:openK e.key 2 tb=some b) (hG:gEPrt (partC b) b=0) (h3:(gPPrt (partC b) b).en<now):shownV realm l tr tn kv tb now=(zPrt,7):=by
 unfold shownV;rw [decide_eq_true h2,hL];dsimp only;rw [hO];dsimp only;rw [decide_eq_true hG];dsimp only;rw [decide_eq_true h3]
theorem sh_8 (h2:tn=krb realm) (hL:lastE (isK tr tn kv) l=some e) (hO:openK e.key 2 tb=some b) (hG:gEPrt (partC b) b=0) (h3:¬(gPPrt (partC b) b).en<now) (h4:now+5<(gPPrt (partC b) b).st):shownV realm l tr tn kv tb now=(zPrt,8):=by
 unfold shownV;rw [decide_eq_true h2,hL];dsimp only;rw [hO];dsimp only;rw [decide_eq_true hG];dsimp only;rw [decide_eq_false h3];dsimp only;rw [decide_eq_true h4]
theorem sh_0 (h2:tn=krb realm) (hL:lastE (isK tr tn kv) l=some e) (hO:openK e.key 2 tb=some b) (hG:gEPrt (partC b) b=0) (h3:¬(gPPrt (partC b) b).en<now) (h4:¬now+5<(gPPrt (partC b) b).st):shownV realm l tr tn kv tb now=(gPPrt (partC b) b,0):=by
 unfold shownV;rw [decide_eq_true h2,hL];dsimp only;rw [hO];dsimp only;rw [decide_eq_true hG];dsimp only;rw [decide_eq_false h3];dsimp only;rw [decide_eq_false h4]
end
theorem c65 {H:PH} {kid rid:Nat} {realm:List UInt8} {rs ls ps:PV} {l:List Ent} {n i:Nat} (hK:Kd H kid rid realm rs ls ps l n i) (hrl:realm.length≤1000000) (tr tn:List UInt8) (kv:Int) (tb:List UInt8) (htb:tb.length≤140737488355328) (now:Int) (h0:0≤now) (h1:now≤1073741824) :
  CallOk prog 65 [.ptr (some (kid,0)),.agg [.str tr,.str tn,.int .i64 kv,sl tb],.int .i64 now] H fun x H' =>
   x=.tup [.agg (shownV realm l tr tn kv tb now).1.cells,.int .i64 (shownV realm l tr tn kv tb now).2]∧Evo (fun _=>False) H H':=by
 have e1:Evo (fun _=>False) H (H++[z50]):=Evo.app H _
 have hK1:=hK.evo e1 id id
 obtain ⟨v1,hv1⟩:=hK1.k
 have k105:=c105 realm (by omega)
 have ha:(H++[z50])[H.length]? = some z50:=get_last H _
 have w5:IntKind.i64.wrap (now+5)=now+5:=wrap64 (by omega) (by omega)
 obtain ⟨S,hS⟩:∃S,S=shownV realm l tr tn kv tb now:=⟨_,rfl⟩
 rw [←hS]
 (refine fnS (imm:=imm65t) ttT3_ok func65 ?_;(conv=>whnf))
 refine drawK_pure2 (by kernel_rfl) ?_
 conv=>whnf
 by_cases h2:tn=krb realm
 ·(repeat (first | ((first | (apply exA;(focus exact oN)) | refine ⟨fun _=>?_,fun h=>absurd (by first | assumption | rfl | decide | omega) h⟩ | refine ⟨fun h=>absurd h (by first | assumption | rfl | decide | omega),fun _=>?_⟩ | refine And.intro ⟨by exact fitS,by exact fitS⟩ ⟨fun _=>?_,fun h=>absurd (by first | assumption | rfl | decide | omega) h⟩ | refine And.intro ⟨by exact fitS,by exact fitS⟩ ⟨fun h=>absurd h (by first | assumption | rfl | decide | omega),fun _=>?_⟩ | (apply callK_pure;(focus assumption)) | (apply callK_eq;(focus assumption)) | refine ⟨by first | decide | omega,?_⟩);((conv=>whnf))) | ((conv in (_[_]?)=>tactic=>first | exact oL | exact get_set (by assumption));(conv=>whnf))))
  have hg:=boxGet hK1.ring (by have:=hK1.len;omega) tr tn kv
  cases hL:lastE (isK tr tn kv) l with
  | none =>
   rw [hL] at hg
   have hR:=hS.trans (sh_4 h2 hL)
   refine drawK_pure2 (by kernel_rfl) ?_
   conv=>whnf
   (repeat (first | ((first | (apply exA;(focus exact oN)) | refine ⟨fun _=>?_,fun h=>absurd (by first | assumption | rfl | decide | omega) h⟩ | refine ⟨fun h=>absurd h (by first | assumption | rfl | decide | omega),fun _=>?_⟩ | refine And.intro ⟨by exact fitS,by exact fitS⟩ ⟨fun _=>?_,fun h=>absurd (by first | assumption | rfl | decide | omega) h⟩ | refine And.intro ⟨by exact fitS,by exact fitS⟩ ⟨fun h=>absurd h (by first | assumption | rfl | decide | omega),fun _=>?_⟩ | (apply callK_pure;(focus assumption)) | (apply callK_eq;(focus assumption)) | refine ⟨by first | decide | omega,?_⟩);((conv=>whnf))) | ((conv in (_[_]?)=>tactic=>first | exact oL | exact get_set (by assumption));(conv=>whnf))))
   exact ⟨by rw [hR];rfl,e1.put ha z50T.1 z50T.2 (Nat.le_refl _) _⟩
  | some e =>
   rw [hL] at hg
   refine drawK_pure2 (by kernel_rfl) ?_
   conv=>whnf
   (repeat (first | ((first | (apply exA;(focus exact oN)) | refine ⟨fun _=>?_,fun h=>absurd (by first | assumption | rfl | decide | omega) h⟩ | refine ⟨fun h=>absurd h (by first | assumption | rfl | decide | omega),fun _=>?_⟩ | refine And.intro ⟨by exact fitS,by exact fitS⟩ ⟨fun _=>?_,fun h=>absurd (by first | assumption | rfl | decide | omega) h⟩ | refine And.intro ⟨by exact fitS,by exact fitS⟩ ⟨fun h=>absurd h (by first | assumption | rfl | decide | omega),fun _=>?_⟩ | (apply callK_pure;(focus assumption)) | (apply callK_eq;(focus assumption)) | refine ⟨by first | decide | omega,?_⟩);((conv=>whnf))) | ((conv in (_[_]?)=>tactic=>first | exact oL | exact get_set (by assumption));(conv=>whnf))))
   refine callK_of (openAt (hK1.ring.box e (lastE_mem hL)) 2 rfl tb) ?_
   rintro _ H2 ⟨rfl,e2,hl2⟩
   have eA:Evo (fun _=>False) H H2:=e1.trans e2
   have ha2:=e2.look ha id z50T.1 z50T.2
   have hlt:H.length<H2.length:=(List.getElem?_eq_some_iff.1 ha2).1
   cases hO:openK e.key 2 tb with
   | none =>
    have hv:openV e.key 2 tb=.tup [sl [],.int .i64 3]:=by unfold openV;rw [hO]
    have hR:=hS.trans (sh_3 h2 hL hO)
    rw [hv]
    conv=>whnf
    (repeat (first | ((first | (apply exA;(focus exact oN)) | refine ⟨fun _=>?_,fun h=>absurd (by first | assumption | rfl | decide | omega) h⟩ | refine ⟨fun h=>absurd h (by first | assumption | rfl | decide | omega),fun _=>?_⟩ | refine And.intro ⟨by exact fitS,by exact fitS⟩ ⟨fun _=>?_,fun h=>absurd (by first | assumption | rfl | decide | omega) h⟩ | refine And.intro ⟨by exact fitS,by exact fitS⟩ ⟨fun h=>absurd h (by first | assumption | rfl | decide | omega),fun _=>?_⟩ | (apply callK_pure;(focus assumption)) | (apply callK_eq;(focus assumption)) | refine ⟨by first | decide | omega,?_⟩);((conv=>whnf))) | ((conv in (_[_]?)=>tactic=>first | exact oL | exact get_set (by assumption));(conv=>whnf))))
    exact ⟨by rw [hR];rfl,eA.put ha2 z50T.1 z50T.2 (Nat.le_refl _) _⟩
   | some b =>
    have hv:openV e.key 2 tb=.tup [sl b,.int .i64 0]:=by unfold openV;rw [hO]
    rw [hv]
    have s2:=fun h=>hS.trans (sh_2 (now:=now) h2 hL hO h)
    have s7:=fun h h3=>hS.trans (sh_7 h2 hL hO h h3)
    have s8:=fun h h3 h4=>hS.trans (sh_8 h2 hL hO h h3 h4)
    have s0:=fun h h3 h4=>hS.trans (sh_0 h2 hL hO h h3 h4)
    have k124:=c124s b (Nat.le_trans (openK_len hO) htb)
    generalize gPPrt (partC b) b=p at *
    generalize gEPrt (partC b) b=G at *
    have ha3:((H2++[z50]).set H2.length (⟨50,p.cells,1⟩:PObj))[H.length]? = some z50:=by rw [List.getElem?_set_ne (by omega),List.getElem?_append_left hlt];exact ha2
    have eC:Evo (fun _=>False) H ((H2++[z50]).set H2.length (⟨50,p.cells,1⟩:PObj)):=(eA.trans (Evo.app _ _)).put (get_last H2 _) z50T.1 z50T.2 (by omega) _
    by_cases hG:G=0
    ·by_cases hen:p.en<now
     ·have hR:=s7 hG hen
      conv=>whnf
      (repeat (first | ((first | (apply exA;(focus exact oN)) | refine ⟨fun _=>?_,fun h=>absurd (by first | assumption | rfl | decide | omega) h⟩ | refine ⟨fun h=>absurd h (by first | assumption | rfl | decide | omega),fun _=>?_⟩ | refine And.intro ⟨by exact fitS,by exact fitS⟩ ⟨fun _=>?_,fun h=>absurd (by first | assumption | rfl | decide | omega) h⟩ | refine And.intro ⟨by exact fitS,by exact fitS⟩ ⟨fun h=>absurd h (by first | assumption | rfl | decide | omega),fun _=>?_⟩ | (apply callK_pure;(focus assumption)) | (apply callK_eq;(focus assumption)) | refine ⟨by first | decide | omega,?_⟩);((conv=>whnf))) | ((conv in (_[_]?)=>tactic=>first | exact oL | exact get_set (by assumption));(conv=>whnf))))
      exact ⟨by rw [hR];rfl,eC.put ha3 z50T.1 z50T.2 (Nat.le_refl _) _⟩
     ·by_cases hst:now+5<p.st
      ·have hR:=s8 hG hen hst
       have hst':IntKind.i64.wrap (now+5)<p.st:=by rw [w5];exact hst
       conv=>whnf
       (repeat (first | ((first | (apply exA;(focus exact oN)) | refine ⟨fun _=>?_,fun h=>absurd (by first | assumption | rfl | decide | omega) h⟩ | refine ⟨fun h=>absurd h (by first | assumption | rfl | decide | omega),fun _=>?_⟩ | refine And.intro ⟨by exact fitS,by exact fitS⟩ ⟨fun _=>?_,fun h=>absurd (by first | assumption | rfl | decide | omega) h⟩ | refine And.intro ⟨by exact fitS,by exact fitS⟩ ⟨fun h=>absurd h (by first | assumption | rfl | decide | omega),fun _=>?_⟩ | (apply callK_pure;(focus assumption)) | (apply callK_eq;(focus assumption)) | refine ⟨by first | decide | omega,?_⟩);((conv=>whnf))) | ((conv in (_[_]?)=>tactic=>first | exact oL | exact get_set (by assumption));(conv=>whnf))))
       exact ⟨by rw [hR];rfl,eC.put ha3 z50T.1 z50T.2 (Nat.le_refl _) _⟩
      ·have hR:=s0 hG hen hst
       have hst':¬IntKind.i64.wrap (now+5)<p.st:=by rw [w5];exact hst
       conv=>whnf
       (repeat (first | ((first | (apply exA;(focus exact oN)) | refine ⟨fun _=>?_,fun h=>absurd (by first | assumption | rfl | decide | omega) h⟩ | refine ⟨fun h=>absurd h (by first | assumption | rfl | decide | omega),fun _=>?_⟩ | refine And.intro ⟨by exact fitS,by exact fitS⟩ ⟨fun _=>?_,fun h=>absurd (by first | assumption | rfl | decide | omega) h⟩ | refine And.intro ⟨by exact fitS,by exact fitS⟩ ⟨fun h=>absurd h (by first | assumption | rfl | decide | omega),fun _=>?_⟩ | (apply callK_pure;(focus assumption)) | (apply callK_eq;(focus assumption)) | refine ⟨by first | decide | omega,?_⟩);((conv=>whnf))) | ((conv in (_[_]?)=>tactic=>first | exact oL | exact get_set (by assumption));(conv=>whnf))))
       exact ⟨by rw [hR];rfl,eC.put ha3 z50T.1 z50T.2 (Nat.le_refl _) _⟩
    ·have hR:=s2 hG
     conv=>whnf
     (repeat (first | ((first | (apply exA;(focus exact oN)) | refine ⟨fun _=>?_,fun h=>absurd (by first | assumption | rfl | decide | omega) h⟩ | refine ⟨fun h=>absurd h (by first | assumption | rfl | decide | omega),fun _=>?_⟩ | refine And.intro ⟨by exact fitS,by exact fitS⟩ ⟨fun _=>?_,fun h=>absurd (by first | assumption | rfl | decide | omega) h⟩ | refine And.intro ⟨by exact fitS,by exact fitS⟩ ⟨fun h=>absurd h (by first | assumption | rfl | decide | omega),fun _=>?_⟩ | (apply callK_pure;(focus assumption)) | (apply callK_eq;(focus assumption)) | refine ⟨by first | decide | omega,?_⟩);((conv=>whnf))) | ((conv in (_[_]?)=>tactic=>first | exact oL | exact get_set (by assumption));(conv=>whnf))))
     exact ⟨by rw [hR];rfl,eC.put ha3 z50T.1 z50T.2 (Nat.le_refl _) _⟩
 ·have hR:=hS.trans (sh_6 h2)
  (repeat (first | ((first | (apply exA;(focus exact oN)) | refine ⟨fun _=>?_,fun h=>absurd (by first | assumption | rfl | decide | omega) h⟩ | refine ⟨fun h=>absurd h (by first | assumption | rfl | decide | omega),fun _=>?_⟩ | refine And.intro ⟨by exact fitS,by exact fitS⟩ ⟨fun _=>?_,fun h=>absurd (by first | assumption | rfl | decide | omega) h⟩ | refine And.intro ⟨by exact fitS,by exact fitS⟩ ⟨fun h=>absurd h (by first | assumption | rfl | decide | omega),fun _=>?_⟩ | (apply callK_pure;(focus assumption)) | (apply callK_eq;(focus assumption)) | refine ⟨by first | decide | omega,?_⟩);((conv=>whnf))) | ((conv in (_[_]?)=>tactic=>first | exact oL | exact get_set (by assumption));(conv=>whnf))))
  exact ⟨by rw [hR];rfl,e1.put ha z50T.1 z50T.2 (Nat.le_refl _) _⟩
def provesV (key:List UInt8) (p:Prt) (ab:List UInt8) (now:Int):Int:=match openK key 7 ab with
 | none=>3
 | some b=>match decide (gEAut (autC b) b=0) with
  | false=>2
  | true=>match decide ((gPAut (autC b) b).r=p.r∧(gPAut (autC b) b).n=p.n) with
   | false=>9
   | true=>match decide (now+5<(gPAut (autC b) b).tm∨(gPAut (autC b) b).tm<now - 5) with
    | true=>8
    | false=>0
def z68:PObj:=⟨68,[.str [],.str [],.int .i64 0,.int .i64 0],0⟩
theorem z68T:z68.T≠keyT∧z68.T≠boxT:=⟨fun h=>absurd (show 68=keyT from h) (by decide),fun h=>absurd (show 68=boxT from h) (by decide)⟩
section
variable {key : List UInt8} {p : Prt} {ab : List UInt8} {now : Int} {b : List UInt8}
theorem pv_3 (hO:openK key 7 ab=none):provesV key p ab now=3:=by unfold provesV;rw [hO]
theorem pv_2 (hO:openK key 7 ab=some b) (hG:¬gEAut (autC b) b=0):provesV key p ab now=2:=by unfold provesV;rw [hO];dsimp only;rw [decide_eq_false hG]
theorem pv_9 (hO:openK key 7 ab=some b) (hG:gEAut (autC b) b=0) (hm:¬((gPAut (autC b) b).r=p.r∧(gPAut (autC b) b).n=p.n)):provesV key p ab now=9:=by unfold provesV;rw [hO];dsimp only;rw [decide_eq_true hG];dsimp only;rw [decide_eq_false hm]
theorem pv_8 (hO:openK key 7 ab=some b) (hG:gEAut (autC b) b=0) (hm:(gPAut (autC b) b).r=p.r∧(gPAut (autC b) b).n=p.n) (ht:now+5<(gPAut (autC b) b).tm∨(gPAut (autC b) b).tm<now - 5):provesV key p ab now=8:=by
 unfold provesV;rw [hO];dsimp only;rw [decide_eq_true hG];dsimp only;rw [decide_eq_true hm];dsimp only;rw [decide_eq_true ht]
theorem pv_0 (hO:openK key 7 ab=some b) (hG:gEAut (autC b) b=0) (hm:(gPAut (autC b) b).r=p.r∧(gPAut (autC b) b).n=p.n) (ht:¬(now+5<(gPAut (autC b) b).tm∨(gPAut (autC b) b).tm<now - 5)):provesV key p ab now=0:=by
 unfold provesV;rw [hO];dsimp only;rw [decide_eq_true hG];dsimp only;rw [decide_eq_true hm];dsimp only;rw [decide_eq_false ht]
end
theorem c67 {H:PH} {bid:Nat} {key:List UInt8} (hb:BoxAt H bid key) (p:Prt) (ab:List UInt8) (hab:ab.length≤140737488355328) (now:Int) (h0:0≤now) (h1:now≤1073741824) :
  CallOk prog 67 [.ptr (some (bid,0)),.agg p.cells,sl ab,.int .i64 now] H fun x H'=>x=.int .i64 (provesV key p ab now)∧Evo (fun _=>False) H H':=by
 have w5:IntKind.i64.wrap (now+5)=now+5:=wrap64 (by omega) (by omega)
 have w6:IntKind.i64.wrap (now - 5)=now - 5:=wrap64 (by omega) (by omega)
 obtain ⟨S,hS⟩:∃S,S=provesV key p ab now:=⟨_,rfl⟩
 rw [←hS]
 (refine fnS (imm:=imm67t) ttT3_ok func67 ?_;(conv=>whnf))
 refine callK_of (openAt hb 7 rfl ab) ?_
 rintro _ H2 ⟨rfl,e2,hl2⟩
 cases hO:openK key 7 ab with
 | none =>
  have hv:openV key 7 ab=.tup [sl [],.int .i64 3]:=by unfold openV;rw [hO]
  have hR:=hS.trans (pv_3 hO)
  rw [hv]
  conv=>whnf
  (repeat (first | ((first | (apply exA;(focus exact oN)) | refine ⟨fun _=>?_,fun h=>absurd (by first | assumption | rfl | decide | omega) h⟩ | refine ⟨fun h=>absurd h (by first | assumption | rfl | decide | omega),fun _=>?_⟩ | refine And.intro ⟨by exact fitS,by exact fitS⟩ ⟨fun _=>?_,fun h=>absurd (by first | assumption | rfl | decide | omega) h⟩ | refine And.intro ⟨by exact fitS,by exact fitS⟩ ⟨fun h=>absurd h (by first | assumption | rfl | decide | omega),fun _=>?_⟩ | (apply callK_pure;(focus assumption)) | (apply callK_eq;(focus assumption)) | refine ⟨by first | decide | omega,?_⟩);((conv=>whnf))) | ((conv in (_[_]?)=>tactic=>first | exact oL | exact get_set (by assumption));(conv=>whnf))))
  exact ⟨by rw [hR];rfl,e2⟩
 | some b =>
  have hv:openV key 7 ab=.tup [sl b,.int .i64 0]:=by unfold openV;rw [hO]
  rw [hv]
  have s2:=fun h=>hS.trans (pv_2 (p:=p) (now:=now) hO h)
  have s9:=fun h h3=>hS.trans (pv_9 (now:=now) hO h h3)
  have s8:=fun h h3 h4=>hS.trans (pv_8 hO h h3 h4)
  have s0:=fun h h3 h4=>hS.trans (pv_0 hO h h3 h4)
  have k126:=c126s b (Nat.le_trans (openK_len hO) hab)
  generalize gPAut (autC b) b=a at *
  generalize gEAut (autC b) b=G at *
  have eC:Evo (fun _=>False) H ((H2++[z68]).set H2.length (⟨68,a.cells,1⟩:PObj)):=(e2.trans (Evo.app _ _)).put (get_last H2 _) z68T.1 z68T.2 (by omega) _
  by_cases hG:G=0
  ·by_cases hm:a.r=p.r∧a.n=p.n
   ·have hm':[PV.str a.r,.str a.n]=[.str p.r,.str p.n]:=two_eq' hm
    by_cases ht:now+5<a.tm
    ·have hR:=s8 hG hm (.inl ht)
     have ht':IntKind.i64.wrap (now+5)<a.tm:=by rw [w5];exact ht
     conv=>whnf
     (repeat (first | ((first | (apply exA;(focus exact oN)) | refine ⟨fun _=>?_,fun h=>absurd (by first | assumption | rfl | decide | omega) h⟩ | refine ⟨fun h=>absurd h (by first | assumption | rfl | decide | omega),fun _=>?_⟩ | refine And.intro ⟨by exact fitS,by exact fitS⟩ ⟨fun _=>?_,fun h=>absurd (by first | assumption | rfl | decide | omega) h⟩ | refine And.intro ⟨by exact fitS,by exact fitS⟩ ⟨fun h=>absurd h (by first | assumption | rfl | decide | omega),fun _=>?_⟩ | (apply callK_pure;(focus assumption)) | (apply callK_eq;(focus assumption)) | refine ⟨by first | decide | omega,?_⟩);((conv=>whnf))) | ((conv in (_[_]?)=>tactic=>first | exact oL | exact get_set (by assumption));(conv=>whnf))))
     exact ⟨by rw [hR];rfl,eC⟩
    ·have ht':¬IntKind.i64.wrap (now+5)<a.tm:=by rw [w5];exact ht
     by_cases ht2:a.tm<now - 5
     ·have hR:=s8 hG hm (.inr ht2)
      have ht2':a.tm<IntKind.i64.wrap (now - 5):=by rw [w6];exact ht2
      conv=>whnf
      (repeat (first | ((first | (apply exA;(focus exact oN)) | refine ⟨fun _=>?_,fun h=>absurd (by first | assumption | rfl | decide | omega) h⟩ | refine ⟨fun h=>absurd h (by first | assumption | rfl | decide | omega),fun _=>?_⟩ | refine And.intro ⟨by exact fitS,by exact fitS⟩ ⟨fun _=>?_,fun h=>absurd (by first | assumption | rfl | decide | omega) h⟩ | refine And.intro ⟨by exact fitS,by exact fitS⟩ ⟨fun h=>absurd h (by first | assumption | rfl | decide | omega),fun _=>?_⟩ | (apply callK_pure;(focus assumption)) | (apply callK_eq;(focus assumption)) | refine ⟨by first | decide | omega,?_⟩);((conv=>whnf))) | ((conv in (_[_]?)=>tactic=>first | exact oL | exact get_set (by assumption));(conv=>whnf))))
      exact ⟨by rw [hR];rfl,eC⟩
     ·have hR:=s0 hG hm (fun h=>h.elim ht ht2)
      have ht2':¬a.tm<IntKind.i64.wrap (now - 5):=by rw [w6];exact ht2
      conv=>whnf
      (repeat (first | ((first | (apply exA;(focus exact oN)) | refine ⟨fun _=>?_,fun h=>absurd (by first | assumption | rfl | decide | omega) h⟩ | refine ⟨fun h=>absurd h (by first | assumption | rfl | decide | omega),fun _=>?_⟩ | refine And.intro ⟨by exact fitS,by exact fitS⟩ ⟨fun _=>?_,fun h=>absurd (by first | assumption | rfl | decide | omega) h⟩ | refine And.intro ⟨by exact fitS,by exact fitS⟩ ⟨fun h=>absurd h (by first | assumption | rfl | decide | omega),fun _=>?_⟩ | (apply callK_pure;(focus assumption)) | (apply callK_eq;(focus assumption)) | refine ⟨by first | decide | omega,?_⟩);((conv=>whnf))) | ((conv in (_[_]?)=>tactic=>first | exact oL | exact get_set (by assumption));(conv=>whnf))))
      exact ⟨by rw [hR];rfl,eC⟩
   ·have hR:=s9 hG hm
    have hm':¬([PV.str a.r,.str a.n]=[.str p.r,.str p.n]):=pne hm
    conv=>whnf
    (repeat (first | ((first | (apply exA;(focus exact oN)) | refine ⟨fun _=>?_,fun h=>absurd (by first | assumption | rfl | decide | omega) h⟩ | refine ⟨fun h=>absurd h (by first | assumption | rfl | decide | omega),fun _=>?_⟩ | refine And.intro ⟨by exact fitS,by exact fitS⟩ ⟨fun _=>?_,fun h=>absurd (by first | assumption | rfl | decide | omega) h⟩ | refine And.intro ⟨by exact fitS,by exact fitS⟩ ⟨fun h=>absurd h (by first | assumption | rfl | decide | omega),fun _=>?_⟩ | (apply callK_pure;(focus assumption)) | (apply callK_eq;(focus assumption)) | refine ⟨by first | decide | omega,?_⟩);((conv=>whnf))) | ((conv in (_[_]?)=>tactic=>first | exact oL | exact get_set (by assumption));(conv=>whnf))))
    exact ⟨by rw [hR];rfl,eC⟩
  ·have hR:=s2 hG
   conv=>whnf
   (repeat (first | ((first | (apply exA;(focus exact oN)) | refine ⟨fun _=>?_,fun h=>absurd (by first | assumption | rfl | decide | omega) h⟩ | refine ⟨fun h=>absurd h (by first | assumption | rfl | decide | omega),fun _=>?_⟩ | refine And.intro ⟨by exact fitS,by exact fitS⟩ ⟨fun _=>?_,fun h=>absurd (by first | assumption | rfl | decide | omega) h⟩ | refine And.intro ⟨by exact fitS,by exact fitS⟩ ⟨fun h=>absurd h (by first | assumption | rfl | decide | omega),fun _=>?_⟩ | (apply callK_pure;(focus assumption)) | (apply callK_eq;(focus assumption)) | refine ⟨by first | decide | omega,?_⟩);((conv=>whnf))) | ((conv in (_[_]?)=>tactic=>first | exact oL | exact get_set (by assumption));(conv=>whnf))))
   exact ⟨by rw [hR];rfl,eC⟩
def z25:PObj:=⟨25,[.str [],.str []],0⟩
theorem z25T:z25.T≠keyT∧z25.T≠boxT:=⟨fun h=>absurd (show 25=keyT from h) (by decide),fun h=>absurd (show 25=boxT from h) (by decide)⟩
def targetV (realm:List UInt8) (l:List Ent) (sn:List UInt8):(List UInt8×List UInt8)×Int:=match lastE (isP realm sn) l with
 | none=>(([],[]),6)
 | some _=>((realm,sn),0)
theorem c68r {H:PH} {kid rid:Nat} {realm:List UInt8} {rs ls ps:PV} {l:List Ent} {n i:Nat} (hK:Kd H kid rid realm rs ls ps l n i) (sn:List UInt8) :
  CallOk prog 68 [.ptr (some (kid,0)),.agg [.str realm,.str sn]] H fun x H'=>x=.tup [.agg [.str (targetV realm l sn).1.1,.str (targetV realm l sn).1.2],.int .i64 (targetV realm l sn).2]∧Evo (fun _=>False) H H':=by
 have e1:Evo (fun _=>False) H (H++[z25]++[z25]):=(Evo.app H _).trans (Evo.app _ _)
 have hlen:(H++[z25]).length=H.length+1:=by simp
 obtain ⟨X,hX⟩:∃X,X=(H++[z25]++[z25]).set (H++[z25]).length (⟨25,[.str realm,.str sn],1⟩:PObj):=⟨_,rfl⟩
 have eX:Evo (fun _=>False) H X:=by rw [hX];exact e1.put (get_last (H++[z25]) _) z25T.1 z25T.2 (by omega) _
 have hro:X[(H++[z25]).length]? = some (⟨25,[.str realm,.str sn],1⟩:PObj):=by rw [hX];exact get_set (get_last (H++[z25]) _)
 have hra:X[H.length]? = some z25:=by
  rw [hX,List.getElem?_set_ne (by omega),List.getElem?_append_left (by omega)];exact get_last H _
 have hKX:=hK.evo eX id id
 obtain ⟨v,hv⟩:=hKX.k
 have hg:=lastGet hKX.ring (by have:=hKX.len;omega) realm sn
 unfold targetV
 (refine fnS (imm:=imm68t) ttT3_ok func68 ?_;(conv=>whnf))
 (repeat (first | ((first | (apply exA;(focus exact oN)) | refine ⟨fun _=>?_,fun h=>absurd (by first | assumption | rfl | decide | omega) h⟩ | refine ⟨fun h=>absurd h (by first | assumption | rfl | decide | omega),fun _=>?_⟩ | refine And.intro ⟨by exact fitS,by exact fitS⟩ ⟨fun _=>?_,fun h=>absurd (by first | assumption | rfl | decide | omega) h⟩ | refine And.intro ⟨by exact fitS,by exact fitS⟩ ⟨fun h=>absurd h (by first | assumption | rfl | decide | omega),fun _=>?_⟩ | (apply callK_pure;(focus assumption)) | (apply callK_eq;(focus assumption)) | refine ⟨by first | decide | omega,?_⟩);((conv=>whnf))) | ((conv in (_[_]?)=>tactic=>first | exact oL | exact get_set (by assumption));(conv=>whnf))))
 refine drawK_at hX.symm ?_
 refine drawK_pure2 (by kernel_rfl) ?_
 conv=>whnf
 (repeat (first | ((first | (apply exA;(focus exact oN)) | refine ⟨fun _=>?_,fun h=>absurd (by first | assumption | rfl | decide | omega) h⟩ | refine ⟨fun h=>absurd h (by first | assumption | rfl | decide | omega),fun _=>?_⟩ | refine And.intro ⟨by exact fitS,by exact fitS⟩ ⟨fun _=>?_,fun h=>absurd (by first | assumption | rfl | decide | omega) h⟩ | refine And.intro ⟨by exact fitS,by exact fitS⟩ ⟨fun h=>absurd h (by first | assumption | rfl | decide | omega),fun _=>?_⟩ | (apply callK_pure;(focus assumption)) | (apply callK_eq;(focus assumption)) | refine ⟨by first | decide | omega,?_⟩);((conv=>whnf))) | ((conv in (_[_]?)=>tactic=>first | exact oL | exact get_set (by assumption));(conv=>whnf))))
 cases hL:lastE (isP realm sn) l with
 | none =>
  rw [hL] at hg
  refine drawK_pure2 (by kernel_rfl) ?_
  conv=>whnf
  (repeat (first | ((first | (apply exA;(focus exact oN)) | refine ⟨fun _=>?_,fun h=>absurd (by first | assumption | rfl | decide | omega) h⟩ | refine ⟨fun h=>absurd h (by first | assumption | rfl | decide | omega),fun _=>?_⟩ | refine And.intro ⟨by exact fitS,by exact fitS⟩ ⟨fun _=>?_,fun h=>absurd (by first | assumption | rfl | decide | omega) h⟩ | refine And.intro ⟨by exact fitS,by exact fitS⟩ ⟨fun h=>absurd h (by first | assumption | rfl | decide | omega),fun _=>?_⟩ | (apply callK_pure;(focus assumption)) | (apply callK_eq;(focus assumption)) | refine ⟨by first | decide | omega,?_⟩);((conv=>whnf))) | ((conv in (_[_]?)=>tactic=>first | exact oL | exact get_set (by assumption));(conv=>whnf))))
  exact ⟨rfl,eX.put hra z25T.1 z25T.2 (Nat.le_refl _) _⟩
 | some e =>
  rw [hL] at hg
  refine drawK_pure2 (by kernel_rfl) ?_
  conv=>whnf
  (repeat (first | ((first | (apply exA;(focus exact oN)) | refine ⟨fun _=>?_,fun h=>absurd (by first | assumption | rfl | decide | omega) h⟩ | refine ⟨fun h=>absurd h (by first | assumption | rfl | decide | omega),fun _=>?_⟩ | refine And.intro ⟨by exact fitS,by exact fitS⟩ ⟨fun _=>?_,fun h=>absurd (by first | assumption | rfl | decide | omega) h⟩ | refine And.intro ⟨by exact fitS,by exact fitS⟩ ⟨fun h=>absurd h (by first | assumption | rfl | decide | omega),fun _=>?_⟩ | (apply callK_pure;(focus assumption)) | (apply callK_eq;(focus assumption)) | refine ⟨by first | decide | omega,?_⟩);((conv=>whnf))) | ((conv in (_[_]?)=>tactic=>first | exact oL | exact get_set (by assumption));(conv=>whnf))))
  exact ⟨rfl,eX.put hra z25T.1 z25T.2 (Nat.le_refl _) _⟩
theorem c69r {H:PH} {kid rid:Nat} {realm:List UInt8} {rs ls ps:PV} {l:List Ent} {n i:Nat} (hK:Kd H kid rid realm rs ls ps l n i) (p:Prt) (fr to:List UInt8) (hf:fr=realm∨fr=p.r) :
  CallOk prog 69 [.ptr (some (kid,0)),.agg p.cells,.str fr,.str to] H fun x H'=>x=.tup [.str p.tr,.int .i64 0]∧Evo (fun _=>False) H H':=by
 obtain ⟨v,hv⟩:=hK.k
 (refine fnS (imm:=imm69t) ttT3_ok func69 ?_;(conv=>whnf))
 by_cases h1:fr=realm
 ·(repeat (first | ((first | (apply exA;(focus exact oN)) | refine ⟨fun _=>?_,fun h=>absurd (by first | assumption | rfl | decide | omega) h⟩ | refine ⟨fun h=>absurd h (by first | assumption | rfl | decide | omega),fun _=>?_⟩ | refine And.intro ⟨by exact fitS,by exact fitS⟩ ⟨fun _=>?_,fun h=>absurd (by first | assumption | rfl | decide | omega) h⟩ | refine And.intro ⟨by exact fitS,by exact fitS⟩ ⟨fun h=>absurd h (by first | assumption | rfl | decide | omega),fun _=>?_⟩ | (apply callK_pure;(focus assumption)) | (apply callK_eq;(focus assumption)) | refine ⟨by first | decide | omega,?_⟩);((conv=>whnf))) | ((conv in (_[_]?)=>tactic=>first | exact oL | exact get_set (by assumption));(conv=>whnf))))
  exact ⟨rfl,Evo.refl _⟩
 ·have h2:fr=p.r:=hf.resolve_left h1
  (repeat (first | ((first | (apply exA;(focus exact oN)) | refine ⟨fun _=>?_,fun h=>absurd (by first | assumption | rfl | decide | omega) h⟩ | refine ⟨fun h=>absurd h (by first | assumption | rfl | decide | omega),fun _=>?_⟩ | refine And.intro ⟨by exact fitS,by exact fitS⟩ ⟨fun _=>?_,fun h=>absurd (by first | assumption | rfl | decide | omega) h⟩ | refine And.intro ⟨by exact fitS,by exact fitS⟩ ⟨fun h=>absurd h (by first | assumption | rfl | decide | omega),fun _=>?_⟩ | (apply callK_pure;(focus assumption)) | (apply callK_eq;(focus assumption)) | refine ⟨by first | decide | omega,?_⟩);((conv=>whnf))) | ((conv in (_[_]?)=>tactic=>first | exact oL | exact get_set (by assumption));(conv=>whnf))))
  exact ⟨rfl,Evo.refl _⟩
structure TgQ where
 tr:List UInt8
 tn:List UInt8
 kv:Int
 tb:List UInt8
 ab:List UInt8
 sr:List UInt8
 sn:List UInt8
 till:Int
 nonce:Int
def TgQ.cells (q:TgQ):List PV:=[.str q.tr,.str q.tn,.int .i64 q.kv,sl q.tb,sl q.ab,.str q.sr,.str q.sn,.int .i64 q.till,.int .i64 q.nonce]
def tgMsg (q:TgQ):Msg:={ mZ with kind:=2,t1:=q.tr,t2:=q.tn,tKv:=q.kv,tB:=q.tb,tBo:=none,tAu:=q.ab,tAuo:=none,t3:=q.sr,t4:=q.sn,tTill:=q.till,tNonce:=q.nonce }
def TgQ.ok (q:TgQ):Bool:=tickB q.tr q.tn q.kv q.tb.length&&inZ q.ab.length 1 800&&isPrincB q.sr q.sn&&inZ q.till 0 1073741824&&inZ q.nonce 0 1073741824
theorem tgMsg_is (q:TgQ):isB (tgMsg q)=q.ok:=by
 have h:isB (tgMsg q)=(q.ok&&othersB (tgMsg q)):=rfl
 have h2:othersB (tgMsg q)=true:=rfl
 rw [h,h2,Bool.and_true]
theorem tgMsg_len (q:TgQ) (h:q.ok=true):(laidB (tgMsg q)).length≤2000:=by
 unfold TgQ.ok at h
 simp only [Bool.and_eq_true] at h
 have g1:=tick_len h.1.1.1.1
 have g2:=princ_len h.1.1.2
 have g3:=inZ_le h.1.1.1.2
 have h0:=wrapB_len 108 [ticketE q.tr q.tn q.kv q.tb,wrapB 4 q.ab,princE q.sr q.sn,intE q.till,intE q.nonce].flatten
 have e1:=ticketE_len q.tr q.tn q.kv q.tb
 have e2:=wrapB_len 4 q.ab
 have e3:=princE_len q.sr q.sn
 have e4:=intE_len q.till
 have e5:=intE_len q.nonce
 simp only [List.flatten_cons,List.flatten_nil,List.length_append,List.length_nil] at h0
 show (wrapB 108 [ticketE q.tr q.tn q.kv q.tb,wrapB 4 q.ab,princE q.sr q.sn,intE q.till,intE q.nonce].flatten).length≤2000
 simp only [List.flatten_cons,List.flatten_nil,List.length_append,List.length_nil]
 omega
theorem encTg_yes (q:TgQ) (h:q.ok=true):encV (tgMsg q)=.tup [sl (laidB (tgMsg q)),.int .i64 0]:=encV_yes ⟨(tgMsg_is q).trans h,tgMsg_len q h⟩
theorem encTg_no (q:TgQ) (h:q.ok=false):encV (tgMsg q)=.tup [.slice 0 [] (some 5),.int .i64 1]:=encV_no fun hh=>by rw [tgMsg_is q,h] at hh;exact absurd hh.1 (by decide)
structure TgQ.fit (q:TgQ):Prop where
 tr:q.tr.length≤1000000
 tn:q.tn.length≤1000000
 sr:q.sr.length≤1000000
 sn:q.sn.length≤1000000
 tb:q.tb.length≤140737488355328
 ab:q.ab.length≤140737488355328
theorem TgQ.fits {q:TgQ} (h:q.fit):(tgMsg q).fits:=by
 obtain ⟨f1,f2,f3,f4,_,_⟩:=h
 unfold Msg.fits tgMsg mZ
 exact ⟨Nat.zero_le _,Nat.zero_le _,Nat.zero_le _,Nat.zero_le _,by show q.tr.length≤_;omega,by show q.tn.length≤_;omega,by show q.sr.length≤_;omega,by show q.sn.length≤_;omega,Nat.zero_le _,Nat.zero_le _,Nat.zero_le _,Nat.zero_le _,Nat.zero_le _,Nat.zero_le _⟩
theorem newBox (H:PH) {k:List UInt8} (hk:k.length=32):BoxAt (H++[speckO (k.take 16),boxO k H.length]) (H.length+1) k:=by
 refine ⟨hk,H.length,0,0,0,0,speckO (k.take 16),?_,?_,speck_key _⟩
 ·rw [List.getElem?_append_right (by omega),show H.length+1 - H.length=1 by omega];rfl
 ·rw [List.getElem?_append_right (by omega),show H.length - H.length=0 by omega];rfl
def tgsV (realm:List UInt8) (l:List Ent) (n:Int) (q:TgQ) (now:Int) (draw:Nat→UInt8) (T:(List UInt8×List UInt8)×Int) (W:Prt→List UInt8×Int):RepO×Int:=match lateB now||!q.ok with
 | true=>(repZ,1)
 | false=>match shownV realm l q.tr q.tn q.kv q.tb now with
  | (p,e)=>match decide (e=0) with
   | false=>(repZ,e)
   | true=>match decide (provesV (keyB p.k) p q.ab now=0) with
    | false=>(repZ,provesV (keyB p.k) p q.ab now)
    | true=>match decide (T.2=0) with
     | false=>(repZ,T.2)
     | true=>match decide ((W p).2=0) with
      | false=>(repZ,(W p).2)
      | true=>match decide (q.till<now) with
       | true=>(repZ,7)
       | false=>makeV l n T.1.1 T.1.2 ⟨p.r,p.n,draw,(W p).1,now,min q.till p.en⟩ q.nonce (keyB p.k) 8
set_option maxHeartbeats 8000000
theorem shown_ok {realm:List UInt8} {l:List Ent} {tr tn:List UInt8} {kv:Int} {tb:List UInt8} {now:Int} (h:(shownV realm l tr tn kv tb now).2=0):isPartB (shownV realm l tr tn kv tb now).1=true:=by
 by_cases h2:tn=krb realm
 ·cases hL:lastE (isK tr tn kv) l with
  | none=>rw [sh_4 h2 hL] at h;exact absurd h (by decide)
  | some e =>
   cases hO:openK e.key 2 tb with
   | none=>rw [sh_3 h2 hL hO] at h;exact absurd h (by decide)
   | some b =>
    by_cases hG:gEPrt (partC b) b=0
    ·by_cases h3:(gPPrt (partC b) b).en<now
     ·rw [sh_7 h2 hL hO hG h3] at h;exact absurd h (by decide)
     ·by_cases h4:now+5<(gPPrt (partC b) b).st
      ·rw [sh_8 h2 hL hO hG h3 h4] at h;exact absurd h (by decide)
      ·rw [sh_0 h2 hL hO hG h3 h4]
       show isPartB (gPPrt (partC b) b)=true
       unfold gEPrt at hG
       unfold gPPrt
       cases ho:okPrt (partC b) b with
       | false=>rw [ho] at hG;exact absurd hG (by decide)
       | true=>rw [if_pos rfl];exact (okPrt_iff.1 ho).1
    ·rw [sh_2 h2 hL hO hG] at h;exact absurd h (by decide)
 ·rw [sh_6 h2] at h;exact absurd h (by decide)
section
variable {realm : List UInt8} {l : List Ent} {n : Int} {q : TgQ} {now : Int} {draw : Nat → UInt8} {T : (List UInt8 × List UInt8) × Int} {W : Prt → List UInt8 × Int} {p : Prt} {e : Int}
theorem tgs_1 (h:(lateB now||!q.ok)=true):tgsV realm l n q now draw T W=(repZ,1):=by unfold tgsV;rw [h]
theorem tgs_2 (hl:lateB now=false) (hq:q.ok=true) (hS:shownV realm l q.tr q.tn q.kv q.tb now=(p,e)) (he:e≠0):tgsV realm l n q now draw T W=(repZ,e):=by unfold tgsV;rw [hl,hq,hS];dsimp only [Bool.not_true,Bool.or_self];rw [decide_eq_false he];try rfl
theorem tgs_3 (hl:lateB now=false) (hq:q.ok=true) (hS:shownV realm l q.tr q.tn q.kv q.tb now=(p,0)) (hp:provesV (keyB p.k) p q.ab now≠0):tgsV realm l n q now draw T W=(repZ,provesV (keyB p.k) p q.ab now):=by
 unfold tgsV;rw [hl,hq,hS];dsimp only [Bool.not_true,Bool.or_self];rw [decide_eq_true rfl];dsimp only;rw [decide_eq_false hp];try rfl
theorem tgs_4 (hl:lateB now=false) (hq:q.ok=true) (hS:shownV realm l q.tr q.tn q.kv q.tb now=(p,0)) (hp:provesV (keyB p.k) p q.ab now=0) (hT:T.2≠0):tgsV realm l n q now draw T W=(repZ,T.2):=by
 unfold tgsV;rw [hl,hq,hS];dsimp only [Bool.not_true,Bool.or_self];rw [decide_eq_true rfl];dsimp only;rw [decide_eq_true hp];dsimp only;rw [decide_eq_false hT];try rfl
theorem tgs_5 (hl:lateB now=false) (hq:q.ok=true) (hS:shownV realm l q.tr q.tn q.kv q.tb now=(p,0)) (hp:provesV (keyB p.k) p q.ab now=0) (hT:T.2=0) (hW:(W p).2≠0):tgsV realm l n q now draw T W=(repZ,(W p).2):=by
 unfold tgsV;rw [hl,hq,hS];dsimp only [Bool.not_true,Bool.or_self];rw [decide_eq_true rfl];dsimp only;rw [decide_eq_true hp];dsimp only;rw [decide_eq_true hT];dsimp only;rw [decide_eq_false hW];try rfl
theorem tgs_6 (hl:lateB now=false) (hq:q.ok=true) (hS:shownV realm l q.tr q.tn q.kv q.tb now=(p,0)) (hp:provesV (keyB p.k) p q.ab now=0) (hT:T.2=0) (hW:(W p).2=0) (ht:q.till<now):tgsV realm l n q now draw T W=(repZ,7):=by
 unfold tgsV;rw [hl,hq,hS];dsimp only [Bool.not_true,Bool.or_self];rw [decide_eq_true rfl];dsimp only;rw [decide_eq_true hp];dsimp only;rw [decide_eq_true hT];dsimp only;rw [decide_eq_true hW];dsimp only;rw [decide_eq_true ht];try rfl
theorem tgs_7 (hl:lateB now=false) (hq:q.ok=true) (hS:shownV realm l q.tr q.tn q.kv q.tb now=(p,0)) (hp:provesV (keyB p.k) p q.ab now=0) (hT:T.2=0) (hW:(W p).2=0) (ht:¬q.till<now) :
  tgsV realm l n q now draw T W=makeV l n T.1.1 T.1.2 ⟨p.r,p.n,draw,(W p).1,now,min q.till p.en⟩ q.nonce (keyB p.k) 8:=by
 unfold tgsV;rw [hl,hq,hS];dsimp only [Bool.not_true,Bool.or_self];rw [decide_eq_true rfl];dsimp only;rw [decide_eq_true hp];dsimp only;rw [decide_eq_true hT];dsimp only;rw [decide_eq_true hW];dsimp only;rw [decide_eq_false ht];try rfl
end
theorem c29g {H:PH} {kid rid:Nat} {realm:List UInt8} {rs ls ps:PV} {l:List Ent} {n i:Nat} (hK:Kd H kid rid realm rs ls ps l n i) (hn:n≤100000) (hi:i≤100000) (hrl:realm.length≤1000000) (q:TgQ) (hf:q.fit) (now:Int) (draw:Nat→UInt8)
  (T:(List UInt8×List UInt8)×Int) (hT1:T.1.1.length≤1000000) (hT2:T.1.2.length≤1000000) (W:Prt→List UInt8×Int)
  (hTg:∀X,Kd X kid rid realm rs ls ps l n i→CallOk prog 68 [.ptr (some (kid,0)),.agg [.str q.sr,.str q.sn]] X fun x H'=>x=.tup [.agg [.str T.1.1,.str T.1.2],.int .i64 T.2]∧Evo (fun _=>False) X H')
  (hWl:∀p,isPartB p=true→(W p).1.length≤1000000)
  (hWp:∀X p,isPartB p=true→Kd X kid rid realm rs ls ps l n i→CallOk prog 69 [.ptr (some (kid,0)),.agg p.cells,.str q.tr,.str q.sr] X fun x H'=>x=.tup [.str (W p).1,.int .i64 (W p).2]∧Evo (fun _=>False) X H') :
  CallOk prog 29 [.ptr (some (kid,0)),.agg q.cells,.int .i64 now,.agg (keyC draw)] H fun x H'=>x=.tup [.agg (tgsV realm l n q now draw T W).1.cells,.int .i64 (tgsV realm l n q now draw T W).2] ∧
   Kd H' kid rid realm rs ls ps l (bump (tgsV realm l n q now draw T W) n 2) (bump (tgsV realm l n q now draw T W) i 1)∧Evo (·=kid) H H':=by
 obtain ⟨R,hR0⟩:∃R,R=tgsV realm l n q now draw T W:=⟨_,rfl⟩
 rw [←hR0]
 have e1:Evo (fun _=>False) H (H++[z30]):=Evo.app H _
 have hK1:=hK.evo e1 id id
 have hlk:kid<H.length:=by obtain ⟨v,hv⟩:=hK.k;exact (List.getElem?_eq_some_iff.1 hv).1
 have hlr:rid<H.length:=by have:=hK.ring.ex.choose_spec;exact (List.getElem?_eq_some_iff.1 this).1
 have ha:(H++[z30])[H.length]? = some z30:=get_last H _
 have bad:∀(X:PH),X[H.length]? = some z30→Evo (fun _=>False) H X→∀(o':PObj) (k:Int),k≠0→R=(repZ,k)→Kd (X.set H.length o') kid rid realm rs ls ps l (bump R n 2) (bump R i 1)∧Evo (·=kid) H (X.set H.length o'):=fun X hX eX o' k hk hR=>by
  have e':=eX.put hX z30T.1 z30T.2 (Nat.le_refl _) o'
  have hb:∀m j,bump R m j=m:=fun m j=>if_neg (by rw [hR];exact hk)
  rw [hb,hb]
  exact ⟨hK.evo e' id id,e'.mono fun _ h=>h.elim⟩
 have k48:=c48 now
 (refine fnS (imm:=imm29t) ttT3_ok func29 ?_;(conv=>whnf))
 cases hq:q.ok with
 | false =>
  have k47:Pure prog 47 [.agg (tgMsg q).cells] _:=(c47 (tgMsg q) (TgQ.fits hf)).of_eq (encTg_no q hq)
  have hR:R=(repZ,1):=by rw [hR0];exact tgs_1 (by rw [hq];simp)
  refine callK_pure k47 ?_
  conv=>whnf
  cases hl:lateB now <;> rw [hl] at k48 <;> (repeat (first | ((first | (apply exA;(focus exact oN)) | refine ⟨fun _=>?_,fun h=>absurd (by first | assumption | rfl | decide | omega) h⟩ | refine ⟨fun h=>absurd h (by first | assumption | rfl | decide | omega),fun _=>?_⟩ | refine And.intro ⟨by exact fitS,by exact fitS⟩ ⟨fun _=>?_,fun h=>absurd (by first | assumption | rfl | decide | omega) h⟩ | refine And.intro ⟨by exact fitS,by exact fitS⟩ ⟨fun h=>absurd h (by first | assumption | rfl | decide | omega),fun _=>?_⟩ | (apply callK_pure;(focus assumption)) | (apply callK_eq;(focus assumption)) | refine ⟨by first | decide | omega,?_⟩);((conv=>whnf))) | ((conv in (_[_]?)=>tactic=>first | exact oL | exact get_set (by assumption));(conv=>whnf))))
  ·exact ⟨by rw [hR];rfl,bad _ ha e1 _ _ (by decide) hR⟩
  ·exact ⟨by rw [hR];rfl,bad _ ha e1 _ _ (by decide) hR⟩
 | true =>
  have k47:Pure prog 47 [.agg (tgMsg q).cells] _:=(c47 (tgMsg q) (TgQ.fits hf)).of_eq (encTg_yes q hq)
  refine callK_pure k47 ?_
  conv=>whnf
  cases hl:lateB now with
  | true =>
   have hR:R=(repZ,1):=by rw [hR0];exact tgs_1 (by rw [hl];rfl)
   rw [hl] at k48
   (repeat (first | ((first | (apply exA;(focus exact oN)) | refine ⟨fun _=>?_,fun h=>absurd (by first | assumption | rfl | decide | omega) h⟩ | refine ⟨fun h=>absurd h (by first | assumption | rfl | decide | omega),fun _=>?_⟩ | refine And.intro ⟨by exact fitS,by exact fitS⟩ ⟨fun _=>?_,fun h=>absurd (by first | assumption | rfl | decide | omega) h⟩ | refine And.intro ⟨by exact fitS,by exact fitS⟩ ⟨fun h=>absurd h (by first | assumption | rfl | decide | omega),fun _=>?_⟩ | (apply callK_pure;(focus assumption)) | (apply callK_eq;(focus assumption)) | refine ⟨by first | decide | omega,?_⟩);((conv=>whnf))) | ((conv in (_[_]?)=>tactic=>first | exact oL | exact get_set (by assumption));(conv=>whnf))))
   exact ⟨by rw [hR];rfl,bad _ ha e1 _ _ (by decide) hR⟩
  | false =>
   rw [hl] at k48
   have hnow:0≤now∧now≤1073741824:=by
    unfold lateB at hl
    rw [Bool.or_eq_false_iff,decide_eq_false_iff_not,decide_eq_false_iff_not] at hl
    omega
   (repeat (first | ((first | (apply exA;(focus exact oN)) | refine ⟨fun _=>?_,fun h=>absurd (by first | assumption | rfl | decide | omega) h⟩ | refine ⟨fun h=>absurd h (by first | assumption | rfl | decide | omega),fun _=>?_⟩ | refine And.intro ⟨by exact fitS,by exact fitS⟩ ⟨fun _=>?_,fun h=>absurd (by first | assumption | rfl | decide | omega) h⟩ | refine And.intro ⟨by exact fitS,by exact fitS⟩ ⟨fun h=>absurd h (by first | assumption | rfl | decide | omega),fun _=>?_⟩ | (apply callK_pure;(focus assumption)) | (apply callK_eq;(focus assumption)) | refine ⟨by first | decide | omega,?_⟩);((conv=>whnf))) | ((conv in (_[_]?)=>tactic=>first | exact oL | exact get_set (by assumption));(conv=>whnf))))
   refine callK_of (c65 hK1 hrl q.tr q.tn q.kv q.tb hf.tb now hnow.1 hnow.2) ?_
   rintro _ H2 ⟨rfl,e2⟩
   have hok:=@shown_ok realm l q.tr q.tn q.kv q.tb now
   obtain ⟨p,hp⟩:∃p,p=(shownV realm l q.tr q.tn q.kv q.tb now).1:=⟨_,rfl⟩
   obtain ⟨e,he⟩:∃e,e=(shownV realm l q.tr q.tn q.kv q.tb now).2:=⟨_,rfl⟩
   have hS:shownV realm l q.tr q.tn q.kv q.tb now=(p,e):=by rw [hp,he]
   rw [hS] at hok ⊢
   have hok:e=0→isPartB p=true:=hok
   have eA:Evo (fun _=>False) H H2:=e1.trans e2
   have ha2:=e2.look ha id z30T.1 z30T.2
   have hlt:H.length<H2.length:=(List.getElem?_eq_some_iff.1 ha2).1
   have eX3:Evo (fun _=>False) H ((H2++[z50]).set H2.length (⟨50,p.cells,1⟩:PObj)):=(eA.trans (Evo.app _ _)).put (get_last H2 _) z50T.1 z50T.2 (by omega) _
   have ho3:((H2++[z50]).set H2.length (⟨50,p.cells,1⟩:PObj))[H2.length]? = some ⟨50,p.cells,1⟩:=get_set (get_last H2 _)
   have ha3:((H2++[z50]).set H2.length (⟨50,p.cells,1⟩:PObj))[H.length]? = some z30:=by rw [List.getElem?_set_ne (by omega),List.getElem?_append_left hlt];exact ha2
   by_cases he0:e=0
   ·subst he0
    have hpB:=hok rfl
    conv=>whnf
    (repeat (first | ((first | (apply exA;(focus exact oN)) | refine ⟨fun _=>?_,fun h=>absurd (by first | assumption | rfl | decide | omega) h⟩ | refine ⟨fun h=>absurd h (by first | assumption | rfl | decide | omega),fun _=>?_⟩ | refine And.intro ⟨by exact fitS,by exact fitS⟩ ⟨fun _=>?_,fun h=>absurd (by first | assumption | rfl | decide | omega) h⟩ | refine And.intro ⟨by exact fitS,by exact fitS⟩ ⟨fun h=>absurd h (by first | assumption | rfl | decide | omega),fun _=>?_⟩ | (apply callK_pure;(focus assumption)) | (apply callK_eq;(focus assumption)) | refine ⟨by first | decide | omega,?_⟩);((conv=>whnf))) | ((conv in (_[_]?)=>tactic=>first | exact oL | exact get_set (by assumption));(conv=>whnf))))
    obtain ⟨X3,hX3⟩:∃X3,X3=(H2++[z50]).set H2.length (⟨50,p.cells,1⟩:PObj):=⟨_,rfl⟩
    rw [←hX3] at eX3 ho3 ha3
    refine callK_at hX3.symm ?_
    refine callK_of (c66 (keyB p.k) rfl X3) ?_
    rintro _ X4 ⟨rfl,hX4⟩
    have e34:Evo (fun _=>False) X3 X4:=by rw [hX4];exact Evo.app _ _
    have hb4:BoxAt X4 (X3.length+1) (keyB p.k):=by rw [hX4];exact newBox X3 rfl
    have ho4:=e34.look ho3 id (o50T _ _).1 (o50T _ _).2
    have ha4:=e34.look ha3 id z30T.1 z30T.2
    conv=>whnf
    (repeat (first | ((first | (apply exA;(focus exact oN)) | refine ⟨fun _=>?_,fun h=>absurd (by first | assumption | rfl | decide | omega) h⟩ | refine ⟨fun h=>absurd h (by first | assumption | rfl | decide | omega),fun _=>?_⟩ | refine And.intro ⟨by exact fitS,by exact fitS⟩ ⟨fun _=>?_,fun h=>absurd (by first | assumption | rfl | decide | omega) h⟩ | refine And.intro ⟨by exact fitS,by exact fitS⟩ ⟨fun h=>absurd h (by first | assumption | rfl | decide | omega),fun _=>?_⟩ | (apply callK_pure;(focus assumption)) | (apply callK_eq;(focus assumption)) | refine ⟨by first | decide | omega,?_⟩);((conv=>whnf))) | ((conv in (_[_]?)=>tactic=>first | exact oL | exact get_set (by assumption));(conv=>whnf))))
    refine callK_of (c67 hb4 p q.ab hf.ab now hnow.1 hnow.2) ?_
    rintro _ X5 ⟨rfl,e45⟩
    have eX5:Evo (fun _=>False) H X5:=(eX3.trans e34).trans e45
    have ho5:=e45.look ho4 id (o50T _ _).1 (o50T _ _).2
    have ha5:=e45.look ha4 id z30T.1 z30T.2
    have hb5:=e45.box _ _ hb4
    by_cases hpr:provesV (keyB p.k) p q.ab now=0
    ·rw [hpr]
     conv=>whnf
     (repeat (first | ((first | (apply exA;(focus exact oN)) | refine ⟨fun _=>?_,fun h=>absurd (by first | assumption | rfl | decide | omega) h⟩ | refine ⟨fun h=>absurd h (by first | assumption | rfl | decide | omega),fun _=>?_⟩ | refine And.intro ⟨by exact fitS,by exact fitS⟩ ⟨fun _=>?_,fun h=>absurd (by first | assumption | rfl | decide | omega) h⟩ | refine And.intro ⟨by exact fitS,by exact fitS⟩ ⟨fun h=>absurd h (by first | assumption | rfl | decide | omega),fun _=>?_⟩ | (apply callK_pure;(focus assumption)) | (apply callK_eq;(focus assumption)) | refine ⟨by first | decide | omega,?_⟩);((conv=>whnf))) | ((conv in (_[_]?)=>tactic=>first | exact oL | exact get_set (by assumption));(conv=>whnf))))
     refine callK_of (hTg X5 (hK.evo eX5 id id)) ?_
     rintro _ X6 ⟨rfl,e56⟩
     have eX6:=eX5.trans e56
     have ho6:=e56.look ho5 id (o50T _ _).1 (o50T _ _).2
     have ha6:=e56.look ha5 id z30T.1 z30T.2
     have hb6:=e56.box _ _ hb5
     have hl6:H.length<X6.length:=(List.getElem?_eq_some_iff.1 ha6).1
     have ho6l:H2.length<X6.length:=(List.getElem?_eq_some_iff.1 ho6).1
     obtain ⟨X7,hX7⟩:∃X7,X7=(X6++[z25]).set X6.length (⟨25,[.str T.1.1,.str T.1.2],1⟩:PObj):=⟨_,rfl⟩
     have e67:Evo (fun _=>False) X6 X7:=by rw [hX7];exact (Evo.app _ _).put (get_last X6 _) z25T.1 z25T.2 (Nat.le_refl _) _
     have eX7:=eX6.trans e67
     have ho7:=e67.look ho6 id (o50T _ _).1 (o50T _ _).2
     have ha7:=e67.look ha6 id z30T.1 z30T.2
     have hb7:=e67.box _ _ hb6
     have ht7:X7[X6.length]? = some (⟨25,[.str T.1.1,.str T.1.2],1⟩:PObj):=by rw [hX7];exact get_set (get_last X6 _)
     have ho7':=ho7
     have ha7':=ha7
     rw [hX7] at ho7' ha7'
     by_cases hT0:T.2=0
     ·rw [hT0]
      conv=>whnf
      (repeat (first | ((first | (apply exA;(focus exact oN)) | refine ⟨fun _=>?_,fun h=>absurd (by first | assumption | rfl | decide | omega) h⟩ | refine ⟨fun h=>absurd h (by first | assumption | rfl | decide | omega),fun _=>?_⟩ | refine And.intro ⟨by exact fitS,by exact fitS⟩ ⟨fun _=>?_,fun h=>absurd (by first | assumption | rfl | decide | omega) h⟩ | refine And.intro ⟨by exact fitS,by exact fitS⟩ ⟨fun h=>absurd h (by first | assumption | rfl | decide | omega),fun _=>?_⟩ | (apply callK_pure;(focus assumption)) | (apply callK_eq;(focus assumption)) | refine ⟨by first | decide | omega,?_⟩);((conv=>whnf))) | ((conv in (_[_]?)=>tactic=>first | exact oL | exact get_set (by assumption));(conv=>whnf))))
      refine callK_at hX7.symm ?_
      refine callK_of (hWp X7 p hpB (hK.evo eX7 id id)) ?_
      rintro _ X8 ⟨rfl,e78⟩
      have eX8:=eX7.trans e78
      have ho8:=e78.look ho7 id (o50T _ _).1 (o50T _ _).2
      have ha8:=e78.look ha7 id z30T.1 z30T.2
      have hb8:=e78.box _ _ hb7
      have ht8:=e78.look ht7 id z25T.1 z25T.2
      by_cases hW0:(W p).2=0
      ·rw [hW0]
       by_cases ht:q.till<now
       ·have hR:R=(repZ,7):=by rw [hR0];exact tgs_6 hl hq hS hpr hT0 hW0 ht
        conv=>whnf
        (repeat (first | ((first | (apply exA;(focus exact oN)) | refine ⟨fun _=>?_,fun h=>absurd (by first | assumption | rfl | decide | omega) h⟩ | refine ⟨fun h=>absurd h (by first | assumption | rfl | decide | omega),fun _=>?_⟩ | refine And.intro ⟨by exact fitS,by exact fitS⟩ ⟨fun _=>?_,fun h=>absurd (by first | assumption | rfl | decide | omega) h⟩ | refine And.intro ⟨by exact fitS,by exact fitS⟩ ⟨fun h=>absurd h (by first | assumption | rfl | decide | omega),fun _=>?_⟩ | (apply callK_pure;(focus assumption)) | (apply callK_eq;(focus assumption)) | refine ⟨by first | decide | omega,?_⟩);((conv=>whnf))) | ((conv in (_[_]?)=>tactic=>first | exact oL | exact get_set (by assumption));(conv=>whnf))))
        exact ⟨by rw [hR];rfl,bad _ ha8 eX8 _ _ (by decide) hR⟩
       ·have hR:=tgs_7 (n:=n) (draw:=draw) (W:=W) hl hq hS hpr hT0 hW0 ht
        rw [←hR0] at hR
        obtain ⟨P,hP⟩:∃P:Prt,P=⟨p.r,p.n,draw,(W p).1,now,min q.till p.en⟩:=⟨_,rfl⟩
        rw [←hP] at hR
        obtain ⟨X9,hX9⟩:∃X9,X9=(X8++[z50]).set X8.length (⟨50,P.cells,1⟩:PObj):=⟨_,rfl⟩
        have e89:Evo (fun _=>False) X8 X9:=by rw [hX9];exact (Evo.app _ _).put (get_last X8 _) z50T.1 z50T.2 (Nat.le_refl _) _
        have eX9:=eX8.trans e89
        have ha9:=e89.look ha8 id z30T.1 z30T.2
        have ht9:=e89.look ht8 id z25T.1 z25T.2
        have hb9:=e89.box _ _ hb8
        have hp9:X9[X8.length]? = some (⟨50,P.cells,1⟩:PObj):=by rw [hX9];exact get_set (get_last X8 _)
        have ht9':=ht9
        rw [hX9,hP] at ht9'
        obtain ⟨g1,g2,g3⟩:=prPrt hpB
        conv=>whnf
        (repeat (first | ((first | (apply exA;(focus exact oN)) | refine ⟨fun _=>?_,fun h=>absurd (by first | assumption | rfl | decide | omega) h⟩ | refine ⟨fun h=>absurd h (by first | assumption | rfl | decide | omega),fun _=>?_⟩ | refine And.intro ⟨by exact fitS,by exact fitS⟩ ⟨fun _=>?_,fun h=>absurd (by first | assumption | rfl | decide | omega) h⟩ | refine And.intro ⟨by exact fitS,by exact fitS⟩ ⟨fun h=>absurd h (by first | assumption | rfl | decide | omega),fun _=>?_⟩ | (apply callK_pure;(focus assumption)) | (apply callK_eq;(focus assumption)) | refine ⟨by first | decide | omega,?_⟩);((conv=>whnf))) | ((conv in (_[_]?)=>tactic=>first | exact oL | exact get_set (by assumption));(conv=>whnf))))
        refine callK_at (Y:=X9) (by rw [hX9,hP];rfl) ?_
        refine callK_args (args':=[.ptr (some (kid,0)),.agg ([.str T.1.1,.str T.1.2]++P.cells++[.int .i64 q.nonce,.ptr (some (X3.length+1,0)),.int .i64 8])]) (by rw [hP];rfl) ?_
        refine callK_of (c51 (hK.evo eX9 id id) hn hi T.1.1 T.1.2 hT1 hT2 P (by rw [hP];exact g1) (by rw [hP];exact g2) (by rw [hP];exact hWl p hpB) q.nonce (X3.length+1) (keyB p.k) hb9 8 rfl) ?_
        rintro _ X10 ⟨rfl,hK10,e10⟩
        rw [←hR] at hK10 ⊢
        have ha10:=e10.look ha9 (by show ¬H.length=kid;omega) z30T.1 z30T.2
        conv=>whnf
        (repeat (first | ((first | (apply exA;(focus exact oN)) | refine ⟨fun _=>?_,fun h=>absurd (by first | assumption | rfl | decide | omega) h⟩ | refine ⟨fun h=>absurd h (by first | assumption | rfl | decide | omega),fun _=>?_⟩ | refine And.intro ⟨by exact fitS,by exact fitS⟩ ⟨fun _=>?_,fun h=>absurd (by first | assumption | rfl | decide | omega) h⟩ | refine And.intro ⟨by exact fitS,by exact fitS⟩ ⟨fun h=>absurd h (by first | assumption | rfl | decide | omega),fun _=>?_⟩ | (apply callK_pure;(focus assumption)) | (apply callK_eq;(focus assumption)) | refine ⟨by first | decide | omega,?_⟩);((conv=>whnf))) | ((conv in (_[_]?)=>tactic=>first | exact oL | exact get_set (by assumption));(conv=>whnf))))
        have e11:∀o,Evo (fun i=>i=H.length) X10 (X10.set H.length o):=fun o=>Evo.setOther ha10 rfl z30T.1 z30T.2
        refine ⟨rfl,hK10.evo (e11 _) (by show ¬kid=H.length;omega) (by show ¬rid=H.length;omega),?_⟩
        exact Evo.drop (S:=(·=kid)) (((eX9.mono fun _ h=>h.elim).trans (e10.mono fun _ h=>.inl h)).trans ((e11 _).mono fun _ h=>.inr h)) (Nat.le_refl _)
      ·have hR:R=(repZ,(W p).2):=by rw [hR0];exact tgs_5 hl hq hS hpr hT0 hW0
       conv=>whnf
       (repeat (first | ((first | (apply exA;(focus exact oN)) | refine ⟨fun _=>?_,fun h=>absurd (by first | assumption | rfl | decide | omega) h⟩ | refine ⟨fun h=>absurd h (by first | assumption | rfl | decide | omega),fun _=>?_⟩ | refine And.intro ⟨by exact fitS,by exact fitS⟩ ⟨fun _=>?_,fun h=>absurd (by first | assumption | rfl | decide | omega) h⟩ | refine And.intro ⟨by exact fitS,by exact fitS⟩ ⟨fun h=>absurd h (by first | assumption | rfl | decide | omega),fun _=>?_⟩ | (apply callK_pure;(focus assumption)) | (apply callK_eq;(focus assumption)) | refine ⟨by first | decide | omega,?_⟩);((conv=>whnf))) | ((conv in (_[_]?)=>tactic=>first | exact oL | exact get_set (by assumption));(conv=>whnf))))
       exact ⟨by rw [hR];rfl,bad _ ha8 eX8 _ _ hW0 hR⟩
     ·have hR:R=(repZ,T.2):=by rw [hR0];exact tgs_4 hl hq hS hpr hT0
      conv=>whnf
      (repeat (first | ((first | (apply exA;(focus exact oN)) | refine ⟨fun _=>?_,fun h=>absurd (by first | assumption | rfl | decide | omega) h⟩ | refine ⟨fun h=>absurd h (by first | assumption | rfl | decide | omega),fun _=>?_⟩ | refine And.intro ⟨by exact fitS,by exact fitS⟩ ⟨fun _=>?_,fun h=>absurd (by first | assumption | rfl | decide | omega) h⟩ | refine And.intro ⟨by exact fitS,by exact fitS⟩ ⟨fun h=>absurd h (by first | assumption | rfl | decide | omega),fun _=>?_⟩ | (apply callK_pure;(focus assumption)) | (apply callK_eq;(focus assumption)) | refine ⟨by first | decide | omega,?_⟩);((conv=>whnf))) | ((conv in (_[_]?)=>tactic=>first | exact oL | exact get_set (by assumption));(conv=>whnf))))
      refine ⟨by rw [hR];rfl,?_⟩
      have:=bad X7 ha7 eX7
      rw [hX7] at this
      exact this _ _ hT0 hR
    ·have hR:R=(repZ,provesV (keyB p.k) p q.ab now):=by rw [hR0];exact tgs_3 hl hq hS hpr
     generalize provesV (keyB p.k) p q.ab now=z at *
     conv=>whnf
     (repeat (first | ((first | (apply exA;(focus exact oN)) | refine ⟨fun _=>?_,fun h=>absurd (by first | assumption | rfl | decide | omega) h⟩ | refine ⟨fun h=>absurd h (by first | assumption | rfl | decide | omega),fun _=>?_⟩ | refine And.intro ⟨by exact fitS,by exact fitS⟩ ⟨fun _=>?_,fun h=>absurd (by first | assumption | rfl | decide | omega) h⟩ | refine And.intro ⟨by exact fitS,by exact fitS⟩ ⟨fun h=>absurd h (by first | assumption | rfl | decide | omega),fun _=>?_⟩ | (apply callK_pure;(focus assumption)) | (apply callK_eq;(focus assumption)) | refine ⟨by first | decide | omega,?_⟩);((conv=>whnf))) | ((conv in (_[_]?)=>tactic=>first | exact oL | exact get_set (by assumption));(conv=>whnf))))
     exact ⟨by rw [hR];rfl,bad _ ha5 eX5 _ _ hpr hR⟩
   ·have hR:R=(repZ,e):=by rw [hR0];exact tgs_2 hl hq hS he0
    conv=>whnf
    (repeat (first | ((first | (apply exA;(focus exact oN)) | refine ⟨fun _=>?_,fun h=>absurd (by first | assumption | rfl | decide | omega) h⟩ | refine ⟨fun h=>absurd h (by first | assumption | rfl | decide | omega),fun _=>?_⟩ | refine And.intro ⟨by exact fitS,by exact fitS⟩ ⟨fun _=>?_,fun h=>absurd (by first | assumption | rfl | decide | omega) h⟩ | refine And.intro ⟨by exact fitS,by exact fitS⟩ ⟨fun h=>absurd h (by first | assumption | rfl | decide | omega),fun _=>?_⟩ | (apply callK_pure;(focus assumption)) | (apply callK_eq;(focus assumption)) | refine ⟨by first | decide | omega,?_⟩);((conv=>whnf))) | ((conv in (_[_]?)=>tactic=>first | exact oL | exact get_set (by assumption));(conv=>whnf))))
    exact ⟨by rw [hR];rfl,bad _ ha3 eX3 _ _ he0 hR⟩
set_option maxHeartbeats 4000000
theorem lastE_congr {f g:Ent→Bool} {l:List Ent} (h:∀e∈l,f e=g e):lastE f l=lastE g l:=by
 have:∀m:List Ent,(∀e∈m,f e=g e)→m.find? f=m.find? g:=by
  intro m
  induction m with
  | nil=>intro _;rfl
  | cons x m ih =>
   intro hm
   rw [List.find?_cons,List.find?_cons,hm x (by simp),ih fun e he=>hm e (by simp [he])]
 exact this _ fun e he=>h e (List.mem_reverse.1 he)
theorem Small.isK {l:List Ent} (h:Small l 5) (r n:List UInt8):lastE (isK r n 1) l=lastE (isP r n) l:=by
 refine lastE_congr fun e he=>?_
 obtain ⟨_,_,_,_,hkv,_⟩:=h.mem he
 show (isP r n e&&decide ((e.kv:Int)=1))=isP r n e
 rw [decide_eq_true (by rw [hkv];rfl),Bool.and_true]
theorem autL_784 {a:Aut} (h:isAutB a=true):(autL a).length≤784:=by
 have h0:=aut_len a
 unfold isAutB at h
 simp only [Bool.and_eq_true] at h
 have gp:=princ_len h.1.1
 omega
theorem shown_sealed {realm:List UInt8} {l:List Ent} {tr tn:List UInt8} {kv:Int} {e:Ent} (hL:lastE (isK tr tn kv) l=some e) (htn:tn=krb realm) (m:Int) (hm0:0≤m) (hm1:m≤1099511627776) {p:Prt} (hP:isPartB p=true) (now:Int) :
  ∃p':Prt,p'.same p∧shownV realm l tr tn kv (sealK e.key 2 m (partL p)) now=if p.en<now then (zPrt,7) else if now+5<p.st then (zPrt,8) else (p',0):=by
 have hop:=open_seal e.key 2 m (partL p) hm0 hm1 (partL_784 hP)
 have hsm:=partC_laid p hP
 have hok:okPrt (partC (partL p)) (partL p)=true:=by rw [okPrt_same hsm];exact okPrt_iff.2 ⟨hP,partL_le hP,rfl⟩
 have hg:gPPrt (partC (partL p)) (partL p)=partC (partL p):=if_pos hok
 have hg0:gEPrt (partC (partL p)) (partL p)=0:=if_pos hok
 refine ⟨partC (partL p),hsm,?_⟩
 unfold shownV
 rw [decide_eq_true htn,hL]
 dsimp only
 rw [hop]
 dsimp only
 rw [hg0,hg,decide_eq_true rfl]
 dsimp only
 obtain ⟨_,_,_,_,hst,hen⟩:=hsm
 rw [hst,hen]
 by_cases h1:p.en<now
 ·rw [if_pos h1,decide_eq_true h1]
 ·rw [if_neg h1,decide_eq_false h1]
  dsimp only
  by_cases h2:now+5<p.st
  ·rw [if_pos h2,decide_eq_true h2]
  ·rw [if_neg h2,decide_eq_false h2]
theorem proves_sealed (key:List UInt8) (p:Prt) (m:Int) (hm0:0≤m) (hm1:m≤1099511627776) {a:Aut} (hA:isAutB a=true) (now:Int) :
  provesV key p (sealK key 7 m (autL a)) now=if a.r=p.r∧a.n=p.n then (if now+5<a.tm∨a.tm<now - 5 then 8 else 0) else 9:=by
 have hop:=open_seal key 7 m (autL a) hm0 hm1 (autL_784 hA)
 have hsm:=autC_laid a hA
 have hok:okAut (autC (autL a)) (autL a)=true:=by rw [okAut_same hsm];exact okAut_iff.2 ⟨hA,autL_le hA,rfl⟩
 have hg:gPAut (autC (autL a)) (autL a)=autC (autL a):=if_pos hok
 have hg0:gEAut (autC (autL a)) (autL a)=0:=if_pos hok
 unfold provesV
 rw [hop]
 dsimp only
 rw [hg0,hg,decide_eq_true rfl]
 dsimp only
 obtain ⟨h1,h2,h3,_⟩:=hsm
 rw [h1,h2,h3]
 by_cases k1:a.r=p.r∧a.n=p.n
 ·rw [if_pos k1,decide_eq_true k1]
  dsimp only
  by_cases k2:now+5<a.tm∨a.tm<now - 5
  ·rw [if_pos k2,decide_eq_true k2]
  ·rw [if_neg k2,decide_eq_false k2]
 ·rw [if_neg k1,decide_eq_false k1]
def qT (p:Prt) (a:Aut) (till:Int):TgQ:=⟨aedu,krb aedu,1,sealK (keyN 10) 2 77 (partL p),sealK (keyB p.k) 7 78 (autL a),aedu,mail,till,4⟩
theorem prMail:isPrincB aedu mail=true:=by kernel_rfl
theorem qT_ok {p:Prt} {a:Aut} {till:Int} (hP:isPartB p=true) (hA:isAutB a=true) (h1:0≤till) (h2:till≤1073741824):(qT p a till).ok=true:=by
 have g1:=partL_784 hP
 have g2:=autL_784 hA
 have g3:=lePrt p
 have g4:=leAut a
 have e1:tickB aedu (krb aedu) 1 (sealK (keyN 10) 2 77 (partL p)).length=true:=by
  unfold tickB
  rw [prTgt,show inZ 1 1 255=true by decide,sealK_len,inZ_of (by omega) (by omega)];rfl
 have e2:inZ ((sealK (keyB p.k) 7 78 (autL a)).length:Int) 1 800=true:=by rw [sealK_len];exact inZ_of (by omega) (by omega)
 show (tickB aedu (krb aedu) 1 (sealK (keyN 10) 2 77 (partL p)).length&&inZ ((sealK (keyB p.k) 7 78 (autL a)).length:Int) 1 800&&isPrincB aedu mail&&inZ till 0 1073741824&&inZ 4 0 1073741824)=true
 rw [e1,e2,prMail,inZ_of h1 h2];rfl
theorem qT_fit {p:Prt} {a:Aut} (till:Int) (hP:isPartB p=true) (hA:isAutB a=true):(qT p a till).fit:=by
 have g1:=partL_784 hP
 have g2:=autL_784 hA
 refine ⟨?_,?_,?_,?_,?_,?_⟩
 ·show aedu.length≤_;decide
 ·show (krb aedu).length≤_;decide
 ·show aedu.length≤_;decide
 ·show mail.length≤_;decide
 ·show (sealK (keyN 10) 2 77 (partL p)).length≤_;rw [sealK_len];omega
 ·show (sealK (keyB p.k) 7 78 (autL a)).length≤_;rw [sealK_len];omega
theorem target_mail {l:List Ent} (h:Small l 5):targetV aedu l mail=((aedu,mail),0):=by
 obtain ⟨s,hS,_⟩:=h.some (x:=((aedu,mail),14)) (by decide)
 unfold targetV
 rw [show lastE (isP aedu mail) l=Option.some s from hS]
theorem tgsT {l:List Ent} (h:Small l 5) (n:Int) {p:Prt} {a:Aut} {till now:Int} (draw:Nat→UInt8) (hP:isPartB p=true) (hA:isAutB a=true) (h1:0≤till) (h2:till≤1073741824) (h3:0≤now) (h4:now≤1073741824) :
  ∃p':Prt,p'.same p∧tgsV aedu l n (qT p a till) now draw (targetV aedu l mail) (fun p=>(p.tr,0)) =
   if p.en<now then (repZ,7) else if now+5<p.st then (repZ,8) else if ¬(a.r=p.r∧a.n=p.n) then (repZ,9) else if now+5<a.tm∨a.tm<now - 5 then (repZ,8) else if till<now then (repZ,7) else
    (⟨p.r,p.n,aedu,mail,1,sealK (keyN 14) 2 (n+1) (partL ⟨p.r,p.n,draw,p.tr,now,min till p.en⟩),sealK (keyB p.k) 8 (n+2) (rptL ⟨draw,aedu,mail,now,min till p.en,4⟩)⟩,0):=by
 obtain ⟨e,hE,hkv,hk,_⟩:=h.some (x:=((aedu,krb aedu),10)) (by decide)
 obtain ⟨s,hS,hskv,hsk,_⟩:=h.some (x:=((aedu,mail),14)) (by decide)
 have hL:lastE (isK aedu (krb aedu) 1) l=Option.some e:=by rw [h.isK];exact hE
 obtain ⟨p',hsm,hsh⟩:=shown_sealed hL rfl 77 (by decide) (by decide) hP now
 rw [hk] at hsh
 have hl:=late_no h3 h4
 have hq:=qT_ok (till:=till) hP hA h1 h2
 have hpv:=proves_sealed (keyB p.k) p' 78 (by decide) (by decide) hA now
 obtain ⟨e1,e2,e3,e4,e5,e6⟩:=hsm
 rw [e1,e2] at hpv
 refine ⟨p',⟨e1,e2,e3,e4,e5,e6⟩,?_⟩
 have hsh':shownV aedu l (qT p a till).tr (qT p a till).tn (qT p a till).kv (qT p a till).tb now=if p.en<now then (zPrt,7) else if now+5<p.st then (zPrt,8) else (p',0):=hsh
 have hpv':provesV (keyB p'.k) p' (qT p a till).ab now=if a.r=p.r∧a.n=p.n then (if now+5<a.tm∨a.tm<now - 5 then 8 else 0) else 9:=by rw [e3];exact hpv
 by_cases c1:p.en<now
 ·rw [if_pos c1] at hsh' ⊢
  exact tgs_2 hl hq hsh' (by decide)
 rw [if_neg c1] at hsh' ⊢
 by_cases c2:now+5<p.st
 ·rw [if_pos c2] at hsh' ⊢
  exact tgs_2 hl hq hsh' (by decide)
 rw [if_neg c2] at hsh' ⊢
 by_cases c3:a.r=p.r∧a.n=p.n
 ·rw [if_neg (not_not_intro c3)]
  rw [if_pos c3] at hpv'
  by_cases c4:now+5<a.tm∨a.tm<now - 5
  ·rw [if_pos c4] at hpv' ⊢
   rw [tgs_3 hl hq hsh' (by rw [hpv'];decide),hpv']
  ·rw [if_neg c4] at hpv' ⊢
   have hT:(targetV aedu l mail).2=0:=by rw [target_mail h]
   by_cases c5:till<now
   ·rw [if_pos c5]
    exact tgs_6 hl hq hsh' hpv' hT rfl c5
   ·rw [if_neg c5,tgs_7 hl hq hsh' hpv' hT rfl c5,target_mail h]
    dsimp only
    rw [e1,e2,e4,e6,e3]
    have hB:isPrincB p.r p.n=true∧isTextB p.tr=true∧0≤p.en∧p.en≤1073741824:=by
     unfold isPartB at hP
     simp only [Bool.and_eq_true] at hP
     exact ⟨hP.1.1,hP.1.2,(inZ_le hP.2.2).1,(inZ_le hP.2.2).2⟩
    have hx1:isPartB ⟨p.r,p.n,draw,p.tr,now,min till p.en⟩=true:=by
     show (isPrincB p.r p.n&&isTextB p.tr&&(inZ now 0 1073741824&&inZ (min till p.en) 0 1073741824))=true
     rw [hB.1,hB.2.1,inZ_of h3 h4,inZ_of (by omega) (by omega)];rfl
    have hx2:isRptB ⟨draw,aedu,mail,now,min till p.en,4⟩=true:=by
     show (isPrincB aedu mail&&(inZ now 0 1073741824&&inZ (min till p.en) 0 1073741824)&&inZ 4 0 1073741824)=true
     rw [prMail,inZ_of h3 h4,inZ_of (by omega) (by omega)];rfl
    unfold makeV
    rw [show lastE (isP aedu mail) l=Option.some s from hS]
    have hx:(isPartB ⟨p.r,p.n,draw,p.tr,now,min (qT p a till).till p.en⟩&&isRptB (rptOf ⟨p.r,p.n,draw,p.tr,now,min (qT p a till).till p.en⟩ aedu mail (qT p a till).nonce))=true:=by rw [show (isPartB ⟨p.r,p.n,draw,p.tr,now,min (qT p a till).till p.en⟩)=true from hx1];exact hx2
    simp only [hx]
    rw [hsk,hskv]
    rfl
 ·rw [if_pos c3]
  rw [if_neg c3] at hpv'
  rw [tgs_3 hl hq hsh' (by rw [hpv'];decide),hpv']
def ttT4:TT:=[(3,⟨.int .i64,1,8,[.int .i64 0]⟩),(4,⟨.bool,1,1,[.bool false]⟩),(5,⟨.int .u8,1,1,[.int .u8 0]⟩),(9,⟨.str,1,16,[.str []]⟩),(22,⟨.ptr,1,8,[.ptr none]⟩),(25,⟨.strct [(9,0),(9,1)],2,32,[.str [],.str []]⟩),(26,⟨.slice 5,1,24,[.slice 0 [] (some 5)]⟩),(28,⟨.strct [(25,0),(3,2),(26,3)],4,64,[.str [],.str [],.int .i64 0,.slice 0 [] (some 5)]⟩),(30,⟨.strct [(25,0),(28,2),(26,6)],7,120,[.str [],.str [],.str [],.str [],.int .i64 0,.slice 0 [] (some 5),.slice 0 [] (some 5)]⟩),(31,⟨.int .i64,1,8,[.int .i64 0]⟩),(33,⟨.ptr,1,8,[.ptr none]⟩),(34,⟨.ptr,1,8,[.ptr none]⟩),(36,⟨.strct [(33,0),(34,1)],2,16,[.ptr none,.ptr none]⟩),(43,⟨.arr 32 5,32,32,List.replicate 32 (.int .u8 0)⟩),(50,⟨.strct [(25,0),(43,2),(9,34),(3,35),(3,36)],37,96,[.str [],.str []]++List.replicate 32 (.int .u8 0)++[.str [],.int .i64 0,.int .i64 0]⟩),(64,⟨.strct [(28,0),(26,4),(25,5),(3,7),(3,8)],9,136,[.str [],.str [],.int .i64 0,.slice 0 [] (some 5),.slice 0 [] (some 5),.str [],.str [],.int .i64 0,.int .i64 0]⟩),(68,⟨.strct [(25,0),(3,2),(3,3)],4,48,[.str [],.str [],.int .i64 0,.int .i64 0]⟩)]
theorem ttT4_ok:ttOk prog ttT4=true:=by kernel_rfl
def imm28t:List Nat:=[6,7,8,9,10]
def z64:PObj:=⟨64,[.str [],.str [],.int .i64 0,.slice 0 [] (some 5),.slice 0 [] (some 5),.str [],.str [],.int .i64 0,.int .i64 0],0⟩
theorem z64T:z64.T≠keyT∧z64.T≠boxT:=⟨fun h=>absurd (show 64=keyT from h) (by decide),fun h=>absurd (show 64=boxT from h) (by decide)⟩
theorem c28x (r0 n0:List UInt8) (kn:UInt8) {p:Prt} {a:Aut} (hP:isPartB p=true) (hA:isAutB a=true) (sr sn:List UInt8) (till:Int) (H:PH) :
  CallOk prog 28 [.agg [.str r0,.str n0],.agg ((keyN kn).map byteC),.agg p.cells,.agg a.cells,.agg [.str sr,.str sn],.int .i64 till] H fun x H' =>
   x=.tup [.agg (⟨r0,n0,1,sealK (keyN kn) 2 77 (partL p),sealK (keyB p.k) 7 78 (autL a),sr,sn,till,4⟩:TgQ).cells,.bool true]∧Evo (fun _=>False) H H':=by
 obtain ⟨g1,g2,g3⟩:=prPrt hP
 obtain ⟨g4,g5⟩:=prAut hA
 have k62:=c62s p g1 g2 g3
 rw [(ebPrt hP).1,(ebPrt hP).2] at k62
 have k33:=c33s a g4 g5
 rw [(ebAut hA).1,(ebAut hA).2] at k33
 have k34a:Pure prog 34 [.agg ((keyN kn).map byteC),.int .i64 2,.int .i64 77,sl (partL p)] (.tup [ow (sealK (keyN kn) 2 77 (partL p)),.int .i64 0]):=c34 (keyN kn) (keyN_len kn) 2 77 rfl (by decide) (by decide) (partL p) (partL_784 hP)
 have k34b:Pure prog 34 [.agg ((keyB p.k).map byteC),.int .i64 7,.int .i64 78,sl (autL a)] (.tup [ow (sealK (keyB p.k) 7 78 (autL a)),.int .i64 0]):=c34 (keyB p.k) rfl 7 78 rfl (by decide) (by decide) (autL a) (autL_784 hA)
 generalize sealK (keyN kn) 2 77 (partL p)=b1 at *
 generalize sealK (keyB p.k) 7 78 (autL a)=b2 at *
 (refine fnS (imm:=imm28t) ttT4_ok func28 ?_;(conv=>whnf))
 (repeat (first | ((first | (apply exA;(focus exact oN)) | refine ⟨fun _=>?_,fun h=>absurd (by first | assumption | rfl | decide | omega) h⟩ | refine ⟨fun h=>absurd h (by first | assumption | rfl | decide | omega),fun _=>?_⟩ | refine And.intro ⟨by exact fitS,by exact fitS⟩ ⟨fun _=>?_,fun h=>absurd (by first | assumption | rfl | decide | omega) h⟩ | refine And.intro ⟨by exact fitS,by exact fitS⟩ ⟨fun h=>absurd h (by first | assumption | rfl | decide | omega),fun _=>?_⟩ | (apply callK_pure;(focus assumption)) | (apply callK_eq;(focus assumption)) | refine ⟨by first | decide | omega,?_⟩);((conv=>whnf))) | ((conv in (_[_]?)=>tactic=>first | exact oL | exact get_set (by assumption));(conv=>whnf))))
 exact ⟨rfl,(Evo.app H _).put (get_last H _) z64T.1 z64T.2 (Nat.le_refl _) _⟩
theorem c29r {H:PH} {kid rid:Nat} {realm:List UInt8} {rs ls ps:PV} {l:List Ent} {n i:Nat} (hK:Kd H kid rid realm rs ls ps l n i) (hn:n≤100000) (hi:i≤100000) (hrl:realm.length≤1000000) (q:TgQ) (hf:q.fit) (hs:q.sr=realm) (ht:q.tr=realm) (now:Int) (draw:Nat→UInt8) :
  CallOk prog 29 [.ptr (some (kid,0)),.agg q.cells,.int .i64 now,.agg (keyC draw)] H fun x H' =>
   x=.tup [.agg (tgsV realm l n q now draw (targetV realm l q.sn) (fun p=>(p.tr,0))).1.cells,.int .i64 (tgsV realm l n q now draw (targetV realm l q.sn) (fun p=>(p.tr,0))).2] ∧
   Kd H' kid rid realm rs ls ps l (bump (tgsV realm l n q now draw (targetV realm l q.sn) (fun p=>(p.tr,0))) n 2) (bump (tgsV realm l n q now draw (targetV realm l q.sn) (fun p=>(p.tr,0))) i 1)∧Evo (·=kid) H H':=by
 have hl:(targetV realm l q.sn).1.1.length≤1000000∧(targetV realm l q.sn).1.2.length≤1000000:=by
  have:=hf.sn
  unfold targetV
  split
  ·exact ⟨Nat.zero_le _,Nat.zero_le _⟩
  ·exact ⟨hrl,this⟩
 refine c29g hK hn hi hrl q hf now draw (targetV realm l q.sn) hl.1 hl.2 (fun p=>(p.tr,0)) (fun X hX=>?_) (fun p hp=>(prPrt hp).2.2) (fun X p hp hX=>?_)
 ·rw [hs];exact c68r hX q.sn
 ·exact c69r hX p q.tr q.sr (.inl ht)
theorem tgsT2 {l:List Ent} (h:Small l 5) (n:Int) {p:Prt} {a:Aut} {till now:Int} (draw:Nat→UInt8) (hP:isPartB p=true) (hA:isAutB a=true) (h1:0≤till) (h2:till≤1073741824) (h3:0≤now) (h4:now≤1073741824) :
  ∃b1 b2:List UInt8,b1=sealK (keyN 14) 2 (n+1) (partL ⟨p.r,p.n,draw,p.tr,now,min till p.en⟩)∧tgsV aedu l n (qT p a till) now draw (targetV aedu l mail) (fun p=>(p.tr,0)) =
   if p.en<now then (repZ,7) else if now+5<p.st then (repZ,8) else if ¬(a.r=p.r∧a.n=p.n) then (repZ,9) else if now+5<a.tm∨a.tm<now - 5 then (repZ,8) else if till<now then (repZ,7) else (⟨p.r,p.n,aedu,mail,1,b1,b2⟩,0):=by
 obtain ⟨_,_,hR⟩:=tgsT h n draw hP hA h1 h2 h3 h4
 exact ⟨_,_,rfl,hR⟩
end Go.Proofs.Tryz
