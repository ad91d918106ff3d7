import Derived.Test.YtikacleldnaphaaGreatDoorA3
import Derived.Test.YtikacleldnaphaaGreatDoorA2
import Derived.Shelf.GgClosure.StringsRunes
import Derived.WalkKit
set_option linter.all false
set_option maxRecDepth 100000
set_option maxHeartbeats 2000000
namespace Go.Proofs.Tryz
open Go Ps
def ttQ4:TT:=[(3,⟨.int .i64,1,8,[.int .i64 0]⟩),(5,⟨.int .u8,1,1,[.int .u8 0]⟩),(9,⟨.str,1,16,[.str []]⟩),(22,⟨.slice 5,1,24,[.slice 0 [] (some 5)]⟩),(24,⟨.arr 32 5,32,32,List.replicate 32 (.int .u8 0)⟩),(215,⟨.arr 16 5,16,16,List.replicate 16 (.int .u8 0)⟩),(173,⟨.int .u64,1,8,[.int .u64 0]⟩),(94,⟨.int .u64,1,8,[.int .u64 0]⟩),(230,⟨.int .u32,1,4,[.int .u32 0]⟩),(231,⟨.arr 27 230,27,108,List.replicate 27 (.int .u32 0)⟩)]
theorem ttQ4_ok:ttOk prog ttQ4=true:=by kernel_rfl
def imm77:List Nat:=[2000002]
def imm186:List Nat:=[]
def imm123:List Nat:=[1]
def imm79:List Nat:=[3]
def imm78:List Nat:=[4]
def imm38:List Nat:=[4]
def imm141:List Nat:=[3]
theorem c77 (n:Int):Pure prog 77 [.int .u64 n] (ow (bigV n)):=by
 intro H
 (refine fnS (imm:=imm77) ttQ4_ok func77 ?_;(conv=>whnf))
 refine lO Nat (fun k=>[(0,.int .u64 n),(3,ow ((bigV n).take k)),(4,.int .i64 (7 - (k:Int)))]) (fun _=>H) (fun k=>k≤8) (fun k=>8 - k) ⟨0,Nat.zero_le _,⟨rfl,rfl,rfl,trivial⟩,rfl⟩ ?_
 intro i hi
 match i,hi with
 | 0,_ =>
  conv=>whnf
  refine ⟨fun _=>?_,fun h=>absurd (show (0:Int)≤7 - ((0:Nat):Int) by decide) h⟩
  conv=>whnf
  refine ⟨by decide,?_⟩
  conv=>whnf
  refine ⟨⟨by show (0+1)*1≤140737488355328;decide,rfl,rfl⟩,?_⟩
  conv=>whnf
  refine ⟨1,by decide,⟨rfl,?_,rfl,trivial⟩,rfl,by decide⟩
  show PV.slice 1 (((bigV n).take 0).map bC++[.int .u8 (IntKind.u8.wrap (ishr .u64 n 56))]) (some 5)=ow ((bigV n).take 1)
  rw [byteC_I]
  rfl
 | 1,_ =>
  conv=>whnf
  refine ⟨fun _=>?_,fun h=>absurd (show (0:Int)≤7 - ((1:Nat):Int) by decide) h⟩
  conv=>whnf
  refine ⟨by decide,?_⟩
  conv=>whnf
  refine ⟨⟨by show (1+1)*1≤140737488355328;decide,rfl,rfl⟩,?_⟩
  conv=>whnf
  refine ⟨2,by decide,⟨rfl,?_,rfl,trivial⟩,rfl,by decide⟩
  show PV.slice 2 (((bigV n).take 1).map bC++[.int .u8 (IntKind.u8.wrap (ishr .u64 n 48))]) (some 5)=ow ((bigV n).take 2)
  rw [byteC_I]
  rfl
 | 2,_ =>
  conv=>whnf
  refine ⟨fun _=>?_,fun h=>absurd (show (0:Int)≤7 - ((2:Nat):Int) by decide) h⟩
  conv=>whnf
  refine ⟨by decide,?_⟩
  conv=>whnf
  refine ⟨⟨by show (2+1)*1≤140737488355328;decide,rfl,rfl⟩,?_⟩
  conv=>whnf
  refine ⟨3,by decide,⟨rfl,?_,rfl,trivial⟩,rfl,by decide⟩
  show PV.slice 3 (((bigV n).take 2).map bC++[.int .u8 (IntKind.u8.wrap (ishr .u64 n 40))]) (some 5)=ow ((bigV n).take 3)
  rw [byteC_I]
  rfl
 | 3,_ =>
  conv=>whnf
  refine ⟨fun _=>?_,fun h=>absurd (show (0:Int)≤7 - ((3:Nat):Int) by decide) h⟩
  conv=>whnf
  refine ⟨by decide,?_⟩
  conv=>whnf
  refine ⟨⟨by show (3+1)*1≤140737488355328;decide,rfl,rfl⟩,?_⟩
  conv=>whnf
  refine ⟨4,by decide,⟨rfl,?_,rfl,trivial⟩,rfl,by decide⟩
  show PV.slice 4 (((bigV n).take 3).map bC++[.int .u8 (IntKind.u8.wrap (ishr .u64 n 32))]) (some 5)=ow ((bigV n).take 4)
  rw [byteC_I]
  rfl
 | 4,_ =>
  conv=>whnf
  refine ⟨fun _=>?_,fun h=>absurd (show (0:Int)≤7 - ((4:Nat):Int) by decide) h⟩
  conv=>whnf
  refine ⟨by decide,?_⟩
  conv=>whnf
  refine ⟨⟨by show (4+1)*1≤140737488355328;decide,rfl,rfl⟩,?_⟩
  conv=>whnf
  refine ⟨5,by decide,⟨rfl,?_,rfl,trivial⟩,rfl,by decide⟩
  show PV.slice 5 (((bigV n).take 4).map bC++[.int .u8 (IntKind.u8.wrap (ishr .u64 n 24))]) (some 5)=ow ((bigV n).take 5)
  rw [byteC_I]
  rfl
 | 5,_ =>
  conv=>whnf
  refine ⟨fun _=>?_,fun h=>absurd (show (0:Int)≤7 - ((5:Nat):Int) by decide) h⟩
  conv=>whnf
  refine ⟨by decide,?_⟩
  conv=>whnf
  refine ⟨⟨by show (5+1)*1≤140737488355328;decide,rfl,rfl⟩,?_⟩
  conv=>whnf
  refine ⟨6,by decide,⟨rfl,?_,rfl,trivial⟩,rfl,by decide⟩
  show PV.slice 6 (((bigV n).take 5).map bC++[.int .u8 (IntKind.u8.wrap (ishr .u64 n 16))]) (some 5)=ow ((bigV n).take 6)
  rw [byteC_I]
  rfl
 | 6,_ =>
  conv=>whnf
  refine ⟨fun _=>?_,fun h=>absurd (show (0:Int)≤7 - ((6:Nat):Int) by decide) h⟩
  conv=>whnf
  refine ⟨by decide,?_⟩
  conv=>whnf
  refine ⟨⟨by show (6+1)*1≤140737488355328;decide,rfl,rfl⟩,?_⟩
  conv=>whnf
  refine ⟨7,by decide,⟨rfl,?_,rfl,trivial⟩,rfl,by decide⟩
  show PV.slice 7 (((bigV n).take 6).map bC++[.int .u8 (IntKind.u8.wrap (ishr .u64 n 8))]) (some 5)=ow ((bigV n).take 7)
  rw [byteC_I]
  rfl
 | 7,_ =>
  conv=>whnf
  refine ⟨fun _=>?_,fun h=>absurd (show (0:Int)≤7 - ((7:Nat):Int) by decide) h⟩
  conv=>whnf
  refine ⟨by decide,?_⟩
  conv=>whnf
  refine ⟨⟨by show (7+1)*1≤140737488355328;decide,rfl,rfl⟩,?_⟩
  conv=>whnf
  refine ⟨8,by decide,⟨rfl,?_,rfl,trivial⟩,rfl,by decide⟩
  show PV.slice 8 (((bigV n).take 7).map bC++[.int .u8 (IntKind.u8.wrap (ishr .u64 n 0))]) (some 5)=ow ((bigV n).take 8)
  rw [byteC_I]
  rfl
 | 8,_ =>
  conv=>whnf
  refine ⟨fun h=>absurd h (by decide),fun _=>?_⟩
  conv=>whnf
  exact ⟨rfl,rfl⟩
theorem be_step2 (l:List UInt8) (c:UInt8) (h:l.length<8):ibits .or .u64 (ishl .u64 (beN l:Nat) 8) (IntKind.u64.wrap c.toNat)=((beN (l++[c]):Nat):Int):=by
 have hc:=c.toNat_lt
 have h1:=beN_lt l rfl
 rw [pow8] at h1
 have h3:2 ^ (8*(l.length+1))≤18446744073709551616:=pow_le8 (by omega)
 have h4:2 ^ (8*(l.length+1))=256*2 ^ (8*l.length):=by rw [Nat.mul_add,Nat.pow_add];omega
 have h5:beN l*256<18446744073709551616:=by omega
 have e:ishl .u64 (beN l:Nat) 8=((beN l*256:Nat):Int):=by
  show IntKind.u64.wrap ((beN l:Int)*2 ^ (min (8:Int).toNat 64))=_
  have:((beN l:Int)*2 ^ (min (8:Int).toNat 64))=((beN l*256:Nat):Int):=by push_cast;rfl
  rw [this]
  exact wrapU64 h5
 rw [e,wrapU64 (by omega),or_u64 h5 (by omega),beN_snoc,show beN l*256=2 ^ 8*beN l by omega,←Nat.two_pow_add_eq_or_of_lt (by omega:c.toNat<2 ^ 8)]
theorem c186 (b:List UInt8) (hb:8≤b.length):Pure prog 186 [sl b] (.int .u64 (beN (b.take 8))):=by
 intro H
 (refine fnS (imm:=imm186) ttQ4_ok func186 ?_;(conv=>whnf))
 refine lO Nat (fun i=>[(0,sl b),(3,.int .u64 (beN (b.take i))),(4,.int .i64 i)]) (fun _=>H) (fun i=>i≤8) (fun i=>8 - i) ⟨0,Nat.zero_le _,⟨rfl,rfl,rfl,trivial⟩,rfl⟩ ?_
 intro i hi
 conv=>whnf
 refine ⟨fun h=>?_,fun h=>?_⟩
 ·have h:(i:Int)<8:=h
  have hi':i<b.length:=by omega
  conv=>whnf
  refine ⟨by decide,?_⟩
  conv=>whnf
  refine ⟨⟨by omega,by show (i:Int)<(b.length:Int);omega⟩,[bC b[i]],at1' (k:=(i:Int).toNat*1) (by rw [Int.toNat_natCast,Nat.mul_one,List.getElem?_map,List.getElem?_eq_getElem hi'];rfl),?_⟩
  conv=>whnf
  refine ⟨i+1,by omega,⟨rfl,?_,?_,trivial⟩,rfl,by omega⟩
  ·show PV.int _ (ibits .or .u64 (ishl .u64 (beN (b.take i):Nat) 8) (IntKind.u64.wrap (b[i].toNat:Int)))=PV.int _ _
   have hl:(b.take i).length=i:=by rw [List.length_take];omega
   rw [List.take_succ_eq_append_getElem hi',be_step2 (b.take i) b[i] (by omega)]
  ·show PV.int _ (IntKind.i64.wrap ((i:Int)+1))=PV.int _ _
   rw [w64 (by omega) (by omega)];simp
 ·have h:¬(i:Int)<8:=h
  have e:i=8:=by omega
  subst e
  conv=>whnf
  exact ⟨rfl,rfl⟩
def cur16 (l:List UInt8) (i:Nat):List UInt8:=l.take i++List.replicate (16 - i) 0
theorem cur16_len (l:List UInt8) (i:Nat) (hl:16≤l.length) (hi:i≤16):(cur16 l i).length=16:=by
 unfold cur16
 rw [List.length_append,List.length_take,List.length_replicate];omega
theorem cur16_set (l:List UInt8) (i:Nat) (hl:16≤l.length) (hi:i<16):(cur16 l i).set i (l[i]'(by omega))=cur16 l (i+1):=by
 unfold cur16
 rw [List.set_append_right _ _ (by rw [List.length_take];omega),List.length_take,Nat.min_eq_left (by omega),Nat.sub_self,show 16 - i=(16 - (i+1))+1 by omega,List.replicate_succ,List.set_cons_zero,List.take_succ_eq_append_getElem (by omega),List.append_assoc]
 rfl
theorem get2a (H:PH) (a b:PObj):(H++[a,b])[H.length]? = some a:=by simp
theorem get2b (H:PH) (a b:PObj):(H++[a,b])[H.length+1]? = some b:=by simp
theorem set2a (H:PH) (a b o:PObj):(H++[a,b]).set H.length o=H++[o,b]:=by simp
theorem set2b (H:PH) (a b o:PObj):(H++[a,b]).set (H.length+1) o=H++[a,o]:=by
 rw [List.set_append_right _ _ (by omega),show H.length+1 - H.length=1 by omega];rfl
def B16 (l:List UInt8) (v:Nat):PObj:=⟨215,l.map bC,v⟩
def D123_5:Draw:={ imp:=[10,12],win:=[(1,0,1),(5,0,1),(6,0,1),(7,0,1),(8,0,1),(11,1,1),(12,1,1)] }
def D123_6:Draw:={ imp:=[2,3],win:=[(1,0,1),(3,1,1)] }
theorem setCells_app0 (cs:List UInt8) (i:Nat) (x:UInt8) (h:i<cs.length):setCells i [bC x] (cs.map bC)=(cs.set i x).map bC:=by
 have:=setCells_app cs [] i x h
 rw [List.append_nil,List.append_nil] at this
 exact this
theorem agg16 (l:List UInt8) (hl:l.length=16):((dropN 0 (l.map bC)).take 16).map dem=l.map bC:=by
 rw [dropN_eq,List.drop_zero,List.take_of_length_le (by rw [List.length_map];omega),List.map_map]
 rfl
theorem set16 (l:List UInt8) (hl:l.length=16):setCells 0 (l.map bC) ((List.replicate 16 (0:UInt8)).map bC)=l.map bC:=by
 rw [setCells_eq _ _ _ (by rw [List.length_map,hl];exact Nat.le_refl _),List.take_zero,List.drop_of_length_le (by simp [hl]),List.nil_append,List.append_nil]
theorem oldPs_bytesY (l:List UInt8):oldPs (l.map bC)=true:=by
 induction l with
 | nil=>rfl
 | cons x l ih=>simp [oldPs,oldP,bC,ih]
theorem c123x (k:List UInt8) (hk:k.length=32) (H:PH):CK prog 123 [.agg (k.map bC)] H fun r H'=>r=.tup [.agg ((k.take 16).map bC),.agg ((k.drop 16).map bC)]∧∃ext,H'=H++ext:=by
 (refine fnS (imm:=imm123) ttQ4_ok func123 ?_;(conv=>whnf))
 obtain ⟨H3,hH3⟩:∃H3:PH,H3=H++[B16 (List.replicate 16 0) 0,B16 (List.replicate 16 0) 0]:=⟨_,rfl⟩
 have hd16:16≤(k.drop 16).length:=by rw [List.length_drop];omega
 refine lO Nat (fun i=>[(1,.elem (k.map bC)),(2,.ptr (some (H.length,0))),(3,.ptr (some (H.length+1,0))),(4,.ptr (some (H3.length,0))),(5,.ptr (some (H3.length+1,0))),(6,.int .i64 i)]) (fun i=>H3++[B16 (cur16 k i) i,B16 (cur16 (k.drop 16) i) i]) (fun i=>i≤16) (fun i=>16 - i) ⟨0,Nat.zero_le _,⟨rfl,rfl,?_,?_,?_,rfl,trivial⟩,?_⟩ ?_
 ·show PV.ptr (some ((H++[_]).length,0))=_
  simp
 ·show PV.ptr (some ((H++[_]++[_]).length,0))=_
  simp [hH3]
 ·show PV.ptr (some ((H++[_]++[_]++[_]).length,0))=_
  simp [hH3]
 ·subst hH3
  show H++[_]++[_]++[_]++[_]=_
  simp only [List.append_assoc,List.cons_append,List.nil_append]
  rfl
 intro i hi
 conv=>whnf
 refine ⟨fun h=>?_,fun h=>?_⟩
 ·have h:(i:Int)<16:=h
  have hia:i<k.length:=by omega
  have hib:i<(k.drop 16).length:=by omega
  have hib2:16+i<k.length:=by omega
  have hw:IntKind.i64.wrap (16+(i:Int))=((16+i:Nat):Int):=by rw [w64 (by omega) (by omega)];omega
  have hgb:(k.drop 16)[i]=k[16+i]:=by rw [List.getElem_drop]
  have lA:=cur16_len k i (by omega) (by omega)
  have lB:=cur16_len (k.drop 16) i hd16 (by omega)
  conv=>whnf
  refine dO2 D123_5 [H3++[B16 (cur16 k i) i,B16 (cur16 (k.drop 16) i) i],H3++[B16 (cur16 k (i+1)) (i+1),B16 (cur16 (k.drop 16) i) i],H3++[B16 (cur16 k (i+1)) (i+1),B16 (cur16 (k.drop 16) (i+1)) (i+1)]] (by kernel_rfl) rfl trivial ?_
  conv=>whnf
  (refine dS ?_;(conv=>whnf))
  (refine dS2 ?_;(conv=>whnf))
  (refine dS ?_;(conv=>whnf))
  refine ⟨.elem [bC k[i]],⟨⟨by show (0:Int)≤(i:Int);omega,by show (i:Int)<((32:Nat):Int);omega⟩,[bC k[i]],at1' (k:=(i:Int).toNat*1) (by rw [Int.toNat_natCast,Nat.mul_one,List.getElem?_map,List.getElem?_eq_getElem hia];rfl),rfl,rfl,trivial⟩,?_⟩
  conv=>whnf
  (refine dS ?_;(conv=>whnf))
  (refine dS2 ?_;(conv=>whnf))
  refine ⟨.int .i64 ((16+i:Nat):Int),⟨⟨congrArg (PV.int _) hw,rfl,trivial⟩,⟨congrArg (PV.int _) hw,rfl,trivial⟩⟩,?_⟩
  conv=>whnf
  refine ⟨.elem [bC k[16+i]],?_,?_⟩
  ·conv=>whnf
   have hq:∀(j:Nat) (c:PV),[bC k[16+i]][j]? = some c→(k.map bC)[((16+i:Nat):Int).toNat*1+j]? = some c:=at1' (by rw [Int.toNat_natCast,Nat.mul_one,List.getElem?_map,List.getElem?_eq_getElem hib2];rfl)
   exact ⟨⟨⟨by omega,by show ((16+i:Nat):Int)<((32:Nat):Int);omega⟩,_,hq,rfl,rfl,trivial⟩,⟨⟨by omega,by show ((16+i:Nat):Int)<((32:Nat):Int);omega⟩,_,hq,rfl,rfl,trivial⟩⟩
  conv=>whnf
  (refine dS2 ?_;(conv=>whnf))
  apply Exists.intro
  apply And.intro
  ·conv=>whnf
   refine ⟨⟨by show (0:Int)≤(i:Int);omega,by show (i:Int)<((16:Nat):Int);omega⟩,rfl,rfl,trivial⟩
  conv=>whnf
  apply Exists.intro
  apply And.intro
  ·conv=>whnf
   ((conv in (_[_]?)=>tactic=>exact (get2a H3 _ _));(conv=>whnf))
   ((conv in (Nat.ble _ _)=>tactic=>exact (show Nat.ble (0+(i:Int).toNat*1+1) ((cur16 k i).map bC).length=true by rw [Nat.ble_eq,List.length_map,lA];omega));(conv=>whnf))
   refine ⟨rfl,?_,trivial⟩
   refine (set2a H3 _ _ _).trans (congrArg (fun o=>H3++[o,_]) ?_)
   show PObj.mk 215 (setCells (0+(i:Int).toNat*1) [bC k[i]] ((cur16 k i).map bC)) (i+1)=_
   rw [show 0+(i:Int).toNat*1=i by omega,setCells_app0 _ _ _ (by omega),cur16_set k i (by omega) (by omega)];rfl
  conv=>whnf
  apply Exists.intro
  apply And.intro
  ·conv=>whnf
   refine ⟨⟨by show (0:Int)≤(i:Int);omega,by show (i:Int)<((16:Nat):Int);omega⟩,rfl,rfl,trivial⟩
  conv=>whnf
  apply Exists.intro
  apply And.intro
  ·conv=>whnf
   ((conv in (_[_]?)=>tactic=>exact (get2b H3 _ _));(conv=>whnf))
   ((conv in (Nat.ble _ _)=>tactic=>exact (show Nat.ble (0+(i:Int).toNat*1+1) ((cur16 (k.drop 16) i).map bC).length=true by rw [Nat.ble_eq,List.length_map,lB];omega));(conv=>whnf))
   refine ⟨rfl,?_,trivial⟩
   refine (set2b H3 _ _ _).trans (congrArg (fun o=>H3++[_,o]) ?_)
   show PObj.mk 215 (setCells (0+(i:Int).toNat*1) [bC k[16+i]] ((cur16 (k.drop 16) i).map bC)) (i+1)=_
   rw [show 0+(i:Int).toNat*1=i by omega,setCells_app0 _ _ _ (by omega),←hgb,cur16_set (k.drop 16) i hd16 (by omega)];rfl
  conv=>whnf
  refine ⟨i+1,by omega,⟨rfl,rfl,rfl,rfl,rfl,?_,trivial⟩,rfl,by omega⟩
  show PV.int _ (IntKind.i64.wrap ((i:Int)+1))=PV.int _ _
  rw [w64 (by omega) (by omega)];simp
 ·have h:¬(i:Int)<16:=h
  have e:i=16:=by omega
  subst e
  have e1:cur16 k 16=k.take 16:=by unfold cur16;exact List.append_nil _
  have e2:cur16 (k.drop 16) 16=k.drop 16:=by
   unfold cur16
   rw [List.take_of_length_le (by rw [List.length_drop];omega)];exact List.append_nil _
  rw [e1,e2]
  have h1:(k.take 16).length=16:=by rw [List.length_take];omega
  have h2:(k.drop 16).length=16:=by rw [List.length_drop];omega
  have g1:(H3++[B16 (k.take 16) 16,B16 (k.drop 16) 16])[H.length]? = some (B16 (List.replicate 16 0) 0):=by
   rw [List.getElem?_append_left (by rw [hH3];simp),hH3];exact get2a H _ _
  have g2:(H3++[B16 (k.take 16) 16,B16 (k.drop 16) 16])[H.length+1]? = some (B16 (List.replicate 16 0) 0):=by
   rw [List.getElem?_append_left (by rw [hH3];simp),hH3];exact get2b H _ _
  have g3:(H3++[B16 (k.take 16) 16,B16 (k.drop 16) 16])[H3.length]? = some (B16 (k.take 16) 16):=get2a H3 _ _
  have g4:(H3++[B16 (k.take 16) 16,B16 (k.drop 16) 16])[H3.length+1]? = some (B16 (k.drop 16) 16):=get2b H3 _ _
  have b1:Nat.ble 16 (dropN 0 ((k.take 16).map bC)).length=true:=by rw [Nat.ble_eq,dropN_eq,List.drop_zero,List.length_map,h1];exact Nat.le_refl _
  have b2:Nat.ble 16 (dropN 0 ((k.drop 16).map bC)).length=true:=by rw [Nat.ble_eq,dropN_eq,List.drop_zero,List.length_map,h2];exact Nat.le_refl _
  have q1:Nat.beq ((k.take 16).map bC).length 16=true:=by rw [List.length_map,h1];rfl
  have q2:Nat.beq ((k.drop 16).map bC).length 16=true:=by rw [List.length_map,h2];rfl
  have hlen3:H3.length=H.length+2:=by rw [hH3];simp
  have hXl:(H3++[B16 (k.take 16) 16,B16 (k.drop 16) 16]).length=H3.length+2:=by simp
  have hfr:∀j,j<H.length→(H3++[B16 (k.take 16) 16,B16 (k.drop 16) 16])[j]? = H[j]?:=fun j hj=>by
   rw [List.getElem?_append_left (by omega),hH3,List.getElem?_append_left hj]
  generalize H3++[B16 (k.take 16) 16,B16 (k.drop 16) 16]=X at g1 g2 g3 g4 hXl hfr ⊢
  have g4':(X.set H.length (B16 (k.take 16) 1))[H3.length+1]? = some (B16 (k.drop 16) 16):=by rw [List.getElem?_set_ne (by omega)];exact g4
  have g2':(X.set H.length (B16 (k.take 16) 1))[H.length+1]? = some (B16 (List.replicate 16 0) 0):=by rw [List.getElem?_set_ne (by omega)];exact g2
  conv=>whnf
  refine dO2 D123_6 [X,X.set H.length (B16 (k.take 16) 1),(X.set H.length (B16 (k.take 16) 1)).set (H.length+1) (B16 (k.drop 16) 1)] (by kernel_rfl) rfl trivial ?_
  conv=>whnf
  refine ⟨.agg ((k.take 16).map bC),?_,?_⟩
  ·conv=>whnf
   ((conv in (_[_]?)=>tactic=>exact g3);(conv=>whnf))
   ((conv in (Nat.ble _ _)=>tactic=>exact b1);(conv=>whnf))
   exact ⟨congrArg PV.agg (agg16 _ h1),rfl,trivial⟩
  conv=>whnf
  refine ⟨.agg ((k.drop 16).map bC),?_,?_⟩
  ·conv=>whnf
   refine ⟨?_,?_⟩
   ·conv=>whnf
    ((conv in (_[_]?)=>tactic=>exact g4);(conv=>whnf))
    ((conv in (Nat.ble _ _)=>tactic=>exact b2);(conv=>whnf))
    exact ⟨congrArg PV.agg (agg16 _ h2),rfl,trivial⟩
   ·conv=>whnf
    ((conv in (_[_]?)=>tactic=>exact g4');(conv=>whnf))
    ((conv in (Nat.ble _ _)=>tactic=>exact b2);(conv=>whnf))
    exact ⟨congrArg PV.agg (agg16 _ h2),rfl,trivial⟩
  conv=>whnf
  apply Exists.intro
  apply And.intro
  ·conv=>whnf
   ((conv in (_[_]?)=>tactic=>exact g1);(conv=>whnf))
   (conv in (Nat.beq _ _)=>tactic=>exact q1)
   conv=>whnf
   (conv in (List.all _ _)=>tactic=>exact allOne (k.take 16))
   conv=>whnf
   refine ⟨rfl,?_,trivial⟩
   show X.set H.length (PObj.mk 215 (setCells 0 ((k.take 16).map bC) ((List.replicate 16 (0:UInt8)).map bC)) (0+1))=_
   rw [set16 _ h1];rfl
  conv=>whnf
  apply Exists.intro
  apply And.intro
  ·conv=>whnf
   ((conv in (_[_]?)=>tactic=>exact g2');(conv=>whnf))
   (conv in (Nat.beq _ _)=>tactic=>exact q2)
   conv=>whnf
   (conv in (List.all _ _)=>tactic=>exact allOne (k.drop 16))
   conv=>whnf
   refine ⟨rfl,?_,trivial⟩
   show (X.set H.length _).set (H.length+1) (PObj.mk 215 (setCells 0 ((k.drop 16).map bC) ((List.replicate 16 (0:UInt8)).map bC)) (0+1))=_
   rw [set16 _ h2];rfl
  conv=>whnf
  have r1:((X.set H.length (B16 (k.take 16) 1)).set (H.length+1) (B16 (k.drop 16) 1))[H.length]? = some (B16 (k.take 16) 1):=by
   rw [List.getElem?_set_ne (by omega)];exact gS g1
  have r2:((X.set H.length (B16 (k.take 16) 1)).set (H.length+1) (B16 (k.drop 16) 1))[H.length+1]? = some (B16 (k.drop 16) 1):=gS g2'
  ((conv in (_[_]?)=>tactic=>exact r1);(conv=>whnf))
  ((conv in (Nat.ble _ _)=>tactic=>exact b1);(conv=>whnf))
  ((conv in (_[_]?)=>tactic=>exact r2);(conv=>whnf))
  ((conv in (Nat.ble _ _)=>tactic=>exact b2);(conv=>whnf))
  refine ⟨?_,?_⟩
  ·show PV.tup [.agg (((dropN 0 ((k.take 16).map bC)).take 16).map dem),.agg (((dropN 0 ((k.drop 16).map bC)).take 16).map dem)]=_
   rw [agg16 _ h1,agg16 _ h2]
  ·refine ext_of (by show H.length≤((X.set _ _).set _ _).length;rw [List.length_set,List.length_set];omega) fun j hj=>?_
   show ((X.set H.length _).set (H.length+1) _)[j]? = _
   rw [List.getElem?_set_ne (by omega),List.getElem?_set_ne (by omega)]
   exact hfr j hj
theorem c123 (k:List UInt8) (hk:k.length=32):Pure prog 123 [.agg (k.map bC)] (.tup [.agg ((k.take 16).map bC),.agg ((k.drop 16).map bC)]) :=
 Pure.of_gc (by show (oldPs ((k.take 16).map bC)&&(oldPs ((k.drop 16).map bC)&&true))=true;rw [oldPs_bytesY,oldPs_bytesY];rfl) fun H=>c123x k hk H
theorem agg32 (l:List UInt8) (hl:l.length=32):((dropN 0 (l.map bC)).take 32).map dem=l.map bC:=by
 rw [dropN_eq,List.drop_zero,List.take_of_length_le (by rw [List.length_map];omega),List.map_map]
 rfl
theorem gA (H:PH) (a b:PObj):(H++[a]++[b])[H.length]? = some a:=by simp
theorem gB (H:PH) (a b c:PObj):((H++[a]++[b]).set H.length c)[(H++[a]).length]? = some b:=by
 rw [List.getElem?_set_ne (by simp)];exact gL _ b
def D79:Draw:={ cons:=[(5,[17])] }
theorem c79x (k:List UInt8) (hk:k.length=32) (u:Int) (b:List UInt8) (hb:b.length≤900000) (H:PH):CK prog 79 [.agg (k.map bC),.int .i64 u,sl b] H fun r H'=>r=sl (tagV (k.drop 16) u b)∧∃ext,H'=H++ext:=by
 have h1:(k.take 16).length=16:=by rw [List.length_take];omega
 have h2:(k.drop 16).length=16:=by rw [List.length_drop];omega
 have q1:Nat.beq ((k.take 16).map bC).length 16=true:=by rw [List.length_map,h1];rfl
 have q2:Nat.beq ((k.drop 16).map bC).length 16=true:=by rw [List.length_map,h2];rfl
 have b2:Nat.ble 16 (dropN 0 ((k.drop 16).map bC)).length=true:=by rw [Nat.ble_eq,dropN_eq,List.drop_zero,List.length_map,h2];exact Nat.le_refl _
 have b32:Nat.ble 32 (dropN 0 (k.map bC)).length=true:=by rw [Nat.ble_eq,dropN_eq,List.drop_zero,List.length_map,hk];exact Nat.le_refl _
 have hs:=set16 (k.drop 16) h2
 have b2':Nat.ble 16 (dropN 0 (setCells 0 ((k.drop 16).map bC) ((List.replicate 16 (0:UInt8)).map bC))).length=true:=by rw [hs];exact b2
 have e2:((dropN 0 (setCells 0 ((k.drop 16).map bC) ((List.replicate 16 (0:UInt8)).map bC))).take 16).map dem=(k.drop 16).map bC:=by rw [hs];exact agg16 _ h2
 (refine fnS (imm:=imm79) ttQ4_ok func79 ?_;(conv=>whnf))
 ((conv in (Nat.ble _ _)=>tactic=>exact b32);(conv=>whnf))
 refine cA (congrArg (fun z=>[PV.agg z]) (agg32 k hk)) (cP (c123 k hk) ?_)
 conv=>whnf
 ((conv in (_[_]?)=>tactic=>exact (gA H _ _));(conv=>whnf))
 (conv in (Nat.beq _ _)=>tactic=>exact q1)
 conv=>whnf
 (conv in (List.all _ _)=>tactic=>exact allOne (k.take 16))
 conv=>whnf
 ((conv in (_[_]?)=>tactic=>exact (gB H _ _ _));(conv=>whnf))
 (conv in (Nat.beq _ _)=>tactic=>exact q2)
 conv=>whnf
 (conv in (List.all _ _)=>tactic=>exact allOne (k.drop 16))
 conv=>whnf
 refine dO2 D79 [_] (by kernel_rfl) rfl trivial ?_
 conv=>whnf
 refine ⟨.agg ((k.drop 16).map bC),?_,?_⟩
 ·conv=>whnf
  ((conv in (_[_]?)=>tactic=>exact (gS (gB H _ _ _)));(conv=>whnf))
  ((conv in (Nat.ble _ _)=>tactic=>exact b2');(conv=>whnf))
  exact ⟨congrArg PV.agg e2,rfl,trivial⟩
 conv=>whnf
 iterate 4 (refine dS ?_;(conv=>whnf))
 apply Exists.intro
 apply And.intro
 ·conv=>whnf
  refine ⟨⟨by show (1+b.length)*1≤140737488355328;omega,by rw [List.length_map,Nat.mul_one],allOne b⟩,?_⟩
  conv=>whnf
  exact ⟨rfl,rfl,trivial⟩
 conv=>whnf
 have ea:PV.slice (1+b.length) ([PV.int .u8 (IntKind.u8.wrap u)]++b.map bC) none=sl (byteI u::b):=by
  rw [byteC_I,Nat.add_comm];rfl
 refine ⟨_,cA (congrArg (fun z=>[PV.agg ((k.drop 16).map bC),z]) ea) (cP (c126 (k.drop 16) h2 (byteI u::b) (by show b.length+1≤_;omega)) ⟨rfl,rfl,trivial⟩),?_⟩
 conv=>whnf
 refine ⟨_,cP (c77 _) ⟨rfl,rfl,trivial⟩,?_⟩
 conv=>whnf
 (refine dS ?_;(conv=>whnf))
 exact ⟨rfl,(((Ext.refl H).push _).push _).set (Nat.le_refl _) _ |>.set (by simp) _⟩
theorem c79 (k:List UInt8) (hk:k.length=32) (u:Int) (b:List UInt8) (hb:b.length≤900000):Pure prog 79 [.agg (k.map bC),.int .i64 u,sl b] (sl (tagV (k.drop 16) u b)) :=
 Pure.of_gc (by show oldPs _=true;exact oldPs_bytesY _) fun H=>c79x k hk u b hb H
def D78_7:Draw:={ cons:=[(11,[12]),(12,[46])],fs:=[(0,11,.slot 12)],looks:=[(0,12)] }
theorem xorL_take (p st:List UInt8) (i:Nat) (h:st.length=p.length) (hi:i<p.length):(xorL p st).take (i+1)=(xorL p st).take i++[p[i] ^^^ st[i]]:=by
 have hx:i<(xorL p st).length:=by rw [xorL_len p st h];exact hi
 rw [List.take_succ_eq_append_getElem hx]
 have:∀(a b:List UInt8) (h:i<(List.zipWith (· ^^^ ·) a b).length) (ha:i<a.length) (hb:i<b.length),(List.zipWith (· ^^^ ·) a b)[i]=a[i] ^^^ b[i]:=fun a b h ha hb=>by simp
 rw [show (xorL p st)[i]=p[i] ^^^ st[i] from this p st hx hi (by omega)]
theorem gC (H:PH) (a b c d:PObj):(((H++[a]++[b]).set H.length c).set (H++[a]).length d)[H.length]? = some c:=by
 rw [List.getElem?_set_ne (by simp),List.getElem?_set_self (by simp)]
theorem c78x (k:List UInt8) (hk:k.length=32) (u nn:Int) (p:List UInt8) (hp:p.length≤900000) (H:PH):CK prog 78 [.agg (k.map bC),.int .i64 u,.int .u64 nn,sl p] H fun r H'=>r=sl (xorL p (streamV (k.take 16) (mixN nn u) p.length))∧∃ext,H'=H++ext:=by
 have h1:(k.take 16).length=16:=by rw [List.length_take];omega
 have h2:(k.drop 16).length=16:=by rw [List.length_drop];omega
 have q1:Nat.beq ((k.take 16).map bC).length 16=true:=by rw [List.length_map,h1];rfl
 have q2:Nat.beq ((k.drop 16).map bC).length 16=true:=by rw [List.length_map,h2];rfl
 have b1:Nat.ble 16 (dropN 0 ((k.take 16).map bC)).length=true:=by rw [Nat.ble_eq,dropN_eq,List.drop_zero,List.length_map,h1];exact Nat.le_refl _
 have b32:Nat.ble 32 (dropN 0 (k.map bC)).length=true:=by rw [Nat.ble_eq,dropN_eq,List.drop_zero,List.length_map,hk];exact Nat.le_refl _
 have hs:=set16 (k.take 16) h1
 have b1':Nat.ble 16 (dropN 0 (setCells 0 ((k.take 16).map bC) ((List.replicate 16 (0:UInt8)).map bC))).length=true:=by rw [hs];exact b1
 have e1:((dropN 0 (setCells 0 ((k.take 16).map bC) ((List.replicate 16 (0:UInt8)).map bC))).take 16).map dem=(k.take 16).map bC:=by rw [hs];exact agg16 _ h1
 (refine fnS (imm:=imm78) ttQ4_ok func78 ?_;(conv=>whnf))
 ((conv in (Nat.ble _ _)=>tactic=>exact b32);(conv=>whnf))
 refine cA (congrArg (fun z=>[PV.agg z]) (agg32 k hk)) (cP (c123 k hk) ?_)
 conv=>whnf
 ((conv in (_[_]?)=>tactic=>exact (gA H _ _));(conv=>whnf))
 (conv in (Nat.beq _ _)=>tactic=>exact q1)
 conv=>whnf
 (conv in (List.all _ _)=>tactic=>exact allOne (k.take 16))
 conv=>whnf
 ((conv in (_[_]?)=>tactic=>exact (gB H _ _ _));(conv=>whnf))
 (conv in (Nat.beq _ _)=>tactic=>exact q2)
 conv=>whnf
 (conv in (List.all _ _)=>tactic=>exact allOne (k.drop 16))
 conv=>whnf
 ((conv in (_[_]?)=>tactic=>exact (gC H _ _ _ _));(conv=>whnf))
 ((conv in (Nat.ble _ _)=>tactic=>exact b1');(conv=>whnf))
 refine cA (congrArg (fun z=>[PV.agg z]) e1) (cP (c125 (k.take 16) h1) ?_)
 conv=>whnf
 refine cA rfl (cP (c124 (k.take 16) (mixN nn u) p.length (by omega)) ?_)
 conv=>whnf
 generalize hst:streamV (k.take 16) (mixN nn u) p.length=st
 have hl:st.length=p.length:=by rw [←hst,streamV_len]
 refine lO Nat (fun i=>[(3,sl p),(11,sl st),(12,ow ((xorL p st).take i)),(13,.int .i64 i)]) (fun _=>_) (fun i=>i≤p.length) (fun i=>p.length - i) ⟨0,Nat.zero_le _,⟨rfl,rfl,rfl,rfl,trivial⟩,rfl⟩ ?_
 intro i hi
 conv=>whnf
 refine ⟨fun h=>?_,fun h=>?_⟩
 ·have h:(i:Int)<p.length:=h
  have hip:i<p.length:=by omega
  have his:i<st.length:=by omega
  conv=>whnf
  refine dO2 D78_7 [_] (by kernel_rfl) rfl ⟨trivial,trivial⟩ ?_
  conv=>whnf
  apply Exists.intro
  apply And.intro
  ·conv=>whnf
   exact ⟨rfl,rfl,rfl,trivial⟩
  conv=>whnf
  iterate 2 (refine dS ?_;(conv=>whnf))
  refine ⟨.elem [bC p[i]],⟨⟨by show (0:Int)≤(i:Int);omega,h⟩,[bC p[i]],at1' (k:=(i:Int).toNat*1) (by rw [Int.toNat_natCast,Nat.mul_one,List.getElem?_map,List.getElem?_eq_getElem hip];rfl),rfl,rfl,trivial⟩,?_⟩
  conv=>whnf
  iterate 3 (refine dS ?_;(conv=>whnf))
  refine ⟨.elem [bC st[i]],⟨⟨by show (0:Int)≤(i:Int);omega,by show (i:Int)<(st.length:Int);omega⟩,[bC st[i]],at1' (k:=(i:Int).toNat*1) (by rw [Int.toNat_natCast,Nat.mul_one,List.getElem?_map,List.getElem?_eq_getElem his];rfl),rfl,rfl,trivial⟩,?_⟩
  conv=>whnf
  iterate 3 (refine dS ?_;(conv=>whnf))
  have hlt:((xorL p st).take i).length=i:=by rw [List.length_take,xorL_len p st hl];omega
  apply Exists.intro
  apply And.intro
  ·conv=>whnf
   refine ⟨⟨by show (((xorL p st).take i).length+1)*1≤140737488355328;omega,rfl,rfl⟩,?_⟩
   conv=>whnf
   exact ⟨rfl,rfl,trivial⟩
  conv=>whnf
  (refine dS ?_;(conv=>whnf))
  refine ⟨i+1,by omega,⟨rfl,rfl,?_,?_,trivial⟩,rfl,by omega⟩
  ·show PV.slice (((xorL p st).take i).length+1) (((xorL p st).take i).map bC++[.int .u8 (ibits .xor .u8 (p[i].toNat:Int) (st[i].toNat:Int))]) (some 5)=ow ((xorL p st).take (i+1))
   rw [xor8,xorL_take p st i hl hip,←ow_app]
   rfl
  ·show PV.int _ (IntKind.i64.wrap ((i:Int)+1))=PV.int _ _
   rw [w64 (by omega) (by omega)];simp
 ·have h:¬(i:Int)<p.length:=h
  have e:(xorL p st).take i=xorL p st:=List.take_of_length_le (by rw [xorL_len p st hl];omega)
  rw [e]
  conv=>whnf
  exact ⟨rfl,((((Ext.refl H).push _).push _).set (Nat.le_refl _) _).set (by simp) _⟩
theorem c78 (k:List UInt8) (hk:k.length=32) (u nn:Int) (p:List UInt8) (hp:p.length≤900000):Pure prog 78 [.agg (k.map bC),.int .i64 u,.int .u64 nn,sl p] (sl (xorL p (streamV (k.take 16) (mixN nn u) p.length))) :=
 Pure.of_gc (by show oldPs _=true;exact oldPs_bytesY _) fun H=>c78x k hk u nn p hp H
def D38:Draw:={ cons:=[(9,[32]),(10,[39])] }
theorem c38 (k:List UInt8) (hk:k.length=32) (u n:Int) (hu:isUseB u=true) (hn0:0≤n) (hn1:n≤1099511627776) (p:List UInt8) (hp:p.length≤784) :
  Pure prog 38 [.agg (k.map bC),.int .i64 u,.int .i64 n,sl p] (.tup [ow (sealV (k.drop 16) u (IntKind.u64.wrap n) p (streamV (k.take 16) (mixN (IntKind.u64.wrap n) u) p.length)),.int .i64 0]):=by
 intro H
 have hu':0≤u∧u≤255:=by
  unfold isUseB at hu
  rw [Bool.and_eq_true] at hu
  exact ⟨of_decide_eq_true hu.1,of_decide_eq_true hu.2⟩
 have b32:Nat.ble 32 (dropN 0 (k.map bC)).length=true:=by rw [Nat.ble_eq,dropN_eq,List.drop_zero,List.length_map,hk];exact Nat.le_refl _
 (refine fnS (imm:=imm38) ttQ4_ok func38 ?_;(conv=>whnf))
 refine ⟨fun h=>absurd h (by omega),fun _=>?_⟩
 conv=>whnf
 refine ⟨fun h=>absurd h (by omega),fun _=>?_⟩
 conv=>whnf
 refine ⟨fun h=>absurd h (by omega),fun _=>?_⟩
 conv=>whnf
 refine ⟨fun h=>absurd h (by omega),fun _=>?_⟩
 conv=>whnf
 refine ⟨fun h=>absurd (show (784:Int)<p.length from h) (by omega),fun _=>?_⟩
 conv=>whnf
 generalize hst:streamV (k.take 16) (mixN (IntKind.u64.wrap n) u) p.length=st
 have hl:st.length=p.length:=by rw [←hst,streamV_len]
 have hx:=xorL_len p st hl
 refine dO2 D38 [H] (by kernel_rfl) rfl trivial ?_
 conv=>whnf
 iterate 2 (refine dS ?_;(conv=>whnf))
 refine ⟨_,cP (c77 _) ⟨rfl,rfl,trivial⟩,?_⟩
 conv=>whnf
 refine ⟨.agg (k.map bC),?_,?_⟩
 ·conv=>whnf
  ((conv in (Nat.ble _ _)=>tactic=>exact b32);(conv=>whnf))
  exact ⟨congrArg PV.agg (agg32 k hk),rfl,trivial⟩
 conv=>whnf
 iterate 4 (refine dS ?_;(conv=>whnf))
 refine ⟨sl (xorL p st),cP ((c78 k hk u (IntKind.u64.wrap n) p (by omega)).of_eq (by rw [hst])) ⟨rfl,rfl,trivial⟩,?_⟩
 conv=>whnf
 apply Exists.intro
 apply And.intro
 ·conv=>whnf
  refine ⟨⟨by show ((8+(xorL p st).length)*1≤_);omega,by simp,allOne _⟩,?_⟩
  conv=>whnf
  exact ⟨rfl,rfl,trivial⟩
 conv=>whnf
 (refine dS ?_;(conv=>whnf))
 ((conv in (Nat.ble _ _)=>tactic=>exact b32);(conv=>whnf))
 have ha:(bigV (IntKind.u64.wrap n)++xorL p st).length≤900000:=by rw [List.length_append,bigV_len];omega
 refine cA (args':=[.agg (k.map bC),.int .i64 u,sl (bigV (IntKind.u64.wrap n)++xorL p st)]) ?_ (cP (c79 k hk u _ ha) ?_)
 ·have ek:((k.map bC).take 32).map dem=k.map bC:=agg32 k hk
  show [PV.agg (((k.map bC).take 32).map dem),PV.int .i64 u,PV.slice ((bigV (IntKind.u64.wrap n)).length+(xorL p st).length) ((bigV (IntKind.u64.wrap n)).map bC++(xorL p st).map bC) none]=_
  rw [ek]
  unfold sl
  rw [List.length_append,List.map_append]
 conv=>whnf
 refine ⟨⟨by show ((8+(xorL p st).length+8)*1≤_);omega,by simp,allOne _⟩,?_⟩
 conv=>whnf
 refine ⟨?_,rfl⟩
 show PV.tup [.slice ((bigV (IntKind.u64.wrap n)).length+(xorL p st).length+(tagV (k.drop 16) u (bigV (IntKind.u64.wrap n)++xorL p st)).length) (((bigV (IntKind.u64.wrap n)).map bC++(xorL p st).map bC)++(tagV (k.drop 16) u (bigV (IntKind.u64.wrap n)++xorL p st)).map bC) (some 5),.int .i64 0]=_
 rw [←List.length_append,←List.map_append,ow_app]
 rfl
theorem c141o (k:List UInt8) (hk:k.length=32) (u:Int) (hu:isUseB u=true) (b:List UInt8) (h16:16≤b.length) (h800:b.length≤800) (H:PH) :
  CK prog 141 [.agg (k.map bC),.int .i64 u,sl b] H fun x H'=>(match openB (k.drop 16) u b with
   | true=>x=.tup [sl (xorL ((b.take (b.length - 8)).drop 8) (streamV (k.take 16) (mixN (beN (b.take 8):Nat) u) (b.length - 16))),.int .i64 0]
   | false=>x=.tup [ow [],.int .i64 3])∧H'=H:=by
 have hu':0≤u∧u≤255:=by
  unfold isUseB at hu
  rw [Bool.and_eq_true] at hu
  exact ⟨of_decide_eq_true hu.1,of_decide_eq_true hu.2⟩
 have b32:Nat.ble 32 (dropN 0 (k.map bC)).length=true:=by rw [Nat.ble_eq,dropN_eq,List.drop_zero,List.length_map,hk];exact Nat.le_refl _
 have hw8:IntKind.i64.wrap ((b.length:Int) - 8)=((b.length - 8:Nat):Int):=by rw [w64 (by omega) (by omega)];omega
 have hfst:decide (16≤b.length)=true:=decide_eq_true h16
 have hsnd:decide (b.length≤800)=true:=decide_eq_true h800
 have hal:(b.take (b.length - 8)).length=b.length - 8:=by rw [List.length_take];omega
 have hpl:((b.take (b.length - 8)).drop 8).length=b.length - 16:=by rw [List.length_drop,hal];omega
 (refine fnS (imm:=imm141) ttQ4_ok func141 ?_;(conv=>whnf))
 refine ⟨fun h=>absurd h (by omega),fun _=>?_⟩
 conv=>whnf
 refine ⟨fun h=>absurd h (by omega),fun _=>?_⟩
 conv=>whnf
 refine ⟨fun h=>absurd (show (b.length:Int)<16 from h) (by omega),fun _=>?_⟩
 conv=>whnf
 refine ⟨fun h=>absurd (show (800:Int)<b.length from h) (by omega),fun _=>?_⟩
 conv=>whnf
 refine cP (c186 b (by omega)) ?_
 conv=>whnf
 refine dO2 {} [H] (by kernel_rfl) rfl trivial ?_
 conv=>whnf
 (refine dS ?_;(conv=>whnf))
 by_cases hn:beN (b.take 8)≤1099511627776
 ·refine ⟨.bool false,?_,?_⟩
  ·conv=>whnf
   exact ⟨fun h=>absurd (show (1099511627776:Int)<((beN (b.take 8):Nat):Int) from h) (by omega),fun _=>⟨rfl,rfl,trivial⟩⟩
  conv=>whnf
  (refine dS ?_;(conv=>whnf))
  refine ⟨.agg (k.map bC),?_,?_⟩
  ·conv=>whnf
   ((conv in (Nat.ble _ _)=>tactic=>exact b32);(conv=>whnf))
   exact ⟨congrArg PV.agg (agg32 k hk),rfl,trivial⟩
  conv=>whnf
  iterate 2 (refine dS ?_;(conv=>whnf))
  refine ⟨.int .i64 ((b.length - 8:Nat):Int),⟨congrArg (PV.int _) hw8,rfl,trivial⟩,?_⟩
  conv=>whnf
  refine ⟨sl ((b.take (b.length - 8)).drop 0),⟨⟨by omega,by omega,by omega⟩,sl_cut2 b 0 ((b.length - 8:Nat):Int) ⟨by omega,by omega,by omega⟩,rfl,trivial⟩,?_⟩
  conv=>whnf
  refine ⟨_,cP (c79 k hk u (b.take (b.length - 8)) (by omega)) ⟨rfl,rfl,trivial⟩,?_⟩
  conv=>whnf
  refine ⟨.str (tagV (k.drop 16) u (b.take (b.length - 8))),⟨tagV (k.drop 16) u (b.take (b.length - 8)),⟨rfl,rfl⟩,rfl,rfl,trivial⟩,?_⟩
  conv=>whnf
  (refine dS ?_;(conv=>whnf))
  refine ⟨.int .i64 ((b.length - 8:Nat):Int),⟨congrArg (PV.int _) hw8,rfl,trivial⟩,?_⟩
  conv=>whnf
  refine ⟨sl ((b.take b.length).drop (b.length - 8)),⟨⟨by omega,by omega,by omega⟩,sl_cut2 b ((b.length - 8:Nat):Int) (b.length:Int) ⟨by omega,by omega,by omega⟩,rfl,trivial⟩,?_⟩
  conv=>whnf
  refine ⟨.str ((b.take b.length).drop (b.length - 8)),⟨(b.take b.length).drop (b.length - 8),⟨rfl,rfl⟩,rfl,rfl,trivial⟩,?_⟩
  rw [List.take_length]
  conv=>whnf
  by_cases hq:tagV (k.drop 16) u (b.take (b.length - 8))=b.drop (b.length - 8)
  ·have hop:openB (k.drop 16) u b=true:=by unfold openB;rw [hfst,hsnd,decide_eq_true hn,decide_eq_true hq];rfl
   rw [hop]
   refine ⟨.bool false,?_,?_⟩
   ·conv=>whnf
    exact ⟨fun _=>⟨rfl,rfl,trivial⟩,fun h=>absurd hq h⟩
   conv=>whnf
   (refine dS ?_;(conv=>whnf))
   refine dO2 {} [H] (by kernel_rfl) rfl trivial ?_
   conv=>whnf
   refine ⟨.agg (k.map bC),?_,?_⟩
   ·conv=>whnf
    ((conv in (Nat.ble _ _)=>tactic=>exact b32);(conv=>whnf))
    exact ⟨congrArg PV.agg (agg32 k hk),rfl,trivial⟩
   conv=>whnf
   iterate 3 (refine dS ?_;(conv=>whnf))
   refine ⟨.int .i64 ((b.length - 8:Nat):Int),⟨congrArg (PV.int _) hw8,rfl,trivial⟩,?_⟩
   conv=>whnf
   refine ⟨sl ((b.take (b.length - 8)).drop 8),⟨⟨by omega,by omega,by omega⟩,sl_cut2 b 8 ((b.length - 8:Nat):Int) ⟨by omega,by omega,by omega⟩,rfl,trivial⟩,?_⟩
   conv=>whnf
   refine ⟨_,cP ((c78 k hk u (beN (b.take 8):Nat) ((b.take (b.length - 8)).drop 8) (by omega)).of_eq (by rw [hpl])) ⟨rfl,rfl,trivial⟩,?_⟩
   conv=>whnf
   iterate 2 (refine dS ?_;(conv=>whnf))
   exact ⟨rfl,rfl⟩
  ·have hop:openB (k.drop 16) u b=false:=by unfold openB;rw [decide_eq_false hq,Bool.and_false]
   rw [hop]
   refine ⟨.bool true,?_,?_⟩
   ·conv=>whnf
    exact ⟨fun h=>absurd h hq,fun _=>⟨rfl,rfl,trivial⟩⟩
   conv=>whnf
   (refine dS ?_;(conv=>whnf))
   exact ⟨rfl,rfl⟩
 ·have hop:openB (k.drop 16) u b=false:=by unfold openB;rw [decide_eq_false hn,Bool.and_false,Bool.false_and]
  rw [hop]
  refine ⟨.bool true,?_,?_⟩
  ·conv=>whnf
   exact ⟨fun _=>⟨rfl,rfl,trivial⟩,fun h=>absurd (show (1099511627776:Int)<((beN (b.take 8):Nat):Int) by omega) h⟩
  conv=>whnf
  iterate 14 (refine dS ?_;(conv=>whnf))
  exact ⟨rfl,rfl⟩
set_option maxHeartbeats 1000000
/-! How the heap goes on while boxes seal and open. -/
/-! What is sealed, and opened. -/
def sealK (key:List UInt8) (u n:Int) (p:List UInt8):List UInt8:=sealV (key.drop 16) u (IntKind.u64.wrap n) p (streamV (key.take 16) (mixN (IntKind.u64.wrap n) u) p.length)
def openK (key:List UInt8) (u:Int) (b:List UInt8):Option (List UInt8):=match openB (key.drop 16) u b with
 | true=>some (xorL ((b.take (b.length - 8)).drop 8) (streamV (key.take 16) (mixN (beN (b.take 8):Nat) u) (b.length - 16)))
 | false=>none
def openV (key:List UInt8) (u:Int) (b:List UInt8):PV:=match openK key u b with
 | some p=>.tup [sl p,.int .i64 0]
 | none=>.tup [sl [],.int .i64 3]
set_option maxHeartbeats 2000000
theorem c141k (key:List UInt8) (hk:key.length=32) (u:Int) (hu:isUseB u=true) (b:List UInt8) (h16:16≤b.length) (h800:b.length≤800):Pure prog 141 [.agg (key.map bC),.int .i64 u,sl b] (openV key u b):=by
 intro H
 unfold openV openK
 refine (c141o key hk u hu b h16 h800 H).demT fun x H' hh=>?_
 obtain ⟨h1,h2⟩:=hh
 cases e:openB (key.drop 16) u b
 ·rw [e] at h1
  exact ⟨_,h1,rfl,h2⟩
 ·rw [e] at h1
  exact ⟨_,h1,rfl,h2⟩
/-! Sealing, reckoned quickly. -/
noncomputable def rF (x:Int) (s t:Nat):Int:=cBits .or .u32 (cShl .u32 x (.ofNat s)) (cShr .u32 x (.ofNat t))
theorem rF3 (x:Int):rot32 x 3=rF x 3 29:=by
 unfold rF rot32
 rw [cBits_eq,cShl_eq,cShr_eq,show rot32S 3=3 by decide];rfl
theorem rF8 (x:Int):rot32 x (-8)=rF x 24 8:=by
 unfold rF rot32
 rw [cBits_eq,cShl_eq,cShr_eq,show rot32S (-8)=24 by decide];rfl
noncomputable def turnF {α:Type} (w x y:Int) (K:Int→Int→α):α:=fI (cBits .xor .u32 (cW .u32 (rF x 24 8+y)) w) fun x'=>fI (cBits .xor .u32 (rF y 3 29) x') fun y'=>K x' y'
theorem turnF_eq {α:Type} (w x y:Int) (K:Int→Int→α):turnF w x y K=K (spR w (x,y)).1 (spR w (x,y)).2:=by
 unfold turnF spR xor32 add32
 rw [fI_eq,fI_eq,cBits_eq,cBits_eq,cW_eq,←rF8,←rF3]
noncomputable def blkF {α:Type}:List Int→Int→Int→(Int→Int→α)→α
 | [],x,y,K=>K x y
 | w::ws,x,y,K=>turnF w x y fun x y=>blkF ws x y K
theorem blkF_eq {α:Type}:∀(ws:List Int) (x y:Int) (K:Int→Int→α),blkF ws x y K=K (spB ws (x,y)).1 (spB ws (x,y)).2
 | [],x,y,K=>rfl
 | w::ws,x,y,K=>by
  unfold blkF
  rw [turnF_eq,blkF_eq ws]
  rfl
noncomputable def spF {α:Type} (a b c d:Int):Nat→Nat→(List Int→α)→α
 | _,0,K=>K []
 | i,m+1,K=>fI (cBits .xor .u32 (cW .u32 (a+rF b 24 8)) (cW .u32 (.ofNat i))) fun n=>fI (cBits .xor .u32 (rF a 3 29) n) fun a'=>spF a' c d n (Nat.succ i) m fun l=>K (a::l)
theorem spF_eq {α:Type} (k:List UInt8):∀(m i:Nat) (K:List Int→α),spF (spN k i).a (spN k i).b (spN k i).c (spN k i).d i m K=K ((List.range m).map fun j=>(spN k (i+j)).a)
 | 0,i,K=>rfl
 | m+1,i,K=>by
  unfold spF
  rw [fI_eq,fI_eq,cBits_eq,cBits_eq,cW_eq,cW_eq,←rF8,←rF3]
  have e:spN k (i+1)=⟨xor32 (rot32 (spN k i).a 3) (xor32 (add32 (spN k i).a (rot32 (spN k i).b (-8))) (IntKind.u32.wrap (i:Int))),(spN k i).c,(spN k i).d,xor32 (add32 (spN k i).a (rot32 (spN k i).b (-8))) (IntKind.u32.wrap (i:Int))⟩:=by rw [spN]
  have ih:=spF_eq k m (i+1) (fun l=>K ((spN k i).a::l))
  rw [e] at ih
  refine Eq.trans ih ?_
  congr 1
  rw [List.range_succ_eq_map,List.map_cons,List.map_map]
  congr 1
  refine List.map_congr_left fun j _=>?_
  show _=(spN k (i+(j+1))).a
  rw [show i+(j+1)=i+1+j by omega]
noncomputable def orF (x:Int) (c:UInt8) (s:Nat):Int:=cBits .or .u32 x (cShl .u32 (cW .u32 (.ofNat c.toNat)) (.ofNat s))
theorem orF_eq (x:Int) (c:UInt8) (s:Nat):orB x c (s:Int)=orF x c s:=by
 unfold orF orB
 rw [cBits_eq,cShl_eq,cW_eq];rfl
noncomputable def w4F (a b c d:UInt8):Int:=orF (orF (orF (orF 0 a 0) b 8) c 16) d 24
noncomputable def wordsF {α:Type} (k:List UInt8) (K:List Int→α):α:=match k with
 | [k0,k1,k2,k3,k4,k5,k6,k7,k8,k9,ka,kb,kc,kd,ke,kf]=>fI (w4F k0 k1 k2 k3) fun a=>fI (w4F k4 k5 k6 k7) fun b=>fI (w4F k8 k9 ka kb) fun c=>fI (w4F kc kd ke kf) fun d=>spF a b c d 0 27 K
 | k=>K (spW k)
theorem wordsF_eq {α:Type} (k:List UInt8) (K:List Int→α):wordsF k K=K (spW k):=by
 unfold wordsF
 split
 ·rename_i k0 k1 k2 k3 k4 k5 k6 k7 k8 k9 ka kb kc kd ke kf
  rw [fI_eq,fI_eq,fI_eq,fI_eq]
  generalize hk:[k0,k1,k2,k3,k4,k5,k6,k7,k8,k9,ka,kb,kc,kd,ke,kf]=k
  have h0:spN k 0=⟨w4F k0 k1 k2 k3,w4F k4 k5 k6 k7,w4F k8 k9 ka kb,w4F kc kd ke kf⟩:=by
   rw [spN]
   subst hk
   unfold w4F
   simp only [←orF_eq]
   rfl
  have:=spF_eq k 27 0 K
  rw [h0] at this
  refine this.trans ?_
  unfold spW
  congr 1 <;> (refine List.map_congr_left fun j _=>?_;rw [Nat.zero_add])
 ·rfl
noncomputable def byF {α:Type} (x:Int) (s:Nat) (K:UInt8→α):α:=match x with
 | .ofNat n=>fN (Nat.mod (Nat.div n (Nat.pow 2 s)) 256) fun m=>K (UInt8.ofNat m)
 | x=>K (byteI (Int.fdiv x (2 ^ s)))
theorem byteI_nat (n:Nat):byteI (.ofNat n)=UInt8.ofNat (n % 256):=by
 unfold byteI
 congr 1
theorem byF_eq {α:Type} (x:Int) (s:Nat) (K:UInt8→α):byF x s K=K (byteI (Int.fdiv x (2 ^ s))):=by
 cases x with
 | ofNat n =>
  unfold byF
  simp only []
  rw [fN_eq]
  have:Int.fdiv (Int.ofNat n) (2 ^ s)=Int.ofNat (n / 2 ^ s):=by
   have h:(2:Int) ^ s=((2 ^ s:Nat):Int):=by rw [Int.natCast_pow];rfl
   rw [h]
   exact (Int.ofNat_fdiv n (2 ^ s)).symm
  rw [this,byteI_nat]
  rfl
 | negSucc n=>rfl
theorem shr_fdiv (k:IntKind) (x:Int) (s:Nat) (h:s≤k.bits):ishr k x (s:Int)=Int.fdiv x (2 ^ s):=by
 unfold ishr
 rw [Int.toNat_natCast,Nat.min_eq_left h]
noncomputable def le4F {α:Type} (w:Int) (l:List UInt8) (K:List UInt8→α):α:=byF w 24 fun d=>byF w 16 fun c=>byF w 8 fun b=>byF w 0 fun a=>K (a::b::c::d::l)
theorem byteI_0 (w:Int):byteI (Int.fdiv w (2 ^ 0))=byteI w:=by
 rw [show ((2:Int) ^ 0)=1 from rfl,Int.fdiv_one]
theorem le4F_eq {α:Type} (w:Int) (l:List UInt8) (K:List UInt8→α):le4F w l K=K (le4 w++l):=by
 unfold le4F
 rw [byF_eq,byF_eq,byF_eq,byF_eq,byteI_0]
 have e (s:Nat) (h:s≤32):=shr_fdiv .u32 w s h
 have e8:=e 8 (by decide)
 have e16:=e 16 (by decide)
 have e24:=e 24 (by decide)
 rw [←e8,←e16,←e24]
 rfl
noncomputable def blksF {α:Type} (ws:List Int) (hi lo:Int):Nat→Nat→(List UInt8→α)→α
 | _,0,K=>K []
 | i,m+1,K=>fI (cW .u32 (lo+.ofNat i)) fun y=>blkF ws hi y fun x y=>blksF ws hi lo (Nat.succ i) m fun l=>le4F y l fun l=>le4F x l K
def blks (k:List UInt8) (nn:Int):Nat→Nat→List UInt8
 | _,0=>[]
 | i,m+1=>(le4 (blkP k nn i).1++le4 (blkP k nn i).2)++blks k nn (i+1) m
theorem blks_str (k:List UInt8) (nn:Int):∀(m i:Nat),strN k nn i++blks k nn i m=strN k nn (i+m)
 | 0,i=>by simp [blks]
 | m+1,i=>by
  unfold blks
  rw [←List.append_assoc,show strN k nn i++(le4 (blkP k nn i).1++le4 (blkP k nn i).2)=strN k nn (i+1) from rfl,blks_str k nn m (i+1),show i+1+m=i+(m+1) by omega]
theorem blksF_eq {α:Type} (k:List UInt8) (nn:Int):∀(m i:Nat) (K:List UInt8→α),blksF (spW k) (IntKind.u32.wrap (ishr .u64 nn 32)) (IntKind.u32.wrap nn) i m K=K (blks k nn i m)
 | 0,i,K=>rfl
 | m+1,i,K=>by
  unfold blksF blks
  rw [fI_eq,blkF_eq,blksF_eq k nn m,le4F_eq,le4F_eq,cW_eq]
  rw [List.append_assoc]
  rfl
noncomputable def streamF {α:Type} (k:List UInt8) (nn:Int) (n:Nat) (K:List UInt8→α):α:=wordsF k fun ws=>fI (cW .u32 (cShr .u64 nn 32)) fun hi=>fI (cW .u32 nn) fun lo=>blksF ws hi lo 0 (Nat.div (Nat.add n 7) 8) fun l=>fL (l.take n) K
theorem streamF_eq {α:Type} (k:List UInt8) (nn:Int) (n:Nat) (K:List UInt8→α):streamF k nn n K=K (streamV k nn n):=by
 unfold streamF
 rw [wordsF_eq,fI_eq,fI_eq,cW_eq,cW_eq,cShr_eq,blksF_eq,fL_eq]
 congr 1
 have:=blks_str k nn ((n+7) / 8) 0
 rw [Nat.zero_add] at this
 show (blks k nn 0 ((n+7) / 8)).take n=_
 unfold streamV
 rw [←this];rfl
noncomputable def rG (x:Int) (s t:Nat):Int:=cBits .or .u64 (cShl .u64 x (.ofNat s)) (cShr .u64 x (.ofNat t))
theorem rG13 (x:Int):rotC x 13=rG x 13 51:=by
 unfold rG rotC
 rw [cBits_eq,cShl_eq,cShr_eq,show rotS 13=13 by decide];rfl
theorem rG32 (x:Int):rotC x 32=rG x 32 32:=by
 unfold rG rotC
 rw [cBits_eq,cShl_eq,cShr_eq,show rotS 32=32 by decide];rfl
theorem rG16 (x:Int):rotC x 16=rG x 16 48:=by
 unfold rG rotC
 rw [cBits_eq,cShl_eq,cShr_eq,show rotS 16=16 by decide];rfl
theorem rG21 (x:Int):rotC x 21=rG x 21 43:=by
 unfold rG rotC
 rw [cBits_eq,cShl_eq,cShr_eq,show rotS 21=21 by decide];rfl
theorem rG17 (x:Int):rotC x 17=rG x 17 47:=by
 unfold rG rotC
 rw [cBits_eq,cShl_eq,cShr_eq,show rotS 17=17 by decide];rfl
noncomputable def xF (x y:Int):Int:=cBits .xor .u64 x y
theorem xF_eq (x y:Int):xorW x y=xF x y:=by unfold xF xorW;rw [cBits_eq]
noncomputable def aF (x y:Int):Int:=cW .u64 (x+y)
theorem aF_eq (x y:Int):addW x y=aF x y:=by unfold aF addW;rw [cW_eq]
noncomputable def rndF {α:Type} (a b c d:Int) (K:Int→Int→Int→Int→α):α:=fI (aF a b) fun a=>fI (xF (rG b 13 51) a) fun b=>fI (rG a 32 32) fun a=>fI (aF c d) fun c=>fI (xF (rG d 16 48) c) fun d =>
 fI (aF a d) fun a=>fI (xF (rG d 21 43) a) fun d=>fI (aF c b) fun c=>fI (xF (rG b 17 47) c) fun b=>fI (rG c 32 32) fun c=>K a b c d
theorem rndF_eq {α:Type} (s:S4) (K:Int→Int→Int→Int→α):rndF s.a s.b s.c s.d K=K s.rnd.a s.rnd.b s.rnd.c s.rnd.d:=by
 unfold rndF
 simp only [fI_eq,←rG13,←rG32,←rG16,←rG21,←rG17,←xF_eq,←aF_eq]
 rfl
noncomputable def takF {α:Type} (a b c d m:Int) (K:Int→Int→Int→Int→α):α:=fI (xF d m) fun d=>rndF a b c d fun a b c d=>rndF a b c d fun a b c d=>fI (xF a m) fun a=>K a b c d
theorem takF_eq {α:Type} (s:S4) (m:Int) (K:Int→Int→Int→Int→α):takF s.a s.b s.c s.d m K=K (s.takes m).a (s.takes m).b (s.takes m).c (s.takes m).d:=by
 unfold takF
 rw [fI_eq,←xF_eq]
 have h1:=rndF_eq { s with d:=xorW s.d m } (fun a b c d=>rndF a b c d fun a b c d=>fI (xF a m) fun a=>K a b c d)
 refine Eq.trans h1 ?_
 have h2:=rndF_eq (S4.rnd { s with d:=xorW s.d m }) (fun a b c d=>fI (xF a m) fun a=>K a b c d)
 refine Eq.trans h2 ?_
 rw [fI_eq,←xF_eq]
 rfl
noncomputable def finF {α:Type} (a b c d:Int) (K:Int→α):α:=fI (xF c 255) fun c=>rndF a b c d fun a b c d=>rndF a b c d fun a b c d=>rndF a b c d fun a b c d=>rndF a b c d fun a b c d=>fI (xF (xF (xF a b) c) d) K
theorem finF_eq {α:Type} (s:S4) (K:Int→α):finF s.a s.b s.c s.d K=K s.fin.out:=by
 unfold finF
 rw [fI_eq,←xF_eq]
 refine Eq.trans (rndF_eq { s with c:=xorW s.c 255 } _) ?_
 refine Eq.trans (rndF_eq (S4.rnd { s with c:=xorW s.c 255 }) _) ?_
 refine Eq.trans (rndF_eq (S4.rnd (S4.rnd { s with c:=xorW s.c 255 })) _) ?_
 refine Eq.trans (rndF_eq (S4.rnd (S4.rnd (S4.rnd { s with c:=xorW s.c 255 }))) _) ?_
 rw [fI_eq,←xF_eq,←xF_eq,←xF_eq]
 rfl
noncomputable def sipL {α:Type} (a b c d:Int) (p:List UInt8):Nat→(Int→Int→Int→Int→List UInt8→α)→α
 | 0,K=>K a b c d p
 | m+1,K=>fN (leN (p.take 8)) fun w=>takF a b c d (.ofNat w) fun a b c d=>fL (p.drop 8) fun p=>sipL a b c d p m K
theorem sipL_eq {α:Type} (s:S4) (p:List UInt8):∀(m i:Nat) (K:Int→Int→Int→Int→List UInt8→α),sipL (sipN s p i).a (sipN s p i).b (sipN s p i).c (sipN s p i).d (p.drop (8*i)) m K=K (sipN s p (i+m)).a (sipN s p (i+m)).b (sipN s p (i+m)).c (sipN s p (i+m)).d (p.drop (8*(i+m)))
 | 0,i,K=>rfl
 | m+1,i,K=>by
  unfold sipL
  rw [fN_eq]
  refine Eq.trans (takF_eq (sipN s p i) _ _) ?_
  rw [fL_eq]
  have h:=sipL_eq s p m (i+1) K
  rw [show i+1+m=i+(m+1) by omega] at h
  refine Eq.trans ?_ h
  rw [List.drop_drop,show 8*i+8=8*(i+1) by omega]
  rfl
noncomputable def sipF {α:Type} (k p:List UInt8) (K:Int→α):α:=fN (leN (k.take 8)) fun x=>fN (leN (k.drop 8)) fun y=>fI (xF 8317987319222330741 (.ofNat x)) fun a=>fI (xF 7237128888997146477 (.ofNat y)) fun b=>fI (xF 7816392313619706465 (.ofNat x)) fun c=>fI (xF 8387220255154660723 (.ofNat y)) fun d =>
 fN p.length fun n=>sipL a b c d p (Nat.div n 8) fun a b c d r=>takF a b c d (cBits .or .u64 (cShl .u64 (cW .u64 (cW .u8 (.ofNat n))) 56) (.ofNat (leN r))) fun a b c d=>finF a b c d K
theorem sipF_eq {α:Type} (k p:List UInt8) (K:Int→α):sipF k p K=K (sipV k p):=by
 unfold sipF
 rw [fN_eq,fN_eq,fI_eq,fI_eq,fI_eq,fI_eq,fN_eq,←xF_eq,←xF_eq,←xF_eq,←xF_eq]
 refine Eq.trans (sipL_eq (sipI k) p (p.length / 8) 0 _) ?_
 rw [Nat.zero_add,cBits_eq,cShl_eq,cW_eq,cW_eq]
 refine Eq.trans (takF_eq (sipN (sipI k) p (p.length / 8)) _ _) ?_
 refine Eq.trans (finF_eq _ _) ?_
 rfl
noncomputable def bigF {α:Type} (n:Int) (K:List UInt8→α):α:=byF n 56 fun a=>byF n 48 fun b=>byF n 40 fun c=>byF n 32 fun d=>byF n 24 fun e=>byF n 16 fun f=>byF n 8 fun g=>byF n 0 fun h=>K [a,b,c,d,e,f,g,h]
theorem bigF_eq {α:Type} (n:Int) (K:List UInt8→α):bigF n K=K (bigV n):=by
 unfold bigF
 have e (s:Nat) (h:s≤64):=shr_fdiv .u64 n s h
 rw [byF_eq,byF_eq,byF_eq,byF_eq,byF_eq,byF_eq,byF_eq,byF_eq,←e 56 (by decide),←e 48 (by decide),←e 40 (by decide),←e 32 (by decide),←e 24 (by decide),←e 16 (by decide),←e 8 (by decide),←e 0 (by decide)]
 rfl
noncomputable def xorF {α:Type}:List UInt8→List UInt8→(List UInt8→α)→α
 | a::p,b::q,K=>fN (Nat.xor a.toNat b.toNat) fun m=>xorF p q fun l=>K (UInt8.ofNat m::l)
 | _,_,K=>K []
theorem xorF_eq {α:Type}:∀(p q:List UInt8) (K:List UInt8→α),xorF p q K=K (xorL p q)
 | [],[],K=>rfl
 | [],_::_,K=>rfl
 | _::_,[],K=>rfl
 | a::p,b::q,K=>by
  unfold xorF
  rw [fN_eq,xorF_eq p q]
  have:UInt8.ofNat (Nat.xor a.toNat b.toNat)=a ^^^ b:=by
   apply UInt8.toNat_inj.1
   rw [UInt8.toNat_xor,UInt8.toNat_ofNat']
   have h1:=a.toNat_lt
   have h2:=b.toNat_lt
   exact Nat.mod_eq_of_lt (Nat.xor_lt_two_pow (n:=8) h1 h2)
  rw [this]
  rfl
noncomputable def tagF {α:Type} (sp:List UInt8) (u:Int) (ahead:List UInt8) (K:List UInt8→α):α:=sipF sp (byteI u::ahead) fun n=>bigF n K
theorem tagF_eq {α:Type} (sp:List UInt8) (u:Int) (ahead:List UInt8) (K:List UInt8→α):tagF sp u ahead K=K (tagV sp u ahead):=by
 unfold tagF
 rw [sipF_eq,bigF_eq];rfl
noncomputable def mixF {α:Type} (nn u:Int) (K:Int→α):α:=fI (cW .u64 (cShl .u64 nn 8+cW .u64 u)) K
theorem mixF_eq {α:Type} (nn u:Int) (K:Int→α):mixF nn u K=K (mixN nn u):=by
 unfold mixF
 rw [fI_eq,cW_eq,cW_eq,cShl_eq];rfl
noncomputable def sealF {α:Type} (key:List UInt8) (u n:Int) (p:List UInt8) (K:List UInt8→α):α:=fL (key.take 16) fun k1=>fL (key.drop 16) fun k2=>fI (cW .u64 n) fun nn=>mixF nn u fun mx=>fN p.length fun len=>streamF k1 mx len fun st=>bigF nn fun hd=>xorF p st fun x=>fL (hd++x) fun ah=>tagF k2 u ah fun tg=>fL (ah++tg) K
theorem sealF_eq {α:Type} (key:List UInt8) (u n:Int) (p:List UInt8) (K:List UInt8→α):sealF key u n p K=K (sealK key u n p):=by
 unfold sealF
 rw [fL_eq,fL_eq,fI_eq,mixF_eq,fN_eq,streamF_eq,bigF_eq,xorF_eq,fL_eq,tagF_eq,fL_eq,cW_eq]
 rfl
noncomputable def openF {α:Type} (key:List UInt8) (u:Int) (b:List UInt8) (K:Option (List UInt8)→α):α:=fN b.length fun len=>match Nat.ble 16 len with
 | true=>match Nat.ble len 800 with
  | true=>fL (b.take 8) fun hd=>fN (beN hd) fun nn=>match Nat.ble nn 1099511627776 with
   | true=>fL (b.take (Nat.sub len 8)) fun ah=>fL (key.drop 16) fun k2=>tagF k2 u ah fun tg=>match sEqb tg (b.drop (Nat.sub len 8)) with
    | true=>fL (key.take 16) fun k1=>mixF (.ofNat nn) u fun mx=>streamF k1 mx (Nat.sub len 16) fun st=>fL (ah.drop 8) fun c=>xorF c st fun p=>K (some p)
    | false=>K none
   | false=>K none
  | false=>K none
 | false=>K none
theorem openF_eq {α:Type} (key:List UInt8) (u:Int) (b:List UInt8) (K:Option (List UInt8)→α):openF key u b K=K (openK key u b):=by
 unfold openF openK openB
 rw [fN_eq]
 split
 ·rename_i h1
  rw [decide_eq_true (Nat.le_of_ble_eq_true h1)]
  split
  ·rename_i h2
   rw [decide_eq_true (Nat.le_of_ble_eq_true h2),fL_eq,fN_eq]
   split
   ·rename_i h3
    rw [decide_eq_true (Nat.le_of_ble_eq_true h3),fL_eq,fL_eq,tagF_eq]
    have e8:Nat.sub b.length 8=b.length - 8:=rfl
    simp only [e8]
    split
    ·rename_i h4
     rw [decide_eq_true ((sEqb_iff _ _).1 h4),fL_eq,mixF_eq,streamF_eq,fL_eq,xorF_eq]
     rfl
    ·rename_i h4
     rw [decide_eq_false (fun e=>by rw [(sEqb_iff _ _).2 e] at h4;cases h4)]
     rfl
   ·rename_i h3
    rw [decide_eq_false (fun e=>by rw [Nat.ble_eq_true_of_le e] at h3;cases h3)]
    simp
  ·rename_i h2
   rw [decide_eq_false (fun e=>by rw [Nat.ble_eq_true_of_le e] at h2;cases h2)]
   simp
 ·rename_i h1
  rw [decide_eq_false (fun e=>by rw [Nat.ble_eq_true_of_le e] at h1;cases h1)]
  simp
set_option maxHeartbeats 1000000
def Made (k:List UInt8) (o:PObj):Prop:=∃v,o=keyO k 1 0 0 (spW k) 1 v
theorem Made.st {k:List UInt8} {o:PObj} (h:Made k o):KeySt k o:=.inr h
theorem c218m (hw:WordsOk) (k:List UInt8) (hk:k.length=16) (kid:Nat) (nn:Int) (n:Nat) (hn:n≤1000000) (h0:0<n) (so:PObj) (hso:KeySt k so) (H:PH) (hid:H[kid]? = some so) :
  CK prog 218 [.ptr (some (kid,0)),.int .u64 nn,.int .i64 n] H fun r H'=>r=sl (streamV k nn n)∧∃o',Made k o'∧H'=H.set kid o':=by
 have hlt:kid<H.length:=(List.getElem?_eq_some_iff.1 hid).1
 (refine fnS (imm:=imm218) ttS_ok func218 ?_;(conv=>whnf))
 refine ⟨fun h=>absurd h (by omega),fun _=>?_⟩
 conv=>whnf
 have hw8:IntKind.i64.wrap ((n:Int)+8)=(n:Int)+8:=w64 (by omega) (by omega)
 refine ⟨⟨by decide,by rw [hw8];omega,by rw [hw8];show ((n:Int)+8)*((1:Nat):Int)≤_;omega⟩,?_⟩
 conv=>whnf
 refine lO StS (fun x=>[(0,.ptr (some (kid,0))),(1,.int .u64 nn),(2,.int .i64 n),(7,ow (strN k nn x.i)),(8,.int .u32 x.i)]) (fun x=>H.set kid x.o) (fun x=>x.i≤(n+7) / 8∧KeySt k x.o∧(0<x.i→Made k x.o)) (fun x=>(n+7) / 8 - x.i) ⟨⟨0,so⟩,⟨Nat.zero_le _,hso,fun h=>absurd h (Nat.lt_irrefl 0)⟩,⟨rfl,rfl,rfl,rfl,rfl,trivial⟩,(set_self hid).symm⟩ ?_
 rintro ⟨i,o⟩ ⟨hi,ho,hm⟩
 replace hi:i≤(n+7) / 8:=hi
 replace ho:KeySt k o:=ho
 replace hm:0<i→Made k o:=hm
 have hsl:=strN_len k nn i
 conv=>whnf
 refine ⟨fun h=>?_,fun h=>?_⟩
 ·have h:((strN k nn i).length:Int)<n:=h
  rw [hsl] at h
  conv=>whnf
  refine ⟨by decide,?_⟩
  conv=>whnf
  have hst:(∃v,(H.set kid o)[kid]? = some (keyO k 0 0 0 (List.replicate 27 0) 0 v))∨(∃v,(H.set kid o)[kid]? = some (keyO k 1 0 0 (spW k) 1 v)):=by
   rw [List.getElem?_set_self hlt]
   rcases ho with ⟨v,rfl⟩ | ⟨v,rfl⟩
   ·exact .inl ⟨v,rfl⟩
   ·exact .inr ⟨v,rfl⟩
  refine cO (Q:=fun r H'=>r=.tup [.int .u32 (blkP k nn i).1,.int .u32 (blkP k nn i).2]∧∃v',H'=H.set kid (keyO k 1 0 0 (spW k) 1 v')) ((c242 hw k hk kid (H.set kid o) hst _ _).mono fun r H' hh=>?_) ?_
  ·obtain ⟨h1,v',h2⟩:=hh
   exact ⟨h1,v',by rw [h2,List.set_set]⟩
  rintro _ _ ⟨rfl,v',rfl⟩
  conv=>whnf
  generalize hx:(blkP k nn i).1=x
  generalize hy:(blkP k nn i).2=y
  refine lO Nat (fun j=>[(0,.ptr (some (kid,0))),(1,.int .u64 nn),(2,.int .i64 n),(7,ow (strN k nn i++(le4 x++le4 y).take (4*j))),(8,.int .u32 i),(42,.slice 2 [.int .u32 x,.int .u32 y] (some 230)),(43,.int .i64 2),(44,.int .i64 j)]) (fun _=>H.set kid (keyO k 1 0 0 (spW k) 1 v')) (fun j=>j≤2) (fun j=>2 - j) ⟨0,Nat.zero_le _,⟨rfl,rfl,rfl,?_,rfl,rfl,rfl,rfl,trivial⟩,rfl⟩ ?_
  ·show ow (strN k nn i)=ow (strN k nn i++[])
   rw [List.append_nil]
  intro j hj
  have happ:∀(a b:List UInt8),b.length=4→a.length≤2000000→(a.length+4)*1≤140737488355328∧(b.map bC).length=4*1∧(b.map bC).all oneP=true:=fun a b hb ha=>⟨by omega,by simp [hb],allOne b⟩
  match j,hj with
  | 0,_ =>
   conv=>whnf
   refine ⟨fun _=>?_,fun h=>absurd (show ((0:Nat):Int)<2 by decide) h⟩
   conv=>whnf
   refine ⟨⟨by decide,by decide⟩,[.int .u32 x],at1' (k:=0) rfl,?_⟩
   conv=>whnf
   refine ⟨by decide,?_⟩
   conv=>whnf
   refine ⟨by decide,?_⟩
   conv=>whnf
   refine ⟨by decide,?_⟩
   conv=>whnf
   refine ⟨⟨by show ((strN k nn i++(le4 x++le4 y).take (4*0)).length+4)*1≤_;rw [List.length_append,hsl];simp;omega,rfl,rfl⟩,?_⟩
   conv=>whnf
   refine ⟨1,by decide,⟨rfl,rfl,rfl,?_,rfl,rfl,rfl,rfl,trivial⟩,rfl,by decide⟩
   show PV.slice ((strN k nn i++(le4 x++le4 y).take (4*0)).length+4) ((strN k nn i++(le4 x++le4 y).take (4*0)).map bC++[PV.int .u8 (IntKind.u8.wrap x),.int .u8 (IntKind.u8.wrap (ishr .u32 x 8)),.int .u8 (IntKind.u8.wrap (ishr .u32 x 16)),.int .u8 (IntKind.u8.wrap (ishr .u32 x 24))]) (some 5)=ow (strN k nn i++(le4 x++le4 y).take (4*1))
   rw [le4_cells,ow_app' _ (le4 x) (n:=4) rfl,List.append_assoc]
   rfl
  | 1,_ =>
   conv=>whnf
   refine ⟨fun _=>?_,fun h=>absurd (show ((1:Nat):Int)<2 by decide) h⟩
   conv=>whnf
   refine ⟨⟨by decide,by decide⟩,[.int .u32 y],at1' (k:=1) rfl,?_⟩
   conv=>whnf
   refine ⟨by decide,?_⟩
   conv=>whnf
   refine ⟨by decide,?_⟩
   conv=>whnf
   refine ⟨by decide,?_⟩
   conv=>whnf
   refine ⟨⟨by show ((strN k nn i++(le4 x++le4 y).take (4*1)).length+4)*1≤_;rw [List.length_append,hsl];simp;omega,rfl,rfl⟩,?_⟩
   conv=>whnf
   refine ⟨2,by decide,⟨rfl,rfl,rfl,?_,rfl,rfl,rfl,rfl,trivial⟩,rfl,by decide⟩
   show PV.slice ((strN k nn i++(le4 x++le4 y).take (4*1)).length+4) ((strN k nn i++(le4 x++le4 y).take (4*1)).map bC++[PV.int .u8 (IntKind.u8.wrap y),.int .u8 (IntKind.u8.wrap (ishr .u32 y 8)),.int .u8 (IntKind.u8.wrap (ishr .u32 y 16)),.int .u8 (IntKind.u8.wrap (ishr .u32 y 24))]) (some 5)=ow (strN k nn i++(le4 x++le4 y).take (4*2))
   rw [le4_cells,ow_app' _ (le4 y) (n:=4) rfl,List.append_assoc]
   rfl
  | 2,_ =>
   conv=>whnf
   refine ⟨fun h=>absurd h (by decide),fun _=>?_⟩
   conv=>whnf
   refine ⟨⟨i+1,keyO k 1 0 0 (spW k) 1 v'⟩,⟨by show i+1≤(n+7) / 8;omega,.inr ⟨v',rfl⟩,fun _=>⟨v',rfl⟩⟩,⟨rfl,rfl,rfl,?_,?_,trivial⟩,rfl,by show (n+7) / 8 - (i+1)<(n+7) / 8 - i;omega⟩
   ·subst hx hy
    rfl
   ·show PV.int _ (IntKind.u32.wrap ((i:Int)+1))=PV.int _ ((i+1:Nat):Int)
    rw [←wrap32 (n:=i+1) (by omega)];rfl
 ·have h:¬((strN k nn i).length:Int)<n:=h
  rw [hsl] at h
  have e:i=(n+7) / 8:=by omega
  conv=>whnf
  refine ⟨⟨by decide,by omega,by show (n:Int)≤((strN k nn i).length:Int);omega⟩,?_⟩
  conv=>whnf
  refine ⟨?_,o,hm (by omega),rfl⟩
  refine (sl_cut2 (strN k nn i) 0 n ⟨by omega,by omega,by omega⟩).trans ?_
  rw [Int.toNat_natCast,e]
  rfl
end Go.Proofs.Tryz
/- CEval, part 11: what is known of calls. -/
namespace Ps
open Go
noncomputable section
abbrev EX:=List PV→CH→CC
structure ExOk (P:Program) (f:Nat) (e:EX):Prop where
 ok:∀args h r h',e args h=.ok r h'→∀H,RH H h→CK P f args H fun r' H'=>r'=r∧RH H' h'
 pure:∀args h r,e args h=.pure r→∀H,RH H h→CK P f args H fun r' H'=>r'=r∧H'=H
def extOf (t:Tr EX) (call:Nat→List PV→CH→CC) (f:Nat) (args:List PV) (h:CH):CC:=match t.get f with
 | some e=>e args h
 | none=>.err 0
def ExAll (P:Program):List (Nat×EX)→Prop
 | []=>True
 | (f,e)::r=>ExOk P f e∧ExAll P r
theorem ExAll_mem {P:Program}:∀{l:List (Nat×EX)},ExAll P l→∀{f:Nat} {e:EX},(f,e)∈l→ExOk P f e
 | [],_,_,_,h=>by cases h
 | (f,e)::r,ha,f',e',h=>by
  rcases List.mem_cons.1 h with h | h
  ·cases h;exact ha.1
  ·exact ExAll_mem ha.2 h
theorem extOf_ok {P:Program} {t:Tr EX} (h:ExAll P (t.toL fun j=>j)) (call:Nat→List PV→CH→CC) (hc:CallS P call):CallS P (extOf t call):=by
 refine ⟨fun f args hh r h' hr H rh=>?_,fun f args hh r hr H rh=>?_⟩
 ·unfold extOf at hr
  split at hr
  ·rename_i e he
   exact (ExAll_mem h (Tr.mem_toL t (fun j=>j) f e he)).ok _ _ _ _ hr H rh
  ·cases hr
 ·unfold extOf at hr
  split at hr
  ·rename_i e he
   exact (ExAll_mem h (Tr.mem_toL t (fun j=>j) f e he)).pure _ _ _ hr H rh
  ·cases hr
def pureE (g:List PV→CV):EX:=fun args h=>match g args with
 | .ok v=>.pure v
 | .err n=>.err n
theorem pureE_ok {P:Program} {f:Nat} {g:List PV→CV} (h:∀args v,g args=.ok v→Pure P f args v):ExOk P f (pureE g):=by
 refine ⟨fun args hh r h' hr=>?_,fun args hh r hr H rh=>?_⟩
 ·unfold pureE at hr
  split at hr <;> cases hr
 ·unfold pureE at hr
  split at hr
  ·rename_i v hv
   cases hr
   exact h _ _ hv H
  ·cases hr
def numAdd (k:IntKind):EX:=fun args h=>match args with
 | [.ptr (some (id,off)),.int k' m]=>match kindEq k k' with
  | true=>match h.get id with
   | some o=>match nth o.cs off with
    | some (.int k'' n)=>match kindEq k k'' with
     | true=>fI (cW k (n+m)) fun x=>fL (setCells off [.int k x] o.cs) fun cs=>fN (Nat.succ o.ver) fun w=>.ok (.int k x) (h.set id ⟨o.T,cs,w⟩)
     | false=>.err 951
    | _=>.err 952
   | none=>.err 953
  | false=>.err 951
 | _=>.err 954
theorem numAdd_ok {P:Program} {k:IntKind} {f:Nat} (hf:∀{H:PH} {id off:Nat} {o:PObj} {n:Int} (m:Int),H[id]? = some o→o.cs[off]? = some (.int k n) →
  CK P f [.ptr (some (id,off)),.int k m] H fun r H'=>r=.int k (k.wrap (n+m))∧H'=H.set id ⟨o.T,setCells off [.int k (k.wrap (n+m))] o.cs,o.ver+1⟩):ExOk P f (numAdd k):=by
 refine ⟨fun args hh r h' hr H rh=>?_,fun args hh r hr=>?_⟩
 ·unfold numAdd at hr
  split at hr
  ·rename_i id off k' m
   split at hr
   ·rename_i h1
    have h1:=kindEq_eq h1
    subst h1
    split at hr
    ·rename_i o ho
     split at hr
     ·rename_i k'' n hn
      split at hr
      ·rename_i h2
       have h2:=kindEq_eq h2
       subst h2
       rw [fI_eq,fL_eq,fN_eq,cW_eq] at hr
       cases hr
       rw [nth_eq] at hn
       have ho:=rh.look ho
       refine (hf m ho hn).mono fun r' H' hh=>⟨hh.1,?_⟩
       rw [hh.2]
       exact rh.set ho
      ·cases hr
     ·cases hr
    ·cases hr
   ·cases hr
  ·cases hr
 ·unfold numAdd at hr
  split at hr
  ·split at hr
   ·split at hr
    ·split at hr
     ·split at hr
      ·rw [fI_eq,fL_eq,fN_eq] at hr;cases hr
      ·cases hr
     ·cases hr
    ·cases hr
   ·cases hr
  ·cases hr
def numLoad (k:IntKind):EX:=fun args h=>match args with
 | [.ptr (some (id,off))]=>match h.get id with
  | some o=>match nth o.cs off with
   | some (.int k' n)=>match kindEq k k' with
    | true=>.pure (.int k n)
    | false=>.err 955
   | _=>.err 956
  | none=>.err 957
 | _=>.err 958
theorem numLoad_ok {P:Program} {k:IntKind} {f:Nat} (hf:∀{H:PH} {id off:Nat} {o:PObj} {n:Int},H[id]? = some o→o.cs[off]? = some (.int k n) →
  CK P f [.ptr (some (id,off))] H fun r H'=>r=.int k n∧H'=H):ExOk P f (numLoad k):=by
 refine ⟨fun args hh r h' hr=>?_,fun args hh r hr H rh=>?_⟩
 ·unfold numLoad at hr
  split at hr
  ·split at hr
   ·split at hr
    ·split at hr <;> cases hr
    ·cases hr
   ·cases hr
  ·cases hr
 ·unfold numLoad at hr
  split at hr
  ·split at hr
   ·rename_i o ho
    split at hr
    ·rename_i k' n hn
     split at hr
     ·rename_i h1
      have h1:=kindEq_eq h1
      subst h1
      cases hr
      rw [nth_eq] at hn
      exact hf (rh.look ho) hn
     ·cases hr
    ·cases hr
   ·cases hr
  ·cases hr
end
end Ps
namespace Go.Proofs.Tryz
open Go Ps
/-! What the Acceptor's seat knows ahead. -/
noncomputable def countG (args:List PV):CV:=match args with
 | [.str s,.int .u8 (.ofNat m)]=>match Nat.blt m 256 with
  | true=>vI .i64 (Lib.countByte s (UInt8.ofNat m))
  | false=>.err 960
 | _=>.err 960
theorem byteC_nat {m:Nat} (h:Nat.blt m 256=true):PV.int .u8 (.ofNat m)=bC (UInt8.ofNat m):=by
 rw [Nat.blt_eq] at h
 have:(UInt8.ofNat m).toNat=m:=by simp [UInt8.toNat_ofNat'];omega
 rw [bC,this];rfl
theorem ex263:ExOk prog 263 (pureE countG):=pureE_ok fun args v hv=>by
 unfold countG at hv
 split at hv
 ·split at hv
  ·rename_i h1
   rw [vI_eq] at hv;cases hv
   rw [byteC_nat h1];exact c263 _ _
  ·cases hv
 ·cases hv
noncomputable def indexG (args:List PV):CV:=match args with
 | [.str s,.int .u8 (.ofNat m)]=>match Nat.blt m 256 with
  | true=>vI .i64 (Lib.indexByte s (UInt8.ofNat m))
  | false=>.err 961
 | _=>.err 961
theorem ex280:ExOk prog 280 (pureE indexG):=pureE_ok fun args v hv=>by
 unfold indexG at hv
 split at hv
 ·split at hv
  ·rename_i h1
   rw [vI_eq] at hv;cases hv
   rw [byteC_nat h1];exact c280 _ _
  ·cases hv
 ·cases hv
noncomputable def slF (b:List UInt8):CV:=byL b fun cs=>fN b.length fun n=>.ok (.slice n cs none)
theorem slF_eq (b:List UInt8):slF b=.ok (sl b):=by unfold slF;rw [byL_eq,fN_eq];rfl
noncomputable def sealG (args:List PV):CV:=match args with
 | [.agg kc,.int .i64 (.ofNat u),.int .i64 (.ofNat n),.slice m cs none]=>toBy (.err 962) kc fun k=>toBy (.err 963) cs fun p=>match Nat.beq k.length 32 with
  | true=>match Nat.ble u 255 with
   | true=>match Nat.ble n 1099511627776 with
    | true=>match Nat.ble p.length 784 with
     | true=>match Nat.beq m p.length with
      | true=>sealF k (.ofNat u) (.ofNat n) p fun b=>byL b fun cs=>fN b.length fun l=>.ok (.tup [.slice l cs (some T5),.int .i64 0])
      | false=>.err 964
     | false=>.err 964
    | false=>.err 964
   | false=>.err 964
  | false=>.err 964
 | _=>.err 965
where T5:Nat:=match ow [] with | .slice _ _ (some t)=>t | _=>0
theorem ex38:ExOk prog 38 (pureE sealG):=pureE_ok fun args v hv=>by
 unfold sealG at hv
 split at hv
 ·rename_i kc u n m cs
  obtain ⟨k,e1,hv1⟩:=toBy_ok hv (by simp)
  clear hv
  obtain ⟨p,e2,hv⟩:=toBy_ok hv1 (by simp)
  clear hv1
  subst e1 e2
  split at hv
  ·rename_i h1
   split at hv
   ·rename_i h2
    split at hv
    ·rename_i h3
     split at hv
     ·rename_i h4
      split at hv
      ·rename_i h5
       rw [sealF_eq,byL_eq,fN_eq] at hv
       cases hv
       have h5:=Nat.eq_of_beq_eq_true h5
       subst h5
       have h2:=Nat.le_of_ble_eq_true h2
       have h3:=Nat.le_of_ble_eq_true h3
       exact c38 k (Nat.eq_of_beq_eq_true h1) (.ofNat u) (.ofNat n) (by unfold isUseB;simp;exact Int.ofNat_le.2 h2) (Int.natCast_nonneg n) (Int.ofNat_le.2 h3) p (Nat.le_of_ble_eq_true h4)
      ·cases hv
     ·cases hv
    ·cases hv
   ·cases hv
  ·cases hv
 ·cases hv
noncomputable def openG (args:List PV):CV:=match args with
 | [.agg kc,.int .i64 (.ofNat u),.slice m cs none]=>toBy (.err 966) kc fun k=>toBy (.err 967) cs fun b=>match Nat.beq k.length 32 with
  | true=>match Nat.ble u 255 with
   | true=>match Nat.ble 16 b.length with
    | true=>match Nat.ble b.length 800 with
     | true=>match Nat.beq m b.length with
      | true=>openF k (.ofNat u) b fun o=>match o with
       | some p=>byL p fun cs=>fN p.length fun l=>.ok (.tup [.slice l cs none,.int .i64 0])
       | none=>.ok (.tup [.slice 0 [] none,.int .i64 3])
      | false=>.err 968
     | false=>.err 968
    | false=>.err 968
   | false=>.err 968
  | false=>.err 968
 | _=>.err 969
theorem ex141:ExOk prog 141 (pureE openG):=pureE_ok fun args v hv=>by
 unfold openG at hv
 split at hv
 ·rename_i kc u m cs
  obtain ⟨k,e1,hv1⟩:=toBy_ok hv (by simp)
  clear hv
  obtain ⟨b,e2,hv⟩:=toBy_ok hv1 (by simp)
  clear hv1
  subst e1 e2
  split at hv
  ·rename_i h1
   split at hv
   ·rename_i h2
    split at hv
    ·rename_i h3
     split at hv
     ·rename_i h4
      split at hv
      ·rename_i h5
       rw [openF_eq] at hv
       have h5:=Nat.eq_of_beq_eq_true h5
       subst h5
       have h2:=Nat.le_of_ble_eq_true h2
       have key:=c141k k (Nat.eq_of_beq_eq_true h1) (.ofNat u) (by unfold isUseB;simp;exact Int.ofNat_le.2 h2) b (Nat.le_of_ble_eq_true h3) (Nat.le_of_ble_eq_true h4)
       unfold openV at key
       split at hv
       ·rename_i p hp
        rw [hp] at key
        rw [byL_eq,fN_eq] at hv
        cases hv
        exact key
       ·rename_i hp
        rw [hp] at key
        cases hv
        exact key
      ·cases hv
     ·cases hv
    ·cases hv
   ·cases hv
  ·cases hv
 ·cases hv
noncomputable def cloneG (args:List PV):CV:=match args with
 | [.slice m cs none]=>toBy (.err 970) cs fun b=>match Nat.ble b.length 140737488355328 with
  | true=>match Nat.beq m b.length with
   | true=>.ok (.slice m cs (some sealG.T5))
   | false=>.err 971
  | false=>.err 971
 | _=>.err 972
theorem ex217:ExOk prog 217 (pureE cloneG):=pureE_ok fun args v hv=>by
 unfold cloneG at hv
 split at hv
 ·rename_i m cs
  obtain ⟨b,e1,hv1⟩:=toBy_ok hv (by simp)
  clear hv
  subst e1
  have hv:=hv1
  split at hv
  ·rename_i h1
   split at hv
   ·rename_i h2
    have h2:=Nat.eq_of_beq_eq_true h2
    subst h2
    cases hv
    exact clone140 b (Nat.le_of_ble_eq_true h1)
   ·cases hv
  ·cases hv
 ·cases hv
theorem ex85:ExOk prog 85 (numAdd .i64):=numAdd_ok fun m ho hc=>callOk_add func85 (by kernel_rfl) (by kernel_rfl) (by kernel_rfl) .i64 (by kernel_rfl) m ho hc
theorem ex90:ExOk prog 90 (numLoad .i64):=numLoad_ok fun ho hc=>callOk_load func90 (by kernel_rfl) (by kernel_rfl) (by kernel_rfl) .i64 (by kernel_rfl) ho hc
def ttKeyT:Nat:=(keyO [] 0 0 0 [] 0 0).T
noncomputable def streamE:EX:=fun args h=>match args with
 | [.ptr (some (kid,0)),.int .u64 (.ofNat nn),.int .i64 (.ofNat n)]=>match h.get kid with
  | some o=>toBy (.err 981) (o.cs.take 16) fun k=>match Nat.beq k.length 16 with
   | true=>match Nat.ble n 1000000 with
    | true=>match Nat.ble 1 n with
     | true=>match Nat.beq o.T ttKeyT with
      | true=>wordsF k fun ws=>match pvsEq o.cs (keyO k 0 0 0 (List.replicate 27 0) 0 0).cs||pvsEq o.cs (keyO k 1 0 0 ws 1 0).cs with
       | true=>streamF k (.ofNat nn) n fun st=>byL st fun cs=>fL (keyO k 1 0 0 ws 1 0).cs fun kc=>fN (Nat.succ o.ver) fun w=>.ok (.slice n cs none) (h.set kid ⟨ttKeyT,kc,w⟩)
       | false=>.err 982
      | false=>.err 983
     | false=>.err 984
    | false=>.err 984
   | false=>.err 985
  | none=>.err 986
 | _=>.err 987
theorem keyO_ver (k:List UInt8) (d m s:Int) (l:List Int) (md:Int) (v:Nat):keyO k d m s l md v=⟨ttKeyT,(keyO k d m s l md 0).cs,v⟩:=rfl
theorem ex218:ExOk prog 218 streamE:=by
 refine ⟨fun args hh r h' hr H rh=>?_,fun args hh r hr=>?_⟩
 ·unfold streamE at hr
  split at hr
  ·rename_i kid nn n
   split at hr
   ·rename_i o ho
    have ho:=rh.look ho
    obtain ⟨k,e1,hr1⟩:=toBy_ok hr (by simp)
    clear hr
    have hr:=hr1
    split at hr
    ·rename_i h1
     have h1:=Nat.eq_of_beq_eq_true h1
     split at hr
     ·rename_i h2
      split at hr
      ·rename_i h3
       split at hr
       ·rename_i h4
        have h4:=Nat.eq_of_beq_eq_true h4
        rw [wordsF_eq] at hr
        split at hr
        ·rename_i h5
         rw [streamF_eq,byL_eq,fL_eq,fN_eq] at hr
         cases hr
         have hst:KeySt k o:=by
          rw [Bool.or_eq_true] at h5
          obtain ⟨T,cs,v⟩:=o
          simp only at h4
          subst h4
          rcases h5 with h5 | h5
          ·have:=pvsEq_eq _ _ h5
           simp only at this
           exact .inl ⟨v,by rw [keyO_ver,this]⟩
          ·have:=pvsEq_eq _ _ h5
           simp only at this
           exact .inr ⟨v,by rw [keyO_ver,this]⟩
         have hlt:kid<H.length:=(List.getElem?_eq_some_iff.1 ho).1
         have hc:=c218m wordsOk k h1 kid (.ofNat nn) n (Nat.le_of_ble_eq_true h2) (Nat.le_of_ble_eq_true h3) o hst H ho
         refine (CK.ver (kid:=kid) hc (R:=fun r' H'=>r'=.slice n ((streamV k (.ofNat nn) n).map bC) none∧RH H' (hh.set kid ⟨ttKeyT,(keyO k 1 0 0 (spW k) 1 0).cs,Nat.succ o.ver⟩)) fun r' H' hq=>?_)
         obtain ⟨rfl,o',⟨v,rfl⟩,rfl⟩:=hq
         refine ⟨_,o.ver+1,List.getElem?_set_self hlt,fun o2 h2=>by rw [ho] at h2;cases h2;exact Nat.lt_succ_self _,?_,?_⟩
         ·unfold sl
          rw [streamV_len]
         ·rw [List.set_set]
          exact rh.set ho
        ·cases hr
       ·cases hr
      ·cases hr
     ·cases hr
    ·cases hr
   ·cases hr
  ·cases hr
 ·unfold streamE at hr
  split at hr
  ·split at hr
   ·obtain ⟨k,e1,hr1⟩:=toBy_ok hr (by simp)
    clear hr
    have hr:=hr1
    split at hr
    ·split at hr
     ·split at hr
      ·split at hr
       ·rw [wordsF_eq] at hr
        split at hr
        ·rw [streamF_eq,byL_eq,fL_eq,fN_eq] at hr
         cases hr
        ·cases hr
       ·cases hr
      ·cases hr
     ·cases hr
    ·cases hr
   ·cases hr
  ·cases hr
noncomputable def rowsF {α:Type} (z:α):List PV→(List (List UInt8)→α)→α
 | [],K=>K []
 | .slice n cs none::r,K=>toBy z cs fun b=>match Nat.beq n b.length with
  | true=>rowsF z r fun l=>K (b::l)
  | false=>z
 | _,_=>z
theorem rowsF_ok {α:Type} {z:α}:∀{cs:List PV} {K:List (List UInt8)→α} {r:α},rowsF z cs K=r→r≠z→∃l,cs=l.map sl∧K l=r
 | [],K,r,h,hz=>⟨[],rfl,h⟩
 | c::rest,K,r,h,hz=>by
  unfold rowsF at h
  split at h
  ·rename_i heq;cases heq
  ·rename_i n cs r' K' heq
   cases heq
   obtain ⟨b,e1,h1⟩:=toBy_ok h hz
   split at h1
   ·rename_i hn
    obtain ⟨l,e2,h2⟩:=rowsF_ok h1 hz
    refine ⟨b::l,?_,h2⟩
    rw [e2,e1,Nat.eq_of_beq_eq_true hn];rfl
   ·exact absurd h1.symm hz
  ·exact absurd h.symm hz
noncomputable def sumG (args:List PV):CV:=match args with
 | [.agg kc,.slice m rs none]=>toBy (.err 991) kc fun k=>rowsF (.err 992) rs fun l=>match Nat.beq k.length 16 with
  | true=>match Nat.beq m l.length with
   | true=>match Nat.ble l.length 1099511627776 with
    | true=>match Nat.ble l.flatten.length 1099511627776 with
     | true=>sipF k l.flatten fun x=>.ok (.int .u64 x)
     | false=>.err 993
    | false=>.err 993
   | false=>.err 993
  | false=>.err 993
 | _=>.err 994
theorem ex216:ExOk prog 216 (pureE sumG):=pureE_ok fun args v hv=>by
 unfold sumG at hv
 split at hv
 ·rename_i kc m rs
  obtain ⟨k,e1,hv1⟩:=toBy_ok hv (by simp)
  clear hv
  obtain ⟨l,e2,hv⟩:=rowsF_ok hv1 (by simp)
  clear hv1
  subst e1 e2
  split at hv
  ·rename_i h1
   split at hv
   ·rename_i h2
    split at hv
    ·rename_i h3
     split at hv
     ·rename_i h4
      rw [sipF_eq] at hv
      cases hv
      have h2:=Nat.eq_of_beq_eq_true h2
      subst h2
      exact fun H=>c216 k (Nat.eq_of_beq_eq_true h1) l (Nat.le_of_ble_eq_true h3) (Nat.le_of_ble_eq_true h4) (Reps.sl H l)
     ·cases hv
    ·cases hv
   ·cases hv
  ·cases hv
 ·cases hv
noncomputable def exA:Tr EX:=((((((((Tr.nil.set (pureE countG) 263).set (pureE indexG) 280).set (pureE sealG) 38).set (pureE openG) 141).set (pureE cloneG) 217).set (numAdd .i64) 85).set (numLoad .i64) 90).set streamE 218).set (pureE sumG) 216
def ttCl:TT:=[(9,⟨.str,1,16,[.str []]⟩),(36,⟨.slice 9,1,24,[.slice 0 [] (some 9)]⟩),(53,⟨.slice 130,1,24,[.slice 0 [] (some 130)]⟩),(54,⟨.slice 193,1,24,[.slice 0 [] (some 193)]⟩),(130,⟨.arr 2 9,2,32,[.str [],.str []]⟩),(193,⟨.strct [(9,0),(9,1),(36,2)],3,56,[.str [],.str [],.slice 0 [] (some 9)]⟩)]
theorem ttCl_ok:ttOk prog ttCl=true:=by kernel_rfl
def imm118:List Nat:=[]
def imm119:List Nat:=[]
def imm120:List Nat:=[]
theorem cl118 (n:Nat) (cs:List PV) (e sz by_:Nat) (he:e=9) (hz:sz=1) (hy:by_=16) (hl:cs.length=n*sz) (h1:cs.all oneP=true) (hb:(0+n)*by_≤140737488355328):Pure prog 118 [.slice n cs none] (.slice n cs (some e)):=by
 subst he hz hy
 intro H
 (refine fnS (imm:=imm118) ttCl_ok func118 ?_;(conv=>whnf))
 refine ⟨fun h=>?_,fun h=>⟨?_,?_⟩⟩
 ·conv=>whnf
  refine ⟨⟨hb,hl,h1⟩,?_⟩
  conv=>whnf
  exact ⟨by rw [Nat.zero_add];rfl,rfl⟩
 ·conv=>whnf
  subst h
  have e:cs=[]:=List.length_eq_zero_iff.1 (by simpa using hl)
  subst e
  exact ⟨rfl,rfl⟩
 ·conv=>whnf
  refine ⟨⟨hb,hl,h1⟩,?_⟩
  conv=>whnf
  exact ⟨by rw [Nat.zero_add];rfl,rfl⟩
theorem cl119 (n:Nat) (cs:List PV) (e sz by_:Nat) (he:e=130) (hz:sz=2) (hy:by_=32) (hl:cs.length=n*sz) (h1:cs.all oneP=true) (hb:(0+n)*by_≤140737488355328):Pure prog 119 [.slice n cs none] (.slice n cs (some e)):=by
 subst he hz hy
 intro H
 (refine fnS (imm:=imm119) ttCl_ok func119 ?_;(conv=>whnf))
 refine ⟨fun h=>?_,fun h=>⟨?_,?_⟩⟩
 ·conv=>whnf
  refine ⟨⟨hb,hl,h1⟩,?_⟩
  conv=>whnf
  exact ⟨by rw [Nat.zero_add];rfl,rfl⟩
 ·conv=>whnf
  subst h
  have e:cs=[]:=List.length_eq_zero_iff.1 (by simpa using hl)
  subst e
  exact ⟨rfl,rfl⟩
 ·conv=>whnf
  refine ⟨⟨hb,hl,h1⟩,?_⟩
  conv=>whnf
  exact ⟨by rw [Nat.zero_add];rfl,rfl⟩
theorem cl120 (n:Nat) (cs:List PV) (e sz by_:Nat) (he:e=193) (hz:sz=3) (hy:by_=56) (hl:cs.length=n*sz) (h1:cs.all oneP=true) (hb:(0+n)*by_≤140737488355328):Pure prog 120 [.slice n cs none] (.slice n cs (some e)):=by
 subst he hz hy
 intro H
 (refine fnS (imm:=imm120) ttCl_ok func120 ?_;(conv=>whnf))
 refine ⟨fun h=>?_,fun h=>⟨?_,?_⟩⟩
 ·conv=>whnf
  refine ⟨⟨hb,hl,h1⟩,?_⟩
  conv=>whnf
  exact ⟨by rw [Nat.zero_add];rfl,rfl⟩
 ·conv=>whnf
  subst h
  have e:cs=[]:=List.length_eq_zero_iff.1 (by simpa using hl)
  subst e
  exact ⟨rfl,rfl⟩
 ·conv=>whnf
  refine ⟨⟨hb,hl,h1⟩,?_⟩
  conv=>whnf
  exact ⟨by rw [Nat.zero_add];rfl,rfl⟩
noncomputable def clE (e sz by_:Nat) (args:List PV):CV:=match args with
 | [.slice n cs none]=>match Nat.beq cs.length (Nat.mul n sz) with
  | true=>match cs.all oneP with
   | true=>match Nat.ble (Nat.mul (Nat.add 0 n) by_) 140737488355328 with
    | true=>.ok (.slice n cs (some e))
    | false=>.err 995
   | false=>.err 995
  | false=>.err 995
 | _=>.err 996
theorem clE_ok {f e sz by_:Nat} (h:∀n cs,cs.length=n*sz→cs.all oneP=true→(0+n)*by_≤140737488355328→Pure prog f [.slice n cs none] (.slice n cs (some e))):ExOk prog f (pureE (clE e sz by_)):=pureE_ok fun args v hv=>by
 unfold clE at hv
 split at hv
 ·split at hv
  ·rename_i h1
   split at hv
   ·rename_i h2
    split at hv
    ·rename_i h3
     cases hv
     exact h _ _ (Nat.eq_of_beq_eq_true h1) h2 (Nat.le_of_ble_eq_true h3)
    ·cases hv
   ·cases hv
  ·cases hv
 ·cases hv
theorem ex118:ExOk prog 118 (pureE (clE 9 1 16)):=clE_ok fun n cs a b c=>cl118 n cs _ _ _ rfl rfl rfl a b c
theorem ex119:ExOk prog 119 (pureE (clE 130 2 32)):=clE_ok fun n cs a b c=>cl119 n cs _ _ _ rfl rfl rfl a b c
theorem ex120:ExOk prog 120 (pureE (clE 193 3 56)):=clE_ok fun n cs a b c=>cl120 n cs _ _ _ rfl rfl rfl a b c
noncomputable def exA2:Tr EX:=((exA.set (pureE (clE 9 1 16)) 118).set (pureE (clE 130 2 32)) 119).set (pureE (clE 193 3 56)) 120
noncomputable def catG (args:List PV):CV:=match args with
 | [.slice m rs none]=>rowsF (.err 997) rs fun l=>match Nat.beq m l.length with
  | true=>match Nat.ble l.length 1099511627776 with
   | true=>match Nat.ble l.flatten.length 1099511627776 with
    | true=>slF l.flatten
    | false=>.err 998
   | false=>.err 998
  | false=>.err 998
 | _=>.err 999
theorem ex236:ExOk prog 236 (pureE catG):=pureE_ok fun args v hv=>by
 unfold catG at hv
 split at hv
 ·rename_i m rs
  obtain ⟨l,e2,hv1⟩:=rowsF_ok hv (by simp)
  clear hv
  have hv:=hv1
  subst e2
  split at hv
  ·rename_i h2
   split at hv
   ·rename_i h3
    split at hv
    ·rename_i h4
     rw [slF_eq] at hv
     cases hv
     have h2:=Nat.eq_of_beq_eq_true h2
     subst h2
     exact fun H=>c236 l (Nat.le_of_ble_eq_true h3) (Nat.le_of_ble_eq_true h4) (Reps.sl H l)
    ·cases hv
   ·cases hv
  ·cases hv
 ·cases hv
noncomputable def exA3:Tr EX:=exA2.set (pureE catG) 236
def ttBoxT:Nat:=(boxS 0 [] 0 0 0 0).T
noncomputable def mixE:EX:=fun args h=>match args with
 | [.ptr (some (bid,0)),.int .i64 (.ofNat u),.int .u64 (.ofNat nn),.slice m cs none]=>toBy (.err 1001) cs fun p=>match Nat.beq m p.length with
  | true=>match Nat.ble p.length 1000000 with
   | true=>match Nat.ble 1 p.length with
    | true=>match h.get bid with
     | some ob=>match Nat.beq ob.T ttBoxT with
      | true=>match ob.cs with
       | .ptr (some (sid,0))::rest=>toBy (.err 1002) (rest.take 16) fun sp=>match Nat.beq sp.length 16 with
        | true=>match rest.drop 16 with
         | [.int .i64 _,.int .i64 _,.int .i64 _]=>match h.get sid with
          | some o=>toBy (.err 1003) (o.cs.take 16) fun k=>match Nat.beq k.length 16 with
           | true=>match Nat.beq o.T ttKeyT with
            | true=>wordsF k fun ws=>match pvsEq o.cs (keyO k 0 0 0 (List.replicate 27 0) 0 0).cs||pvsEq o.cs (keyO k 1 0 0 ws 1 0).cs with
             | true=>mixF (.ofNat nn) (.ofNat u) fun mx=>streamF k mx p.length fun st=>xorF p st fun x=>byL x fun cs=>fN x.length fun n=>fL (keyO k 1 0 0 ws 1 0).cs fun kc=>fN (Nat.succ o.ver) fun w=>.ok (.slice n cs none) (h.set sid ⟨ttKeyT,kc,w⟩)
             | false=>.err 1004
            | false=>.err 1005
           | false=>.err 1006
          | none=>.err 1007
         | _=>.err 1008
        | false=>.err 1009
       | _=>.err 1010
      | false=>.err 1011
     | none=>.err 1012
    | false=>.err 1013
   | false=>.err 1013
  | false=>.err 1014
 | _=>.err 1015
theorem keySt_of {k:List UInt8} {o:PObj} (h4:o.T=ttKeyT) (h5:(pvsEq o.cs (keyO k 0 0 0 (List.replicate 27 0) 0 0).cs||pvsEq o.cs (keyO k 1 0 0 (spW k) 1 0).cs)=true):KeySt k o:=by
 rw [Bool.or_eq_true] at h5
 obtain ⟨T,cs,v⟩:=o
 simp only at h4
 subst h4
 rcases h5 with h5 | h5
 ·have:=pvsEq_eq _ _ h5
  simp only at this
  exact .inl ⟨v,by rw [keyO_ver,this]⟩
 ·have:=pvsEq_eq _ _ h5
  simp only at this
  exact .inr ⟨v,by rw [keyO_ver,this]⟩
theorem mixE_inv {args:List PV} {h:CH} {c:CC} (hr:mixE args h=c) (hn:∀n,c≠.err n):∃bid u nn p ob sid sp s o r so k,args=[.ptr (some (bid,0)),.int .i64 (.ofNat u),.int .u64 (.ofNat nn),sl p]∧p.length≤1000000∧1≤p.length∧h.get bid=some ob∧ob=boxS sid sp s o r ob.ver∧sp.length=16 ∧
  h.get sid=some so∧k.length=16∧KeySt k so∧c=.ok (sl (xorL p (streamV k (mixN (.ofNat nn) (.ofNat u)) p.length))) (h.set sid ⟨ttKeyT,(keyO k 1 0 0 (spW k) 1 0).cs,Nat.succ so.ver⟩):=by
 unfold mixE at hr
 split at hr
 ·rename_i bid u nn m cs
  obtain ⟨p,e1,hr1⟩:=toBy_ok hr (fun e=>hn _ e)
  clear hr
  subst e1
  split at hr1
  ·rename_i h1
   have h1:=Nat.eq_of_beq_eq_true h1
   subst h1
   split at hr1
   ·rename_i h2
    split at hr1
    ·rename_i h3
     split at hr1
     ·rename_i ob hob
      split at hr1
      ·rename_i h4
       split at hr1
       ·rename_i sid rest hrest
        obtain ⟨sp,e2,hr2⟩:=toBy_ok hr1 (fun e=>hn _ e)
        clear hr1
        split at hr2
        ·rename_i h5
         split at hr2
         ·rename_i s o r hd
          split at hr2
          ·rename_i so hso
           obtain ⟨k,e3,hr3⟩:=toBy_ok hr2 (fun e=>hn _ e)
           clear hr2
           split at hr3
           ·rename_i h6
            split at hr3
            ·rename_i h7
             rw [wordsF_eq] at hr3
             split at hr3
             ·rename_i h8
              rw [mixF_eq,streamF_eq,xorF_eq,byL_eq,fN_eq,fL_eq,fN_eq] at hr3
              refine ⟨bid,u,nn,p,ob,sid,sp,s,o,r,so,k,rfl,Nat.le_of_ble_eq_true h2,Nat.le_of_ble_eq_true h3,hob,?_,Nat.eq_of_beq_eq_true h5,hso,Nat.eq_of_beq_eq_true h6,keySt_of (Nat.eq_of_beq_eq_true h7) h8,hr3.symm⟩
              have h4:=Nat.eq_of_beq_eq_true h4
              obtain ⟨T,cs,v⟩:=ob
              simp only at h4 hrest
              subst h4
              rw [hrest]
              have:rest=sp.map bC++[.int .i64 s,.int .i64 o,.int .i64 r]:=by rw [←e2,←hd,List.take_append_drop]
              rw [this]
              rfl
             ·exact absurd hr3.symm (hn _)
            ·exact absurd hr3.symm (hn _)
           ·exact absurd hr3.symm (hn _)
          ·exact absurd hr2.symm (hn _)
         ·exact absurd hr2.symm (hn _)
        ·exact absurd hr2.symm (hn _)
       ·exact absurd hr1.symm (hn _)
      ·exact absurd hr1.symm (hn _)
     ·exact absurd hr1.symm (hn _)
    ·exact absurd hr1.symm (hn _)
   ·exact absurd hr1.symm (hn _)
  ·exact absurd hr1.symm (hn _)
 ·exact absurd hr.symm (hn _)
theorem ex171:ExOk prog 171 mixE:=by
 refine ⟨fun args hh r h' hr H rh=>?_,fun args hh r hr=>?_⟩
 ·obtain ⟨bid,u,nn,p,ob,sid,sp,s,o,rr,so,k,rfl,hp2,hp1,hob,hbox,hsp,hso,hk,hst,hc⟩:=mixE_inv hr (by simp)
  cases hc
  have hob:=rh.look hob
  rw [hbox] at hob
  have hso:=rh.look hso
  have hlt:sid<H.length:=(List.getElem?_eq_some_iff.1 hso).1
  have hcall:=c171 (Made k) (fun o' h=>h.st.flat) so sid (.ofNat nn) (.ofNat u) p (streamV k (mixN (.ofNat nn) (.ofNat u)) p.length) (streamV_len _ _ _) hp2
   (fun H1 h1=>c218m wordsOk k hk sid _ p.length hp2 hp1 so hst H1 h1) sp hsp s o rr ob.ver bid H hob hso
  refine CK.ver (kid:=sid) hcall (R:=fun r' H'=>r'=_∧RH H' (hh.set sid ⟨ttKeyT,(keyO k 1 0 0 (spW k) 1 0).cs,Nat.succ so.ver⟩)) fun r' H' hq=>?_
  obtain ⟨rfl,o',⟨v,rfl⟩,rfl⟩:=hq
  refine ⟨_,so.ver+1,List.getElem?_set_self hlt,fun o2 h2=>by rw [hso] at h2;cases h2;exact Nat.lt_succ_self _,rfl,?_⟩
  rw [List.set_set]
  exact rh.set hso
 ·obtain ⟨_,_,_,_,_,_,_,_,_,_,_,_,_,_,_,_,_,_,_,_,_,hc⟩:=mixE_inv hr (by simp)
  cases hc
noncomputable def exA4:Tr EX:=exA3.set mixE 171
open Go Ps Go.Shelf Go.RowKit
def ρ67:Ren:=⟨fun n=>if n=15 then 243 else 261,fun n=>if n=23 then 333 else if n=21 then 21 else n,fun n=>n⟩
def ttG:TT:=[(3,⟨.int .i64,1,8,[.int .i64 0]⟩),(9,⟨.str,1,16,[.str []]⟩),(333,⟨.fn,1,8,[.nilF]⟩)]
theorem ttG_ok:ttOk prog ttG=true:=by kernel_rfl
def imm219:List Nat:=[]
theorem lays243:LaysGw.n15 prog ρ67 where
 mixed:=by kernel_rfl
 f15:=by kernel_rfl
 f20:=by kernel_rfl
 t0:=by kernel_rfl
 a0:=fun w=>by rfl
 z0:=fun w=>by rfl
 v0:=fun w=>by rfl
 i0:=by kernel_rfl
 t3:=by kernel_rfl
 a3:=fun w=>by rfl
 z3:=fun w=>by rfl
 v3:=fun w=>by rfl
 i3:=by kernel_rfl
 t4:=by kernel_rfl
 a4:=fun w=>by rfl
 z4:=fun w=>by rfl
 v4:=fun w=>by rfl
 i4:=by kernel_rfl
 t9:=by kernel_rfl
 a9:=fun w=>by rfl
 z9:=fun w=>by rfl
 v9:=fun w=>by rfl
 i9:=by kernel_rfl
 t21:=by kernel_rfl
 a21:=fun w=>by rfl
 z21:=fun w=>by rfl
 v21:=fun w=>by rfl
 i21:=by kernel_rfl
 t23:=by kernel_rfl
 a23:=fun w=>by rfl
 z23:=fun w=>by rfl
 v23:=fun w=>by rfl
 i23:=by kernel_rfl
def badR (x:Nat):Bool:=decide (x<32)||decide (126<x)
def okT8 (b:UInt8):Bool:=decide (32≤b.toNat)&&decide (b.toNat≤126)
theorem dec_low (s:ByteArray) (i:Nat) (h:(s.get! i).toNat<128):Utf8.decode s i=((s.get! i).toNat,1):=by
 unfold Utf8.decode
 simp only [Nat.add_zero]
 rw [if_pos h]
theorem dec_high (s:ByteArray) (i:Nat) (h:¬(s.get! i).toNat<128):128≤(Utf8.decode s i).1:=by
 unfold Utf8.decode
 simp only [Nat.add_zero]
 rw [if_neg h]
 have e:Utf8.runeError=65533:=rfl
 split
 ·split
  ·assumption
  ·rw [e];decide
 ·split
  ·split
   ·rename_i h2
    have:(decide (2048≤_)&&_)=true:=h2
    rw [Bool.and_eq_true] at this
    have:=of_decide_eq_true this.1
    omega
   ·rw [e];decide
  ·split
   ·split
    ·rename_i h2
     have:(decide (65536≤_)&&_)=true:=h2
     rw [Bool.and_eq_true] at this
     have:=of_decide_eq_true this.1
     omega
    ·rw [e];decide
   ·rw [e];decide
theorem dec_bad (s:ByteArray) (i:Nat):badR (Utf8.decode s i).1=!okT8 (s.get! i):=by
 by_cases h:(s.get! i).toNat<128
 ·rw [dec_low s i h]
  unfold badR okT8
  by_cases h1:(s.get! i).toNat<32 <;> by_cases h2:126<(s.get! i).toNat <;> simp [h1,h2] <;> omega
 ·have:=dec_high s i h
  unfold badR okT8
  have h1:¬(s.get! i).toNat≤126:=by omega
  have h2:126<(Utf8.decode s i).1:=by omega
  simp [h1,h2]
theorem idx_from (s:ByteArray):∀(f pos:Nat),s.size≤pos+f→(Lib.idxFuncFrom badR true s f pos<0↔∀i,pos≤i→i<s.size→okT8 (s.get! i)=true)
 | 0,pos,h=>by
  rw [Lib.idxFuncFrom_end _ _ _ _ _ (by omega)]
  exact ⟨fun _ i h1 h2=>by omega,fun _=>by decide⟩
 | f+1,pos,h=>by
  unfold Lib.idxFuncFrom
  split
  ·rename_i hp
   rw [dec_bad]
   cases hb:okT8 (s.get! pos)
   ·simp only [Bool.not_false,if_true]
    exact ⟨fun h=>by omega,fun h=>by rw [h pos (Nat.le_refl _) hp] at hb;cases hb⟩
   ·simp only [Bool.not_true,Bool.false_eq_true,if_false]
    have hlt:(s.get! pos).toNat<128:=by
     unfold okT8 at hb
     rw [Bool.and_eq_true] at hb
     have:=of_decide_eq_true hb.2
     omega
    rw [dec_low s pos hlt,idx_from s f (pos+1) (by omega)]
    refine ⟨fun h i h1 h2=>?_,fun h i h1 h2=>h i (by omega) h2⟩
    by_cases e:i=pos
    ·rw [e];exact hb
    ·exact h i (by omega) h2
  ·rename_i hp
   exact ⟨fun _ i h1 h2=>by omega,fun _=>by decide⟩
theorem idx_text (s:List UInt8):(Lib.idxFunc badR true ⟨⟨s⟩⟩<0)↔s.all okT8=true:=by
 unfold Lib.idxFunc
 rw [idx_from _ _ _ (by omega),List.all_eq_true]
 have hg:∀i (h:i<s.length),(⟨⟨s⟩⟩:ByteArray).get! i=s[i]:=fun i h=>by
  show (Array.mk s)[i]! = s[i]
  simp [h]
 refine ⟨fun h x hx=>?_,fun h i _ hi=>?_⟩
 ·obtain ⟨i,hi,rfl⟩:=List.getElem_of_mem hx
  rw [←hg i hi]
  exact h i (Nat.zero_le _) hi
 ·have hi:i<s.length:=hi
  rw [hg i hi]
  exact h _ (List.getElem_mem hi)
theorem pred244 (W:World) (x:Nat) (hx:x≤1114111):FnGives prog 244 #[] #[.int .i32 (x:Int)] (.bool (badR x)) W:=by
 unfold FnGives
 go_enter Tryz.func244,Tryz.ntmps244
 go_wp2
 ·rename_i h
  go_ret
  refine ⟨congrArg Ending.returned (show Value.bool (decide ((x:Int)<32)||decide (126<(x:Int)))=Value.bool (badR x) from congrArg Value.bool ?_),0,rfl⟩
  unfold badR
  rw [decide_eq_decide.2 (show (x:Int)<32↔x<32 by omega),decide_eq_decide.2 (show 126<(x:Int)↔126<x by omega)]
 ·rename_i h
  go_ret
  refine ⟨congrArg Ending.returned (show Value.bool true=Value.bool (badR x) from congrArg Value.bool ?_),0,rfl⟩
  unfold badR
  have h2:x<32:=by omega
  rw [decide_eq_true h2,Bool.true_or]
theorem c243 (s:List UInt8):Pure prog 243 [.str s,.func 244 [] []] (.int .i64 (Lib.idxFunc badR true ⟨⟨s⟩⟩)):=fun H =>
 CK.of_below (fun g w=>.int _ _) fun g w vs hs hv=>by
  have h0:VC prog g w (Ps.valOf vs 0) (.str s):=hv 0
  have h1:VC prog g w (Ps.valOf vs 1) (.func 244 [] []):=hv 1
  have hvs:vs=#[.string ⟨⟨s⟩⟩,.func (.func 244) #[] #[]]:=by
   have e0:=h0.str
   obtain ⟨a,b,e1,z1,z2,_⟩:=(plain_of h1 (by simp) (by simp)).inv_func
   have z1:a=#[]:=Array.eq_empty_of_size_eq_zero z1
   have z2:b=#[]:=Array.eq_empty_of_size_eq_zero z2
   subst z1;subst z2
   match vs,hs with
   | ⟨[x,y]⟩,_ =>
    simp [Ps.valOf] at e0 e1
    rw [e0,e1];rfl
  subst hvs
  exact ⟨run_callFunc_body func243 (by kernel_rfl) (by kernel_rfl),Any.strings_IndexFunc_runes lays243 244 #[] (fun args w=>run_callFunc_body func244 (by kernel_rfl) (by kernel_rfl)) badR ⟨⟨s⟩⟩ w fun W x hx _=>pred244 W x hx⟩
def isTextB (s:List UInt8):Bool:=decide (s.length≤300)&&s.all okT8
theorem c219 (s:List UInt8):Pure prog 219 [.str s] (.bool (isTextB s)):=by
 intro H
 (refine fnS (imm:=imm219) ttG_ok func219 ?_;(conv=>whnf))
 refine ⟨fun h=>?_,fun h=>?_⟩
 ·conv=>whnf
  refine cP (c243 s) ?_
  conv=>whnf
  have e:decide (s.length≤300)=true:=decide_eq_true (by have h:(s.length:Int)≤300:=h;omega)
  unfold isTextB
  rw [e,Bool.true_and]
  refine ⟨fun h2=>?_,fun h2=>?_⟩
  ·conv=>whnf
   rw [(idx_text s).1 h2]
   exact ⟨rfl,rfl⟩
  ·conv=>whnf
   cases hb:s.all okT8
   ·exact ⟨rfl,rfl⟩
   ·exact absurd ((idx_text s).2 hb) h2
 ·conv=>whnf
  have e:decide (s.length≤300)=false:=decide_eq_false (by have h:¬(s.length:Int)≤300:=h;omega)
  unfold isTextB
  rw [e]
  exact ⟨rfl,rfl⟩
open Go Ps
noncomputable def textF (s:List UInt8):Bool:=List.rec (motive:=fun _=>Bool) true (fun b _ ih=>Bool.rec (motive:=fun _=>Bool) false (Bool.rec (motive:=fun _=>Bool) false ih (Nat.ble b.toNat 126)) (Nat.ble 32 b.toNat)) s
theorem textF_eq (s:List UInt8):textF s=s.all okT8:=by
 induction s with
 | nil=>rfl
 | cons b s ih =>
  rw [List.all_cons,←ih]
  show (Bool.rec (motive:=fun _=>Bool) false (Bool.rec (motive:=fun _=>Bool) false (textF s) (Nat.ble b.toNat 126)) (Nat.ble 32 b.toNat):Bool)=_
  unfold okT8
  cases h1:Nat.ble 32 b.toNat
  ·have:¬32≤b.toNat:=fun h=>by rw [Nat.ble_eq_true_of_le h] at h1;cases h1
   rw [decide_eq_false this];rfl
  ·rw [decide_eq_true (Nat.le_of_ble_eq_true h1)]
   cases h2:Nat.ble b.toNat 126
   ·have:¬b.toNat≤126:=fun h=>by rw [Nat.ble_eq_true_of_le h] at h2;cases h2
    rw [decide_eq_false this];rfl
   ·rw [decide_eq_true (Nat.le_of_ble_eq_true h2)];rfl
noncomputable def textG (args:List PV):CV:=match args with
 | [.str s]=>match Nat.ble s.length 300 with
  | true=>.ok (.bool (textF s))
  | false=>.ok (.bool false)
 | _=>.err 981
theorem ex219:ExOk prog 219 (pureE textG):=pureE_ok fun args v hv=>by
 unfold textG at hv
 split at hv
 ·rename_i s
  have h:=c219 s
  unfold isTextB at h
  split at hv
  ·rename_i h1
   cases hv
   rw [decide_eq_true (Nat.le_of_ble_eq_true h1),Bool.true_and,←textF_eq] at h
   exact h
  ·rename_i h1
   cases hv
   have:¬s.length≤300:=fun h=>by rw [Nat.ble_eq_true_of_le h] at h1;cases h1
   rw [decide_eq_false this,Bool.false_and] at h
   exact h
 ·cases hv
noncomputable def exA5:Tr EX:=exA4.set (pureE textG) 219
theorem u8w (n:Nat):IntKind.u8.wrap (n:Int)=((UInt8.ofNat n).toNat:Int):=by
 rw [UInt8.toNat_ofNat']
 simp [IntKind.wrap,IntKind.signed,IntKind.bits]
theorem shr8 (n:Nat):ishr .i64 (n:Int) 8=((n / 256:Nat):Int):=by
 show Int.fdiv (n:Int) (2 ^ (min (Int.toNat 8) 64))=_
 rw [show (2:Int) ^ (min (Int.toNat 8) 64)=256 from rfl,Int.fdiv_eq_ediv_of_nonneg _ (by decide)]
 omega
def lenB (n:Nat):List UInt8:=if n<128 then [UInt8.ofNat n] else if n≤255 then [129,UInt8.ofNat n] else [130,UInt8.ofNat (n / 256),UInt8.ofNat n]
theorem lenB_len (n:Nat):(lenB n).length≤3:=by unfold lenB;split <;> (try split) <;> simp
theorem c237 (n:Nat) (hn:n≤1099511627776) (H:PH):CK prog 237 [.int .i64 n] H fun r H'=>r=.slice (lenB n).length ((lenB n).map bC) (some 5)∧H'=H:=by
 (refine fnS (imm:=imm237) ttB_ok func237 ?_;(conv=>whnf))
 refine ⟨fun h=>?_,fun h=>?_⟩
 ·conv=>whnf
  have h:(n:Int)<128:=h
  have e:lenB n=[UInt8.ofNat n]:=by unfold lenB;rw [if_pos (by omega)]
  rw [e]
  refine ⟨?_,rfl⟩
  show PV.slice 1 [PV.int .u8 (IntKind.u8.wrap (n:Int))] (some 5)=PV.slice 1 [PV.int .u8 ((UInt8.ofNat n).toNat:Int)] (some 5)
  rw [u8w]
 ·conv=>whnf
  have h:¬(n:Int)<128:=h
  refine ⟨fun h2=>?_,fun h2=>?_⟩
  ·conv=>whnf
   have h2:(n:Int)≤255:=h2
   have e:lenB n=[129,UInt8.ofNat n]:=by unfold lenB;rw [if_neg (by omega),if_pos (by omega)]
   rw [e]
   refine ⟨?_,rfl⟩
   show PV.slice 2 [PV.int .u8 129,PV.int .u8 (IntKind.u8.wrap (n:Int))] (some 5)=PV.slice 2 [PV.int .u8 129,PV.int .u8 ((UInt8.ofNat n).toNat:Int)] (some 5)
   rw [u8w]
  ·conv=>whnf
   have h2:¬(n:Int)≤255:=h2
   have e:lenB n=[130,UInt8.ofNat (n / 256),UInt8.ofNat n]:=by unfold lenB;rw [if_neg (by omega),if_neg (by omega)]
   rw [e]
   refine ⟨by decide,?_⟩
   conv=>whnf
   refine ⟨?_,rfl⟩
   show PV.slice 3 [PV.int .u8 130,PV.int .u8 (IntKind.u8.wrap (ishr .i64 (n:Int) 8)),PV.int .u8 (IntKind.u8.wrap (n:Int))] (some 5)=PV.slice 3 [PV.int .u8 130,PV.int .u8 ((UInt8.ofNat (n / 256)).toNat:Int),PV.int .u8 ((UInt8.ofNat n).toNat:Int)] (some 5)
   rw [shr8,u8w,u8w]
def wrapB (tag:UInt8) (b:List UInt8):List UInt8:=tag::(lenB b.length++b)
theorem c210 (tag:UInt8) (ls:List (List UInt8)) (hn:ls.length≤1099511627776) (ht:ls.flatten.length≤1099511627000) {H:PH} {cs:List PV} (hr:Reps H cs ls) :
  CK prog 210 [bC tag,.slice ls.length cs none] H fun r H'=>r=sl (wrapB tag ls.flatten)∧H'=H:=by
 (refine fnS (imm:=imm210) ttB_ok func210 ?_;(conv=>whnf))
 refine cO (c236 ls hn (by omega) hr) ?_
 rintro r H' ⟨rfl,rfl⟩
 conv=>whnf
 refine cO (c237 ls.flatten.length (by omega) H') ?_
 rintro r H'' ⟨rfl,rfl⟩
 conv=>whnf
 have hl:=lenB_len ls.flatten.length
 refine cO (c236 [[tag],lenB ls.flatten.length,ls.flatten] (by show 3≤_;omega) (by simp only [List.flatten_cons,List.flatten_nil,List.length_append,List.length_cons,List.length_nil];omega) (Reps.sl H'' [[tag],lenB ls.flatten.length,ls.flatten])) ?_
 rintro r H3 ⟨rfl,rfl⟩
 conv=>whnf
 refine ⟨?_,rfl⟩
 show sl [[tag],lenB ls.flatten.length,ls.flatten].flatten=_
 congr 1
 simp [wrapB]
def le:Nat→Nat→List UInt8
 | 0,_=>[]
 | f+1,n=>if n=0 then [] else UInt8.ofNat n::le f (n / 256)
theorem le_zero (f:Nat):le f 0=[]:=by cases f <;> simp [le]
theorem le_len:∀(f n:Nat),(le f n).length≤f
 | 0,_=>by simp [le]
 | f+1,n=>by
  unfold le
  split
  ·simp
  ·have:=le_len f (n / 256)
   simp;omega
def clampI (n:Int):Nat:=(min (max n 0) 4611686018427387904).toNat
def padB (b:List UInt8):List UInt8:=if b=[]∨128≤(b.getLast?.getD 0).toNat then b++[0] else b
def intB (n:Nat):List UInt8:=(padB (le 9 n)).reverse
structure InS where
 m:Nat
 H:PH
 v:PV
 d:List UInt8
def bOk (H0:PH) (d:List UInt8) (H:PH) (v:PV):Prop :=
 (d=[]∧v=.nilS)∨(d≠[]∧∃id cap T ver rest,v=.sref id 0 d.length cap∧H0.length≤id∧H[id]? = some ⟨T,d.map bC++rest,ver⟩∧d.length+rest.length=cap)
theorem oldPs_bytes:∀(b:List UInt8),oldPs (b.map bC)=true
 | []=>rfl
 | _::b=>oldPs_bytes b
theorem set_app (cs:List UInt8) (rest:List PV) (x:UInt8) (h:0<rest.length):setCells (cs.length*1) [bC x] (cs.map bC++rest)=(cs++[x]).map bC++rest.drop 1:=by
 rw [setCells_eq _ _ _ (by simp;omega),Nat.mul_one]
 rw [List.take_append_of_le_length (by simp),List.take_of_length_le (by simp),List.drop_append,List.drop_of_length_le (by simp)]
 simp
theorem bOk_add {H0 H:PH} {d:List UInt8} {v:PV} (hx:Ext H0 H) (h:bOk H0 d H v) (x:UInt8) (hd:d.length≤100) {E:Env} {K:PV→PH→Prop}
  (hk:∀v' H',Ext H0 H'→bOk H0 (d++[x]) H' v'→(∃id cap,v'=.sref id 0 (d.length+1) cap)→K v' H') :
  (d=[]→∀cap',1≤cap'→K (.sref H.length 0 1 cap') (H++[⟨5,[bC x]++zerosOf [PV.int .u8 0] (cap' - 1),0⟩])) ∧
  (∀id cap T ver rest,v=.sref id 0 d.length cap→H0.length≤id→H[id]? = some ⟨T,d.map bC++rest,ver⟩→d.length+rest.length=cap →
   (d.length+1≤cap→K (.sref id 0 (d.length+1) cap) (H.set id ⟨T,setCells (d.length*1) [bC x] (d.map bC++rest),ver+1⟩)) ∧
   (cap<d.length+1→∀cap',d.length+1≤cap'→K (.sref H.length 0 (d.length+1) cap') (H++[⟨5,((d.map bC++rest).take (d.length*1)).map dem++[bC x]++zerosOf [PV.int .u8 0] (cap' - (d.length+1)),0⟩]))):=by
 have hz:∀n,(zerosOf [PV.int .u8 0] n).length=n:=fun n=>by rw [(zerosOf_get (z:=[PV.int .u8 0]) (sz:=1) rfl (by omega) n).1];omega
 refine ⟨fun h0 cap' hc=>?_,fun id cap T ver rest hv hid ho hcap=>⟨fun hroom=>?_,fun hgrow cap' hc=>?_⟩⟩
 ·subst h0
  exact hk _ _ (hx.push _) (.inr ⟨by simp,H.length,cap',5,0,zerosOf [PV.int .u8 0] (cap' - 1),rfl,hx.len,gL _ _,by rw [hz];simp;omega⟩) ⟨_,_,rfl⟩
 ·have hr:0<rest.length:=by omega
  rw [set_app _ _ _ hr]
  exact hk _ _ (hx.set hid _) (.inr ⟨by simp,id,cap,T,ver+1,rest.drop 1,by rw [List.length_append];rfl,hid,gS ho,by rw [List.length_append,List.length_drop];show d.length+1+(rest.length - 1)=cap;omega⟩) ⟨_,_,rfl⟩
 ·have e:((d.map bC++rest).take (d.length*1)).map dem++[bC x]=(d++[x]).map bC:=by
   rw [Nat.mul_one,take_pre (by rw [List.length_map]),List.map_map,List.map_append];rfl
  rw [e]
  exact hk _ _ (hx.push _) (.inr ⟨by simp,H.length,cap',5,0,_,by rw [List.length_append];rfl,hx.len,gL _ _,by rw [hz,List.length_append];show d.length+1+(cap' - (d.length+1))=cap';omega⟩) ⟨_,_,rfl⟩
theorem rep_one {H:PH} {id T v n cap:Nat} {x:List UInt8} {rest:List PV} (hid:H[id]? = some ⟨T,x.map bC++rest,v⟩) (hn:n=x.length):Reps H [.sref id 0 n cap] [x]:=by
 refine ⟨rfl,fun i c b hc hb=>?_⟩
 match i with
 | 0 =>
  simp at hc hb
  subst hc;subst hb;subst hn
  refine .inr ⟨id,0,cap,_,rfl,hid,?_⟩
  show (((x.map bC++rest).drop 0).take (x.length*1)).map dem=_
  rw [List.drop_zero,Nat.mul_one,take_pre (by rw [List.length_map]),List.map_map];rfl
 | i+1=>simp at hc
theorem c212x (n:Int) (H0:PH):CK prog 212 [.int .i64 n] H0 fun r H'=>r=sl (wrapB 2 (intB (clampI n)))∧∃ext,H'=H0++ext:=by
 (refine fnS (imm:=imm212) ttB_ok func212 ?_;(conv=>whnf))
 have hN:min (max n 0) 4611686018427387904=(clampI n:Int):=by unfold clampI;omega
 have hN2:clampI n≤4611686018427387904:=by unfold clampI;omega
 refine lO InS (fun x=>[(0,.int .i64 x.m),(3,x.v)]) (fun x=>x.H)
  (fun x=>∃f,x.d++le f x.m=le 9 (clampI n)∧x.m<256 ^ f∧x.m≤4611686018427387904∧Ext H0 x.H∧bOk H0 x.d x.H x.v) (fun x=>x.m)
  ⟨⟨clampI n,H0,.nilS,[]⟩,⟨9,rfl,by show clampI n<256 ^ 9;omega,hN2,Ext.refl _,.inl ⟨rfl,rfl⟩⟩,⟨congrArg (PV.int .i64) hN,rfl,trivial⟩,rfl⟩ ?_
 rintro ⟨m,H,v,d⟩ ⟨f,g1,g2,g3,g4,g5⟩
 have g1:d++le f m=le 9 (clampI n):=g1
 have g2:m<256 ^ f:=g2
 have g3:m≤4611686018427387904:=g3
 have g4:Ext H0 H:=g4
 have g5:bOk H0 d H v:=g5
 have hd9:d.length≤9:=by
  have:=le_len 9 (clampI n)
  rw [←g1,List.length_append] at this
  omega
 conv=>whnf
 refine ⟨fun h=>?_,fun h=>?_⟩
 ·conv=>whnf
  have h:(m:Int) > 0:=h
  have hf:∃f',f=f'+1:=by
   cases f with
   | zero=>simp at g2;omega
   | succ f=>exact ⟨f,rfl⟩
  obtain ⟨f,rfl⟩:=hf
  have hle:le (f+1) m=UInt8.ofNat m::le f (m / 256):=by
   conv=>lhs;unfold le
   rw [if_neg (by omega)]
  have hlast:∀(E:Env) (H':PH) (v':PV),subE [(0,.int .i64 (ishr .i64 (m:Int) 8)),(3,v')] E→Ext H0 H'→bOk H0 (d++[UInt8.ofNat m]) H' v' →
    ∃s':InS,(∃f,s'.d++le f s'.m=le 9 (clampI n)∧s'.m<256 ^ f∧s'.m≤4611686018427387904∧Ext H0 s'.H∧bOk H0 s'.d s'.H s'.v)∧subE [(0,.int .i64 s'.m),(3,s'.v)] E∧H'=s'.H∧s'.m<m:=by
   intro E H' v' hE hx hb
   rw [shr8] at hE
   refine ⟨⟨m / 256,H',v',d++[UInt8.ofNat m]⟩,⟨f,?_,?_,by show m / 256≤_;omega,hx,hb⟩,hE,rfl,by show m / 256<m;omega⟩
   ·show d++[UInt8.ofNat m]++le f (m / 256)=_
    rw [←g1,hle];simp
   ·show m / 256<256 ^ f
    rw [Nat.div_lt_iff_lt_mul (by omega),←Nat.pow_succ];exact g2
  obtain ⟨A,B⟩:=bOk_add (E:=[]) (K:=fun v' H'=>Ext H0 H'∧bOk H0 (d++[UInt8.ofNat m]) H' v') g4 g5 (UInt8.ofNat m) (by omega) fun v' H' a b _=>⟨a,b⟩
  have hbw:PV.int .u8 (IntKind.u8.wrap (m:Int))=bC (UInt8.ofNat m):=congrArg (PV.int .u8) (u8w m)
  rcases g5 with ⟨rfl,rfl⟩ | ⟨y1,id,cap,T,ver,rest,rfl,y2,y3,y4⟩
  ·conv=>whnf
   rw [hbw]
   refine ⟨⟨by show 1*1≤_;omega,rfl,rfl⟩,fun h=>absurd h (by omega),fun _ cap' hc=>?_⟩
   conv=>whnf
   refine ⟨by decide,?_⟩
   conv=>whnf
   exact hlast _ _ _ ⟨rfl,rfl,trivial⟩ (A rfl cap' hc).1 (A rfl cap' hc).2
  ·conv=>whnf
   rw [hbw]
   ((conv in (_[_]?)=>tactic=>exact y3);(conv=>whnf))
   obtain ⟨B1,B2⟩:=B id cap T ver rest rfl y2 y3 y4
   refine ⟨⟨rfl,by show (d.length+1)*1≤_;omega,rfl,rfl,by show d.length*1≤(d.map bC++rest).length;simp⟩,fun hroom=>⟨by show (d.length+1)*1≤(d.map bC++rest).length;rw [List.length_append,List.length_map];omega,?_⟩,fun hgrow cap' hc=>?_⟩
   ·conv=>whnf
    refine ⟨by decide,?_⟩
    conv=>whnf
    exact hlast _ _ _ ⟨rfl,rfl,trivial⟩ (B1 hroom).1 (B1 hroom).2
   ·conv=>whnf
    refine ⟨by decide,?_⟩
    conv=>whnf
    exact hlast _ _ _ ⟨rfl,rfl,trivial⟩ (B2 hgrow cap' hc).1 (B2 hgrow cap' hc).2
 ·conv=>whnf
  have h:¬(m:Int) > 0:=h
  have hm:m=0:=by omega
  subst hm
  rw [le_zero,List.append_nil] at g1
  have k4:Ext H0 H:=g4
  have k5:bOk H0 d H v:=g5
  have k1:d=le 9 (clampI n):=g1
  clear g1 g2 g3 g4 g5 h
  obtain ⟨A,B⟩:=bOk_add (H0:=H0) (H:=H) (d:=d) (v:=v) (E:=[]) (K:=fun v' H'=>Ext H0 H'∧bOk H0 (d++[0]) H' v') k4 k5 0 (by omega) fun v' H' a b _=>⟨a,b⟩
  rcases k5 with ⟨rfl,rfl⟩ | ⟨y1,id,cap,T,ver,rest,rfl,y2,y3,y4⟩
  ·have hpad:padB (le 9 (clampI n))=[0]:=by rw [←k1];rfl
   conv=>whnf
   refine ⟨fun _=>?_,fun h=>absurd rfl h⟩
   conv=>whnf
   refine ⟨⟨by show 1*1≤_;omega,rfl,rfl⟩,fun h=>absurd h (by omega),fun _ cap' hc=>?_⟩
   conv=>whnf
   refine cO (c238 H.length 1 cap' [0] (zerosOf [PV.int .u8 0] (cap' - 1)) 5 0 (H++[PObj.mk 5 ([bC 0]++zerosOf [PV.int .u8 0] (cap' - 1)) 0]) (gL _ _) (by simp) (by first | omega | (simp;omega) | simp)) ?_
   rintro r H' ⟨rfl,v',rfl⟩
   conv=>whnf
   refine cO (c210 2 [([0]).reverse] (cs:=[.sref H.length 0 (1) cap']) (by show 1≤_;omega) (by first | omega | (simp;omega) | simp) (rep_one (gS (gL _ _)) (by simp))) ?_
   rintro r H'' ⟨rfl,rfl⟩
   conv=>whnf
   refine ⟨?_,(k4.push _).set k4.len _⟩
   show sl (wrapB 2 [([0]).reverse].flatten)=sl (wrapB 2 (intB (clampI n)))
   rw [List.flatten_cons,List.flatten_nil,List.append_nil]
   unfold intB
   rw [hpad]
  ·have hdl:0<d.length:=List.length_pos_iff.2 y1
   have hlst:d[d.length - 1]? = some (d.getLast?.getD 0):=by
    rw [List.getLast?_eq_getElem?,List.getElem?_eq_getElem (by omega)];rfl
   have hpad:padB (le 9 (clampI n))=if 128≤(d.getLast?.getD 0).toNat then d++[0] else d:=by
    rw [←k1];unfold padB
    simp only [y1,false_or]
   have hidx:(0+(((d.length:Int) - 1)).toNat*1)=0+((d.length - 1:Nat):Int).toNat*1:=by omega
   obtain ⟨B1,B2⟩:=B id cap T ver rest rfl y2 y3 y4
   conv=>whnf
   refine ⟨fun h=>absurd (show (d.length:Int)=0 from h) (by omega),fun _=>?_⟩
   conv=>whnf
   have hw1:IntKind.i64.wrap ((d.length:Int) - 1)=(d.length:Int) - 1:=by rw [w64 (by omega) (by omega)]
   refine ⟨⟨by show 0≤IntKind.i64.wrap ((d.length:Int) - 1);rw [hw1];omega,by show IntKind.i64.wrap ((d.length:Int) - 1)<d.length;rw [hw1];omega⟩,?_⟩
   conv=>whnf
   ((conv in (_[_]?)=>tactic=>exact y3);(conv=>whnf))
   rw [hw1]
   ((conv in (dropN _ _)=>tactic=>exact (show dropN (0+((d.length:Int) - 1).toNat*1) (d.map bC++rest)=bC (d.getLast?.getD 0)::((d.drop (d.length - 1+1)).map bC++rest) by rw [hidx];exact dropN_app d rest hlst));(conv=>whnf))
   refine ⟨fun h128=>?_,fun h128=>?_⟩
   ·have h128:(128:Int)≤((d.getLast?.getD 0).toNat:Int):=h128
    rw [if_pos (by omega)] at hpad
    conv=>whnf
    ((conv in (_[_]?)=>tactic=>exact y3);(conv=>whnf))
    refine ⟨⟨rfl,by show (d.length+1)*1≤_;omega,rfl,rfl,by show d.length*1≤(d.map bC++rest).length;simp⟩,fun hroom=>⟨by show (d.length+1)*1≤(d.map bC++rest).length;rw [List.length_append,List.length_map];omega,?_⟩,fun hgrow cap' hc=>?_⟩
    ·conv=>whnf
     have hs:=set_app d rest 0 (by omega)
     have hid2:(H.set id (PObj.mk T (setCells (d.length*1) [bC 0] (d.map bC++rest)) (ver+1)))[id]? = some ⟨T,(d++[0]).map bC++rest.drop 1,ver+1⟩:=by rw [hs];exact gS y3
     refine cO (c238 id (d.length+1) cap (d++[0]) (rest.drop 1) T (ver+1) (H.set id (PObj.mk T (setCells (d.length*1) [bC 0] (d.map bC++rest)) (ver+1))) hid2 (by simp) (by first | omega | (simp;omega) | simp)) ?_
     rintro r H' ⟨rfl,v',rfl⟩
     conv=>whnf
     refine cO (c210 2 [((d++[0])).reverse] (cs:=[.sref id 0 ((d.length+1)) cap]) (by show 1≤_;omega) (by first | omega | (simp;omega) | simp) (rep_one (gS hid2) (by simp))) ?_
     rintro r H'' ⟨rfl,rfl⟩
     conv=>whnf
     refine ⟨?_,(k4.set y2 _).set y2 _⟩
     show sl (wrapB 2 [((d++[0])).reverse].flatten)=sl (wrapB 2 (intB (clampI n)))
     rw [List.flatten_cons,List.flatten_nil,List.append_nil]
     unfold intB
     rw [hpad]
    ·conv=>whnf
     have hz:((d.map bC++rest).take (d.length*1)).map dem++[bC 0]=(d++[0]).map bC:=by
      rw [Nat.mul_one,take_pre (by rw [List.length_map]),List.map_map,List.map_append];rfl
     have hid2:(H++[PObj.mk 5 (((d.map bC++rest).take (d.length*1)).map dem++[bC 0]++zerosOf [PV.int .u8 0] (cap' - (d.length+1))) 0])[H.length]? = some ⟨5,(d++[0]).map bC++zerosOf [PV.int .u8 0] (cap' - (d.length+1)),0⟩:=by rw [hz];exact gL _ _
     refine cO (c238 H.length (d.length+1) cap' (d++[0]) (zerosOf [PV.int .u8 0] (cap' - (d.length+1))) 5 0 (H++[PObj.mk 5 (((d.map bC++rest).take (d.length*1)).map dem++[bC 0]++zerosOf [PV.int .u8 0] (cap' - (d.length+1))) 0]) hid2 (by simp) (by first | omega | (simp;omega) | simp)) ?_
     rintro r H' ⟨rfl,v',rfl⟩
     conv=>whnf
     refine cO (c210 2 [((d++[0])).reverse] (cs:=[.sref H.length 0 ((d.length+1)) cap']) (by show 1≤_;omega) (by first | omega | (simp;omega) | simp) (rep_one (gS hid2) (by simp))) ?_
     rintro r H'' ⟨rfl,rfl⟩
     conv=>whnf
     refine ⟨?_,(k4.push _).set k4.len _⟩
     show sl (wrapB 2 [((d++[0])).reverse].flatten)=sl (wrapB 2 (intB (clampI n)))
     rw [List.flatten_cons,List.flatten_nil,List.append_nil]
     unfold intB
     rw [hpad]
   ·have h128:¬(128:Int)≤((d.getLast?.getD 0).toNat:Int):=h128
    rw [if_neg (by omega)] at hpad
    conv=>whnf
    refine cO (c238 id d.length cap d rest T ver H y3 (by simp) (by first | omega | (simp;omega) | simp)) ?_
    rintro r H' ⟨rfl,v',rfl⟩
    conv=>whnf
    refine cO (c210 2 [(d).reverse] (cs:=[.sref id 0 (d.length) cap]) (by show 1≤_;omega) (by first | omega | (simp;omega) | simp) (rep_one (gS y3) (by simp))) ?_
    rintro r H'' ⟨rfl,rfl⟩
    conv=>whnf
    refine ⟨?_,k4.set y2 _⟩
    show sl (wrapB 2 [(d).reverse].flatten)=sl (wrapB 2 (intB (clampI n)))
    rw [List.flatten_cons,List.flatten_nil,List.append_nil]
    unfold intB
    rw [hpad]
theorem c212 (n:Int):Pure prog 212 [.int .i64 n] (sl (wrapB 2 (intB (clampI n)))):=Pure.of_gc (oldPs_bytes _) (c212x n)
noncomputable def intG (args:List PV):CV:=match args with
 | [.int .i64 n]=>slF (wrapB 2 (intB (clampI n)))
 | _=>.err 982
theorem ex212:ExOk prog 212 (pureE intG):=pureE_ok fun args v hv=>by
 unfold intG at hv
 split at hv
 ·rw [slF_eq] at hv
  cases hv
  exact c212 _
 ·cases hv
noncomputable def exA6:Tr EX:=exA5.set (pureE intG) 212
def imm118r:List Nat:=[5]
theorem c118r (id off n:Nat) (o:PObj) (H:PH) (ho:H[id]? = some o) (hn:0<n) (hl:(((o.cs.drop off).take (n*1)).map dem).length=n) (h1:(((o.cs.drop off).take (n*1)).map dem).all oneP=true) (hb:(0+n)*16≤140737488355328) :
  CK prog 118 [.rref id off n] H fun r H'=>∃cap,n≤cap∧r=.sref (H.length+1) 0 n cap∧H'=H++[(⟨9,[],0⟩:PObj),⟨9,((o.cs.drop off).take (n*1)).map dem++zerosOf [.str []] (cap - n),0⟩]:=by
 (refine fnS (imm:=imm118r) ttCl_ok func118 ?_;(conv=>whnf))
 conv=>whnf
 have hlt:id<H.length:=(List.getElem?_eq_some_iff.1 ho).1
 rw [List.getElem?_append_left hlt,ho,gL]
 refine ⟨⟨rfl,hb,?_,h1,?_⟩,fun h=>?_,fun _ cap' hc=>?_⟩
 ·rw [hl];exact (Nat.mul_one n).symm
 ·rw [Nat.zero_mul];exact Nat.zero_le _
 ·exact absurd h (by omega)
 ·conv=>whnf
  refine ⟨cap',by omega,?_,?_⟩
  ·rw [List.length_append,Nat.zero_add];rfl
  ·rw [List.append_assoc,Nat.zero_add];rfl
theorem c118q (id off n:Nat) (o:PObj) (H:PH) (ho:H[id]? = some o) (hn:0<n) (hl:(((o.cs.drop off).take (n*1)).map dem).length=n) (h1:(((o.cs.drop off).take (n*1)).map dem).all oneP=true) (hf:(((o.cs.drop off).take (n*1)).map dem).all flatP=true) (hb:(0+n)*16≤140737488355328) :
  CK prog 118 [.rref id off n] H fun r H'=>r=.slice n (((o.cs.drop off).take (n*1)).map dem) (some 9)∧H'=H:=by
 refine CK.own (nn:=n) (cs:=((o.cs.drop off).take (n*1)).map dem) (R:=fun H'=>H'=H) (c118r id off n o H ho hn hl h1 hb) (e0:=9) (sz:=1) (by kernel_rfl) (by decide) (by rw [hl,Nat.mul_one]) hf fun r H' hh=>?_
 obtain ⟨cap,hc,rfl,rfl⟩:=hh
 refine ⟨H,_,H.length+1,cap,⟨9,((o.cs.drop off).take (n*1)).map dem++zerosOf [.str []] (cap - n),0⟩,rfl,Kept.refl H,rfl,rfl,by omega,?_,rfl,?_,?_⟩
 ·rw [List.getElem?_append_right (by omega),show H.length+1 - H.length=1 by omega];rfl
 ·show (_++_:List PV).length=_
  rw [List.length_append,hl]
  have:(zerosOf [PV.str []] (cap - n)).length=cap - n:=by rw [zerosOf_one,List.length_replicate]
  omega
 ·show (_++_:List PV).take _=_
  rw [List.take_left' rfl]
theorem c118s (id off n c:Nat) (o:PObj) (H:PH) (ho:H[id]? = some o) (hn:0<n) (hl:(((o.cs.drop off).take (n*1)).map dem).length=n) (h1:(((o.cs.drop off).take (n*1)).map dem).all oneP=true) (hb:(0+n)*16≤140737488355328) :
  CK prog 118 [.sref id off n c] H fun r H'=>∃cap,n≤cap∧r=.sref (H.length+1) 0 n cap∧H'=H++[(⟨9,[],0⟩:PObj),⟨9,((o.cs.drop off).take (n*1)).map dem++zerosOf [.str []] (cap - n),0⟩]:=by
 (refine fnS (imm:=imm118r) ttCl_ok func118 ?_;(conv=>whnf))
 conv=>whnf
 have hlt:id<H.length:=(List.getElem?_eq_some_iff.1 ho).1
 rw [List.getElem?_append_left hlt,ho,gL]
 refine ⟨⟨rfl,hb,?_,h1,?_⟩,fun h=>?_,fun _ cap' hc=>?_⟩
 ·rw [hl];exact (Nat.mul_one n).symm
 ·rw [Nat.zero_mul];exact Nat.zero_le _
 ·exact absurd h (by omega)
 ·conv=>whnf
  refine ⟨cap',by omega,?_,?_⟩
  ·rw [List.length_append,Nat.zero_add];rfl
  ·rw [List.append_assoc,Nat.zero_add];rfl
theorem c118t (id off n c:Nat) (o:PObj) (H:PH) (ho:H[id]? = some o) (hn:0<n) (hl:(((o.cs.drop off).take (n*1)).map dem).length=n) (h1:(((o.cs.drop off).take (n*1)).map dem).all oneP=true) (hf:(((o.cs.drop off).take (n*1)).map dem).all flatP=true) (hb:(0+n)*16≤140737488355328) :
  CK prog 118 [.sref id off n c] H fun r H'=>r=.slice n (((o.cs.drop off).take (n*1)).map dem) (some 9)∧H'=H:=by
 refine CK.own (nn:=n) (cs:=((o.cs.drop off).take (n*1)).map dem) (R:=fun H'=>H'=H) (c118s id off n c o H ho hn hl h1 hb) (e0:=9) (sz:=1) (by kernel_rfl) (by decide) (by rw [hl,Nat.mul_one]) hf fun r H' hh=>?_
 obtain ⟨cap,hc,rfl,rfl⟩:=hh
 refine ⟨H,_,H.length+1,cap,⟨9,((o.cs.drop off).take (n*1)).map dem++zerosOf [.str []] (cap - n),0⟩,rfl,Kept.refl H,rfl,rfl,by omega,?_,rfl,?_,?_⟩
 ·rw [List.getElem?_append_right (by omega),show H.length+1 - H.length=1 by omega];rfl
 ·show (_++_:List PV).length=_
  rw [List.length_append,hl]
  have:(zerosOf [PV.str []] (cap - n)).length=cap - n:=by rw [zerosOf_one,List.length_replicate]
  omega
 ·show (_++_:List PV).take _=_
  rw [List.take_left' rfl]
noncomputable def clR (args:List PV) (h:CH):CC:=match args with
 | [.slice n cs none]=>match clE 9 1 16 args with
  | .ok v=>.pure v
  | .err k=>.err k
 | [.rref id off n]=>match h.get id with
  | some o=>fL (((o.cs.drop off).take (Nat.mul n 1)).map dem) fun cs=>match Nat.beq cs.length n with
   | true=>match cs.all oneP with
    | true=>match cs.all flatP with
     | true=>match Nat.blt 0 n with
      | true=>match Nat.ble (Nat.mul (Nat.add 0 n) 16) 140737488355328 with
       | true=>.pure (.slice n cs (some 9))
       | false=>.err 970
      | false=>.err 971
     | false=>.err 972
    | false=>.err 973
   | false=>.err 974
  | none=>.err 975
 | [.sref id off n c]=>match h.get id with
  | some o=>fL (((o.cs.drop off).take (Nat.mul n 1)).map dem) fun cs=>match Nat.beq cs.length n with
   | true=>match cs.all oneP with
    | true=>match cs.all flatP with
     | true=>match Nat.blt 0 n with
      | true=>match Nat.ble (Nat.mul (Nat.add 0 n) 16) 140737488355328 with
       | true=>.pure (.slice n cs (some 9))
       | false=>.err 970
      | false=>.err 971
     | false=>.err 972
    | false=>.err 973
   | false=>.err 974
  | none=>.err 975
 | _=>.err 976
theorem exR118:ExOk prog 118 clR:=by
 refine ⟨fun args hh r h' hr H rh=>?_,fun args hh r hr H rh=>?_⟩
 ·exfalso
  unfold clR at hr
  split at hr
  ·split at hr <;> cases hr
  ·split at hr
   ·rw [fL_eq] at hr
    repeat' (split at hr)
    all_goals cases hr
   ·cases hr
  ·split at hr
   ·rw [fL_eq] at hr
    repeat' (split at hr)
    all_goals cases hr
   ·cases hr
  ·cases hr
 ·unfold clR at hr
  split at hr
  ·have:=ex118.pure
   rename_i n cs
   refine ex118.pure _ hh r ?_ H rh
   unfold pureE
   split at hr
   ·rename_i v hv
    cases hr
    first | rw [hv] | rfl
   ·cases hr
  ·rename_i id off n
   split at hr
   ·rename_i o ho
    rw [fL_eq] at hr
    split at hr
    ·rename_i e1
     split at hr
     ·rename_i e2
      split at hr
      ·rename_i e3
       split at hr
       ·rename_i e4
        split at hr
        ·rename_i e5
         cases hr
         exact c118q id off n o H (rh.look ho) (by rw [Nat.blt_eq] at e4;exact e4) (Nat.eq_of_beq_eq_true e1) e2 e3 (Nat.le_of_ble_eq_true e5)
        ·cases hr
       ·cases hr
      ·cases hr
     ·cases hr
    ·cases hr
   ·cases hr
  ·rename_i id off n c
   split at hr
   ·rename_i o ho
    rw [fL_eq] at hr
    split at hr
    ·rename_i e1
     split at hr
     ·rename_i e2
      split at hr
      ·rename_i e3
       split at hr
       ·rename_i e4
        split at hr
        ·rename_i e5
         cases hr
         exact c118t id off n c o H (rh.look ho) (by rw [Nat.blt_eq] at e4;exact e4) (Nat.eq_of_beq_eq_true e1) e2 e3 (Nat.le_of_ble_eq_true e5)
        ·cases hr
       ·cases hr
      ·cases hr
     ·cases hr
    ·cases hr
   ·cases hr
  ·cases hr
noncomputable def exA7:Tr EX:=exA6.set clR 118
end Go.Proofs.Tryz
