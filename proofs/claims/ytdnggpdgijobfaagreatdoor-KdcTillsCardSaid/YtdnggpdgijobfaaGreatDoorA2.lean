import Derived.Test.YtdnggpdgijobfaaGreatDoorA1
set_option linter.all false
set_option maxRecDepth 100000
namespace Go.Proofs.Tryz
open Go Ps
def tt311:TT:=[(5,⟨.int .u8,1,1,[.int .u8 0]⟩),(9,⟨.str,1,16,[.str []]⟩)]
theorem tt311_ok:ttOk prog tt311=true:=by kernel_rfl
def imm311:List Nat:=[]
def tt301:TT:=[(3,⟨.int .i64,1,8,[.int .i64 0]⟩),(5,⟨.int .u8,1,1,[.int .u8 0]⟩),(9,⟨.str,1,16,[.str []]⟩)]
theorem tt301_ok:ttOk prog tt301=true:=by kernel_rfl
def imm301:List Nat:=[]
def tt287:TT:=[(9,⟨.str,1,16,[.str []]⟩)]
theorem tt287_ok:ttOk prog tt287=true:=by kernel_rfl
def imm287:List Nat:=[]
def tt286:TT:=[(3,⟨.int .i64,1,8,[.int .i64 0]⟩),(5,⟨.int .u8,1,1,[.int .u8 0]⟩),(9,⟨.str,1,16,[.str []]⟩)]
theorem tt286_ok:ttOk prog tt286=true:=by kernel_rfl
def imm286:List Nat:=[]
def tt266:TT:=[(3,⟨.int .i64,1,8,[.int .i64 0]⟩),(9,⟨.str,1,16,[.str []]⟩),(88,⟨.slice 9,1,24,[.slice 0 [] (some 9)]⟩)]
theorem tt266_ok:ttOk prog tt266=true:=by kernel_rfl
def tt237:TT:=[(3,⟨.int .i64,1,8,[.int .i64 0]⟩),(9,⟨.str,1,16,[.str []]⟩),(88,⟨.slice 9,1,24,[.slice 0 [] (some 9)]⟩)]
theorem tt237_ok:ttOk prog tt237=true:=by kernel_rfl
def imm237:List Nat:=[]
theorem c300 (s:List UInt8) (c:UInt8):Pure prog 300 [.str s,bC c] (.int .i64 (Lib.countByte s c)) :=
 pure_extern2 (e:=Extern.BytealgCount.count) func300 (by kernel_rfl) (by kernel_rfl) (by kernel_rfl) (by kernel_rfl) (run_count s c)
theorem c318 (s:List UInt8) (c:UInt8):Pure prog 318 [.str s,bC c] (.int .i64 (Lib.indexByte s c)) :=
 pure_extern2 (e:=Extern.BytealgIndexByte.indexByte) func318 (by kernel_rfl) (by kernel_rfl) (by kernel_rfl) (by kernel_rfl) (run_index s c)
theorem c311 (s:List UInt8) (c:UInt8):Pure prog 311 [.str s,bC c] (.int .i64 (Lib.indexByte s c)):=by
 intro H
 (refine fnS (imm:=imm311) tt311_ok func311 ?_;(conv=>whnf))
 (refine cP ((c318 s c)) ?_;try (conv=>whnf))
 exact ⟨rfl,rfl⟩
theorem c301 (s:List UInt8) (c:UInt8):Pure prog 301 [.str s,.str [c]] (.int .i64 (Lib.indexByte s c)):=by
 intro H
 (refine fnS (imm:=imm301) tt301_ok func301 ?_;(conv=>whnf))
 refine ⟨fun h=>absurd h (by simp),fun h=>?_⟩
 conv=>whnf
 refine ⟨fun h=>?_,fun h=>?_⟩
 ·subst h
  conv=>whnf
  exact ⟨by simp [Lib.indexByte,tupOf],rfl⟩
 ·conv=>whnf
  refine ⟨fun h1=>?_,fun h1=>absurd (by simp) h1⟩
  conv=>whnf
  refine ⟨⟨by omega,by simp⟩,c,rfl,?_⟩
  conv=>whnf
  (refine cP ((c311 s c)) ?_;try (conv=>whnf))
  exact ⟨rfl,rfl⟩
theorem c287 (s:List UInt8) (c:UInt8):Pure prog 287 [.str s,.str [c]] (.int .i64 (Lib.indexByte s c)):=by
 intro H
 (refine fnS (imm:=imm287) tt287_ok func287 ?_;(conv=>whnf))
 (refine cP ((c301 s c)) ?_;try (conv=>whnf))
 exact ⟨rfl,rfl⟩
theorem c286 (s:List UInt8) (c:UInt8):Pure prog 286 [.str s,.str [c]] (.int .i64 (Lib.countByte s c)):=by
 intro H
 (refine fnS (imm:=imm286) tt286_ok func286 ?_;(conv=>whnf))
 refine ⟨fun h=>absurd h (by simp),fun h=>?_⟩
 conv=>whnf
 refine ⟨fun h1=>?_,fun h1=>absurd (by simp) h1⟩
 conv=>whnf
 refine ⟨⟨by omega,by simp⟩,c,rfl,?_⟩
 conv=>whnf
 (refine cP ((c300 s c)) ?_;try (conv=>whnf))
 exact ⟨rfl,rfl⟩
def imm266':List Nat:=[31]
theorem c266 (s:List UInt8) (c:UInt8) (H:PH) (hs:s.length≤1099511627776) :
  CK prog 266 [.str s,.str [c],.int .i64 0,.int .i64 (-1)] H fun r H' =>
   r=.sref H.length 0 (splitB c s).length (splitB c s).length∧∃v,H'=H++[⟨9,(splitB c s).map .str,v⟩]:=by
 have hcl:=countB_le c s
 have hsl:=splitB_len c s
 refine callOk_of_pFun (tt:=tt266) (imm:=imm266') follows tt266_ok depth6 func266 (by kernel_rfl) ?_
 conv=>whnf
 refine ⟨fun h=>absurd h (by decide),fun h=>?_⟩
 conv=>whnf
 refine ⟨fun h=>absurd h (by simp),fun h=>?_⟩
 conv=>whnf
 refine ⟨fun h=>?_,fun h=>absurd (by decide) h⟩
 conv=>whnf
 refine cP (c286 s c) ?_
 conv=>whnf
 rw [w64 (by omega) (by omega),w64 (by omega) (by omega),Int.min_eq_left (by omega)]
 refine ⟨⟨by omega,by omega,by simp;omega⟩,?_⟩
 conv=>whnf
 refine lO (List UInt8×List (List UInt8)) (fun x=>[(0,.str x.1),(1,.str [c]),(2,.int .i64 0),(3,.int .i64 (Lib.countByte s c)),(9,.sref H.length 0 (splitB c s).length (splitB c s).length),(10,.int .i64 x.2.length)])
  (fun x=>H++[⟨9,x.2.map .str++List.replicate (Lib.countByte x.1 c+1) (.str []),x.2.length⟩])
  (fun x=>x.2++splitB c x.1=splitB c s∧x.1.length≤s.length) (fun x=>x.1.length) ⟨(s,[]),⟨rfl,Nat.le_refl _⟩,?_,?_⟩ ?_
 ·refine ⟨rfl,rfl,rfl,?_,?_,rfl,trivial⟩
  ·show PV.int _ _=PV.int _ _
   rw [w64 (by omega) (by omega)];congr 1;omega
  ·show PV.sref _ _ _ _=PV.sref _ _ _ _
   congr 1 <;> omega
 ·show H++[PObj.mk _ _ _]=H++[PObj.mk _ _ _]
  rw [zerosOf_one]
  simp
 ·rintro ⟨r,done⟩ ⟨h1,h2⟩
  have hl:done.length+(splitB c r).length=(splitB c s).length:=by rw [←h1,List.length_append]
  have hrl:=splitB_len c r
  have h1:done++splitB c r=splitB c s:=h1
  have h2:r.length≤s.length:=h2
  have tail:splitB c r=[r]→setCells (0+(done.length:Int).toNat*1) [PV.str r] (done.map .str++List.replicate (Lib.countByte r c+1) (.str []))=(splitB c s).map .str:=fun hr=>by
   have hz:Lib.countByte r c=0:=by rw [hr] at hrl;simp at hrl;exact hrl
   rw [hz,←h1,hr]
   exact (setCells_one _ _ _ _ _ (by simp)).trans (by simp)
  conv=>whnf
  refine ⟨fun h3=>?_,fun h3=>?_⟩
  ·conv=>whnf
   refine cP (c287 r c) ?_
   conv=>whnf
   refine ⟨fun h4=>?_,fun h4=>?_⟩
   ·conv=>whnf
    rcases splitB_idx c r with ⟨i1,i2,i3⟩ | ⟨i,i1,_⟩
    ·have h3:(done.length:Int)<(Lib.countByte s c:Int):=h3
     refine ⟨⟨by omega,by omega⟩,?_⟩
     conv=>whnf
     rw [gL]
     conv=>whnf
     ((conv in (Nat.ble _ _)=>tactic=>exact (show Nat.ble (0+(done.length:Int).toNat*1+1) (done.map PV.str++List.replicate (Lib.countByte r c+1) (PV.str [])).length=true by rw [Nat.ble_eq];simp));(conv=>whnf))
     rw [w64 (by simp;omega) (by simp;omega)]
     refine ⟨⟨by omega,by simp;omega,by simp;omega⟩,fun _=>?_,fun hc=>absurd (by omega) hc⟩
     conv=>whnf
     refine ⟨?_,done.length+1,?_⟩
     ·show PV.sref _ _ _ _=PV.sref _ _ _ _
      congr 1 <;> simp <;> omega
     ·show (H++[_]).set _ _=_
      rw [sL]
      show H++[PObj.mk _ (setCells (0+(done.length:Int).toNat*1) [PV.str r] (done.map .str++List.replicate (Lib.countByte r c+1) (.str []))) _]=_
      rw [tail i2]
    ·omega
   ·conv=>whnf
    rcases splitB_idx c r with ⟨i1,_⟩ | ⟨i,i1,i2,i3,i4⟩
    ·omega
    ·have h3:(done.length:Int)<(Lib.countByte s c:Int):=h3
     rw [w64 (by omega) (by omega)]
     refine ⟨⟨by omega,by omega,by show Lib.indexByte r c+0≤(r.length:Int);omega⟩,?_⟩
     conv=>whnf
     refine ⟨⟨by show (0:Int)≤done.length;omega,by show (done.length:Int)<_;omega⟩,?_⟩
     conv=>whnf
     rw [gL]
     conv=>whnf
     ((conv in (Nat.ble _ _)=>tactic=>exact (show Nat.ble (0+(done.length:Int).toNat*1+1) (done.map PV.str++List.replicate (Lib.countByte r c+1) (PV.str [])).length=true by rw [Nat.ble_eq];simp));(conv=>whnf))
     rw [w64 (by simp;omega) (by simp;omega)]
     refine ⟨⟨by simp;omega,by simp;omega,by simp⟩,?_⟩
     conv=>whnf
     have e1:((Lib.indexByte r c+([c].length:Int)).toNat)=i+1:=by rw [i1];simp
     have e2:(Lib.indexByte r c+0).toNat=i:=by rw [i1];simp
     refine ⟨(r.drop (i+1),done++[r.take i]),⟨?_,?_⟩,⟨?_,rfl,rfl,rfl,rfl,?_,trivial⟩,?_,?_⟩
     ·show (done++[r.take i])++splitB c (r.drop (i+1))=_
      rw [←h1,i3];simp
     ·show (r.drop (i+1)).length≤_
      rw [List.length_drop];omega
     ·show PV.str ((r.take ((r.length:Int).toNat)).drop ((Lib.indexByte r c+([c].length:Int)).toNat))=PV.str _
      rw [e1];simp
     ·show PV.int _ (IntKind.i64.wrap ((done.length:Int)+1))=PV.int _ _
      rw [w64 (by omega) (by omega)];simp
     ·show (H++[_]).set _ _=_
      rw [sL]
      show H++[PObj.mk _ (setCells (0+(done.length:Int).toNat*1) [PV.str ((r.take (Lib.indexByte r c+0).toNat).drop 0)] (done.map .str++List.replicate (Lib.countByte r c+1) (.str []))) _]=_
      rw [e2,i4,List.replicate_succ,setCells_one _ _ _ _ _ (by simp)]
      simp
     ·show (r.drop (i+1)).length<r.length
      rw [List.length_drop];omega
  ·conv=>whnf
   have h3:¬(done.length:Int)<(Lib.countByte s c:Int):=h3
   have i2:splitB c r=[r]:=by
    rcases splitB_idx c r with ⟨_,i2,_⟩ | ⟨i,_,_,_,i4⟩
    ·exact i2
    ·omega
   have i3:Lib.countByte r c=0:=by rw [i2] at hrl;simp at hrl;exact hrl
   refine ⟨⟨by show (0:Int)≤(done.length:Int);omega,by show (done.length:Int)<_;omega⟩,?_⟩
   conv=>whnf
   rw [gL]
   conv=>whnf
   ((conv in (Nat.ble _ _)=>tactic=>exact (show Nat.ble (0+(done.length:Int).toNat*1+1) (done.map PV.str++List.replicate (Lib.countByte r c+1) (PV.str [])).length=true by rw [Nat.ble_eq];simp));(conv=>whnf))
   rw [w64 (by simp;omega) (by simp;omega)]
   refine ⟨⟨by omega,by simp;omega,by simp;omega⟩,fun _=>?_,fun hc=>absurd (by omega) hc⟩
   conv=>whnf
   refine ⟨?_,done.length+1,?_⟩
   ·show PV.sref _ _ _ _=PV.sref _ _ _ _
    congr 1 <;> simp <;> omega
   ·show (H++[_]).set _ _=_
    rw [sL]
    show H++[PObj.mk _ (setCells (0+(done.length:Int).toNat*1) [PV.str r] (done.map .str++List.replicate (Lib.countByte r c+1) (.str []))) _]=_
    rw [tail i2]
def tt214:TT:=[(3,⟨.int .i64,1,8,[.int .i64 0]⟩),(9,⟨.str,1,16,[.str []]⟩),(88,⟨.slice 9,1,24,[.slice 0 [] (some 9)]⟩)]
theorem tt214_ok:ttOk prog tt214=true:=by kernel_rfl
def imm214:List Nat:=[]
def tt145:TT:=[(3,⟨.int .i64,1,8,[.int .i64 0]⟩),(9,⟨.str,1,16,[.str []]⟩),(88,⟨.slice 9,1,24,[.slice 0 [] (some 9)]⟩),(178,⟨.fn,1,8,[.nilF]⟩)]
theorem tt145_ok:ttOk prog tt145=true:=by kernel_rfl
def imm145:List Nat:=[]
theorem c237 (s:List UInt8) (c:UInt8) (H:PH) (hs:s.length≤1099511627776) :
  CK prog 237 [.str s,.str [c]] H fun r H' =>
   r=.sref H.length 0 (splitB c s).length (splitB c s).length∧∃v,H'=H++[⟨9,(splitB c s).map .str,v⟩]:=by
 (refine fnS (imm:=imm237) tt237_ok func237 ?_;(conv=>whnf))
 refine cO (c266 s c H hs) ?_
 rintro _ _ ⟨rfl,v,rfl⟩
 conv=>whnf
 exact ⟨rfl,v,rfl⟩
def idxF (p:List UInt8→Bool):List (List UInt8)→Int
 | []=>-1
 | x::l=>if p x then 0 else (if idxF p l<0 then -1 else idxF p l+1)
theorem idxF_cons (p:List UInt8→Bool) (x:List UInt8) (l:List (List UInt8)):idxF p (x::l)=if p x then 0 else (if idxF p l<0 then -1 else idxF p l+1):=rfl
theorem idxF_ge (p:List UInt8→Bool):∀l,-1≤idxF p l
 | []=>by simp [idxF]
 | x::l=>by
  have:=idxF_ge p l
  unfold idxF
  split
  ·omega
  ·split <;> omega
theorem idxF_neg (p:List UInt8→Bool):∀l,0≤idxF p l↔l.any p=true
 | []=>by simp [idxF]
 | x::l=>by
  have:=idxF_neg p l
  have h2:=idxF_ge p l
  unfold idxF
  cases hp:p x
  ·simp only [hp,List.any_cons,Bool.false_or]
   rw [←this]
   by_cases h:idxF p l<0
   ·simp [h]
   ·simp [h];omega
  ·simp [hp]
theorem c214 (f id n:Nat) (p:List UInt8→Bool) (l:List (List UInt8)) (T v:Nat) (H:PH) (hid:H[id]? = some ⟨T,l.map .str,v⟩) (hn:n=l.length) (hs:l.length≤1099511627776)
  (hp:∀x∈l,Pure prog f [.str x] (.bool (p x))):CK prog 214 [.sref id 0 n n,.func f [] []] H fun r H'=>r=.int .i64 (idxF p l)∧H'=H:=by
 subst hn
 (refine fnS (imm:=imm214) tt214_ok func214 ?_;(conv=>whnf))
 refine lO Nat (fun i=>[(0,.sref id 0 l.length l.length),(1,.func f [] []),(7,.int .i64 l.length),(8,.int .i64 i)]) (fun _=>H)
  (fun i=>i≤l.length∧idxF p l=if idxF p (l.drop i)<0 then -1 else idxF p (l.drop i)+i) (fun i=>l.length - i) ⟨0,⟨Nat.zero_le _,by have:=idxF_ge p l;simp;omega⟩,⟨rfl,rfl,rfl,rfl,trivial⟩,rfl⟩ ?_
 rintro i ⟨h1,h2⟩
 conv=>whnf
 refine ⟨fun h3=>?_,fun h3=>?_⟩
 ·conv=>whnf
  have h3:(i:Int)<l.length:=h3
  have hi:i<l.length:=by omega
  have hgi:=List.getElem?_eq_getElem hi
  refine ⟨⟨by omega,by omega⟩,?_⟩
  conv=>whnf
  rw [hid]
  conv=>whnf
  generalize hd:dropN _ _=L
  have hL:=dropN_cells PV.str l hgi
  rw [show L=_ from hd.symm.trans hL]
  conv=>whnf
  refine cP (hp _ (List.getElem_mem hi)) ?_
  have hdr:=List.drop_eq_getElem_cons hi
  have hge:=idxF_ge p (l.drop (i+1))
  rw [hdr,idxF_cons] at h2
  cases hb:p l[i]
  ·conv=>whnf
   rw [hb] at h2
   refine ⟨i+1,⟨by omega,?_⟩,⟨rfl,rfl,rfl,?_,trivial⟩,rfl,by omega⟩
   ·rw [h2]
    simp only [Bool.false_eq_true,if_false]
    split <;> split <;> (try split) <;> omega
   ·show PV.int _ (IntKind.i64.wrap ((i:Int)+1))=PV.int _ _
    rw [w64 (by omega) (by omega)];simp
  ·conv=>whnf
   rw [hb] at h2
   refine ⟨?_,rfl⟩
   show PV.int _ _=PV.int _ _
   rw [h2];simp
 ·conv=>whnf
  have h3:¬(i:Int)<l.length:=h3
  refine ⟨?_,rfl⟩
  show PV.int _ _=PV.int _ _
  rw [h2,List.drop_eq_nil_of_le (by omega)];simp [idxF]
theorem c145 (f id n:Nat) (p:List UInt8→Bool) (l:List (List UInt8)) (T v:Nat) (H:PH) (hid:H[id]? = some ⟨T,l.map .str,v⟩) (hn:n=l.length) (hs:l.length≤1099511627776)
  (hp:∀x∈l,Pure prog f [.str x] (.bool (p x))):CK prog 145 [.sref id 0 n n,.func f [] []] H fun r H'=>r=.bool (l.any p)∧H'=H:=by
 (refine fnS (imm:=imm145) tt145_ok func145 ?_;(conv=>whnf))
 refine cO (c214 f id n p l T v H hid hn hs hp) ?_
 rintro _ _ ⟨rfl,rfl⟩
 conv=>whnf
 have:=idxF_neg p l
 refine ⟨fun h=>?_,fun h=>?_⟩
 ·conv=>whnf
  exact ⟨by rw [this.1 h];rfl,rfl⟩
 ·conv=>whnf
  refine ⟨?_,rfl⟩
  cases hb:l.any p with
  | false=>rfl
  | true=>exact absurd (this.2 hb) h
def tt275:TT:=[(3,⟨.int .i64,1,8,[.int .i64 0]⟩),(9,⟨.str,1,16,[.str []]⟩),(88,⟨.slice 9,1,24,[.slice 0 [] (some 9)]⟩)]
theorem tt275_ok:ttOk prog tt275=true:=by kernel_rfl
def imm275:List Nat:=[]
def D275:Draw:={ imp:=[13,15],win:=[(2,0,1),(3,0,1),(14,1,1),(15,1,1)] }
structure RevS where
 i:Nat
 cur:List (List UInt8)
 v:Nat
theorem c275 (id n:Nat) (l:List (List UInt8)) (T v:Nat) (H:PH) (hid:H[id]? = some ⟨T,l.map .str,v⟩) (hn:n=l.length) (hs:l.length≤1099511627776) :
  CK prog 275 [.sref id 0 n n] H fun r H'=>r=.tup []∧∃v',H'=H.set id ⟨T,l.reverse.map .str,v'⟩:=by
 subst hn
 (refine fnS (imm:=imm275) tt275_ok func275 ?_;(conv=>whnf))
 refine lO RevS (fun x=>[(0,.sref id 0 l.length l.length),(2,.int .i64 x.i),(3,.int .i64 ((l.length:Int) - 1 - x.i))]) (fun x=>H.set id ⟨T,x.cur.map .str,x.v⟩)
  (fun x=>x.i≤l.length∧x.cur.length=l.length∧∀k,k<l.length→x.cur[k]? = if k<x.i∨l.length - x.i≤k then l[l.length - 1 - k]? else l[k]?) (fun x=>l.length - x.i)
  ⟨⟨0,l,v⟩,⟨Nat.zero_le _,rfl,fun k hk=>by rw [if_neg (by show ¬(k<0∨l.length - 0≤k);omega)]⟩,⟨rfl,rfl,?_,trivial⟩,(set_self hid).symm⟩ ?_
 ·show PV.int _ (IntKind.i64.wrap ((l.length:Int) - 1))=PV.int _ ((l.length:Int) - 1 - 0)
  rw [w64 (by omega) (by omega)];simp
 rintro ⟨i,cur,v⟩ ⟨h1,h2,h3⟩
 conv=>whnf
 refine ⟨fun h4=>?_,fun h4=>?_⟩
 ·conv=>whnf
  have h4:(i:Int)<(l.length:Int) - 1 - i:=h4
  have h2:cur.length=l.length:=h2
  have hi:i<cur.length:=by omega
  have hj:cur.length - 1 - i<cur.length:=by omega
  refine dO2 D275 [H.set id ⟨T,cur.map .str,v⟩,H.set id ⟨T,(cur.set i cur[cur.length - 1 - i]).map .str,v+1⟩,H.set id ⟨T,((cur.set i cur[cur.length - 1 - i]).set (cur.length - 1 - i) cur[i]).map .str,v+1+1⟩] (by kernel_rfl) rfl trivial ?_
  have g0:=gS (o':=⟨T,cur.map .str,v⟩) hid
  have hlen:H.length=H.length:=rfl
  conv=>whnf
  iterate 2 (refine dS ?_;(conv=>whnf))
  iterate 2 (refine dS2 ?_;(conv=>whnf))
  iterate 2 (refine dS ?_;(conv=>whnf))
  apply Exists.intro
  apply And.intro
  ·conv=>whnf
   refine ⟨⟨by omega,by omega⟩,rfl,rfl,trivial⟩
  conv=>whnf
  apply Exists.intro
  apply And.intro
  ·conv=>whnf
   ((conv in (_[_]?)=>tactic=>exact g0);(conv=>whnf))
   have e:((l.length:Int) - 1 - i).toNat=cur.length - 1 - i:=by omega
   have hL:dropN (0+((l.length:Int) - 1 - i).toNat*1) (cur.map PV.str)=PV.str cur[cur.length - 1 - i]::(cur.drop (cur.length - 1 - i+1)).map PV.str:=by rw [e];exact dropN_cells PV.str cur (List.getElem?_eq_getElem hj)
   generalize hd:dropN _ _=L
   rw [show L=_ from hd.symm.trans hL]
   conv=>whnf
   exact ⟨rfl,rfl,trivial⟩
  conv=>whnf
  iterate 2 (refine dS ?_;(conv=>whnf))
  apply Exists.intro
  apply And.intro
  ·conv=>whnf
   refine ⟨⟨by show (0:Int)≤(i:Int);omega,by show (i:Int)<l.length;omega⟩,rfl,rfl,trivial⟩
  conv=>whnf
  apply Exists.intro
  apply And.intro
  ·conv=>whnf
   ((conv in (_[_]?)=>tactic=>exact g0);(conv=>whnf))
   ((conv in (dropN _ _)=>tactic=>exact (dropN_cells PV.str cur (List.getElem?_eq_getElem hi)));(conv=>whnf))
   exact ⟨rfl,rfl,trivial⟩
  conv=>whnf
  apply Exists.intro
  apply And.intro
  ·conv=>whnf
   refine ⟨⟨by show (0:Int)≤(i:Int);omega,by show (i:Int)<l.length;omega⟩,rfl,rfl,trivial⟩
  conv=>whnf
  apply Exists.intro
  apply And.intro
  ·conv=>whnf
   ((conv in (_[_]?)=>tactic=>exact g0);(conv=>whnf))
   ((conv in (Nat.ble _ _)=>tactic=>exact (show Nat.ble (0+(i:Int).toNat*1+1) (cur.map PV.str).length=true by rw [Nat.ble_eq];simp;omega));(conv=>whnf))
   refine ⟨rfl,?_,trivial⟩
   show (H.set id ⟨T,cur.map .str,v⟩).set id ⟨T,setCells (0+(i:Int).toNat*1) [PV.str cur[cur.length - 1 - i]] (cur.map .str),v+1⟩=H.set id ⟨T,(cur.set i cur[cur.length - 1 - i]).map .str,v+1⟩
   rw [List.set_set,←setCells_map _ _ _ _ hi]
   simp
  conv=>whnf
  apply Exists.intro
  apply And.intro
  ·conv=>whnf
   refine ⟨⟨by omega,by omega⟩,rfl,rfl,trivial⟩
  conv=>whnf
  apply Exists.intro
  apply And.intro
  ·conv=>whnf
   ((conv in (_[_]?)=>tactic=>exact (gS (o':=⟨T,(cur.set i cur[cur.length - 1 - i]).map .str,v+1⟩) hid));(conv=>whnf))
   ((conv in (Nat.ble _ _)=>tactic=>exact (show Nat.ble (0+((l.length:Int) - 1 - i).toNat*1+1) ((cur.set i cur[cur.length - 1 - i]).map PV.str).length=true by rw [Nat.ble_eq];simp;omega));(conv=>whnf))
   refine ⟨rfl,?_,trivial⟩
   show (H.set id ⟨T,(cur.set i cur[cur.length - 1 - i]).map .str,v+1⟩).set id ⟨T,setCells (0+((l.length:Int) - 1 - i).toNat*1) [PV.str cur[i]] ((cur.set i cur[cur.length - 1 - i]).map .str),v+1+1⟩=H.set id _
   have e:0+((l.length:Int) - 1 - i).toNat*1=cur.length - 1 - i:=by omega
   rw [List.set_set,e,setCells_map PV.str (cur.set i cur[cur.length - 1 - i]) (cur.length - 1 - i) cur[i] (by simpa using hj)]
  conv=>whnf
  refine ⟨⟨i+1,(cur.set i cur[cur.length - 1 - i]).set (cur.length - 1 - i) cur[i],v+1+1⟩,⟨?_,?_,?_⟩,⟨rfl,?_,?_,trivial⟩,rfl,?_⟩
  ·show i+1≤l.length;omega
  ·show List.length _=_;simp;exact h2
  ·intro k hk
   show ((cur.set i _).set _ _)[k]? = if k<i+1∨l.length - (i+1)≤k then _ else _
   have h3k:=h3 k hk
   have h3k:cur[k]? = if k<i∨l.length - i≤k then l[l.length - 1 - k]? else l[k]?:=h3k
   have h3i:cur[i]? = if i<i∨l.length - i≤i then l[l.length - 1 - i]? else l[i]?:=h3 i (by omega)
   have h3j:cur[cur.length - 1 - i]? = if cur.length - 1 - i<i∨l.length - i≤cur.length - 1 - i then l[l.length - 1 - (cur.length - 1 - i)]? else l[cur.length - 1 - i]?:=h3 _ (by omega)
   rw [if_neg (by omega),List.getElem?_eq_getElem hi] at h3i
   rw [if_neg (by omega),List.getElem?_eq_getElem hj] at h3j
   simp only [List.getElem?_set]
   by_cases e1:cur.length - 1 - i=k
   ·subst e1
    rw [if_pos rfl,if_pos (by simpa using hj),if_pos (by omega),h3i]
    congr 1;omega
   ·rw [if_neg e1]
    by_cases e2:i=k
    ·subst e2
     rw [if_pos rfl,if_pos hi,if_pos (by omega),h3j]
     congr 1;omega
    ·rw [if_neg e2,h3k]
     by_cases e3:k<i∨l.length - i≤k
     ·rw [if_pos e3,if_pos (by omega)]
     ·rw [if_neg e3,if_neg (by omega)]
  ·show PV.int _ (IntKind.i64.wrap ((i:Int)+1))=PV.int _ _
   rw [w64 (by omega) (by omega)];simp
  ·show PV.int _ (IntKind.i64.wrap ((l.length:Int) - 1 - i - 1))=PV.int _ ((l.length:Int) - 1 - ((i+1:Nat):Int))
   rw [w64 (by omega) (by omega)];congr 1;omega
  ·show l.length - (i+1)<l.length - i
   omega
 ·conv=>whnf
  have h2:cur.length=l.length:=h2
  have h4:¬(i:Int)<(l.length:Int) - 1 - i:=h4
  have h1:i≤l.length:=h1
  refine ⟨rfl,v,?_⟩
  have hc:cur=l.reverse:=by
   apply List.ext_getElem?
   intro k
   rcases Nat.lt_or_ge k l.length with hk | hk
   ·have h3k:cur[k]? = if k<i∨l.length - i≤k then l[l.length - 1 - k]? else l[k]?:=h3 k hk
    rw [h3k,List.getElem?_reverse hk]
    by_cases e3:k<i∨l.length - i≤k
    ·rw [if_pos e3]
    ·rw [if_neg e3];congr 1;omega
   ·rw [List.getElem?_eq_none (by omega),List.getElem?_eq_none (by simpa using hk)]
  show H.set id ⟨T,cur.map PV.str,v⟩=_
  rw [hc]
def tt278:TT:=[(4,⟨.bool,1,1,[.bool false]⟩),(348,⟨.arr 256 4,256,256,List.replicate 256 (.bool false)⟩)]
theorem tt278_ok:ttOk prog tt278=true:=by kernel_rfl
def imm278:List Nat:=[]
def tt250:TT:=[(3,⟨.int .i64,1,8,[.int .i64 0]⟩),(4,⟨.bool,1,1,[.bool false]⟩),(5,⟨.int .u8,1,1,[.int .u8 0]⟩),(9,⟨.str,1,16,[.str []]⟩),(348,⟨.arr 256 4,256,256,List.replicate 256 (.bool false)⟩)]
theorem tt250_ok:ttOk prog tt250=true:=by kernel_rfl
def imm250:List Nat:=[]
def tt251:TT:=[(3,⟨.int .i64,1,8,[.int .i64 0]⟩),(4,⟨.bool,1,1,[.bool false]⟩),(5,⟨.int .u8,1,1,[.int .u8 0]⟩),(9,⟨.str,1,16,[.str []]⟩),(352,⟨.ptr,1,8,[.ptr none]⟩)]
theorem tt251_ok:ttOk prog tt251=true:=by kernel_rfl
def imm251:List Nat:=[]
def tt252:TT:=[(3,⟨.int .i64,1,8,[.int .i64 0]⟩),(4,⟨.bool,1,1,[.bool false]⟩),(5,⟨.int .u8,1,1,[.int .u8 0]⟩),(9,⟨.str,1,16,[.str []]⟩),(352,⟨.ptr,1,8,[.ptr none]⟩)]
theorem tt252_ok:ttOk prog tt252=true:=by kernel_rfl
def imm252:List Nat:=[]
def tt217:TT:=[(3,⟨.int .i64,1,8,[.int .i64 0]⟩),(4,⟨.bool,1,1,[.bool false]⟩),(5,⟨.int .u8,1,1,[.int .u8 0]⟩),(9,⟨.str,1,16,[.str []]⟩),(348,⟨.arr 256 4,256,256,List.replicate 256 (.bool false)⟩),(352,⟨.ptr,1,8,[.ptr none]⟩)]
theorem tt217_ok:ttOk prog tt217=true:=by kernel_rfl
def imm217:List Nat:=[]
def tt153:TT:=[(3,⟨.int .i64,1,8,[.int .i64 0]⟩),(9,⟨.str,1,16,[.str []]⟩)]
theorem tt153_ok:ttOk prog tt153=true:=by kernel_rfl
def imm153:List Nat:=[]
def tabB (p:Nat→Bool):List PV:=(List.range 256).map fun k=>.bool (p k)
theorem tabB_get (p:Nat→Bool) (c:UInt8):dropN (0+(c.toNat:Int).toNat*1) (tabB p)=.bool (p c.toNat)::(((List.range 256).drop (c.toNat+1)).map fun k=>.bool (p k)):=by
 have hc:c.toNat<256:=c.toNat_lt
 have h:(List.range 256)[c.toNat]? = some c.toNat:=by simp [hc]
 exact dropN_cells (fun k=>PV.bool (p k)) _ h
theorem c278 (p:Nat→Bool) (id T v:Nat) (c:UInt8) (H:PH) (hid:H[id]? = some ⟨T,tabB p,v⟩):CK prog 278 [.ptr (some (id,0)),bC c] H fun r H'=>r=.bool (p c.toNat)∧H'=H:=by
 have hc:c.toNat<256:=c.toNat_lt
 (refine fnS (imm:=imm278) tt278_ok func278 ?_;(conv=>whnf))
 refine ⟨⟨by omega,by omega⟩,?_⟩
 conv=>whnf
 ((conv in (_[_]?)=>tactic=>exact hid);(conv=>whnf))
 ((conv in (dropN _ _)=>tactic=>exact (tabB_get p c));(conv=>whnf))
 exact ⟨rfl,rfl⟩
theorem c251 (p:Nat→Bool) (id T v:Nat) (s:List UInt8) (H:PH) (hid:H[id]? = some ⟨T,tabB p,v⟩) (hs:s.length≤1099511627776) :
  CK prog 251 [.str s,.ptr (some (id,0))] H fun r H'=>r=.str (s.dropWhile fun c=>p c.toNat)∧H'=H:=by
 (refine fnS (imm:=imm251) tt251_ok func251 ?_;(conv=>whnf))
 refine lO (List UInt8) (fun x=>[(0,.str x),(1,.ptr (some (id,0)))]) (fun _=>H) (fun x=>x.dropWhile (fun c=>p c.toNat)=s.dropWhile (fun c=>p c.toNat)) (fun x=>x.length) ⟨s,rfl,⟨rfl,rfl,trivial⟩,rfl⟩ ?_
 intro x hx
 conv=>whnf
 refine ⟨fun h=>?_,fun h=>?_⟩
 ·conv=>whnf
  cases x with
  | nil=>simp at h
  | cons c x =>
   refine ⟨⟨by omega,by simp⟩,c,rfl,?_⟩
   conv=>whnf
   refine cO (c278 p id T v c H hid) ?_
   rintro _ _ ⟨rfl,rfl⟩
   cases hb:p c.toNat
   ·conv=>whnf
    refine ⟨?_,rfl⟩
    rw [←hx];simp [hb,tupOf]
   ·conv=>whnf
    refine ⟨⟨by omega,by simp <;> omega,by simp⟩,?_⟩
    conv=>whnf
    refine ⟨x,?_,⟨?_,rfl,trivial⟩,rfl,by simp⟩
    ·rw [←hx];simp [hb]
    ·show PV.str _=PV.str _
     simp
 ·conv=>whnf
  have:x=[]:=by
   cases x with
   | nil=>rfl
   | cons c x=>exact absurd (by simp <;> omega) h
  subst this
  refine ⟨?_,rfl⟩
  rw [←hx];rfl
def trimR (p:UInt8→Bool) (s:List UInt8):List UInt8:=(s.reverse.dropWhile p).reverse
theorem trimR_concat (p:UInt8→Bool) (x:List UInt8) (c:UInt8):trimR p (x++[c])=if p c then trimR p x else x++[c]:=by
 unfold trimR
 simp only [List.reverse_append,List.reverse_cons,List.reverse_nil,List.nil_append,List.singleton_append,List.dropWhile_cons]
 split <;> simp
theorem c252 (p:Nat→Bool) (id T v:Nat) (s:List UInt8) (H:PH) (hid:H[id]? = some ⟨T,tabB p,v⟩) (hs:s.length≤1099511627776) :
  CK prog 252 [.str s,.ptr (some (id,0))] H fun r H'=>r=.str (trimR (fun c=>p c.toNat) s)∧H'=H:=by
 (refine fnS (imm:=imm252) tt252_ok func252 ?_;(conv=>whnf))
 refine lO (List UInt8) (fun x=>[(0,.str x),(1,.ptr (some (id,0)))]) (fun _=>H) (fun x=>x.length≤s.length∧trimR (fun c=>p c.toNat) x=trimR (fun c=>p c.toNat) s) (fun x=>x.length) ⟨s,⟨Nat.le_refl _,rfl⟩,⟨rfl,rfl,trivial⟩,rfl⟩ ?_
 rintro x ⟨hl,hx⟩
 conv=>whnf
 rcases List.eq_nil_or_concat x with rfl | ⟨x,c,rfl⟩
 ·refine ⟨fun h=>absurd h (by simp),fun h=>?_⟩
  conv=>whnf
  refine ⟨?_,rfl⟩
  rw [←hx];rfl
 ·refine ⟨fun h=>?_,fun h=>absurd (by simp <;> omega) h⟩
  simp only [List.concat_eq_append] at *
  have hl':x.length+1≤s.length:=by simpa using hl
  conv=>whnf
  have e:((IntKind.i64.wrap (((x++[c]).length:Int) - 1)))=(x.length:Int):=by
   rw [w64 (by simp <;> omega) (by simp <;> omega)];simp
  refine ⟨by show 0≤IntKind.i64.wrap _∧IntKind.i64.wrap _<_;rw [e];simp;omega,c,?_,?_⟩
  ·show (x++[c])[(IntKind.i64.wrap (((x++[c]).length:Int) - 1)).toNat]? = some c
   rw [e];simp
  conv=>whnf
  refine cO (c278 p id T v c H hid) ?_
  rintro _ _ ⟨rfl,rfl⟩
  rw [trimR_concat] at hx
  cases hb:p c.toNat
  ·conv=>whnf
   refine ⟨?_,rfl⟩
   rw [←hx];simp [hb,tupOf]
  ·conv=>whnf
   refine ⟨by show 0≤0∧0≤IntKind.i64.wrap _∧IntKind.i64.wrap _≤_;rw [e];simp;omega,?_⟩
   conv=>whnf
   refine ⟨x,⟨by omega,?_⟩,⟨?_,rfl,trivial⟩,rfl,by simp⟩
   ·rw [←hx];simp [hb]
   ·show PV.str (((x++[c]).take (IntKind.i64.wrap (((x++[c]).length:Int) - 1)).toNat).drop (Int.toNat 0))=PV.str _
    rw [e];simp
theorem tabB_len (p:Nat→Bool):(tabB p).length=256:=by simp [tabB]
theorem tabB_set (p:Nat→Bool) (c:UInt8):setCells (0+(c.toNat:Int).toNat*1) [.bool true] (tabB p)=tabB fun k=>p k||(c.toNat==k):=by
 have hc:c.toNat<256:=c.toNat_lt
 apply List.ext_getElem?
 intro j
 rw [setCells_get _ _ _ (by simp [tabB];omega)]
 simp only [tabB,List.getElem?_map,List.length_cons,List.length_nil]
 by_cases hj:j<256
 ·rw [List.getElem?_range hj]
  by_cases e:j=c.toNat
  ·subst e;simp
  ·rw [if_neg (by omega)]
   have:(c.toNat==j)=false:=by simpa using fun h=>e h.symm
   simp [this]
 ·have hn:(List.range 256)[j]? = none:=List.getElem?_eq_none (by simpa using hj)
  rw [if_neg (by omega),hn];rfl
theorem tabB_self (p:Nat→Bool):setCells 0 (cellsOf (.agg (((tabB p).take 256).map dem))) (tabB p)=tabB p:=by
 have h:((tabB p).take 256).map dem=tabB p:=by
  rw [List.take_of_length_le (by simp [tabB])]
  simp [tabB,dem]
 rw [h,setCells_eq _ _ _ (by simp [cellsOf])]
 simp [cellsOf]
theorem tabB_dem (p:Nat→Bool):((tabB p).take 256).map dem=tabB p:=by
 rw [List.take_of_length_le (by simp [tabB])]
 simp [tabB,dem]
theorem oldPs_tab (p:Nat→Bool):oldPs (tabB p)=true:=by
 unfold tabB
 generalize List.range 256=l
 induction l with
 | nil=>rfl
 | cons a l ih=>simp [oldPs,oldP,ih]
def inB (s:List UInt8) (k:Nat):Bool:=s.any fun c=>c.toNat==k
theorem c250 (s:List UInt8) (h0:∀c∈s,c.toNat<128) (hs:s.length≤1099511627776):Pure prog 250 [.str s] (.tup [.agg (tabB (inB s)),.bool true]):=by
 refine Pure.of_gc (by simp [oldR,oldPs,oldP,oldPs_tab]) fun H=>?_
 (refine fnS (imm:=imm250) tt250_ok func250 ?_;(conv=>whnf))
 refine lO Nat (fun i=>[(0,.str s),(2,.ptr (some (H.length,0))),(4,.int .i64 i)]) (fun i=>H++[⟨348,tabB (inB (s.take i)),i⟩]) (fun i=>i≤s.length) (fun i=>s.length - i) ⟨0,Nat.zero_le _,⟨rfl,rfl,rfl,trivial⟩,?_⟩ ?_
 ·show H++[PObj.mk _ _ _]=H++[PObj.mk _ _ _]
  congr 3
 rintro i hi
 conv=>whnf
 refine ⟨fun h=>?_,fun h=>?_⟩
 ·conv=>whnf
  have h:(i:Int)<s.length:=h
  have hi':i<s.length:=by omega
  refine ⟨⟨by omega,h⟩,s[i],List.getElem?_eq_getElem hi',?_⟩
  conv=>whnf
  have hc:=h0 s[i] (List.getElem_mem hi')
  refine ⟨fun h2=>absurd h2 (by omega),fun _=>?_⟩
  conv=>whnf
  refine ⟨⟨by omega,by omega⟩,?_⟩
  conv=>whnf
  ((conv in (_[_]?)=>tactic=>exact (gL H ⟨348,tabB (inB (s.take i)),i⟩));(conv=>whnf))
  ((conv in (Nat.ble _ _)=>tactic=>exact (show Nat.ble (0+(s[i].toNat:Int).toNat*1+1) (tabB (inB (s.take i))).length=true by rw [Nat.ble_eq,tabB_len];omega));(conv=>whnf))
  refine ⟨i+1,by omega,⟨rfl,rfl,?_,trivial⟩,?_,by omega⟩
  ·show PV.int _ (IntKind.i64.wrap ((i:Int)+1))=PV.int _ _
   rw [w64 (by omega) (by omega)];simp
  ·show (H++[_]).set _ _=_
   rw [sL]
   show H++[PObj.mk _ (setCells (0+(s[i].toNat:Int).toNat*1) [.bool true] (tabB (inB (s.take i)))) _]=H++[PObj.mk _ _ _]
   rw [tabB_set]
   have:inB (s.take (i+1))=fun k=>inB (s.take i) k||(s[i].toNat==k):=by
    funext k
    unfold inB
    rw [List.take_succ_eq_append_getElem hi',List.any_append]
    simp only [List.any_cons,List.any_nil,Bool.or_false]
   rw [this]
 ·conv=>whnf
  have h:¬(i:Int)<s.length:=h
  have e:s.take i=s:=List.take_of_length_le (by omega)
  rw [e,gL]
  conv=>whnf
  rw [gL]
  conv=>whnf
  have h2:((H++[PObj.mk 348 (tabB (inB s)) i]).set H.length ⟨348,setCells 0 (cellsOf (.agg (((tabB (inB s)).take 256).map dem))) (tabB (inB s)),i+1⟩)[H.length]? = some ⟨348,tabB (inB s),i+1⟩:=by
   rw [sL,tabB_self,gL]
  generalize hh:(setH _ _ _ _)[List.length H]? = X
  rw [show X=_ from hh.symm.trans h2]
  conv=>whnf
  refine ⟨?_,[⟨348,tabB (inB s),i+1⟩],?_⟩
  ·show PV.tup [.agg (((tabB (inB s)).take 256).map dem),.bool true]=_
   rw [tabB_dem]
  ·show (H++[PObj.mk 348 (tabB (inB s)) i]).set H.length ⟨348,setCells 0 (cellsOf (.agg (((tabB (inB s)).take 256).map dem))) (tabB (inB s)),i+1⟩=_
   rw [sL,tabB_self]
def trimB (s set:List UInt8):List UInt8:=(trimR (fun c=>inB set c.toNat) s).dropWhile fun c=>inB set c.toNat
theorem c217 (s set:List UInt8) (h0:∀c∈set,c.toNat<128) (h1:2≤set.length) (h2:set.length≤1099511627776) (hs:s.length≤1099511627776) :
  Pure prog 217 [.str s,.str set] (.str (trimB s set)):=by
 refine Pure.of_gc rfl fun H=>?_
 (refine fnS (imm:=imm217) tt217_ok func217 ?_;(conv=>whnf))
 refine ⟨fun h=>?_,fun h=>?_⟩
 ·have h:s=[]:=h
  subst h
  conv=>whnf
  exact ⟨rfl,[],by simp⟩
 conv=>whnf
 refine ⟨fun h=>?_,fun h=>?_⟩
 ·have h:set=[]:=h
  subst h
  simp at h1
 conv=>whnf
 refine ⟨fun h=>absurd h (by omega),fun h=>?_⟩
 conv=>whnf
 refine cP (c250 set h0 h2) ?_
 conv=>whnf
 rw [gL]
 conv=>whnf
 have hz:setCells 0 (tabB (inB set)) (List.replicate 256 (PV.bool false))=tabB (inB set):=by
  rw [setCells_eq _ _ _ (by simp [tabB])]
  simp [tabB]
 have hone:(tabB (inB set)).all oneP=true:=by simp [tabB,oneP]
 have hH:(H++[PObj.mk 348 (List.replicate 256 (PV.bool false)) 0]).set H.length ⟨348,setCells 0 (tabB (inB set)) (List.replicate 256 (PV.bool false)),0+1⟩=H++[⟨348,tabB (inB set),0+1⟩]:=by
  rw [sL,hz]
 refine cO (Q:=fun r H'=>r=.str (trimR (fun c=>inB set c.toNat) s)∧H'=H++[⟨348,tabB (inB set),0+1⟩]) ?_ ?_
 ·show CK prog 252 _ ((H++[PObj.mk 348 (List.replicate 256 (PV.bool false)) 0]).set H.length ⟨348,setCells 0 (tabB (inB set)) (List.replicate 256 (PV.bool false)),0+1⟩) _
  rw [hH]
  exact c252 (inB set) H.length 348 (0+1) s _ (gL H _) hs
 rintro _ _ ⟨rfl,rfl⟩
 conv=>whnf
 have hl:(trimR (fun c=>inB set c.toNat) s).length≤s.length:=by
  unfold trimR
  rw [List.length_reverse]
  exact Nat.le_trans (List.dropWhile_sublist _).length_le (by simp)
 refine cO (c251 (inB set) H.length 348 (0+1) (trimR (fun c=>inB set c.toNat) s) _ (gL H _) (by omega)) ?_
 rintro _ _ ⟨rfl,rfl⟩
 conv=>whnf
 exact ⟨rfl,_,rfl⟩
theorem takeWhile_mem {p:UInt8→Bool} {c:UInt8}:∀{l:List UInt8},c∈l.takeWhile p→p c=true
 | [],h=>by simp at h
 | x::l,h=>by
  rw [List.takeWhile_cons] at h
  split at h
  ·rcases List.mem_cons.1 h with rfl | h
   ·assumption
   ·exact takeWhile_mem h
  ·simp at h
theorem dropWhile_nil' (p:UInt8→Bool):∀l:List UInt8,l.dropWhile p=[]↔∀x∈l,p x=true
 | []=>by simp
 | x::l=>by
  have:=dropWhile_nil' p l
  rw [List.dropWhile_cons]
  cases h:p x
  ·simp [h]
  ·simp [h,this]
theorem trimB_nil (s set:List UInt8):trimB s set=[]↔s.all (fun c=>inB set c.toNat)=true:=by
 unfold trimB trimR
 rw [dropWhile_nil']
 constructor
 ·intro h
  rw [List.all_eq_true]
  intro c hc
  by_cases hd:c∈(s.reverse.dropWhile fun c=>inB set c.toNat).reverse
  ·exact h c hd
  ·have:c∈s.reverse:=by simpa using hc
   rw [←List.takeWhile_append_dropWhile (p:=fun c=>inB set c.toNat) (l:=s.reverse)] at this
   rcases List.mem_append.1 this with h2 | h2
   ·exact takeWhile_mem h2
   ·exact absurd (by simpa using h2) hd
 ·intro h c hc
  rw [List.all_eq_true] at h
  have hc2:c∈s.reverse:=(List.dropWhile_sublist _).subset (by simpa using hc)
  exact h c (by simpa using hc2)
def tt276:TT:=[(4,⟨.bool,1,1,[.bool false]⟩),(9,⟨.str,1,16,[.str []]⟩)]
theorem tt276_ok:ttOk prog tt276=true:=by kernel_rfl
def imm276:List Nat:=[]
def tt246:TT:=[(3,⟨.int .i64,1,8,[.int .i64 0]⟩),(9,⟨.str,1,16,[.str []]⟩),(88,⟨.slice 9,1,24,[.slice 0 [] (some 9)]⟩),(178,⟨.fn,1,8,[.nilF]⟩)]
theorem tt246_ok:ttOk prog tt246=true:=by kernel_rfl
def imm246:List Nat:=[]
def tt215:TT:=[(9,⟨.str,1,16,[.str []]⟩)]
theorem tt215_ok:ttOk prog tt215=true:=by kernel_rfl
def imm215:List Nat:=[]
def tt147:TT:=[(3,⟨.int .i64,1,8,[.int .i64 0]⟩),(9,⟨.str,1,16,[.str []]⟩)]
theorem tt147_ok:ttOk prog tt147=true:=by kernel_rfl
def imm147:List Nat:=[]
def tt152:TT:=[(4,⟨.bool,1,1,[.bool false]⟩),(9,⟨.str,1,16,[.str []]⟩)]
theorem tt152_ok:ttOk prog tt152=true:=by kernel_rfl
def imm152:List Nat:=[]
def tt97:TT:=[(9,⟨.str,1,16,[.str []]⟩),(25,⟨.strct [(9,0),(9,1)],2,32,[.str [],.str []]⟩)]
theorem tt97_ok:ttOk prog tt97=true:=by kernel_rfl
def imm97:List Nat:=[1]
def isWordB (s set:List UInt8):Bool:=decide (s≠[])&&(decide (s.length≤8)&&s.all (fun c=>inB set c.toNat))
theorem c153 (s set:List UInt8) (h0:∀c∈set,c.toNat<128) (h1:2≤set.length) (h2:set.length≤1099511627776):Pure prog 153 [.str s,.str set] (.bool (isWordB s set)):=by
 intro H
 (refine fnS (imm:=imm153) tt153_ok func153 ?_;(conv=>whnf))
 refine ⟨fun h=>?_,fun h=>?_⟩
 ·have h:s=[]:=h
  subst h
  conv=>whnf
  exact ⟨rfl,rfl⟩
 conv=>whnf
 have h:¬s=[]:=h
 refine ⟨fun h3=>?_,fun h3=>?_⟩
 ·conv=>whnf
  refine cP (c217 s set h0 h1 h2 (by omega)) ?_
  conv=>whnf
  refine ⟨fun h4=>?_,fun h4=>?_⟩
  ·conv=>whnf
   have:=(trimB_nil s set).1 h4
   refine ⟨?_,rfl⟩
   show PV.bool true=_
   unfold isWordB
   rw [this]
   have:s.length≤8:=by omega
   simp [h,this]
  ·conv=>whnf
   refine ⟨?_,rfl⟩
   show PV.bool false=_
   have:¬s.all (fun c=>inB set c.toNat)=true:=fun e=>h4 ((trimB_nil s set).2 e)
   unfold isWordB
   rw [Bool.not_eq_true] at this
   rw [this]
   simp
 ·conv=>whnf
  refine ⟨?_,rfl⟩
  show PV.bool false=_
  have:¬s.length≤8:=by omega
  unfold isWordB
  simp [this]
def upperB:List UInt8:=[65,66,67,68,69,70,71,72,73,74,75,76,77,78,79,80,81,82,83,84,85,86,87,88,89,90]
theorem c276 (s:List UInt8):Pure prog 276 [.str s] (.bool (!isWordB s upperB)):=by
 intro H
 (refine fnS (imm:=imm276) tt276_ok func276 ?_;(conv=>whnf))
 refine cP (c153 s upperB (by decide) (by decide) (by decide)) ?_
 cases isWordB s upperB
 ·conv=>whnf
  exact ⟨rfl,rfl⟩
 ·conv=>whnf
  exact ⟨rfl,rfl⟩
def badL (l:List (List UInt8)):Bool:=decide (4<l.length)||l.any fun s=>!isWordB s upperB
def labelsB (r:List UInt8):Nat×List (List UInt8):=match r with
 | 47::t=>if badL (splitB 47 t) then (0,[]) else (2,splitB 47 t)
 | _=>if badL (splitB 46 r) then (0,[]) else (1,(splitB 46 r).reverse)
def LabRes (r:List UInt8) (H:PH) (x:PV) (H':PH):Prop:=∃ext,H'=H++ext ∧
 (((labelsB r).1=0∧x=.tup [.slice 0 [] (some 9),.int .i64 0]) ∨
  ((labelsB r).1≠0∧∃id v,x=.tup [.sref id 0 (labelsB r).2.length (labelsB r).2.length,.int .i64 (labelsB r).1]∧H'[id]? = some ⟨9,(labelsB r).2.map .str,v⟩))
theorem c246 (r : List UInt8) (H : PH) (hs : r.length ≤ 1099511627775) : CK prog 246 [.str r] H (LabRes r H) := by
  (refine fnS (imm := imm246) tt246_ok func246 ?_; (conv => whnf))
  refine cO (c237 r 46 H (by omega)) ?_
  rintro _ _ ⟨rfl, v, rfl⟩
  conv => whnf
  refine cP (c268 r [47]) ?_
  cases hb : [47].isPrefixOf r
  · conv => whnf
    refine cO (c275 H.length _ (splitB 46 r) 9 v _ (gL H _) rfl (by have := countB_le 46 r; have := splitB_len 46 r; omega)) ?_
    rintro _ _ ⟨rfl, v', rfl⟩
    rw [sL]
    have hlb : labelsB r = if badL (splitB 46 r) then (0, []) else (1, (splitB 46 r).reverse) := by
      unfold labelsB
      split
      · simp at hb
      · rfl
    have hany : ((splitB 46 r).reverse).any (fun s => !isWordB s upperB) = (splitB 46 r).any (fun s => !isWordB s upperB) := by rw [List.any_reverse]
    have hn : (splitB 46 r).length = (splitB 46 r).reverse.length := by simp
    conv => whnf
    refine ⟨fun h4 => ?_, fun h4 => ?_⟩
    · conv => whnf
      have hbad : badL (splitB 46 r) = true := by unfold badL; have : 4 < (splitB 46 r).length := by omega
                                                  simp [this]
      refine ⟨_, rfl, .inl ⟨by rw [hlb, hbad]; rfl, rfl⟩⟩
    · conv => whnf
      refine cO (c145 276 H.length _ (fun s => !isWordB s upperB) (splitB 46 r).reverse 9 v' _ (gL H _) hn (by omega) (fun x _ => c276 x)) ?_
      rintro _ _ ⟨rfl, rfl⟩
      rw [hany]
      have h4' : ¬ 4 < (splitB 46 r).length := by omega
      cases hany2 : (splitB 46 r).any (fun s => !isWordB s upperB)
      · conv => whnf
        have hbad : badL (splitB 46 r) = false := by unfold badL; rw [hany2]; simp [h4']
        refine ⟨_, rfl, .inr ⟨by rw [hlb, hbad]; simp, H.length, v', ?_, ?_⟩⟩
        · rw [hlb, hbad]
          show PV.tup _ = PV.tup _
          simp
        · rw [gL, hlb, hbad]; rfl
      · conv => whnf
        have hbad : badL (splitB 46 r) = true := by unfold badL; rw [hany2]; simp
        refine ⟨_, rfl, .inl ⟨by rw [hlb, hbad]; rfl, rfl⟩⟩
  · obtain ⟨t, rfl⟩ : ∃ t, r = 47 :: t := by
      cases r with
      | nil => simp at hb
      | cons x t => 
        have hx : x = 47 := by simpa using (by simpa using hb : (47 : UInt8) = x).symm
        exact ⟨t, by rw [hx]⟩
    conv => whnf
    refine ⟨⟨by omega, by simp <;> omega, by simp⟩, ?_⟩
    have hst : t.length ≤ 1099511627776 := by simp at hs; omega
    have hc := countB_le 47 t
    have hc2 := splitB_len 47 t
    conv => whnf
    refine cO (Q := fun r H' => r = .sref (H ++ [PObj.mk 9 ((splitB 46 (47 :: t)).map .str) v]).length 0 (splitB 47 t).length (splitB 47 t).length ∧ ∃ v2, H' = (H ++ [PObj.mk 9 ((splitB 46 (47 :: t)).map .str) v]) ++ [⟨9, (splitB 47 t).map .str, v2⟩]) ?_ ?_
    · show CK prog 237 [.str (((47 :: t).take ((47 :: t).length : Int).toNat).drop (1 : Int).toNat), .str [47]] _ _
      have e : ((47 :: t).take ((47 :: t).length : Int).toNat).drop (1 : Int).toNat = t := by simp
      rw [e]
      exact c237 t 47 _ hst
    rintro _ _ ⟨rfl, v2, rfl⟩
    conv => whnf
    have hlb : labelsB (47 :: t) = if badL (splitB 47 t) then (0, []) else (2, splitB 47 t) := rfl
    refine ⟨fun h4 => ?_, fun h4 => ?_⟩
    · conv => whnf
      have hbad : badL (splitB 47 t) = true := by
        unfold badL
        have : 4 < (splitB 47 t).length := by omega
        simp [this]
      refine ⟨_, List.append_assoc _ _ _, .inl ⟨by rw [hlb, hbad]; rfl, rfl⟩⟩
    · conv => whnf
      refine cO (c145 276 _ _ (fun s => !isWordB s upperB) (splitB 47 t) 9 v2 _ (gL _ _) rfl (by omega) (fun x _ => c276 x)) ?_
      rintro _ _ ⟨rfl, rfl⟩
      have h4' : ¬ 4 < (splitB 47 t).length := by omega
      cases hany2 : (splitB 47 t).any (fun s => !isWordB s upperB)
      · conv => whnf
        have hbad : badL (splitB 47 t) = false := by unfold badL; rw [hany2]; simp [h4']
        refine ⟨_, List.append_assoc _ _ _, .inr ⟨by rw [hlb, hbad]; simp, (H ++ [PObj.mk 9 ((splitB 46 (47 :: t)).map .str) v]).length, v2, ?_, ?_⟩⟩
        · rw [hlb, hbad]; rfl
        · rw [gL, hlb, hbad]; rfl
      · conv => whnf
        have hbad : badL (splitB 47 t) = true := by unfold badL; rw [hany2]; simp
        refine ⟨_, List.append_assoc _ _ _, .inl ⟨by rw [hlb, hbad]; rfl, rfl⟩⟩
theorem c215 (r:List UInt8) (hs:r.length≤1099511627775):Pure prog 215 [.str r] (.int .i64 (labelsB r).1):=by
 refine Pure.of_gc rfl fun H=>?_
 (refine fnS (imm:=imm215) tt215_ok func215 ?_;(conv=>whnf))
 refine cO (c246 r H hs) ?_
 rintro _ _ ⟨ext,rfl,⟨h1,rfl⟩ | ⟨h1,id,v,rfl,h2⟩⟩
 ·conv=>whnf
  exact ⟨by rw [h1];rfl,ext,rfl⟩
 ·conv=>whnf
  exact ⟨rfl,ext,rfl⟩
theorem c147 (r:List UInt8) (hs:r.length≤1099511627775):Pure prog 147 [.str r] (.bool (decide ((labelsB r).1≠0))):=by
 intro H
 (refine fnS (imm:=imm147) tt147_ok func147 ?_;(conv=>whnf))
 refine cP (c215 r hs) ?_
 conv=>whnf
 refine ⟨fun h=>?_,fun h=>?_⟩
 ·conv=>whnf
  have:(labelsB r).1=0:=by omega
  exact ⟨by simp [this,tupOf],rfl⟩
 ·conv=>whnf
  have:(labelsB r).1≠0:=by omega
  exact ⟨by simp [this,tupOf],rfl⟩
def krbB:List UInt8:=[107,114,98,116,103,116,47]
def smallB:List UInt8:=[97,98,99,100,101,102,103,104,105,106,107,108,109,110,111,112,113,114,115,116,117,118,119,120,121,122,48,49,50,51,52,53,54,55,56,57]
def isRealmB (r:List UInt8):Bool:=decide ((labelsB r).1≠0)
def targetB (n:List UInt8):List UInt8×Bool:=if krbB.isPrefixOf n&&isRealmB (n.drop 7) then (n.drop 7,true) else ([],false)
def isPrincB (realm name:List UInt8):Bool:=isRealmB realm&&((targetB name).2||isWordB name smallB)
theorem c152 (n:List UInt8) (hs:n.length≤1099511627775):Pure prog 152 [.str n] (.tup [.str (targetB n).1,.bool (targetB n).2]):=by
 intro H
 (refine fnS (imm:=imm152) tt152_ok func152 ?_;(conv=>whnf))
 refine cP (c216 n krbB) ?_
 unfold cutP targetB
 cases hb:krbB.isPrefixOf n
 ·conv=>whnf
  exact ⟨rfl,rfl⟩
 ·conv=>whnf
  refine cP (c147 (n.drop 7) (by rw [List.length_drop];omega)) ?_
  show _
  unfold isRealmB
  cases hr:decide ((labelsB (n.drop 7)).1≠0)
  ·conv=>whnf
   exact ⟨rfl,rfl⟩
  ·conv=>whnf
   exact ⟨rfl,rfl⟩
theorem c97 (realm name:List UInt8) (h1:realm.length≤1099511627775) (h2:name.length≤1099511627775):Pure prog 97 [.agg [.str realm,.str name]] (.bool (isPrincB realm name)):=by
 intro H
 (refine fnS (imm:=imm97) tt97_ok func97 ?_;(conv=>whnf))
 refine cP (c152 name h2) ?_
 conv=>whnf
 refine cP (c147 realm h1) ?_
 unfold isPrincB isRealmB
 cases hr:decide ((labelsB realm).1≠0)
 ·conv=>whnf
  exact ⟨rfl,rfl⟩
 ·cases ht:(targetB name).2
  ·conv=>whnf
   refine cP (c153 name smallB (by decide) (by decide) (by decide)) ?_
   cases isWordB name smallB
   ·conv=>whnf
    exact ⟨rfl,rfl⟩
   ·conv=>whnf
    exact ⟨rfl,rfl⟩
  ·conv=>whnf
   exact ⟨rfl,rfl⟩
def tt203:TT:=[(3,⟨.int .i64,1,8,[.int .i64 0]⟩),(5,⟨.int .u8,1,1,[.int .u8 0]⟩),(9,⟨.str,1,16,[.str []]⟩),(88,⟨.slice 9,1,24,[.slice 0 [] (some 9)]⟩)]
theorem tt203_ok:ttOk prog tt203=true:=by kernel_rfl
def imm203:List Nat:=[]
theorem splitB_at (c:UInt8):∀(x y:List UInt8),(∀b∈x,b≠c)→splitB c (x++c::y)=x::splitB c y
 | [],y,_=>by simp [splitB]
 | b::x,y,h=>by
  have ih:=splitB_at c x y fun b hb=>h b (List.mem_cons_of_mem _ hb)
  simp [splitB,h b List.mem_cons_self,ih]
theorem splitB_no (c:UInt8):∀(x:List UInt8),(∀b∈x,b≠c)→splitB c x=[x]
 | [],_=>rfl
 | b::x,h=>by
  have ih:=splitB_no c x fun b hb=>h b (List.mem_cons_of_mem _ hb)
  simp [splitB,h b List.mem_cons_self,ih]
structure SpS where
 i:Nat
 fr:Nat
 l:List (List UInt8)
theorem c203 (s:List UInt8) (c:UInt8) (hs:s.length≤1099511627776):Pure prog 203 [.str s,bC c] (.slice (splitB c s).length ((splitB c s).map .str) (some 9)):=by
 intro H
 (refine fnS (imm:=imm203) tt203_ok func203 ?_;(conv=>whnf))
 refine lO SpS (fun x=>[(0,.str s),(1,bC c),(5,.slice x.l.length (x.l.map .str) (some 9)),(6,.int .i64 x.fr),(7,.int .i64 x.i)]) (fun _=>H)
  (fun x=>x.fr≤x.i∧x.i≤s.length∧x.l.length≤x.i∧(∀b∈(s.drop x.fr).take (x.i - x.fr),b≠c)∧x.l++splitB c (s.drop x.fr)=splitB c s) (fun x=>s.length - x.i)
  ⟨⟨0,0,[]⟩,⟨Nat.le_refl _,Nat.zero_le _,Nat.zero_le _,by simp,rfl⟩,⟨rfl,rfl,rfl,rfl,rfl,trivial⟩,rfl⟩ ?_
 rintro ⟨i,fr,l⟩ ⟨h1,h2,h3,h4,h5⟩
 have h1:fr≤i:=h1
 have h2:i≤s.length:=h2
 have h3:l.length≤i:=h3
 have h4:∀b∈(s.drop fr).take (i - fr),b≠c:=h4
 have h5:l++splitB c (s.drop fr)=splitB c s:=h5
 conv=>whnf
 refine ⟨fun h=>?_,fun h=>?_⟩
 ·conv=>whnf
  have h:(i:Int)<s.length:=h
  have hi:i<s.length:=by omega
  refine ⟨⟨by show (0:Int)≤(i:Int);omega,h⟩,s[i],List.getElem?_eq_getElem hi,?_⟩
  conv=>whnf
  refine ⟨fun e=>?_,fun e=>?_⟩
  ·conv=>whnf
   refine ⟨⟨by show (0:Int)≤(fr:Int);omega,by show (fr:Int)≤(i:Int);omega,by show (i:Int)≤_;omega⟩,?_⟩
   conv=>whnf
   refine ⟨⟨by show (l.length+1)*16≤_;omega,rfl,rfl⟩,?_⟩
   conv=>whnf
   have e:s[i]=c:=by
    have e:(s[i].toNat:Int)=(c.toNat:Int):=e
    exact UInt8.toNat_inj.1 (by omega)
   have hseg:s.drop fr=(s.drop fr).take (i - fr)++c::s.drop (i+1):=by
    conv=>lhs;rw [←List.take_append_drop (i - fr) (s.drop fr)]
    rw [List.drop_drop,show fr+(i - fr)=i by omega,List.drop_eq_getElem_cons hi,e]
   refine ⟨⟨i+1,i+1,l++[(s.drop fr).take (i - fr)]⟩,⟨Nat.le_refl _,hi,by simp;omega,by simp,?_⟩,⟨rfl,rfl,?_,?_,?_,trivial⟩,rfl,?_⟩
   ·show (l++[(s.drop fr).take (i - fr)])++splitB c (s.drop (i+1))=_
    rw [←h5]
    conv=>rhs;rw [hseg,splitB_at c _ _ h4]
    simp
   ·show PV.slice (l.length+1) (l.map PV.str++[PV.str ((s.take (i:Int).toNat).drop (fr:Int).toNat)]) (some 9)=PV.slice (l++[(s.drop fr).take (i - fr)]).length ((l++[(s.drop fr).take (i - fr)]).map PV.str) (some 9)
    simp [List.drop_take]
   ·show PV.int _ (IntKind.i64.wrap ((i:Int)+1))=PV.int _ ((i+1:Nat):Int)
    rw [w64 (by omega) (by omega)];simp
   ·show PV.int _ (IntKind.i64.wrap ((i:Int)+1))=PV.int _ ((i+1:Nat):Int)
    rw [w64 (by omega) (by omega)];simp
   ·show s.length - (i+1)<s.length - i
    omega
  ·conv=>whnf
   have e:s[i]≠c:=fun h=>e (by rw [h])
   refine ⟨⟨i+1,fr,l⟩,⟨by show fr≤i+1;omega,hi,by show l.length≤i+1;omega,?_,h5⟩,⟨rfl,rfl,rfl,rfl,?_,trivial⟩,rfl,?_⟩
   ·show ∀b∈(s.drop fr).take (i+1 - fr),b≠c
    intro b hb
    rw [show i+1 - fr=(i - fr)+1 by omega,List.take_succ_eq_append_getElem (by rw [List.length_drop];omega)] at hb
    rcases List.mem_append.1 hb with hb | hb
    ·exact h4 b hb
    ·have:b=s[i]:=by
      have:=List.mem_singleton.1 hb
      rw [this,List.getElem_drop];congr 1;omega
     rw [this];exact e
   ·show PV.int _ (IntKind.i64.wrap ((i:Int)+1))=PV.int _ ((i+1:Nat):Int)
    rw [w64 (by omega) (by omega)];simp
   ·show s.length - (i+1)<s.length - i
    omega
 ·conv=>whnf
  have h:¬(i:Int)<s.length:=h
  refine ⟨⟨by show (0:Int)≤(fr:Int);omega,by show (fr:Int)≤_;omega,by omega⟩,?_⟩
  conv=>whnf
  refine ⟨⟨by show (l.length+1)*16≤_;omega,rfl,rfl⟩,?_⟩
  conv=>whnf
  have hno:splitB c (s.drop fr)=[s.drop fr]:=splitB_no c _ fun b hb=>h4 b (by rw [List.take_of_length_le (by rw [List.length_drop];omega)];exact hb)
  refine ⟨?_,rfl⟩
  show PV.slice (l.length+1) (l.map PV.str++[PV.str ((s.take (s.length:Int).toNat).drop (fr:Int).toNat)]) (some 9)=_
  rw [←h5,hno]
  simp
def tt207:TT:=[(3,⟨.int .i64,1,8,[.int .i64 0]⟩),(5,⟨.int .u8,1,1,[.int .u8 0]⟩),(9,⟨.str,1,16,[.str []]⟩),(88,⟨.slice 9,1,24,[.slice 0 [] (some 9)]⟩)]
theorem tt207_ok:ttOk prog tt207=true:=by kernel_rfl
def imm207:List Nat:=[]
def okC (b:UInt8):Bool:=decide (65≤b.toNat)&&decide (b.toNat≤90)
def okL (s:List UInt8):Bool:=decide (1≤s.length)&&(decide (s.length≤8)&&s.all okC)
theorem elem_cells (l:List (List UInt8)) {i:Nat} {x:List UInt8} (h:l[i]? = some x):∀(j:Nat) (c:PV),[PV.str x][j]? = some c→(l.map PV.str)[(i:Int).toNat*1+j]? = some c:=by
 intro j c hj
 cases j with
 | zero=>simp at hj;subst hj;simp [h]
 | succ j=>simp at hj
theorem c207 (l : List (List UInt8)) (o : Option Nat) (hs : l.length ≤ 1099511627776) : Pure prog 207 [.slice l.length (l.map .str) o] (.bool (l.all okL && (decide (1 ≤ l.length) && decide (l.length ≤ 4)))) := by
  intro H
  (refine fnS (imm := imm207) tt207_ok func207 ?_; (conv => whnf))
  refine lO Nat (fun i => [(0, .slice l.length (l.map .str) none), (3, .int .i64 i)]) (fun _ => H) (fun i => i ≤ l.length ∧ ∀ j, j < i → (l[j]?.map okL) = some true) (fun i => l.length - i) ⟨0, ⟨Nat.zero_le _, fun j h => by omega⟩, ⟨?_, rfl, trivial⟩, rfl⟩ ?_
  · cases o <;> rfl
  rintro i ⟨h1, h2⟩
  conv => whnf
  refine ⟨fun h => ?_, fun h => ?_⟩
  · conv => whnf
    have h : (i : Int) < l.length := h
    have hi : i < l.length := by omega
    have hg := List.getElem?_eq_getElem hi
    refine ⟨⟨by omega, h⟩, [.str l[i]], elem_cells l hg, ?_⟩
    conv => whnf
    have hbad : okL l[i] = false → (l.all okL && (decide (1 ≤ l.length) && decide (l.length ≤ 4))) = false := fun hb => by
      have : l.all okL = false := by
        cases ha : l.all okL with
        | false => rfl
        | true => rw [List.all_eq_true.1 ha _ (List.getElem_mem hi)] at hb; cases hb
      rw [this]; rfl
    refine ⟨fun h5 => ?_, fun h5 => ?_⟩
    · conv => whnf
      refine ⟨?_, rfl⟩
      rw [hbad (by unfold okL; have : ¬ 1 ≤ l[i].length := by omega
                   simp [this])]; rfl
    conv => whnf
    refine ⟨⟨by omega, h⟩, [.str l[i]], elem_cells l hg, ?_⟩
    conv => whnf
    refine ⟨fun h6 => ?_, fun h6 => ?_⟩
    · conv => whnf
      refine ⟨?_, rfl⟩
      rw [hbad (by unfold okL; have : ¬ l[i].length ≤ 8 := by omega
                   simp [this])]; rfl
    conv => whnf
    refine lO Nat (fun k => [(0, .slice l.length (l.map .str) none), (3, .int .i64 i), (4, .int .i64 k)]) (fun _ => H) (fun k => k ≤ l[i].length ∧ ∀ j, j < k → (l[i][j]?.map okC) = some true) (fun k => l[i].length - k) ⟨0, ⟨Nat.zero_le _, fun j h => by omega⟩, ⟨rfl, rfl, rfl, trivial⟩, rfl⟩ ?_
    rintro k ⟨k1, k2⟩
    conv => whnf
    refine ⟨⟨by omega, h⟩, [.str l[i]], elem_cells l hg, ?_⟩
    conv => whnf
    refine ⟨fun h7 => ?_, fun h7 => ?_⟩
    · conv => whnf
      have h7 : (k : Int) < l[i].length := h7
      have hk : k < l[i].length := by omega
      refine ⟨⟨by omega, h⟩, [.str l[i]], elem_cells l hg, ?_⟩
      conv => whnf
      refine ⟨⟨by omega, h7⟩, l[i][k], List.getElem?_eq_getElem hk, ?_⟩
      conv => whnf
      have hbadc : okC l[i][k] = false → okL l[i] = false := fun hb => by
        unfold okL
        have : l[i].all okC = false := by
          cases ha : l[i].all okC with
          | false => rfl
          | true => rw [List.all_eq_true.1 ha _ (List.getElem_mem hk)] at hb; cases hb
        rw [this]; simp
      refine ⟨fun h8 => ?_, fun h8 => ?_⟩
      · conv => whnf
        refine ⟨?_, rfl⟩
        rw [hbad (hbadc (by unfold okC; have : ¬ 65 ≤ l[i][k].toNat := by omega
                            simp [this]))]; rfl
      conv => whnf
      refine ⟨⟨by omega, h⟩, [.str l[i]], elem_cells l hg, ?_⟩
      conv => whnf
      refine ⟨⟨by omega, h7⟩, l[i][k], List.getElem?_eq_getElem hk, ?_⟩
      conv => whnf
      refine ⟨fun h9 => ?_, fun h9 => ?_⟩
      · conv => whnf
        refine ⟨?_, rfl⟩
        rw [hbad (hbadc (by unfold okC; have : ¬ l[i][k].toNat ≤ 90 := by omega
                            simp [this]))]; rfl
      conv => whnf
      refine ⟨k + 1, ⟨hk, fun j hj => ?_⟩, ⟨rfl, rfl, ?_, trivial⟩, rfl, by show l[i].length - (k + 1) < l[i].length - k; omega⟩
      · by_cases e : j = k
        · subst e
          rw [List.getElem?_eq_getElem hk]
          have a1 : 65 ≤ l[i][j].toNat := by omega
          have a2 : l[i][j].toNat ≤ 90 := by omega
          simp [okC, a1, a2]
        · exact k2 j (by omega)
      · show PV.int _ (IntKind.i64.wrap ((k : Int) + 1)) = PV.int _ ((k + 1 : Nat) : Int)
        rw [w64 (by omega) (by omega)]; simp
    · conv => whnf
      have h7 : ¬ (k : Int) < l[i].length := h7
      have hok : okL l[i] = true := by
        have ha : l[i].all okC = true := by
          rw [List.all_eq_true]
          intro x hx
          obtain ⟨j, hj, rfl⟩ := List.mem_iff_getElem.1 hx
          have := k2 j (by omega)
          rw [List.getElem?_eq_getElem hj] at this
          simpa using this
        have a1 : 1 ≤ l[i].length := by omega
        have a2 : l[i].length ≤ 8 := by omega
        unfold okL
        rw [ha]; simp [a1, a2]
      refine ⟨i + 1, ⟨hi, fun j hj => ?_⟩, ⟨rfl, ?_, trivial⟩, rfl, by omega⟩
      · by_cases e : j = i
        · subst e
          rw [hg]; simp [hok]
        · exact h2 j (by omega)
      · show PV.int _ (IntKind.i64.wrap ((i : Int) + 1)) = PV.int _ ((i + 1 : Nat) : Int)
        rw [w64 (by omega) (by omega)]; simp
  · conv => whnf
    have h : ¬ (i : Int) < l.length := h
    have hall : l.all okL = true := by
      rw [List.all_eq_true]
      intro x hx
      obtain ⟨j, hj, rfl⟩ := List.mem_iff_getElem.1 hx
      have := h2 j (by omega)
      rw [List.getElem?_eq_getElem hj] at this
      simpa using this
    rw [hall]
    refine ⟨fun h5 => ?_, fun h5 => ?_⟩
    · conv => whnf
      refine ⟨fun h6 => ?_, fun h6 => ?_⟩
      · conv => whnf
        refine ⟨?_, rfl⟩
        have a1 : 1 ≤ l.length := by omega
        have a2 : l.length ≤ 4 := by omega
        simp [a1, a2, tupOf]
      · conv => whnf
        refine ⟨?_, rfl⟩
        have a2 : ¬ l.length ≤ 4 := by omega
        simp [a2, tupOf]
    · conv => whnf
      refine ⟨?_, rfl⟩
      have a1 : ¬ 1 ≤ l.length := by omega
      simp [a1, tupOf]
def tt136:TT:=[(3,⟨.int .i64,1,8,[.int .i64 0]⟩),(5,⟨.int .u8,1,1,[.int .u8 0]⟩),(9,⟨.str,1,16,[.str []]⟩),(88,⟨.slice 9,1,24,[.slice 0 [] (some 9)]⟩)]
theorem tt136_ok:ttOk prog tt136=true:=by kernel_rfl
def imm136:List Nat:=[]
def tt78:TT:=[(3,⟨.int .i64,1,8,[.int .i64 0]⟩),(9,⟨.str,1,16,[.str []]⟩)]
theorem tt78_ok:ttOk prog tt78=true:=by kernel_rfl
def imm78:List Nat:=[]
def labs (l:List (List UInt8)):Bool:=l.all okL&&(decide (1≤l.length)&&decide (l.length≤4))
theorem okC_eq:∀b:UInt8,inB upperB b.toNat=okC b:=by
 intro b
 have h:∀n:Fin 256,inB upperB n.val=(decide (65≤n.val)&&decide (n.val≤90)):=by decide
 exact h ⟨b.toNat,b.toNat_lt⟩
theorem okL_eq (s:List UInt8):isWordB s upperB=okL s:=by
 unfold isWordB okL
 have:(fun c:UInt8=>inB upperB c.toNat)=okC:=funext okC_eq
 rw [this]
 cases s <;> simp
theorem labs_eq (c:UInt8) (s:List UInt8):labs (splitB c s)=!badL (splitB c s):=by
 have h1:=splitB_len c s
 unfold labs badL
 have:(fun s=>!isWordB s upperB)=fun s=>!okL s:=funext fun s=>by rw [okL_eq]
 rw [this]
 have h2:decide (1≤(splitB c s).length)=true:=by simp;omega
 rw [h2]
 rw [Bool.not_or,List.not_any_eq_all_not,Bool.true_and,Bool.and_comm]
 congr 1
 ·by_cases h:4<(splitB c s).length
  ·have:¬(splitB c s).length≤4:=by omega
   simp [h,this]
  ·have:(splitB c s).length≤4:=by omega
   simp [h,this]
 ·simp
theorem labs_slash (t:List UInt8):labs (splitB 46 (47::t))=false:=by
 have h:∃x l,splitB 46 (47::t)=(47::x)::l:=by
  simp only [splitB]
  rw [if_neg (by decide)]
  cases splitB 46 t with
  | nil=>exact ⟨[],[],rfl⟩
  | cons a b=>exact ⟨a,b,rfl⟩
 obtain ⟨x,l,h⟩:=h
 have hk:okL (47::x)=false:=by
  have:okC 47=false:=by decide
  simp [okL,this]
 rw [h]
 simp [labs,hk]
theorem c136 (r:List UInt8) (hs:r.length≤1099511627775):Pure prog 136 [.str r] (.int .i64 (labelsB r).1):=by
 intro H
 have dot:∀r:List UInt8,r.length≤1099511627775→(splitB 46 r).length≤1099511627776:=fun r h=>by have:=countB_le 46 r;have:=splitB_len 46 r;omega
 (refine fnS (imm:=imm136) tt136_ok func136 ?_;(conv=>whnf))
 refine ⟨fun h=>?_,fun h=>?_⟩
 ·conv=>whnf
  cases r with
  | nil=>simp at h
  | cons x t =>
   refine ⟨⟨by omega,by simp <;> omega⟩,x,rfl,?_⟩
   conv=>whnf
   refine ⟨fun e=>?_,fun e=>?_⟩
   ·have e:x=47:=by
     have e:(x.toNat:Int)=47:=e
     exact UInt8.toNat_inj.1 (by show x.toNat=47;omega)
    subst e
    conv=>whnf
    refine ⟨⟨by omega,by simp <;> omega,by simp⟩,?_⟩
    have ht:((47::t).take ((47::t).length:Int).toNat).drop (1:Int).toNat=t:=by simp
    conv=>whnf
    have htl:t.length≤1099511627775:=by simp at hs;omega
    refine cP (P:=prog) (v:=.slice (splitB 47 t).length ((splitB 47 t).map .str) (some 9)) ?_ ?_
    ·show Pure prog 203 [.str (((47::t).take ((47::t).length:Int).toNat).drop (1:Int).toNat),bC 47] _
     rw [ht]
     exact c203 t 47 (by omega)
    conv=>whnf
    refine cP (c207 (splitB 47 t) none (by have:=countB_le 47 t;have:=splitB_len 47 t;omega)) ?_
    have hl:=labs_eq 47 t
    have hd:=labs_slash t
    unfold labs at hl hd
    rw [hl]
    cases hb:badL (splitB 47 t)
    ·conv=>whnf
     refine ⟨?_,rfl⟩
     simp [labelsB,hb,tupOf]
    ·conv=>whnf
     refine cP (c203 (47::t) 46 (by omega)) ?_
     conv=>whnf
     refine cP (c207 (splitB 46 (47::t)) none (dot _ hs)) ?_
     rw [hd]
     conv=>whnf
     refine ⟨?_,rfl⟩
     simp [labelsB,hb,tupOf]
   ·have hx:x≠47:=fun h=>e (by rw [h];rfl)
    have hlb:labelsB (x::t)=if badL (splitB 46 (x::t)) then (0,[]) else (1,(splitB 46 (x::t)).reverse):=by
     unfold labelsB
     split
     ·rename_i h2;cases h2;exact absurd rfl hx
     ·rfl
    conv=>whnf
    refine cP (c203 (x::t) 46 (by omega)) ?_
    conv=>whnf
    refine cP (c207 (splitB 46 (x::t)) none (dot _ hs)) ?_
    have hl:=labs_eq 46 (x::t)
    unfold labs at hl
    rw [hl,hlb]
    cases hb:badL (splitB 46 (x::t))
    ·conv=>whnf
     exact ⟨rfl,rfl⟩
    ·conv=>whnf
     exact ⟨rfl,rfl⟩
 ·have hr:r=[]:=by
   cases r with
   | nil=>rfl
   | cons x t=>exact absurd (by simp <;> omega) h
  subst hr
  conv=>whnf
  refine cP (c203 [] 46 (by simp)) ?_
  conv=>whnf
  refine cP (c207 (splitB 46 []) none (by simp [splitB])) ?_
  have:((splitB 46 []).all okL&&(decide (1≤(splitB 46 []).length)&&decide ((splitB 46 []).length≤4)))=false:=by decide
  rw [this]
  conv=>whnf
  have h0:(labelsB []).1=0:=by decide
  exact ⟨by rw [h0];rfl,rfl⟩
theorem c78 (r:List UInt8) (hs:r.length≤1099511627775):Pure prog 78 [.str r] (.bool (isRealmB r)):=by
 intro H
 (refine fnS (imm:=imm78) tt78_ok func78 ?_;(conv=>whnf))
 refine cP (c136 r hs) ?_
 conv=>whnf
 refine ⟨fun h=>?_,fun h=>?_⟩
 ·conv=>whnf
  have:(labelsB r).1≠0:=by omega
  exact ⟨by simp [isRealmB,this,tupOf],rfl⟩
 ·conv=>whnf
  have:(labelsB r).1=0:=by omega
  exact ⟨by simp [isRealmB,this,tupOf],rfl⟩
def tt79:TT:=[(3,⟨.int .i64,1,8,[.int .i64 0]⟩),(4,⟨.bool,1,1,[.bool false]⟩),(9,⟨.str,1,16,[.str []]⟩)]
theorem tt79_ok:ttOk prog tt79=true:=by kernel_rfl
def imm79:List Nat:=[]
def tt32:TT:=[(3,⟨.int .i64,1,8,[.int .i64 0]⟩),(4,⟨.bool,1,1,[.bool false]⟩),(5,⟨.int .u8,1,1,[.int .u8 0]⟩),(9,⟨.str,1,16,[.str []]⟩),(25,⟨.strct [(9,0),(9,1)],2,32,[.str [],.str []]⟩)]
theorem tt32_ok:ttOk prog tt32=true:=by kernel_rfl
def imm32:List Nat:=[1]
theorem c79 (n:List UInt8) (hs:n.length≤1099511627775):Pure prog 79 [.str n] (.tup [.str (targetB n).1,.bool (targetB n).2]):=by
 intro H
 (refine fnS (imm:=imm79) tt79_ok func79 ?_;(conv=>whnf))
 refine ⟨fun h=>?_,fun h=>?_⟩
 ·have ht:targetB n=([],false):=by
   unfold targetB
   by_cases hp:krbB.isPrefixOf n=true
   ·have hl:=(List.isPrefixOf_iff_prefix.1 hp).length_le
    have hl:7≤n.length:=hl
    have:n.drop 7=[]:=List.drop_eq_nil_of_le (by omega)
    have h0:isRealmB []=false:=by decide
    rw [this,h0];simp
   ·simp [hp]
  rw [ht]
  conv=>whnf
  exact ⟨rfl,rfl⟩
 ·conv=>whnf
  refine ⟨⟨by omega,by omega,by omega⟩,?_⟩
  conv=>whnf
  have hl:krbB.length≤n.length:=by show 7≤_;omega
  refine ⟨fun e=>?_,fun e=>?_⟩
  ·have e:n.take 7=krbB:=e
   have hp:krbB.isPrefixOf n=true:=(take_of_prefix hl).1 e
   conv=>whnf
   refine ⟨⟨by omega,by omega,by omega⟩,?_⟩
   conv=>whnf
   have hd:(n.take (n.length:Int).toNat).drop (7:Int).toNat=n.drop 7:=by simp
   refine cP (P:=prog) (v:=.bool (isRealmB (n.drop 7))) ?_ ?_
   ·show Pure prog 78 [.str ((n.take (n.length:Int).toNat).drop (7:Int).toNat)] _
    rw [hd]
    exact c78 _ (by rw [List.length_drop];omega)
   cases hr:isRealmB (n.drop 7)
   ·conv=>whnf
    refine ⟨?_,rfl⟩
    simp [targetB,hp,hr,tupOf]
   ·conv=>whnf
    refine ⟨⟨by omega,by omega,by omega⟩,?_⟩
    conv=>whnf
    refine ⟨?_,rfl⟩
    simp [targetB,hp,hr,tupOf]
  ·have e:¬n.take 7=krbB:=e
   have hp:krbB.isPrefixOf n=false:=by
    cases hb:krbB.isPrefixOf n with
    | false=>rfl
    | true=>exact absurd ((take_of_prefix hl).2 hb) e
   conv=>whnf
   refine ⟨?_,rfl⟩
   simp [targetB,hp,tupOf]
def okS (b:UInt8):Bool:=(decide (97≤b.toNat)&&decide (b.toNat≤122))||(decide (48≤b.toNat)&&decide (b.toNat≤57))
theorem okS_eq:∀b:UInt8,inB smallB b.toNat=okS b:=by
 intro b
 have h:∀n:Fin 256,inB smallB n.val=((decide (97≤n.val)&&decide (n.val≤122))||(decide (48≤n.val)&&decide (n.val≤57))):=by decide
 exact h ⟨b.toNat,b.toNat_lt⟩
theorem word_small (s:List UInt8):isWordB s smallB=(s.all okS&&(decide (1≤s.length)&&decide (s.length≤8))):=by
 unfold isWordB
 have:(fun c:UInt8=>inB smallB c.toNat)=okS:=funext okS_eq
 rw [this]
 cases s with
 | nil=>rfl
 | cons a s =>
  have h1:decide (1≤(a::s).length)=true:=by simp
  have h2:decide (a::s≠[])=true:=by simp
  rw [h1,h2,Bool.true_and,Bool.true_and,Bool.and_comm]
theorem c32 (realm name : List UInt8) (h1 : realm.length ≤ 1099511627775) (h2 : name.length ≤ 1099511627775) : Pure prog 32 [.agg [.str realm, .str name]] (.bool (isPrincB realm name)) := by
  intro H
  (refine fnS (imm := imm32) tt32_ok func32 ?_; (conv => whnf))
  refine cP (c78 realm h1) ?_
  unfold isPrincB
  cases hr : isRealmB realm
  · conv => whnf
    exact ⟨rfl, rfl⟩
  conv => whnf
  refine cP (c79 name h2) ?_
  cases ht : (targetB name).2
  · conv => whnf
    rw [word_small]
    refine lO Nat (fun i => [(1, .elem [.str realm, .str name]), (5, .int .i64 i)]) (fun _ => H) (fun i => i ≤ name.length ∧ ∀ j, j < i → (name[j]?.map okS) = some true) (fun i => name.length - i) ⟨0, ⟨Nat.zero_le _, fun j h => by omega⟩, ⟨rfl, rfl, trivial⟩, rfl⟩ ?_
    rintro i ⟨k1, k2⟩
    conv => whnf
    refine ⟨fun h => ?_, fun h => ?_⟩
    · conv => whnf
      have h : (i : Int) < name.length := h
      have hi : i < name.length := by omega
      refine ⟨⟨by omega, h⟩, name[i], List.getElem?_eq_getElem hi, ?_⟩
      conv => whnf
      have hbad : okS name[i] = false → (name.all okS && (decide (1 ≤ name.length) && decide (name.length ≤ 8))) = false := fun hb => by
        have : name.all okS = false := by
          cases ha : name.all okS with
          | false => rfl
          | true => rw [List.all_eq_true.1 ha _ (List.getElem_mem hi)] at hb; cases hb
        rw [this]; rfl
      have go : okS name[i] = true → ∃ s' : Nat, (s' ≤ name.length ∧ ∀ j, j < s' → (name[j]?.map okS) = some true) ∧ PV.int .i64 (IntKind.i64.wrap ((i : Int) + 1)) = PV.int .i64 s' ∧ name.length - s' < name.length - i := fun hok =>
        ⟨i + 1, ⟨hi, fun j hj => by
          by_cases e : j = i
          · subst e; rw [List.getElem?_eq_getElem hi]; simp [hok]
          · exact k2 j (by omega)⟩, by rw [w64 (by omega) (by omega)]; simp, by omega⟩
      refine ⟨fun a1 => ?_, fun a1 => ?_⟩
      · conv => whnf
        refine ⟨fun a2 => ?_, fun a2 => ?_⟩
        · conv => whnf
          refine ⟨?_, rfl⟩
          rw [hbad (by unfold okS
                       have e1 : ¬ 97 ≤ name[i].toNat := by omega
                       have e2 : ¬ 48 ≤ name[i].toNat := by omega
                       simp [e1, e2])]; rfl
        · conv => whnf
          refine ⟨fun a3 => ?_, fun a3 => ?_⟩
          · conv => whnf
            refine ⟨?_, rfl⟩
            rw [hbad (by unfold okS
                         have e1 : ¬ 97 ≤ name[i].toNat := by omega
                         have e2 : ¬ name[i].toNat ≤ 57 := by omega
                         simp [e1, e2])]; rfl
          · conv => whnf
            obtain ⟨s', y1, y2, y3⟩ := go (by
              unfold okS
              have e1 : 48 ≤ name[i].toNat := by omega
              have e2 : name[i].toNat ≤ 57 := by omega
              simp [e1, e2])
            exact ⟨s', y1, ⟨rfl, y2, trivial⟩, rfl, y3⟩
      · conv => whnf
        refine ⟨fun a2 => ?_, fun a2 => ?_⟩
        · conv => whnf
          refine ⟨fun a3 => absurd a3 (by omega), fun a3 => ?_⟩
          conv => whnf
          refine ⟨fun a4 => ?_, fun a4 => absurd a4 (by omega)⟩
          conv => whnf
          refine ⟨?_, rfl⟩
          rw [hbad (by unfold okS
                       have e1 : ¬ name[i].toNat ≤ 122 := by omega
                       have e2 : ¬ name[i].toNat ≤ 57 := by omega
                       simp [e1, e2])]; rfl
        · conv => whnf
          obtain ⟨s', y1, y2, y3⟩ := go (by
            unfold okS
            have e1 : 97 ≤ name[i].toNat := by omega
            have e2 : name[i].toNat ≤ 122 := by omega
            simp [e1, e2])
          exact ⟨s', y1, ⟨rfl, y2, trivial⟩, rfl, y3⟩
    · conv => whnf
      have h : ¬ (i : Int) < name.length := h
      have hall : name.all okS = true := by
        rw [List.all_eq_true]
        intro x hx
        obtain ⟨j, hj, rfl⟩ := List.mem_iff_getElem.1 hx
        have := k2 j (by omega)
        rw [List.getElem?_eq_getElem hj] at this
        simpa using this
      rw [hall]
      refine ⟨fun a1 => ?_, fun a1 => ?_⟩
      · conv => whnf
        refine ⟨fun a2 => ?_, fun a2 => ?_⟩
        · conv => whnf
          refine ⟨?_, rfl⟩
          have e1 : 1 ≤ name.length := by omega
          have e2 : name.length ≤ 8 := by omega
          simp [e1, e2, tupOf]
        · conv => whnf
          refine ⟨?_, rfl⟩
          have e2 : ¬ name.length ≤ 8 := by omega
          simp [e2, tupOf]
      · conv => whnf
        refine ⟨?_, rfl⟩
        have e1 : ¬ 1 ≤ name.length := by omega
        simp [e1, tupOf]
  · conv => whnf
    exact ⟨rfl, rfl⟩
def ttR:TT:=[(3,⟨.int .i64,1,8,[.int .i64 0]⟩),(4,⟨.bool,1,1,[.bool false]⟩),(5,⟨.int .u8,1,1,[.int .u8 0]⟩),(9,⟨.str,1,16,[.str []]⟩),(25,⟨.strct [(9,0),(9,1)],2,32,[.str [],.str []]⟩),(110,⟨.ptr,1,8,[.ptr none]⟩),(31,⟨.int .i64,1,8,[.int .i64 0]⟩),(43,⟨.arr 32 5,32,32,List.replicate 32 (.int .u8 0)⟩),(126,⟨.ptr,1,8,[.ptr none]⟩),(102,⟨.strct [(3,0),(41,1),(64,7),(30,16),(98,23),(100,28)],30,448,[.int .i64 0,.str [],.str [],.str [],.str [],.int .i64 0,.int .i64 0,.str [],.str [],.int .i64 0,.slice 0 [] (some 5),.slice 0 [] (some 5),.str [],.str [],.int .i64 0,.int .i64 0,.str [],.str [],.str [],.str [],.int .i64 0,.slice 0 [] (some 5),.slice 0 [] (some 5),.str [],.str [],.int .i64 0,.slice 0 [] (some 5),.slice 0 [] (some 5),.int .i64 0,.int .i64 0]⟩),(201,⟨.slice 207,1,24,[.slice 0 [] (some 207)]⟩),(203,⟨.strct [(201,0)],1,24,[.slice 0 [] (some 207)]⟩),(204,⟨.ptr,1,8,[.ptr none]⟩),(207,⟨.strct [(25,0),(3,2),(43,3),(126,35)],36,80,[.str [],.str [],.int .i64 0]++List.replicate 32 (.int .u8 0)++[.ptr none]⟩),(270,⟨.fn,1,8,[.nilF]⟩),(238,⟨.ptr,1,8,[.ptr none]⟩),(221,⟨.arr 16 5,16,16,List.replicate 16 (.int .u8 0)⟩),(241,⟨.strct [(238,0),(221,1),(132,17),(132,18),(132,19)],20,48,[.ptr none]++List.replicate 16 (.int .u8 0)++[.int .i64 0,.int .i64 0,.int .i64 0]⟩),(226,⟨.int .u32,1,4,[.int .u32 0]⟩),(227,⟨.arr 27 226,27,108,List.replicate 27 (.int .u32 0)⟩),(301,⟨.strct [(221,0),(299,16),(227,19),(293,46)],47,140,List.replicate 16 (.int .u8 0)++[.int .u32 0,.int .i32 0]++List.replicate 29 (.int .u32 0)⟩)]
theorem ttR_ok:ttOk prog ttR=true:=by kernel_rfl
def imm125:List Nat:=[1]
def imm66:List Nat:=[1]
def imm43:List Nat:=[]
def imm154:List Nat:=[]
def imm155:List Nat:=[2]
def imm98:List Nat:=[3]
def imm44:List Nat:=[4,5]
def imm49:List Nat:=[3]
def imm122:List Nat:=[4,5]
def imm183:List Nat:=[3]
def speckO (k:List UInt8):PObj:=⟨301,k.map bC++([.int .u32 0,.int .i32 0]++List.replicate 29 (.int .u32 0)),0⟩
theorem c125 (k:List UInt8) (hk:k.length=16) (H:PH):CK prog 125 [.agg (k.map bC)] H fun r H'=>r=.ptr (some (H.length,0))∧H'=H++[speckO k]:=by
 match k,hk with
 | [a0,a1,a2,a3,a4,a5,a6,a7,a8,a9,a10,a11,a12,a13,a14,a15],_ =>
  (refine fnS (imm:=imm125) ttR_ok func125 ?_;(conv=>whnf))
  exact ⟨rfl,rfl⟩
def boxO (k:List UInt8) (n:Nat):PObj:=⟨241,[.ptr (some (n,0))]++(k.drop 16).map bC++[.int .i64 0,.int .i64 0,.int .i64 0],0⟩
def D66:Draw:={ imp:=[3,8],win:=[(4,0,1),(5,0,1),(6,0,1),(7,1,1),(8,1,1),(9,2,2)] }
theorem c66 (k:List UInt8) (hk:k.length=32) (H:PH):CK prog 66 [.agg (k.map bC)] H fun r H'=>r=.ptr (some (H.length+1,0))∧H'=H++[speckO (k.take 16),boxO k H.length]:=by
 match k,hk with
 | [a0,a1,a2,a3,a4,a5,a6,a7,a8,a9,a10,a11,a12,a13,a14,a15,b0,b1,b2,b3,b4,b5,b6,b7,b8,b9,b10,b11,b12,b13,b14,b15],_ =>
  (refine fnS (imm:=imm66) ttR_ok func66 ?_;(conv=>whnf))
  refine dO2 D66 [H,H++[speckO [a0,a1,a2,a3,a4,a5,a6,a7,a8,a9,a10,a11,a12,a13,a14,a15]],H++[speckO [a0,a1,a2,a3,a4,a5,a6,a7,a8,a9,a10,a11,a12,a13,a14,a15],boxO [a0,a1,a2,a3,a4,a5,a6,a7,a8,a9,a10,a11,a12,a13,a14,a15,b0,b1,b2,b3,b4,b5,b6,b7,b8,b9,b10,b11,b12,b13,b14,b15] H.length]] (by kernel_rfl) rfl trivial ?_
  conv=>whnf
  iterate 3 (refine dS ?_;(conv=>whnf))
  apply Exists.intro
  apply And.intro
  ·conv=>whnf
   refine cO (c125 [a0,a1,a2,a3,a4,a5,a6,a7,a8,a9,a10,a11,a12,a13,a14,a15] rfl H) ?_
   rintro r H' ⟨rfl,rfl⟩
   conv=>whnf
   exact ⟨rfl,rfl,trivial⟩
  conv=>whnf
  iterate 3 (refine dS2 ?_;(conv=>whnf))
  (refine dS ?_;(conv=>whnf))
  apply Exists.intro
  apply And.intro
  ·conv=>whnf
   refine ⟨rfl,?_,trivial⟩
   exact List.append_assoc _ _ _
  conv=>whnf
  (refine dS ?_;(conv=>whnf))
  refine ⟨?_,rfl⟩
  show PV.ptr (some ((H++[_]).length,0))=_
  rw [List.length_append];rfl
structure Ent where
 r:List UInt8
 n:List UInt8
 kv:Nat
 key:List UInt8
 box:Nat
def Ent.cells (e:Ent):List PV:=[.str e.r,.str e.n,.int .i64 e.kv]++e.key.map bC++[.ptr (some (e.box,0))]
def ringO (l:List Ent) (v:Nat):PObj:=⟨203,[.slice l.length (l.flatMap Ent.cells) (some 207)],v⟩
def lastE (f:Ent→Bool) (l:List Ent):Option Ent:=l.reverse.find? f
def entP:Option Ent→PV
 | none=>.ptr none
 | some e=>.elem e.cells
theorem c43 (H:PH):CK prog 43 [] H fun r H'=>r=.ptr (some (H.length,0))∧H'=H++[ringO [] 0]:=by
 (refine fnS (imm:=imm43) ttR_ok func43 ?_;(conv=>whnf))
 exact ⟨rfl,rfl⟩
theorem fitPr (a b:List UInt8):FitP ttR 6 25 [.str a,.str b]:=⟨rfl,⟨by show 1≤2;omega,a,rfl⟩,rfl,⟨by show 1≤1;omega,b,rfl⟩,rfl⟩
theorem c155 (e:Ent) (hk:e.key.length=32) (r n:List UInt8) (H:PH):CK prog 155 [.agg e.cells,.elem [.str r,.str n]] H fun x H'=>x=.bool (decide (e.r=r∧e.n=n))∧H'=H:=by
 obtain ⟨er,en,kv,key,box⟩:=e
 match key,hk with
 | [a0,a1,a2,a3,a4,a5,a6,a7,a8,a9,a10,a11,a12,a13,a14,a15,b0,b1,b2,b3,b4,b5,b6,b7,b8,b9,b10,b11,b12,b13,b14,b15],_ =>
  (refine fnS (imm:=imm155) ttR_ok func155 ?_;(conv=>whnf))
  refine ⟨⟨fitPr _ _,fitPr _ _⟩,?_⟩
  conv=>whnf
  refine ⟨fun h=>?_,fun h=>?_⟩
  ·conv=>whnf
   have h:[PV.str er,PV.str en]=[PV.str r,PV.str n]:=h
   refine ⟨?_,rfl⟩
   injection h with h1 h2
   injection h1 with h1
   injection h2 with h2 _
   injection h2 with h2
   rw [decide_eq_true ⟨h1,h2⟩];rfl
  ·conv=>whnf
   refine ⟨?_,rfl⟩
   have h:¬[PV.str er,PV.str en]=[PV.str r,PV.str n]:=h
   rw [decide_eq_false fun hh=>h (by have h1:er=r:=hh.1;have h2:en=n:=hh.2;rw [h1,h2])];rfl
theorem lastE_snoc (f:Ent→Bool) (l:List Ent) (e:Ent):lastE f (l++[e])=if f e then some e else lastE f l:=by
 unfold lastE
 rw [List.reverse_append]
 simp only [List.reverse_cons,List.reverse_nil,List.nil_append,List.cons_append,List.find?_cons]
 cases f e <;> rfl
theorem cells_len {e:Ent} (h:e.key.length=32):e.cells.length=36:=by simp [Ent.cells,h]
theorem flat_at {l:List Ent} (hk:∀e∈l,e.key.length=32) {i:Nat} (hi:i<l.length) (j:Nat) (c:PV) (h:l[i].cells[j]? = some c):(l.flatMap Ent.cells)[i*36+j]? = some c:=by
 induction l generalizing i with
 | nil=>simp at hi
 | cons e l ih =>
  rw [List.flatMap_cons]
  have he:=cells_len (hk e List.mem_cons_self)
  cases i with
  | zero =>
   have hj:j<e.cells.length:=(List.getElem?_eq_some_iff.1 h).1
   rw [Nat.zero_mul,Nat.zero_add,List.getElem?_append_left hj];exact h
  | succ i =>
   rw [List.getElem?_append_right (by omega),show (i+1)*36+j - e.cells.length=i*36+j by omega]
   exact ih (fun e he=>hk e (List.mem_cons_of_mem _ he)) (by simpa using hi) h
structure FiS where
 k:Nat
theorem c154 {H:PH} {rid v:Nat} {l:List Ent} (hid:H[rid]? = some (ringO l v)) (hl:l.length≤1000) (hk:∀e∈l,e.key.length=32) (f:Ent→Bool) (cf:Nat) (a b:List PV)
  (hc:∀e∈l,CK prog cf (a++[.agg e.cells]++b) H fun x H'=>x=.bool (f e)∧H'=H) :
  CK prog 154 [.ptr (some (rid,0)),.func cf a b] H fun r H'=>r=entP (lastE f l)∧H'=H:=by
 (refine fnS (imm:=imm154) ttR_ok func154 ?_;(conv=>whnf))
 rw [hid]
 conv=>whnf
 refine lO FiS (fun x=>[(0,.ptr (some (rid,0))),(1,.func cf a b),(5,.int .i64 ((x.k:Int) - 1))]) (fun _=>H) (fun x=>x.k≤l.length∧lastE f (l.take x.k)=lastE f l) (fun x=>x.k)
  ⟨⟨l.length⟩,⟨Nat.le_refl _,by simp⟩,⟨rfl,rfl,?_,trivial⟩,rfl⟩ ?_
 ·show PV.int _ (IntKind.i64.wrap ((l.length:Int) - 1))=_
  rw [w64 (by omega) (by omega)]
 rintro ⟨k⟩ ⟨h1,h2⟩
 have h1:k≤l.length:=h1
 have h2:lastE f (l.take k)=lastE f l:=h2
 conv=>whnf
 refine ⟨fun h=>?_,fun h=>?_⟩
 ·conv=>whnf
  have h:(0:Int)≤(k:Int) - 1:=h
  rw [hid]
  conv=>whnf
  have hi:k - 1<l.length:=by omega
  refine ⟨⟨h,by show (k:Int) - 1<l.length;omega⟩,l[k - 1].cells,fun j c hj=>?_,?_⟩
  ·have:=flat_at hk hi j c hj
   rw [←this]
   show (l.flatMap Ent.cells)[((k:Int) - 1).toNat*36+j]? = _
   congr 2;congr 1;omega
  have hkey:=hk _ (List.getElem_mem hi)
  have hce:=hc _ (List.getElem_mem hi)
  have hlast:lastE f (l.take k)=if f l[k - 1] then some l[k - 1] else lastE f (l.take (k - 1)):=by
   conv=>lhs;rw [show k=(k - 1)+1 by omega,List.take_succ_eq_append_getElem hi]
   exact lastE_snoc f _ _
  have hat:=fun j c hj=>flat_at hk hi j c hj
  generalize l[k - 1]=e at hkey hce hlast hat ⊢
  obtain ⟨er,en,kv,key,box⟩:=e
  match key,hkey with
  | [a0,a1,a2,a3,a4,a5,a6,a7,a8,a9,a10,a11,a12,a13,a14,a15,b0,b1,b2,b3,b4,b5,b6,b7,b8,b9,b10,b11,b12,b13,b14,b15],_ =>
   conv=>whnf
   refine cO hce ?_
   rintro r H' ⟨rfl,rfl⟩
   conv=>whnf
   generalize hE:Ent.mk er en kv [a0,a1,a2,a3,a4,a5,a6,a7,a8,a9,a10,a11,a12,a13,a14,a15,b0,b1,b2,b3,b4,b5,b6,b7,b8,b9,b10,b11,b12,b13,b14,b15] box=e at hlast hat ⊢
   cases hf:f e
   ·conv=>whnf
    refine ⟨⟨k - 1⟩,⟨by show k - 1≤l.length;omega,by show lastE f (l.take (k - 1))=_;rw [←h2,hlast,hf];rfl⟩,⟨rfl,rfl,?_,trivial⟩,rfl,by show k - 1<k;omega⟩
    show PV.int _ (IntKind.i64.wrap ((k:Int) - 1 - 1))=PV.int _ (((k - 1:Nat):Int) - 1)
    rw [w64 (by omega) (by omega)];congr 1;omega
   ·conv=>whnf
    rw [hid]
    conv=>whnf
    refine ⟨⟨h,by show (k:Int) - 1<l.length;omega⟩,e.cells,fun j c hj=>?_,?_⟩
    ·rw [←hat j c hj]
     show (l.flatMap Ent.cells)[((k:Int) - 1).toNat*36+j]? = _
     congr 2;congr 1;omega
    conv=>whnf
    refine ⟨?_,rfl⟩
    rw [←h2,hlast,hf];rfl
 ·conv=>whnf
  have h:¬(0:Int)≤(k:Int) - 1:=h
  have:k=0:=by omega
  subst this
  rw [←h2]
  exact ⟨rfl,rfl⟩
def isP (r n:List UInt8) (e:Ent):Bool:=decide (e.r=r∧e.n=n)
theorem c98 {H:PH} {rid v:Nat} {l:List Ent} (hid:H[rid]? = some (ringO l v)) (hl:l.length≤1000) (hk:∀e∈l,e.key.length=32) (r n:List UInt8) :
  CK prog 98 [.ptr (some (rid,0)),.agg [.str r,.str n]] H fun x H'=>x=entP (lastE (isP r n) l)∧H'=H:=by
 (refine fnS (imm:=imm98) ttR_ok func98 ?_;(conv=>whnf))
 refine cO (c154 hid hl hk (isP r n) 155 [] [.elem [.str r,.str n]] fun e he=>c155 e (hk e he) r n H) ?_
 rintro x H' ⟨rfl,rfl⟩
 cases lastE (isP r n) l with
 | none =>
  conv=>whnf
  exact ⟨rfl,rfl⟩
 | some e =>
  conv=>whnf
  exact ⟨rfl,rfl⟩
def lastR:Option Ent→PV
 | none=>.tup [.ptr none,.int .i64 0,.int .i64 4]
 | some e=>.tup [.ptr (some (e.box,0)),.int .i64 e.kv,.int .i64 0]
theorem c49 {H:PH} {rid v:Nat} {l:List Ent} (hid:H[rid]? = some (ringO l v)) (hl:l.length≤1000) (hk:∀e∈l,e.key.length=32) (r n:List UInt8) :
  CK prog 49 [.ptr (some (rid,0)),.agg [.str r,.str n]] H fun x H'=>x=lastR (lastE (isP r n) l)∧H'=H:=by
 (refine fnS (imm:=imm49) ttR_ok func49 ?_;(conv=>whnf))
 refine cO (c98 hid hl hk r n) ?_
 rintro x H' ⟨rfl,rfl⟩
 cases he:lastE (isP r n) l with
 | none =>
  conv=>whnf
  exact ⟨rfl,rfl⟩
 | some e =>
  have hkey:e.key.length=32:=hk e (List.mem_reverse.1 (List.mem_of_find?_eq_some he))
  obtain ⟨er,en,kv,key,box⟩:=e
  match key,hkey with
  | [a0,a1,a2,a3,a4,a5,a6,a7,a8,a9,a10,a11,a12,a13,a14,a15,b0,b1,b2,b3,b4,b5,b6,b7,b8,b9,b10,b11,b12,b13,b14,b15],_ =>
   conv=>whnf
   (refine dP2 (by kernel_rfl) ?_;(conv=>whnf))
   iterate 11 (refine dS ?_;(conv=>whnf))
   exact ⟨rfl,rfl⟩
def D44 (rid:Nat):Draw:={ cons:=[(15,[49])],imp:=[9,12,15],win:=[(0,0,2),(1,0,1),(2,0,1),(3,0,1),(4,0,1),(5,0,1),(6,0,1),(7,0,1),(10,1,1),(11,1,1),(12,1,1),(13,2,2),(14,2,2),(15,2,2)],fs:=[(4,12,.cell rid 0)] }
def nextKv:Option Ent→Nat
 | none=>1
 | some e=>e.kv+1
def addR (l:List Ent) (r n:List UInt8):PV:=match isPrincB r n with
 | true=>if 40≤l.length∨255<nextKv (lastE (isP r n) l) then .tup [.int .i64 0,.int .i64 13] else .tup [.int .i64 (nextKv (lastE (isP r n) l)),.int .i64 0]
 | false=>.tup [.int .i64 0,.int .i64 1]
def addE (H:PH) (l:List Ent) (r n key:List UInt8):Ent:=⟨r,n,nextKv (lastE (isP r n) l),key,H.length+1⟩
def addH (H:PH) (rid v:Nat) (l:List Ent) (r n key:List UInt8):PH:=match isPrincB r n with
 | true=>if 40≤l.length∨255<nextKv (lastE (isP r n) l) then H else (H++[speckO (key.take 16),boxO key H.length]).set rid (ringO (l++[addE H l r n key]) (v+2))
 | false=>H
theorem c44 {H:PH} {rid v:Nat} {l:List Ent} (hid:H[rid]? = some (ringO l v)) (hl:l.length≤1000) (hk:∀e∈l,e.key.length=32∧e.kv≤1000) (r n key:List UInt8) (hkey:key.length=32)
  (hr:r.length≤1099511627775) (hn:n.length≤1099511627775) :
  CK prog 44 [.ptr (some (rid,0)),.agg [.str r,.str n],.agg (key.map bC)] H fun x H'=>x=addR l r n∧H'=addH H rid v l r n key:=by
 match key,hkey with
 | [a0,a1,a2,a3,a4,a5,a6,a7,a8,a9,a10,a11,a12,a13,a14,a15,b0,b1,b2,b3,b4,b5,b6,b7,b8,b9,b10,b11,b12,b13,b14,b15],hkey =>
  (refine fnS (imm:=imm44) ttR_ok func44 ?_;(conv=>whnf))
  refine cP (c97 r n hr hn) ?_
  unfold addR addH
  obtain ⟨N,hN⟩:∃N,N=nextKv (lastE (isP r n) l):=⟨_,rfl⟩
  rw [←hN]
  have hN0:=hN
  cases hp:isPrincB r n
  ·conv=>whnf
   exact ⟨rfl,rfl⟩
  ·conv=>whnf
   refine cO (c98 hid hl (fun e he=>(hk e he).1) r n) ?_
   rintro x H' ⟨hx,hH⟩
   rw [hx,hH]
   clear hx hH x H'
   have hkv:∀e,lastE (isP r n) l=some e→e.key.length=32∧e.kv≤1000:=fun e he=>hk e (List.mem_reverse.1 (List.mem_of_find?_eq_some he))
   cases he:lastE (isP r n) l with
   | none =>
    rw [he] at hN
    have hN:N=1:=hN
    conv=>whnf
    rw [hid]
    conv=>whnf
    refine ⟨fun h40=>?_,fun h40=>?_⟩
    ·conv=>whnf
     have h40:(l.length:Int) ≥ 40:=h40
     have hc:40≤l.length∨255<N:=by omega
     rw [if_pos hc,if_pos hc]
     exact ⟨rfl,rfl⟩
    ·conv=>whnf
     have h40:¬(l.length:Int) ≥ 40:=h40
     refine ⟨fun h255=>?_,fun h255=>?_⟩
     ·conv=>whnf
      have h255:(1:Int) > 255:=h255
      have hc:40≤l.length∨255<N:=by omega
      rw [if_pos hc,if_pos hc]
      exact ⟨rfl,rfl⟩
     ·conv=>whnf
      have h255:¬(1:Int) > 255:=h255
      have hc:¬(40≤l.length∨255<N):=by omega
      rw [if_neg hc,if_neg hc]
      obtain ⟨H1,hH1⟩:∃H1,H1=H++[speckO [a0,a1,a2,a3,a4,a5,a6,a7,a8,a9,a10,a11,a12,a13,a14,a15],boxO [a0,a1,a2,a3,a4,a5,a6,a7,a8,a9,a10,a11,a12,a13,a14,a15,b0,b1,b2,b3,b4,b5,b6,b7,b8,b9,b10,b11,b12,b13,b14,b15] H.length]:=⟨_,rfl⟩
      have h1:H1[rid]? = some (ringO l v):=by rw [hH1,List.getElem?_append_left (List.getElem?_eq_some_iff.1 hid).1];exact hid
      have h2:(H1.set rid ⟨203,[.slice l.length (l.flatMap Ent.cells) none],v+1⟩)[rid]? = some ⟨203,[.slice l.length (l.flatMap Ent.cells) none],v+1⟩:=gS h1
      refine dO2 (D44 rid) [H,H1,H1.set rid ⟨203,[.slice l.length (l.flatMap Ent.cells) none],v+1⟩,H1.set rid (ringO (l++[addE H l r n [a0,a1,a2,a3,a4,a5,a6,a7,a8,a9,a10,a11,a12,a13,a14,a15,b0,b1,b2,b3,b4,b5,b6,b7,b8,b9,b10,b11,b12,b13,b14,b15]]) (v+2))] (by kernel_rfl) rfl ?_ ?_
      ·refine ⟨fun k h3 h4=>?_,trivial⟩
       have h4:k<1:=h4
       have:k=0:=by omega
       subst this
       exact ⟨_,_,hid,h1,rfl⟩
      conv=>whnf
      (apply Exists.intro;apply And.intro;(focus ((conv=>whnf);apply And.intro;(focus ((conv=>whnf);exact oS));(conv=>whnf);apply And.intro;(focus ((conv=>whnf);exact oS));((conv=>whnf);exact oS)));(conv=>whnf))
      iterate 3 (refine dS2 ?_;(conv=>whnf))
      apply Exists.intro
      apply And.intro
      ·conv=>whnf
       apply And.intro
       ·conv=>whnf
        conv in (_[rid]?)=>tactic=>exact hid
        conv=>whnf
        exact ⟨rfl,rfl,rfl,trivial⟩
       ·conv=>whnf
        conv in (_[rid]?)=>tactic=>exact h1
        conv=>whnf
        exact ⟨rfl,rfl,rfl,trivial⟩
      conv=>whnf
      iterate 3 (refine dS2 ?_;(conv=>whnf))
      (refine dS ?_;(conv=>whnf))
      apply Exists.intro
      apply And.intro
      ·conv=>whnf
       refine cO (c66 [a0,a1,a2,a3,a4,a5,a6,a7,a8,a9,a10,a11,a12,a13,a14,a15,b0,b1,b2,b3,b4,b5,b6,b7,b8,b9,b10,b11,b12,b13,b14,b15] rfl H) ?_
       rintro x H' ⟨rfl,hH'⟩
       conv=>whnf
       exact ⟨rfl,hH'.trans hH1.symm,trivial⟩
      conv=>whnf
      iterate 2 (refine dS ?_;(conv=>whnf))
      apply Exists.intro
      apply And.intro
      ·conv=>whnf
       conv in (_[rid]?)=>tactic=>exact h1
       conv=>whnf
       refine ⟨⟨by show (l.length+1)*80≤_;omega,rfl,rfl⟩,?_⟩
       conv=>whnf
       exact ⟨rfl,rfl,trivial⟩
      conv=>whnf
      iterate 2 (refine dS ?_;(conv=>whnf))
      apply Exists.intro
      apply And.intro
      ·conv=>whnf
       conv in (_[rid]?)=>tactic=>exact h2
       conv=>whnf
       refine ⟨rfl,?_,trivial⟩
       show (List.set H1 rid ⟨203,[.slice l.length (l.flatMap Ent.cells) none],v+1⟩).set rid ⟨203,[PV.slice (l.length+1) (l.flatMap Ent.cells++([.str r,.str n,.int .i64 ((1:Int))]++[a0,a1,a2,a3,a4,a5,a6,a7,a8,a9,a10,a11,a12,a13,a14,a15,b0,b1,b2,b3,b4,b5,b6,b7,b8,b9,b10,b11,b12,b13,b14,b15].map bC++[.ptr (some (H.length+1,0))])) (some 207)],v+1+1⟩=List.set H1 rid (ringO (l++[addE H l r n [a0,a1,a2,a3,a4,a5,a6,a7,a8,a9,a10,a11,a12,a13,a14,a15,b0,b1,b2,b3,b4,b5,b6,b7,b8,b9,b10,b11,b12,b13,b14,b15]]) (v+2))
       have hE:addE H l r n [a0,a1,a2,a3,a4,a5,a6,a7,a8,a9,a10,a11,a12,a13,a14,a15,b0,b1,b2,b3,b4,b5,b6,b7,b8,b9,b10,b11,b12,b13,b14,b15]=⟨r,n,N,[a0,a1,a2,a3,a4,a5,a6,a7,a8,a9,a10,a11,a12,a13,a14,a15,b0,b1,b2,b3,b4,b5,b6,b7,b8,b9,b10,b11,b12,b13,b14,b15],H.length+1⟩:=by unfold addE;rw [←hN0]
       have hKV:(1:Int)=(N:Int):=by rw [hN];rfl
       rw [List.set_set,hE,hKV]
       unfold ringO
       rw [List.flatMap_append,List.length_append]
       rfl
      conv=>whnf
      refine ⟨?_,by subst hH1;exact rfl⟩
      have hKV:(1:Int)=(N:Int):=by rw [hN];rfl
      show PV.tup [.int .i64 ((1:Int)),.int .i64 0]=PV.tup [.int .i64 N,.int .i64 0]
      rw [hKV]
   | some e =>
    obtain ⟨hek,hev⟩:=hkv e he
    rw [he] at hN
    obtain ⟨er,en,kv,ekey,box⟩:=e
    have hN:N=kv+1:=hN
    have hev:kv≤1000:=hev
    match ekey,hek with
    | [c0,c1,c2,c3,c4,c5,c6,c7,c8,c9,c43,c44,c32,c39,c40,c49,d0,d1,d2,d3,d4,d5,d6,d7,d8,d9,d10,d11,d12,d13,d14,d15],_ =>
     conv=>whnf
     rw [hid]
     conv=>whnf
     refine ⟨fun h40=>?_,fun h40=>?_⟩
     ·conv=>whnf
      have h40:(l.length:Int) ≥ 40:=h40
      have hc:40≤l.length∨255<N:=by omega
      rw [if_pos hc,if_pos hc]
      exact ⟨rfl,rfl⟩
     ·conv=>whnf
      have h40:¬(l.length:Int) ≥ 40:=h40
      refine ⟨fun h255=>?_,fun h255=>?_⟩
      ·conv=>whnf
       have h255:IntKind.i64.wrap ((kv:Int)+1) > 255:=h255
       have hc:40≤l.length∨255<N:=by rw [w64 (by omega) (by omega)] at h255;omega
       rw [if_pos hc,if_pos hc]
       exact ⟨rfl,rfl⟩
      ·conv=>whnf
       have h255:¬IntKind.i64.wrap ((kv:Int)+1) > 255:=h255
       have hc:¬(40≤l.length∨255<N):=by rw [w64 (by omega) (by omega)] at h255;omega
       rw [if_neg hc,if_neg hc]
       obtain ⟨H1,hH1⟩:∃H1,H1=H++[speckO [a0,a1,a2,a3,a4,a5,a6,a7,a8,a9,a10,a11,a12,a13,a14,a15],boxO [a0,a1,a2,a3,a4,a5,a6,a7,a8,a9,a10,a11,a12,a13,a14,a15,b0,b1,b2,b3,b4,b5,b6,b7,b8,b9,b10,b11,b12,b13,b14,b15] H.length]:=⟨_,rfl⟩
       have h1:H1[rid]? = some (ringO l v):=by rw [hH1,List.getElem?_append_left (List.getElem?_eq_some_iff.1 hid).1];exact hid
       have h2:(H1.set rid ⟨203,[.slice l.length (l.flatMap Ent.cells) none],v+1⟩)[rid]? = some ⟨203,[.slice l.length (l.flatMap Ent.cells) none],v+1⟩:=gS h1
       refine dO2 (D44 rid) [H,H1,H1.set rid ⟨203,[.slice l.length (l.flatMap Ent.cells) none],v+1⟩,H1.set rid (ringO (l++[addE H l r n [a0,a1,a2,a3,a4,a5,a6,a7,a8,a9,a10,a11,a12,a13,a14,a15,b0,b1,b2,b3,b4,b5,b6,b7,b8,b9,b10,b11,b12,b13,b14,b15]]) (v+2))] (by kernel_rfl) rfl ?_ ?_
       ·refine ⟨fun k h3 h4=>?_,trivial⟩
        have h4:k<1:=h4
        have:k=0:=by omega
        subst this
        exact ⟨_,_,hid,h1,rfl⟩
       conv=>whnf
       (apply Exists.intro;apply And.intro;(focus ((conv=>whnf);apply And.intro;(focus ((conv=>whnf);exact oS));(conv=>whnf);apply And.intro;(focus ((conv=>whnf);exact oS));((conv=>whnf);exact oS)));(conv=>whnf))
       iterate 3 (refine dS2 ?_;(conv=>whnf))
       apply Exists.intro
       apply And.intro
       ·conv=>whnf
        apply And.intro
        ·conv=>whnf
         conv in (_[rid]?)=>tactic=>exact hid
         conv=>whnf
         exact ⟨rfl,rfl,rfl,trivial⟩
        ·conv=>whnf
         conv in (_[rid]?)=>tactic=>exact h1
         conv=>whnf
         exact ⟨rfl,rfl,rfl,trivial⟩
       conv=>whnf
       iterate 3 (refine dS2 ?_;(conv=>whnf))
       (refine dS ?_;(conv=>whnf))
       apply Exists.intro
       apply And.intro
       ·conv=>whnf
        refine cO (c66 [a0,a1,a2,a3,a4,a5,a6,a7,a8,a9,a10,a11,a12,a13,a14,a15,b0,b1,b2,b3,b4,b5,b6,b7,b8,b9,b10,b11,b12,b13,b14,b15] rfl H) ?_
        rintro x H' ⟨rfl,hH'⟩
        conv=>whnf
        exact ⟨rfl,hH'.trans hH1.symm,trivial⟩
       conv=>whnf
       iterate 2 (refine dS ?_;(conv=>whnf))
       apply Exists.intro
       apply And.intro
       ·conv=>whnf
        conv in (_[rid]?)=>tactic=>exact h1
        conv=>whnf
        refine ⟨⟨by show (l.length+1)*80≤_;omega,rfl,rfl⟩,?_⟩
        conv=>whnf
        exact ⟨rfl,rfl,trivial⟩
       conv=>whnf
       iterate 2 (refine dS ?_;(conv=>whnf))
       apply Exists.intro
       apply And.intro
       ·conv=>whnf
        conv in (_[rid]?)=>tactic=>exact h2
        conv=>whnf
        refine ⟨rfl,?_,trivial⟩
        show (List.set H1 rid ⟨203,[.slice l.length (l.flatMap Ent.cells) none],v+1⟩).set rid ⟨203,[PV.slice (l.length+1) (l.flatMap Ent.cells++([.str r,.str n,.int .i64 (IntKind.i64.wrap ((kv:Int)+1))]++[a0,a1,a2,a3,a4,a5,a6,a7,a8,a9,a10,a11,a12,a13,a14,a15,b0,b1,b2,b3,b4,b5,b6,b7,b8,b9,b10,b11,b12,b13,b14,b15].map bC++[.ptr (some (H.length+1,0))])) (some 207)],v+1+1⟩=List.set H1 rid (ringO (l++[addE H l r n [a0,a1,a2,a3,a4,a5,a6,a7,a8,a9,a10,a11,a12,a13,a14,a15,b0,b1,b2,b3,b4,b5,b6,b7,b8,b9,b10,b11,b12,b13,b14,b15]]) (v+2))
        have hE:addE H l r n [a0,a1,a2,a3,a4,a5,a6,a7,a8,a9,a10,a11,a12,a13,a14,a15,b0,b1,b2,b3,b4,b5,b6,b7,b8,b9,b10,b11,b12,b13,b14,b15]=⟨r,n,N,[a0,a1,a2,a3,a4,a5,a6,a7,a8,a9,a10,a11,a12,a13,a14,a15,b0,b1,b2,b3,b4,b5,b6,b7,b8,b9,b10,b11,b12,b13,b14,b15],H.length+1⟩:=by unfold addE;rw [←hN0]
        have hKV:IntKind.i64.wrap ((kv:Int)+1)=(N:Int):=by rw [w64 (by omega) (by omega),hN];rfl
        rw [List.set_set,hE,hKV]
        unfold ringO
        rw [List.flatMap_append,List.length_append]
        rfl
       conv=>whnf
       refine ⟨?_,by subst hH1;exact rfl⟩
       have hKV:IntKind.i64.wrap ((kv:Int)+1)=(N:Int):=by rw [w64 (by omega) (by omega),hN];rfl
       show PV.tup [.int .i64 (IntKind.i64.wrap ((kv:Int)+1)),.int .i64 0]=PV.tup [.int .i64 N,.int .i64 0]
       rw [hKV]
set_option maxHeartbeats 1000000
def ttT:TT:=[(3,⟨.int .i64,1,8,[.int .i64 0]⟩),(4,⟨.bool,1,1,[.bool false]⟩),(9,⟨.str,1,16,[.str []]⟩),(88,⟨.slice 9,1,24,[.slice 0 [] (some 9)]⟩),(89,⟨.slice 200,1,24,[.slice 0 [] (some 200)]⟩),(90,⟨.slice 261,1,24,[.slice 0 [] (some 261)]⟩),(92,⟨.strct [(88,0),(89,1),(90,2)],3,72,[.slice 0 [] (some 9),.slice 0 [] (some 200),.slice 0 [] (some 261)]⟩),(178,⟨.fn,1,8,[.nilF]⟩),(200,⟨.arr 2 9,2,32,[.str [],.str []]⟩),(261,⟨.strct [(9,0),(9,1),(88,2)],3,56,[.str [],.str [],.slice 0 [] (some 9)]⟩),(263,⟨.fn,1,8,[.nilF]⟩)]
theorem ttT_ok:ttOk prog ttT=true:=by kernel_rfl
def imm148t:List Nat:=[]
def imm95t:List Nat:=[]
def imm140t:List Nat:=[]
theorem c148 (l:List (List UInt8)) (x:List UInt8) (o:Option Nat) (hs:l.length≤1099511627775):Pure prog 148 [.slice l.length (l.map .str) o,.str x] (.int .i64 (idxF (fun y=>decide (x=y)) l)):=by
 intro H
 generalize hp:(fun y=>decide (x=y))=p
 (refine fnS (imm:=imm148t) ttT_ok func148 ?_;(conv=>whnf))
 refine lO Nat (fun i=>[(0,.slice l.length (l.map .str) none),(1,.str x),(7,.int .i64 l.length),(8,.int .i64 i)]) (fun _=>H)
  (fun i=>i≤l.length∧idxF p l=if idxF p (l.drop i)<0 then -1 else idxF p (l.drop i)+i) (fun i=>l.length - i) ⟨0,⟨Nat.zero_le _,by have:=idxF_ge p l;simp;omega⟩,⟨?_,rfl,rfl,rfl,trivial⟩,rfl⟩ ?_
 ·cases o <;> rfl
 rintro i ⟨h1,h2⟩
 conv=>whnf
 refine ⟨fun h3=>?_,fun h3=>?_⟩
 ·conv=>whnf
  have h3:(i:Int)<l.length:=h3
  have hi:i<l.length:=by omega
  have hgi:=List.getElem?_eq_getElem hi
  refine ⟨⟨by omega,h3⟩,[.str l[i]],elem_cells l hgi,?_⟩
  conv=>whnf
  have hdr:=List.drop_eq_getElem_cons hi
  have hge:=idxF_ge p (l.drop (i+1))
  rw [hdr,idxF_cons] at h2
  refine ⟨fun h5=>?_,fun h5=>?_⟩
  ·conv=>whnf
   have hb:p l[i]=true:=by rw [←hp];exact decide_eq_true h5
   rw [hb] at h2
   refine ⟨?_,rfl⟩
   show PV.int _ _=PV.int _ _
   rw [h2];simp
  ·conv=>whnf
   have hb:p l[i]=false:=by rw [←hp];exact decide_eq_false h5
   rw [hb] at h2
   refine ⟨i+1,⟨by omega,?_⟩,⟨rfl,rfl,rfl,?_,trivial⟩,rfl,by omega⟩
   ·rw [h2]
    simp only [Bool.false_eq_true,if_false]
    split <;> split <;> (try split) <;> omega
   ·show PV.int _ (IntKind.i64.wrap ((i:Int)+1))=PV.int _ _
    rw [w64 (by omega) (by omega)];simp
 ·conv=>whnf
  have h3:¬(i:Int)<l.length:=h3
  refine ⟨?_,rfl⟩
  show PV.int _ _=PV.int _ _
  rw [h2,List.drop_eq_nil_of_le (by omega)];simp [idxF]
theorem any_mem {x:List UInt8} {l:List (List UInt8)}:l.any (fun y=>decide (x=y))=decide (x∈l):=by
 by_cases h:x∈l
 ·rw [decide_eq_true h];exact List.any_eq_true.2 ⟨x,h,decide_eq_true rfl⟩
 ·rw [decide_eq_false h]
  exact List.any_eq_false.2 fun y hy e=>h (by rw [of_decide_eq_true e];exact hy)
theorem c95 (l:List (List UInt8)) (x:List UInt8) (o:Option Nat) (hs:l.length≤1099511627775):Pure prog 95 [.slice l.length (l.map .str) o,.str x] (.bool (decide (x∈l))):=by
 intro H
 (refine fnS (imm:=imm95t) ttT_ok func95 ?_;(conv=>whnf))
 refine cP (c148 l x _ hs) ?_
 conv=>whnf
 have:=idxF_neg (fun y=>decide (x=y)) l
 rw [any_mem] at this
 refine ⟨fun h=>?_,fun h=>?_⟩
 ·conv=>whnf
  exact ⟨by rw [this.1 h];rfl,rfl⟩
 ·conv=>whnf
  refine ⟨?_,rfl⟩
  cases hb:decide (x∈l) with
  | false=>rfl
  | true=>exact absurd (this.2 hb) h
theorem nodup_take {α:Type} {l:List α} {i:Nat} (hi:i<l.length):(l.take (i+1)).Nodup↔(l.take i).Nodup∧l[i] ∉ l.take i:=by
 rw [List.take_succ_eq_append_getElem hi,List.nodup_append]
 constructor
 ·rintro ⟨h1,_,h3⟩
  exact ⟨h1,fun hm=>h3 _ hm _ (by simp) rfl⟩
 ·rintro ⟨h1,h2⟩
  exact ⟨h1,by simp,fun a ha b hb e=>by
   have hb:b=l[i]:=by simpa using hb
   subst e;subst hb;exact h2 ha⟩
theorem nodup_of {α:Type} {l:List α} {i:Nat} (h:l.Nodup):(l.take i).Nodup:=h.sublist (List.take_sublist i l)
theorem c140 (l:List (List UInt8)) (o:Option Nat) (hs:l.length≤1099511627775):Pure prog 140 [.slice l.length (l.map .str) o] (.bool (!decide l.Nodup)):=by
 intro H
 (refine fnS (imm:=imm140t) ttT_ok func140 ?_;(conv=>whnf))
 refine lO Nat (fun i=>[(0,.slice l.length (l.map .str) none),(5,.slice l.length (l.map .str) none),(6,.int .i64 l.length),(7,.int .i64 i)]) (fun _=>H)
  (fun i=>i≤l.length∧(l.take i).Nodup) (fun i=>l.length - i) ⟨0,⟨Nat.zero_le _,by simp⟩,⟨?_,?_,rfl,rfl,trivial⟩,rfl⟩ ?_
 ·cases o <;> rfl
 ·cases o <;> rfl
 rintro i ⟨h1,h2⟩
 conv=>whnf
 refine ⟨fun h3=>?_,fun h3=>?_⟩
 ·conv=>whnf
  have h3:(i:Int)<l.length:=h3
  have hi:i<l.length:=by omega
  have hgi:=List.getElem?_eq_getElem hi
  refine ⟨⟨by omega,h3⟩,[.str l[i]],elem_cells l hgi,?_⟩
  conv=>whnf
  refine ⟨⟨by decide,by omega,by omega⟩,?_⟩
  conv=>whnf
  have hc:=c95 (l.take i) l[i] none (by simp;omega)
  refine cA (args':=[.slice (l.take i).length ((l.take i).map .str) none,.str l[i]]) ?_ (cP hc ?_)
  ·show [PV.slice ((i:Int).toNat - 0) (List.drop (0*1) (List.take ((i:Int).toNat*1) (l.map PV.str))) none,PV.str l[i]]=_
   have e:(l.take i).length=i:=by rw [List.length_take];omega
   rw [e,List.map_take,Int.toNat_natCast,Nat.sub_zero,Nat.mul_one,Nat.mul_one,List.drop_zero]
  ·cases hm:decide (l[i]∈l.take i)
   ·conv=>whnf
    refine ⟨i+1,⟨by omega,(nodup_take hi).2 ⟨h2,of_decide_eq_false hm⟩⟩,⟨rfl,rfl,rfl,?_,trivial⟩,rfl,by omega⟩
    show PV.int _ (IntKind.i64.wrap ((i:Int)+1))=PV.int _ _
    rw [w64 (by omega) (by omega)];simp
   ·conv=>whnf
    refine ⟨?_,rfl⟩
    rw [decide_eq_false fun h=>((nodup_take hi).1 (nodup_of h)).2 (of_decide_eq_true hm)];rfl
 ·conv=>whnf
  have h3:¬(i:Int)<l.length:=h3
  rw [List.take_of_length_le (by omega)] at h2
  refine ⟨?_,rfl⟩
  rw [decide_eq_true h2];rfl
/-! The same for pairs. -/
abbrev Pr:=List UInt8×List UInt8
def prC (p:Pr):List PV:=[.str p.1,.str p.2]
def idxP (p:Pr→Bool):List Pr→Int
 | []=>-1
 | x::l=>if p x then 0 else (if idxP p l<0 then -1 else idxP p l+1)
theorem idxP_cons (p:Pr→Bool) (x:Pr) (l:List Pr):idxP p (x::l)=if p x then 0 else (if idxP p l<0 then -1 else idxP p l+1):=rfl
theorem idxP_ge (p:Pr→Bool):∀l,-1≤idxP p l
 | []=>by simp [idxP]
 | x::l=>by
  have:=idxP_ge p l
  unfold idxP
  split
  ·omega
  ·split <;> omega
theorem idxP_neg (p:Pr→Bool):∀l,0≤idxP p l↔l.any p=true
 | []=>by simp [idxP]
 | x::l=>by
  have:=idxP_neg p l
  have h2:=idxP_ge p l
  unfold idxP
  cases hp:p x
  ·simp only [hp,List.any_cons,Bool.false_or]
   rw [←this]
   by_cases h:idxP p l<0
   ·simp [h]
   ·simp [h];omega
  ·simp [hp]
theorem prC_flat_len (l:List Pr):(l.flatMap prC).length=l.length*2:=by
 induction l with
 | nil=>rfl
 | cons a l ih=>rw [List.flatMap_cons,List.length_append,ih,List.length_cons];show 2+_=_;omega
theorem prC_take (l:List Pr) (i:Nat):(l.flatMap prC).take (i*2)=(l.take i).flatMap prC:=by
 induction l generalizing i with
 | nil=>simp
 | cons a l ih =>
  cases i with
  | zero=>simp
  | succ i =>
   rw [List.flatMap_cons,List.take_succ_cons,List.flatMap_cons,←ih,show (i+1)*2=(prC a).length+i*2 by show _=2+i*2;omega,List.take_length_add_append]
theorem pr_cells (l:List Pr) {i:Nat} {x:Pr} (h:l[i]? = some x):∀(j:Nat) (c:PV),(prC x)[j]? = some c→(l.flatMap prC)[(i:Int).toNat*2+j]? = some c:=by
 rw [Int.toNat_natCast]
 induction l generalizing i with
 | nil=>simp at h
 | cons a l ih =>
  intro j c hj
  rw [List.flatMap_cons]
  cases i with
  | zero =>
   have:a=x:=by simpa using h
   subst this
   rw [Nat.zero_mul,Nat.zero_add,List.getElem?_append_left (List.getElem?_eq_some_iff.1 hj).1];exact hj
  | succ i =>
   rw [List.getElem?_append_right (by show 2≤_;omega),show (i+1)*2+j - (prC a).length=i*2+j by show _ - 2=_;omega]
   exact ih (by simpa using h) j c hj
theorem fitT (a b:List UInt8):FitP ttT 6 200 [.str a,.str b]:=⟨by decide,⟨by show 1≤2;omega,a,rfl⟩,⟨by show 1≤1;omega,b,rfl⟩,rfl⟩
theorem prEq {a b c d:List UInt8} (h:[PV.str a,.str b]=[.str c,.str d]):(a,b)=(c,d):=by
 injection h with h1 h2
 injection h1 with h1
 injection h2 with h2 _
 injection h2 with h2
 rw [h1,h2]
theorem prEq' {a b c d:List UInt8} (h:(a,b)=(c,d)):[PV.str a,.str b]=[.str c,.str d]:=by cases h;rfl
def imm245t:List Nat:=[3]
theorem c245 (l:List Pr) (x:Pr) (o:Option Nat) (hs:l.length≤1099511627775):Pure prog 245 [.slice l.length (l.flatMap prC) o,.agg [.str x.1,.str x.2]] (.int .i64 (idxP (fun y=>decide (x=y)) l)):=by
 intro H
 generalize hp:(fun y=>decide (x=y))=p
 (refine fnS (imm:=imm245t) ttT_ok func245 ?_;(conv=>whnf))
 refine lO Nat (fun i=>[(0,.slice l.length (l.flatMap prC) none),(3,.elem [.str x.1,.str x.2]),(7,.int .i64 l.length),(8,.int .i64 i)]) (fun _=>H)
  (fun i=>i≤l.length∧idxP p l=if idxP p (l.drop i)<0 then -1 else idxP p (l.drop i)+i) (fun i=>l.length - i) ⟨0,⟨Nat.zero_le _,by have:=idxP_ge p l;simp;omega⟩,⟨?_,rfl,rfl,rfl,trivial⟩,rfl⟩ ?_
 ·cases o <;> rfl
 rintro i ⟨h1,h2⟩
 conv=>whnf
 refine ⟨fun h3=>?_,fun h3=>?_⟩
 ·conv=>whnf
  have h3:(i:Int)<l.length:=h3
  have hi:i<l.length:=by omega
  have hgi:=List.getElem?_eq_getElem hi
  have hdr:=List.drop_eq_getElem_cons hi
  have hge:=idxP_ge p (l.drop (i+1))
  rw [hdr,idxP_cons] at h2
  refine dP2 (by kernel_rfl) ?_
  conv=>whnf
  iterate 3 (refine dS ?_;(conv=>whnf))
  apply Exists.intro
  apply And.intro
  ·conv=>whnf
   refine ⟨⟨by omega,h3⟩,prC l[i],pr_cells l hgi,?_⟩
   exact ⟨rfl,rfl,trivial⟩
  conv=>whnf
  (refine dS ?_;(conv=>whnf))
  by_cases hx:x=l[i]
  ·refine ⟨.bool true,?_,?_⟩
   ·conv=>whnf
    exact ⟨⟨fitT _ _,fitT _ _⟩,fun _=>⟨rfl,rfl,trivial⟩,fun h=>absurd (prEq' (a:=x.1) (b:=x.2) hx) h⟩
   conv=>whnf
   have hb:p l[i]=true:=by rw [←hp];exact decide_eq_true hx
   rw [hb] at h2
   refine ⟨?_,rfl⟩
   show PV.int _ _=PV.int _ _
   rw [h2];simp
  ·refine ⟨.bool false,?_,?_⟩
   ·conv=>whnf
    exact ⟨⟨fitT _ _,fitT _ _⟩,fun h=>absurd (prEq h) hx,fun _=>⟨rfl,rfl,trivial⟩⟩
   conv=>whnf
   have hb:p l[i]=false:=by rw [←hp];exact decide_eq_false hx
   rw [hb] at h2
   refine ⟨i+1,⟨by omega,?_⟩,⟨rfl,rfl,rfl,?_,trivial⟩,rfl,by omega⟩
   ·rw [h2]
    simp only [Bool.false_eq_true,if_false]
    split <;> split <;> (try split) <;> omega
   ·show PV.int _ (IntKind.i64.wrap ((i:Int)+1))=PV.int _ _
    rw [w64 (by omega) (by omega)];simp
 ·conv=>whnf
  have h3:¬(i:Int)<l.length:=h3
  refine ⟨?_,rfl⟩
  show PV.int _ _=PV.int _ _
  rw [h2,List.drop_eq_nil_of_le (by omega)];simp [idxP]
theorem any_memP {x:Pr} {l:List Pr}:l.any (fun y=>decide (x=y))=decide (x∈l):=by
 by_cases h:x∈l
 ·rw [decide_eq_true h];exact List.any_eq_true.2 ⟨x,h,decide_eq_true rfl⟩
 ·rw [decide_eq_false h]
  exact List.any_eq_false.2 fun y hy e=>h (by rw [of_decide_eq_true e];exact hy)
def imm211t:List Nat:=[3]
theorem c211 (l:List Pr) (x:Pr) (o:Option Nat) (hs:l.length≤1099511627775):Pure prog 211 [.slice l.length (l.flatMap prC) o,.agg [.str x.1,.str x.2]] (.bool (decide (x∈l))):=by
 intro H
 (refine fnS (imm:=imm211t) ttT_ok func211 ?_;(conv=>whnf))
 refine cP (c245 l x _ hs) ?_
 conv=>whnf
 have:=idxP_neg (fun y=>decide (x=y)) l
 rw [any_memP] at this
 refine ⟨fun h=>?_,fun h=>?_⟩
 ·conv=>whnf
  exact ⟨by rw [this.1 h];rfl,rfl⟩
 ·conv=>whnf
  refine ⟨?_,rfl⟩
  cases hb:decide (x∈l) with
  | false=>rfl
  | true=>exact absurd (this.2 hb) h
theorem set_appK (H X:PH) (a b:PObj):((H++X)++[a]).set (H++X).length b=H++(X++[b]):=by simp
def imm141t:List Nat:=[]
theorem c141x (l:List Pr) (o:Option Nat) (hs:l.length≤1099511627775) (H:PH):CK prog 141 [.slice l.length (l.flatMap prC) o] H fun r H'=>r=.bool (!decide l.Nodup)∧∃ext,H'=H++ext:=by
 (refine fnS (imm:=imm141t) ttT_ok func141 ?_;(conv=>whnf))
 refine lO (Nat×PH) (fun s=>[(0,.slice l.length (l.flatMap prC) none),(5,.slice l.length (l.flatMap prC) none),(6,.int .i64 l.length),(7,.int .i64 s.1)]) (fun s=>H++s.2)
  (fun s=>s.1≤l.length∧(l.take s.1).Nodup) (fun s=>l.length - s.1) ⟨(0,[]),⟨Nat.zero_le _,by simp⟩,⟨?_,?_,rfl,rfl,trivial⟩,(List.append_nil H).symm⟩ ?_
 ·cases o <;> rfl
 ·cases o <;> rfl
 rintro ⟨i,X⟩ ⟨h1,h2⟩
 replace h1:i≤l.length:=h1
 replace h2:(l.take i).Nodup:=h2
 conv=>whnf
 refine ⟨fun h3=>?_,fun h3=>?_⟩
 ·conv=>whnf
  have h3:(i:Int)<l.length:=h3
  have hi:i<l.length:=by omega
  have hgi:=List.getElem?_eq_getElem hi
  refine ⟨⟨by omega,h3⟩,prC l[i],pr_cells l hgi,?_⟩
  conv=>whnf
  ((conv in (_[_]?)=>tactic=>exact gL (H++X) _);(conv=>whnf))
  refine dP2 (by kernel_rfl) ?_
  conv=>whnf
  iterate 2 (refine dS ?_;(conv=>whnf))
  apply Exists.intro
  apply And.intro
  ·conv=>whnf
   refine ⟨⟨by decide,by omega,by omega⟩,?_⟩
   exact ⟨rfl,rfl,trivial⟩
  conv=>whnf
  apply Exists.intro
  apply And.intro
  ·conv=>whnf
   ((conv in (_[_]?)=>tactic=>exact (show (((H++X)++[_]).set (H++X).length _)[(H++X).length]? = some _ from gS (gL (H++X) _)));(conv=>whnf))
   exact ⟨rfl,rfl,trivial⟩
  conv=>whnf
  have hc:=c211 (l.take i) l[i] none (by simp;omega)
  have ha:[PV.slice ((i:Int).toNat - 0) (List.drop (0*2) (List.take ((i:Int).toNat*2) (l.flatMap prC))) none,.agg [.str l[i].1,.str l[i].2]]=[.slice (l.take i).length ((l.take i).flatMap prC) none,.agg [.str l[i].1,.str l[i].2]]:=by
   have e:(l.take i).length=i:=by rw [List.length_take];omega
   rw [e,Int.toNat_natCast,Nat.sub_zero,Nat.zero_mul,List.drop_zero,prC_take]
  cases hm:decide (l[i]∈l.take i)
  ·rw [hm] at hc
   refine ⟨.bool false,cA ha (cP hc ⟨rfl,rfl,trivial⟩),?_⟩
   conv=>whnf
   refine ⟨(i+1,X++[⟨200,[.str l[i].1,.str l[i].2],1⟩]),⟨by show i+1≤_;omega,(nodup_take hi).2 ⟨h2,of_decide_eq_false hm⟩⟩,⟨rfl,rfl,rfl,?_,trivial⟩,?_,by show l.length - (i+1)<l.length - i;omega⟩
   ·show PV.int _ (IntKind.i64.wrap ((i:Int)+1))=PV.int _ _
    rw [w64 (by omega) (by omega)];simp
   ·exact set_appK H X _ _
  ·rw [hm] at hc
   refine ⟨.bool true,cA ha (cP hc ⟨rfl,rfl,trivial⟩),?_⟩
   conv=>whnf
   refine ⟨?_,X++[⟨200,[.str l[i].1,.str l[i].2],1⟩],?_⟩
   ·rw [decide_eq_false fun h=>((nodup_take hi).1 (nodup_of h)).2 (of_decide_eq_true hm)];rfl
   ·exact set_appK H X _ _
 ·conv=>whnf
  have h3:¬(i:Int)<l.length:=h3
  rw [List.take_of_length_le (by omega)] at h2
  refine ⟨?_,_,rfl⟩
  rw [decide_eq_true h2];rfl
theorem c141 (l:List Pr) (o:Option Nat) (hs:l.length≤1099511627775):Pure prog 141 [.slice l.length (l.flatMap prC) o] (.bool (!decide l.Nodup)):=fun H =>
 ((c141x l o hs H).gc fun r H' hh=>⟨by rw [hh.1];rfl,hh.2⟩).mono fun x H' hh=>⟨hh.2.elim fun _ h=>h.1,hh.1⟩
end Go.Proofs.Tryz
namespace Ps
open Go
theorem CK.nil {P:Program} {f:Nat} {args:List PV} {H:PH} (h:CK P f args H fun r H'=>r=.nilS∧H'=H):CK P f args H fun r H'=>r=.slice 0 [] none∧H'=H:=by
 intro g w vs hs hr
 refine (h g w vs hs hr).mono ?_
 rintro e w' ⟨v,r,H',g',rfl,⟨rfl,rfl⟩,hr',st,ho,hc⟩
 have h0:VC P g' w' v .nilS:=hr'.e 0
 have h0:v=.slice none 0 0:=by
  rcases h0 with h0 | ⟨_,_,_,_,h0,_⟩
  ·exact h0.inv_nilS
  ·cases h0
 subst h0
 have hv:V g' w' (.slice none 0 0) (.slice 0 [] none):=.snil none
 have hno:∀t i b,¬ownAt (one (.slice none 0 0) t) (Env.get [(0,.slice 0 [] none)] t) i b:=fun t i b h=>by
  rw [Env.get_cons] at h
  unfold one at h
  by_cases e:t=0
  ·rw [if_pos e,if_pos e.symm] at h;exact no_own hv i b h
  ·rw [if_neg (Ne.symm e)] at h;cases h.2.1
 refine ⟨_,.slice 0 [] none,H',g',rfl,⟨rfl,rfl⟩,⟨hr'.h,fun t=>?_,fun t i t' i' b h _=>absurd h (hno t i b),fun t i b h=>absurd h (hno t i b),hr'.cc⟩,st,fun i b h=>absurd h (no_own hv i b),hc⟩
 rw [Env.get_cons]
 unfold one
 by_cases e:t=0
 ·rw [if_pos e,if_pos e.symm];exact hv.vc
 ·rw [if_neg e,if_neg (Ne.symm e)];exact (V.undef _).vc
end Ps
namespace Go.Proofs.Tryz
open Go Ps
def ttB:TT:=[(3,⟨.int .i64,1,8,[.int .i64 0]⟩),(5,⟨.int .u8,1,1,[.int .u8 0]⟩),(9,⟨.str,1,16,[.str []]⟩),(26,⟨.slice 5,1,24,[.slice 0 [] (some 5)]⟩),(255,⟨.slice 26,1,24,[.slice 0 [] (some 26)]⟩)]
theorem ttB_ok:ttOk prog ttB=true:=by kernel_rfl
def imm255:List Nat:=[22]
def imm219:List Nat:=[33]
def imm164:List Nat:=[]
def imm168:List Nat:=[]
def imm170:List Nat:=[]
def imm220:List Nat:=[]
def imm166:List Nat:=[3,15,30]
def imm221:List Nat:=[]
def Ext (H H':PH):Prop:=∃ext,H'=H++ext
theorem Ext.refl (H:PH):Ext H H:=⟨[],by simp⟩
theorem Ext.push {H H':PH} (h:Ext H H') (o:PObj):Ext H (H'++[o]):=by
 obtain ⟨e,rfl⟩:=h
 exact ⟨e++[o],by simp⟩
theorem Ext.set {H H':PH} (h:Ext H H') {id:Nat} (hid:H.length≤id) (o:PObj):Ext H (H'.set id o):=by
 obtain ⟨e,rfl⟩:=h
 exact ⟨e.set (id - H.length) o,by rw [List.set_append_right _ _ hid]⟩
theorem Ext.len {H H':PH} (h:Ext H H'):H.length≤H'.length:=by
 obtain ⟨e,rfl⟩:=h
 simp
theorem c255 (n:Nat) (hn:n≤1099511627776) (H:PH):CK prog 255 [.nilS,.int .i64 n] H fun r H'=>(n=0∧r=.nilS∧H'=H)∨(0<n∧∃cap o,n≤cap∧r=.sref H.length 0 0 cap∧H'=H++[o]∧o.cs.length=cap):=by
 (refine fnS (imm:=imm255) ttB_ok func255 ?_;(conv=>whnf))
 refine ⟨fun h=>absurd (show (n:Int)<0 from h) (by omega),fun _=>?_⟩
 conv=>whnf
 have hw:IntKind.i64.wrap ((n:Int) - IntKind.i64.wrap (0 - 0))=n:=by
  rw [show IntKind.i64.wrap ((0:Int) - 0)=0 from rfl,w64 (by omega) (by omega)];omega
 refine ⟨fun h=>?_,fun h=>?_⟩
 ·conv=>whnf
  have h:IntKind.i64.wrap ((n:Int) - IntKind.i64.wrap (0 - 0)) > 0:=h
  rw [hw] at h
  refine ⟨⟨by omega,by omega,by omega⟩,?_⟩
  conv=>whnf
  rw [hw]
  refine ⟨⟨h,by show (n:Int)*(1:Nat)≤_;omega⟩,fun cap hc=>?_⟩
  conv=>whnf
  have hc:n≤cap:=hc
  refine ⟨⟨by omega,by omega,by show (0:Int)≤n;omega⟩,fun h2=>?_,fun h2=>absurd (show (0:Int)<((n:Int).toNat:Int) by omega) h2⟩
  conv=>whnf
  refine .inr ⟨by omega,cap,_,hc,rfl,rfl,?_⟩
  show (zerosOf [PV.int .u8 0] n++zerosOf [PV.int .u8 0] (cap - n)).length=cap
  rw [List.length_append,(zerosOf_get (z:=[PV.int .u8 0]) (sz:=1) rfl (by omega) n).1,(zerosOf_get (z:=[PV.int .u8 0]) (sz:=1) rfl (by omega) (cap - n)).1]
  omega
 ·conv=>whnf
  have h:¬IntKind.i64.wrap ((n:Int) - IntKind.i64.wrap (0 - 0)) > 0:=h
  rw [hw] at h
  exact .inl ⟨by omega,rfl,rfl⟩
def sl (b:List UInt8):PV:=.slice b.length (b.map bC) none
def Rep (H:PH) (c:PV) (b:List UInt8):Prop:=c=sl b∨∃id off cap o,c=.sref id off b.length cap∧H[id]? = some o∧(((o.cs.drop off).take (b.length*1)).map dem)=b.map bC
def Reps (H:PH) (cs:List PV) (ls:List (List UInt8)):Prop:=cs.length=ls.length∧∀(i:Nat) (c:PV) (b:List UInt8),cs[i]? = some c→ls[i]? = some b→Rep H c b
theorem Reps.sl (H:PH) (ls:List (List UInt8)):Reps H (ls.map sl) ls:=⟨by simp,fun i c b hc hb=>by
 rw [List.getElem?_map,hb] at hc
 exact .inl (Option.some.inj hc).symm⟩
theorem Ext.get {H H':PH} (h:Ext H H') {j:Nat} {o:PObj} (hj:H[j]? = some o):H'[j]? = some o:=by
 obtain ⟨e,rfl⟩:=h
 rw [List.getElem?_append_left (List.getElem?_eq_some_iff.1 hj).1];exact hj
structure CoS where
 k:Nat
structure CoT where
 k:Nat
 H:PH
 v:PV
theorem take_pre {a b:List PV} {n:Nat} (h:a.length=n):(a++b).take n=a:=by subst h;simp
theorem flat_take {ls:List (List UInt8)} {k:Nat} (hk:k<ls.length):(ls.take (k+1)).flatten=(ls.take k).flatten++ls[k]:=by
 rw [List.take_succ_eq_append_getElem hk,List.flatten_append,List.flatten_cons,List.flatten_nil,List.append_nil]
theorem flat_le (ls:List (List UInt8)) (k:Nat):((ls.take k).flatten).length≤ls.flatten.length:=by
 conv=>rhs;rw [←List.take_append_drop k ls]
 rw [List.flatten_append,List.length_append];omega
theorem allOne (b:List UInt8):(b.map bC).all oneP=true:=List.all_eq_true.2 fun x hx=>by
 obtain ⟨b,_,rfl⟩:=List.mem_map.1 hx
 rfl
def coOk (H0:PH) (ls:List (List UInt8)) (k:Nat) (H:PH) (v:PV):Prop :=
 (ls.flatten.length=0∧v=.nilS∧H=H0)∨(0<ls.flatten.length∧∃id cap o,v=.sref id 0 ((ls.take k).flatten).length cap∧H0.length≤id∧H[id]? = some o∧(o.cs.length=cap∧ls.flatten.length≤cap)∧o.cs.take ((ls.take k).flatten).length=((ls.take k).flatten).map bC)
theorem c219x (ls:List (List UInt8)) (hn:ls.length≤1099511627776) (ht:ls.flatten.length≤1099511627776) (H0:PH) (cs:List PV) (hr:Reps H0 cs ls):CK prog 219 [.slice ls.length cs none] H0 fun r H'=>Ext H0 H'∧coOk H0 ls ls.length H' r:=by
  (refine fnS (imm:=imm219) ttB_ok func219 ?_;(conv=>whnf))
  refine lO CoS (fun x=>[(0,.slice ls.length cs none),(9,.slice ls.length cs none),(10,.int .i64 ls.length),(11,.int .i64 x.k),(3,.int .i64 ((ls.take x.k).flatten).length)]) (fun _=>H0)
    (fun x=>x.k≤ls.length) (fun x=>ls.length - x.k) ⟨⟨0⟩,Nat.zero_le _,⟨rfl,rfl,rfl,rfl,rfl,trivial⟩,rfl⟩ ?_
  rintro ⟨k⟩ hk
  have hk:k≤ls.length:=hk
  conv=>whnf
  refine ⟨fun h=>?_,fun h=>?_⟩
  · conv=>whnf
    have h:(k:Int)<ls.length:=h
    have hi:k<ls.length:=by omega
    have hic:k<cs.length:=by rw [hr.1];exact hi
    have hrep:=hr.2 k _ _ (List.getElem?_eq_getElem hic) (List.getElem?_eq_getElem hi)
    refine ⟨⟨by show (0:Int)≤(k:Int);omega,h⟩,[cs[k]],fun j c hj=>?_,?_⟩
    · match j with
      | 0 =>
        have hj:some cs[k]=some c:=hj
        show cs[(k:Int).toNat*1+0]? = _
        rw [←hj]
        simp [hic]
      | j+1=>simp at hj
    have hf:=flat_take hi
    have hl:=flat_le ls (k+1)
    rw [hf,List.length_append] at hl
    have hw:IntKind.i64.wrap ((((ls.take k).flatten).length:Int)+(ls[k].length:Int))=((((ls.take (k+1)).flatten).length:Nat):Int):=by
      rw [w64 (by omega) (by omega),hf,List.length_append];rfl
    generalize cs[k]=c at hrep ⊢
    rcases hrep with rfl | ⟨id,off,cap,o,rfl,_,_⟩
    all_goals
     conv=>whnf
     refine ⟨fun h=>absurd (show IntKind.i64.wrap ((((ls.take k).flatten).length:Int)+(ls[k].length:Int))<0 from h) (by rw [hw];omega),fun _=>?_⟩
     conv=>whnf
     refine ⟨⟨k+1⟩,by show k+1≤ls.length;omega,⟨rfl,rfl,rfl,?_,?_,trivial⟩,rfl,by show ls.length - (k+1)<ls.length - k;omega⟩
     · show PV.int _ (IntKind.i64.wrap ((k:Int)+1))=PV.int _ ((k+1:Nat):Int)
       rw [w64 (by omega) (by omega)];rfl
     · exact congrArg (PV.int .i64) hw
  · conv=>whnf
    have h:¬(k:Int)<ls.length:=h
    have hkl:k=ls.length:=by omega
    subst hkl
    have htake:ls.take ls.length=ls:=List.take_of_length_le (Nat.le_refl _)
    refine cA (args':=[.nilS,.int .i64 ls.flatten.length]) (by show [PV.nilS,.int .i64 ((ls.take ls.length).flatten).length]=_;rw [htake]) ?_
    refine cO (c255 ls.flatten.length ht H0) ?_
    rintro r H1 hr1
    have hstart:Ext H0 H1∧coOk H0 ls 0 H1 r:=by
      rcases hr1 with ⟨h1,rfl,rfl⟩ | ⟨h1,cap,o,h2,rfl,rfl,h3⟩
      · exact ⟨Ext.refl _,.inl ⟨h1,rfl,rfl⟩⟩
      · exact ⟨⟨_,rfl⟩,.inr ⟨h1,H0.length,cap,o,rfl,Nat.le_refl _,by simp,⟨h3,h2⟩,by simp⟩⟩
    obtain ⟨e1,e2⟩:=hstart
    have hcase:(∃(v:PV),r=v∧(v=.nilS∨∃id n cap,v=.sref id 0 n cap)):=by
      rcases e2 with ⟨_,rfl,_⟩ | ⟨_,id,cap,_,rfl,_⟩
      · exact ⟨_,rfl,.inl rfl⟩
      · exact ⟨_,rfl,.inr ⟨id,_,cap,rfl⟩⟩
    have hgo:∀(E:Env),subE [(0,.slice ls.length cs none),(25,.slice ls.length cs none),(26,.int .i64 ls.length),(27,.int .i64 0),(6,r)] E→True:=fun _ _=>trivial
    obtain ⟨v,rfl,hv⟩:=hcase
    rcases hv with rfl | ⟨id,n,cap,rfl⟩
    all_goals
      conv=>whnf
      refine lO CoT (fun x=>[(25,.slice ls.length cs none),(26,.int .i64 ls.length),(27,.int .i64 x.k),(6,x.v)]) (fun x=>x.H)
        (fun x=>x.k≤ls.length∧Ext H0 x.H∧coOk H0 ls x.k x.H x.v) (fun x=>ls.length - x.k) ⟨⟨0,H1,_⟩,⟨Nat.zero_le _,e1,e2⟩,⟨rfl,rfl,rfl,rfl,trivial⟩,rfl⟩ ?_
      clear hgo e1 e2 hr1
      rintro ⟨k,H,v⟩ ⟨g1,g2,g3⟩
      have g1:k≤ls.length:=g1
      have g2:Ext H0 H:=g2
      have g3:coOk H0 ls k H v:=g3
      conv=>whnf
      refine ⟨fun h=>?_,fun h=>?_⟩
      · conv=>whnf
        have h:(k:Int)<ls.length:=h
        have hi:k<ls.length:=by omega
        have hic:k<cs.length:=by rw [hr.1];exact hi
        have hrep:=hr.2 k _ _ (List.getElem?_eq_getElem hic) (List.getElem?_eq_getElem hi)
        refine ⟨⟨by show (0:Int)≤(k:Int);omega,h⟩,[cs[k]],fun j c hj=>?_,?_⟩
        · match j with
          | 0 =>
            have hj:some cs[k]=some c:=hj
            show cs[(k:Int).toNat*1+0]? = _
            rw [←hj]
            simp [hic]
          | j+1=>simp at hj
        generalize cs[k]=c at hrep ⊢
        have hf:=flat_take hi
        have hl:=flat_le ls (k+1)
        rw [hf,List.length_append] at hl
        have hlast:∀(E:Env) (H':PH) (v':PV),subE [(25,.slice ls.length cs none),(26,.int .i64 ls.length),(27,.int .i64 (IntKind.i64.wrap ((k:Int)+1))),(6,v')] E→Ext H0 H'→coOk H0 ls (k+1) H' v' →
          ∃s':CoT,(s'.k≤ls.length∧Ext H0 s'.H∧coOk H0 ls s'.k s'.H s'.v)∧subE [(25,.slice ls.length cs none),(26,.int .i64 ls.length),(27,.int .i64 s'.k),(6,s'.v)] E∧H'=s'.H∧ls.length - s'.k<ls.length - k:=by
          intro E H' v' hE hx hy
          rw [w64 (by omega) (by omega)] at hE
          exact ⟨⟨k+1,H',v'⟩,⟨by show k+1≤ls.length;omega,hx,hy⟩,hE,rfl,by show ls.length - (k+1)<ls.length - k;omega⟩
        rcases g3 with ⟨y1,rfl,y3⟩ | ⟨y1,id,cap,o,rfl,hid,hob,⟨hcap,htc⟩,htk⟩
        · have hz:ls[k].length=0:=by omega
          rcases hrep with rfl | ⟨id,off,cap,o,rfl,ho,hbytes⟩
          · conv=>whnf
            refine ⟨⟨by show ls[k].length*1≤_;omega,by rw [List.length_map,Nat.mul_one],allOne _⟩,fun _=>?_,fun h=>absurd (show 0<ls[k].length from h) (by omega)⟩
            conv=>whnf
            exact hlast _ _ _ ⟨rfl,rfl,rfl,rfl,trivial⟩ g2 (.inl ⟨y1,rfl,y3⟩)
          · have ho':=g2.get ho
            conv=>whnf
            ((conv in (_[_]?)=>tactic=>exact ho');(conv=>whnf))
            refine ⟨⟨by show ls[k].length*1≤_;omega,(congrArg List.length hbytes).trans (by rw [List.length_map];exact (Nat.mul_one _).symm),(congrArg (List.all · oneP) hbytes).trans (allOne _)⟩,fun _=>?_,fun h=>absurd (show 0<ls[k].length from h) (by omega)⟩
            conv=>whnf
            exact hlast _ _ _ ⟨rfl,rfl,rfl,rfl,trivial⟩ g2 (.inl ⟨y1,rfl,y3⟩)
        · have hfin:∀(ds:List PV),ds=ls[k].map bC→(setCells (((ls.take k).flatten).length*1) ds o.cs).length=cap∧(setCells (((ls.take k).flatten).length*1) ds o.cs).take ((ls.take (k+1)).flatten).length=((ls.take (k+1)).flatten).map bC:=by
            rintro ds rfl
            have hse:setCells (((ls.take k).flatten).length*1) (ls[k].map bC) o.cs=o.cs.take (((ls.take k).flatten).length*1)++ls[k].map bC++o.cs.drop (((ls.take k).flatten).length*1+(ls[k].map bC).length):=setCells_eq _ _ _ (by rw [List.length_map];omega)
            refine ⟨by rw [setCells_length _ _ _ (by rw [List.length_map];omega)];exact hcap,?_⟩
            rw [hse,hf,Nat.mul_one,htk,take_pre (by rw [List.length_append,List.length_append,List.length_map,List.length_map]),List.map_append]
          rcases hrep with rfl | ⟨id2,off2,cap2,o2,rfl,ho,hbytes⟩
          · obtain ⟨f1,f2⟩:=hfin _ rfl
            conv=>whnf
            ((conv in (_[_]?)=>tactic=>exact hob);(conv=>whnf))
            refine ⟨⟨rfl,by show (((ls.take k).flatten).length+ls[k].length)*1≤_;omega,by rw [List.length_map,Nat.mul_one],allOne _,by show ((ls.take k).flatten).length*1≤_;omega⟩,fun _=>⟨by show (((ls.take k).flatten).length+ls[k].length)*1≤_;omega,?_⟩,fun h=>absurd h (by omega)⟩
            conv=>whnf
            exact hlast _ _ _ ⟨rfl,rfl,rfl,rfl,trivial⟩ (g2.set hid _) (.inr ⟨y1,id,cap,⟨o.T,setCells (((ls.take k).flatten).length*1) (ls[k].map bC) o.cs,o.ver+1⟩,by rw [hf,List.length_append];rfl,hid,gS hob,⟨f1,htc⟩,f2⟩)
          · obtain ⟨f1,f2⟩:=hfin _ hbytes
            have ho':=g2.get ho
            conv=>whnf
            ((conv in (_[_]?)=>tactic=>exact ho');(conv=>whnf))
            ((conv in (_[_]?)=>tactic=>exact hob);(conv=>whnf))
            refine ⟨⟨rfl,by show (((ls.take k).flatten).length+ls[k].length)*1≤_;omega,(congrArg List.length hbytes).trans (by rw [List.length_map];exact (Nat.mul_one _).symm),(congrArg (List.all · oneP) hbytes).trans (allOne _),by show ((ls.take k).flatten).length*1≤_;omega⟩,fun _=>⟨by show (((ls.take k).flatten).length+ls[k].length)*1≤_;omega,?_⟩,fun h=>absurd h (by omega)⟩
            conv=>whnf
            exact hlast _ _ _ ⟨rfl,rfl,rfl,rfl,trivial⟩ (g2.set hid _) (.inr ⟨y1,id,cap,⟨o.T,setCells (((ls.take k).flatten).length*1) (((o2.cs.drop off2).take (ls[k].length*1)).map dem) o.cs,o.ver+1⟩,by rw [hf,List.length_append];rfl,hid,gS hob,⟨f1,htc⟩,f2⟩)
      · conv=>whnf
        have h:¬(k:Int)<ls.length:=h
        have hkl:k=ls.length:=by omega
        subst hkl
        rcases g3 with ⟨y1,rfl,y3⟩ | ⟨y1,id,cap,o,rfl,y2⟩
        · conv=>whnf
          exact ⟨g2,.inl ⟨y1,rfl,y3⟩⟩
        · conv=>whnf
          exact ⟨g2,.inr ⟨y1,id,cap,o,rfl,y2⟩⟩
theorem c219 (ls:List (List UInt8)) (hn:ls.length≤1099511627776) (ht:ls.flatten.length≤1099511627776) {H0:PH} {cs:List PV} (hr:Reps H0 cs ls):CK prog 219 [.slice ls.length cs none] H0 fun r H'=>r=sl ls.flatten∧H'=H0:=by
 have htake:ls.take ls.length=ls:=List.take_of_length_le (Nat.le_refl _)
 rcases Nat.eq_zero_or_pos ls.flatten.length with h0 | h0
 ·have hnil:ls.flatten=[]:=List.length_eq_zero_iff.1 h0
  rw [hnil]
  refine CK.nil ((c219x ls hn ht H0 cs hr).mono fun r H' ⟨_,h⟩=>?_)
  rcases h with ⟨_,h1,h2⟩ | ⟨h1,_⟩
  ·exact ⟨h1,h2⟩
  ·omega
 ·refine CK.frz (c219x ls hn ht H0 cs hr) fun r H' ⟨⟨ext,he⟩,h⟩=>?_
  rcases h with ⟨h1,_⟩ | ⟨_,id,cap,o,h1,h2,h3,⟨h4,h5⟩,h6⟩
  ·omega
  rw [htake] at h1 h6
  refine ⟨ext,id,cap,o,he,h1,h2,h3,by rw [List.length_map];omega,by rw [List.length_map];exact h6,?_⟩
  exact List.all_eq_true.2 fun x hx=>by
   obtain ⟨b,_,rfl⟩:=List.mem_map.1 hx
   rfl
def ttW:TT:=[(3,⟨.int .i64,1,8,[.int .i64 0]⟩),(5,⟨.int .u8,1,1,[.int .u8 0]⟩),(26,⟨.slice 5,1,24,[.slice 0 [] (some 5)]⟩),(221,⟨.arr 16 5,16,16,List.replicate 16 (.int .u8 0)⟩),(142,⟨.int .u64,1,8,[.int .u64 0]⟩),(155,⟨.int .u64,1,8,[.int .u64 0]⟩),(255,⟨.slice 26,1,24,[.slice 0 [] (some 26)]⟩),(356,⟨.ptr,1,8,[.ptr none]⟩),(357,⟨.arr 4 142,4,32,[.int .u64 0,.int .u64 0,.int .u64 0,.int .u64 0]⟩)]
theorem ttW_ok:ttOk prog ttW=true:=by kernel_rfl
def imm284:List Nat:=[]
def imm260:List Nat:=[]
def imm259:List Nat:=[]
def imm258:List Nat:=[]
def imm226:List Nat:=[2]
def rotS (k:Int):Int:=ibits .and .u64 (IntKind.u64.wrap k) 63
def rotC (x k:Int):Int:=ibits .or .u64 (ishl .u64 x (rotS k)) (ishr .u64 x (IntKind.u64.wrap (64 - rotS k)))
theorem u64_nonneg (x:Int):0≤IntKind.u64.wrap x:=by
 show 0≤x % _
 exact Int.emod_nonneg _ (by decide)
theorem c284 (x k:Int):Pure prog 284 [.int .u64 x,.int .i64 k] (.int .u64 (rotC x k)):=by
 intro H
 (refine fnS (imm:=imm284) ttW_ok func284 ?_;(conv=>whnf))
 refine ⟨u64_nonneg _,?_⟩
 conv=>whnf
 refine ⟨u64_nonneg _,?_⟩
 conv=>whnf
 exact ⟨rfl,rfl⟩
structure S4 where
 a:Int
 b:Int
 c:Int
 d:Int
def S4.O (s:S4) (v:Nat):PObj:=⟨357,[.int .u64 s.a,.int .u64 s.b,.int .u64 s.c,.int .u64 s.d],v⟩
def addW (x y:Int):Int:=IntKind.u64.wrap (x+y)
def xorW (x y:Int):Int:=ibits .xor .u64 x y
def S4.s0 (s:S4):S4:=⟨addW s.a s.b,s.b,s.c,s.d⟩
def S4.s1 (s:S4):S4:=⟨s.a,xorW (rotC s.b 13) s.a,s.c,s.d⟩
def S4.s2 (s:S4):S4:=⟨rotC s.a 32,s.b,s.c,s.d⟩
def S4.s3 (s:S4):S4:=⟨s.a,s.b,addW s.c s.d,s.d⟩
def S4.s4 (s:S4):S4:=⟨s.a,s.b,s.c,xorW (rotC s.d 16) s.c⟩
def S4.s5 (s:S4):S4:=⟨addW s.a s.d,s.b,s.c,s.d⟩
def S4.s6 (s:S4):S4:=⟨s.a,s.b,s.c,xorW (rotC s.d 21) s.a⟩
def S4.s7 (s:S4):S4:=⟨s.a,s.b,addW s.c s.b,s.d⟩
def S4.s8 (s:S4):S4:=⟨s.a,xorW (rotC s.b 17) s.c,s.c,s.d⟩
def S4.s9 (s:S4):S4:=⟨s.a,s.b,rotC s.c 32,s.d⟩
def S4.rnd (s:S4):S4:=s.s0.s1.s2.s3.s4.s5.s6.s7.s8.s9
def S4.rnds:Nat→S4→S4
 | 0,s=>s
 | n+1,s=>(S4.rnds n s).rnd
theorem S4.look (s:S4) (v:Nat) {id:Nat} {H:PH} {o:PObj} (h:H[id]? = some o):(H.set id (s.O v))[id]? = some ⟨357,[.int .u64 s.a,.int .u64 s.b,.int .u64 s.c,.int .u64 s.d],v⟩:=gS h
def D260_2:Draw:={ imp:=[11],win:=[] }
def D260_3:Draw:={ imp:=[13],win:=[] }
def D260_4:Draw:={ imp:=[8],win:=[] }
def D260_5:Draw:={ imp:=[11],win:=[] }
def D260_6:Draw:={ imp:=[13],win:=[] }
def D260_7:Draw:={ imp:=[11],win:=[] }
def D260_8:Draw:={ imp:=[13],win:=[] }
def D260_9:Draw:={ imp:=[11],win:=[] }
def D260_10:Draw:={ imp:=[13],win:=[] }
def D260_11:Draw:={ imp:=[8],win:=[] }
theorem c260 (n:Nat) (hn:n≤1000) (s:S4) (id v:Nat) (H:PH) (hid:H[id]? = some (s.O v)) :
  CK prog 260 [.ptr (some (id,0)),.int .i64 n] H fun r H'=>r=.tup []∧∃v',H'=H.set id ((S4.rnds n s).O v'):=by
 (refine fnS (imm:=imm260) ttW_ok func260 ?_;(conv=>whnf))
 refine lO (Nat×Nat) (fun x=>[(0,.ptr (some (id,0))),(4,.int .i64 n),(5,.int .i64 x.1)]) (fun x=>H.set id ((S4.rnds x.1 s).O x.2)) (fun x=>x.1≤n) (fun x=>n - x.1) ⟨(0,v),Nat.zero_le _,⟨rfl,rfl,rfl,trivial⟩,(set_self hid).symm⟩ ?_
 rintro ⟨i,w⟩ hi
 replace hi:i≤n:=hi
 conv=>whnf
 refine ⟨fun h=>?_,fun h=>?_⟩
 ·have h:(i:Int)<n:=h
  conv=>whnf
  generalize hs:S4.rnds i s=z0
  refine dO2 D260_2 [H.set id (z0.O (w+0)),H.set id (z0.s0.O (w+1))] (by kernel_rfl) rfl trivial ?_
  conv=>whnf
  iterate 3 (refine dS ?_;(conv=>whnf))
  apply Exists.intro
  apply And.intro
  ·conv=>whnf
   ((conv in (_[_]?)=>tactic=>exact (z0.look (w+0) hid));(conv=>whnf))
   exact ⟨rfl,rfl,trivial⟩
  conv=>whnf
  iterate 3 (refine dS ?_;(conv=>whnf))
  apply Exists.intro
  apply And.intro
  ·conv=>whnf
   ((conv in (_[_]?)=>tactic=>exact (z0.look (w+0) hid));(conv=>whnf))
   exact ⟨rfl,rfl,trivial⟩
  conv=>whnf
  iterate 3 (refine dS ?_;(conv=>whnf))
  apply Exists.intro
  apply And.intro
  ·conv=>whnf
   ((conv in (_[_]?)=>tactic=>exact (z0.look (w+0) hid));(conv=>whnf))
   exact ⟨rfl,List.set_set ..,trivial⟩
  conv=>whnf
  generalize hs1:S4.s0 z0=z1
  refine dO2 D260_3 [H.set id (z1.O (w+1)),H.set id (z1.s1.O (w+2))] (by kernel_rfl) rfl trivial ?_
  conv=>whnf
  iterate 4 (refine dS ?_;(conv=>whnf))
  apply Exists.intro
  apply And.intro
  ·conv=>whnf
   ((conv in (_[_]?)=>tactic=>exact (z1.look (w+1) hid));(conv=>whnf))
   exact ⟨rfl,rfl,trivial⟩
  conv=>whnf
  refine ⟨_,cP (c284 _ _) ⟨rfl,rfl,trivial⟩,?_⟩
  conv=>whnf
  iterate 3 (refine dS ?_;(conv=>whnf))
  apply Exists.intro
  apply And.intro
  ·conv=>whnf
   ((conv in (_[_]?)=>tactic=>exact (z1.look (w+1) hid));(conv=>whnf))
   exact ⟨rfl,rfl,trivial⟩
  conv=>whnf
  iterate 3 (refine dS ?_;(conv=>whnf))
  apply Exists.intro
  apply And.intro
  ·conv=>whnf
   ((conv in (_[_]?)=>tactic=>exact (z1.look (w+1) hid));(conv=>whnf))
   exact ⟨rfl,List.set_set ..,trivial⟩
  conv=>whnf
  generalize hs2:S4.s1 z1=z2
  refine dO2 D260_4 [H.set id (z2.O (w+2)),H.set id (z2.s2.O (w+3))] (by kernel_rfl) rfl trivial ?_
  conv=>whnf
  iterate 4 (refine dS ?_;(conv=>whnf))
  apply Exists.intro
  apply And.intro
  ·conv=>whnf
   ((conv in (_[_]?)=>tactic=>exact (z2.look (w+2) hid));(conv=>whnf))
   exact ⟨rfl,rfl,trivial⟩
  conv=>whnf
  refine ⟨_,cP (c284 _ _) ⟨rfl,rfl,trivial⟩,?_⟩
  conv=>whnf
  iterate 2 (refine dS ?_;(conv=>whnf))
  apply Exists.intro
  apply And.intro
  ·conv=>whnf
   ((conv in (_[_]?)=>tactic=>exact (z2.look (w+2) hid));(conv=>whnf))
   exact ⟨rfl,List.set_set ..,trivial⟩
  conv=>whnf
  generalize hs3:S4.s2 z2=z3
  refine dO2 D260_5 [H.set id (z3.O (w+3)),H.set id (z3.s3.O (w+4))] (by kernel_rfl) rfl trivial ?_
  conv=>whnf
  iterate 3 (refine dS ?_;(conv=>whnf))
  apply Exists.intro
  apply And.intro
  ·conv=>whnf
   ((conv in (_[_]?)=>tactic=>exact (z3.look (w+3) hid));(conv=>whnf))
   exact ⟨rfl,rfl,trivial⟩
  conv=>whnf
  iterate 3 (refine dS ?_;(conv=>whnf))
  apply Exists.intro
  apply And.intro
  ·conv=>whnf
   ((conv in (_[_]?)=>tactic=>exact (z3.look (w+3) hid));(conv=>whnf))
   exact ⟨rfl,rfl,trivial⟩
  conv=>whnf
  iterate 3 (refine dS ?_;(conv=>whnf))
  apply Exists.intro
  apply And.intro
  ·conv=>whnf
   ((conv in (_[_]?)=>tactic=>exact (z3.look (w+3) hid));(conv=>whnf))
   exact ⟨rfl,List.set_set ..,trivial⟩
  conv=>whnf
  generalize hs4:S4.s3 z3=z4
  refine dO2 D260_6 [H.set id (z4.O (w+4)),H.set id (z4.s4.O (w+5))] (by kernel_rfl) rfl trivial ?_
  conv=>whnf
  iterate 4 (refine dS ?_;(conv=>whnf))
  apply Exists.intro
  apply And.intro
  ·conv=>whnf
   ((conv in (_[_]?)=>tactic=>exact (z4.look (w+4) hid));(conv=>whnf))
   exact ⟨rfl,rfl,trivial⟩
  conv=>whnf
  refine ⟨_,cP (c284 _ _) ⟨rfl,rfl,trivial⟩,?_⟩
  conv=>whnf
  iterate 3 (refine dS ?_;(conv=>whnf))
  apply Exists.intro
  apply And.intro
  ·conv=>whnf
   ((conv in (_[_]?)=>tactic=>exact (z4.look (w+4) hid));(conv=>whnf))
   exact ⟨rfl,rfl,trivial⟩
  conv=>whnf
  iterate 3 (refine dS ?_;(conv=>whnf))
  apply Exists.intro
  apply And.intro
  ·conv=>whnf
   ((conv in (_[_]?)=>tactic=>exact (z4.look (w+4) hid));(conv=>whnf))
   exact ⟨rfl,List.set_set ..,trivial⟩
  conv=>whnf
  generalize hs5:S4.s4 z4=z5
  refine dO2 D260_7 [H.set id (z5.O (w+5)),H.set id (z5.s5.O (w+6))] (by kernel_rfl) rfl trivial ?_
  conv=>whnf
  iterate 3 (refine dS ?_;(conv=>whnf))
  apply Exists.intro
  apply And.intro
  ·conv=>whnf
   ((conv in (_[_]?)=>tactic=>exact (z5.look (w+5) hid));(conv=>whnf))
   exact ⟨rfl,rfl,trivial⟩
  conv=>whnf
  iterate 3 (refine dS ?_;(conv=>whnf))
  apply Exists.intro
  apply And.intro
  ·conv=>whnf
   ((conv in (_[_]?)=>tactic=>exact (z5.look (w+5) hid));(conv=>whnf))
   exact ⟨rfl,rfl,trivial⟩
  conv=>whnf
  iterate 3 (refine dS ?_;(conv=>whnf))
  apply Exists.intro
  apply And.intro
  ·conv=>whnf
   ((conv in (_[_]?)=>tactic=>exact (z5.look (w+5) hid));(conv=>whnf))
   exact ⟨rfl,List.set_set ..,trivial⟩
  conv=>whnf
  generalize hs6:S4.s5 z5=z6
  refine dO2 D260_8 [H.set id (z6.O (w+6)),H.set id (z6.s6.O (w+7))] (by kernel_rfl) rfl trivial ?_
  conv=>whnf
  iterate 4 (refine dS ?_;(conv=>whnf))
  apply Exists.intro
  apply And.intro
  ·conv=>whnf
   ((conv in (_[_]?)=>tactic=>exact (z6.look (w+6) hid));(conv=>whnf))
   exact ⟨rfl,rfl,trivial⟩
  conv=>whnf
  refine ⟨_,cP (c284 _ _) ⟨rfl,rfl,trivial⟩,?_⟩
  conv=>whnf
  iterate 3 (refine dS ?_;(conv=>whnf))
  apply Exists.intro
  apply And.intro
  ·conv=>whnf
   ((conv in (_[_]?)=>tactic=>exact (z6.look (w+6) hid));(conv=>whnf))
   exact ⟨rfl,rfl,trivial⟩
  conv=>whnf
  iterate 3 (refine dS ?_;(conv=>whnf))
  apply Exists.intro
  apply And.intro
  ·conv=>whnf
   ((conv in (_[_]?)=>tactic=>exact (z6.look (w+6) hid));(conv=>whnf))
   exact ⟨rfl,List.set_set ..,trivial⟩
  conv=>whnf
  generalize hs7:S4.s6 z6=z7
  refine dO2 D260_9 [H.set id (z7.O (w+7)),H.set id (z7.s7.O (w+8))] (by kernel_rfl) rfl trivial ?_
  conv=>whnf
  iterate 3 (refine dS ?_;(conv=>whnf))
  apply Exists.intro
  apply And.intro
  ·conv=>whnf
   ((conv in (_[_]?)=>tactic=>exact (z7.look (w+7) hid));(conv=>whnf))
   exact ⟨rfl,rfl,trivial⟩
  conv=>whnf
  iterate 3 (refine dS ?_;(conv=>whnf))
  apply Exists.intro
  apply And.intro
  ·conv=>whnf
   ((conv in (_[_]?)=>tactic=>exact (z7.look (w+7) hid));(conv=>whnf))
   exact ⟨rfl,rfl,trivial⟩
  conv=>whnf
  iterate 3 (refine dS ?_;(conv=>whnf))
  apply Exists.intro
  apply And.intro
  ·conv=>whnf
   ((conv in (_[_]?)=>tactic=>exact (z7.look (w+7) hid));(conv=>whnf))
   exact ⟨rfl,List.set_set ..,trivial⟩
  conv=>whnf
  generalize hs8:S4.s7 z7=z8
  refine dO2 D260_10 [H.set id (z8.O (w+8)),H.set id (z8.s8.O (w+9))] (by kernel_rfl) rfl trivial ?_
  conv=>whnf
  iterate 4 (refine dS ?_;(conv=>whnf))
  apply Exists.intro
  apply And.intro
  ·conv=>whnf
   ((conv in (_[_]?)=>tactic=>exact (z8.look (w+8) hid));(conv=>whnf))
   exact ⟨rfl,rfl,trivial⟩
  conv=>whnf
  refine ⟨_,cP (c284 _ _) ⟨rfl,rfl,trivial⟩,?_⟩
  conv=>whnf
  iterate 3 (refine dS ?_;(conv=>whnf))
  apply Exists.intro
  apply And.intro
  ·conv=>whnf
   ((conv in (_[_]?)=>tactic=>exact (z8.look (w+8) hid));(conv=>whnf))
   exact ⟨rfl,rfl,trivial⟩
  conv=>whnf
  iterate 3 (refine dS ?_;(conv=>whnf))
  apply Exists.intro
  apply And.intro
  ·conv=>whnf
   ((conv in (_[_]?)=>tactic=>exact (z8.look (w+8) hid));(conv=>whnf))
   exact ⟨rfl,List.set_set ..,trivial⟩
  conv=>whnf
  generalize hs9:S4.s8 z8=z9
  refine dO2 D260_11 [H.set id (z9.O (w+9)),H.set id (z9.s9.O (w+10))] (by kernel_rfl) rfl trivial ?_
  conv=>whnf
  iterate 4 (refine dS ?_;(conv=>whnf))
  apply Exists.intro
  apply And.intro
  ·conv=>whnf
   ((conv in (_[_]?)=>tactic=>exact (z9.look (w+9) hid));(conv=>whnf))
   exact ⟨rfl,rfl,trivial⟩
  conv=>whnf
  refine ⟨_,cP (c284 _ _) ⟨rfl,rfl,trivial⟩,?_⟩
  conv=>whnf
  iterate 2 (refine dS ?_;(conv=>whnf))
  apply Exists.intro
  apply And.intro
  ·conv=>whnf
   ((conv in (_[_]?)=>tactic=>exact (z9.look (w+9) hid));(conv=>whnf))
   exact ⟨rfl,List.set_set ..,trivial⟩
  conv=>whnf
  refine ⟨(i+1,w+10),by show i+1≤n;omega,⟨rfl,rfl,?_,trivial⟩,?_,by show n - (i+1)<n - i;omega⟩
  ·show PV.int _ (IntKind.i64.wrap ((i:Int)+1))=PV.int _ _
   rw [w64 (by omega) (by omega)];simp
  ·subst hs hs1 hs2 hs3 hs4 hs5 hs6 hs7 hs8 hs9
   rfl
 ·have h:¬(i:Int)<n:=h
  have e:i=n:=by omega
  subst e
  conv=>whnf
  exact ⟨rfl,w,rfl⟩
def leN:List UInt8→Nat
 | []=>0
 | c::l=>c.toNat+256*leN l
theorem leN_lt:∀l:List UInt8,leN l<256 ^ l.length
 | []=>by decide
 | c::l=>by
  have:=leN_lt l
  have:=c.toNat_lt
  rw [List.length_cons,Nat.pow_succ]
  show c.toNat+256*leN l<_
  omega
theorem leN_snoc:∀(l:List UInt8) (c:UInt8),leN (l++[c])=leN l+256 ^ l.length*c.toNat
 | [],c=>by simp [leN]
 | x::l,c=>by
  show x.toNat+256*leN (l++[c])=x.toNat+256*leN l+_
  rw [leN_snoc l c,List.length_cons,Nat.pow_succ,Nat.mul_add,Nat.add_assoc]
  congr 2
  rw [←Nat.mul_assoc,Nat.mul_comm 256]
theorem wrapU64 {n:Nat} (h:n<18446744073709551616):IntKind.u64.wrap (n:Int)=(n:Int):=by
 show (n:Int) % _=_
 have:(2 ^ IntKind.u64.bits:Int)=18446744073709551616:=by decide
 rw [this];omega
theorem or_u64 {x y:Nat} (hx:x<18446744073709551616) (hy:y<18446744073709551616):ibits .or .u64 x y=((x ||| y:Nat):Int):=by
 show IntKind.u64.wrap ((BitVec.ofInt 64 x ||| BitVec.ofInt 64 y).toNat:Int)=_
 have hb:∀{n:Nat},n<18446744073709551616→(BitVec.ofInt 64 (n:Int)).toNat=n:=fun h=>by
  rw [BitVec.toNat_ofInt];omega
 rw [BitVec.toNat_or,hb hx,hb hy]
 have:x ||| y<2 ^ 64:=Nat.or_lt_two_pow hx hy
 exact wrapU64 this
theorem or_shl (x c i:Nat) (hx:x<2 ^ i) (hc:c*2 ^ i<18446744073709551616) (h2:2 ^ i≤18446744073709551616) (hi:i≤64) :
  ibits .or .u64 x (ishl .u64 c i)=((x+c*2 ^ i:Nat):Int):=by
 have e:ishl .u64 c i=((c*2 ^ i:Nat):Int):=by
  show IntKind.u64.wrap ((c:Int)*2 ^ (min (i:Int).toNat 64))=_
  rw [Int.toNat_natCast,Nat.min_eq_left hi]
  have:((c:Int)*2 ^ i)=((c*2 ^ i:Nat):Int):=by push_cast;rfl
  rw [this]
  exact wrapU64 hc
 rw [e,or_u64 (by omega) hc,Nat.or_comm,Nat.mul_comm,←Nat.two_pow_add_eq_or_of_lt hx,Nat.add_comm]
theorem pow8 (i:Nat):256 ^ i=2 ^ (8*i):=by rw [Nat.pow_mul]
theorem pow_le8 {i:Nat} (h:i≤8):2 ^ (8*i)≤18446744073709551616:=by
 have:2 ^ (8*i)≤2 ^ 64:=Nat.pow_le_pow_right (by omega) (by omega)
 exact this
theorem le_step (l:List UInt8) (c:UInt8) (h:l.length<8) :
  ibits .or .u64 (leN l:Nat) (ishl .u64 (IntKind.u64.wrap c.toNat) (8*(l.length:Int)))=((leN (l++[c]):Nat):Int):=by
 have hc:=c.toNat_lt
 have h1:=leN_lt l
 rw [pow8] at h1
 have h3:2 ^ (8*(l.length+1))≤18446744073709551616:=pow_le8 (by omega)
 have h4:2 ^ (8*(l.length+1))=256*2 ^ (8*l.length):=by rw [Nat.mul_add,Nat.pow_add];omega
 have h2:c.toNat*2 ^ (8*l.length)<18446744073709551616:=by
  have:c.toNat*2 ^ (8*l.length)<256*2 ^ (8*l.length):=Nat.mul_lt_mul_of_pos_right hc (Nat.pow_pos (by omega))
  omega
 rw [wrapU64 (by omega)]
 have:=or_shl (leN l) c.toNat (8*l.length) h1 h2 (by omega) (by omega)
 rw [leN_snoc,pow8,Nat.mul_comm (2 ^ _)]
 have e:(8*(l.length:Int))=((8*l.length:Nat):Int):=by push_cast;rfl
 rw [e]
 exact this
theorem at1' {cs:List PV} {k:Nat} {x:PV} (h:cs[k]? = some x):∀(j:Nat) (c:PV),[x][j]? = some c→cs[k+j]? = some c:=by
 intro j c hj
 match j with
 | 0=>simpa using h.trans hj
 | j+1=>simp at hj
theorem c258 (b:List UInt8) (hb:b.length≤8):Pure prog 258 [sl b] (.int .u64 (leN b)):=by
 intro H
 (refine fnS (imm:=imm258) ttW_ok func258 ?_;(conv=>whnf))
 refine lO Nat (fun i=>[(6,sl b),(7,.int .i64 b.length),(8,.int .i64 i),(3,.int .u64 (leN (b.take i)))]) (fun _=>H) (fun i=>i≤b.length) (fun i=>b.length - i) ⟨0,Nat.zero_le _,⟨rfl,rfl,rfl,rfl,trivial⟩,rfl⟩ ?_
 intro i hi
 conv=>whnf
 refine ⟨fun h=>?_,fun h=>?_⟩
 ·have h:(i:Int)<b.length:=h
  have hi':i<b.length:=by omega
  conv=>whnf
  refine ⟨⟨by omega,h⟩,[bC b[i]],at1' (k:=(i:Int).toNat*1) (by rw [Int.toNat_natCast,Nat.mul_one,List.getElem?_map,List.getElem?_eq_getElem hi'];rfl),?_⟩
  conv=>whnf
  refine ⟨by rw [w64 (by omega) (by omega)];omega,?_⟩
  conv=>whnf
  refine ⟨i+1,by omega,⟨rfl,rfl,?_,?_,trivial⟩,rfl,by omega⟩
  ·show PV.int _ (IntKind.i64.wrap ((i:Int)+1))=PV.int _ _
   rw [w64 (by omega) (by omega)];simp
  ·show PV.int _ (ibits .or .u64 (leN (b.take i):Nat) (ishl .u64 (IntKind.u64.wrap (b[i].toNat:Int)) (IntKind.i64.wrap (8*(i:Int)))))=PV.int _ _
   rw [w64 (by omega) (by omega),List.take_succ_eq_append_getElem hi']
   have hl:(b.take i).length=i:=by rw [List.length_take];omega
   have:=le_step (b.take i) b[i] (by omega)
   rw [hl] at this
   rw [this]
 ·have h:¬(i:Int)<b.length:=h
  have e:b.take i=b:=List.take_of_length_le (by omega)
  rw [e]
  conv=>whnf
  exact ⟨rfl,rfl⟩
def S4.takes (s:S4) (m:Int):S4:={ S4.rnds 2 { s with d:=xorW s.d m } with a:=xorW (S4.rnds 2 { s with d:=xorW s.d m }).a m }
def D259:Draw:={ imp:=[8],win:=[] }
theorem c259 (s:S4) (m:Int) (id v:Nat) (H:PH) (hid:H[id]? = some (s.O v)) :
  CK prog 259 [.ptr (some (id,0)),.int .u64 m] H fun r H'=>r=.tup []∧∃v',H'=H.set id ((s.takes m).O v'):=by
 (refine fnS (imm:=imm259) ttW_ok func259 ?_;(conv=>whnf))
 refine dO2 D259 [H,H.set id (S4.O { s with d:=xorW s.d m } (v+1))] (by kernel_rfl) rfl trivial ?_
 have g0:H[id]? = some ⟨357,[.int .u64 s.a,.int .u64 s.b,.int .u64 s.c,.int .u64 s.d],v⟩:=hid
 conv=>whnf
 iterate 3 (refine dS ?_;(conv=>whnf))
 apply Exists.intro
 apply And.intro
 ·conv=>whnf
  ((conv in (_[_]?)=>tactic=>exact g0);(conv=>whnf))
  exact ⟨rfl,rfl,trivial⟩
 conv=>whnf
 iterate 4 (refine dS ?_;(conv=>whnf))
 apply Exists.intro
 apply And.intro
 ·conv=>whnf
  ((conv in (_[_]?)=>tactic=>exact g0);(conv=>whnf))
  exact ⟨rfl,rfl,trivial⟩
 conv=>whnf
 refine cO (Q:=fun r H'=>r=.tup []∧∃v',H'=H.set id ((S4.rnds 2 { s with d:=xorW s.d m }).O v')) ((c260 2 (by omega) { s with d:=xorW s.d m } id (v+1) (H.set id _) (gS hid)).mono fun r H' hh=>?_) ?_
 ·obtain ⟨h1,v',h2⟩:=hh
  exact ⟨h1,v',by rw [h2,List.set_set]⟩
 rintro _ _ ⟨rfl,v',rfl⟩
 conv=>whnf
 generalize hs:S4.rnds 2 { s with d:=xorW s.d m }=z
 refine dO2 D259 [H.set id (z.O v'),H.set id (S4.O { z with a:=xorW z.a m } (v'+1))] (by kernel_rfl) rfl trivial ?_
 conv=>whnf
 iterate 3 (refine dS ?_;(conv=>whnf))
 apply Exists.intro
 apply And.intro
 ·conv=>whnf
  ((conv in (_[_]?)=>tactic=>exact (z.look v' hid));(conv=>whnf))
  exact ⟨rfl,rfl,trivial⟩
 conv=>whnf
 iterate 4 (refine dS ?_;(conv=>whnf))
 apply Exists.intro
 apply And.intro
 ·conv=>whnf
  ((conv in (_[_]?)=>tactic=>exact (z.look v' hid));(conv=>whnf))
  exact ⟨rfl,List.set_set ..,trivial⟩
 conv=>whnf
 refine ⟨rfl,v'+1,?_⟩
 subst hs
 rfl
def sipN (s:S4) (p:List UInt8):Nat→S4
 | 0=>s
 | n+1=>(sipN s p n).takes (leN ((p.drop (8*n)).take 8):Nat)
def sipI (k:List UInt8):S4:=⟨xorW 8317987319222330741 (leN (k.take 8):Nat),xorW 7237128888997146477 (leN (k.drop 8):Nat),xorW 7816392313619706465 (leN (k.take 8):Nat),xorW 8387220255154660723 (leN (k.drop 8):Nat)⟩
def lastW (n:Int):Int:=ishl .u64 (IntKind.u64.wrap (IntKind.u8.wrap n)) 56
def S4.fin (s:S4):S4:=S4.rnds 4 { s with c:=xorW s.c 255 }
def S4.out (s:S4):Int:=xorW (xorW (xorW s.a s.b) s.c) s.d
def sipV (k p:List UInt8):Int:=(((sipN (sipI k) p (p.length / 8)).takes (ibits .or .u64 (lastW p.length) (leN (p.drop (8*(p.length / 8))):Nat))).fin).out
theorem Rep.ext {H H':PH} (e:Ext H H') {c:PV} {b:List UInt8} (h:Rep H c b):Rep H' c b:=by
 rcases h with h | ⟨id,off,cap,o,h1,h2,h3⟩
 ·exact .inl h
 ·exact .inr ⟨id,off,cap,o,h1,e.get h2,h3⟩
theorem Reps.ext {H H':PH} (e:Ext H H') {cs:List PV} {ls:List (List UInt8)} (h:Reps H cs ls):Reps H' cs ls:=⟨h.1,fun i c b hc hb=>(h.2 i c b hc hb).ext e⟩
theorem len16 {k:List UInt8} (h:k.length=16):∃k0 k1 k2 k3 k4 k5 k6 k7 k8 k9 ka kb kc kd ke kf,k=[k0,k1,k2,k3,k4,k5,k6,k7,k8,k9,ka,kb,kc,kd,ke,kf]:=by
 match k,h with
 | [k0,k1,k2,k3,k4,k5,k6,k7,k8,k9,ka,kb,kc,kd,ke,kf],_=>exact ⟨_,_,_,_,_,_,_,_,_,_,_,_,_,_,_,_,rfl⟩
theorem sl_cut2 (b:List UInt8) (l h:Int) (h0:0≤l∧l≤h∧h≤b.length) :
  PV.slice (h.toNat - l.toNat) (((b.map bC).take (h.toNat*1)).drop (l.toNat*1)) none=sl ((b.take h.toNat).drop l.toNat):=by
 unfold sl
 have:((b.take h.toNat).drop l.toNat).length=h.toNat - l.toNat:=by rw [List.length_drop,List.length_take];omega
 rw [this,List.map_drop,List.map_take,Nat.mul_one,Nat.mul_one]
structure SipS where
 i:Nat
 v:Nat
def D226_9:Draw:={ imp:=[7],win:=[] }
theorem c226x (k:List UInt8) (hk:k.length=16) (ls:List (List UInt8)) (hn:ls.length≤1099511627776) (ht:ls.flatten.length≤1099511627776) (H:PH) (cs:List PV) (hr:Reps H cs ls) :
  CK prog 226 [.agg (k.map bC),.slice ls.length cs none] H fun r H'=>r=.int .u64 (sipV k ls.flatten)∧∃ext,H'=H++ext:=by
 obtain ⟨k0,k1,k2,k3,k4,k5,k6,k7,k8,k9,ka,kb,kc,kd,ke,kf,rfl⟩:=len16 hk
 have hk2:sipI [k0,k1,k2,k3,k4,k5,k6,k7,k8,k9,ka,kb,kc,kd,ke,kf]=⟨xorW 8317987319222330741 (leN [k0,k1,k2,k3,k4,k5,k6,k7]:Nat),xorW 7237128888997146477 (leN [k8,k9,ka,kb,kc,kd,ke,kf]:Nat),xorW 7816392313619706465 (leN [k0,k1,k2,k3,k4,k5,k6,k7]:Nat),xorW 8387220255154660723 (leN [k8,k9,ka,kb,kc,kd,ke,kf]:Nat)⟩:=rfl
 unfold sipV
 generalize hs0:sipI [k0,k1,k2,k3,k4,k5,k6,k7,k8,k9,ka,kb,kc,kd,ke,kf]=s0
 rw [hk2] at hs0
 (refine fnS (imm:=imm226) ttW_ok func226 ?_;(conv=>whnf))
 refine dP2 (by kernel_rfl) ?_
 conv=>whnf
 (refine dS ?_;(conv=>whnf))
 refine ⟨_,cA rfl (cP (c258 [k0,k1,k2,k3,k4,k5,k6,k7] (by simp)) ⟨rfl,rfl,trivial⟩),?_⟩
 conv=>whnf
 (refine dS ?_;(conv=>whnf))
 refine ⟨_,cA rfl (cP (c258 [k8,k9,ka,kb,kc,kd,ke,kf] (by simp)) ⟨rfl,rfl,trivial⟩),?_⟩
 conv=>whnf
 iterate 2 (refine dS ?_;(conv=>whnf))
 refine cO (c219 ls hn ht (hr.ext ((Ext.refl H).push _))) ?_
 rintro _ _ ⟨rfl,rfl⟩
 conv=>whnf
 generalize hp:ls.flatten=p at ht ⊢
 have hO:(PObj.mk 357 [.int .u64 (ibits .xor .u64 8317987319222330741 (leN [k0,k1,k2,k3,k4,k5,k6,k7]:Nat)),.int .u64 (ibits .xor .u64 7237128888997146477 (leN [k8,k9,ka,kb,kc,kd,ke,kf]:Nat)),.int .u64 (ibits .xor .u64 7816392313619706465 (leN [k0,k1,k2,k3,k4,k5,k6,k7]:Nat)),.int .u64 (ibits .xor .u64 8387220255154660723 (leN [k8,k9,ka,kb,kc,kd,ke,kf]:Nat))] 0)=s0.O 0:=by subst hs0;rfl
 refine ⟨by decide,?_⟩
 conv=>whnf
 refine lO SipS (fun x=>[(7,.ptr (some (H.length,0))),(8,sl (p.drop (8*x.i))),(9,.int .u64 (lastW p.length))]) (fun x=>H++[(sipN s0 p x.i).O x.v]) (fun x=>x.i≤p.length / 8) (fun x=>p.length / 8 - x.i) ⟨⟨0,0⟩,Nat.zero_le _,⟨rfl,rfl,rfl,trivial⟩,congrArg (fun o=>H++[o]) hO⟩ ?_
 rintro ⟨i,v⟩ hi
 replace hi:i≤p.length / 8:=hi
 have hl:(p.drop (8*i)).length=p.length - 8*i:=List.length_drop
 conv=>whnf
 refine ⟨fun h=>?_,fun h=>?_⟩
 ·have h:(8:Int)≤(p.drop (8*i)).length:=h
  conv=>whnf
  refine ⟨⟨by omega,by omega,h⟩,?_⟩
  conv=>whnf
  refine cA (congrArg (fun x=>[x]) (sl_cut2 (p.drop (8*i)) 0 8 ⟨by omega,by omega,h⟩)) (cP (c258 (((p.drop (8*i)).take 8).drop 0) (by rw [List.length_drop,List.length_take];omega)) ?_)
  conv=>whnf
  refine cO (Q:=fun r H'=>r=.tup []∧∃v',H'=H++[(sipN s0 p (i+1)).O v']) ((c259 (sipN s0 p i) (leN (((p.drop (8*i)).take 8).drop 0):Nat) H.length v _ (gL H _)).mono fun r H' hh=>?_) ?_
  ·obtain ⟨h1,v',h2⟩:=hh
   exact ⟨h1,v',by rw [h2,sL];rfl⟩
  rintro _ _ ⟨rfl,v',rfl⟩
  conv=>whnf
  refine ⟨⟨by omega,h,by omega⟩,?_⟩
  conv=>whnf
  refine ⟨⟨i+1,v'⟩,by show i+1≤p.length / 8;omega,⟨rfl,?_,rfl,trivial⟩,rfl,by show p.length / 8 - (i+1)<p.length / 8 - i;omega⟩
  have e:=sl_cut2 (p.drop (8*i)) 8 (p.drop (8*i)).length ⟨by omega,h,by omega⟩
  rw [Int.toNat_natCast,List.take_length,List.drop_drop] at e
  exact e
 ·have h:¬(8:Int)≤(p.drop (8*i)).length:=h
  have hi2:i=p.length / 8:=by omega
  rw [←hi2]
  conv=>whnf
  refine cP (c258 (p.drop (8*i)) (by omega)) ?_
  conv=>whnf
  generalize hm:ibits .or .u64 (lastW p.length) (leN (p.drop (8*i)):Nat)=m
  generalize hs1:sipN s0 p i=s1
  refine cO (Q:=fun r H'=>r=.tup []∧∃v',H'=H++[(s1.takes m).O v']) ?_ ?_
  ·refine (c259 s1 m H.length v _ (gL H _)).mono fun r H' hh=>?_
   obtain ⟨h1,v',h2⟩:=hh
   exact ⟨h1,v',by rw [h2,sL]⟩
  rintro _ _ ⟨rfl,v1,rfl⟩
  conv=>whnf
  generalize hs2:s1.takes m=s2
  refine dO2 D226_9 [H++[s2.O v1],H++[S4.O { s2 with c:=xorW s2.c 255 } (v1+1)]] (by kernel_rfl) rfl trivial ?_
  have g0:(H++[s2.O v1])[H.length]? = some ⟨357,[.int .u64 s2.a,.int .u64 s2.b,.int .u64 s2.c,.int .u64 s2.d],v1⟩:=gL H _
  conv=>whnf
  iterate 3 (refine dS ?_;(conv=>whnf))
  apply Exists.intro
  apply And.intro
  ·conv=>whnf
   ((conv in (_[_]?)=>tactic=>exact g0);(conv=>whnf))
   exact ⟨rfl,rfl,trivial⟩
  conv=>whnf
  iterate 3 (refine dS ?_;(conv=>whnf))
  apply Exists.intro
  apply And.intro
  ·conv=>whnf
   ((conv in (_[_]?)=>tactic=>exact g0);(conv=>whnf))
   exact ⟨rfl,sL H _ _,trivial⟩
  conv=>whnf
  refine cO (Q:=fun r H'=>r=.tup []∧∃v',H'=H++[s2.fin.O v']) ((c260 4 (by omega) { s2 with c:=xorW s2.c 255 } H.length (v1+1) (H++[_]) (gL H _)).mono fun r H' hh=>?_) ?_
  ·obtain ⟨h1,v',h2⟩:=hh
   exact ⟨h1,v',by rw [h2,sL];rfl⟩
  rintro _ _ ⟨rfl,v2,rfl⟩
  conv=>whnf
  generalize hs3:s2.fin=s3
  have g1:(H++[s3.O v2])[H.length]? = some ⟨357,[.int .u64 s3.a,.int .u64 s3.b,.int .u64 s3.c,.int .u64 s3.d],v2⟩:=gL H _
  refine dP2 (by kernel_rfl) ?_
  conv=>whnf
  iterate 3 (refine dS ?_;(conv=>whnf))
  apply Exists.intro
  apply And.intro
  ·conv=>whnf
   ((conv in (_[_]?)=>tactic=>exact g1);(conv=>whnf))
   exact ⟨rfl,rfl,trivial⟩
  conv=>whnf
  iterate 3 (refine dS ?_;(conv=>whnf))
  apply Exists.intro
  apply And.intro
  ·conv=>whnf
   ((conv in (_[_]?)=>tactic=>exact g1);(conv=>whnf))
   exact ⟨rfl,rfl,trivial⟩
  conv=>whnf
  iterate 4 (refine dS ?_;(conv=>whnf))
  apply Exists.intro
  apply And.intro
  ·conv=>whnf
   ((conv in (_[_]?)=>tactic=>exact g1);(conv=>whnf))
   exact ⟨rfl,rfl,trivial⟩
  conv=>whnf
  iterate 4 (refine dS ?_;(conv=>whnf))
  apply Exists.intro
  apply And.intro
  ·conv=>whnf
   ((conv in (_[_]?)=>tactic=>exact g1);(conv=>whnf))
   exact ⟨rfl,rfl,trivial⟩
  conv=>whnf
  iterate 2 (refine dS ?_;(conv=>whnf))
  exact ⟨rfl,_,rfl⟩
theorem c226 (k:List UInt8) (hk:k.length=16) (ls:List (List UInt8)) (hn:ls.length≤1099511627776) (ht:ls.flatten.length≤1099511627776) {H:PH} {cs:List PV} (hr:Reps H cs ls) :
  CK prog 226 [.agg (k.map bC),.slice ls.length cs none] H fun r H'=>r=.int .u64 (sipV k ls.flatten)∧H'=H:=by
 exact ((c226x k hk ls hn ht H cs hr).gc fun r H' ⟨h1,h2⟩=>by subst h1;exact ⟨rfl,h2⟩).mono fun r H' ⟨h1,_,h2,_⟩=>⟨h2,h1⟩
set_option maxHeartbeats 2000000
def imm213t:List Nat:=[]
def imm144t:List Nat:=[]
def imm143t:List Nat:=[2]
def imm214t:List Nat:=[]
def imm145t:List Nat:=[]
def imm146t:List Nat:=[]
def imm94t:List Nat:=[1]
theorem c213 (f:Nat) (bs:List PV) (p:Pr→Bool) (l:List Pr) (o:Option Nat) (hs:l.length≤1099511627775)
  (hp:∀x∈l,Pure prog f ([]++[.agg (prC x)]++bs) (.bool (p x))):Pure prog 213 [.slice l.length (l.flatMap prC) o,.func f [] bs] (.int .i64 (idxP p l)):=by
 intro H
 (refine fnS (imm:=imm213t) ttT_ok func213 ?_;(conv=>whnf))
 refine lO Nat (fun i=>[(0,.slice l.length (l.flatMap prC) none),(1,.func f [] bs),(7,.int .i64 l.length),(8,.int .i64 i)]) (fun _=>H)
  (fun i=>i≤l.length∧idxP p l=if idxP p (l.drop i)<0 then -1 else idxP p (l.drop i)+i) (fun i=>l.length - i) ⟨0,⟨Nat.zero_le _,by have:=idxP_ge p l;simp;omega⟩,⟨?_,rfl,rfl,rfl,trivial⟩,rfl⟩ ?_
 ·cases o <;> rfl
 rintro i ⟨h1,h2⟩
 conv=>whnf
 refine ⟨fun h3=>?_,fun h3=>?_⟩
 ·conv=>whnf
  have h3:(i:Int)<l.length:=h3
  have hi:i<l.length:=by omega
  have hgi:=List.getElem?_eq_getElem hi
  refine ⟨⟨by omega,h3⟩,prC l[i],pr_cells l hgi,?_⟩
  conv=>whnf
  refine cP (hp _ (List.getElem_mem hi)) ?_
  have hdr:=List.drop_eq_getElem_cons hi
  have hge:=idxP_ge p (l.drop (i+1))
  rw [hdr,idxP_cons] at h2
  cases hb:p l[i]
  ·conv=>whnf
   rw [hb] at h2
   refine ⟨i+1,⟨by omega,?_⟩,⟨rfl,rfl,rfl,?_,trivial⟩,rfl,by omega⟩
   ·rw [h2]
    simp only [Bool.false_eq_true,if_false]
    split <;> split <;> (try split) <;> omega
   ·show PV.int _ (IntKind.i64.wrap ((i:Int)+1))=PV.int _ _
    rw [w64 (by omega) (by omega)];simp
  ·conv=>whnf
   rw [hb] at h2
   refine ⟨?_,rfl⟩
   show PV.int _ _=PV.int _ _
   rw [h2];simp
 ·conv=>whnf
  have h3:¬(i:Int)<l.length:=h3
  refine ⟨?_,rfl⟩
  show PV.int _ _=PV.int _ _
  rw [h2,List.drop_eq_nil_of_le (by omega)];simp [idxP]
theorem c144 (f:Nat) (bs:List PV) (p:Pr→Bool) (l:List Pr) (o:Option Nat) (hs:l.length≤1099511627775)
  (hp:∀x∈l,Pure prog f ([]++[.agg (prC x)]++bs) (.bool (p x))):Pure prog 144 [.slice l.length (l.flatMap prC) o,.func f [] bs] (.bool (l.any p)):=by
 intro H
 (refine fnS (imm:=imm144t) ttT_ok func144 ?_;(conv=>whnf))
 refine cP (c213 f bs p l _ hs hp) ?_
 conv=>whnf
 have:=idxP_neg p l
 refine ⟨fun h=>?_,fun h=>?_⟩
 ·conv=>whnf
  exact ⟨by rw [this.1 h];rfl,rfl⟩
 ·conv=>whnf
  refine ⟨?_,rfl⟩
  cases hb:l.any p with
  | false=>rfl
  | true=>exact absurd (this.2 hb) h
theorem c214v (f:Nat) (bs:List PV) (p:List UInt8→Bool) (l:List (List UInt8)) (o:Option Nat) (hs:l.length≤1099511627775)
  (hp:∀x∈l,Pure prog f ([]++[.str x]++bs) (.bool (p x))):Pure prog 214 [.slice l.length (l.map .str) o,.func f [] bs] (.int .i64 (idxF p l)):=by
 intro H
 (refine fnS (imm:=imm214t) ttT_ok func214 ?_;(conv=>whnf))
 refine lO Nat (fun i=>[(0,.slice l.length (l.map .str) none),(1,.func f [] bs),(7,.int .i64 l.length),(8,.int .i64 i)]) (fun _=>H)
  (fun i=>i≤l.length∧idxF p l=if idxF p (l.drop i)<0 then -1 else idxF p (l.drop i)+i) (fun i=>l.length - i) ⟨0,⟨Nat.zero_le _,by have:=idxF_ge p l;simp;omega⟩,⟨?_,rfl,rfl,rfl,trivial⟩,rfl⟩ ?_
 ·cases o <;> rfl
 rintro i ⟨h1,h2⟩
 conv=>whnf
 refine ⟨fun h3=>?_,fun h3=>?_⟩
 ·conv=>whnf
  have h3:(i:Int)<l.length:=h3
  have hi:i<l.length:=by omega
  have hgi:=List.getElem?_eq_getElem hi
  refine ⟨⟨by omega,h3⟩,[.str l[i]],elem_cells l hgi,?_⟩
  conv=>whnf
  refine cP (hp _ (List.getElem_mem hi)) ?_
  have hdr:=List.drop_eq_getElem_cons hi
  have hge:=idxF_ge p (l.drop (i+1))
  rw [hdr,idxF_cons] at h2
  cases hb:p l[i]
  ·conv=>whnf
   rw [hb] at h2
   refine ⟨i+1,⟨by omega,?_⟩,⟨rfl,rfl,rfl,?_,trivial⟩,rfl,by omega⟩
   ·rw [h2]
    simp only [Bool.false_eq_true,if_false]
    split <;> split <;> (try split) <;> omega
   ·show PV.int _ (IntKind.i64.wrap ((i:Int)+1))=PV.int _ _
    rw [w64 (by omega) (by omega)];simp
  ·conv=>whnf
   rw [hb] at h2
   refine ⟨?_,rfl⟩
   show PV.int _ _=PV.int _ _
   rw [h2];simp
 ·conv=>whnf
  have h3:¬(i:Int)<l.length:=h3
  refine ⟨?_,rfl⟩
  show PV.int _ _=PV.int _ _
  rw [h2,List.drop_eq_nil_of_le (by omega)];simp [idxF]
theorem c145v (f:Nat) (bs:List PV) (p:List UInt8→Bool) (l:List (List UInt8)) (o:Option Nat) (hs:l.length≤1099511627775)
  (hp:∀x∈l,Pure prog f ([]++[.str x]++bs) (.bool (p x))):Pure prog 145 [.slice l.length (l.map .str) o,.func f [] bs] (.bool (l.any p)):=by
 intro H
 (refine fnS (imm:=imm145t) ttT_ok func145 ?_;(conv=>whnf))
 refine cP (c214v f bs p l _ hs hp) ?_
 conv=>whnf
 have:=idxF_neg p l
 refine ⟨fun h=>?_,fun h=>?_⟩
 ·conv=>whnf
  exact ⟨by rw [this.1 h];rfl,rfl⟩
 ·conv=>whnf
  refine ⟨?_,rfl⟩
  cases hb:l.any p with
  | false=>rfl
  | true=>exact absurd (this.2 hb) h
theorem c146 (r:List UInt8) (hr:r.length≤1099511627775):Pure prog 146 [.str r] (.bool (!decide ((labelsB r).1≠0))):=by
 intro H
 (refine fnS (imm:=imm146t) ttT_ok func146 ?_;(conv=>whnf))
 refine cP (c147 r hr) ?_
 conv=>whnf
 exact ⟨rfl,rfl⟩
def treeC (rs:List (List UInt8)) (ls:List Pr) (o1 o2 o3:Option Nat):List PV:=[.slice rs.length (rs.map .str) o1,.slice ls.length (ls.flatMap prC) o2,.slice 0 [] o3]
def goodL (rs:List (List UInt8)) (p:Pr):Prop:=p.1∈rs∧p.2∈rs∧p.1≠p.2
theorem c143 (rs:List (List UInt8)) (ls:List Pr) (o1 o2 o3:Option Nat) (hs:rs.length≤1099511627775) (p:Pr) (hp:goodL rs p) :
  Pure prog 143 [.agg (prC p),.elem (treeC rs ls o1 o2 o3)] (.bool false):=by
 intro H
 obtain ⟨h1,h2,h3⟩:=hp
 (refine fnS (imm:=imm143t) ttT_ok func143 ?_;(conv=>whnf))
 refine ⟨⟨by decide,by decide⟩,[.str p.1],at1' (cs:=[.str p.1,.str p.2]) (k:=0) rfl,?_⟩
 conv=>whnf
 refine cA (args':=[.slice rs.length (rs.map .str) none,.str p.1]) (by cases o1 <;> rfl) (cP (c95 rs p.1 none hs) ?_)
 rw [decide_eq_true h1]
 conv=>whnf
 refine ⟨⟨by decide,by decide⟩,[.str p.2],at1' (cs:=[.str p.1,.str p.2]) (k:=1) rfl,?_⟩
 conv=>whnf
 refine cA (args':=[.slice rs.length (rs.map .str) none,.str p.2]) (by cases o1 <;> rfl) (cP (c95 rs p.2 none hs) ?_)
 rw [decide_eq_true h2]
 conv=>whnf
 refine ⟨⟨by decide,by decide⟩,[.str p.1],at1' (cs:=[.str p.1,.str p.2]) (k:=0) rfl,?_⟩
 conv=>whnf
 refine ⟨⟨by decide,by decide⟩,[.str p.2],at1' (cs:=[.str p.1,.str p.2]) (k:=1) rfl,?_⟩
 conv=>whnf
 refine ⟨fun h=>absurd h h3,fun _=>?_⟩
 conv=>whnf
 exact ⟨rfl,rfl⟩
structure Tree (rs:List (List UInt8)) (ls:List Pr):Prop where
 pos:0<rs.length
 six:rs.length≤6
 nd:rs.Nodup
 len:ls.length≤20
 nl:ls.Nodup
 good:∀p∈ls,goodL rs p
 is:∀r∈rs,(labelsB r).1≠0∧r.length≤1000
theorem c94x {rs:List (List UInt8)} {ls:List Pr} (t:Tree rs ls) (o1 o2 o3:Option Nat) (H:PH) :
  CK prog 94 [.agg (treeC rs ls o1 o2 o3)] H fun r H'=>r=.bool true∧H'=H:=by
 have h1:=t.pos
 have h2:=t.six
 have h3:=t.len
 (refine fnS (imm:=imm94t) ttT_ok func94 ?_;(conv=>whnf))
 refine ⟨fun h=>absurd (show (rs.length:Int)=0 from h) (by omega),fun _=>?_⟩
 conv=>whnf
 refine ⟨fun h=>absurd (show (6:Int)<rs.length from h) (by omega),fun _=>?_⟩
 conv=>whnf
 refine cA (args':=[.slice rs.length (rs.map .str) none]) (by cases o1 <;> rfl) (cP (c140 rs none (by omega)) ?_)
 rw [decide_eq_true t.nd]
 conv=>whnf
 refine ⟨fun h=>absurd (show (20:Int)<ls.length from h) (by omega),fun _=>?_⟩
 conv=>whnf
 refine cA (args':=[.slice ls.length (ls.flatMap prC) none]) (by cases o2 <;> rfl) (cP (c141 ls none (by omega)) ?_)
 rw [decide_eq_true t.nl]
 conv=>whnf
 refine ⟨fun h=>absurd (show (8:Int)<0 from h) (by decide),fun _=>?_⟩
 conv=>whnf
 refine lO Unit (fun _=>[(1,.elem (treeC rs ls o1 o2 o3)),(3,.slice 0 [] (some 200)),(41,.int .i64 0),(42,.int .i64 0)]) (fun _=>H) (fun _=>True) (fun _=>0) ⟨(),trivial,⟨rfl,rfl,rfl,rfl,trivial⟩,rfl⟩ ?_
 rintro _ _
 conv=>whnf
 refine ⟨fun h=>absurd (show (0:Int)<0 from h) (by decide),fun _=>?_⟩
 conv=>whnf
 refine cP (c141 [] _ (by decide)) ?_
 conv=>whnf
 refine cA (args':=[.slice ls.length (ls.flatMap prC) none,.func 143 [] [.elem (treeC rs ls o1 o2 o3)]]) (by cases o2 <;> rfl) (cP (c144 143 [.elem (treeC rs ls o1 o2 o3)] (fun _=>false) ls none (by omega) fun p hp=>c143 rs ls o1 o2 o3 (by omega) p (t.good p hp)) ?_)
 rw [show ls.any (fun _=>false)=false by simp]
 conv=>whnf
 refine cA (args':=[.slice rs.length (rs.map .str) none,.func 146 [] []]) (by cases o1 <;> rfl) (cP (c145v 146 [] (fun _=>false) rs none (by omega) fun r hr=>?_) ?_)
 ·have:=c146 r (by have:=(t.is r hr).2;omega)
  rw [decide_eq_true (t.is r hr).1] at this
  exact this
 rw [show rs.any (fun _=>false)=false by simp]
 conv=>whnf
 exact ⟨rfl,rfl⟩
theorem dropN_app (cs:List UInt8) (rest:List PV) {i:Nat} {x:UInt8} (h:cs[i]? = some x):dropN (0+(i:Int).toNat*1) (cs.map bC++rest)=bC x::((cs.drop (i+1)).map bC++rest):=by
 have hl:=(List.getElem?_eq_some_iff.1 h).1
 rw [dropN_eq]
 simp only [Nat.zero_add,Int.toNat_natCast,Nat.mul_one]
 rw [List.drop_append_of_le_length (by rw [List.length_map];omega),←List.map_drop,List.drop_eq_getElem_cons hl,List.map_cons,List.cons_append]
 congr 2
 exact (List.getElem?_eq_some_iff.1 h).2
theorem setCells_app (cs:List UInt8) (rest:List PV) (i:Nat) (x:UInt8) (h:i<cs.length):setCells i [bC x] (cs.map bC++rest)=(cs.set i x).map bC++rest:=by
 induction cs generalizing i with
 | nil=>simp at h
 | cons y cs ih =>
  cases i with
  | zero=>simp [setCells]
  | succ i =>
   have:=ih i (by simpa using h)
   simp [setCells,this]
def D221:Draw:={ imp:=[13,15],win:=[(2,0,1),(3,0,1),(14,1,1),(15,1,1)] }
structure RevB where
 i:Nat
 cur:List UInt8
 v:Nat
theorem c221 (id n cap:Nat) (l:List UInt8) (rest:List PV) (T v:Nat) (H:PH) (hid:H[id]? = some ⟨T,l.map bC++rest,v⟩) (hn:n=l.length) (hs:l.length≤1099511627776) :
  CK prog 221 [.sref id 0 n cap] H fun r H'=>r=.tup []∧∃v',H'=H.set id ⟨T,l.reverse.map bC++rest,v'⟩:=by
 subst hn
 (refine fnS (imm:=imm221) ttB_ok func221 ?_;(conv=>whnf))
 refine lO RevB (fun x=>[(0,.sref id 0 l.length cap),(2,.int .i64 x.i),(3,.int .i64 ((l.length:Int) - 1 - x.i))]) (fun x=>H.set id ⟨T,x.cur.map bC++rest,x.v⟩)
  (fun x=>x.i≤l.length∧x.cur.length=l.length∧∀k,k<l.length→x.cur[k]? = if k<x.i∨l.length - x.i≤k then l[l.length - 1 - k]? else l[k]?) (fun x=>l.length - x.i)
  ⟨⟨0,l,v⟩,⟨Nat.zero_le _,rfl,fun k hk=>by rw [if_neg (by show ¬(k<0∨l.length - 0≤k);omega)]⟩,⟨rfl,rfl,?_,trivial⟩,(set_self hid).symm⟩ ?_
 ·show PV.int _ (IntKind.i64.wrap ((l.length:Int) - 1))=PV.int _ ((l.length:Int) - 1 - 0)
  rw [w64 (by omega) (by omega)];simp
 rintro ⟨i,cur,v⟩ ⟨h1,h2,h3⟩
 conv=>whnf
 refine ⟨fun h4=>?_,fun h4=>?_⟩
 ·conv=>whnf
  have h4:(i:Int)<(l.length:Int) - 1 - i:=h4
  have h2:cur.length=l.length:=h2
  have hi:i<cur.length:=by omega
  have hj:cur.length - 1 - i<cur.length:=by omega
  refine dO2 D221 [H.set id ⟨T,cur.map bC++rest,v⟩,H.set id ⟨T,(cur.set i cur[cur.length - 1 - i]).map bC++rest,v+1⟩,H.set id ⟨T,((cur.set i cur[cur.length - 1 - i]).set (cur.length - 1 - i) cur[i]).map bC++rest,v+1+1⟩] (by kernel_rfl) rfl trivial ?_
  have g0:=gS (o':=⟨T,cur.map bC++rest,v⟩) hid
  have hlen:H.length=H.length:=rfl
  conv=>whnf
  iterate 2 (refine dS ?_;(conv=>whnf))
  iterate 2 (refine dS2 ?_;(conv=>whnf))
  iterate 2 (refine dS ?_;(conv=>whnf))
  apply Exists.intro
  apply And.intro
  ·conv=>whnf
   refine ⟨⟨by omega,by omega⟩,rfl,rfl,trivial⟩
  conv=>whnf
  apply Exists.intro
  apply And.intro
  ·conv=>whnf
   ((conv in (_[_]?)=>tactic=>exact g0);(conv=>whnf))
   have e:((l.length:Int) - 1 - i).toNat=cur.length - 1 - i:=by omega
   have hL:dropN (0+((l.length:Int) - 1 - i).toNat*1) (cur.map bC++rest)=bC cur[cur.length - 1 - i]::((cur.drop (cur.length - 1 - i+1)).map bC++rest):=by rw [e];exact dropN_app cur rest (List.getElem?_eq_getElem hj)
   generalize hd:dropN _ _=L
   rw [show L=_ from hd.symm.trans hL]
   conv=>whnf
   exact ⟨rfl,rfl,trivial⟩
  conv=>whnf
  iterate 2 (refine dS ?_;(conv=>whnf))
  apply Exists.intro
  apply And.intro
  ·conv=>whnf
   refine ⟨⟨by show (0:Int)≤(i:Int);omega,by show (i:Int)<l.length;omega⟩,rfl,rfl,trivial⟩
  conv=>whnf
  apply Exists.intro
  apply And.intro
  ·conv=>whnf
   ((conv in (_[_]?)=>tactic=>exact g0);(conv=>whnf))
   ((conv in (dropN _ _)=>tactic=>exact (dropN_app cur rest (List.getElem?_eq_getElem hi)));(conv=>whnf))
   exact ⟨rfl,rfl,trivial⟩
  conv=>whnf
  apply Exists.intro
  apply And.intro
  ·conv=>whnf
   refine ⟨⟨by show (0:Int)≤(i:Int);omega,by show (i:Int)<l.length;omega⟩,rfl,rfl,trivial⟩
  conv=>whnf
  apply Exists.intro
  apply And.intro
  ·conv=>whnf
   ((conv in (_[_]?)=>tactic=>exact g0);(conv=>whnf))
   ((conv in (Nat.ble _ _)=>tactic=>exact (show Nat.ble (0+(i:Int).toNat*1+1) (cur.map bC++rest).length=true by rw [Nat.ble_eq];simp;omega));(conv=>whnf))
   refine ⟨rfl,?_,trivial⟩
   show (H.set id ⟨T,cur.map bC++rest,v⟩).set id ⟨T,setCells (0+(i:Int).toNat*1) [bC cur[cur.length - 1 - i]] (cur.map bC++rest),v+1⟩=H.set id ⟨T,(cur.set i cur[cur.length - 1 - i]).map bC++rest,v+1⟩
   rw [List.set_set,←setCells_app _ _ _ _ hi]
   simp
  conv=>whnf
  apply Exists.intro
  apply And.intro
  ·conv=>whnf
   refine ⟨⟨by omega,by omega⟩,rfl,rfl,trivial⟩
  conv=>whnf
  apply Exists.intro
  apply And.intro
  ·conv=>whnf
   ((conv in (_[_]?)=>tactic=>exact (gS (o':=⟨T,(cur.set i cur[cur.length - 1 - i]).map bC++rest,v+1⟩) hid));(conv=>whnf))
   ((conv in (Nat.ble _ _)=>tactic=>exact (show Nat.ble (0+((l.length:Int) - 1 - i).toNat*1+1) ((cur.set i cur[cur.length - 1 - i]).map bC++rest).length=true by rw [Nat.ble_eq];simp;omega));(conv=>whnf))
   refine ⟨rfl,?_,trivial⟩
   show (H.set id ⟨T,(cur.set i cur[cur.length - 1 - i]).map bC++rest,v+1⟩).set id ⟨T,setCells (0+((l.length:Int) - 1 - i).toNat*1) [bC cur[i]] ((cur.set i cur[cur.length - 1 - i]).map bC++rest),v+1+1⟩=H.set id _
   have e:0+((l.length:Int) - 1 - i).toNat*1=cur.length - 1 - i:=by omega
   rw [List.set_set,e,setCells_app (cur.set i cur[cur.length - 1 - i]) rest (cur.length - 1 - i) cur[i] (by simpa using hj)]
  conv=>whnf
  refine ⟨⟨i+1,(cur.set i cur[cur.length - 1 - i]).set (cur.length - 1 - i) cur[i],v+1+1⟩,⟨?_,?_,?_⟩,⟨rfl,?_,?_,trivial⟩,rfl,?_⟩
  ·show i+1≤l.length;omega
  ·show List.length _=_;simp;exact h2
  ·intro k hk
   show ((cur.set i _).set _ _)[k]? = if k<i+1∨l.length - (i+1)≤k then _ else _
   have h3k:=h3 k hk
   have h3k:cur[k]? = if k<i∨l.length - i≤k then l[l.length - 1 - k]? else l[k]?:=h3k
   have h3i:cur[i]? = if i<i∨l.length - i≤i then l[l.length - 1 - i]? else l[i]?:=h3 i (by omega)
   have h3j:cur[cur.length - 1 - i]? = if cur.length - 1 - i<i∨l.length - i≤cur.length - 1 - i then l[l.length - 1 - (cur.length - 1 - i)]? else l[cur.length - 1 - i]?:=h3 _ (by omega)
   rw [if_neg (by omega),List.getElem?_eq_getElem hi] at h3i
   rw [if_neg (by omega),List.getElem?_eq_getElem hj] at h3j
   simp only [List.getElem?_set]
   by_cases e1:cur.length - 1 - i=k
   ·subst e1
    rw [if_pos rfl,if_pos (by simpa using hj),if_pos (by omega),h3i]
    congr 1;omega
   ·rw [if_neg e1]
    by_cases e2:i=k
    ·subst e2
     rw [if_pos rfl,if_pos hi,if_pos (by omega),h3j]
     congr 1;omega
    ·rw [if_neg e2,h3k]
     by_cases e3:k<i∨l.length - i≤k
     ·rw [if_pos e3,if_pos (by omega)]
     ·rw [if_neg e3,if_neg (by omega)]
  ·show PV.int _ (IntKind.i64.wrap ((i:Int)+1))=PV.int _ _
   rw [w64 (by omega) (by omega)];simp
  ·show PV.int _ (IntKind.i64.wrap ((l.length:Int) - 1 - i - 1))=PV.int _ ((l.length:Int) - 1 - ((i+1:Nat):Int))
   rw [w64 (by omega) (by omega)];congr 1;omega
  ·show l.length - (i+1)<l.length - i
   omega
 ·conv=>whnf
  have h2:cur.length=l.length:=h2
  have h4:¬(i:Int)<(l.length:Int) - 1 - i:=h4
  have h1:i≤l.length:=h1
  refine ⟨rfl,v,?_⟩
  have hc:cur=l.reverse:=by
   apply List.ext_getElem?
   intro k
   rcases Nat.lt_or_ge k l.length with hk | hk
   ·have h3k:cur[k]? = if k<i∨l.length - i≤k then l[l.length - 1 - k]? else l[k]?:=h3 k hk
    rw [h3k,List.getElem?_reverse hk]
    by_cases e3:k<i∨l.length - i≤k
    ·rw [if_pos e3]
    ·rw [if_neg e3];congr 1;omega
   ·rw [List.getElem?_eq_none (by omega),List.getElem?_eq_none (by simpa using hk)]
  show H.set id ⟨T,cur.map bC++rest,v⟩=_
  rw [hc]
theorem u8w (n:Nat):IntKind.u8.wrap (n:Int)=((UInt8.ofNat n).toNat:Int):=by
 rw [UInt8.toNat_ofNat']
 simp [IntKind.wrap,IntKind.signed,IntKind.bits]
theorem shr8 (n:Nat):ishr .i64 (n:Int) 8=((n / 256:Nat):Int):=by
 show Int.fdiv (n:Int) (2 ^ (min (Int.toNat 8) 64))=_
 rw [show (2:Int) ^ (min (Int.toNat 8) 64)=256 from rfl,Int.fdiv_eq_ediv_of_nonneg _ (by decide)]
 omega
def lenB (n:Nat):List UInt8:=if n<128 then [UInt8.ofNat n] else if n≤255 then [129,UInt8.ofNat n] else [130,UInt8.ofNat (n / 256),UInt8.ofNat n]
theorem lenB_len (n:Nat):(lenB n).length≤3:=by unfold lenB;split <;> (try split) <;> simp
theorem c220 (n:Nat) (hn:n≤1099511627776) (H:PH):CK prog 220 [.int .i64 n] H fun r H'=>r=.slice (lenB n).length ((lenB n).map bC) (some 5)∧H'=H:=by
 (refine fnS (imm:=imm220) ttB_ok func220 ?_;(conv=>whnf))
 refine ⟨fun h=>?_,fun h=>?_⟩
 ·conv=>whnf
  have h:(n:Int)<128:=h
  have e:lenB n=[UInt8.ofNat n]:=by unfold lenB;rw [if_pos (by omega)]
  rw [e]
  refine ⟨?_,rfl⟩
  show PV.slice 1 [PV.int .u8 (IntKind.u8.wrap (n:Int))] (some 5)=PV.slice 1 [PV.int .u8 ((UInt8.ofNat n).toNat:Int)] (some 5)
  rw [u8w]
 ·conv=>whnf
  have h:¬(n:Int)<128:=h
  refine ⟨fun h2=>?_,fun h2=>?_⟩
  ·conv=>whnf
   have h2:(n:Int)≤255:=h2
   have e:lenB n=[129,UInt8.ofNat n]:=by unfold lenB;rw [if_neg (by omega),if_pos (by omega)]
   rw [e]
   refine ⟨?_,rfl⟩
   show PV.slice 2 [PV.int .u8 129,PV.int .u8 (IntKind.u8.wrap (n:Int))] (some 5)=PV.slice 2 [PV.int .u8 129,PV.int .u8 ((UInt8.ofNat n).toNat:Int)] (some 5)
   rw [u8w]
  ·conv=>whnf
   have h2:¬(n:Int)≤255:=h2
   have e:lenB n=[130,UInt8.ofNat (n / 256),UInt8.ofNat n]:=by unfold lenB;rw [if_neg (by omega),if_neg (by omega)]
   rw [e]
   refine ⟨by decide,?_⟩
   conv=>whnf
   refine ⟨?_,rfl⟩
   show PV.slice 3 [PV.int .u8 130,PV.int .u8 (IntKind.u8.wrap (ishr .i64 (n:Int) 8)),PV.int .u8 (IntKind.u8.wrap (n:Int))] (some 5)=PV.slice 3 [PV.int .u8 130,PV.int .u8 ((UInt8.ofNat (n / 256)).toNat:Int),PV.int .u8 ((UInt8.ofNat n).toNat:Int)] (some 5)
   rw [shr8,u8w,u8w]
def wrapB (tag:UInt8) (b:List UInt8):List UInt8:=tag::(lenB b.length++b)
theorem c164 (tag:UInt8) (ls:List (List UInt8)) (hn:ls.length≤1099511627776) (ht:ls.flatten.length≤1099511627000) {H:PH} {cs:List PV} (hr:Reps H cs ls) :
  CK prog 164 [bC tag,.slice ls.length cs none] H fun r H'=>r=sl (wrapB tag ls.flatten)∧H'=H:=by
 (refine fnS (imm:=imm164) ttB_ok func164 ?_;(conv=>whnf))
 refine cO (c219 ls hn (by omega) hr) ?_
 rintro r H' ⟨rfl,rfl⟩
 conv=>whnf
 refine cO (c220 ls.flatten.length (by omega) H') ?_
 rintro r H'' ⟨rfl,rfl⟩
 conv=>whnf
 have hl:=lenB_len ls.flatten.length
 refine cO (c219 [[tag],lenB ls.flatten.length,ls.flatten] (by show 3≤_;omega) (by simp only [List.flatten_cons,List.flatten_nil,List.length_append,List.length_cons,List.length_nil];omega) (Reps.sl H'' [[tag],lenB ls.flatten.length,ls.flatten])) ?_
 rintro r H3 ⟨rfl,rfl⟩
 conv=>whnf
 refine ⟨?_,rfl⟩
 show sl [[tag],lenB ls.flatten.length,ls.flatten].flatten=_
 congr 1
 simp [wrapB]
theorem c168 (p:List UInt8) (hp:p.length≤1099511627000) (H:PH):CK prog 168 [sl p] H fun r H'=>r=sl (wrapB 4 p)∧H'=H:=by
 (refine fnS (imm:=imm168) ttB_ok func168 ?_;(conv=>whnf))
 refine cO (c164 4 [p] (by show 1≤_;omega) (by simpa using hp) (Reps.sl H [p])) ?_
 rintro r H' ⟨rfl,rfl⟩
 conv=>whnf
 refine ⟨?_,rfl⟩
 show sl (wrapB 4 [p].flatten)=_
 rw [List.flatten_cons,List.flatten_nil,List.append_nil]
theorem c170 (p:List UInt8) (hp:p.length≤1099511627000) (H:PH):CK prog 170 [.str p] H fun r H'=>r=sl (wrapB 27 p)∧H'=H:=by
 (refine fnS (imm:=imm170) ttB_ok func170 ?_;(conv=>whnf))
 refine ⟨by omega,?_⟩
 conv=>whnf
 refine cO (c164 27 [p] (by show 1≤_;omega) (by simpa using hp) (Reps.sl H [p])) ?_
 rintro r H' ⟨rfl,rfl⟩
 conv=>whnf
 refine ⟨?_,rfl⟩
 show sl (wrapB 27 [p].flatten)=_
 rw [List.flatten_cons,List.flatten_nil,List.append_nil]
def le:Nat→Nat→List UInt8
 | 0,_=>[]
 | f+1,n=>if n=0 then [] else UInt8.ofNat n::le f (n / 256)
theorem le_zero (f:Nat):le f 0=[]:=by cases f <;> simp [le]
theorem le_len:∀(f n:Nat),(le f n).length≤f
 | 0,_=>by simp [le]
 | f+1,n=>by
  unfold le
  split
  ·simp
  ·have:=le_len f (n / 256)
   simp;omega
def clampI (n:Int):Nat:=(min (max n 0) 4611686018427387904).toNat
def padB (b:List UInt8):List UInt8:=if b=[]∨128≤(b.getLast?.getD 0).toNat then b++[0] else b
def intB (n:Nat):List UInt8:=(padB (le 9 n)).reverse
structure InS where
 m:Nat
 H:PH
 v:PV
 d:List UInt8
def bOk (H0:PH) (d:List UInt8) (H:PH) (v:PV):Prop :=
 (d=[]∧v=.nilS)∨(d≠[]∧∃id cap T ver rest,v=.sref id 0 d.length cap∧H0.length≤id∧H[id]? = some ⟨T,d.map bC++rest,ver⟩∧d.length+rest.length=cap)
theorem oldPs_bytes:∀(b:List UInt8),oldPs (b.map bC)=true
 | []=>rfl
 | _::b=>oldPs_bytes b
theorem set_app (cs:List UInt8) (rest:List PV) (x:UInt8) (h:0<rest.length):setCells (cs.length*1) [bC x] (cs.map bC++rest)=(cs++[x]).map bC++rest.drop 1:=by
 rw [setCells_eq _ _ _ (by simp;omega),Nat.mul_one]
 rw [List.take_append_of_le_length (by simp),List.take_of_length_le (by simp),List.drop_append,List.drop_of_length_le (by simp)]
 simp
theorem bOk_add {H0 H:PH} {d:List UInt8} {v:PV} (hx:Ext H0 H) (h:bOk H0 d H v) (x:UInt8) (hd:d.length≤100) {E:Env} {K:PV→PH→Prop}
  (hk:∀v' H',Ext H0 H'→bOk H0 (d++[x]) H' v'→(∃id cap,v'=.sref id 0 (d.length+1) cap)→K v' H') :
  (d=[]→∀cap',1≤cap'→K (.sref H.length 0 1 cap') (H++[⟨5,[bC x]++zerosOf [PV.int .u8 0] (cap' - 1),0⟩])) ∧
  (∀id cap T ver rest,v=.sref id 0 d.length cap→H0.length≤id→H[id]? = some ⟨T,d.map bC++rest,ver⟩→d.length+rest.length=cap →
   (d.length+1≤cap→K (.sref id 0 (d.length+1) cap) (H.set id ⟨T,setCells (d.length*1) [bC x] (d.map bC++rest),ver+1⟩)) ∧
   (cap<d.length+1→∀cap',d.length+1≤cap'→K (.sref H.length 0 (d.length+1) cap') (H++[⟨5,((d.map bC++rest).take (d.length*1)).map dem++[bC x]++zerosOf [PV.int .u8 0] (cap' - (d.length+1)),0⟩]))):=by
 have hz:∀n,(zerosOf [PV.int .u8 0] n).length=n:=fun n=>by rw [(zerosOf_get (z:=[PV.int .u8 0]) (sz:=1) rfl (by omega) n).1];omega
 refine ⟨fun h0 cap' hc=>?_,fun id cap T ver rest hv hid ho hcap=>⟨fun hroom=>?_,fun hgrow cap' hc=>?_⟩⟩
 ·subst h0
  exact hk _ _ (hx.push _) (.inr ⟨by simp,H.length,cap',5,0,zerosOf [PV.int .u8 0] (cap' - 1),rfl,hx.len,gL _ _,by rw [hz];simp;omega⟩) ⟨_,_,rfl⟩
 ·have hr:0<rest.length:=by omega
  rw [set_app _ _ _ hr]
  exact hk _ _ (hx.set hid _) (.inr ⟨by simp,id,cap,T,ver+1,rest.drop 1,by rw [List.length_append];rfl,hid,gS ho,by rw [List.length_append,List.length_drop];show d.length+1+(rest.length - 1)=cap;omega⟩) ⟨_,_,rfl⟩
 ·have e:((d.map bC++rest).take (d.length*1)).map dem++[bC x]=(d++[x]).map bC:=by
   rw [Nat.mul_one,take_pre (by rw [List.length_map]),List.map_map,List.map_append];rfl
  rw [e]
  exact hk _ _ (hx.push _) (.inr ⟨by simp,H.length,cap',5,0,_,by rw [List.length_append];rfl,hx.len,gL _ _,by rw [hz,List.length_append];show d.length+1+(cap' - (d.length+1))=cap';omega⟩) ⟨_,_,rfl⟩
theorem rep_one {H:PH} {id T v n cap:Nat} {x:List UInt8} {rest:List PV} (hid:H[id]? = some ⟨T,x.map bC++rest,v⟩) (hn:n=x.length):Reps H [.sref id 0 n cap] [x]:=by
 refine ⟨rfl,fun i c b hc hb=>?_⟩
 match i with
 | 0 =>
  simp at hc hb
  subst hc;subst hb;subst hn
  refine .inr ⟨id,0,cap,_,rfl,hid,?_⟩
  show (((x.map bC++rest).drop 0).take (x.length*1)).map dem=_
  rw [List.drop_zero,Nat.mul_one,take_pre (by rw [List.length_map]),List.map_map];rfl
 | i+1=>simp at hc
theorem c166x (n:Int) (H0:PH):CK prog 166 [.int .i64 n] H0 fun r H'=>r=sl (wrapB 2 (intB (clampI n)))∧∃ext,H'=H0++ext:=by
 (refine fnS (imm:=imm166) ttB_ok func166 ?_;(conv=>whnf))
 have hN:min (max n 0) 4611686018427387904=(clampI n:Int):=by unfold clampI;omega
 have hN2:clampI n≤4611686018427387904:=by unfold clampI;omega
 refine lO InS (fun x=>[(0,.int .i64 x.m),(3,x.v)]) (fun x=>x.H)
  (fun x=>∃f,x.d++le f x.m=le 9 (clampI n)∧x.m<256 ^ f∧x.m≤4611686018427387904∧Ext H0 x.H∧bOk H0 x.d x.H x.v) (fun x=>x.m)
  ⟨⟨clampI n,H0,.nilS,[]⟩,⟨9,rfl,by show clampI n<256 ^ 9;omega,hN2,Ext.refl _,.inl ⟨rfl,rfl⟩⟩,⟨congrArg (PV.int .i64) hN,rfl,trivial⟩,rfl⟩ ?_
 rintro ⟨m,H,v,d⟩ ⟨f,g1,g2,g3,g4,g5⟩
 have g1:d++le f m=le 9 (clampI n):=g1
 have g2:m<256 ^ f:=g2
 have g3:m≤4611686018427387904:=g3
 have g4:Ext H0 H:=g4
 have g5:bOk H0 d H v:=g5
 have hd9:d.length≤9:=by
  have:=le_len 9 (clampI n)
  rw [←g1,List.length_append] at this
  omega
 conv=>whnf
 refine ⟨fun h=>?_,fun h=>?_⟩
 ·conv=>whnf
  have h:(m:Int) > 0:=h
  have hf:∃f',f=f'+1:=by
   cases f with
   | zero=>simp at g2;omega
   | succ f=>exact ⟨f,rfl⟩
  obtain ⟨f,rfl⟩:=hf
  have hle:le (f+1) m=UInt8.ofNat m::le f (m / 256):=by
   conv=>lhs;unfold le
   rw [if_neg (by omega)]
  have hlast:∀(E:Env) (H':PH) (v':PV),subE [(0,.int .i64 (ishr .i64 (m:Int) 8)),(3,v')] E→Ext H0 H'→bOk H0 (d++[UInt8.ofNat m]) H' v' →
    ∃s':InS,(∃f,s'.d++le f s'.m=le 9 (clampI n)∧s'.m<256 ^ f∧s'.m≤4611686018427387904∧Ext H0 s'.H∧bOk H0 s'.d s'.H s'.v)∧subE [(0,.int .i64 s'.m),(3,s'.v)] E∧H'=s'.H∧s'.m<m:=by
   intro E H' v' hE hx hb
   rw [shr8] at hE
   refine ⟨⟨m / 256,H',v',d++[UInt8.ofNat m]⟩,⟨f,?_,?_,by show m / 256≤_;omega,hx,hb⟩,hE,rfl,by show m / 256<m;omega⟩
   ·show d++[UInt8.ofNat m]++le f (m / 256)=_
    rw [←g1,hle];simp
   ·show m / 256<256 ^ f
    rw [Nat.div_lt_iff_lt_mul (by omega),←Nat.pow_succ];exact g2
  obtain ⟨A,B⟩:=bOk_add (E:=[]) (K:=fun v' H'=>Ext H0 H'∧bOk H0 (d++[UInt8.ofNat m]) H' v') g4 g5 (UInt8.ofNat m) (by omega) fun v' H' a b _=>⟨a,b⟩
  have hbw:PV.int .u8 (IntKind.u8.wrap (m:Int))=bC (UInt8.ofNat m):=congrArg (PV.int .u8) (u8w m)
  rcases g5 with ⟨rfl,rfl⟩ | ⟨y1,id,cap,T,ver,rest,rfl,y2,y3,y4⟩
  ·conv=>whnf
   rw [hbw]
   refine ⟨⟨by show 1*1≤_;omega,rfl,rfl⟩,fun h=>absurd h (by omega),fun _ cap' hc=>?_⟩
   conv=>whnf
   refine ⟨by decide,?_⟩
   conv=>whnf
   exact hlast _ _ _ ⟨rfl,rfl,trivial⟩ (A rfl cap' hc).1 (A rfl cap' hc).2
  ·conv=>whnf
   rw [hbw]
   ((conv in (_[_]?)=>tactic=>exact y3);(conv=>whnf))
   obtain ⟨B1,B2⟩:=B id cap T ver rest rfl y2 y3 y4
   refine ⟨⟨rfl,by show (d.length+1)*1≤_;omega,rfl,rfl,by show d.length*1≤(d.map bC++rest).length;simp⟩,fun hroom=>⟨by show (d.length+1)*1≤(d.map bC++rest).length;rw [List.length_append,List.length_map];omega,?_⟩,fun hgrow cap' hc=>?_⟩
   ·conv=>whnf
    refine ⟨by decide,?_⟩
    conv=>whnf
    exact hlast _ _ _ ⟨rfl,rfl,trivial⟩ (B1 hroom).1 (B1 hroom).2
   ·conv=>whnf
    refine ⟨by decide,?_⟩
    conv=>whnf
    exact hlast _ _ _ ⟨rfl,rfl,trivial⟩ (B2 hgrow cap' hc).1 (B2 hgrow cap' hc).2
 ·conv=>whnf
  have h:¬(m:Int) > 0:=h
  have hm:m=0:=by omega
  subst hm
  rw [le_zero,List.append_nil] at g1
  have k4:Ext H0 H:=g4
  have k5:bOk H0 d H v:=g5
  have k1:d=le 9 (clampI n):=g1
  clear g1 g2 g3 g4 g5 h
  obtain ⟨A,B⟩:=bOk_add (H0:=H0) (H:=H) (d:=d) (v:=v) (E:=[]) (K:=fun v' H'=>Ext H0 H'∧bOk H0 (d++[0]) H' v') k4 k5 0 (by omega) fun v' H' a b _=>⟨a,b⟩
  rcases k5 with ⟨rfl,rfl⟩ | ⟨y1,id,cap,T,ver,rest,rfl,y2,y3,y4⟩
  ·have hpad:padB (le 9 (clampI n))=[0]:=by rw [←k1];rfl
   conv=>whnf
   refine ⟨fun _=>?_,fun h=>absurd rfl h⟩
   conv=>whnf
   refine ⟨⟨by show 1*1≤_;omega,rfl,rfl⟩,fun h=>absurd h (by omega),fun _ cap' hc=>?_⟩
   conv=>whnf
   refine cO (c221 H.length 1 cap' [0] (zerosOf [PV.int .u8 0] (cap' - 1)) 5 0 (H++[PObj.mk 5 ([bC 0]++zerosOf [PV.int .u8 0] (cap' - 1)) 0]) (gL _ _) (by simp) (by first | omega | (simp;omega) | simp)) ?_
   rintro r H' ⟨rfl,v',rfl⟩
   conv=>whnf
   refine cO (c164 2 [([0]).reverse] (cs:=[.sref H.length 0 (1) cap']) (by show 1≤_;omega) (by first | omega | (simp;omega) | simp) (rep_one (gS (gL _ _)) (by simp))) ?_
   rintro r H'' ⟨rfl,rfl⟩
   conv=>whnf
   refine ⟨?_,(k4.push _).set k4.len _⟩
   show sl (wrapB 2 [([0]).reverse].flatten)=sl (wrapB 2 (intB (clampI n)))
   rw [List.flatten_cons,List.flatten_nil,List.append_nil]
   unfold intB
   rw [hpad]
  ·have hdl:0<d.length:=List.length_pos_iff.2 y1
   have hlst:d[d.length - 1]? = some (d.getLast?.getD 0):=by
    rw [List.getLast?_eq_getElem?,List.getElem?_eq_getElem (by omega)];rfl
   have hpad:padB (le 9 (clampI n))=if 128≤(d.getLast?.getD 0).toNat then d++[0] else d:=by
    rw [←k1];unfold padB
    simp only [y1,false_or]
   have hidx:(0+(((d.length:Int) - 1)).toNat*1)=0+((d.length - 1:Nat):Int).toNat*1:=by omega
   obtain ⟨B1,B2⟩:=B id cap T ver rest rfl y2 y3 y4
   conv=>whnf
   refine ⟨fun h=>absurd (show (d.length:Int)=0 from h) (by omega),fun _=>?_⟩
   conv=>whnf
   have hw1:IntKind.i64.wrap ((d.length:Int) - 1)=(d.length:Int) - 1:=by rw [w64 (by omega) (by omega)]
   refine ⟨⟨by show 0≤IntKind.i64.wrap ((d.length:Int) - 1);rw [hw1];omega,by show IntKind.i64.wrap ((d.length:Int) - 1)<d.length;rw [hw1];omega⟩,?_⟩
   conv=>whnf
   ((conv in (_[_]?)=>tactic=>exact y3);(conv=>whnf))
   rw [hw1]
   ((conv in (dropN _ _)=>tactic=>exact (show dropN (0+((d.length:Int) - 1).toNat*1) (d.map bC++rest)=bC (d.getLast?.getD 0)::((d.drop (d.length - 1+1)).map bC++rest) by rw [hidx];exact dropN_app d rest hlst));(conv=>whnf))
   refine ⟨fun h128=>?_,fun h128=>?_⟩
   ·have h128:(128:Int)≤((d.getLast?.getD 0).toNat:Int):=h128
    rw [if_pos (by omega)] at hpad
    conv=>whnf
    ((conv in (_[_]?)=>tactic=>exact y3);(conv=>whnf))
    refine ⟨⟨rfl,by show (d.length+1)*1≤_;omega,rfl,rfl,by show d.length*1≤(d.map bC++rest).length;simp⟩,fun hroom=>⟨by show (d.length+1)*1≤(d.map bC++rest).length;rw [List.length_append,List.length_map];omega,?_⟩,fun hgrow cap' hc=>?_⟩
    ·conv=>whnf
     have hs:=set_app d rest 0 (by omega)
     have hid2:(H.set id (PObj.mk T (setCells (d.length*1) [bC 0] (d.map bC++rest)) (ver+1)))[id]? = some ⟨T,(d++[0]).map bC++rest.drop 1,ver+1⟩:=by rw [hs];exact gS y3
     refine cO (c221 id (d.length+1) cap (d++[0]) (rest.drop 1) T (ver+1) (H.set id (PObj.mk T (setCells (d.length*1) [bC 0] (d.map bC++rest)) (ver+1))) hid2 (by simp) (by first | omega | (simp;omega) | simp)) ?_
     rintro r H' ⟨rfl,v',rfl⟩
     conv=>whnf
     refine cO (c164 2 [((d++[0])).reverse] (cs:=[.sref id 0 ((d.length+1)) cap]) (by show 1≤_;omega) (by first | omega | (simp;omega) | simp) (rep_one (gS hid2) (by simp))) ?_
     rintro r H'' ⟨rfl,rfl⟩
     conv=>whnf
     refine ⟨?_,(k4.set y2 _).set y2 _⟩
     show sl (wrapB 2 [((d++[0])).reverse].flatten)=sl (wrapB 2 (intB (clampI n)))
     rw [List.flatten_cons,List.flatten_nil,List.append_nil]
     unfold intB
     rw [hpad]
    ·conv=>whnf
     have hz:((d.map bC++rest).take (d.length*1)).map dem++[bC 0]=(d++[0]).map bC:=by
      rw [Nat.mul_one,take_pre (by rw [List.length_map]),List.map_map,List.map_append];rfl
     have hid2:(H++[PObj.mk 5 (((d.map bC++rest).take (d.length*1)).map dem++[bC 0]++zerosOf [PV.int .u8 0] (cap' - (d.length+1))) 0])[H.length]? = some ⟨5,(d++[0]).map bC++zerosOf [PV.int .u8 0] (cap' - (d.length+1)),0⟩:=by rw [hz];exact gL _ _
     refine cO (c221 H.length (d.length+1) cap' (d++[0]) (zerosOf [PV.int .u8 0] (cap' - (d.length+1))) 5 0 (H++[PObj.mk 5 (((d.map bC++rest).take (d.length*1)).map dem++[bC 0]++zerosOf [PV.int .u8 0] (cap' - (d.length+1))) 0]) hid2 (by simp) (by first | omega | (simp;omega) | simp)) ?_
     rintro r H' ⟨rfl,v',rfl⟩
     conv=>whnf
     refine cO (c164 2 [((d++[0])).reverse] (cs:=[.sref H.length 0 ((d.length+1)) cap']) (by show 1≤_;omega) (by first | omega | (simp;omega) | simp) (rep_one (gS hid2) (by simp))) ?_
     rintro r H'' ⟨rfl,rfl⟩
     conv=>whnf
     refine ⟨?_,(k4.push _).set k4.len _⟩
     show sl (wrapB 2 [((d++[0])).reverse].flatten)=sl (wrapB 2 (intB (clampI n)))
     rw [List.flatten_cons,List.flatten_nil,List.append_nil]
     unfold intB
     rw [hpad]
   ·have h128:¬(128:Int)≤((d.getLast?.getD 0).toNat:Int):=h128
    rw [if_neg (by omega)] at hpad
    conv=>whnf
    refine cO (c221 id d.length cap d rest T ver H y3 (by simp) (by first | omega | (simp;omega) | simp)) ?_
    rintro r H' ⟨rfl,v',rfl⟩
    conv=>whnf
    refine cO (c164 2 [(d).reverse] (cs:=[.sref id 0 (d.length) cap]) (by show 1≤_;omega) (by first | omega | (simp;omega) | simp) (rep_one (gS y3) (by simp))) ?_
    rintro r H'' ⟨rfl,rfl⟩
    conv=>whnf
    refine ⟨?_,k4.set y2 _⟩
    show sl (wrapB 2 [(d).reverse].flatten)=sl (wrapB 2 (intB (clampI n)))
    rw [List.flatten_cons,List.flatten_nil,List.append_nil]
    unfold intB
    rw [hpad]
theorem c166 (n:Int):Pure prog 166 [.int .i64 n] (sl (wrapB 2 (intB (clampI n)))):=Pure.of_gc (oldPs_bytes _) (c166x n)
def ttG:TT:=[(3,⟨.int .i64,1,8,[.int .i64 0]⟩),(4,⟨.bool,1,1,[.bool false]⟩),(5,⟨.int .u8,1,1,[.int .u8 0]⟩),(9,⟨.str,1,16,[.str []]⟩),(25,⟨.strct [(9,0),(9,1)],2,32,[.str [],.str []]⟩),(31,⟨.int .i64,1,8,[.int .i64 0]⟩),(323,⟨.slice 3,1,24,[.slice 0 [] (some 3)]⟩),(26,⟨.slice 5,1,24,[.slice 0 [] (some 5)]⟩),(41,⟨.strct [(25,0),(25,2),(3,4),(3,5)],6,80,[.str [],.str [],.str [],.str [],.int .i64 0,.int .i64 0]⟩),(28,⟨.strct [(25,0),(3,2),(26,3)],4,64,[.str [],.str [],.int .i64 0,.slice 0 [] (some 5)]⟩),(64,⟨.strct [(28,0),(26,4),(25,5),(3,7),(3,8)],9,136,[.str [],.str [],.int .i64 0,.slice 0 [] (some 5),.slice 0 [] (some 5),.str [],.str [],.int .i64 0,.int .i64 0]⟩),(30,⟨.strct [(25,0),(28,2),(26,6)],7,120,[.str [],.str [],.str [],.str [],.int .i64 0,.slice 0 [] (some 5),.slice 0 [] (some 5)]⟩),(98,⟨.strct [(28,0),(26,4)],5,88,[.str [],.str [],.int .i64 0,.slice 0 [] (some 5),.slice 0 [] (some 5)]⟩),(100,⟨.strct [(31,0),(3,1)],2,16,[.int .i64 0,.int .i64 0]⟩),(102,⟨.strct [(3,0),(41,1),(64,7),(30,16),(98,23),(100,28)],30,448,[.int .i64 0,.str [],.str [],.str [],.str [],.int .i64 0,.int .i64 0,.str [],.str [],.int .i64 0,.slice 0 [] (some 5),.slice 0 [] (some 5),.str [],.str [],.int .i64 0,.int .i64 0,.str [],.str [],.str [],.str [],.int .i64 0,.slice 0 [] (some 5),.slice 0 [] (some 5),.str [],.str [],.int .i64 0,.slice 0 [] (some 5),.slice 0 [] (some 5),.int .i64 0,.int .i64 0]⟩),(255,⟨.slice 26,1,24,[.slice 0 [] (some 26)]⟩)]
theorem ttG_ok:ttOk prog ttG=true:=by kernel_rfl
def imm162:List Nat:=[]
def imm159:List Nat:=[]
def imm161:List Nat:=[]
def imm160:List Nat:=[1]
def imm158:List Nat:=[]
def imm218:List Nat:=[1]
def imm163:List Nat:=[1]
def imm102:List Nat:=[1]
def imm47:List Nat:=[1]
def imm103:List Nat:=[]
def imm104:List Nat:=[1]
def imm165:List Nat:=[1]
def imm167:List Nat:=[1]
def inZ (n lo hi:Int):Bool:=decide (lo≤n)&&decide (n≤hi)
def slo (b:List UInt8) (o:Option Nat):PV:=.slice b.length (b.map bC) o
theorem c162 (n lo hi:Int):Pure prog 162 [.int .i64 n,.int .i64 lo,.int .i64 hi] (.bool (inZ n lo hi)):=by
 intro H
 (refine fnS (imm:=imm162) ttG_ok func162 ?_;(conv=>whnf))
 unfold inZ
 refine ⟨fun h=>?_,fun h=>?_⟩
 ·conv=>whnf
  have h:n ≥ lo:=h
  rw [decide_eq_true (show lo≤n by omega)]
  refine ⟨fun h2=>?_,fun h2=>?_⟩
  ·conv=>whnf
   rw [decide_eq_true h2]
   exact ⟨rfl,rfl⟩
  ·conv=>whnf
   rw [decide_eq_false h2]
   exact ⟨rfl,rfl⟩
 ·conv=>whnf
  have h:¬n ≥ lo:=h
  rw [decide_eq_false (show ¬lo≤n by omega)]
  exact ⟨rfl,rfl⟩
theorem c159 (n:Int):Pure prog 159 [.int .i64 n] (.bool (inZ n 0 1073741824)):=by
 intro H
 (refine fnS (imm:=imm159) ttG_ok func159 ?_;(conv=>whnf))
 (refine cP ((c162 n 0 1073741824)) ?_;try (conv=>whnf))
 exact ⟨rfl,rfl⟩
theorem c161 (n:Nat) (cs:List PV) (o:Option Nat):Pure prog 161 [.slice n cs o] (.bool (inZ n 1 800)):=by
 intro H
 (refine fnS (imm:=imm161) ttG_ok func161 ?_;(conv=>whnf))
 (refine cP ((c162 n 1 800)) ?_;try (conv=>whnf))
 exact ⟨rfl,rfl⟩
theorem c158 (l:List Int) (hl:l.length≤1000):Pure prog 158 [.slice l.length (l.map (.int .i64)) none] (.bool (l.all fun n=>inZ n 0 1073741824)):=by
 intro H
 (refine fnS (imm:=imm158) ttG_ok func158 ?_;(conv=>whnf))
 refine lO CoS (fun x=>[(5,.slice l.length (l.map (.int .i64)) none),(6,.int .i64 l.length),(7,.int .i64 x.k)]) (fun _=>H) (fun x=>x.k≤l.length∧(l.take x.k).all (fun n=>inZ n 0 1073741824)=true) (fun x=>l.length - x.k)
  ⟨⟨0⟩,⟨Nat.zero_le _,rfl⟩,⟨rfl,rfl,rfl,trivial⟩,rfl⟩ ?_
 rintro ⟨k⟩ ⟨hk,hall⟩
 have hk:k≤l.length:=hk
 have hall:(l.take k).all (fun n=>inZ n 0 1073741824)=true:=hall
 conv=>whnf
 refine ⟨fun h=>?_,fun h=>?_⟩
 ·conv=>whnf
  have h:(k:Int)<l.length:=h
  have hi:k<l.length:=by omega
  refine ⟨⟨by show (0:Int)≤(k:Int);omega,h⟩,[.int .i64 l[k]],fun j c hj=>?_,?_⟩
  ·match j with
   | 0 =>
    have hj:some (PV.int .i64 l[k])=some c:=hj
    show (l.map (PV.int .i64))[(k:Int).toNat*1+0]? = _
    rw [←hj]
    simp [hi]
   | j+1=>simp at hj
  conv=>whnf
  refine cP (c162 l[k] 0 1073741824) ?_
  cases hb:inZ l[k] 0 1073741824
  ·conv=>whnf
   refine ⟨?_,rfl⟩
   have:(l.all fun n=>inZ n 0 1073741824)=false:=by
    cases hc:(l.all fun n=>inZ n 0 1073741824) with
    | false=>rfl
    | true=>rw [List.all_eq_true.1 hc _ (List.getElem_mem hi)] at hb;cases hb
   rw [this];rfl
  ·conv=>whnf
   refine ⟨⟨k+1⟩,⟨by show k+1≤l.length;omega,?_⟩,⟨rfl,rfl,?_,trivial⟩,rfl,by show l.length - (k+1)<l.length - k;omega⟩
   ·show (l.take (k+1)).all (fun n=>inZ n 0 1073741824)=true
    rw [List.take_succ_eq_append_getElem hi,List.all_append,hall]
    simp [hb]
   ·show PV.int _ (IntKind.i64.wrap ((k:Int)+1))=PV.int _ ((k+1:Nat):Int)
    rw [w64 (by omega) (by omega)];rfl
 ·conv=>whnf
  have h:¬(k:Int)<l.length:=h
  rw [List.take_of_length_le (by omega)] at hall
  rw [hall]
  exact ⟨rfl,rfl⟩
def tickB (r n:List UInt8) (kv:Int) (bl:Nat):Bool:=isPrincB r n&&inZ kv 1 255&&inZ bl 1 800
theorem c160 (r n:List UInt8) (kv:Int) (b:List UInt8) (o:Option Nat) (hr:r.length≤1099511627775) (hn:n.length≤1099511627775) :
  Pure prog 160 [.agg [.str r,.str n,.int .i64 kv,slo b o]] (.bool (tickB r n kv b.length)):=by
 intro H
 (refine fnS (imm:=imm160) ttG_ok func160 ?_;(conv=>whnf))
 refine cP (c97 r n hr hn) ?_
 unfold tickB
 cases isPrincB r n
 ·conv=>whnf
  exact ⟨rfl,rfl⟩
 ·conv=>whnf
  refine cP (c162 kv 1 255) ?_
  cases inZ kv 1 255
  ·conv=>whnf
   exact ⟨rfl,rfl⟩
  ·conv=>whnf
   refine cP (c161 b.length _ _) ?_
   cases inZ b.length 1 800
   ·conv=>whnf
    exact ⟨rfl,rfl⟩
   ·conv=>whnf
    exact ⟨rfl,rfl⟩
def noTk (r n:List UInt8) (kv:Int) (bl:Nat):Bool:=decide (r=[]∧n=[])&&decide (kv=0)&&decide (bl=0)
theorem fitG (a b:List UInt8):FitP ttG 6 25 [.str a,.str b]:=⟨rfl,⟨by show 1≤2;omega,a,rfl⟩,rfl,⟨by show 1≤1;omega,b,rfl⟩,rfl⟩
theorem pr_eq {r n:List UInt8}:([PV.str r,PV.str n]=[PV.str [],PV.str []])↔(r=[]∧n=[]):=by simp
theorem c218 (r n:List UInt8) (kv:Int) (b:List UInt8) (o:Option Nat):Pure prog 218 [.agg [.str r,.str n,.int .i64 kv,slo b o]] (.bool (noTk r n kv b.length)):=by
 intro H
 (refine fnS (imm:=imm218) ttG_ok func218 ?_;(conv=>whnf))
 refine ⟨⟨fitG _ _,fitG [] []⟩,?_⟩
 conv=>whnf
 unfold noTk
 refine ⟨fun h=>?_,fun h=>?_⟩
 ·have h:[PV.str r,PV.str n]=[PV.str [],PV.str []]:=h
  rw [decide_eq_true (pr_eq.1 h)]
  conv=>whnf
  refine ⟨fun h=>?_,fun h=>?_⟩
  ·have h:kv=0:=h
   rw [decide_eq_true h]
   conv=>whnf
   refine ⟨fun h=>?_,fun h=>?_⟩
   ·have h:(b.length:Int)=0:=h
    rw [decide_eq_true (show b.length=0 by omega)]
    conv=>whnf
    exact ⟨rfl,rfl⟩
   ·have h:¬(b.length:Int)=0:=h
    rw [decide_eq_false (show ¬b.length=0 by omega)]
    conv=>whnf
    exact ⟨rfl,rfl⟩
  ·have h:¬kv=0:=h
   rw [decide_eq_false h]
   conv=>whnf
   exact ⟨rfl,rfl⟩
 ·have h:¬[PV.str r,PV.str n]=[PV.str [],PV.str []]:=h
  rw [decide_eq_false fun hh=>h (pr_eq.2 hh)]
  conv=>whnf
  exact ⟨rfl,rfl⟩
structure Msg where
 kind:Int
 a1:List UInt8
 a2:List UInt8
 a3:List UInt8
 a4:List UInt8
 aTill:Int
 aNonce:Int
 t1:List UInt8
 t2:List UInt8
 tKv:Int
 tB:List UInt8
 tBo:Option Nat
 tAu:List UInt8
 tAuo:Option Nat
 t3:List UInt8
 t4:List UInt8
 tTill:Int
 tNonce:Int
 r1:List UInt8
 r2:List UInt8
 r3:List UInt8
 r4:List UInt8
 rKv:Int
 rB:List UInt8
 rBo:Option Nat
 rBl:List UInt8
 rBlo:Option Nat
 p1:List UInt8
 p2:List UInt8
 pKv:Int
 pB:List UInt8
 pBo:Option Nat
 pAu:List UInt8
 pAuo:Option Nat
 fErr:Int
 fNonce:Int
def Msg.as (m:Msg):List PV:=[.str m.a1,.str m.a2,.str m.a3,.str m.a4,.int .i64 m.aTill,.int .i64 m.aNonce]
def Msg.tgs (m:Msg):List PV:=[.str m.t1,.str m.t2,.int .i64 m.tKv,slo m.tB m.tBo,slo m.tAu m.tAuo,.str m.t3,.str m.t4,.int .i64 m.tTill,.int .i64 m.tNonce]
def Msg.rep (m:Msg):List PV:=[.str m.r1,.str m.r2,.str m.r3,.str m.r4,.int .i64 m.rKv,slo m.rB m.rBo,slo m.rBl m.rBlo]
def Msg.ap (m:Msg):List PV:=[.str m.p1,.str m.p2,.int .i64 m.pKv,slo m.pB m.pBo,slo m.pAu m.pAuo]
def Msg.fail (m:Msg):List PV:=[.int .i64 m.fErr,.int .i64 m.fNonce]
def Msg.cells (m:Msg):List PV:=[.int .i64 m.kind]++m.as++m.tgs++m.rep++m.ap++m.fail
def noAs (m:Msg):Bool:=decide (m.a1=[]∧m.a2=[]∧m.a3=[]∧m.a4=[]∧m.aTill=0∧m.aNonce=0)
def noTgs (m:Msg):Bool:=noTk m.t1 m.t2 m.tKv m.tB.length&&decide (m.tAu.length=0)&&decide (m.t3=[]∧m.t4=[])&&decide (m.tTill=0)&&decide (m.tNonce=0)
def noRep (m:Msg):Bool:=decide (m.r1=[]∧m.r2=[])&&noTk m.r3 m.r4 m.rKv m.rB.length&&decide (m.rBl.length=0)
def noAp (m:Msg):Bool:=noTk m.p1 m.p2 m.pKv m.pB.length&&decide (m.pAu.length=0)
def noFail (m:Msg):Bool:=decide (m.fErr=0∧m.fNonce=0)
def othersB (m:Msg):Bool:=(decide (m.kind=1)||noAs m)&&(decide (m.kind=2)||noTgs m)&&(decide (m.kind=3)||noRep m)&&(decide (m.kind=4)||noAp m)&&(decide (m.kind=5)||noFail m)
theorem app_get (H l:PH) (i:Nat):(H++l)[H.length+i]? = l[i]?:=by rw [List.getElem?_append_right (by omega)];congr 1;omega
theorem app_set (H l:PH) (i:Nat) (o:PObj):(H++l).set (H.length+i) o=H++l.set i o:=by rw [List.set_append_right _ _ (by omega)];congr 2;omega
def z55:PObj:=⟨64,[.str [],.str [],.int .i64 0,.slice 0 [] (some 5),.slice 0 [] (some 5),.str [],.str [],.int .i64 0,.int .i64 0],0⟩
def z57:PObj:=⟨30,[.str [],.str [],.str [],.str [],.int .i64 0,.slice 0 [] (some 5),.slice 0 [] (some 5)],0⟩
def z59:PObj:=⟨98,[.str [],.str [],.int .i64 0,.slice 0 [] (some 5),.slice 0 [] (some 5)],0⟩
def D163 (n:Nat):Draw:={ imp:=[9,10,11],robs:=[z55,z57,z59],res:=[(6,0),(7,1),(8,2)],base:=n,win:=[(2,0,1),(3,0,1),(4,0,2),(5,0,2),(10,1,1),(11,2,2)] }
theorem fitA (a b c d:List UInt8) (x y:Int):FitP ttG 6 41 [.str a,.str b,.str c,.str d,.int .i64 x,.int .i64 y] :=
 ⟨rfl,⟨by show 2≤6;omega,⟨rfl,⟨by show 1≤2;omega,a,rfl⟩,rfl,⟨by show 1≤1;omega,b,rfl⟩,rfl⟩⟩,rfl,⟨by show 2≤4;omega,⟨rfl,⟨by show 1≤2;omega,c,rfl⟩,rfl,⟨by show 1≤1;omega,d,rfl⟩,rfl⟩⟩,rfl,⟨by show 1≤2;omega,x,rfl⟩,rfl,⟨by show 1≤1;omega,y,rfl⟩,rfl⟩
theorem fitF (x y:Int):FitP ttG 6 100 [.int .i64 x,.int .i64 y]:=⟨rfl,⟨by show 1≤2;omega,x,rfl⟩,rfl,⟨by show 1≤1;omega,y,rfl⟩,rfl⟩
theorem as_eq {a b c d:List UInt8} {x y:Int}:([PV.str a,PV.str b,PV.str c,PV.str d,PV.int .i64 x,PV.int .i64 y]=[PV.str [],PV.str [],PV.str [],PV.str [],PV.int .i64 0,PV.int .i64 0])↔(a=[]∧b=[]∧c=[]∧d=[]∧x=0∧y=0):=by simp
theorem fl_eq {x y:Int}:([PV.int .i64 x,PV.int .i64 y]=[PV.int .i64 0,PV.int .i64 0])↔(x=0∧y=0):=by simp
theorem nat0 {n:Nat}:((n:Int)=0)↔n=0:=by omega
theorem c163x (m:Msg) (H:PH):CK prog 163 [.agg m.cells] H fun r H'=>r=.bool (othersB m)∧∃ext,H'=H++ext:=by
 (refine fnS (imm:=imm163) ttG_ok func163 ?_;(conv=>whnf))
 refine dO2 (D163 H.length) [H++[z55,z57,z59],H++[PObj.mk 64 (m.tgs.map dem) 1,z57,z59],H++[PObj.mk 64 (m.tgs.map dem) 1,PObj.mk 30 (m.rep.map dem) 1,z59],H++[PObj.mk 64 (m.tgs.map dem) 1,PObj.mk 30 (m.rep.map dem) 1,PObj.mk 98 (m.ap.map dem) 1]] (by kernel_rfl) ⟨rfl,rfl⟩ trivial ?_
 conv=>whnf
 iterate 2 (refine dS ?_;(conv=>whnf))
 iterate 2 (refine dS2 ?_;(conv=>whnf))
 iterate 2 (apply Exists.intro;apply And.intro;(focus ((conv=>whnf);apply And.intro;(focus ((conv=>whnf);exact oS));(conv=>whnf);apply And.intro;(focus ((conv=>whnf);exact oS));((conv=>whnf);exact oS)));(conv=>whnf))
 refine ⟨_,⟨⟨rfl,rfl,trivial⟩,app_get H [z55,z57,z59] 0⟩,?_⟩
 conv=>whnf
 refine ⟨_,⟨⟨rfl,rfl,trivial⟩,app_get H [z55,z57,z59] 1⟩,?_⟩
 conv=>whnf
 refine ⟨_,⟨⟨rfl,rfl,trivial⟩,app_get H [z55,z57,z59] 2⟩,?_⟩
 conv=>whnf
 apply Exists.intro
 apply And.intro
 focus
  conv=>whnf
  ((conv in (_[_]?)=>tactic=>exact app_get H [z55,z57,z59] 0);(conv=>whnf))
  conv=>whnf
  exact ⟨rfl,app_set H [z55,z57,z59] 0 (PObj.mk 64 (m.tgs.map dem) 1),trivial⟩
 conv=>whnf
 apply Exists.intro
 apply And.intro
 focus
  conv=>whnf
  ((conv in (_[_]?)=>tactic=>exact app_get H [PObj.mk 64 (m.tgs.map dem) 1,z57,z59] 1);(conv=>whnf))
  conv=>whnf
  exact ⟨rfl,app_set H [PObj.mk 64 (m.tgs.map dem) 1,z57,z59] 1 (PObj.mk 30 (m.rep.map dem) 1),trivial⟩
 conv=>whnf
 apply Exists.intro
 apply And.intro
 focus
  conv=>whnf
  ((conv in (_[_]?)=>tactic=>exact app_get H [PObj.mk 64 (m.tgs.map dem) 1,PObj.mk 30 (m.rep.map dem) 1,z59] 2);(conv=>whnf))
  conv=>whnf
  exact ⟨rfl,app_set H [PObj.mk 64 (m.tgs.map dem) 1,PObj.mk 30 (m.rep.map dem) 1,z59] 2 (PObj.mk 98 (m.ap.map dem) 1),trivial⟩
 conv=>whnf
 by_cases h1:m.kind=1
 ·have hk:=h1
  have n2:¬m.kind=2:=by omega
  have n3:¬m.kind=3:=by omega
  have n4:¬m.kind=4:=by omega
  have n5:¬m.kind=5:=by omega
  have e1:decide (m.kind=1)=true:=decide_eq_true hk
  have e2:decide (m.kind=2)=false:=decide_eq_false n2
  have e3:decide (m.kind=3)=false:=decide_eq_false n3
  have e4:decide (m.kind=4)=false:=decide_eq_false n4
  have e5:decide (m.kind=5)=false:=decide_eq_false n5
  refine ⟨fun h=>?_,fun h=>?_⟩
  rotate_left
  ·exact (h hk).elim
  conv=>whnf
  refine ⟨fun h=>?_,fun h=>?_⟩
  ·exact (n2 h).elim
  conv=>whnf
  ((conv in (_[_]?)=>tactic=>exact app_get H [PObj.mk 64 (m.tgs.map dem) 1,PObj.mk 30 (m.rep.map dem) 1,PObj.mk 98 (m.ap.map dem) 1] 0);(conv=>whnf))
  refine cP (c218 m.t1 m.t2 m.tKv m.tB none) ?_
  cases f1:noTk m.t1 m.t2 m.tKv m.tB.length
  ·conv=>whnf
   exact ⟨congrArg PV.bool (by unfold othersB noTgs noRep noAp noFail;simp only [e1,e2,e3,e4,e5,f1,Bool.and_true,Bool.true_and,Bool.or_false,Bool.false_or,Bool.true_or,Bool.or_true,Bool.and_false,Bool.false_and]),_,rfl⟩
  conv=>whnf
  ((conv in (_[_]?)=>tactic=>exact app_get H [PObj.mk 64 (m.tgs.map dem) 1,PObj.mk 30 (m.rep.map dem) 1,PObj.mk 98 (m.ap.map dem) 1] 0);(conv=>whnf))
  refine ⟨fun h=>?_,fun h=>?_⟩
  rotate_left
  ·have f2:decide (m.tAu.length=0)=false:=decide_eq_false fun hh=>h (Iff.mpr nat0 hh)
   conv=>whnf
   exact ⟨congrArg PV.bool (by unfold othersB noTgs noRep noAp noFail;simp only [e1,e2,e3,e4,e5,f1,f2,Bool.and_true,Bool.true_and,Bool.or_false,Bool.false_or,Bool.true_or,Bool.or_true,Bool.and_false,Bool.false_and]),_,rfl⟩
  have f2:decide (m.tAu.length=0)=true:=decide_eq_true (Iff.mp nat0 h)
  conv=>whnf
  ((conv in (_[_]?)=>tactic=>exact app_get H [PObj.mk 64 (m.tgs.map dem) 1,PObj.mk 30 (m.rep.map dem) 1,PObj.mk 98 (m.ap.map dem) 1] 0);(conv=>whnf))
  refine ⟨⟨fitG _ _,fitG [] []⟩,?_⟩
  conv=>whnf
  refine ⟨fun h=>?_,fun h=>?_⟩
  rotate_left
  ·have f3:decide (m.t3=[]∧m.t4=[])=false:=decide_eq_false fun hh=>h (Iff.mpr pr_eq hh)
   conv=>whnf
   exact ⟨congrArg PV.bool (by unfold othersB noTgs noRep noAp noFail;simp only [e1,e2,e3,e4,e5,f1,f2,f3,Bool.and_true,Bool.true_and,Bool.or_false,Bool.false_or,Bool.true_or,Bool.or_true,Bool.and_false,Bool.false_and]),_,rfl⟩
  have f3:decide (m.t3=[]∧m.t4=[])=true:=decide_eq_true (Iff.mp pr_eq h)
  conv=>whnf
  ((conv in (_[_]?)=>tactic=>exact app_get H [PObj.mk 64 (m.tgs.map dem) 1,PObj.mk 30 (m.rep.map dem) 1,PObj.mk 98 (m.ap.map dem) 1] 0);(conv=>whnf))
  refine ⟨fun h=>?_,fun h=>?_⟩
  rotate_left
  ·have f4:decide (m.tTill=0)=false:=decide_eq_false fun hh=>h (Iff.mpr Iff.rfl hh)
   conv=>whnf
   exact ⟨congrArg PV.bool (by unfold othersB noTgs noRep noAp noFail;simp only [e1,e2,e3,e4,e5,f1,f2,f3,f4,Bool.and_true,Bool.true_and,Bool.or_false,Bool.false_or,Bool.true_or,Bool.or_true,Bool.and_false,Bool.false_and]),_,rfl⟩
  have f4:decide (m.tTill=0)=true:=decide_eq_true (Iff.mp Iff.rfl h)
  conv=>whnf
  ((conv in (_[_]?)=>tactic=>exact app_get H [PObj.mk 64 (m.tgs.map dem) 1,PObj.mk 30 (m.rep.map dem) 1,PObj.mk 98 (m.ap.map dem) 1] 0);(conv=>whnf))
  refine ⟨fun h=>?_,fun h=>?_⟩
  rotate_left
  ·have f5:decide (m.tNonce=0)=false:=decide_eq_false fun hh=>h (Iff.mpr Iff.rfl hh)
   conv=>whnf
   exact ⟨congrArg PV.bool (by unfold othersB noTgs noRep noAp noFail;simp only [e1,e2,e3,e4,e5,f1,f2,f3,f4,f5,Bool.and_true,Bool.true_and,Bool.or_false,Bool.false_or,Bool.true_or,Bool.or_true,Bool.and_false,Bool.false_and]),_,rfl⟩
  have f5:decide (m.tNonce=0)=true:=decide_eq_true (Iff.mp Iff.rfl h)
  conv=>whnf
  refine ⟨fun h=>?_,fun h=>?_⟩
  ·exact (n3 h).elim
  conv=>whnf
  ((conv in (_[_]?)=>tactic=>exact app_get H [PObj.mk 64 (m.tgs.map dem) 1,PObj.mk 30 (m.rep.map dem) 1,PObj.mk 98 (m.ap.map dem) 1] 1);(conv=>whnf))
  refine ⟨⟨fitG _ _,fitG [] []⟩,?_⟩
  conv=>whnf
  refine ⟨fun h=>?_,fun h=>?_⟩
  rotate_left
  ·have f6:decide (m.r1=[]∧m.r2=[])=false:=decide_eq_false fun hh=>h (Iff.mpr pr_eq hh)
   conv=>whnf
   exact ⟨congrArg PV.bool (by unfold othersB noTgs noRep noAp noFail;simp only [e1,e2,e3,e4,e5,f1,f2,f3,f4,f5,f6,Bool.and_true,Bool.true_and,Bool.or_false,Bool.false_or,Bool.true_or,Bool.or_true,Bool.and_false,Bool.false_and]),_,rfl⟩
  have f6:decide (m.r1=[]∧m.r2=[])=true:=decide_eq_true (Iff.mp pr_eq h)
  conv=>whnf
  ((conv in (_[_]?)=>tactic=>exact app_get H [PObj.mk 64 (m.tgs.map dem) 1,PObj.mk 30 (m.rep.map dem) 1,PObj.mk 98 (m.ap.map dem) 1] 1);(conv=>whnf))
  refine cP (c218 m.r3 m.r4 m.rKv m.rB none) ?_
  cases f7:noTk m.r3 m.r4 m.rKv m.rB.length
  ·conv=>whnf
   exact ⟨congrArg PV.bool (by unfold othersB noTgs noRep noAp noFail;simp only [e1,e2,e3,e4,e5,f1,f2,f3,f4,f5,f6,f7,Bool.and_true,Bool.true_and,Bool.or_false,Bool.false_or,Bool.true_or,Bool.or_true,Bool.and_false,Bool.false_and]),_,rfl⟩
  conv=>whnf
  ((conv in (_[_]?)=>tactic=>exact app_get H [PObj.mk 64 (m.tgs.map dem) 1,PObj.mk 30 (m.rep.map dem) 1,PObj.mk 98 (m.ap.map dem) 1] 1);(conv=>whnf))
  refine ⟨fun h=>?_,fun h=>?_⟩
  rotate_left
  ·have f8:decide (m.rBl.length=0)=false:=decide_eq_false fun hh=>h (Iff.mpr nat0 hh)
   conv=>whnf
   exact ⟨congrArg PV.bool (by unfold othersB noTgs noRep noAp noFail;simp only [e1,e2,e3,e4,e5,f1,f2,f3,f4,f5,f6,f7,f8,Bool.and_true,Bool.true_and,Bool.or_false,Bool.false_or,Bool.true_or,Bool.or_true,Bool.and_false,Bool.false_and]),_,rfl⟩
  have f8:decide (m.rBl.length=0)=true:=decide_eq_true (Iff.mp nat0 h)
  conv=>whnf
  refine ⟨fun h=>?_,fun h=>?_⟩
  ·exact (n4 h).elim
  conv=>whnf
  ((conv in (_[_]?)=>tactic=>exact app_get H [PObj.mk 64 (m.tgs.map dem) 1,PObj.mk 30 (m.rep.map dem) 1,PObj.mk 98 (m.ap.map dem) 1] 2);(conv=>whnf))
  refine cP (c218 m.p1 m.p2 m.pKv m.pB none) ?_
  cases f9:noTk m.p1 m.p2 m.pKv m.pB.length
  ·conv=>whnf
   exact ⟨congrArg PV.bool (by unfold othersB noTgs noRep noAp noFail;simp only [e1,e2,e3,e4,e5,f1,f2,f3,f4,f5,f6,f7,f8,f9,Bool.and_true,Bool.true_and,Bool.or_false,Bool.false_or,Bool.true_or,Bool.or_true,Bool.and_false,Bool.false_and]),_,rfl⟩
  conv=>whnf
  ((conv in (_[_]?)=>tactic=>exact app_get H [PObj.mk 64 (m.tgs.map dem) 1,PObj.mk 30 (m.rep.map dem) 1,PObj.mk 98 (m.ap.map dem) 1] 2);(conv=>whnf))
  refine ⟨fun h=>?_,fun h=>?_⟩
  rotate_left
  ·have f10:decide (m.pAu.length=0)=false:=decide_eq_false fun hh=>h (Iff.mpr nat0 hh)
   conv=>whnf
   exact ⟨congrArg PV.bool (by unfold othersB noTgs noRep noAp noFail;simp only [e1,e2,e3,e4,e5,f1,f2,f3,f4,f5,f6,f7,f8,f9,f10,Bool.and_true,Bool.true_and,Bool.or_false,Bool.false_or,Bool.true_or,Bool.or_true,Bool.and_false,Bool.false_and]),_,rfl⟩
  have f10:decide (m.pAu.length=0)=true:=decide_eq_true (Iff.mp nat0 h)
  conv=>whnf
  refine ⟨fun h=>?_,fun h=>?_⟩
  ·exact (n5 h).elim
  conv=>whnf
  refine ⟨⟨fitF _ _,fitF 0 0⟩,?_⟩
  conv=>whnf
  refine ⟨fun h=>?_,fun h=>?_⟩
  rotate_left
  ·have f11:decide (m.fErr=0∧m.fNonce=0)=false:=decide_eq_false fun hh=>h (Iff.mpr fl_eq hh)
   conv=>whnf
   exact ⟨congrArg PV.bool (by unfold othersB noTgs noRep noAp noFail;simp only [e1,e2,e3,e4,e5,f1,f2,f3,f4,f5,f6,f7,f8,f9,f10,f11,Bool.and_true,Bool.true_and,Bool.or_false,Bool.false_or,Bool.true_or,Bool.or_true,Bool.and_false,Bool.false_and]),_,rfl⟩
  have f11:decide (m.fErr=0∧m.fNonce=0)=true:=decide_eq_true (Iff.mp fl_eq h)
  conv=>whnf
  exact ⟨congrArg PV.bool (by unfold othersB noTgs noRep noAp noFail;simp only [e1,e2,e3,e4,e5,f1,f2,f3,f4,f5,f6,f7,f8,f9,f10,f11,Bool.and_true,Bool.true_and,Bool.or_false,Bool.false_or,Bool.true_or,Bool.or_true,Bool.and_false,Bool.false_and]),_,rfl⟩
 by_cases h2:m.kind=2
 ·have hk:=h2
  have n1:¬m.kind=1:=by omega
  have n3:¬m.kind=3:=by omega
  have n4:¬m.kind=4:=by omega
  have n5:¬m.kind=5:=by omega
  have e1:decide (m.kind=1)=false:=decide_eq_false n1
  have e2:decide (m.kind=2)=true:=decide_eq_true hk
  have e3:decide (m.kind=3)=false:=decide_eq_false n3
  have e4:decide (m.kind=4)=false:=decide_eq_false n4
  have e5:decide (m.kind=5)=false:=decide_eq_false n5
  refine ⟨fun h=>?_,fun h=>?_⟩
  ·exact (n1 h).elim
  conv=>whnf
  refine ⟨⟨fitA _ _ _ _ _ _,fitA [] [] [] [] 0 0⟩,?_⟩
  conv=>whnf
  refine ⟨fun h=>?_,fun h=>?_⟩
  rotate_left
  ·have f12:noAs m=false:=decide_eq_false fun hh=>h (Iff.mpr as_eq hh)
   conv=>whnf
   exact ⟨congrArg PV.bool (by unfold othersB noTgs noRep noAp noFail;simp only [e1,e2,e3,e4,e5,f12,Bool.and_true,Bool.true_and,Bool.or_false,Bool.false_or,Bool.true_or,Bool.or_true,Bool.and_false,Bool.false_and]),_,rfl⟩
  have f12:noAs m=true:=decide_eq_true (Iff.mp as_eq h)
  conv=>whnf
  refine ⟨fun h=>?_,fun h=>?_⟩
  rotate_left
  ·exact (h hk).elim
  conv=>whnf
  refine ⟨fun h=>?_,fun h=>?_⟩
  ·exact (n3 h).elim
  conv=>whnf
  ((conv in (_[_]?)=>tactic=>exact app_get H [PObj.mk 64 (m.tgs.map dem) 1,PObj.mk 30 (m.rep.map dem) 1,PObj.mk 98 (m.ap.map dem) 1] 1);(conv=>whnf))
  refine ⟨⟨fitG _ _,fitG [] []⟩,?_⟩
  conv=>whnf
  refine ⟨fun h=>?_,fun h=>?_⟩
  rotate_left
  ·have f13:decide (m.r1=[]∧m.r2=[])=false:=decide_eq_false fun hh=>h (Iff.mpr pr_eq hh)
   conv=>whnf
   exact ⟨congrArg PV.bool (by unfold othersB noTgs noRep noAp noFail;simp only [e1,e2,e3,e4,e5,f12,f13,Bool.and_true,Bool.true_and,Bool.or_false,Bool.false_or,Bool.true_or,Bool.or_true,Bool.and_false,Bool.false_and]),_,rfl⟩
  have f13:decide (m.r1=[]∧m.r2=[])=true:=decide_eq_true (Iff.mp pr_eq h)
  conv=>whnf
  ((conv in (_[_]?)=>tactic=>exact app_get H [PObj.mk 64 (m.tgs.map dem) 1,PObj.mk 30 (m.rep.map dem) 1,PObj.mk 98 (m.ap.map dem) 1] 1);(conv=>whnf))
  refine cP (c218 m.r3 m.r4 m.rKv m.rB none) ?_
  cases f14:noTk m.r3 m.r4 m.rKv m.rB.length
  ·conv=>whnf
   exact ⟨congrArg PV.bool (by unfold othersB noTgs noRep noAp noFail;simp only [e1,e2,e3,e4,e5,f12,f13,f14,Bool.and_true,Bool.true_and,Bool.or_false,Bool.false_or,Bool.true_or,Bool.or_true,Bool.and_false,Bool.false_and]),_,rfl⟩
  conv=>whnf
  ((conv in (_[_]?)=>tactic=>exact app_get H [PObj.mk 64 (m.tgs.map dem) 1,PObj.mk 30 (m.rep.map dem) 1,PObj.mk 98 (m.ap.map dem) 1] 1);(conv=>whnf))
  refine ⟨fun h=>?_,fun h=>?_⟩
  rotate_left
  ·have f15:decide (m.rBl.length=0)=false:=decide_eq_false fun hh=>h (Iff.mpr nat0 hh)
   conv=>whnf
   exact ⟨congrArg PV.bool (by unfold othersB noTgs noRep noAp noFail;simp only [e1,e2,e3,e4,e5,f12,f13,f14,f15,Bool.and_true,Bool.true_and,Bool.or_false,Bool.false_or,Bool.true_or,Bool.or_true,Bool.and_false,Bool.false_and]),_,rfl⟩
  have f15:decide (m.rBl.length=0)=true:=decide_eq_true (Iff.mp nat0 h)
  conv=>whnf
  refine ⟨fun h=>?_,fun h=>?_⟩
  ·exact (n4 h).elim
  conv=>whnf
  ((conv in (_[_]?)=>tactic=>exact app_get H [PObj.mk 64 (m.tgs.map dem) 1,PObj.mk 30 (m.rep.map dem) 1,PObj.mk 98 (m.ap.map dem) 1] 2);(conv=>whnf))
  refine cP (c218 m.p1 m.p2 m.pKv m.pB none) ?_
  cases f16:noTk m.p1 m.p2 m.pKv m.pB.length
  ·conv=>whnf
   exact ⟨congrArg PV.bool (by unfold othersB noTgs noRep noAp noFail;simp only [e1,e2,e3,e4,e5,f12,f13,f14,f15,f16,Bool.and_true,Bool.true_and,Bool.or_false,Bool.false_or,Bool.true_or,Bool.or_true,Bool.and_false,Bool.false_and]),_,rfl⟩
  conv=>whnf
  ((conv in (_[_]?)=>tactic=>exact app_get H [PObj.mk 64 (m.tgs.map dem) 1,PObj.mk 30 (m.rep.map dem) 1,PObj.mk 98 (m.ap.map dem) 1] 2);(conv=>whnf))
  refine ⟨fun h=>?_,fun h=>?_⟩
  rotate_left
  ·have f17:decide (m.pAu.length=0)=false:=decide_eq_false fun hh=>h (Iff.mpr nat0 hh)
   conv=>whnf
   exact ⟨congrArg PV.bool (by unfold othersB noTgs noRep noAp noFail;simp only [e1,e2,e3,e4,e5,f12,f13,f14,f15,f16,f17,Bool.and_true,Bool.true_and,Bool.or_false,Bool.false_or,Bool.true_or,Bool.or_true,Bool.and_false,Bool.false_and]),_,rfl⟩
  have f17:decide (m.pAu.length=0)=true:=decide_eq_true (Iff.mp nat0 h)
  conv=>whnf
  refine ⟨fun h=>?_,fun h=>?_⟩
  ·exact (n5 h).elim
  conv=>whnf
  refine ⟨⟨fitF _ _,fitF 0 0⟩,?_⟩
  conv=>whnf
  refine ⟨fun h=>?_,fun h=>?_⟩
  rotate_left
  ·have f18:decide (m.fErr=0∧m.fNonce=0)=false:=decide_eq_false fun hh=>h (Iff.mpr fl_eq hh)
   conv=>whnf
   exact ⟨congrArg PV.bool (by unfold othersB noTgs noRep noAp noFail;simp only [e1,e2,e3,e4,e5,f12,f13,f14,f15,f16,f17,f18,Bool.and_true,Bool.true_and,Bool.or_false,Bool.false_or,Bool.true_or,Bool.or_true,Bool.and_false,Bool.false_and]),_,rfl⟩
  have f18:decide (m.fErr=0∧m.fNonce=0)=true:=decide_eq_true (Iff.mp fl_eq h)
  conv=>whnf
  exact ⟨congrArg PV.bool (by unfold othersB noTgs noRep noAp noFail;simp only [e1,e2,e3,e4,e5,f12,f13,f14,f15,f16,f17,f18,Bool.and_true,Bool.true_and,Bool.or_false,Bool.false_or,Bool.true_or,Bool.or_true,Bool.and_false,Bool.false_and]),_,rfl⟩
 by_cases h3:m.kind=3
 ·have hk:=h3
  have n1:¬m.kind=1:=by omega
  have n2:¬m.kind=2:=by omega
  have n4:¬m.kind=4:=by omega
  have n5:¬m.kind=5:=by omega
  have e1:decide (m.kind=1)=false:=decide_eq_false n1
  have e2:decide (m.kind=2)=false:=decide_eq_false n2
  have e3:decide (m.kind=3)=true:=decide_eq_true hk
  have e4:decide (m.kind=4)=false:=decide_eq_false n4
  have e5:decide (m.kind=5)=false:=decide_eq_false n5
  refine ⟨fun h=>?_,fun h=>?_⟩
  ·exact (n1 h).elim
  conv=>whnf
  refine ⟨⟨fitA _ _ _ _ _ _,fitA [] [] [] [] 0 0⟩,?_⟩
  conv=>whnf
  refine ⟨fun h=>?_,fun h=>?_⟩
  rotate_left
  ·have f19:noAs m=false:=decide_eq_false fun hh=>h (Iff.mpr as_eq hh)
   conv=>whnf
   exact ⟨congrArg PV.bool (by unfold othersB noTgs noRep noAp noFail;simp only [e1,e2,e3,e4,e5,f19,Bool.and_true,Bool.true_and,Bool.or_false,Bool.false_or,Bool.true_or,Bool.or_true,Bool.and_false,Bool.false_and]),_,rfl⟩
  have f19:noAs m=true:=decide_eq_true (Iff.mp as_eq h)
  conv=>whnf
  refine ⟨fun h=>?_,fun h=>?_⟩
  ·exact (n2 h).elim
  conv=>whnf
  ((conv in (_[_]?)=>tactic=>exact app_get H [PObj.mk 64 (m.tgs.map dem) 1,PObj.mk 30 (m.rep.map dem) 1,PObj.mk 98 (m.ap.map dem) 1] 0);(conv=>whnf))
  refine cP (c218 m.t1 m.t2 m.tKv m.tB none) ?_
  cases f20:noTk m.t1 m.t2 m.tKv m.tB.length
  ·conv=>whnf
   exact ⟨congrArg PV.bool (by unfold othersB noTgs noRep noAp noFail;simp only [e1,e2,e3,e4,e5,f19,f20,Bool.and_true,Bool.true_and,Bool.or_false,Bool.false_or,Bool.true_or,Bool.or_true,Bool.and_false,Bool.false_and]),_,rfl⟩
  conv=>whnf
  ((conv in (_[_]?)=>tactic=>exact app_get H [PObj.mk 64 (m.tgs.map dem) 1,PObj.mk 30 (m.rep.map dem) 1,PObj.mk 98 (m.ap.map dem) 1] 0);(conv=>whnf))
  refine ⟨fun h=>?_,fun h=>?_⟩
  rotate_left
  ·have f21:decide (m.tAu.length=0)=false:=decide_eq_false fun hh=>h (Iff.mpr nat0 hh)
   conv=>whnf
   exact ⟨congrArg PV.bool (by unfold othersB noTgs noRep noAp noFail;simp only [e1,e2,e3,e4,e5,f19,f20,f21,Bool.and_true,Bool.true_and,Bool.or_false,Bool.false_or,Bool.true_or,Bool.or_true,Bool.and_false,Bool.false_and]),_,rfl⟩
  have f21:decide (m.tAu.length=0)=true:=decide_eq_true (Iff.mp nat0 h)
  conv=>whnf
  ((conv in (_[_]?)=>tactic=>exact app_get H [PObj.mk 64 (m.tgs.map dem) 1,PObj.mk 30 (m.rep.map dem) 1,PObj.mk 98 (m.ap.map dem) 1] 0);(conv=>whnf))
  refine ⟨⟨fitG _ _,fitG [] []⟩,?_⟩
  conv=>whnf
  refine ⟨fun h=>?_,fun h=>?_⟩
  rotate_left
  ·have f22:decide (m.t3=[]∧m.t4=[])=false:=decide_eq_false fun hh=>h (Iff.mpr pr_eq hh)
   conv=>whnf
   exact ⟨congrArg PV.bool (by unfold othersB noTgs noRep noAp noFail;simp only [e1,e2,e3,e4,e5,f19,f20,f21,f22,Bool.and_true,Bool.true_and,Bool.or_false,Bool.false_or,Bool.true_or,Bool.or_true,Bool.and_false,Bool.false_and]),_,rfl⟩
  have f22:decide (m.t3=[]∧m.t4=[])=true:=decide_eq_true (Iff.mp pr_eq h)
  conv=>whnf
  ((conv in (_[_]?)=>tactic=>exact app_get H [PObj.mk 64 (m.tgs.map dem) 1,PObj.mk 30 (m.rep.map dem) 1,PObj.mk 98 (m.ap.map dem) 1] 0);(conv=>whnf))
  refine ⟨fun h=>?_,fun h=>?_⟩
  rotate_left
  ·have f23:decide (m.tTill=0)=false:=decide_eq_false fun hh=>h (Iff.mpr Iff.rfl hh)
   conv=>whnf
   exact ⟨congrArg PV.bool (by unfold othersB noTgs noRep noAp noFail;simp only [e1,e2,e3,e4,e5,f19,f20,f21,f22,f23,Bool.and_true,Bool.true_and,Bool.or_false,Bool.false_or,Bool.true_or,Bool.or_true,Bool.and_false,Bool.false_and]),_,rfl⟩
  have f23:decide (m.tTill=0)=true:=decide_eq_true (Iff.mp Iff.rfl h)
  conv=>whnf
  ((conv in (_[_]?)=>tactic=>exact app_get H [PObj.mk 64 (m.tgs.map dem) 1,PObj.mk 30 (m.rep.map dem) 1,PObj.mk 98 (m.ap.map dem) 1] 0);(conv=>whnf))
  refine ⟨fun h=>?_,fun h=>?_⟩
  rotate_left
  ·have f24:decide (m.tNonce=0)=false:=decide_eq_false fun hh=>h (Iff.mpr Iff.rfl hh)
   conv=>whnf
   exact ⟨congrArg PV.bool (by unfold othersB noTgs noRep noAp noFail;simp only [e1,e2,e3,e4,e5,f19,f20,f21,f22,f23,f24,Bool.and_true,Bool.true_and,Bool.or_false,Bool.false_or,Bool.true_or,Bool.or_true,Bool.and_false,Bool.false_and]),_,rfl⟩
  have f24:decide (m.tNonce=0)=true:=decide_eq_true (Iff.mp Iff.rfl h)
  conv=>whnf
  refine ⟨fun h=>?_,fun h=>?_⟩
  rotate_left
  ·exact (h hk).elim
  conv=>whnf
  refine ⟨fun h=>?_,fun h=>?_⟩
  ·exact (n4 h).elim
  conv=>whnf
  ((conv in (_[_]?)=>tactic=>exact app_get H [PObj.mk 64 (m.tgs.map dem) 1,PObj.mk 30 (m.rep.map dem) 1,PObj.mk 98 (m.ap.map dem) 1] 2);(conv=>whnf))
  refine cP (c218 m.p1 m.p2 m.pKv m.pB none) ?_
  cases f25:noTk m.p1 m.p2 m.pKv m.pB.length
  ·conv=>whnf
   exact ⟨congrArg PV.bool (by unfold othersB noTgs noRep noAp noFail;simp only [e1,e2,e3,e4,e5,f19,f20,f21,f22,f23,f24,f25,Bool.and_true,Bool.true_and,Bool.or_false,Bool.false_or,Bool.true_or,Bool.or_true,Bool.and_false,Bool.false_and]),_,rfl⟩
  conv=>whnf
  ((conv in (_[_]?)=>tactic=>exact app_get H [PObj.mk 64 (m.tgs.map dem) 1,PObj.mk 30 (m.rep.map dem) 1,PObj.mk 98 (m.ap.map dem) 1] 2);(conv=>whnf))
  refine ⟨fun h=>?_,fun h=>?_⟩
  rotate_left
  ·have f26:decide (m.pAu.length=0)=false:=decide_eq_false fun hh=>h (Iff.mpr nat0 hh)
   conv=>whnf
   exact ⟨congrArg PV.bool (by unfold othersB noTgs noRep noAp noFail;simp only [e1,e2,e3,e4,e5,f19,f20,f21,f22,f23,f24,f25,f26,Bool.and_true,Bool.true_and,Bool.or_false,Bool.false_or,Bool.true_or,Bool.or_true,Bool.and_false,Bool.false_and]),_,rfl⟩
  have f26:decide (m.pAu.length=0)=true:=decide_eq_true (Iff.mp nat0 h)
  conv=>whnf
  refine ⟨fun h=>?_,fun h=>?_⟩
  ·exact (n5 h).elim
  conv=>whnf
  refine ⟨⟨fitF _ _,fitF 0 0⟩,?_⟩
  conv=>whnf
  refine ⟨fun h=>?_,fun h=>?_⟩
  rotate_left
  ·have f27:decide (m.fErr=0∧m.fNonce=0)=false:=decide_eq_false fun hh=>h (Iff.mpr fl_eq hh)
   conv=>whnf
   exact ⟨congrArg PV.bool (by unfold othersB noTgs noRep noAp noFail;simp only [e1,e2,e3,e4,e5,f19,f20,f21,f22,f23,f24,f25,f26,f27,Bool.and_true,Bool.true_and,Bool.or_false,Bool.false_or,Bool.true_or,Bool.or_true,Bool.and_false,Bool.false_and]),_,rfl⟩
  have f27:decide (m.fErr=0∧m.fNonce=0)=true:=decide_eq_true (Iff.mp fl_eq h)
  conv=>whnf
  exact ⟨congrArg PV.bool (by unfold othersB noTgs noRep noAp noFail;simp only [e1,e2,e3,e4,e5,f19,f20,f21,f22,f23,f24,f25,f26,f27,Bool.and_true,Bool.true_and,Bool.or_false,Bool.false_or,Bool.true_or,Bool.or_true,Bool.and_false,Bool.false_and]),_,rfl⟩
 by_cases h4:m.kind=4
 ·have hk:=h4
  have n1:¬m.kind=1:=by omega
  have n2:¬m.kind=2:=by omega
  have n3:¬m.kind=3:=by omega
  have n5:¬m.kind=5:=by omega
  have e1:decide (m.kind=1)=false:=decide_eq_false n1
  have e2:decide (m.kind=2)=false:=decide_eq_false n2
  have e3:decide (m.kind=3)=false:=decide_eq_false n3
  have e4:decide (m.kind=4)=true:=decide_eq_true hk
  have e5:decide (m.kind=5)=false:=decide_eq_false n5
  refine ⟨fun h=>?_,fun h=>?_⟩
  ·exact (n1 h).elim
  conv=>whnf
  refine ⟨⟨fitA _ _ _ _ _ _,fitA [] [] [] [] 0 0⟩,?_⟩
  conv=>whnf
  refine ⟨fun h=>?_,fun h=>?_⟩
  rotate_left
  ·have f28:noAs m=false:=decide_eq_false fun hh=>h (Iff.mpr as_eq hh)
   conv=>whnf
   exact ⟨congrArg PV.bool (by unfold othersB noTgs noRep noAp noFail;simp only [e1,e2,e3,e4,e5,f28,Bool.and_true,Bool.true_and,Bool.or_false,Bool.false_or,Bool.true_or,Bool.or_true,Bool.and_false,Bool.false_and]),_,rfl⟩
  have f28:noAs m=true:=decide_eq_true (Iff.mp as_eq h)
  conv=>whnf
  refine ⟨fun h=>?_,fun h=>?_⟩
  ·exact (n2 h).elim
  conv=>whnf
  ((conv in (_[_]?)=>tactic=>exact app_get H [PObj.mk 64 (m.tgs.map dem) 1,PObj.mk 30 (m.rep.map dem) 1,PObj.mk 98 (m.ap.map dem) 1] 0);(conv=>whnf))
  refine cP (c218 m.t1 m.t2 m.tKv m.tB none) ?_
  cases f29:noTk m.t1 m.t2 m.tKv m.tB.length
  ·conv=>whnf
   exact ⟨congrArg PV.bool (by unfold othersB noTgs noRep noAp noFail;simp only [e1,e2,e3,e4,e5,f28,f29,Bool.and_true,Bool.true_and,Bool.or_false,Bool.false_or,Bool.true_or,Bool.or_true,Bool.and_false,Bool.false_and]),_,rfl⟩
  conv=>whnf
  ((conv in (_[_]?)=>tactic=>exact app_get H [PObj.mk 64 (m.tgs.map dem) 1,PObj.mk 30 (m.rep.map dem) 1,PObj.mk 98 (m.ap.map dem) 1] 0);(conv=>whnf))
  refine ⟨fun h=>?_,fun h=>?_⟩
  rotate_left
  ·have f30:decide (m.tAu.length=0)=false:=decide_eq_false fun hh=>h (Iff.mpr nat0 hh)
   conv=>whnf
   exact ⟨congrArg PV.bool (by unfold othersB noTgs noRep noAp noFail;simp only [e1,e2,e3,e4,e5,f28,f29,f30,Bool.and_true,Bool.true_and,Bool.or_false,Bool.false_or,Bool.true_or,Bool.or_true,Bool.and_false,Bool.false_and]),_,rfl⟩
  have f30:decide (m.tAu.length=0)=true:=decide_eq_true (Iff.mp nat0 h)
  conv=>whnf
  ((conv in (_[_]?)=>tactic=>exact app_get H [PObj.mk 64 (m.tgs.map dem) 1,PObj.mk 30 (m.rep.map dem) 1,PObj.mk 98 (m.ap.map dem) 1] 0);(conv=>whnf))
  refine ⟨⟨fitG _ _,fitG [] []⟩,?_⟩
  conv=>whnf
  refine ⟨fun h=>?_,fun h=>?_⟩
  rotate_left
  ·have f31:decide (m.t3=[]∧m.t4=[])=false:=decide_eq_false fun hh=>h (Iff.mpr pr_eq hh)
   conv=>whnf
   exact ⟨congrArg PV.bool (by unfold othersB noTgs noRep noAp noFail;simp only [e1,e2,e3,e4,e5,f28,f29,f30,f31,Bool.and_true,Bool.true_and,Bool.or_false,Bool.false_or,Bool.true_or,Bool.or_true,Bool.and_false,Bool.false_and]),_,rfl⟩
  have f31:decide (m.t3=[]∧m.t4=[])=true:=decide_eq_true (Iff.mp pr_eq h)
  conv=>whnf
  ((conv in (_[_]?)=>tactic=>exact app_get H [PObj.mk 64 (m.tgs.map dem) 1,PObj.mk 30 (m.rep.map dem) 1,PObj.mk 98 (m.ap.map dem) 1] 0);(conv=>whnf))
  refine ⟨fun h=>?_,fun h=>?_⟩
  rotate_left
  ·have f32:decide (m.tTill=0)=false:=decide_eq_false fun hh=>h (Iff.mpr Iff.rfl hh)
   conv=>whnf
   exact ⟨congrArg PV.bool (by unfold othersB noTgs noRep noAp noFail;simp only [e1,e2,e3,e4,e5,f28,f29,f30,f31,f32,Bool.and_true,Bool.true_and,Bool.or_false,Bool.false_or,Bool.true_or,Bool.or_true,Bool.and_false,Bool.false_and]),_,rfl⟩
  have f32:decide (m.tTill=0)=true:=decide_eq_true (Iff.mp Iff.rfl h)
  conv=>whnf
  ((conv in (_[_]?)=>tactic=>exact app_get H [PObj.mk 64 (m.tgs.map dem) 1,PObj.mk 30 (m.rep.map dem) 1,PObj.mk 98 (m.ap.map dem) 1] 0);(conv=>whnf))
  refine ⟨fun h=>?_,fun h=>?_⟩
  rotate_left
  ·have f33:decide (m.tNonce=0)=false:=decide_eq_false fun hh=>h (Iff.mpr Iff.rfl hh)
   conv=>whnf
   exact ⟨congrArg PV.bool (by unfold othersB noTgs noRep noAp noFail;simp only [e1,e2,e3,e4,e5,f28,f29,f30,f31,f32,f33,Bool.and_true,Bool.true_and,Bool.or_false,Bool.false_or,Bool.true_or,Bool.or_true,Bool.and_false,Bool.false_and]),_,rfl⟩
  have f33:decide (m.tNonce=0)=true:=decide_eq_true (Iff.mp Iff.rfl h)
  conv=>whnf
  refine ⟨fun h=>?_,fun h=>?_⟩
  ·exact (n3 h).elim
  conv=>whnf
  ((conv in (_[_]?)=>tactic=>exact app_get H [PObj.mk 64 (m.tgs.map dem) 1,PObj.mk 30 (m.rep.map dem) 1,PObj.mk 98 (m.ap.map dem) 1] 1);(conv=>whnf))
  refine ⟨⟨fitG _ _,fitG [] []⟩,?_⟩
  conv=>whnf
  refine ⟨fun h=>?_,fun h=>?_⟩
  rotate_left
  ·have f34:decide (m.r1=[]∧m.r2=[])=false:=decide_eq_false fun hh=>h (Iff.mpr pr_eq hh)
   conv=>whnf
   exact ⟨congrArg PV.bool (by unfold othersB noTgs noRep noAp noFail;simp only [e1,e2,e3,e4,e5,f28,f29,f30,f31,f32,f33,f34,Bool.and_true,Bool.true_and,Bool.or_false,Bool.false_or,Bool.true_or,Bool.or_true,Bool.and_false,Bool.false_and]),_,rfl⟩
  have f34:decide (m.r1=[]∧m.r2=[])=true:=decide_eq_true (Iff.mp pr_eq h)
  conv=>whnf
  ((conv in (_[_]?)=>tactic=>exact app_get H [PObj.mk 64 (m.tgs.map dem) 1,PObj.mk 30 (m.rep.map dem) 1,PObj.mk 98 (m.ap.map dem) 1] 1);(conv=>whnf))
  refine cP (c218 m.r3 m.r4 m.rKv m.rB none) ?_
  cases f35:noTk m.r3 m.r4 m.rKv m.rB.length
  ·conv=>whnf
   exact ⟨congrArg PV.bool (by unfold othersB noTgs noRep noAp noFail;simp only [e1,e2,e3,e4,e5,f28,f29,f30,f31,f32,f33,f34,f35,Bool.and_true,Bool.true_and,Bool.or_false,Bool.false_or,Bool.true_or,Bool.or_true,Bool.and_false,Bool.false_and]),_,rfl⟩
  conv=>whnf
  ((conv in (_[_]?)=>tactic=>exact app_get H [PObj.mk 64 (m.tgs.map dem) 1,PObj.mk 30 (m.rep.map dem) 1,PObj.mk 98 (m.ap.map dem) 1] 1);(conv=>whnf))
  refine ⟨fun h=>?_,fun h=>?_⟩
  rotate_left
  ·have f36:decide (m.rBl.length=0)=false:=decide_eq_false fun hh=>h (Iff.mpr nat0 hh)
   conv=>whnf
   exact ⟨congrArg PV.bool (by unfold othersB noTgs noRep noAp noFail;simp only [e1,e2,e3,e4,e5,f28,f29,f30,f31,f32,f33,f34,f35,f36,Bool.and_true,Bool.true_and,Bool.or_false,Bool.false_or,Bool.true_or,Bool.or_true,Bool.and_false,Bool.false_and]),_,rfl⟩
  have f36:decide (m.rBl.length=0)=true:=decide_eq_true (Iff.mp nat0 h)
  conv=>whnf
  refine ⟨fun h=>?_,fun h=>?_⟩
  rotate_left
  ·exact (h hk).elim
  conv=>whnf
  refine ⟨fun h=>?_,fun h=>?_⟩
  ·exact (n5 h).elim
  conv=>whnf
  refine ⟨⟨fitF _ _,fitF 0 0⟩,?_⟩
  conv=>whnf
  refine ⟨fun h=>?_,fun h=>?_⟩
  rotate_left
  ·have f37:decide (m.fErr=0∧m.fNonce=0)=false:=decide_eq_false fun hh=>h (Iff.mpr fl_eq hh)
   conv=>whnf
   exact ⟨congrArg PV.bool (by unfold othersB noTgs noRep noAp noFail;simp only [e1,e2,e3,e4,e5,f28,f29,f30,f31,f32,f33,f34,f35,f36,f37,Bool.and_true,Bool.true_and,Bool.or_false,Bool.false_or,Bool.true_or,Bool.or_true,Bool.and_false,Bool.false_and]),_,rfl⟩
  have f37:decide (m.fErr=0∧m.fNonce=0)=true:=decide_eq_true (Iff.mp fl_eq h)
  conv=>whnf
  exact ⟨congrArg PV.bool (by unfold othersB noTgs noRep noAp noFail;simp only [e1,e2,e3,e4,e5,f28,f29,f30,f31,f32,f33,f34,f35,f36,f37,Bool.and_true,Bool.true_and,Bool.or_false,Bool.false_or,Bool.true_or,Bool.or_true,Bool.and_false,Bool.false_and]),_,rfl⟩
 by_cases h5:m.kind=5
 ·have hk:=h5
  have n1:¬m.kind=1:=by omega
  have n2:¬m.kind=2:=by omega
  have n3:¬m.kind=3:=by omega
  have n4:¬m.kind=4:=by omega
  have e1:decide (m.kind=1)=false:=decide_eq_false n1
  have e2:decide (m.kind=2)=false:=decide_eq_false n2
  have e3:decide (m.kind=3)=false:=decide_eq_false n3
  have e4:decide (m.kind=4)=false:=decide_eq_false n4
  have e5:decide (m.kind=5)=true:=decide_eq_true hk
  refine ⟨fun h=>?_,fun h=>?_⟩
  ·exact (n1 h).elim
  conv=>whnf
  refine ⟨⟨fitA _ _ _ _ _ _,fitA [] [] [] [] 0 0⟩,?_⟩
  conv=>whnf
  refine ⟨fun h=>?_,fun h=>?_⟩
  rotate_left
  ·have f38:noAs m=false:=decide_eq_false fun hh=>h (Iff.mpr as_eq hh)
   conv=>whnf
   exact ⟨congrArg PV.bool (by unfold othersB noTgs noRep noAp noFail;simp only [e1,e2,e3,e4,e5,f38,Bool.and_true,Bool.true_and,Bool.or_false,Bool.false_or,Bool.true_or,Bool.or_true,Bool.and_false,Bool.false_and]),_,rfl⟩
  have f38:noAs m=true:=decide_eq_true (Iff.mp as_eq h)
  conv=>whnf
  refine ⟨fun h=>?_,fun h=>?_⟩
  ·exact (n2 h).elim
  conv=>whnf
  ((conv in (_[_]?)=>tactic=>exact app_get H [PObj.mk 64 (m.tgs.map dem) 1,PObj.mk 30 (m.rep.map dem) 1,PObj.mk 98 (m.ap.map dem) 1] 0);(conv=>whnf))
  refine cP (c218 m.t1 m.t2 m.tKv m.tB none) ?_
  cases f39:noTk m.t1 m.t2 m.tKv m.tB.length
  ·conv=>whnf
   exact ⟨congrArg PV.bool (by unfold othersB noTgs noRep noAp noFail;simp only [e1,e2,e3,e4,e5,f38,f39,Bool.and_true,Bool.true_and,Bool.or_false,Bool.false_or,Bool.true_or,Bool.or_true,Bool.and_false,Bool.false_and]),_,rfl⟩
  conv=>whnf
  ((conv in (_[_]?)=>tactic=>exact app_get H [PObj.mk 64 (m.tgs.map dem) 1,PObj.mk 30 (m.rep.map dem) 1,PObj.mk 98 (m.ap.map dem) 1] 0);(conv=>whnf))
  refine ⟨fun h=>?_,fun h=>?_⟩
  rotate_left
  ·have f40:decide (m.tAu.length=0)=false:=decide_eq_false fun hh=>h (Iff.mpr nat0 hh)
   conv=>whnf
   exact ⟨congrArg PV.bool (by unfold othersB noTgs noRep noAp noFail;simp only [e1,e2,e3,e4,e5,f38,f39,f40,Bool.and_true,Bool.true_and,Bool.or_false,Bool.false_or,Bool.true_or,Bool.or_true,Bool.and_false,Bool.false_and]),_,rfl⟩
  have f40:decide (m.tAu.length=0)=true:=decide_eq_true (Iff.mp nat0 h)
  conv=>whnf
  ((conv in (_[_]?)=>tactic=>exact app_get H [PObj.mk 64 (m.tgs.map dem) 1,PObj.mk 30 (m.rep.map dem) 1,PObj.mk 98 (m.ap.map dem) 1] 0);(conv=>whnf))
  refine ⟨⟨fitG _ _,fitG [] []⟩,?_⟩
  conv=>whnf
  refine ⟨fun h=>?_,fun h=>?_⟩
  rotate_left
  ·have f41:decide (m.t3=[]∧m.t4=[])=false:=decide_eq_false fun hh=>h (Iff.mpr pr_eq hh)
   conv=>whnf
   exact ⟨congrArg PV.bool (by unfold othersB noTgs noRep noAp noFail;simp only [e1,e2,e3,e4,e5,f38,f39,f40,f41,Bool.and_true,Bool.true_and,Bool.or_false,Bool.false_or,Bool.true_or,Bool.or_true,Bool.and_false,Bool.false_and]),_,rfl⟩
  have f41:decide (m.t3=[]∧m.t4=[])=true:=decide_eq_true (Iff.mp pr_eq h)
  conv=>whnf
  ((conv in (_[_]?)=>tactic=>exact app_get H [PObj.mk 64 (m.tgs.map dem) 1,PObj.mk 30 (m.rep.map dem) 1,PObj.mk 98 (m.ap.map dem) 1] 0);(conv=>whnf))
  refine ⟨fun h=>?_,fun h=>?_⟩
  rotate_left
  ·have f42:decide (m.tTill=0)=false:=decide_eq_false fun hh=>h (Iff.mpr Iff.rfl hh)
   conv=>whnf
   exact ⟨congrArg PV.bool (by unfold othersB noTgs noRep noAp noFail;simp only [e1,e2,e3,e4,e5,f38,f39,f40,f41,f42,Bool.and_true,Bool.true_and,Bool.or_false,Bool.false_or,Bool.true_or,Bool.or_true,Bool.and_false,Bool.false_and]),_,rfl⟩
  have f42:decide (m.tTill=0)=true:=decide_eq_true (Iff.mp Iff.rfl h)
  conv=>whnf
  ((conv in (_[_]?)=>tactic=>exact app_get H [PObj.mk 64 (m.tgs.map dem) 1,PObj.mk 30 (m.rep.map dem) 1,PObj.mk 98 (m.ap.map dem) 1] 0);(conv=>whnf))
  refine ⟨fun h=>?_,fun h=>?_⟩
  rotate_left
  ·have f43:decide (m.tNonce=0)=false:=decide_eq_false fun hh=>h (Iff.mpr Iff.rfl hh)
   conv=>whnf
   exact ⟨congrArg PV.bool (by unfold othersB noTgs noRep noAp noFail;simp only [e1,e2,e3,e4,e5,f38,f39,f40,f41,f42,f43,Bool.and_true,Bool.true_and,Bool.or_false,Bool.false_or,Bool.true_or,Bool.or_true,Bool.and_false,Bool.false_and]),_,rfl⟩
  have f43:decide (m.tNonce=0)=true:=decide_eq_true (Iff.mp Iff.rfl h)
  conv=>whnf
  refine ⟨fun h=>?_,fun h=>?_⟩
  ·exact (n3 h).elim
  conv=>whnf
  ((conv in (_[_]?)=>tactic=>exact app_get H [PObj.mk 64 (m.tgs.map dem) 1,PObj.mk 30 (m.rep.map dem) 1,PObj.mk 98 (m.ap.map dem) 1] 1);(conv=>whnf))
  refine ⟨⟨fitG _ _,fitG [] []⟩,?_⟩
  conv=>whnf
  refine ⟨fun h=>?_,fun h=>?_⟩
  rotate_left
  ·have f44:decide (m.r1=[]∧m.r2=[])=false:=decide_eq_false fun hh=>h (Iff.mpr pr_eq hh)
   conv=>whnf
   exact ⟨congrArg PV.bool (by unfold othersB noTgs noRep noAp noFail;simp only [e1,e2,e3,e4,e5,f38,f39,f40,f41,f42,f43,f44,Bool.and_true,Bool.true_and,Bool.or_false,Bool.false_or,Bool.true_or,Bool.or_true,Bool.and_false,Bool.false_and]),_,rfl⟩
  have f44:decide (m.r1=[]∧m.r2=[])=true:=decide_eq_true (Iff.mp pr_eq h)
  conv=>whnf
  ((conv in (_[_]?)=>tactic=>exact app_get H [PObj.mk 64 (m.tgs.map dem) 1,PObj.mk 30 (m.rep.map dem) 1,PObj.mk 98 (m.ap.map dem) 1] 1);(conv=>whnf))
  refine cP (c218 m.r3 m.r4 m.rKv m.rB none) ?_
  cases f45:noTk m.r3 m.r4 m.rKv m.rB.length
  ·conv=>whnf
   exact ⟨congrArg PV.bool (by unfold othersB noTgs noRep noAp noFail;simp only [e1,e2,e3,e4,e5,f38,f39,f40,f41,f42,f43,f44,f45,Bool.and_true,Bool.true_and,Bool.or_false,Bool.false_or,Bool.true_or,Bool.or_true,Bool.and_false,Bool.false_and]),_,rfl⟩
  conv=>whnf
  ((conv in (_[_]?)=>tactic=>exact app_get H [PObj.mk 64 (m.tgs.map dem) 1,PObj.mk 30 (m.rep.map dem) 1,PObj.mk 98 (m.ap.map dem) 1] 1);(conv=>whnf))
  refine ⟨fun h=>?_,fun h=>?_⟩
  rotate_left
  ·have f46:decide (m.rBl.length=0)=false:=decide_eq_false fun hh=>h (Iff.mpr nat0 hh)
   conv=>whnf
   exact ⟨congrArg PV.bool (by unfold othersB noTgs noRep noAp noFail;simp only [e1,e2,e3,e4,e5,f38,f39,f40,f41,f42,f43,f44,f45,f46,Bool.and_true,Bool.true_and,Bool.or_false,Bool.false_or,Bool.true_or,Bool.or_true,Bool.and_false,Bool.false_and]),_,rfl⟩
  have f46:decide (m.rBl.length=0)=true:=decide_eq_true (Iff.mp nat0 h)
  conv=>whnf
  refine ⟨fun h=>?_,fun h=>?_⟩
  ·exact (n4 h).elim
  conv=>whnf
  ((conv in (_[_]?)=>tactic=>exact app_get H [PObj.mk 64 (m.tgs.map dem) 1,PObj.mk 30 (m.rep.map dem) 1,PObj.mk 98 (m.ap.map dem) 1] 2);(conv=>whnf))
  refine cP (c218 m.p1 m.p2 m.pKv m.pB none) ?_
  cases f47:noTk m.p1 m.p2 m.pKv m.pB.length
  ·conv=>whnf
   exact ⟨congrArg PV.bool (by unfold othersB noTgs noRep noAp noFail;simp only [e1,e2,e3,e4,e5,f38,f39,f40,f41,f42,f43,f44,f45,f46,f47,Bool.and_true,Bool.true_and,Bool.or_false,Bool.false_or,Bool.true_or,Bool.or_true,Bool.and_false,Bool.false_and]),_,rfl⟩
  conv=>whnf
  ((conv in (_[_]?)=>tactic=>exact app_get H [PObj.mk 64 (m.tgs.map dem) 1,PObj.mk 30 (m.rep.map dem) 1,PObj.mk 98 (m.ap.map dem) 1] 2);(conv=>whnf))
  refine ⟨fun h=>?_,fun h=>?_⟩
  rotate_left
  ·have f48:decide (m.pAu.length=0)=false:=decide_eq_false fun hh=>h (Iff.mpr nat0 hh)
   conv=>whnf
   exact ⟨congrArg PV.bool (by unfold othersB noTgs noRep noAp noFail;simp only [e1,e2,e3,e4,e5,f38,f39,f40,f41,f42,f43,f44,f45,f46,f47,f48,Bool.and_true,Bool.true_and,Bool.or_false,Bool.false_or,Bool.true_or,Bool.or_true,Bool.and_false,Bool.false_and]),_,rfl⟩
  have f48:decide (m.pAu.length=0)=true:=decide_eq_true (Iff.mp nat0 h)
  conv=>whnf
  refine ⟨fun h=>?_,fun h=>?_⟩
  rotate_left
  ·exact (h hk).elim
  conv=>whnf
  exact ⟨congrArg PV.bool (by unfold othersB noTgs noRep noAp noFail;simp only [e1,e2,e3,e4,e5,f38,f39,f40,f41,f42,f43,f44,f45,f46,f47,f48,Bool.and_true,Bool.true_and,Bool.or_false,Bool.false_or,Bool.true_or,Bool.or_true,Bool.and_false,Bool.false_and]),_,rfl⟩
 have n1:¬m.kind=1:=h1
 have n2:¬m.kind=2:=h2
 have n3:¬m.kind=3:=h3
 have n4:¬m.kind=4:=h4
 have n5:¬m.kind=5:=h5
 have e1:decide (m.kind=1)=false:=decide_eq_false n1
 have e2:decide (m.kind=2)=false:=decide_eq_false n2
 have e3:decide (m.kind=3)=false:=decide_eq_false n3
 have e4:decide (m.kind=4)=false:=decide_eq_false n4
 have e5:decide (m.kind=5)=false:=decide_eq_false n5
 refine ⟨fun h=>?_,fun h=>?_⟩
 ·exact (n1 h).elim
 conv=>whnf
 refine ⟨⟨fitA _ _ _ _ _ _,fitA [] [] [] [] 0 0⟩,?_⟩
 conv=>whnf
 refine ⟨fun h=>?_,fun h=>?_⟩
 rotate_left
 ·have f49:noAs m=false:=decide_eq_false fun hh=>h (Iff.mpr as_eq hh)
  conv=>whnf
  exact ⟨congrArg PV.bool (by unfold othersB noTgs noRep noAp noFail;simp only [e1,e2,e3,e4,e5,f49,Bool.and_true,Bool.true_and,Bool.or_false,Bool.false_or,Bool.true_or,Bool.or_true,Bool.and_false,Bool.false_and]),_,rfl⟩
 have f49:noAs m=true:=decide_eq_true (Iff.mp as_eq h)
 conv=>whnf
 refine ⟨fun h=>?_,fun h=>?_⟩
 ·exact (n2 h).elim
 conv=>whnf
 ((conv in (_[_]?)=>tactic=>exact app_get H [PObj.mk 64 (m.tgs.map dem) 1,PObj.mk 30 (m.rep.map dem) 1,PObj.mk 98 (m.ap.map dem) 1] 0);(conv=>whnf))
 refine cP (c218 m.t1 m.t2 m.tKv m.tB none) ?_
 cases f50:noTk m.t1 m.t2 m.tKv m.tB.length
 ·conv=>whnf
  exact ⟨congrArg PV.bool (by unfold othersB noTgs noRep noAp noFail;simp only [e1,e2,e3,e4,e5,f49,f50,Bool.and_true,Bool.true_and,Bool.or_false,Bool.false_or,Bool.true_or,Bool.or_true,Bool.and_false,Bool.false_and]),_,rfl⟩
 conv=>whnf
 ((conv in (_[_]?)=>tactic=>exact app_get H [PObj.mk 64 (m.tgs.map dem) 1,PObj.mk 30 (m.rep.map dem) 1,PObj.mk 98 (m.ap.map dem) 1] 0);(conv=>whnf))
 refine ⟨fun h=>?_,fun h=>?_⟩
 rotate_left
 ·have f51:decide (m.tAu.length=0)=false:=decide_eq_false fun hh=>h (Iff.mpr nat0 hh)
  conv=>whnf
  exact ⟨congrArg PV.bool (by unfold othersB noTgs noRep noAp noFail;simp only [e1,e2,e3,e4,e5,f49,f50,f51,Bool.and_true,Bool.true_and,Bool.or_false,Bool.false_or,Bool.true_or,Bool.or_true,Bool.and_false,Bool.false_and]),_,rfl⟩
 have f51:decide (m.tAu.length=0)=true:=decide_eq_true (Iff.mp nat0 h)
 conv=>whnf
 ((conv in (_[_]?)=>tactic=>exact app_get H [PObj.mk 64 (m.tgs.map dem) 1,PObj.mk 30 (m.rep.map dem) 1,PObj.mk 98 (m.ap.map dem) 1] 0);(conv=>whnf))
 refine ⟨⟨fitG _ _,fitG [] []⟩,?_⟩
 conv=>whnf
 refine ⟨fun h=>?_,fun h=>?_⟩
 rotate_left
 ·have f52:decide (m.t3=[]∧m.t4=[])=false:=decide_eq_false fun hh=>h (Iff.mpr pr_eq hh)
  conv=>whnf
  exact ⟨congrArg PV.bool (by unfold othersB noTgs noRep noAp noFail;simp only [e1,e2,e3,e4,e5,f49,f50,f51,f52,Bool.and_true,Bool.true_and,Bool.or_false,Bool.false_or,Bool.true_or,Bool.or_true,Bool.and_false,Bool.false_and]),_,rfl⟩
 have f52:decide (m.t3=[]∧m.t4=[])=true:=decide_eq_true (Iff.mp pr_eq h)
 conv=>whnf
 ((conv in (_[_]?)=>tactic=>exact app_get H [PObj.mk 64 (m.tgs.map dem) 1,PObj.mk 30 (m.rep.map dem) 1,PObj.mk 98 (m.ap.map dem) 1] 0);(conv=>whnf))
 refine ⟨fun h=>?_,fun h=>?_⟩
 rotate_left
 ·have f53:decide (m.tTill=0)=false:=decide_eq_false fun hh=>h (Iff.mpr Iff.rfl hh)
  conv=>whnf
  exact ⟨congrArg PV.bool (by unfold othersB noTgs noRep noAp noFail;simp only [e1,e2,e3,e4,e5,f49,f50,f51,f52,f53,Bool.and_true,Bool.true_and,Bool.or_false,Bool.false_or,Bool.true_or,Bool.or_true,Bool.and_false,Bool.false_and]),_,rfl⟩
 have f53:decide (m.tTill=0)=true:=decide_eq_true (Iff.mp Iff.rfl h)
 conv=>whnf
 ((conv in (_[_]?)=>tactic=>exact app_get H [PObj.mk 64 (m.tgs.map dem) 1,PObj.mk 30 (m.rep.map dem) 1,PObj.mk 98 (m.ap.map dem) 1] 0);(conv=>whnf))
 refine ⟨fun h=>?_,fun h=>?_⟩
 rotate_left
 ·have f54:decide (m.tNonce=0)=false:=decide_eq_false fun hh=>h (Iff.mpr Iff.rfl hh)
  conv=>whnf
  exact ⟨congrArg PV.bool (by unfold othersB noTgs noRep noAp noFail;simp only [e1,e2,e3,e4,e5,f49,f50,f51,f52,f53,f54,Bool.and_true,Bool.true_and,Bool.or_false,Bool.false_or,Bool.true_or,Bool.or_true,Bool.and_false,Bool.false_and]),_,rfl⟩
 have f54:decide (m.tNonce=0)=true:=decide_eq_true (Iff.mp Iff.rfl h)
 conv=>whnf
 refine ⟨fun h=>?_,fun h=>?_⟩
 ·exact (n3 h).elim
 conv=>whnf
 ((conv in (_[_]?)=>tactic=>exact app_get H [PObj.mk 64 (m.tgs.map dem) 1,PObj.mk 30 (m.rep.map dem) 1,PObj.mk 98 (m.ap.map dem) 1] 1);(conv=>whnf))
 refine ⟨⟨fitG _ _,fitG [] []⟩,?_⟩
 conv=>whnf
 refine ⟨fun h=>?_,fun h=>?_⟩
 rotate_left
 ·have f55:decide (m.r1=[]∧m.r2=[])=false:=decide_eq_false fun hh=>h (Iff.mpr pr_eq hh)
  conv=>whnf
  exact ⟨congrArg PV.bool (by unfold othersB noTgs noRep noAp noFail;simp only [e1,e2,e3,e4,e5,f49,f50,f51,f52,f53,f54,f55,Bool.and_true,Bool.true_and,Bool.or_false,Bool.false_or,Bool.true_or,Bool.or_true,Bool.and_false,Bool.false_and]),_,rfl⟩
 have f55:decide (m.r1=[]∧m.r2=[])=true:=decide_eq_true (Iff.mp pr_eq h)
 conv=>whnf
 ((conv in (_[_]?)=>tactic=>exact app_get H [PObj.mk 64 (m.tgs.map dem) 1,PObj.mk 30 (m.rep.map dem) 1,PObj.mk 98 (m.ap.map dem) 1] 1);(conv=>whnf))
 refine cP (c218 m.r3 m.r4 m.rKv m.rB none) ?_
 cases f56:noTk m.r3 m.r4 m.rKv m.rB.length
 ·conv=>whnf
  exact ⟨congrArg PV.bool (by unfold othersB noTgs noRep noAp noFail;simp only [e1,e2,e3,e4,e5,f49,f50,f51,f52,f53,f54,f55,f56,Bool.and_true,Bool.true_and,Bool.or_false,Bool.false_or,Bool.true_or,Bool.or_true,Bool.and_false,Bool.false_and]),_,rfl⟩
 conv=>whnf
 ((conv in (_[_]?)=>tactic=>exact app_get H [PObj.mk 64 (m.tgs.map dem) 1,PObj.mk 30 (m.rep.map dem) 1,PObj.mk 98 (m.ap.map dem) 1] 1);(conv=>whnf))
 refine ⟨fun h=>?_,fun h=>?_⟩
 rotate_left
 ·have f57:decide (m.rBl.length=0)=false:=decide_eq_false fun hh=>h (Iff.mpr nat0 hh)
  conv=>whnf
  exact ⟨congrArg PV.bool (by unfold othersB noTgs noRep noAp noFail;simp only [e1,e2,e3,e4,e5,f49,f50,f51,f52,f53,f54,f55,f56,f57,Bool.and_true,Bool.true_and,Bool.or_false,Bool.false_or,Bool.true_or,Bool.or_true,Bool.and_false,Bool.false_and]),_,rfl⟩
 have f57:decide (m.rBl.length=0)=true:=decide_eq_true (Iff.mp nat0 h)
 conv=>whnf
 refine ⟨fun h=>?_,fun h=>?_⟩
 ·exact (n4 h).elim
 conv=>whnf
 ((conv in (_[_]?)=>tactic=>exact app_get H [PObj.mk 64 (m.tgs.map dem) 1,PObj.mk 30 (m.rep.map dem) 1,PObj.mk 98 (m.ap.map dem) 1] 2);(conv=>whnf))
 refine cP (c218 m.p1 m.p2 m.pKv m.pB none) ?_
 cases f58:noTk m.p1 m.p2 m.pKv m.pB.length
 ·conv=>whnf
  exact ⟨congrArg PV.bool (by unfold othersB noTgs noRep noAp noFail;simp only [e1,e2,e3,e4,e5,f49,f50,f51,f52,f53,f54,f55,f56,f57,f58,Bool.and_true,Bool.true_and,Bool.or_false,Bool.false_or,Bool.true_or,Bool.or_true,Bool.and_false,Bool.false_and]),_,rfl⟩
 conv=>whnf
 ((conv in (_[_]?)=>tactic=>exact app_get H [PObj.mk 64 (m.tgs.map dem) 1,PObj.mk 30 (m.rep.map dem) 1,PObj.mk 98 (m.ap.map dem) 1] 2);(conv=>whnf))
 refine ⟨fun h=>?_,fun h=>?_⟩
 rotate_left
 ·have f59:decide (m.pAu.length=0)=false:=decide_eq_false fun hh=>h (Iff.mpr nat0 hh)
  conv=>whnf
  exact ⟨congrArg PV.bool (by unfold othersB noTgs noRep noAp noFail;simp only [e1,e2,e3,e4,e5,f49,f50,f51,f52,f53,f54,f55,f56,f57,f58,f59,Bool.and_true,Bool.true_and,Bool.or_false,Bool.false_or,Bool.true_or,Bool.or_true,Bool.and_false,Bool.false_and]),_,rfl⟩
 have f59:decide (m.pAu.length=0)=true:=decide_eq_true (Iff.mp nat0 h)
 conv=>whnf
 refine ⟨fun h=>?_,fun h=>?_⟩
 ·exact (n5 h).elim
 conv=>whnf
 refine ⟨⟨fitF _ _,fitF 0 0⟩,?_⟩
 conv=>whnf
 refine ⟨fun h=>?_,fun h=>?_⟩
 rotate_left
 ·have f60:decide (m.fErr=0∧m.fNonce=0)=false:=decide_eq_false fun hh=>h (Iff.mpr fl_eq hh)
  conv=>whnf
  exact ⟨congrArg PV.bool (by unfold othersB noTgs noRep noAp noFail;simp only [e1,e2,e3,e4,e5,f49,f50,f51,f52,f53,f54,f55,f56,f57,f58,f59,f60,Bool.and_true,Bool.true_and,Bool.or_false,Bool.false_or,Bool.true_or,Bool.or_true,Bool.and_false,Bool.false_and]),_,rfl⟩
 have f60:decide (m.fErr=0∧m.fNonce=0)=true:=decide_eq_true (Iff.mp fl_eq h)
 conv=>whnf
 exact ⟨congrArg PV.bool (by unfold othersB noTgs noRep noAp noFail;simp only [e1,e2,e3,e4,e5,f49,f50,f51,f52,f53,f54,f55,f56,f57,f58,f59,f60,Bool.and_true,Bool.true_and,Bool.or_false,Bool.false_or,Bool.true_or,Bool.or_true,Bool.and_false,Bool.false_and]),_,rfl⟩
theorem c163 (m:Msg):Pure prog 163 [.agg m.cells] (.bool (othersB m)):=Pure.of_gc rfl (c163x m)
end Go.Proofs.Tryz
