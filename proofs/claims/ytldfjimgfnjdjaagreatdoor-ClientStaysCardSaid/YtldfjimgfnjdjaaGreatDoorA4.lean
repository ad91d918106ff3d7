import Derived.Test.YtldfjimgfnjdjaaGreatDoorA3
import Derived.Test.YtldfjimgfnjdjaaGreatDoorA2
set_option linter.all false
set_option maxRecDepth 100000
set_option maxHeartbeats 3000000
namespace Go.Proofs.Tryz
open Go Ps
theorem c207D {H:PH} {id off:Nat} {o:PObj} {n:Int} (ho:H[id]? = some o) (hc:o.cs[off]? = some (.int .u32 n)) :
  CallDOk prog 228 [.ptr (some (id,off)),.bool true] H fun r H'=>r=.tup []∧H'=H.set id ⟨o.T,setCells off [.int .u32 1] o.cs,o.ver+1⟩:=by
 refine callDOk_of_pFun2 (tt:=ttO) (imm:=imm228) follows ttO_ok depth6 func228 (by kernel_rfl) ?_
 conv=>whnf
 refine dO2 D228 [H,H.set id ⟨o.T,setCells off [.int .u32 1] o.cs,o.ver+1⟩] (by kernel_rfl) rfl trivial ?_
 conv=>whnf
 iterate 4 (refine dS ?_;(conv=>whnf))
 refine ⟨_,cP c237 ⟨rfl,rfl,zqv⟩,?_⟩
 conv=>whnf
 refine ⟨_,cO (c236 1 ho hc) (by rintro _ _ ⟨rfl,rfl⟩;exact ⟨rfl,rfl,zqv⟩),?_⟩
 conv=>whnf
 exact ⟨rfl,rfl⟩
theorem keyO_at (k:List UInt8) (hk:k.length=16) (d m s:Int) (l:List Int) (md:Int) (v:Nat):(keyO k d m s l md v).cs[16]? = some (.int .u32 d)∧(keyO k d m s l md v).cs[17]? = some (.int .i32 m):=by
 obtain ⟨k0,k1,k2,k3,k4,k5,k6,k7,k8,k9,ka,kb,kc,kd,ke,kf,rfl⟩:=len16 hk
 exact ⟨rfl,rfl⟩
theorem keyO_set16 (k:List UInt8) (hk:k.length=16) (d m s:Int) (l:List Int) (md:Int) (v:Nat) (x:Int):setCells 16 [.int .u32 x] (keyO k d m s l md v).cs=(keyO k x m s l md v).cs:=by
 obtain ⟨k0,k1,k2,k3,k4,k5,k6,k7,k8,k9,ka,kb,kc,kd,ke,kf,rfl⟩:=len16 hk
 rfl
theorem keyO_set17 (k:List UInt8) (hk:k.length=16) (d m s:Int) (l:List Int) (md:Int) (v:Nat) (x:Int):setCells 17 [.int .i32 x] (keyO k d m s l md v).cs=(keyO k d x s l md v).cs:=by
 obtain ⟨k0,k1,k2,k3,k4,k5,k6,k7,k8,k9,ka,kb,kc,kd,ke,kf,rfl⟩:=len16 hk
 rfl
theorem load_none (a:Addr) (w:World) (hc:w.cell? a=some (.int .u32 0)) :
  Calls prog 226 #[.pointer (some a)] w fun e w'=>e=.returned (.bool false)∧w'=w:=by
 have hl:=run_call_load (P:=prog) func233 (by kernel_rfl) (by kernel_rfl) (by kernel_rfl) .u32 (by kernel_rfl) (w:=w) (a:=a) (x:=0) hc
 go_enter func226,ntmps226
 go_wp2
 exact ⟨rfl,.bool false,by simp [results,f205,go_sem,Act.eval],rfl,rfl⟩
theorem c227 (k:List UInt8) (hk:k.length=16) (kid v:Nat) (H:PH) (hid:H[kid]? = some (keyO k 0 0 0 (List.replicate 27 0) 0 v)) :
  CK prog 227 [.ptr (some (kid,16)),.func 218 [.ptr (some (kid,0))] []] H fun r H'=>r=.tup []∧∃v',H'=H.set kid (keyO k 1 0 0 (spW k) 1 v'):=by
 intro g w vs hs hr
 obtain ⟨a,y,rfl,ha,hy⟩:=args2 hs hr.e
 obtain ⟨b,rfl,hι,hkd⟩:=(plain_of ha (by simp) (by simp)).inv_ptr
 obtain ⟨first,caps,rfl,e2,e3,e4,e5⟩:=(plain_of hy (by simp) (by simp)).inv_func
 have st0:=St.start hr
 obtain ⟨b1,q1,hd1,fd1,_⟩:=cell_at hr.h ha hid (keyO_at k hk 0 0 0 _ 0 v).1
 cases q1
 obtain ⟨b2,q2,hm1,fm1,hset1⟩:=cell_at hr.h ((V.ptr kid b 17 hι hkd).vc) hid (keyO_at k hk 0 0 0 _ 0 v).2
 cases q2
 have st1:St prog g w H g (w.setCell ⟨b,17,none⟩ (.int .i32 1)) _:=hset1 1 _ _ _ st0
 rw [keyO_set17 k hk] at st1
 obtain ⟨p,rfl⟩:∃p,first=#[p]:=by
  match first,e2 with
  | ⟨[p]⟩,_=>exact ⟨p,rfl⟩
 obtain rfl:caps=#[]:=Array.eq_empty_of_size_eq_zero e3
 have hp:V g w p (.ptr (some (kid,0))):=e4 0 _ rfl
 obtain ⟨b3,rfl,hι3,_⟩:=hp.inv_ptr
 rw [hι] at hι3
 cases hι3
 refine .inl ⟨run_callFunc_body func227 (by kernel_rfl) (by kernel_rfl),?_⟩
 have hd1':(w.setCell ⟨b,17,none⟩ (.int .i32 1)).cell? ⟨b,16,none⟩=some (.int .u32 0):=(World.cell?_setCell_other _ ⟨b,17,none⟩ ⟨b,16,none⟩ _ (by simp)).trans hd1
 have hid1:(H.set kid ⟨(keyO k 0 0 0 (List.replicate 27 0) 0 v).T,(keyO k 0 1 0 (List.replicate 27 0) 0 v).cs,(keyO k 0 0 0 (List.replicate 27 0) 0 v).ver+1⟩)[kid]? = some (keyO k 0 1 0 (List.replicate 27 0) 0 (v+1)):=gS hid
 have hmake:=St.call st1 func218 (by kernel_rfl) (by kernel_rfl) (c218 k hk 0 1 0 0 (List.replicate 27 0) rfl (v+1) kid _ hid1) (vs:=#[.pointer (some ⟨b,0,none⟩)]) rfl (fun j c hj=>by
  match j,hj with
  | 0,hj=>cases hj;exact .ptr kid b 0 hι (cell_kind hd1')
  | j+1,hj=>simp at hj)
 have hnot:∀(x:Bool) (w:World),(Op.unary .not (.bool x)).run prog w=.ok (.bool (!x)) w:=fun _ _=>rfl
 go_enter_defers func227,ntmps227
 go_wp2_with (go_at_call 234;refine (lock_free ⟨b,17,none⟩ _ hm1 fm1).mono ?_;rintro e w' ⟨rfl,rfl⟩)
 refine (load_none ⟨b,16,none⟩ _ hd1').mono ?_
 rintro e w' ⟨rfl,rfl⟩
 go_wp2_with (go_at_call 218;refine hmake.mono ?_;rintro e w' ⟨v',r,H2,g2,rfl,⟨rfl,v2,rfl⟩,st2,kp,hv2⟩)
 have hidk:((H.set kid ⟨(keyO k 0 0 0 (List.replicate 27 0) 0 v).T,(keyO k 0 1 0 (List.replicate 27 0) 0 v).cs,(keyO k 0 0 0 (List.replicate 27 0) 0 v).ver+1⟩).set kid (keyO k 0 1 0 (spW k) 1 v2))[kid]? = some (keyO k 0 1 0 (spW k) 1 v2):=gS hid1
 have hι2:g2.ι[kid]? = some (some b):=kp.ι kid b hι
 have hk2:=(kp.kind kid b hι).trans (cell_kind hd1')
 obtain ⟨hinv,hstore⟩:=St.callD st2 (c207D hidk (keyO_at k hk 0 1 0 (spW k) 1 v2).1) (vs:=#[.pointer (some ⟨b,16,none⟩),.bool true]) .returning rfl (fun j c hj=>by
  match j,hj with
  | 0,hj=>cases hj;exact .ptr kid b 16 hι2 hk2
  | 1,hj=>cases hj;exact .bool true
  | j+2,hj=>simp at hj)
 show Leaves prog f227 _ _ _ .returning w'
 refine leaves_cons (f:=228) (args:=#[.pointer (some ⟨b,16,none⟩),.bool true]) (by simp) (by simp [invoke,hinv]) ?_
 refine hstore.mono ?_
 rintro e u' w3 ⟨rfl,v3,r3,H3,g3,rfl,⟨rfl,rfl⟩,st3,kp3⟩
 rw [keyO_set16 k hk] at st3
 have hid3:=gS (o':=⟨(keyO k 0 1 0 (spW k) 1 v2).T,(keyO k 1 1 0 (spW k) 1 v2).cs,(keyO k 0 1 0 (spW k) 1 v2).ver+1⟩) hidk
 have hι3:g3.ι[kid]? = some (some b):=kp3.ι kid b hι2
 obtain ⟨b5,q5,hm3,fm3,hset3⟩:=cell_at st3.rel.h ((V.ptr kid b 17 hι3 ((kp3.kind kid b hι2).trans hk2)).vc) hid3 (keyO_at k hk 1 1 0 (spW k) 1 v2).2
 cases q5
 have st4:St prog g w H g3 (w3.setCell ⟨b,17,none⟩ (.int .i32 0)) _:=hset3 0 _ _ _ st3
 rw [show setCells 17 [PV.int .i32 0] (PObj.mk (keyO k 0 1 0 (spW k) 1 v2).T (keyO k 1 1 0 (spW k) 1 v2).cs ((keyO k 0 1 0 (spW k) 1 v2).ver+1)).cs=(keyO k 1 0 0 (spW k) 1 v2).cs from keyO_set17 k hk 1 1 0 (spW k) 1 v2 0] at st4
 refine leaves_cons (f:=235) (args:=#[.pointer (some ⟨b,17,none⟩)]) (by simp [settle]) (by
  have:=run_callFunc_body (P:=prog) (vs:=#[.pointer (some ⟨b,17,none⟩)]) (w:=w3) func235 (by kernel_rfl) (by kernel_rfl)
  simp [invoke,this]) ?_
 refine (unlock_deferred ⟨b,17,none⟩ _ _ hm3 fm3).mono ?_
 rintro e u' w4 ⟨rfl,rfl,rfl⟩
 obtain ⟨f1,f2,f3,f4⟩:=st4.fin
 refine ⟨.tuple #[],results_none rfl _ _ _,.tuple #[],.tup [],_,g3,rfl,⟨rfl,v2+1+1,?_⟩,f1,f2,f3,f4⟩
 rw [List.set_set,List.set_set,List.set_set]
 rfl
set_option maxHeartbeats 1000000
theorem c233 {H:PH} {id off:Nat} {o:PObj} {n:Int} (ho:H[id]? = some o) (hc:o.cs[off]? = some (.int .u32 n)) :
  CK prog 233 [.ptr (some (id,off))] H fun r H'=>r=.int .u32 n∧H'=H :=
 callOk_load func233 (by kernel_rfl) (by kernel_rfl) (by kernel_rfl) .u32 (by kernel_rfl) ho hc
theorem c226 {H:PH} {id off:Nat} {o:PObj} {n:Int} (ho:H[id]? = some o) (hc:o.cs[off]? = some (.int .u32 n)) :
  CK prog 226 [.ptr (some (id,off))] H fun r H'=>r=.bool (!decide (n=0))∧H'=H:=by
 (refine fnS (imm:=imm226) ttO_ok func226 ?_;(conv=>whnf))
 refine cO (c233 ho hc) ?_
 rintro _ _ ⟨rfl,rfl⟩
 conv=>whnf
 refine ⟨fun h=>?_,fun h=>?_⟩
 ·conv=>whnf
  have h:n=0:=h
  exact ⟨zqm PV.bool (by rw [zqe h];rfl),rfl⟩
 ·conv=>whnf
  have h:¬n=0:=h
  exact ⟨zqm PV.bool (by rw [zqd h];rfl),rfl⟩
theorem c217a (k:List UInt8) (hk:k.length=16) (kid v:Nat) (H:PH) (hid:H[kid]? = some (keyO k 0 0 0 (List.replicate 27 0) 0 v)) :
  CK prog 217 [.ptr (some (kid,16)),.func 218 [.ptr (some (kid,0))] []] H fun r H'=>r=.tup []∧∃v',H'=H.set kid (keyO k 1 0 0 (spW k) 1 v'):=by
 (refine fnS (imm:=imm217) ttO_ok func217 ?_;(conv=>whnf))
 refine cO (c226 hid (keyO_at k hk 0 0 0 _ 0 v).1) ?_
 rintro _ _ ⟨rfl,rfl⟩
 conv=>whnf
 refine cO (c227 k hk kid v _ hid) ?_
 rintro _ _ ⟨rfl,v',rfl⟩
 conv=>whnf
 exact ⟨rfl,v',rfl⟩
theorem c217b (k:List UInt8) (hk:k.length=16) (kid v:Nat) (H:PH) (hid:H[kid]? = some (keyO k 1 0 0 (spW k) 1 v)) :
  CK prog 217 [.ptr (some (kid,16)),.func 218 [.ptr (some (kid,0))] []] H fun r H'=>r=.tup []∧∃v',H'=H.set kid (keyO k 1 0 0 (spW k) 1 v'):=by
 (refine fnS (imm:=imm217) ttO_ok func217 ?_;(conv=>whnf))
 refine cO (c226 hid (keyO_at k hk 1 0 0 _ 1 v).1) ?_
 rintro _ _ ⟨rfl,rfl⟩
 conv=>whnf
 exact ⟨rfl,v,(set_self hid).symm⟩
theorem wordsOk:WordsOk:=by
 intro k hk kid H h0
 have hlt:kid<H.length:=by
  rcases h0 with ⟨v,h⟩ | ⟨v,h⟩ <;> exact (zq1.1 h).1
 have hc:CK prog 217 [.ptr (some (kid,16)),.func 218 [.ptr (some (kid,0))] []] H fun r H'=>r=.tup []∧∃v',H'=H.set kid (keyO k 1 0 0 (spW k) 1 v'):=by
  rcases h0 with ⟨v,h⟩ | ⟨v,h⟩
  ·exact c217a k hk kid v H h
  ·exact c217b k hk kid v H h
 (refine fnS (imm:=imm210) ttO_ok func210 ?_;(conv=>whnf))
 refine cO hc ?_
 rintro _ _ ⟨rfl,v',rfl⟩
 conv=>whnf
 refine ⟨by decide,fun _=>?_,fun h=>absurd (show (0:Int)<((27:Nat):Int) by decide) h⟩
 conv=>whnf
 exact ⟨rfl,v',rfl⟩
set_option maxHeartbeats 2000000
def imm140:List Nat:=[]
theorem byte_int (a b:UInt8):((a.toNat:Int)=(b.toNat:Int))↔a=b:=by
 constructor
 ·intro h
  have:a.toNat=b.toNat:=by omega
  exact UInt8.toNat_inj.1 this
 ·rintro rfl;rfl
theorem c140 (a b:List UInt8) (ha:a.length≤1000000):Pure prog 140 [sl a,sl b] (.bool (decide (a=b))):=by
 intro H
 (refine fnS (imm:=imm140) ttS_ok func140 ?_;(conv=>whnf))
 refine ⟨fun h=>?_,fun h=>?_⟩
 rotate_left
 ·conv=>whnf
  have h:¬(a.length:Int)=b.length:=h
  exact ⟨zqm PV.bool (zqd fun e=>h (by rw [e])).symm,rfl⟩
 have h:(a.length:Int)=b.length:=h
 have hl:a.length=b.length:=by omega
 conv=>whnf
 refine lO Nat (fun i=>[(0,sl a),(1,sl b),(12,.int .i64 a.length),(13,.int .i64 i)]) (fun _=>H) (fun i=>i≤a.length∧a.take i=b.take i) (fun i=>a.length - i) ⟨0,⟨Nat.zero_le _,rfl⟩,⟨rfl,rfl,rfl,rfl,zqv⟩,rfl⟩ ?_
 rintro i ⟨hi,he⟩
 conv=>whnf
 refine ⟨fun h=>?_,fun h=>?_⟩
 ·have h:(i:Int)<a.length:=h
  have hia:i<a.length:=by omega
  have hib:i<b.length:=by omega
  conv=>whnf
  refine dP2 (by kernel_rfl) ?_
  conv=>whnf
  iterate 2 (refine dS ?_;(conv=>whnf))
  refine ⟨.elem [bC a[i]],⟨⟨by omega,h⟩,[bC a[i]],at1' (k:=(i:Int).toNat*1) (by rw [Int.toNat_natCast,Nat.mul_one,List.getElem?_map,zqc hia];rfl),rfl,rfl,zqv⟩,?_⟩
  conv=>whnf
  iterate 3 (refine dS ?_;(conv=>whnf))
  refine ⟨.elem [bC b[i]],⟨⟨by omega,by omega⟩,[bC b[i]],at1' (k:=(i:Int).toNat*1) (by rw [Int.toNat_natCast,Nat.mul_one,List.getElem?_map,zqc hib];rfl),rfl,rfl,zqv⟩,?_⟩
  conv=>whnf
  (refine dS ?_;(conv=>whnf))
  by_cases hq:a[i]=b[i]
  ·refine ⟨.bool false,?_,?_⟩
   ·conv=>whnf
    exact ⟨fun _=>⟨rfl,rfl,zqv⟩,fun h2=>absurd ((byte_int _ _).2 hq) h2⟩
   conv=>whnf
   refine ⟨i+1,⟨by omega,?_⟩,⟨rfl,rfl,rfl,?_,zqv⟩,rfl,by omega⟩
   ·rw [List.take_succ_eq_append_getElem hia,List.take_succ_eq_append_getElem hib,he,hq]
   ·show PV.int _ (IntKind.i64.wrap ((i:Int)+1))=PV.int _ _
    rw [w64 (by omega) (by omega)];simp
  ·refine ⟨.bool true,?_,?_⟩
   ·conv=>whnf
    exact ⟨fun h2=>absurd ((byte_int _ _).1 h2) hq,fun _=>⟨rfl,rfl,zqv⟩⟩
   conv=>whnf
   refine ⟨zqm PV.bool (zqd fun e=>hq ?_).symm,rfl⟩
   subst e;rfl
 ·have h:¬(i:Int)<a.length:=h
  conv=>whnf
  refine ⟨zqm PV.bool (zqe ?_).symm,rfl⟩
  rw [←List.take_of_length_le (l:=a) (i:=i) (by omega),he,List.take_of_length_le (by omega)]
def openB (sp:List UInt8) (u:Int) (b:List UInt8):Bool:=decide (16≤b.length)&&decide (b.length≤800)&&decide (beN (b.take 8)≤1099511627776)&&decide (tagV sp u (b.take (b.length - 8))=b.drop (b.length - 8))
theorem c88o (k:List UInt8) (hk:k.length=16) (so:PObj) (hso:KeySt k so) (sid:Nat) (u:Int) (hu:isUseB u=true) (b:List UInt8) (sp:List UInt8) (hsp:sp.length=16) (s o r:Int) (v bid:Nat) (H:PH)
  (hb:H[bid]? = some (boxS sid sp s o r v)) (hs:H[sid]? = some so) (hne:bid≠sid) (h16:16≤b.length) (h800:b.length≤800) :
  CK prog 88 [.ptr (some (bid,0)),.int .i64 u,sl b] H fun x H'=>match openB sp u b with
   | true=>x=.tup [sl (xorL ((b.take (b.length - 8)).drop 8) (streamV k (mixN (beN (b.take 8):Nat) u) (b.length - 16))),.int .i64 0]∧∃o',KeySt k o'∧H'=(H.set bid (boxS sid sp s (IntKind.i64.wrap (o+1)) r (v+1))).set sid o'
   | false=>x=.tup [ow [],.int .i64 3]∧H'=H.set bid (boxS sid sp s o (IntKind.i64.wrap (r+1)) (v+1)):=by
 have hc93r:CK prog 71 [.ptr (some (bid,0+19)),.int .i64 1] H fun x H'=>H'=H.set bid (boxS sid sp s o (IntKind.i64.wrap (r+1)) (v+1)):=by
  obtain ⟨k0,k1,k2,k3,k4,k5,k6,k7,k8,k9,ka,kb,kc,kd,ke,kf,rfl⟩:=len16 hsp
  exact (c71 (off:=19) (n:=r) 1 hb rfl).mono fun x H' hh=>hh.2
 have hc93o:CK prog 71 [.ptr (some (bid,0+18)),.int .i64 1] H fun x H'=>H'=H.set bid (boxS sid sp s (IntKind.i64.wrap (o+1)) r (v+1)):=by
  obtain ⟨k0,k1,k2,k3,k4,k5,k6,k7,k8,k9,ka,kb,kc,kd,ke,kf,rfl⟩:=len16 hsp
  exact (c71 (off:=18) (n:=o) 1 hb rfl).mono fun x H' hh=>hh.2
 have hw8:IntKind.i64.wrap ((b.length:Int) - 8)=((b.length - 8:Nat):Int):=by rw [w64 (by omega) (by omega)];omega
 have hfst:decide (16≤b.length)=true:=zqe h16
 have hsnd:decide (b.length≤800)=true:=zqe h800
 (refine fnS (imm:=imm88) ttS_ok func88 ?_;(conv=>whnf))
 refine cP (c138 u) ?_
 rw [hu]
 conv=>whnf
 refine ⟨fun _=>?_,fun h=>absurd (show (16:Int)≤b.length by omega) h⟩
 conv=>whnf
 refine ⟨fun _=>?_,fun h=>absurd (show (b.length:Int)≤800 by omega) h⟩
 conv=>whnf
 refine dP2 (by kernel_rfl) ?_
 conv=>whnf
 iterate 3 (refine dS ?_;(conv=>whnf))
 refine ⟨.int .i64 ((b.length - 8:Nat):Int),⟨zqm (PV.int _) hw8,rfl,zqv⟩,?_⟩
 conv=>whnf
 refine ⟨sl ((b.take (b.length - 8)).drop 0),⟨⟨by omega,by omega,by omega⟩,sl_cut2 b 0 ((b.length - 8:Nat):Int) ⟨by omega,by omega,by omega⟩,rfl,zqv⟩,?_⟩
 conv=>whnf
 (refine dS ?_;(conv=>whnf))
 refine ⟨sl ((b.take 8).drop 0),⟨⟨by omega,by omega,by omega⟩,sl_cut2 b 0 8 ⟨by omega,by omega,by omega⟩,rfl,zqv⟩,?_⟩
 conv=>whnf
 refine ⟨_,cP (c139 ((b.take 8).drop 0) (by rw [List.length_drop,zqr];omega)) ⟨rfl,rfl,zqv⟩,?_⟩
 conv=>whnf
 iterate 2 (refine dS ?_;(conv=>whnf))
 refine dP2 (by kernel_rfl) ?_
 conv=>whnf
 (refine dS ?_;(conv=>whnf))
 have e0:(b.take (b.length - 8)).drop 0=b.take (b.length - 8):=rfl
 have hal:(b.take (b.length - 8)).length=b.length - 8:=by rw [zqr];omega
 have hpl:((b.take (b.length - 8)).drop 8).length=b.length - 16:=by rw [List.length_drop,hal];omega
 by_cases hn:beN (b.take 8)≤1099511627776
 ·refine ⟨.bool true,?_,?_⟩
  ·conv=>whnf
   exact ⟨fun _=>⟨rfl,rfl,zqv⟩,fun h=>absurd (show ((beN (b.take 8):Nat):Int)≤1099511627776 by omega) h⟩
  conv=>whnf
  iterate 4 (refine dS ?_;(conv=>whnf))
  refine ⟨_,cO (c141 sid sp hsp s o r v u (b.take (b.length - 8)) (by omega) bid H hb) (by rintro _ _ ⟨rfl,rfl⟩;exact ⟨rfl,rfl,zqv⟩),?_⟩
  conv=>whnf
  iterate 3 (refine dS ?_;(conv=>whnf))
  refine ⟨.int .i64 ((b.length - 8:Nat):Int),⟨zqm (PV.int _) hw8,rfl,zqv⟩,?_⟩
  conv=>whnf
  refine ⟨sl ((b.take b.length).drop (b.length - 8)),⟨⟨by omega,by omega,by omega⟩,sl_cut2 b ((b.length - 8:Nat):Int) (b.length:Int) ⟨by omega,by omega,by omega⟩,rfl,zqv⟩,?_⟩
  conv=>whnf
  refine ⟨_,cP (c140 (tagV sp u (b.take (b.length - 8))) ((b.take b.length).drop (b.length - 8)) (by show 8≤_;omega)) ⟨rfl,rfl,zqv⟩,?_⟩
  rw [List.take_length]
  by_cases hq:tagV sp u (b.take (b.length - 8))=b.drop (b.length - 8)
  ·have hop:openB sp u b=true:=by unfold openB;rw [hfst,hsnd,zqe hn,zqe hq];rfl
   rw [zqe hq,hop]
   conv=>whnf
   (refine dS ?_;(conv=>whnf))
   refine cO hc93o ?_
   rintro x _ rfl
   have hb':(H.set bid (boxS sid sp s (IntKind.i64.wrap (o+1)) r (v+1)))[bid]? = some (boxS sid sp s (IntKind.i64.wrap (o+1)) r (v+1)):=gS hb
   have hs':(H.set bid (boxS sid sp s (IntKind.i64.wrap (o+1)) r (v+1)))[sid]? = some so:=by rw [zqj hne];exact hs
   conv=>whnf
   refine ⟨⟨by decide,by show (8:Int)≤((b.take (b.length - 8)).length:Int);omega,by omega⟩,?_⟩
   conv=>whnf
   have ec:=sl_cut2 (b.take (b.length - 8)) 8 ((b.take (b.length - 8)).length:Int) ⟨by omega,by omega,by omega⟩
   rw [Int.toNat_natCast,List.take_length] at ec
   refine cA (args':=[.ptr (some (bid,0)),.int .i64 u,.int .u64 (beN (b.take 8):Nat),sl ((b.take (b.length - 8)).drop 8)]) ?_ (cO (c142 (KeySt k) (fun o' h=>h.flat) so sid (beN (b.take 8):Nat) u ((b.take (b.length - 8)).drop 8) (streamV k (mixN (beN (b.take 8):Nat) u) (b.length - 16)) (by rw [streamV_len,hpl]) (by omega) (fun H hs=>by
    rw [hpl]
    exact c177 wordsOk k hk sid _ (b.length - 16) (by omega) so hso H hs) sp hsp s (IntKind.i64.wrap (o+1)) r (v+1) bid _ hb' hs') ?_)
   ·exact zqm (fun z=>[PV.ptr (some (bid,0)),PV.int .i64 u,PV.int .u64 (beN (b.take 8):Nat),z]) ec
   rintro _ _ ⟨rfl,o',ho',rfl⟩
   conv=>whnf
   exact ⟨rfl,o',ho',rfl⟩
  ·have hop:openB sp u b=false:=by unfold openB;rw [zqd hq,zq3]
   rw [zqd hq,hop]
   conv=>whnf
   (refine dS ?_;(conv=>whnf))
   refine cO hc93r ?_
   rintro x _ rfl
   conv=>whnf
   exact ⟨rfl,rfl⟩
 ·have hop:openB sp u b=false:=by unfold openB;rw [zqd hn,zq3,zq4]
  rw [hop]
  refine ⟨.bool false,?_,?_⟩
  ·conv=>whnf
   exact ⟨fun h=>absurd (show ((beN (b.take 8):Nat):Int)≤1099511627776 from h) (by omega),fun _=>⟨rfl,rfl,zqv⟩⟩
  conv=>whnf
  iterate 12 (refine dS ?_;(conv=>whnf))
  refine cO hc93r ?_
  rintro x _ rfl
  conv=>whnf
  exact ⟨rfl,rfl⟩
def ttQ3:TT:=[(3,⟨.int .i64,1,8,[.int .i64 0]⟩),(5,⟨.int .u8,1,1,[.int .u8 0]⟩),(25,⟨.slice 5,1,24,[.slice 0 [] (some 5)]⟩),(179,⟨.arr 16 5,16,16,List.replicate 16 (.int .u8 0)⟩),(134,⟨.int .u64,1,8,[.int .u64 0]⟩),(145,⟨.int .u64,1,8,[.int .u64 0]⟩),(223,⟨.ptr,1,8,[.ptr none]⟩),(225,⟨.arr 4 134,4,32,[.int .u64 0,.int .u64 0,.int .u64 0,.int .u64 0]⟩)]
theorem ttQ3_ok:ttOk prog ttQ3=true:=by kernel_rfl
def imm178:List Nat:=[]
def imm150:List Nat:=[]
def imm149:List Nat:=[]
def imm148:List Nat:=[]
def imm102:List Nat:=[2]
def rotR (x n:Int):Int:=ibits .or .u64 (ishl .u64 x n) (ishr .u64 x (IntKind.u64.wrap (64 - n)))
theorem c178 (x n:Int) (hn:0≤n):Pure prog 178 [.int .u64 x,.int .u64 n] (.int .u64 (rotR x n)):=by
 intro H
 (refine fnS (imm:=imm178) ttQ3_ok func178 ?_;(conv=>whnf))
 refine ⟨hn,?_⟩
 conv=>whnf
 refine ⟨u64_nonneg _,?_⟩
 conv=>whnf
 exact ⟨rfl,rfl⟩
theorem rot13 (x:Int):rotR x 13=rotC x 13:=by unfold rotC;rw [show rotS 13=13 by decide];rfl
theorem rot32' (x:Int):rotR x 32=rotC x 32:=by unfold rotC;rw [show rotS 32=32 by decide];rfl
theorem rot16 (x:Int):rotR x 16=rotC x 16:=by unfold rotC;rw [show rotS 16=16 by decide];rfl
theorem rot21 (x:Int):rotR x 21=rotC x 21:=by unfold rotC;rw [show rotS 21=21 by decide];rfl
theorem rot17 (x:Int):rotR x 17=rotC x 17:=by unfold rotC;rw [show rotS 17=17 by decide];rfl
def S4.Q (s:S4) (v:Nat):PObj:=⟨225,[.int .u64 s.a,.int .u64 s.b,.int .u64 s.c,.int .u64 s.d],v⟩
theorem S4.lookQ (s:S4) (v:Nat) {id:Nat} {H:PH} {o:PObj} (h:H[id]? = some o):(H.set id (s.Q v))[id]? = some ⟨225,[.int .u64 s.a,.int .u64 s.b,.int .u64 s.c,.int .u64 s.d],v⟩:=gS h
def D150_0:Draw:={ imp:=[12],win:=[] }
def D150_1:Draw:={ imp:=[13],win:=[] }
def D150_2:Draw:={ imp:=[8],win:=[] }
def D150_3:Draw:={ imp:=[12],win:=[] }
def D150_4:Draw:={ imp:=[13],win:=[] }
def D150_5:Draw:={ imp:=[12],win:=[] }
def D150_6:Draw:={ imp:=[13],win:=[] }
def D150_7:Draw:={ imp:=[12],win:=[] }
def D150_8:Draw:={ imp:=[13],win:=[] }
def D150_9:Draw:={ imp:=[8],win:=[] }
theorem c150 (z0:S4) (id w:Nat) (H:PH) (hid:H[id]? = some (z0.Q w)) :
  CK prog 150 [.ptr (some (id,0))] H fun r H'=>r=.tup []∧∃v',H'=H.set id (z0.rnd.Q v'):=by
 (refine fnS (imm:=imm150) ttQ3_ok func150 ?_;(conv=>whnf))
 refine dO2 D150_0 [H,H.set id (z0.s0.Q (w+1))] (by kernel_rfl) rfl trivial ?_
 conv=>whnf
 iterate 4 (refine dS ?_;(conv=>whnf))
 apply exA
 ·conv=>whnf
  ((conv in (_[_]?)=>tactic=>exact (show H[id]? = some ⟨225,[.int .u64 z0.a,.int .u64 z0.b,.int .u64 z0.c,.int .u64 z0.d],w⟩ from hid));(conv=>whnf))
  exact ⟨rfl,rfl,zqv⟩
 conv=>whnf
 iterate 3 (refine dS ?_;(conv=>whnf))
 apply exA
 ·conv=>whnf
  ((conv in (_[_]?)=>tactic=>exact (show H[id]? = some ⟨225,[.int .u64 z0.a,.int .u64 z0.b,.int .u64 z0.c,.int .u64 z0.d],w⟩ from hid));(conv=>whnf))
  exact ⟨rfl,rfl,zqv⟩
 conv=>whnf
 iterate 3 (refine dS ?_;(conv=>whnf))
 apply exA
 ·conv=>whnf
  ((conv in (_[_]?)=>tactic=>exact (show H[id]? = some ⟨225,[.int .u64 z0.a,.int .u64 z0.b,.int .u64 z0.c,.int .u64 z0.d],w⟩ from hid));(conv=>whnf))
  exact ⟨rfl,rfl,zqv⟩
 conv=>whnf
 generalize hs1:S4.s0 z0=z1
 refine dO2 D150_1 [H.set id (z1.Q (w+1)),H.set id (z1.s1.Q (w+2))] (by kernel_rfl) rfl trivial ?_
 conv=>whnf
 iterate 4 (refine dS ?_;(conv=>whnf))
 apply exA
 ·conv=>whnf
  ((conv in (_[_]?)=>tactic=>exact (z1.lookQ (w+1) hid));(conv=>whnf))
  exact ⟨rfl,rfl,zqv⟩
 conv=>whnf
 refine ⟨_,cP ((c178 _ 13 (by decide)).of_eq (zqm _ (rot13 _))) ⟨rfl,rfl,zqv⟩,?_⟩
 conv=>whnf
 iterate 3 (refine dS ?_;(conv=>whnf))
 apply exA
 ·conv=>whnf
  ((conv in (_[_]?)=>tactic=>exact (z1.lookQ (w+1) hid));(conv=>whnf))
  exact ⟨rfl,rfl,zqv⟩
 conv=>whnf
 iterate 3 (refine dS ?_;(conv=>whnf))
 apply exA
 ·conv=>whnf
  ((conv in (_[_]?)=>tactic=>exact (z1.lookQ (w+1) hid));(conv=>whnf))
  exact ⟨rfl,List.set_set ..,zqv⟩
 conv=>whnf
 generalize hs2:S4.s1 z1=z2
 refine dO2 D150_2 [H.set id (z2.Q (w+2)),H.set id (z2.s2.Q (w+3))] (by kernel_rfl) rfl trivial ?_
 conv=>whnf
 iterate 4 (refine dS ?_;(conv=>whnf))
 apply exA
 ·conv=>whnf
  ((conv in (_[_]?)=>tactic=>exact (z2.lookQ (w+2) hid));(conv=>whnf))
  exact ⟨rfl,rfl,zqv⟩
 conv=>whnf
 refine ⟨_,cP ((c178 _ 32 (by decide)).of_eq (zqm _ (rot32' _))) ⟨rfl,rfl,zqv⟩,?_⟩
 conv=>whnf
 iterate 2 (refine dS ?_;(conv=>whnf))
 apply exA
 ·conv=>whnf
  ((conv in (_[_]?)=>tactic=>exact (z2.lookQ (w+2) hid));(conv=>whnf))
  exact ⟨rfl,List.set_set ..,zqv⟩
 conv=>whnf
 generalize hs3:S4.s2 z2=z3
 refine dO2 D150_3 [H.set id (z3.Q (w+3)),H.set id (z3.s3.Q (w+4))] (by kernel_rfl) rfl trivial ?_
 conv=>whnf
 iterate 4 (refine dS ?_;(conv=>whnf))
 apply exA
 ·conv=>whnf
  ((conv in (_[_]?)=>tactic=>exact (z3.lookQ (w+3) hid));(conv=>whnf))
  exact ⟨rfl,rfl,zqv⟩
 conv=>whnf
 iterate 3 (refine dS ?_;(conv=>whnf))
 apply exA
 ·conv=>whnf
  ((conv in (_[_]?)=>tactic=>exact (z3.lookQ (w+3) hid));(conv=>whnf))
  exact ⟨rfl,rfl,zqv⟩
 conv=>whnf
 iterate 3 (refine dS ?_;(conv=>whnf))
 apply exA
 ·conv=>whnf
  ((conv in (_[_]?)=>tactic=>exact (z3.lookQ (w+3) hid));(conv=>whnf))
  exact ⟨rfl,List.set_set ..,zqv⟩
 conv=>whnf
 generalize hs4:S4.s3 z3=z4
 refine dO2 D150_4 [H.set id (z4.Q (w+4)),H.set id (z4.s4.Q (w+5))] (by kernel_rfl) rfl trivial ?_
 conv=>whnf
 iterate 4 (refine dS ?_;(conv=>whnf))
 apply exA
 ·conv=>whnf
  ((conv in (_[_]?)=>tactic=>exact (z4.lookQ (w+4) hid));(conv=>whnf))
  exact ⟨rfl,rfl,zqv⟩
 conv=>whnf
 refine ⟨_,cP ((c178 _ 16 (by decide)).of_eq (zqm _ (rot16 _))) ⟨rfl,rfl,zqv⟩,?_⟩
 conv=>whnf
 iterate 3 (refine dS ?_;(conv=>whnf))
 apply exA
 ·conv=>whnf
  ((conv in (_[_]?)=>tactic=>exact (z4.lookQ (w+4) hid));(conv=>whnf))
  exact ⟨rfl,rfl,zqv⟩
 conv=>whnf
 iterate 3 (refine dS ?_;(conv=>whnf))
 apply exA
 ·conv=>whnf
  ((conv in (_[_]?)=>tactic=>exact (z4.lookQ (w+4) hid));(conv=>whnf))
  exact ⟨rfl,List.set_set ..,zqv⟩
 conv=>whnf
 generalize hs5:S4.s4 z4=z5
 refine dO2 D150_5 [H.set id (z5.Q (w+5)),H.set id (z5.s5.Q (w+6))] (by kernel_rfl) rfl trivial ?_
 conv=>whnf
 iterate 4 (refine dS ?_;(conv=>whnf))
 apply exA
 ·conv=>whnf
  ((conv in (_[_]?)=>tactic=>exact (z5.lookQ (w+5) hid));(conv=>whnf))
  exact ⟨rfl,rfl,zqv⟩
 conv=>whnf
 iterate 3 (refine dS ?_;(conv=>whnf))
 apply exA
 ·conv=>whnf
  ((conv in (_[_]?)=>tactic=>exact (z5.lookQ (w+5) hid));(conv=>whnf))
  exact ⟨rfl,rfl,zqv⟩
 conv=>whnf
 iterate 3 (refine dS ?_;(conv=>whnf))
 apply exA
 ·conv=>whnf
  ((conv in (_[_]?)=>tactic=>exact (z5.lookQ (w+5) hid));(conv=>whnf))
  exact ⟨rfl,List.set_set ..,zqv⟩
 conv=>whnf
 generalize hs6:S4.s5 z5=z6
 refine dO2 D150_6 [H.set id (z6.Q (w+6)),H.set id (z6.s6.Q (w+7))] (by kernel_rfl) rfl trivial ?_
 conv=>whnf
 iterate 4 (refine dS ?_;(conv=>whnf))
 apply exA
 ·conv=>whnf
  ((conv in (_[_]?)=>tactic=>exact (z6.lookQ (w+6) hid));(conv=>whnf))
  exact ⟨rfl,rfl,zqv⟩
 conv=>whnf
 refine ⟨_,cP ((c178 _ 21 (by decide)).of_eq (zqm _ (rot21 _))) ⟨rfl,rfl,zqv⟩,?_⟩
 conv=>whnf
 iterate 3 (refine dS ?_;(conv=>whnf))
 apply exA
 ·conv=>whnf
  ((conv in (_[_]?)=>tactic=>exact (z6.lookQ (w+6) hid));(conv=>whnf))
  exact ⟨rfl,rfl,zqv⟩
 conv=>whnf
 iterate 3 (refine dS ?_;(conv=>whnf))
 apply exA
 ·conv=>whnf
  ((conv in (_[_]?)=>tactic=>exact (z6.lookQ (w+6) hid));(conv=>whnf))
  exact ⟨rfl,List.set_set ..,zqv⟩
 conv=>whnf
 generalize hs7:S4.s6 z6=z7
 refine dO2 D150_7 [H.set id (z7.Q (w+7)),H.set id (z7.s7.Q (w+8))] (by kernel_rfl) rfl trivial ?_
 conv=>whnf
 iterate 4 (refine dS ?_;(conv=>whnf))
 apply exA
 ·conv=>whnf
  ((conv in (_[_]?)=>tactic=>exact (z7.lookQ (w+7) hid));(conv=>whnf))
  exact ⟨rfl,rfl,zqv⟩
 conv=>whnf
 iterate 3 (refine dS ?_;(conv=>whnf))
 apply exA
 ·conv=>whnf
  ((conv in (_[_]?)=>tactic=>exact (z7.lookQ (w+7) hid));(conv=>whnf))
  exact ⟨rfl,rfl,zqv⟩
 conv=>whnf
 iterate 3 (refine dS ?_;(conv=>whnf))
 apply exA
 ·conv=>whnf
  ((conv in (_[_]?)=>tactic=>exact (z7.lookQ (w+7) hid));(conv=>whnf))
  exact ⟨rfl,List.set_set ..,zqv⟩
 conv=>whnf
 generalize hs8:S4.s7 z7=z8
 refine dO2 D150_8 [H.set id (z8.Q (w+8)),H.set id (z8.s8.Q (w+9))] (by kernel_rfl) rfl trivial ?_
 conv=>whnf
 iterate 4 (refine dS ?_;(conv=>whnf))
 apply exA
 ·conv=>whnf
  ((conv in (_[_]?)=>tactic=>exact (z8.lookQ (w+8) hid));(conv=>whnf))
  exact ⟨rfl,rfl,zqv⟩
 conv=>whnf
 refine ⟨_,cP ((c178 _ 17 (by decide)).of_eq (zqm _ (rot17 _))) ⟨rfl,rfl,zqv⟩,?_⟩
 conv=>whnf
 iterate 3 (refine dS ?_;(conv=>whnf))
 apply exA
 ·conv=>whnf
  ((conv in (_[_]?)=>tactic=>exact (z8.lookQ (w+8) hid));(conv=>whnf))
  exact ⟨rfl,rfl,zqv⟩
 conv=>whnf
 iterate 3 (refine dS ?_;(conv=>whnf))
 apply exA
 ·conv=>whnf
  ((conv in (_[_]?)=>tactic=>exact (z8.lookQ (w+8) hid));(conv=>whnf))
  exact ⟨rfl,List.set_set ..,zqv⟩
 conv=>whnf
 generalize hs9:S4.s8 z8=z9
 refine dO2 D150_9 [H.set id (z9.Q (w+9)),H.set id (z9.s9.Q (w+10))] (by kernel_rfl) rfl trivial ?_
 conv=>whnf
 iterate 4 (refine dS ?_;(conv=>whnf))
 apply exA
 ·conv=>whnf
  ((conv in (_[_]?)=>tactic=>exact (z9.lookQ (w+9) hid));(conv=>whnf))
  exact ⟨rfl,rfl,zqv⟩
 conv=>whnf
 refine ⟨_,cP ((c178 _ 32 (by decide)).of_eq (zqm _ (rot32' _))) ⟨rfl,rfl,zqv⟩,?_⟩
 conv=>whnf
 iterate 2 (refine dS ?_;(conv=>whnf))
 apply exA
 ·conv=>whnf
  ((conv in (_[_]?)=>tactic=>exact (z9.lookQ (w+9) hid));(conv=>whnf))
  exact ⟨rfl,List.set_set ..,zqv⟩
 conv=>whnf
 refine ⟨rfl,w+10,?_⟩
 subst hs1 hs2 hs3 hs4 hs5 hs6 hs7 hs8 hs9
 rfl
def D149:Draw:={ imp:=[9],win:=[] }
theorem c149 (s:S4) (m:Int) (id v:Nat) (H:PH) (hid:H[id]? = some (s.Q v)) :
  CK prog 149 [.ptr (some (id,0)),.int .u64 m] H fun r H'=>r=.tup []∧∃v',H'=H.set id ((s.takes m).Q v'):=by
 (refine fnS (imm:=imm149) ttQ3_ok func149 ?_;(conv=>whnf))
 refine dO2 D149 [H,H.set id (S4.Q { s with d:=xorW s.d m } (v+1))] (by kernel_rfl) rfl trivial ?_
 have g0:H[id]? = some ⟨225,[.int .u64 s.a,.int .u64 s.b,.int .u64 s.c,.int .u64 s.d],v⟩:=hid
 conv=>whnf
 iterate 4 (refine dS ?_;(conv=>whnf))
 apply exA
 ·conv=>whnf
  ((conv in (_[_]?)=>tactic=>exact g0);(conv=>whnf))
  exact ⟨rfl,rfl,zqv⟩
 conv=>whnf
 iterate 4 (refine dS ?_;(conv=>whnf))
 apply exA
 ·conv=>whnf
  ((conv in (_[_]?)=>tactic=>exact g0);(conv=>whnf))
  exact ⟨rfl,rfl,zqv⟩
 conv=>whnf
 refine cO (Q:=fun r H'=>r=.tup []∧∃v',H'=H.set id ((S4.rnds 1 { s with d:=xorW s.d m }).Q v')) ((c150 { s with d:=xorW s.d m } id (v+1) (H.set id _) (gS hid)).mono fun r H' hh=>?_) ?_
 ·obtain ⟨h1,v',h2⟩:=hh
  exact ⟨h1,v',by rw [h2,List.set_set];rfl⟩
 rintro _ _ ⟨rfl,v1,rfl⟩
 conv=>whnf
 refine cO (Q:=fun r H'=>r=.tup []∧∃v',H'=H.set id ((S4.rnds 2 { s with d:=xorW s.d m }).Q v')) ((c150 (S4.rnds 1 { s with d:=xorW s.d m }) id v1 (H.set id _) (gS hid)).mono fun r H' hh=>?_) ?_
 ·obtain ⟨h1,v',h2⟩:=hh
  exact ⟨h1,v',by rw [h2,List.set_set];rfl⟩
 rintro _ _ ⟨rfl,v',rfl⟩
 conv=>whnf
 generalize hs:S4.rnds 2 { s with d:=xorW s.d m }=z
 refine dO2 D149 [H.set id (z.Q v'),H.set id (S4.Q { z with a:=xorW z.a m } (v'+1))] (by kernel_rfl) rfl trivial ?_
 conv=>whnf
 iterate 4 (refine dS ?_;(conv=>whnf))
 apply exA
 ·conv=>whnf
  ((conv in (_[_]?)=>tactic=>exact (z.lookQ v' hid));(conv=>whnf))
  exact ⟨rfl,rfl,zqv⟩
 conv=>whnf
 iterate 4 (refine dS ?_;(conv=>whnf))
 apply exA
 ·conv=>whnf
  ((conv in (_[_]?)=>tactic=>exact (z.lookQ v' hid));(conv=>whnf))
  exact ⟨rfl,List.set_set ..,zqv⟩
 conv=>whnf
 refine ⟨rfl,v'+1,?_⟩
 subst hs
 rfl
theorem le_step2 (l:List UInt8) (c:UInt8) (h:l.length<8):ibits .or .u64 (ishl .u64 (leN l:Nat) 8) (IntKind.u64.wrap c.toNat)=((leN (c::l):Nat):Int):=by
 have hc:=c.toNat_lt
 have h1:=leN_lt l
 rw [pow8] at h1
 have h3:2 ^ (8*(l.length+1))≤18446744073709551616:=pow_le8 (by omega)
 have h4:2 ^ (8*(l.length+1))=256*2 ^ (8*l.length):=by rw [Nat.mul_add,Nat.pow_add];omega
 have h5:leN l*256<18446744073709551616:=by omega
 have e:ishl .u64 (leN l:Nat) 8=((leN l*256:Nat):Int):=by
  show IntKind.u64.wrap ((leN l:Int)*2 ^ (min (8:Int).toNat 64))=_
  have:((leN l:Int)*2 ^ (min (8:Int).toNat 64))=((leN l*256:Nat):Int):=by push_cast;rfl
  rw [this]
  exact wrapU64 h5
 rw [e,wrapU64 (by omega),or_u64 h5 (by omega),show leN l*256=2 ^ 8*leN l by omega,←Nat.two_pow_add_eq_or_of_lt (by omega:c.toNat<2 ^ 8)]
 congr 1
 show _=c.toNat+256*leN l
 omega
theorem c148 (b:List UInt8) (hb:b.length≤8):Pure prog 148 [sl b] (.int .u64 (leN b)):=by
 intro H
 (refine fnS (imm:=imm148) ttQ3_ok func148 ?_;(conv=>whnf))
 refine lO Nat (fun k=>[(0,sl b),(4,.int .i64 ((k:Int) - 1)),(3,.int .u64 (leN (b.drop k)))]) (fun _=>H) (fun k=>k≤b.length) (fun k=>k) ⟨b.length,zqn _,⟨rfl,?_,?_,zqv⟩,rfl⟩ ?_
 ·show PV.int _ (IntKind.i64.wrap ((b.length:Int) - 1))=_
  rw [w64 (by omega) (by omega)]
 ·rw [List.drop_length];rfl
 intro k hk
 conv=>whnf
 refine ⟨fun h=>?_,fun h=>?_⟩
 ·have h:(0:Int)≤(k:Int) - 1:=h
  have hi:k - 1<b.length:=by omega
  conv=>whnf
  refine ⟨by decide,?_⟩
  conv=>whnf
  refine ⟨⟨h,by show (k:Int) - 1<(b.length:Int);omega⟩,[bC b[k - 1]],at1' (k:=((k:Int) - 1).toNat*1) (by rw [show ((k:Int) - 1).toNat*1=k - 1 by omega,List.getElem?_map,zqc hi];rfl),?_⟩
  conv=>whnf
  refine ⟨k - 1,by omega,⟨rfl,?_,?_,zqv⟩,rfl,by omega⟩
  ·show PV.int _ (IntKind.i64.wrap ((k:Int) - 1 - 1))=PV.int _ _
   rw [w64 (by omega) (by omega)]
   congr 1;omega
  ·show PV.int _ (ibits .or .u64 (ishl .u64 (leN (b.drop k):Nat) 8) (IntKind.u64.wrap (b[k - 1].toNat:Int)))=PV.int _ _
   have e:b.drop (k - 1)=b[k - 1]::b.drop k:=by
    rw [List.drop_eq_getElem_cons hi,show k - 1+1=k by omega]
   rw [e,le_step2 _ _ (by rw [List.length_drop];omega)]
 ·have h:¬(0:Int)≤(k:Int) - 1:=h
  have e:k=0:=by omega
  subst e
  conv=>whnf
  exact ⟨rfl,rfl⟩
theorem or_comm64 (x y:Int):ibits .or .u64 x y=ibits .or .u64 y x:=by
 show IntKind.u64.wrap _=IntKind.u64.wrap _
 rw [BitVec.or_comm]
theorem and255 (n:Nat) (h:n≤1099511627776):ibits .and .i64 (n:Int) 255=IntKind.u8.wrap (n:Int):=by
 show IntKind.i64.wrap ((BitVec.ofInt 64 (n:Int) &&& BitVec.ofInt 64 255).toNat:Int)=(n:Int) % (2 ^ IntKind.u8.bits:Int)
 have e:(2 ^ IntKind.u8.bits:Int)=256:=by decide
 have h1:(BitVec.ofInt 64 (n:Int)).toNat=n:=by rw [BitVec.toNat_ofInt];omega
 have h2:(BitVec.ofInt 64 255).toNat=2 ^ 8 - 1:=by decide
 rw [e,BitVec.toNat_and,h1,h2,Nat.and_two_pow_sub_one_eq_mod,w64 (by omega) (by omega)]
 omega
def D102_8:Draw:={ imp:=[8],win:=[] }
theorem c102x (k:List UInt8) (hk:k.length=16) (p:List UInt8) (hp:p.length≤1000000) (H:PH) :
  CK prog 102 [.agg (k.map bC),sl p] H fun r H'=>r=.int .u64 (sipV k p)∧∃ext,H'=H++ext:=by
 obtain ⟨k0,k1,k2,k3,k4,k5,k6,k7,k8,k9,ka,kb,kc,kd,ke,kf,rfl⟩:=len16 hk
 have hk2:sipI [k0,k1,k2,k3,k4,k5,k6,k7,k8,k9,ka,kb,kc,kd,ke,kf]=⟨xorW 8317987319222330741 (leN [k0,k1,k2,k3,k4,k5,k6,k7]:Nat),xorW 7237128888997146477 (leN [k8,k9,ka,kb,kc,kd,ke,kf]:Nat),xorW 7816392313619706465 (leN [k0,k1,k2,k3,k4,k5,k6,k7]:Nat),xorW 8387220255154660723 (leN [k8,k9,ka,kb,kc,kd,ke,kf]:Nat)⟩:=rfl
 unfold sipV
 generalize hs0:sipI [k0,k1,k2,k3,k4,k5,k6,k7,k8,k9,ka,kb,kc,kd,ke,kf]=s0
 rw [hk2] at hs0
 (refine fnS (imm:=imm102) ttQ3_ok func102 ?_;(conv=>whnf))
 refine dP2 (by kernel_rfl) ?_
 conv=>whnf
 (refine dS ?_;(conv=>whnf))
 refine ⟨_,cA rfl (cP (c148 [k0,k1,k2,k3,k4,k5,k6,k7] (by simp)) ⟨rfl,rfl,zqv⟩),?_⟩
 conv=>whnf
 (refine dS ?_;(conv=>whnf))
 refine ⟨_,cA rfl (cP (c148 [k8,k9,ka,kb,kc,kd,ke,kf] (by simp)) ⟨rfl,rfl,zqv⟩),?_⟩
 conv=>whnf
 iterate 2 (refine dS ?_;(conv=>whnf))
 have hO:(PObj.mk 225 [.int .u64 (ibits .xor .u64 8317987319222330741 (leN [k0,k1,k2,k3,k4,k5,k6,k7]:Nat)),.int .u64 (ibits .xor .u64 7237128888997146477 (leN [k8,k9,ka,kb,kc,kd,ke,kf]:Nat)),.int .u64 (ibits .xor .u64 7816392313619706465 (leN [k0,k1,k2,k3,k4,k5,k6,k7]:Nat)),.int .u64 (ibits .xor .u64 8387220255154660723 (leN [k8,k9,ka,kb,kc,kd,ke,kf]:Nat))] 0)=s0.Q 0:=by subst hs0;rfl
 refine lO SipS (fun x=>[(1,sl p),(7,.ptr (some (H.length,0))),(8,.int .i64 ((8*x.i:Nat):Int))]) (fun x=>H++[(sipN s0 p x.i).Q x.v]) (fun x=>x.i≤p.length / 8) (fun x=>p.length / 8 - x.i) ⟨⟨0,0⟩,Nat.zero_le _,⟨rfl,rfl,rfl,zqv⟩,zqm (fun o=>H++[o]) hO⟩ ?_
 rintro ⟨i,v⟩ hi
 replace hi:i≤p.length / 8:=hi
 have hl:(p.drop (8*i)).length=p.length - 8*i:=List.length_drop
 have hsub:IntKind.i64.wrap ((p.length:Int) - ((8*i:Nat):Int))=(p.length:Int) - ((8*i:Nat):Int):=w64 (by omega) (by omega)
 have hadd:IntKind.i64.wrap (((8*i:Nat):Int)+8)=((8*i+8:Nat):Int):=by rw [w64 (by omega) (by omega)];omega
 conv=>whnf
 refine ⟨fun h=>?_,fun h=>?_⟩
 ·have h:(8:Int)≤IntKind.i64.wrap ((p.length:Int) - ((8*i:Nat):Int)):=h
  rw [hsub] at h
  conv=>whnf
  refine ⟨⟨by show (0:Int)≤((8*i:Nat):Int);omega,by show ((8*i:Nat):Int)≤IntKind.i64.wrap (((8*i:Nat):Int)+8);rw [hadd];omega,by show IntKind.i64.wrap (((8*i:Nat):Int)+8)≤(p.length:Int);rw [hadd];omega⟩,?_⟩
  conv=>whnf
  have ecut:(p.take (8*i+8)).drop (8*i)=(p.drop (8*i)).take 8:=by
   rw [List.drop_take,show 8*i+8 - 8*i=8 by omega]
  refine cA (args':=[sl ((p.drop (8*i)).take 8)]) ?_ (cP (c148 ((p.drop (8*i)).take 8) (by rw [zqr];omega)) ?_)
  ·refine zqm (fun z=>[z]) ?_
   have e:=sl_cut2 p ((8*i:Nat):Int) ((8*i+8:Nat):Int) ⟨by omega,by omega,by omega⟩
   rw [Int.toNat_natCast,Int.toNat_natCast,ecut] at e
   show PV.slice ((IntKind.i64.wrap (((8*i:Nat):Int)+8)).toNat - ((8*i:Nat):Int).toNat) (((p.map bC).take ((IntKind.i64.wrap (((8*i:Nat):Int)+8)).toNat*1)).drop (((8*i:Nat):Int).toNat*1)) none=_
   rw [hadd,Int.toNat_natCast,Int.toNat_natCast]
   exact e
  conv=>whnf
  refine cO (Q:=fun r H'=>r=.tup []∧∃v',H'=H++[(sipN s0 p (i+1)).Q v']) ((c149 (sipN s0 p i) (leN ((p.drop (8*i)).take 8):Nat) H.length v _ (gL H _)).mono fun r H' hh=>?_) ?_
  ·obtain ⟨h1,v',h2⟩:=hh
   exact ⟨h1,v',by rw [h2,sL];rfl⟩
  rintro _ _ ⟨rfl,v',rfl⟩
  conv=>whnf
  refine ⟨⟨i+1,v'⟩,by show i+1≤p.length / 8;omega,⟨rfl,rfl,?_,zqv⟩,rfl,by show p.length / 8 - (i+1)<p.length / 8 - i;omega⟩
  show PV.int _ (IntKind.i64.wrap (((8*i:Nat):Int)+8))=PV.int _ ((8*(i+1):Nat):Int)
  rw [hadd];rfl
 ·have h:¬(8:Int)≤IntKind.i64.wrap ((p.length:Int) - ((8*i:Nat):Int)):=h
  rw [hsub] at h
  have hi2:i=p.length / 8:=by omega
  rw [←hi2]
  conv=>whnf
  refine ⟨⟨by show (0:Int)≤((8*i:Nat):Int);omega,by show ((8*i:Nat):Int)≤(p.length:Int);omega,by omega⟩,?_⟩
  conv=>whnf
  have hcut:=sl_cut2 p ((8*i:Nat):Int) (p.length:Int) ⟨by omega,by omega,by omega⟩
  rw [Int.toNat_natCast,Int.toNat_natCast,List.take_length] at hcut
  refine cA (args':=[sl (p.drop (8*i))]) (zqm (fun z=>[z]) hcut) (cP (c148 (p.drop (8*i)) (by omega)) ?_)
  conv=>whnf
  refine ⟨by decide,?_⟩
  conv=>whnf
  have hm:ibits .or .u64 (leN (p.drop (8*i)):Nat) (ishl .u64 (IntKind.u64.wrap (ibits .and .i64 (p.length:Int) 255)) 56)=ibits .or .u64 (lastW p.length) (leN (p.drop (8*i)):Nat):=by
   rw [or_comm64,and255 _ (by omega)];rfl
  generalize hm2:ibits .or .u64 (lastW p.length) (leN (p.drop (8*i)):Nat)=m at hm
  generalize hs1:sipN s0 p i=s1
  refine cA (args':=[.ptr (some (H.length,0)),.int .u64 m]) (zqm (fun z=>[PV.ptr (some (H.length,0)),PV.int .u64 z]) hm) (cO (Q:=fun r H'=>r=.tup []∧∃v',H'=H++[(s1.takes m).Q v']) ?_ ?_)
  ·refine (c149 s1 m H.length v _ (gL H _)).mono fun r H' hh=>?_
   obtain ⟨h1,v',h2⟩:=hh
   exact ⟨h1,v',by rw [h2,sL]⟩
  rintro _ _ ⟨rfl,v1,rfl⟩
  conv=>whnf
  generalize hs2:s1.takes m=s2
  refine dO2 D102_8 [H++[s2.Q v1],H++[S4.Q { s2 with c:=xorW s2.c 255 } (v1+1)]] (by kernel_rfl) rfl trivial ?_
  have g0:(H++[s2.Q v1])[H.length]? = some ⟨225,[.int .u64 s2.a,.int .u64 s2.b,.int .u64 s2.c,.int .u64 s2.d],v1⟩:=gL H _
  conv=>whnf
  iterate 4 (refine dS ?_;(conv=>whnf))
  apply exA
  ·conv=>whnf
   ((conv in (_[_]?)=>tactic=>exact g0);(conv=>whnf))
   exact ⟨rfl,rfl,zqv⟩
  conv=>whnf
  iterate 3 (refine dS ?_;(conv=>whnf))
  apply exA
  ·conv=>whnf
   ((conv in (_[_]?)=>tactic=>exact g0);(conv=>whnf))
   exact ⟨rfl,sL H _ _,zqv⟩
  conv=>whnf
  refine lO SipS (fun x=>[(7,.ptr (some (H.length,0))),(9,.int .i64 x.i)]) (fun x=>H++[(S4.rnds x.i { s2 with c:=xorW s2.c 255 }).Q x.v]) (fun x=>x.i≤4) (fun x=>4 - x.i) ⟨⟨0,v1+1⟩,Nat.zero_le _,⟨rfl,rfl,zqv⟩,rfl⟩ ?_
  rintro ⟨j,w⟩ hj
  replace hj:j≤4:=hj
  conv=>whnf
  refine ⟨fun h=>?_,fun h=>?_⟩
  ·have h:(j:Int)<4:=h
   conv=>whnf
   refine cO (Q:=fun r H'=>r=.tup []∧∃v',H'=H++[(S4.rnds (j+1) { s2 with c:=xorW s2.c 255 }).Q v']) ((c150 (S4.rnds j { s2 with c:=xorW s2.c 255 }) H.length w _ (gL H _)).mono fun r H' hh=>?_) ?_
   ·obtain ⟨h1,v',h2⟩:=hh
    exact ⟨h1,v',by rw [h2,sL];rfl⟩
   rintro _ _ ⟨rfl,v',rfl⟩
   conv=>whnf
   refine ⟨⟨j+1,v'⟩,by show j+1≤4;omega,⟨rfl,?_,zqv⟩,rfl,by show 4 - (j+1)<4 - j;omega⟩
   show PV.int _ (IntKind.i64.wrap ((j:Int)+1))=PV.int _ _
   rw [w64 (by omega) (by omega)];simp
  have h:¬(j:Int)<4:=h
  have e4:j=4:=by omega
  subst e4
  conv=>whnf
  have hf:S4.rnds 4 { s2 with c:=xorW s2.c 255 }=s2.fin:=rfl
  rw [hf]
  generalize hs3:s2.fin=s3
  have g1:(H++[s3.Q w])[H.length]? = some ⟨225,[.int .u64 s3.a,.int .u64 s3.b,.int .u64 s3.c,.int .u64 s3.d],w⟩:=gL H _
  refine dP2 (by kernel_rfl) ?_
  conv=>whnf
  iterate 3 (refine dS ?_;(conv=>whnf))
  apply exA
  ·conv=>whnf
   ((conv in (_[_]?)=>tactic=>exact g1);(conv=>whnf))
   exact ⟨rfl,rfl,zqv⟩
  conv=>whnf
  iterate 3 (refine dS ?_;(conv=>whnf))
  apply exA
  ·conv=>whnf
   ((conv in (_[_]?)=>tactic=>exact g1);(conv=>whnf))
   exact ⟨rfl,rfl,zqv⟩
  conv=>whnf
  iterate 4 (refine dS ?_;(conv=>whnf))
  apply exA
  ·conv=>whnf
   ((conv in (_[_]?)=>tactic=>exact g1);(conv=>whnf))
   exact ⟨rfl,rfl,zqv⟩
  conv=>whnf
  iterate 4 (refine dS ?_;(conv=>whnf))
  apply exA
  ·conv=>whnf
   ((conv in (_[_]?)=>tactic=>exact g1);(conv=>whnf))
   exact ⟨rfl,rfl,zqv⟩
  conv=>whnf
  iterate 2 (refine dS ?_;(conv=>whnf))
  exact ⟨rfl,_,rfl⟩
theorem c102 (k:List UInt8) (hk:k.length=16) (p:List UInt8) (hp:p.length≤1000000):Pure prog 102 [.agg (k.map bC),sl p] (.int .u64 (sipV k p)) :=
 Pure.of_gc rfl fun H=>c102x k hk p hp H
def ttQ2:TT:=[(3,⟨.int .i64,1,8,[.int .i64 0]⟩),(5,⟨.int .u8,1,1,[.int .u8 0]⟩),(25,⟨.slice 5,1,24,[.slice 0 [] (some 5)]⟩),(179,⟨.arr 16 5,16,16,List.replicate 16 (.int .u8 0)⟩),(134,⟨.int .u64,1,8,[.int .u64 0]⟩),(145,⟨.int .u64,1,8,[.int .u64 0]⟩),(184,⟨.int .u32,1,4,[.int .u32 0]⟩),(185,⟨.arr 27 184,27,108,List.replicate 27 (.int .u32 0)⟩),(230,⟨.slice 184,1,24,[.slice 0 [] (some 184)]⟩),(229,⟨.arr 4 184,4,16,[.int .u32 0,.int .u32 0,.int .u32 0,.int .u32 0]⟩)]
theorem ttQ2_ok:ttOk prog ttQ2=true:=by kernel_rfl
def imm152:List Nat:=[]
def imm153:List Nat:=[]
def imm104:List Nat:=[1]
def imm151:List Nat:=[3]
def imm103:List Nat:=[3]
def right32 (x n:Int):Int:=ibits .or .u32 (ishr .u32 x n) (ishl .u32 x (IntKind.u64.wrap (32 - n)))
def left32 (x n:Int):Int:=ibits .or .u32 (ishl .u32 x n) (ishr .u32 x (IntKind.u64.wrap (32 - n)))
theorem c152' (x n:Int) (hn:0≤n):Pure prog 152 [.int .u32 x,.int .u64 n] (.int .u32 (right32 x n)):=by
 intro H
 (refine fnS (imm:=imm152) ttQ2_ok func152 ?_;(conv=>whnf))
 refine ⟨hn,?_⟩
 conv=>whnf
 refine ⟨u64_nonneg _,?_⟩
 conv=>whnf
 exact ⟨rfl,rfl⟩
theorem c153' (x n:Int) (hn:0≤n):Pure prog 153 [.int .u32 x,.int .u64 n] (.int .u32 (left32 x n)):=by
 intro H
 (refine fnS (imm:=imm153) ttQ2_ok func153 ?_;(conv=>whnf))
 refine ⟨hn,?_⟩
 conv=>whnf
 refine ⟨u64_nonneg _,?_⟩
 conv=>whnf
 exact ⟨rfl,rfl⟩
theorem or_comm32 (x y:Int):ibits .or .u32 x y=ibits .or .u32 y x:=by
 show IntKind.u32.wrap _=IntKind.u32.wrap _
 rw [BitVec.or_comm]
theorem c152 (x:Int):Pure prog 152 [.int .u32 x,.int .u64 8] (.int .u32 (rot32 x (-8))) :=
 (c152' x 8 (by decide)).of_eq (zqm _ (by
  unfold rot32 right32
  rw [show rot32S (-8)=24 by decide,or_comm32]
  rfl))
theorem c153 (x:Int):Pure prog 153 [.int .u32 x,.int .u64 3] (.int .u32 (rot32 x 3)) :=
 (c153' x 3 (by decide)).of_eq (zqm _ (by
  unfold rot32 left32
  rw [show rot32S 3=3 by decide]))
theorem c151 (ws:List Int) (hws:ws.length=27) (x y:Int):Pure prog 151 [.agg (ws.map u32C),.int .u32 x,.int .u32 y] (.tup [.int .u32 (spB ws (x,y)).1,.int .u32 (spB ws (x,y)).2]):=by
 intro H
 (refine fnS (imm:=imm151) ttQ2_ok func151 ?_;(conv=>whnf))
 refine lO Nat (fun i=>[(3,.elem (ws.map u32C)),(1,.int .u32 (spB (ws.take i) (x,y)).1),(2,.int .u32 (spB (ws.take i) (x,y)).2),(8,.int .i64 i)]) (fun _=>H) (fun i=>i≤27) (fun i=>27 - i) ⟨0,Nat.zero_le _,⟨rfl,rfl,rfl,rfl,zqv⟩,rfl⟩ ?_
 intro i hi
 conv=>whnf
 refine ⟨fun h=>?_,fun h=>?_⟩
 ·have h:(i:Int)<27:=h
  have hi':i<ws.length:=by omega
  conv=>whnf
  refine dP2 (by kernel_rfl) ?_
  conv=>whnf
  (refine dS ?_;(conv=>whnf))
  refine ⟨_,cP (c152 _) ⟨rfl,rfl,zqv⟩,?_⟩
  conv=>whnf
  iterate 3 (refine dS ?_;(conv=>whnf))
  refine ⟨.elem [u32C ws[i]],⟨⟨by omega,by show (i:Int)<((27:Nat):Int);exact h⟩,[u32C ws[i]],at1' (k:=(i:Int).toNat*1) (by rw [Int.toNat_natCast,Nat.mul_one,List.getElem?_map,zqc hi'];rfl),rfl,rfl,zqv⟩,?_⟩
  conv=>whnf
  iterate 3 (refine dS ?_;(conv=>whnf))
  refine cP (c153 _) ?_
  conv=>whnf
  have et:spB (ws.take (i+1)) (x,y)=spR ws[i] (spB (ws.take i) (x,y)):=by rw [List.take_succ_eq_append_getElem hi',spB_snoc]
  refine ⟨i+1,by omega,⟨rfl,?_,?_,?_,zqv⟩,rfl,by omega⟩
  ·rw [et];rfl
  ·rw [et];rfl
  ·show PV.int _ (IntKind.i64.wrap ((i:Int)+1))=PV.int _ _
   rw [w64 (by omega) (by omega)];simp
 ·have h:¬(i:Int)<27:=h
  have e:ws.take i=ws:=List.take_of_length_le (by omega)
  rw [e]
  conv=>whnf
  exact ⟨rfl,rfl⟩
theorem agg27 (ws:List Int) (hws:ws.length=27):((dropN 0 (ws.map u32C)).take 27).map dem=ws.map u32C:=by
 rw [dropN_eq,List.drop_zero,List.take_of_length_le (by rw [zqq];omega),List.map_map]
 rfl
theorem c103 (k:List UInt8) (nn:Int) (n:Nat) (hn:n≤1000000):Pure prog 103 [.agg ((spW k).map u32C),.int .u64 nn,.int .i64 n] (sl (streamV k nn n)):=by
 intro H
 (refine fnS (imm:=imm103) ttQ2_ok func103 ?_;(conv=>whnf))
 refine lO Nat (fun i=>[(1,.int .u64 nn),(2,.int .i64 n),(3,.elem ((spW k).map u32C)),(7,ow (strN k nn i)),(8,.int .i64 i)]) (fun _=>H) (fun i=>i≤(n+7) / 8) (fun i=>(n+7) / 8 - i) ⟨0,Nat.zero_le _,⟨rfl,rfl,rfl,rfl,rfl,zqv⟩,rfl⟩ ?_
 intro i hi
 have hsl:=strN_len k nn i
 conv=>whnf
 refine ⟨fun h=>?_,fun h=>?_⟩
 ·have h:((strN k nn i).length:Int)<n:=h
  rw [hsl] at h
  conv=>whnf
  refine ⟨by decide,?_⟩
  conv=>whnf
  have eargs:[PV.agg (((dropN 0 ((spW k).map u32C)).take 27).map dem),PV.int .u32 (IntKind.u32.wrap (ishr .u64 nn 32)),PV.int .u32 (IntKind.u32.wrap (IntKind.u32.wrap nn+IntKind.u32.wrap (i:Int)))]=[.agg ((spW k).map u32C),.int .u32 (IntKind.u32.wrap (ishr .u64 nn 32)),.int .u32 (add32 (IntKind.u32.wrap nn) i)]:=by
   rw [agg27 _ (spW_len k),wrap32 (n:=i) (by omega)];rfl
  refine cA eargs (cP ((c151 (spW k) (spW_len k) _ _).of_eq (show _=PV.tup [.int .u32 (blkP k nn i).1,.int .u32 (blkP k nn i).2] from rfl)) ?_)
  conv=>whnf
  generalize hx:(blkP k nn i).1=x
  generalize hy:(blkP k nn i).2=y
  refine ⟨by decide,?_⟩
  conv=>whnf
  refine ⟨by decide,?_⟩
  conv=>whnf
  refine ⟨by decide,?_⟩
  conv=>whnf
  refine ⟨by decide,?_⟩
  conv=>whnf
  refine ⟨by decide,?_⟩
  conv=>whnf
  refine ⟨by decide,?_⟩
  conv=>whnf
  refine ⟨⟨by show ((strN k nn i).length+8)*1≤_;omega,rfl,rfl⟩,?_⟩
  conv=>whnf
  refine ⟨i+1,by omega,⟨rfl,rfl,rfl,?_,?_,zqv⟩,rfl,by omega⟩
  ·have e8:[PV.int .u8 (IntKind.u8.wrap x),.int .u8 (IntKind.u8.wrap (ishr .u32 x 8)),.int .u8 (IntKind.u8.wrap (ishr .u32 x 16)),.int .u8 (IntKind.u8.wrap (ishr .u32 x 24)),.int .u8 (IntKind.u8.wrap y),.int .u8 (IntKind.u8.wrap (ishr .u32 y 8)),.int .u8 (IntKind.u8.wrap (ishr .u32 y 16)),.int .u8 (IntKind.u8.wrap (ishr .u32 y 24))]=(le4 x++le4 y).map bC:=by
    rw [List.map_append,←le4_cells,←le4_cells];rfl
   show PV.slice ((strN k nn i).length+8) ((strN k nn i).map bC++[PV.int .u8 (IntKind.u8.wrap x),.int .u8 (IntKind.u8.wrap (ishr .u32 x 8)),.int .u8 (IntKind.u8.wrap (ishr .u32 x 16)),.int .u8 (IntKind.u8.wrap (ishr .u32 x 24)),.int .u8 (IntKind.u8.wrap y),.int .u8 (IntKind.u8.wrap (ishr .u32 y 8)),.int .u8 (IntKind.u8.wrap (ishr .u32 y 16)),.int .u8 (IntKind.u8.wrap (ishr .u32 y 24))]) (some 5)=_
   rw [e8,ow_app' _ (le4 x++le4 y) (n:=8) rfl]
   subst hx hy
   rfl
  ·show PV.int _ (IntKind.i64.wrap ((i:Int)+1))=PV.int _ _
   rw [w64 (by omega) (by omega)];simp
 ·have h:¬((strN k nn i).length:Int)<n:=h
  rw [hsl] at h
  have e:i=(n+7) / 8:=by omega
  conv=>whnf
  have hmax:max (n:Int) 0=(n:Int):=by omega
  refine ⟨⟨by decide,by rw [hmax];omega,by rw [hmax];omega⟩,?_⟩
  conv=>whnf
  refine ⟨?_,rfl⟩
  have ec:=sl_cut2 (strN k nn i) 0 n ⟨by omega,by omega,by omega⟩
  show PV.slice ((max (n:Int) 0).toNat - (0:Int).toNat) ((((strN k nn i).map bC).take ((max (n:Int) 0).toNat*1)).drop ((0:Int).toNat*1)) none=_
  rw [hmax]
  refine ec.trans ?_
  rw [Int.toNat_natCast,e]
  rfl
set_option maxHeartbeats 4000000
def D104_5:Draw:={ imp:=[17],win:=[] }
def D104_12:Draw:={ cons:=[(14,[6]),(15,[57])],imp:=[],win:=[],fs:=[(0,14,.slot 6)],looks:=[(0,6)] }
def D104_13:Draw:={ imp:=[13],win:=[] }
def z27:List Int:=List.replicate 27 0
theorem spN_c (k:List UInt8) (i:Nat):(spN k i).c=(spN k (i+1)).b:=by rw [spN]
theorem spN_d' (k:List UInt8) (i:Nat):(spN k i).d=(spN k (i+1)).c:=by rw [spN]
theorem spN_d (k:List UInt8) (i:Nat):(spN k i).d=(spN k (i+2)).b:=by rw [spN_d',spN_c]
theorem spN_next (k:List UInt8) (i:Nat):(spN k (i+1)).d=xor32 (add32 (spN k i).a (rot32 (spN k i).b (-8))) (IntKind.u32.wrap (i:Int)):=by rw [spN]
theorem spN_a (k:List UInt8) (i:Nat):(spN k (i+1)).a=xor32 (rot32 (spN k i).a 3) (spN k (i+1)).d:=by rw [spN]
def spL2 (k:List UInt8) (i:Nat):List Int:=(List.range (i+3)).map fun j=>(spN k j).b
theorem spN_zero (k:List UInt8):spN k 0=wN k 16:=by rw [spN]
theorem spL2_zero (k:List UInt8):spL2 k 0=[(wN k 16).b,(wN k 16).c,(wN k 16).d]:=by
 rw [←spN_zero,spN_c,spN_d]
 generalize hb:(fun j=>(spN k j).b)=f
 have e:∀j,(spN k j).b=f j:=fun j=>by rw [←hb]
 unfold spL2
 rw [hb,e,e,e]
 rfl
theorem spL_one (k:List UInt8):spL k z27 (0+1)=(wN k 16).a::z27.drop 1:=by
 rw [←spN_zero]
 generalize hb:(fun j=>(spN k j).a)=f
 have e:(spN k 0).a=f 0:=by rw [←hb]
 unfold spL
 rw [hb,e]
 rfl
theorem spL2_len (k:List UInt8) (i:Nat):(spL2 k i).length=i+3:=by unfold spL2;simp
theorem spL2_get (k:List UInt8) (i j:Nat) (h:j<i+3):(spL2 k i)[j]? = some (spN k j).b:=by
 unfold spL2
 rw [List.getElem?_map,List.getElem?_range h];rfl
theorem spL2_succ (k:List UInt8) (i:Nat):spL2 k (i+1)=spL2 k i++[(spN k (i+3)).b]:=by
 unfold spL2
 rw [show i+1+3=(i+3)+1 by omega,List.range_succ,List.map_append];rfl
theorem spL_at (k:List UInt8) (i j:Nat) (hi:i≤27) (h:j<i):(spL k z27 i)[j]? = some (spN k j).a:=by
 unfold spL
 rw [zq2 (by simp;omega),List.getElem?_map,List.getElem?_range h];rfl
theorem drop_u32 {l:List Int} {j:Nat} {x:Int} (h:l[j]? = some x):∃r,dropN (0+(j:Int).toNat*1) (l.map u32C)=u32C x::r:=by
 have hlt:=(zq1.1 h).1
 refine ⟨(l.drop (j+1)).map u32C,?_⟩
 rw [dropN_eq,Int.toNat_natCast,Nat.mul_one,Nat.zero_add,←List.map_drop,List.drop_eq_getElem_cons hlt,(zq1.1 h).2];rfl
theorem ext_of {H K:PH} (hl:H.length≤K.length) (hf:∀j,j<H.length→K[j]? = H[j]?):∃ext,K=H++ext:=⟨K.drop H.length,List.ext_getElem? fun j=>by
 by_cases h:j<H.length
 ·rw [zq2 h];exact hf j h
 ·rw [zqi (by omega),zqt]
  congr 1;omega⟩
theorem c104x (k:List UInt8) (hk:k.length=16) (H:PH):CK prog 104 [.agg (k.map bC)] H fun r H'=>r=.agg ((spW k).map u32C)∧∃ext,H'=H++ext:=by
 obtain ⟨k0,k1,k2,k3,k4,k5,k6,k7,k8,k9,ka,kb,kc,kd,ke,kf,rfl⟩:=len16 hk
 obtain ⟨kk,hkk⟩:∃kk:List UInt8,kk=[k0,k1,k2,k3,k4,k5,k6,k7,k8,k9,ka,kb,kc,kd,ke,kf]:=⟨_,rfl⟩
 rw [←hkk]
 (refine fnS (imm:=imm104) ttQ2_ok func104 ?_;(conv=>whnf))
 obtain ⟨H1,hH1⟩:∃H1:PH,H1=H++[⟨185,z27.map u32C,0⟩]:=⟨_,rfl⟩
 have hl1:H1.length=H.length+1:=by rw [hH1];simp
 have hr1:H1[H.length]? = some ⟨185,z27.map u32C,0⟩:=by rw [hH1];exact gL H _
 refine lO Nat (fun x=>[(1,.elem (kk.map bC)),(2,.ptr (some (H.length,0))),(3,.ptr (some (H1.length,0))),(4,.int .i64 x)]) (fun x=>H1++[(wN kk x).O4 x]) (fun x=>x≤16) (fun x=>16 - x) ⟨0,Nat.zero_le _,⟨rfl,rfl,?_,rfl,zqv⟩,?_⟩ ?_
 ·subst hH1;rfl
 ·subst hH1;rfl
 intro i hi
 match i,hi with
 | 0,_ =>
  conv=>whnf
  refine ⟨fun _=>?_,fun h=>absurd (show ((0:Nat):Int)<16 by decide) h⟩
  conv=>whnf
  generalize hz:wN kk 0=z
  refine dO2 D104_5 [H1++[z.O4 0],H1++[S4.O4 { z with a:=orB z.a k0 0 } 1]] (by kernel_rfl) rfl trivial ?_
  conv=>whnf
  (refine dS ?_;(conv=>whnf))
  (refine dZ ?_;(conv=>whnf))
  (refine dS ?_;(conv=>whnf))
  iterate 2 (refine dZ ?_;(conv=>whnf))
  apply exA
  ·conv=>whnf
   ((conv in (_[_]?)=>tactic=>exact (z.look4 0 H1));(conv=>whnf))
   exact ⟨rfl,rfl,zqv⟩
  conv=>whnf
  (refine dS ?_;(conv=>whnf))
  refine ⟨.elem [bC k0],⟨⟨by decide,by decide⟩,[bC k0],at1' (k:=0) (by rw [hkk];rfl),rfl,rfl,zqv⟩,?_⟩
  conv=>whnf
  iterate 3 (refine dS ?_;(conv=>whnf))
  (refine dZ ?_;(conv=>whnf))
  iterate 2 (refine dS ?_;(conv=>whnf))
  (refine dZ ?_;(conv=>whnf))
  (refine dS ?_;(conv=>whnf))
  (refine dZ ?_;(conv=>whnf))
  apply exA
  ·conv=>whnf
   ((conv in (_[_]?)=>tactic=>exact (z.look4 0 H1));(conv=>whnf))
   exact ⟨rfl,sL H1 _ _,zqv⟩
  conv=>whnf
  refine ⟨1,by decide,⟨rfl,rfl,rfl,rfl,zqv⟩,?_,by decide⟩
  subst hz hkk
  rfl
 | 1,_ =>
  conv=>whnf
  refine ⟨fun _=>?_,fun h=>absurd (show ((1:Nat):Int)<16 by decide) h⟩
  conv=>whnf
  generalize hz:wN kk 1=z
  refine dO2 D104_5 [H1++[z.O4 1],H1++[S4.O4 { z with a:=orB z.a k1 8 } 2]] (by kernel_rfl) rfl trivial ?_
  conv=>whnf
  (refine dS ?_;(conv=>whnf))
  (refine dZ ?_;(conv=>whnf))
  (refine dS ?_;(conv=>whnf))
  iterate 2 (refine dZ ?_;(conv=>whnf))
  apply exA
  ·conv=>whnf
   ((conv in (_[_]?)=>tactic=>exact (z.look4 1 H1));(conv=>whnf))
   exact ⟨rfl,rfl,zqv⟩
  conv=>whnf
  (refine dS ?_;(conv=>whnf))
  refine ⟨.elem [bC k1],⟨⟨by decide,by decide⟩,[bC k1],at1' (k:=1) (by rw [hkk];rfl),rfl,rfl,zqv⟩,?_⟩
  conv=>whnf
  iterate 3 (refine dS ?_;(conv=>whnf))
  (refine dZ ?_;(conv=>whnf))
  iterate 2 (refine dS ?_;(conv=>whnf))
  (refine dZ ?_;(conv=>whnf))
  (refine dS ?_;(conv=>whnf))
  (refine dZ ?_;(conv=>whnf))
  apply exA
  ·conv=>whnf
   ((conv in (_[_]?)=>tactic=>exact (z.look4 1 H1));(conv=>whnf))
   exact ⟨rfl,sL H1 _ _,zqv⟩
  conv=>whnf
  refine ⟨2,by decide,⟨rfl,rfl,rfl,rfl,zqv⟩,?_,by decide⟩
  subst hz hkk
  rfl
 | 2,_ =>
  conv=>whnf
  refine ⟨fun _=>?_,fun h=>absurd (show ((2:Nat):Int)<16 by decide) h⟩
  conv=>whnf
  generalize hz:wN kk 2=z
  refine dO2 D104_5 [H1++[z.O4 2],H1++[S4.O4 { z with a:=orB z.a k2 16 } 3]] (by kernel_rfl) rfl trivial ?_
  conv=>whnf
  (refine dS ?_;(conv=>whnf))
  (refine dZ ?_;(conv=>whnf))
  (refine dS ?_;(conv=>whnf))
  iterate 2 (refine dZ ?_;(conv=>whnf))
  apply exA
  ·conv=>whnf
   ((conv in (_[_]?)=>tactic=>exact (z.look4 2 H1));(conv=>whnf))
   exact ⟨rfl,rfl,zqv⟩
  conv=>whnf
  (refine dS ?_;(conv=>whnf))
  refine ⟨.elem [bC k2],⟨⟨by decide,by decide⟩,[bC k2],at1' (k:=2) (by rw [hkk];rfl),rfl,rfl,zqv⟩,?_⟩
  conv=>whnf
  iterate 3 (refine dS ?_;(conv=>whnf))
  (refine dZ ?_;(conv=>whnf))
  iterate 2 (refine dS ?_;(conv=>whnf))
  (refine dZ ?_;(conv=>whnf))
  (refine dS ?_;(conv=>whnf))
  (refine dZ ?_;(conv=>whnf))
  apply exA
  ·conv=>whnf
   ((conv in (_[_]?)=>tactic=>exact (z.look4 2 H1));(conv=>whnf))
   exact ⟨rfl,sL H1 _ _,zqv⟩
  conv=>whnf
  refine ⟨3,by decide,⟨rfl,rfl,rfl,rfl,zqv⟩,?_,by decide⟩
  subst hz hkk
  rfl
 | 3,_ =>
  conv=>whnf
  refine ⟨fun _=>?_,fun h=>absurd (show ((3:Nat):Int)<16 by decide) h⟩
  conv=>whnf
  generalize hz:wN kk 3=z
  refine dO2 D104_5 [H1++[z.O4 3],H1++[S4.O4 { z with a:=orB z.a k3 24 } 4]] (by kernel_rfl) rfl trivial ?_
  conv=>whnf
  (refine dS ?_;(conv=>whnf))
  (refine dZ ?_;(conv=>whnf))
  (refine dS ?_;(conv=>whnf))
  iterate 2 (refine dZ ?_;(conv=>whnf))
  apply exA
  ·conv=>whnf
   ((conv in (_[_]?)=>tactic=>exact (z.look4 3 H1));(conv=>whnf))
   exact ⟨rfl,rfl,zqv⟩
  conv=>whnf
  (refine dS ?_;(conv=>whnf))
  refine ⟨.elem [bC k3],⟨⟨by decide,by decide⟩,[bC k3],at1' (k:=3) (by rw [hkk];rfl),rfl,rfl,zqv⟩,?_⟩
  conv=>whnf
  iterate 3 (refine dS ?_;(conv=>whnf))
  (refine dZ ?_;(conv=>whnf))
  iterate 2 (refine dS ?_;(conv=>whnf))
  (refine dZ ?_;(conv=>whnf))
  (refine dS ?_;(conv=>whnf))
  (refine dZ ?_;(conv=>whnf))
  apply exA
  ·conv=>whnf
   ((conv in (_[_]?)=>tactic=>exact (z.look4 3 H1));(conv=>whnf))
   exact ⟨rfl,sL H1 _ _,zqv⟩
  conv=>whnf
  refine ⟨4,by decide,⟨rfl,rfl,rfl,rfl,zqv⟩,?_,by decide⟩
  subst hz hkk
  rfl
 | 4,_ =>
  conv=>whnf
  refine ⟨fun _=>?_,fun h=>absurd (show ((4:Nat):Int)<16 by decide) h⟩
  conv=>whnf
  generalize hz:wN kk 4=z
  refine dO2 D104_5 [H1++[z.O4 4],H1++[S4.O4 { z with b:=orB z.b k4 0 } 5]] (by kernel_rfl) rfl trivial ?_
  conv=>whnf
  (refine dS ?_;(conv=>whnf))
  (refine dZ ?_;(conv=>whnf))
  (refine dS ?_;(conv=>whnf))
  iterate 2 (refine dZ ?_;(conv=>whnf))
  apply exA
  ·conv=>whnf
   ((conv in (_[_]?)=>tactic=>exact (z.look4 4 H1));(conv=>whnf))
   exact ⟨rfl,rfl,zqv⟩
  conv=>whnf
  (refine dS ?_;(conv=>whnf))
  refine ⟨.elem [bC k4],⟨⟨by decide,by decide⟩,[bC k4],at1' (k:=4) (by rw [hkk];rfl),rfl,rfl,zqv⟩,?_⟩
  conv=>whnf
  iterate 3 (refine dS ?_;(conv=>whnf))
  (refine dZ ?_;(conv=>whnf))
  iterate 2 (refine dS ?_;(conv=>whnf))
  (refine dZ ?_;(conv=>whnf))
  (refine dS ?_;(conv=>whnf))
  (refine dZ ?_;(conv=>whnf))
  apply exA
  ·conv=>whnf
   ((conv in (_[_]?)=>tactic=>exact (z.look4 4 H1));(conv=>whnf))
   exact ⟨rfl,sL H1 _ _,zqv⟩
  conv=>whnf
  refine ⟨5,by decide,⟨rfl,rfl,rfl,rfl,zqv⟩,?_,by decide⟩
  subst hz hkk
  rfl
 | 5,_ =>
  conv=>whnf
  refine ⟨fun _=>?_,fun h=>absurd (show ((5:Nat):Int)<16 by decide) h⟩
  conv=>whnf
  generalize hz:wN kk 5=z
  refine dO2 D104_5 [H1++[z.O4 5],H1++[S4.O4 { z with b:=orB z.b k5 8 } 6]] (by kernel_rfl) rfl trivial ?_
  conv=>whnf
  (refine dS ?_;(conv=>whnf))
  (refine dZ ?_;(conv=>whnf))
  (refine dS ?_;(conv=>whnf))
  iterate 2 (refine dZ ?_;(conv=>whnf))
  apply exA
  ·conv=>whnf
   ((conv in (_[_]?)=>tactic=>exact (z.look4 5 H1));(conv=>whnf))
   exact ⟨rfl,rfl,zqv⟩
  conv=>whnf
  (refine dS ?_;(conv=>whnf))
  refine ⟨.elem [bC k5],⟨⟨by decide,by decide⟩,[bC k5],at1' (k:=5) (by rw [hkk];rfl),rfl,rfl,zqv⟩,?_⟩
  conv=>whnf
  iterate 3 (refine dS ?_;(conv=>whnf))
  (refine dZ ?_;(conv=>whnf))
  iterate 2 (refine dS ?_;(conv=>whnf))
  (refine dZ ?_;(conv=>whnf))
  (refine dS ?_;(conv=>whnf))
  (refine dZ ?_;(conv=>whnf))
  apply exA
  ·conv=>whnf
   ((conv in (_[_]?)=>tactic=>exact (z.look4 5 H1));(conv=>whnf))
   exact ⟨rfl,sL H1 _ _,zqv⟩
  conv=>whnf
  refine ⟨6,by decide,⟨rfl,rfl,rfl,rfl,zqv⟩,?_,by decide⟩
  subst hz hkk
  rfl
 | 6,_ =>
  conv=>whnf
  refine ⟨fun _=>?_,fun h=>absurd (show ((6:Nat):Int)<16 by decide) h⟩
  conv=>whnf
  generalize hz:wN kk 6=z
  refine dO2 D104_5 [H1++[z.O4 6],H1++[S4.O4 { z with b:=orB z.b k6 16 } 7]] (by kernel_rfl) rfl trivial ?_
  conv=>whnf
  (refine dS ?_;(conv=>whnf))
  (refine dZ ?_;(conv=>whnf))
  (refine dS ?_;(conv=>whnf))
  iterate 2 (refine dZ ?_;(conv=>whnf))
  apply exA
  ·conv=>whnf
   ((conv in (_[_]?)=>tactic=>exact (z.look4 6 H1));(conv=>whnf))
   exact ⟨rfl,rfl,zqv⟩
  conv=>whnf
  (refine dS ?_;(conv=>whnf))
  refine ⟨.elem [bC k6],⟨⟨by decide,by decide⟩,[bC k6],at1' (k:=6) (by rw [hkk];rfl),rfl,rfl,zqv⟩,?_⟩
  conv=>whnf
  iterate 3 (refine dS ?_;(conv=>whnf))
  (refine dZ ?_;(conv=>whnf))
  iterate 2 (refine dS ?_;(conv=>whnf))
  (refine dZ ?_;(conv=>whnf))
  (refine dS ?_;(conv=>whnf))
  (refine dZ ?_;(conv=>whnf))
  apply exA
  ·conv=>whnf
   ((conv in (_[_]?)=>tactic=>exact (z.look4 6 H1));(conv=>whnf))
   exact ⟨rfl,sL H1 _ _,zqv⟩
  conv=>whnf
  refine ⟨7,by decide,⟨rfl,rfl,rfl,rfl,zqv⟩,?_,by decide⟩
  subst hz hkk
  rfl
 | 7,_ =>
  conv=>whnf
  refine ⟨fun _=>?_,fun h=>absurd (show ((7:Nat):Int)<16 by decide) h⟩
  conv=>whnf
  generalize hz:wN kk 7=z
  refine dO2 D104_5 [H1++[z.O4 7],H1++[S4.O4 { z with b:=orB z.b k7 24 } 8]] (by kernel_rfl) rfl trivial ?_
  conv=>whnf
  (refine dS ?_;(conv=>whnf))
  (refine dZ ?_;(conv=>whnf))
  (refine dS ?_;(conv=>whnf))
  iterate 2 (refine dZ ?_;(conv=>whnf))
  apply exA
  ·conv=>whnf
   ((conv in (_[_]?)=>tactic=>exact (z.look4 7 H1));(conv=>whnf))
   exact ⟨rfl,rfl,zqv⟩
  conv=>whnf
  (refine dS ?_;(conv=>whnf))
  refine ⟨.elem [bC k7],⟨⟨by decide,by decide⟩,[bC k7],at1' (k:=7) (by rw [hkk];rfl),rfl,rfl,zqv⟩,?_⟩
  conv=>whnf
  iterate 3 (refine dS ?_;(conv=>whnf))
  (refine dZ ?_;(conv=>whnf))
  iterate 2 (refine dS ?_;(conv=>whnf))
  (refine dZ ?_;(conv=>whnf))
  (refine dS ?_;(conv=>whnf))
  (refine dZ ?_;(conv=>whnf))
  apply exA
  ·conv=>whnf
   ((conv in (_[_]?)=>tactic=>exact (z.look4 7 H1));(conv=>whnf))
   exact ⟨rfl,sL H1 _ _,zqv⟩
  conv=>whnf
  refine ⟨8,by decide,⟨rfl,rfl,rfl,rfl,zqv⟩,?_,by decide⟩
  subst hz hkk
  rfl
 | 8,_ =>
  conv=>whnf
  refine ⟨fun _=>?_,fun h=>absurd (show ((8:Nat):Int)<16 by decide) h⟩
  conv=>whnf
  generalize hz:wN kk 8=z
  refine dO2 D104_5 [H1++[z.O4 8],H1++[S4.O4 { z with c:=orB z.c k8 0 } 9]] (by kernel_rfl) rfl trivial ?_
  conv=>whnf
  (refine dS ?_;(conv=>whnf))
  (refine dZ ?_;(conv=>whnf))
  (refine dS ?_;(conv=>whnf))
  iterate 2 (refine dZ ?_;(conv=>whnf))
  apply exA
  ·conv=>whnf
   ((conv in (_[_]?)=>tactic=>exact (z.look4 8 H1));(conv=>whnf))
   exact ⟨rfl,rfl,zqv⟩
  conv=>whnf
  (refine dS ?_;(conv=>whnf))
  refine ⟨.elem [bC k8],⟨⟨by decide,by decide⟩,[bC k8],at1' (k:=8) (by rw [hkk];rfl),rfl,rfl,zqv⟩,?_⟩
  conv=>whnf
  iterate 3 (refine dS ?_;(conv=>whnf))
  (refine dZ ?_;(conv=>whnf))
  iterate 2 (refine dS ?_;(conv=>whnf))
  (refine dZ ?_;(conv=>whnf))
  (refine dS ?_;(conv=>whnf))
  (refine dZ ?_;(conv=>whnf))
  apply exA
  ·conv=>whnf
   ((conv in (_[_]?)=>tactic=>exact (z.look4 8 H1));(conv=>whnf))
   exact ⟨rfl,sL H1 _ _,zqv⟩
  conv=>whnf
  refine ⟨9,by decide,⟨rfl,rfl,rfl,rfl,zqv⟩,?_,by decide⟩
  subst hz hkk
  rfl
 | 9,_ =>
  conv=>whnf
  refine ⟨fun _=>?_,fun h=>absurd (show ((9:Nat):Int)<16 by decide) h⟩
  conv=>whnf
  generalize hz:wN kk 9=z
  refine dO2 D104_5 [H1++[z.O4 9],H1++[S4.O4 { z with c:=orB z.c k9 8 } 10]] (by kernel_rfl) rfl trivial ?_
  conv=>whnf
  (refine dS ?_;(conv=>whnf))
  (refine dZ ?_;(conv=>whnf))
  (refine dS ?_;(conv=>whnf))
  iterate 2 (refine dZ ?_;(conv=>whnf))
  apply exA
  ·conv=>whnf
   ((conv in (_[_]?)=>tactic=>exact (z.look4 9 H1));(conv=>whnf))
   exact ⟨rfl,rfl,zqv⟩
  conv=>whnf
  (refine dS ?_;(conv=>whnf))
  refine ⟨.elem [bC k9],⟨⟨by decide,by decide⟩,[bC k9],at1' (k:=9) (by rw [hkk];rfl),rfl,rfl,zqv⟩,?_⟩
  conv=>whnf
  iterate 3 (refine dS ?_;(conv=>whnf))
  (refine dZ ?_;(conv=>whnf))
  iterate 2 (refine dS ?_;(conv=>whnf))
  (refine dZ ?_;(conv=>whnf))
  (refine dS ?_;(conv=>whnf))
  (refine dZ ?_;(conv=>whnf))
  apply exA
  ·conv=>whnf
   ((conv in (_[_]?)=>tactic=>exact (z.look4 9 H1));(conv=>whnf))
   exact ⟨rfl,sL H1 _ _,zqv⟩
  conv=>whnf
  refine ⟨10,by decide,⟨rfl,rfl,rfl,rfl,zqv⟩,?_,by decide⟩
  subst hz hkk
  rfl
 | 10,_ =>
  conv=>whnf
  refine ⟨fun _=>?_,fun h=>absurd (show ((10:Nat):Int)<16 by decide) h⟩
  conv=>whnf
  generalize hz:wN kk 10=z
  refine dO2 D104_5 [H1++[z.O4 10],H1++[S4.O4 { z with c:=orB z.c ka 16 } 11]] (by kernel_rfl) rfl trivial ?_
  conv=>whnf
  (refine dS ?_;(conv=>whnf))
  (refine dZ ?_;(conv=>whnf))
  (refine dS ?_;(conv=>whnf))
  iterate 2 (refine dZ ?_;(conv=>whnf))
  apply exA
  ·conv=>whnf
   ((conv in (_[_]?)=>tactic=>exact (z.look4 10 H1));(conv=>whnf))
   exact ⟨rfl,rfl,zqv⟩
  conv=>whnf
  (refine dS ?_;(conv=>whnf))
  refine ⟨.elem [bC ka],⟨⟨by decide,by decide⟩,[bC ka],at1' (k:=10) (by rw [hkk];rfl),rfl,rfl,zqv⟩,?_⟩
  conv=>whnf
  iterate 3 (refine dS ?_;(conv=>whnf))
  (refine dZ ?_;(conv=>whnf))
  iterate 2 (refine dS ?_;(conv=>whnf))
  (refine dZ ?_;(conv=>whnf))
  (refine dS ?_;(conv=>whnf))
  (refine dZ ?_;(conv=>whnf))
  apply exA
  ·conv=>whnf
   ((conv in (_[_]?)=>tactic=>exact (z.look4 10 H1));(conv=>whnf))
   exact ⟨rfl,sL H1 _ _,zqv⟩
  conv=>whnf
  refine ⟨11,by decide,⟨rfl,rfl,rfl,rfl,zqv⟩,?_,by decide⟩
  subst hz hkk
  rfl
 | 11,_ =>
  conv=>whnf
  refine ⟨fun _=>?_,fun h=>absurd (show ((11:Nat):Int)<16 by decide) h⟩
  conv=>whnf
  generalize hz:wN kk 11=z
  refine dO2 D104_5 [H1++[z.O4 11],H1++[S4.O4 { z with c:=orB z.c kb 24 } 12]] (by kernel_rfl) rfl trivial ?_
  conv=>whnf
  (refine dS ?_;(conv=>whnf))
  (refine dZ ?_;(conv=>whnf))
  (refine dS ?_;(conv=>whnf))
  iterate 2 (refine dZ ?_;(conv=>whnf))
  apply exA
  ·conv=>whnf
   ((conv in (_[_]?)=>tactic=>exact (z.look4 11 H1));(conv=>whnf))
   exact ⟨rfl,rfl,zqv⟩
  conv=>whnf
  (refine dS ?_;(conv=>whnf))
  refine ⟨.elem [bC kb],⟨⟨by decide,by decide⟩,[bC kb],at1' (k:=11) (by rw [hkk];rfl),rfl,rfl,zqv⟩,?_⟩
  conv=>whnf
  iterate 3 (refine dS ?_;(conv=>whnf))
  (refine dZ ?_;(conv=>whnf))
  iterate 2 (refine dS ?_;(conv=>whnf))
  (refine dZ ?_;(conv=>whnf))
  (refine dS ?_;(conv=>whnf))
  (refine dZ ?_;(conv=>whnf))
  apply exA
  ·conv=>whnf
   ((conv in (_[_]?)=>tactic=>exact (z.look4 11 H1));(conv=>whnf))
   exact ⟨rfl,sL H1 _ _,zqv⟩
  conv=>whnf
  refine ⟨12,by decide,⟨rfl,rfl,rfl,rfl,zqv⟩,?_,by decide⟩
  subst hz hkk
  rfl
 | 12,_ =>
  conv=>whnf
  refine ⟨fun _=>?_,fun h=>absurd (show ((12:Nat):Int)<16 by decide) h⟩
  conv=>whnf
  generalize hz:wN kk 12=z
  refine dO2 D104_5 [H1++[z.O4 12],H1++[S4.O4 { z with d:=orB z.d kc 0 } 13]] (by kernel_rfl) rfl trivial ?_
  conv=>whnf
  (refine dS ?_;(conv=>whnf))
  (refine dZ ?_;(conv=>whnf))
  (refine dS ?_;(conv=>whnf))
  iterate 2 (refine dZ ?_;(conv=>whnf))
  apply exA
  ·conv=>whnf
   ((conv in (_[_]?)=>tactic=>exact (z.look4 12 H1));(conv=>whnf))
   exact ⟨rfl,rfl,zqv⟩
  conv=>whnf
  (refine dS ?_;(conv=>whnf))
  refine ⟨.elem [bC kc],⟨⟨by decide,by decide⟩,[bC kc],at1' (k:=12) (by rw [hkk];rfl),rfl,rfl,zqv⟩,?_⟩
  conv=>whnf
  iterate 3 (refine dS ?_;(conv=>whnf))
  (refine dZ ?_;(conv=>whnf))
  iterate 2 (refine dS ?_;(conv=>whnf))
  (refine dZ ?_;(conv=>whnf))
  (refine dS ?_;(conv=>whnf))
  (refine dZ ?_;(conv=>whnf))
  apply exA
  ·conv=>whnf
   ((conv in (_[_]?)=>tactic=>exact (z.look4 12 H1));(conv=>whnf))
   exact ⟨rfl,sL H1 _ _,zqv⟩
  conv=>whnf
  refine ⟨13,by decide,⟨rfl,rfl,rfl,rfl,zqv⟩,?_,by decide⟩
  subst hz hkk
  rfl
 | 13,_ =>
  conv=>whnf
  refine ⟨fun _=>?_,fun h=>absurd (show ((13:Nat):Int)<16 by decide) h⟩
  conv=>whnf
  generalize hz:wN kk 13=z
  refine dO2 D104_5 [H1++[z.O4 13],H1++[S4.O4 { z with d:=orB z.d kd 8 } 14]] (by kernel_rfl) rfl trivial ?_
  conv=>whnf
  (refine dS ?_;(conv=>whnf))
  (refine dZ ?_;(conv=>whnf))
  (refine dS ?_;(conv=>whnf))
  iterate 2 (refine dZ ?_;(conv=>whnf))
  apply exA
  ·conv=>whnf
   ((conv in (_[_]?)=>tactic=>exact (z.look4 13 H1));(conv=>whnf))
   exact ⟨rfl,rfl,zqv⟩
  conv=>whnf
  (refine dS ?_;(conv=>whnf))
  refine ⟨.elem [bC kd],⟨⟨by decide,by decide⟩,[bC kd],at1' (k:=13) (by rw [hkk];rfl),rfl,rfl,zqv⟩,?_⟩
  conv=>whnf
  iterate 3 (refine dS ?_;(conv=>whnf))
  (refine dZ ?_;(conv=>whnf))
  iterate 2 (refine dS ?_;(conv=>whnf))
  (refine dZ ?_;(conv=>whnf))
  (refine dS ?_;(conv=>whnf))
  (refine dZ ?_;(conv=>whnf))
  apply exA
  ·conv=>whnf
   ((conv in (_[_]?)=>tactic=>exact (z.look4 13 H1));(conv=>whnf))
   exact ⟨rfl,sL H1 _ _,zqv⟩
  conv=>whnf
  refine ⟨14,by decide,⟨rfl,rfl,rfl,rfl,zqv⟩,?_,by decide⟩
  subst hz hkk
  rfl
 | 14,_ =>
  conv=>whnf
  refine ⟨fun _=>?_,fun h=>absurd (show ((14:Nat):Int)<16 by decide) h⟩
  conv=>whnf
  generalize hz:wN kk 14=z
  refine dO2 D104_5 [H1++[z.O4 14],H1++[S4.O4 { z with d:=orB z.d ke 16 } 15]] (by kernel_rfl) rfl trivial ?_
  conv=>whnf
  (refine dS ?_;(conv=>whnf))
  (refine dZ ?_;(conv=>whnf))
  (refine dS ?_;(conv=>whnf))
  iterate 2 (refine dZ ?_;(conv=>whnf))
  apply exA
  ·conv=>whnf
   ((conv in (_[_]?)=>tactic=>exact (z.look4 14 H1));(conv=>whnf))
   exact ⟨rfl,rfl,zqv⟩
  conv=>whnf
  (refine dS ?_;(conv=>whnf))
  refine ⟨.elem [bC ke],⟨⟨by decide,by decide⟩,[bC ke],at1' (k:=14) (by rw [hkk];rfl),rfl,rfl,zqv⟩,?_⟩
  conv=>whnf
  iterate 3 (refine dS ?_;(conv=>whnf))
  (refine dZ ?_;(conv=>whnf))
  iterate 2 (refine dS ?_;(conv=>whnf))
  (refine dZ ?_;(conv=>whnf))
  (refine dS ?_;(conv=>whnf))
  (refine dZ ?_;(conv=>whnf))
  apply exA
  ·conv=>whnf
   ((conv in (_[_]?)=>tactic=>exact (z.look4 14 H1));(conv=>whnf))
   exact ⟨rfl,sL H1 _ _,zqv⟩
  conv=>whnf
  refine ⟨15,by decide,⟨rfl,rfl,rfl,rfl,zqv⟩,?_,by decide⟩
  subst hz hkk
  rfl
 | 15,_ =>
  conv=>whnf
  refine ⟨fun _=>?_,fun h=>absurd (show ((15:Nat):Int)<16 by decide) h⟩
  conv=>whnf
  generalize hz:wN kk 15=z
  refine dO2 D104_5 [H1++[z.O4 15],H1++[S4.O4 { z with d:=orB z.d kf 24 } 16]] (by kernel_rfl) rfl trivial ?_
  conv=>whnf
  (refine dS ?_;(conv=>whnf))
  (refine dZ ?_;(conv=>whnf))
  (refine dS ?_;(conv=>whnf))
  iterate 2 (refine dZ ?_;(conv=>whnf))
  apply exA
  ·conv=>whnf
   ((conv in (_[_]?)=>tactic=>exact (z.look4 15 H1));(conv=>whnf))
   exact ⟨rfl,rfl,zqv⟩
  conv=>whnf
  (refine dS ?_;(conv=>whnf))
  refine ⟨.elem [bC kf],⟨⟨by decide,by decide⟩,[bC kf],at1' (k:=15) (by rw [hkk];rfl),rfl,rfl,zqv⟩,?_⟩
  conv=>whnf
  iterate 3 (refine dS ?_;(conv=>whnf))
  (refine dZ ?_;(conv=>whnf))
  iterate 2 (refine dS ?_;(conv=>whnf))
  (refine dZ ?_;(conv=>whnf))
  (refine dS ?_;(conv=>whnf))
  (refine dZ ?_;(conv=>whnf))
  apply exA
  ·conv=>whnf
   ((conv in (_[_]?)=>tactic=>exact (z.look4 15 H1));(conv=>whnf))
   exact ⟨rfl,sL H1 _ _,zqv⟩
  conv=>whnf
  refine ⟨16,by decide,⟨rfl,rfl,rfl,rfl,zqv⟩,?_,by decide⟩
  subst hz hkk
  rfl
 | 16,_ =>
  conv=>whnf
  refine ⟨fun h=>absurd h (by decide),fun _=>?_⟩
  conv=>whnf
  have hs0:spN kk 0=wN kk 16:=spN_zero kk
  have hl2:(spL2 kk 0).map u32C=[u32C (wN kk 16).b,u32C (wN kk 16).c,u32C (wN kk 16).d]:=by rw [spL2_zero,List.map_cons,List.map_cons,List.map_cons,List.map_nil]
  have hl1':(spL kk z27 (0+1)).map u32C=u32C (wN kk 16).a::(z27.drop 1).map u32C:=by rw [spL_one,List.map_cons]
  generalize wN kk 16=w16 at hs0 hl2 hl1' ⊢
  obtain ⟨H2,hH2⟩:∃H2:PH,H2=H1++[w16.O4 16]:=⟨_,rfl⟩
  have hw2:∀x:PObj,(H2++[x])[H1.length]? = some ⟨229,[.int .u32 w16.a,.int .u32 w16.b,.int .u32 w16.c,.int .u32 w16.d],16⟩:=fun x=>by
   rw [zq2 (by rw [hH2];simp),hH2];exact gL H1 _
  rw [←hH2]
  refine ⟨by decide,?_⟩
  conv=>whnf
  ((conv in (_[_]?)=>tactic=>exact (hw2 _));(conv=>whnf))
  refine ⟨by decide,?_⟩
  conv=>whnf
  ((conv in (_[_]?)=>tactic=>exact (hw2 _));(conv=>whnf))
  refine ⟨by decide,?_⟩
  conv=>whnf
  ((conv in (_[_]?)=>tactic=>exact (hw2 _));(conv=>whnf))
  refine ⟨by decide,?_⟩
  conv=>whnf
  ((conv in (_[_]?)=>tactic=>exact (hw2 _));(conv=>whnf))
  refine ⟨by decide,?_⟩
  conv=>whnf
  ((conv in (_[_]?)=>tactic=>exact (gL H2 _));(conv=>whnf))
  refine lO Nat (fun i=>[(2,.ptr (some (H.length,0))),(5,.ptr (some (H2.length,0))),(6,.slice (i+3) ((spL2 kk i).map u32C) (some 184)),(7,.int .i64 i)]) (fun i=>H2++[PObj.mk 185 ((spL kk z27 (i+1)).map u32C) (i+1)]) (fun i=>i≤26) (fun i=>26 - i) ⟨0,Nat.zero_le _,⟨rfl,rfl,?_,rfl,zqv⟩,?_⟩ ?_
  ·exact zqm (fun z=>PV.slice 3 z (some 184)) hl2.symm
  ·rw [hl1'];exact sL H2 _ _
  intro i hi
  conv=>whnf
  refine ⟨fun h=>?_,fun h=>?_⟩
  ·have h:(i:Int)<26:=h
   have hlen1:(spL kk z27 (i+1)).length=27:=spL_len kk z27 (i+1) rfl (by omega)
   have g0:=gL H2 (PObj.mk 185 ((spL kk z27 (i+1)).map u32C) (i+1))
   obtain ⟨r0,hr0⟩:=drop_u32 (spL_at kk (i+1) i (by omega) (by omega))
   conv=>whnf
   refine dO2 D104_12 [H2++[PObj.mk 185 ((spL kk z27 (i+1)).map u32C) (i+1)]] (by kernel_rfl) rfl ⟨trivial,zqv⟩ ?_
   conv=>whnf
   apply exA
   ·conv=>whnf
    exact ⟨rfl,rfl,rfl,zqv⟩
   conv=>whnf
   (refine dS ?_;(conv=>whnf))
   apply exA
   ·conv=>whnf
    refine ⟨⟨by show (0:Int)≤(i:Int);omega,by show (i:Int)<((27:Nat):Int);omega⟩,rfl,rfl,zqv⟩
   conv=>whnf
   apply exA
   ·conv=>whnf
    ((conv in (_[_]?)=>tactic=>exact g0);(conv=>whnf))
    ((conv in (dropN _ _)=>tactic=>exact hr0);(conv=>whnf))
    exact ⟨rfl,rfl,zqv⟩
   conv=>whnf
   iterate 2 (refine dS ?_;(conv=>whnf))
   refine ⟨.elem [u32C (spN kk i).b],⟨⟨by show (0:Int)≤(i:Int);omega,by show (i:Int)<((i+3:Nat):Int);omega⟩,[u32C (spN kk i).b],at1' (k:=(i:Int).toNat*1) (by rw [Int.toNat_natCast,Nat.mul_one,List.getElem?_map,spL2_get kk i i (by omega)];rfl),rfl,rfl,zqv⟩,?_⟩
   conv=>whnf
   (refine dS ?_;(conv=>whnf))
   refine ⟨_,cP (c152 _) ⟨rfl,rfl,zqv⟩,?_⟩
   conv=>whnf
   iterate 5 (refine dS ?_;(conv=>whnf))
   apply exA
   ·conv=>whnf
    refine ⟨⟨by show (i+3+1)*4≤_;omega,rfl,rfl⟩,?_⟩
    conv=>whnf
    exact ⟨rfl,rfl,zqv⟩
   conv=>whnf
   (refine dS ?_;(conv=>whnf))
   have hw1:IntKind.i64.wrap ((i:Int)+1)=((i+1:Nat):Int):=by rw [w64 (by omega) (by omega)];omega
   have hw3:IntKind.i64.wrap ((i:Int)+3)=((i+3:Nat):Int):=by rw [w64 (by omega) (by omega)];omega
   have hnx:PV.int .u32 (ibits .xor .u32 (IntKind.u32.wrap ((spN kk i).a+rot32 (spN kk i).b (-8))) (IntKind.u32.wrap (i:Int)))=u32C (spN kk (i+1)).d:=by rw [spN_next];rfl
   refine dO2 D104_13 [H2++[PObj.mk 185 ((spL kk z27 (i+1)).map u32C) (i+1)],H2++[PObj.mk 185 ((spL kk z27 (i+1+1)).map u32C) (i+1+1)]] (by kernel_rfl) rfl trivial ?_
   conv=>whnf
   (refine dS ?_;(conv=>whnf))
   refine ⟨.int .i64 ((i+1:Nat):Int),⟨zqm (PV.int _) hw1,rfl,zqv⟩,?_⟩
   conv=>whnf
   (refine dS ?_;(conv=>whnf))
   apply exA
   ·conv=>whnf
    refine ⟨⟨by show (0:Int)≤(i:Int);omega,by show (i:Int)<((27:Nat):Int);omega⟩,rfl,rfl,zqv⟩
   conv=>whnf
   apply exA
   ·conv=>whnf
    ((conv in (_[_]?)=>tactic=>exact g0);(conv=>whnf))
    ((conv in (dropN _ _)=>tactic=>exact hr0);(conv=>whnf))
    exact ⟨rfl,rfl,zqv⟩
   conv=>whnf
   refine ⟨_,cP (c153 _) ⟨rfl,rfl,zqv⟩,?_⟩
   conv=>whnf
   iterate 2 (refine dS ?_;(conv=>whnf))
   refine ⟨.int .i64 ((i+3:Nat):Int),⟨zqm (PV.int _) hw3,rfl,zqv⟩,?_⟩
   conv=>whnf
   refine ⟨.elem [u32C (spN kk (i+1)).d],⟨⟨by show (0:Int)≤((i+3:Nat):Int);omega,by show ((i+3:Nat):Int)<((i+3+1:Nat):Int);omega⟩,[u32C (spN kk (i+1)).d],at1' (k:=((i+3:Nat):Int).toNat*1) (by
    have e:((i+3:Nat):Int).toNat*1=i+3:=by omega
    rw [e,zqi (by rw [zqq,spL2_len];omega),zqq,spL2_len,Nat.sub_self]
    exact zqm some hnx),rfl,rfl,zqv⟩,?_⟩
   conv=>whnf
   iterate 2 (refine dS ?_;(conv=>whnf))
   apply exA
   ·conv=>whnf
    refine ⟨⟨by show (0:Int)≤((i+1:Nat):Int);omega,by show ((i+1:Nat):Int)<((27:Nat):Int);omega⟩,rfl,rfl,zqv⟩
   conv=>whnf
   apply exA
   ·conv=>whnf
    ((conv in (_[_]?)=>tactic=>exact g0);(conv=>whnf))
    ((conv in (Nat.ble _ _)=>tactic=>exact (show Nat.ble (0+((i+1:Nat):Int).toNat*1+1) ((spL kk z27 (i+1)).map u32C).length=true by rw [Nat.ble_eq,zqq,hlen1];omega));(conv=>whnf))
    refine ⟨rfl,?_,zqv⟩
    refine (sL H2 _ _).trans (zqm (fun o=>H2++[o]) ?_)
    show PObj.mk 185 (setCells (0+((i+1:Nat):Int).toNat*1) [u32C (xor32 (rot32 (spN kk i).a 3) (spN kk (i+1)).d)] ((spL kk z27 (i+1)).map u32C)) (i+1+1)=_
    rw [←spN_a]
    have:=setCells_mid [] [] (spL kk z27 (i+1)) (i+1) (0+((i+1:Nat):Int).toNat*1) (spN kk (i+1)).a (by omega) (by simp)
    rw [List.nil_append,List.append_nil,List.nil_append,List.append_nil,spL_set kk z27 (i+1) rfl (by omega)] at this
    rw [this]
   conv=>whnf
   refine ⟨i+1,by omega,⟨rfl,rfl,?_,?_,zqv⟩,rfl,by omega⟩
   ·show PV.slice (i+3+1) ((spL2 kk i).map u32C++[PV.int .u32 (ibits .xor .u32 (IntKind.u32.wrap ((spN kk i).a+rot32 (spN kk i).b (-8))) (IntKind.u32.wrap (i:Int)))]) (some 184)=PV.slice (i+1+3) ((spL2 kk (i+1)).map u32C) (some 184)
    rw [hnx,spL2_succ,List.map_append,spN_d,List.map_cons,List.map_nil,show i+3+1=i+1+3 by omega,show i+1+2=i+3 by omega]
   ·exact zqm (PV.int _) hw1
  ·have h:¬(i:Int)<26:=h
   have e:i=26:=by omega
   subst e
   have hspl:spL kk z27 (26+1)=spW kk:=by
    unfold spL spW
    rw [List.drop_of_length_le (by show 27≤26+1;omega),List.append_nil]
   rw [hspl]
   conv=>whnf
   ((conv in (_[_]?)=>tactic=>exact (gL H2 _));(conv=>whnf))
   have hR:∀x:PObj,(H2++[x])[H.length]? = some ⟨185,z27.map u32C,0⟩:=fun x=>by
    rw [zq2 (by rw [hH2];simp;omega),hH2,zq2 (by omega)];exact hr1
   ((conv in (_[_]?)=>tactic=>exact (hR _));(conv=>whnf))
   have hW:setCells 0 (((dropN 0 ((spW kk).map u32C)).take 27).map dem) (z27.map u32C)=(spW kk).map u32C:=by
    rw [agg27 _ (spW_len kk),setCells_eq _ _ _ (by rw [zqq,zqq,spW_len];exact zqn _),List.take_zero,List.drop_of_length_le (by rw [zqq,zqq,spW_len];exact zqn _),List.nil_append,List.append_nil]
   have h2:((H2++[PObj.mk 185 ((spW kk).map u32C) (26+1)]).set H.length (PObj.mk 185 (setCells 0 (((dropN 0 ((spW kk).map u32C)).take 27).map dem) (z27.map u32C)) (0+1)))[H.length]? = some (PObj.mk 185 ((spW kk).map u32C) 1):=by
    rw [gS (hR _),hW]
   generalize hh:(setH _ _ _ _)[List.length H]? = X
   rw [show X=some (PObj.mk 185 ((spW kk).map u32C) 1) from hh.symm.trans h2]
   conv=>whnf
   refine ⟨zqm PV.agg (agg27 _ (spW_len kk)),?_⟩
   refine ext_of ?_ fun j hj=>?_
   ·show H.length≤((H2++[_]).set _ _).length
    rw [List.length_set,zqf,hH2,zqf];omega
   ·show ((H2++[_]).set H.length _)[j]? = _
    rw [zqj (by omega),zq2 (by rw [hH2,zqf];omega),hH2,zq2 (by omega),hH1,zq2 hj]
 | j+17,hj=>exact absurd hj (by omega)
theorem oldPs_u32 (l:List Int):oldPs (l.map u32C)=true:=by
 induction l with
 | nil=>rfl
 | cons x l ih=>simp [oldPs,oldP,u32C,ih]
theorem c104 (k:List UInt8) (hk:k.length=16):Pure prog 104 [.agg (k.map bC)] (.agg ((spW k).map u32C)) :=
 Pure.of_gc (by simp [oldR,oldP,oldPs_u32]) fun H=>c104x k hk H
set_option maxHeartbeats 2000000
def ttQ4:TT:=[(3,⟨.int .i64,1,8,[.int .i64 0]⟩),(5,⟨.int .u8,1,1,[.int .u8 0]⟩),(9,⟨.str,1,16,[.str []]⟩),(25,⟨.slice 5,1,24,[.slice 0 [] (some 5)]⟩),(31,⟨.arr 32 5,32,32,List.replicate 32 (.int .u8 0)⟩),(179,⟨.arr 16 5,16,16,List.replicate 16 (.int .u8 0)⟩),(134,⟨.int .u64,1,8,[.int .u64 0]⟩),(145,⟨.int .u64,1,8,[.int .u64 0]⟩),(184,⟨.int .u32,1,4,[.int .u32 0]⟩),(185,⟨.arr 27 184,27,108,List.replicate 27 (.int .u32 0)⟩)]
theorem ttQ4_ok:ttOk prog ttQ4=true:=by kernel_rfl
def imm94:List Nat:=[2000002]
def imm58:List Nat:=[]
def imm101:List Nat:=[1]
def imm59:List Nat:=[3]
def imm60:List Nat:=[4]
def imm51:List Nat:=[4]
def imm23:List Nat:=[3]
theorem c94 (n:Int):Pure prog 94 [.int .u64 n] (ow (bigV n)):=by
 intro H
 (refine fnS (imm:=imm94) ttQ4_ok func94 ?_;(conv=>whnf))
 refine lO Nat (fun k=>[(0,.int .u64 n),(3,ow ((bigV n).take k)),(4,.int .i64 (7 - (k:Int)))]) (fun _=>H) (fun k=>k≤8) (fun k=>8 - k) ⟨0,Nat.zero_le _,⟨rfl,rfl,rfl,zqv⟩,rfl⟩ ?_
 intro i hi
 match i,hi with
 | 0,_ =>
  conv=>whnf
  refine ⟨fun _=>?_,fun h=>absurd (show (0:Int)≤7 - ((0:Nat):Int) by decide) h⟩
  conv=>whnf
  refine ⟨by decide,?_⟩
  conv=>whnf
  refine ⟨⟨by show (0+1)*1≤140737488355328;decide,rfl,rfl⟩,?_⟩
  conv=>whnf
  refine ⟨1,by decide,⟨rfl,?_,rfl,zqv⟩,rfl,by decide⟩
  show PV.slice 1 (((bigV n).take 0).map bC++[.int .u8 (IntKind.u8.wrap (ishr .u64 n 56))]) (some 5)=ow ((bigV n).take 1)
  rw [byteC_I]
  rfl
 | 1,_ =>
  conv=>whnf
  refine ⟨fun _=>?_,fun h=>absurd (show (0:Int)≤7 - ((1:Nat):Int) by decide) h⟩
  conv=>whnf
  refine ⟨by decide,?_⟩
  conv=>whnf
  refine ⟨⟨by show (1+1)*1≤140737488355328;decide,rfl,rfl⟩,?_⟩
  conv=>whnf
  refine ⟨2,by decide,⟨rfl,?_,rfl,zqv⟩,rfl,by decide⟩
  show PV.slice 2 (((bigV n).take 1).map bC++[.int .u8 (IntKind.u8.wrap (ishr .u64 n 48))]) (some 5)=ow ((bigV n).take 2)
  rw [byteC_I]
  rfl
 | 2,_ =>
  conv=>whnf
  refine ⟨fun _=>?_,fun h=>absurd (show (0:Int)≤7 - ((2:Nat):Int) by decide) h⟩
  conv=>whnf
  refine ⟨by decide,?_⟩
  conv=>whnf
  refine ⟨⟨by show (2+1)*1≤140737488355328;decide,rfl,rfl⟩,?_⟩
  conv=>whnf
  refine ⟨3,by decide,⟨rfl,?_,rfl,zqv⟩,rfl,by decide⟩
  show PV.slice 3 (((bigV n).take 2).map bC++[.int .u8 (IntKind.u8.wrap (ishr .u64 n 40))]) (some 5)=ow ((bigV n).take 3)
  rw [byteC_I]
  rfl
 | 3,_ =>
  conv=>whnf
  refine ⟨fun _=>?_,fun h=>absurd (show (0:Int)≤7 - ((3:Nat):Int) by decide) h⟩
  conv=>whnf
  refine ⟨by decide,?_⟩
  conv=>whnf
  refine ⟨⟨by show (3+1)*1≤140737488355328;decide,rfl,rfl⟩,?_⟩
  conv=>whnf
  refine ⟨4,by decide,⟨rfl,?_,rfl,zqv⟩,rfl,by decide⟩
  show PV.slice 4 (((bigV n).take 3).map bC++[.int .u8 (IntKind.u8.wrap (ishr .u64 n 32))]) (some 5)=ow ((bigV n).take 4)
  rw [byteC_I]
  rfl
 | 4,_ =>
  conv=>whnf
  refine ⟨fun _=>?_,fun h=>absurd (show (0:Int)≤7 - ((4:Nat):Int) by decide) h⟩
  conv=>whnf
  refine ⟨by decide,?_⟩
  conv=>whnf
  refine ⟨⟨by show (4+1)*1≤140737488355328;decide,rfl,rfl⟩,?_⟩
  conv=>whnf
  refine ⟨5,by decide,⟨rfl,?_,rfl,zqv⟩,rfl,by decide⟩
  show PV.slice 5 (((bigV n).take 4).map bC++[.int .u8 (IntKind.u8.wrap (ishr .u64 n 24))]) (some 5)=ow ((bigV n).take 5)
  rw [byteC_I]
  rfl
 | 5,_ =>
  conv=>whnf
  refine ⟨fun _=>?_,fun h=>absurd (show (0:Int)≤7 - ((5:Nat):Int) by decide) h⟩
  conv=>whnf
  refine ⟨by decide,?_⟩
  conv=>whnf
  refine ⟨⟨by show (5+1)*1≤140737488355328;decide,rfl,rfl⟩,?_⟩
  conv=>whnf
  refine ⟨6,by decide,⟨rfl,?_,rfl,zqv⟩,rfl,by decide⟩
  show PV.slice 6 (((bigV n).take 5).map bC++[.int .u8 (IntKind.u8.wrap (ishr .u64 n 16))]) (some 5)=ow ((bigV n).take 6)
  rw [byteC_I]
  rfl
 | 6,_ =>
  conv=>whnf
  refine ⟨fun _=>?_,fun h=>absurd (show (0:Int)≤7 - ((6:Nat):Int) by decide) h⟩
  conv=>whnf
  refine ⟨by decide,?_⟩
  conv=>whnf
  refine ⟨⟨by show (6+1)*1≤140737488355328;decide,rfl,rfl⟩,?_⟩
  conv=>whnf
  refine ⟨7,by decide,⟨rfl,?_,rfl,zqv⟩,rfl,by decide⟩
  show PV.slice 7 (((bigV n).take 6).map bC++[.int .u8 (IntKind.u8.wrap (ishr .u64 n 8))]) (some 5)=ow ((bigV n).take 7)
  rw [byteC_I]
  rfl
 | 7,_ =>
  conv=>whnf
  refine ⟨fun _=>?_,fun h=>absurd (show (0:Int)≤7 - ((7:Nat):Int) by decide) h⟩
  conv=>whnf
  refine ⟨by decide,?_⟩
  conv=>whnf
  refine ⟨⟨by show (7+1)*1≤140737488355328;decide,rfl,rfl⟩,?_⟩
  conv=>whnf
  refine ⟨8,by decide,⟨rfl,?_,rfl,zqv⟩,rfl,by decide⟩
  show PV.slice 8 (((bigV n).take 7).map bC++[.int .u8 (IntKind.u8.wrap (ishr .u64 n 0))]) (some 5)=ow ((bigV n).take 8)
  rw [byteC_I]
  rfl
 | 8,_ =>
  conv=>whnf
  refine ⟨fun h=>absurd h (by decide),fun _=>?_⟩
  conv=>whnf
  exact ⟨rfl,rfl⟩
theorem be_step2 (l:List UInt8) (c:UInt8) (h:l.length<8):ibits .or .u64 (ishl .u64 (beN l:Nat) 8) (IntKind.u64.wrap c.toNat)=((beN (l++[c]):Nat):Int):=by
 have hc:=c.toNat_lt
 have h1:=beN_lt l rfl
 rw [pow8] at h1
 have h3:2 ^ (8*(l.length+1))≤18446744073709551616:=pow_le8 (by omega)
 have h4:2 ^ (8*(l.length+1))=256*2 ^ (8*l.length):=by rw [Nat.mul_add,Nat.pow_add];omega
 have h5:beN l*256<18446744073709551616:=by omega
 have e:ishl .u64 (beN l:Nat) 8=((beN l*256:Nat):Int):=by
  show IntKind.u64.wrap ((beN l:Int)*2 ^ (min (8:Int).toNat 64))=_
  have:((beN l:Int)*2 ^ (min (8:Int).toNat 64))=((beN l*256:Nat):Int):=by push_cast;rfl
  rw [this]
  exact wrapU64 h5
 rw [e,wrapU64 (by omega),or_u64 h5 (by omega),beN_snoc,show beN l*256=2 ^ 8*beN l by omega,←Nat.two_pow_add_eq_or_of_lt (by omega:c.toNat<2 ^ 8)]
theorem c58 (b:List UInt8) (hb:8≤b.length):Pure prog 58 [sl b] (.int .u64 (beN (b.take 8))):=by
 intro H
 (refine fnS (imm:=imm58) ttQ4_ok func58 ?_;(conv=>whnf))
 refine lO Nat (fun i=>[(0,sl b),(3,.int .u64 (beN (b.take i))),(4,.int .i64 i)]) (fun _=>H) (fun i=>i≤8) (fun i=>8 - i) ⟨0,Nat.zero_le _,⟨rfl,rfl,rfl,zqv⟩,rfl⟩ ?_
 intro i hi
 conv=>whnf
 refine ⟨fun h=>?_,fun h=>?_⟩
 ·have h:(i:Int)<8:=h
  have hi':i<b.length:=by omega
  conv=>whnf
  refine ⟨by decide,?_⟩
  conv=>whnf
  refine ⟨⟨by omega,by show (i:Int)<(b.length:Int);omega⟩,[bC b[i]],at1' (k:=(i:Int).toNat*1) (by rw [Int.toNat_natCast,Nat.mul_one,List.getElem?_map,zqc hi'];rfl),?_⟩
  conv=>whnf
  refine ⟨i+1,by omega,⟨rfl,?_,?_,zqv⟩,rfl,by omega⟩
  ·show PV.int _ (ibits .or .u64 (ishl .u64 (beN (b.take i):Nat) 8) (IntKind.u64.wrap (b[i].toNat:Int)))=PV.int _ _
   have hl:(b.take i).length=i:=by rw [zqr];omega
   rw [List.take_succ_eq_append_getElem hi',be_step2 (b.take i) b[i] (by omega)]
  ·show PV.int _ (IntKind.i64.wrap ((i:Int)+1))=PV.int _ _
   rw [w64 (by omega) (by omega)];simp
 ·have h:¬(i:Int)<8:=h
  have e:i=8:=by omega
  subst e
  conv=>whnf
  exact ⟨rfl,rfl⟩
def cur16 (l:List UInt8) (i:Nat):List UInt8:=l.take i++List.replicate (16 - i) 0
theorem cur16_len (l:List UInt8) (i:Nat) (hl:16≤l.length) (hi:i≤16):(cur16 l i).length=16:=by
 unfold cur16
 rw [zqf,zqr,List.length_replicate];omega
theorem cur16_set (l:List UInt8) (i:Nat) (hl:16≤l.length) (hi:i<16):(cur16 l i).set i (l[i]'(by omega))=cur16 l (i+1):=by
 unfold cur16
 rw [List.set_append_right _ _ (by rw [zqr];omega),zqr,Nat.min_eq_left (by omega),Nat.sub_self,show 16 - i=(16 - (i+1))+1 by omega,List.replicate_succ,List.set_cons_zero,List.take_succ_eq_append_getElem (by omega),List.append_assoc]
 rfl
theorem get2a (H:PH) (a b:PObj):(H++[a,b])[H.length]? = some a:=by simp
theorem get2b (H:PH) (a b:PObj):(H++[a,b])[H.length+1]? = some b:=by simp
theorem set2a (H:PH) (a b o:PObj):(H++[a,b]).set H.length o=H++[o,b]:=by simp
theorem set2b (H:PH) (a b o:PObj):(H++[a,b]).set (H.length+1) o=H++[a,o]:=by
 rw [List.set_append_right _ _ (by omega),show H.length+1 - H.length=1 by omega];rfl
def B16 (l:List UInt8) (v:Nat):PObj:=⟨179,l.map bC,v⟩
def D101_5:Draw:={ imp:=[10,12],win:=[(1,0,1),(5,0,1),(6,0,1),(7,0,1),(8,0,1),(11,1,1),(12,1,1)] }
def D101_6:Draw:={ imp:=[2,3],win:=[(1,0,1),(3,1,1)] }
theorem setCells_app0 (cs:List UInt8) (i:Nat) (x:UInt8) (h:i<cs.length):setCells i [bC x] (cs.map bC)=(cs.set i x).map bC:=by
 have:=setCells_app cs [] i x h
 rw [List.append_nil,List.append_nil] at this
 exact this
theorem agg16 (l:List UInt8) (hl:l.length=16):((dropN 0 (l.map bC)).take 16).map dem=l.map bC:=by
 rw [dropN_eq,List.drop_zero,List.take_of_length_le (by rw [zqq];omega),List.map_map]
 rfl
theorem set16 (l:List UInt8) (hl:l.length=16):setCells 0 (l.map bC) ((List.replicate 16 (0:UInt8)).map bC)=l.map bC:=by
 rw [setCells_eq _ _ _ (by rw [zqq,hl];exact zqn _),List.take_zero,List.drop_of_length_le (by simp [hl]),List.nil_append,List.append_nil]
theorem oldPs_bytesY (l:List UInt8):oldPs (l.map bC)=true:=by
 induction l with
 | nil=>rfl
 | cons x l ih=>simp [oldPs,oldP,bC,ih]
theorem c101x (k:List UInt8) (hk:k.length=32) (H:PH):CK prog 101 [.agg (k.map bC)] H fun r H'=>r=.tup [.agg ((k.take 16).map bC),.agg ((k.drop 16).map bC)]∧∃ext,H'=H++ext:=by
 (refine fnS (imm:=imm101) ttQ4_ok func101 ?_;(conv=>whnf))
 obtain ⟨H3,hH3⟩:∃H3:PH,H3=H++[B16 (List.replicate 16 0) 0,B16 (List.replicate 16 0) 0]:=⟨_,rfl⟩
 have hd16:16≤(k.drop 16).length:=by rw [List.length_drop];omega
 refine lO Nat (fun i=>[(1,.elem (k.map bC)),(2,.ptr (some (H.length,0))),(3,.ptr (some (H.length+1,0))),(4,.ptr (some (H3.length,0))),(5,.ptr (some (H3.length+1,0))),(6,.int .i64 i)]) (fun i=>H3++[B16 (cur16 k i) i,B16 (cur16 (k.drop 16) i) i]) (fun i=>i≤16) (fun i=>16 - i) ⟨0,Nat.zero_le _,⟨rfl,rfl,?_,?_,?_,rfl,zqv⟩,?_⟩ ?_
 ·show PV.ptr (some ((H++[_]).length,0))=_
  simp
 ·show PV.ptr (some ((H++[_]++[_]).length,0))=_
  simp [hH3]
 ·show PV.ptr (some ((H++[_]++[_]++[_]).length,0))=_
  simp [hH3]
 ·subst hH3
  show H++[_]++[_]++[_]++[_]=_
  simp only [List.append_assoc,List.cons_append,List.nil_append]
  rfl
 intro i hi
 conv=>whnf
 refine ⟨fun h=>?_,fun h=>?_⟩
 ·have h:(i:Int)<16:=h
  have hia:i<k.length:=by omega
  have hib:i<(k.drop 16).length:=by omega
  have hib2:16+i<k.length:=by omega
  have hw:IntKind.i64.wrap (16+(i:Int))=((16+i:Nat):Int):=by rw [w64 (by omega) (by omega)];omega
  have hgb:(k.drop 16)[i]=k[16+i]:=by rw [List.getElem_drop]
  have lA:=cur16_len k i (by omega) (by omega)
  have lB:=cur16_len (k.drop 16) i hd16 (by omega)
  conv=>whnf
  refine dO2 D101_5 [H3++[B16 (cur16 k i) i,B16 (cur16 (k.drop 16) i) i],H3++[B16 (cur16 k (i+1)) (i+1),B16 (cur16 (k.drop 16) i) i],H3++[B16 (cur16 k (i+1)) (i+1),B16 (cur16 (k.drop 16) (i+1)) (i+1)]] (by kernel_rfl) rfl trivial ?_
  conv=>whnf
  (refine dS ?_;(conv=>whnf))
  (refine dS2 ?_;(conv=>whnf))
  (refine dS ?_;(conv=>whnf))
  refine ⟨.elem [bC k[i]],⟨⟨by show (0:Int)≤(i:Int);omega,by show (i:Int)<((32:Nat):Int);omega⟩,[bC k[i]],at1' (k:=(i:Int).toNat*1) (by rw [Int.toNat_natCast,Nat.mul_one,List.getElem?_map,zqc hia];rfl),rfl,rfl,zqv⟩,?_⟩
  conv=>whnf
  (refine dS ?_;(conv=>whnf))
  (refine dS2 ?_;(conv=>whnf))
  refine ⟨.int .i64 ((16+i:Nat):Int),⟨⟨zqm (PV.int _) hw,rfl,zqv⟩,⟨zqm (PV.int _) hw,rfl,zqv⟩⟩,?_⟩
  conv=>whnf
  refine ⟨.elem [bC k[16+i]],?_,?_⟩
  ·conv=>whnf
   have hq:∀(j:Nat) (c:PV),[bC k[16+i]][j]? = some c→(k.map bC)[((16+i:Nat):Int).toNat*1+j]? = some c:=at1' (by rw [Int.toNat_natCast,Nat.mul_one,List.getElem?_map,zqc hib2];rfl)
   exact ⟨⟨⟨by omega,by show ((16+i:Nat):Int)<((32:Nat):Int);omega⟩,_,hq,rfl,rfl,zqv⟩,⟨⟨by omega,by show ((16+i:Nat):Int)<((32:Nat):Int);omega⟩,_,hq,rfl,rfl,zqv⟩⟩
  conv=>whnf
  (refine dS2 ?_;(conv=>whnf))
  apply exA
  ·conv=>whnf
   refine ⟨⟨by show (0:Int)≤(i:Int);omega,by show (i:Int)<((16:Nat):Int);omega⟩,rfl,rfl,zqv⟩
  conv=>whnf
  apply exA
  ·conv=>whnf
   ((conv in (_[_]?)=>tactic=>exact (get2a H3 _ _));(conv=>whnf))
   ((conv in (Nat.ble _ _)=>tactic=>exact (show Nat.ble (0+(i:Int).toNat*1+1) ((cur16 k i).map bC).length=true by rw [Nat.ble_eq,zqq,lA];omega));(conv=>whnf))
   refine ⟨rfl,?_,zqv⟩
   refine (set2a H3 _ _ _).trans (zqm (fun o=>H3++[o,_]) ?_)
   show PObj.mk 179 (setCells (0+(i:Int).toNat*1) [bC k[i]] ((cur16 k i).map bC)) (i+1)=_
   rw [show 0+(i:Int).toNat*1=i by omega,setCells_app0 _ _ _ (by omega),cur16_set k i (by omega) (by omega)];rfl
  conv=>whnf
  apply exA
  ·conv=>whnf
   refine ⟨⟨by show (0:Int)≤(i:Int);omega,by show (i:Int)<((16:Nat):Int);omega⟩,rfl,rfl,zqv⟩
  conv=>whnf
  apply exA
  ·conv=>whnf
   ((conv in (_[_]?)=>tactic=>exact (get2b H3 _ _));(conv=>whnf))
   ((conv in (Nat.ble _ _)=>tactic=>exact (show Nat.ble (0+(i:Int).toNat*1+1) ((cur16 (k.drop 16) i).map bC).length=true by rw [Nat.ble_eq,zqq,lB];omega));(conv=>whnf))
   refine ⟨rfl,?_,zqv⟩
   refine (set2b H3 _ _ _).trans (zqm (fun o=>H3++[_,o]) ?_)
   show PObj.mk 179 (setCells (0+(i:Int).toNat*1) [bC k[16+i]] ((cur16 (k.drop 16) i).map bC)) (i+1)=_
   rw [show 0+(i:Int).toNat*1=i by omega,setCells_app0 _ _ _ (by omega),←hgb,cur16_set (k.drop 16) i hd16 (by omega)];rfl
  conv=>whnf
  refine ⟨i+1,by omega,⟨rfl,rfl,rfl,rfl,rfl,?_,zqv⟩,rfl,by omega⟩
  show PV.int _ (IntKind.i64.wrap ((i:Int)+1))=PV.int _ _
  rw [w64 (by omega) (by omega)];simp
 ·have h:¬(i:Int)<16:=h
  have e:i=16:=by omega
  subst e
  have e1:cur16 k 16=k.take 16:=by unfold cur16;exact List.append_nil _
  have e2:cur16 (k.drop 16) 16=k.drop 16:=by
   unfold cur16
   rw [List.take_of_length_le (by rw [List.length_drop];omega)];exact List.append_nil _
  rw [e1,e2]
  have h1:(k.take 16).length=16:=by rw [zqr];omega
  have h2:(k.drop 16).length=16:=by rw [List.length_drop];omega
  have g1:(H3++[B16 (k.take 16) 16,B16 (k.drop 16) 16])[H.length]? = some (B16 (List.replicate 16 0) 0):=by
   rw [zq2 (by rw [hH3];simp),hH3];exact get2a H _ _
  have g2:(H3++[B16 (k.take 16) 16,B16 (k.drop 16) 16])[H.length+1]? = some (B16 (List.replicate 16 0) 0):=by
   rw [zq2 (by rw [hH3];simp),hH3];exact get2b H _ _
  have g3:(H3++[B16 (k.take 16) 16,B16 (k.drop 16) 16])[H3.length]? = some (B16 (k.take 16) 16):=get2a H3 _ _
  have g4:(H3++[B16 (k.take 16) 16,B16 (k.drop 16) 16])[H3.length+1]? = some (B16 (k.drop 16) 16):=get2b H3 _ _
  have b1:Nat.ble 16 (dropN 0 ((k.take 16).map bC)).length=true:=by rw [Nat.ble_eq,dropN_eq,List.drop_zero,zqq,h1];exact zqn _
  have b2:Nat.ble 16 (dropN 0 ((k.drop 16).map bC)).length=true:=by rw [Nat.ble_eq,dropN_eq,List.drop_zero,zqq,h2];exact zqn _
  have q1:Nat.beq ((k.take 16).map bC).length 16=true:=by rw [zqq,h1];rfl
  have q2:Nat.beq ((k.drop 16).map bC).length 16=true:=by rw [zqq,h2];rfl
  have hlen3:H3.length=H.length+2:=by rw [hH3];simp
  have hXl:(H3++[B16 (k.take 16) 16,B16 (k.drop 16) 16]).length=H3.length+2:=by simp
  have hfr:∀j,j<H.length→(H3++[B16 (k.take 16) 16,B16 (k.drop 16) 16])[j]? = H[j]?:=fun j hj=>by
   rw [zq2 (by omega),hH3,zq2 hj]
  generalize H3++[B16 (k.take 16) 16,B16 (k.drop 16) 16]=X at g1 g2 g3 g4 hXl hfr ⊢
  have g4':(X.set H.length (B16 (k.take 16) 1))[H3.length+1]? = some (B16 (k.drop 16) 16):=by rw [zqj (by omega)];exact g4
  have g2':(X.set H.length (B16 (k.take 16) 1))[H.length+1]? = some (B16 (List.replicate 16 0) 0):=by rw [zqj (by omega)];exact g2
  conv=>whnf
  refine dO2 D101_6 [X,X.set H.length (B16 (k.take 16) 1),(X.set H.length (B16 (k.take 16) 1)).set (H.length+1) (B16 (k.drop 16) 1)] (by kernel_rfl) rfl trivial ?_
  conv=>whnf
  refine ⟨.agg ((k.take 16).map bC),?_,?_⟩
  ·conv=>whnf
   ((conv in (_[_]?)=>tactic=>exact g3);(conv=>whnf))
   ((conv in (Nat.ble _ _)=>tactic=>exact b1);(conv=>whnf))
   exact ⟨zqm PV.agg (agg16 _ h1),rfl,zqv⟩
  conv=>whnf
  refine ⟨.agg ((k.drop 16).map bC),?_,?_⟩
  ·conv=>whnf
   refine ⟨?_,?_⟩
   ·conv=>whnf
    ((conv in (_[_]?)=>tactic=>exact g4);(conv=>whnf))
    ((conv in (Nat.ble _ _)=>tactic=>exact b2);(conv=>whnf))
    exact ⟨zqm PV.agg (agg16 _ h2),rfl,zqv⟩
   ·conv=>whnf
    ((conv in (_[_]?)=>tactic=>exact g4');(conv=>whnf))
    ((conv in (Nat.ble _ _)=>tactic=>exact b2);(conv=>whnf))
    exact ⟨zqm PV.agg (agg16 _ h2),rfl,zqv⟩
  conv=>whnf
  apply exA
  ·conv=>whnf
   ((conv in (_[_]?)=>tactic=>exact g1);(conv=>whnf))
   (conv in (Nat.beq _ _)=>tactic=>exact q1)
   conv=>whnf
   (conv in (List.all _ _)=>tactic=>exact allOne (k.take 16))
   conv=>whnf
   refine ⟨rfl,?_,zqv⟩
   show X.set H.length (PObj.mk 179 (setCells 0 ((k.take 16).map bC) ((List.replicate 16 (0:UInt8)).map bC)) (0+1))=_
   rw [set16 _ h1];rfl
  conv=>whnf
  apply exA
  ·conv=>whnf
   ((conv in (_[_]?)=>tactic=>exact g2');(conv=>whnf))
   (conv in (Nat.beq _ _)=>tactic=>exact q2)
   conv=>whnf
   (conv in (List.all _ _)=>tactic=>exact allOne (k.drop 16))
   conv=>whnf
   refine ⟨rfl,?_,zqv⟩
   show (X.set H.length _).set (H.length+1) (PObj.mk 179 (setCells 0 ((k.drop 16).map bC) ((List.replicate 16 (0:UInt8)).map bC)) (0+1))=_
   rw [set16 _ h2];rfl
  conv=>whnf
  have r1:((X.set H.length (B16 (k.take 16) 1)).set (H.length+1) (B16 (k.drop 16) 1))[H.length]? = some (B16 (k.take 16) 1):=by
   rw [zqj (by omega)];exact gS g1
  have r2:((X.set H.length (B16 (k.take 16) 1)).set (H.length+1) (B16 (k.drop 16) 1))[H.length+1]? = some (B16 (k.drop 16) 1):=gS g2'
  ((conv in (_[_]?)=>tactic=>exact r1);(conv=>whnf))
  ((conv in (Nat.ble _ _)=>tactic=>exact b1);(conv=>whnf))
  ((conv in (_[_]?)=>tactic=>exact r2);(conv=>whnf))
  ((conv in (Nat.ble _ _)=>tactic=>exact b2);(conv=>whnf))
  refine ⟨?_,?_⟩
  ·show PV.tup [.agg (((dropN 0 ((k.take 16).map bC)).take 16).map dem),.agg (((dropN 0 ((k.drop 16).map bC)).take 16).map dem)]=_
   rw [agg16 _ h1,agg16 _ h2]
  ·refine ext_of (by show H.length≤((X.set _ _).set _ _).length;rw [List.length_set,List.length_set];omega) fun j hj=>?_
   show ((X.set H.length _).set (H.length+1) _)[j]? = _
   rw [zqj (by omega),zqj (by omega)]
   exact hfr j hj
theorem c101 (k:List UInt8) (hk:k.length=32):Pure prog 101 [.agg (k.map bC)] (.tup [.agg ((k.take 16).map bC),.agg ((k.drop 16).map bC)]) :=
 Pure.of_gc (by show (oldPs ((k.take 16).map bC)&&(oldPs ((k.drop 16).map bC)&&true))=true;rw [oldPs_bytesY,oldPs_bytesY];rfl) fun H=>c101x k hk H
theorem agg32 (l:List UInt8) (hl:l.length=32):((dropN 0 (l.map bC)).take 32).map dem=l.map bC:=by
 rw [dropN_eq,List.drop_zero,List.take_of_length_le (by rw [zqq];omega),List.map_map]
 rfl
theorem gA (H:PH) (a b:PObj):(H++[a]++[b])[H.length]? = some a:=by simp
theorem gB (H:PH) (a b c:PObj):((H++[a]++[b]).set H.length c)[(H++[a]).length]? = some b:=by
 rw [zqj (by simp)];exact gL _ b
def D59:Draw:={ cons:=[(5,[17])] }
theorem c59x (k:List UInt8) (hk:k.length=32) (u:Int) (b:List UInt8) (hb:b.length≤900000) (H:PH):CK prog 59 [.agg (k.map bC),.int .i64 u,sl b] H fun r H'=>r=sl (tagV (k.drop 16) u b)∧∃ext,H'=H++ext:=by
 have h1:(k.take 16).length=16:=by rw [zqr];omega
 have h2:(k.drop 16).length=16:=by rw [List.length_drop];omega
 have q1:Nat.beq ((k.take 16).map bC).length 16=true:=by rw [zqq,h1];rfl
 have q2:Nat.beq ((k.drop 16).map bC).length 16=true:=by rw [zqq,h2];rfl
 have b2:Nat.ble 16 (dropN 0 ((k.drop 16).map bC)).length=true:=by rw [Nat.ble_eq,dropN_eq,List.drop_zero,zqq,h2];exact zqn _
 have b32:Nat.ble 32 (dropN 0 (k.map bC)).length=true:=by rw [Nat.ble_eq,dropN_eq,List.drop_zero,zqq,hk];exact zqn _
 have hs:=set16 (k.drop 16) h2
 have b2':Nat.ble 16 (dropN 0 (setCells 0 ((k.drop 16).map bC) ((List.replicate 16 (0:UInt8)).map bC))).length=true:=by rw [hs];exact b2
 have e2:((dropN 0 (setCells 0 ((k.drop 16).map bC) ((List.replicate 16 (0:UInt8)).map bC))).take 16).map dem=(k.drop 16).map bC:=by rw [hs];exact agg16 _ h2
 (refine fnS (imm:=imm59) ttQ4_ok func59 ?_;(conv=>whnf))
 ((conv in (Nat.ble _ _)=>tactic=>exact b32);(conv=>whnf))
 refine cA (zqm (fun z=>[PV.agg z]) (agg32 k hk)) (cP (c101 k hk) ?_)
 conv=>whnf
 ((conv in (_[_]?)=>tactic=>exact (gA H _ _));(conv=>whnf))
 (conv in (Nat.beq _ _)=>tactic=>exact q1)
 conv=>whnf
 (conv in (List.all _ _)=>tactic=>exact allOne (k.take 16))
 conv=>whnf
 ((conv in (_[_]?)=>tactic=>exact (gB H _ _ _));(conv=>whnf))
 (conv in (Nat.beq _ _)=>tactic=>exact q2)
 conv=>whnf
 (conv in (List.all _ _)=>tactic=>exact allOne (k.drop 16))
 conv=>whnf
 refine dO2 D59 [_] (by kernel_rfl) rfl trivial ?_
 conv=>whnf
 refine ⟨.agg ((k.drop 16).map bC),?_,?_⟩
 ·conv=>whnf
  ((conv in (_[_]?)=>tactic=>exact (gS (gB H _ _ _)));(conv=>whnf))
  ((conv in (Nat.ble _ _)=>tactic=>exact b2');(conv=>whnf))
  exact ⟨zqm PV.agg e2,rfl,zqv⟩
 conv=>whnf
 iterate 4 (refine dS ?_;(conv=>whnf))
 apply exA
 ·conv=>whnf
  refine ⟨⟨by show (1+b.length)*1≤140737488355328;omega,by rw [zqq,Nat.mul_one],allOne b⟩,?_⟩
  conv=>whnf
  exact ⟨rfl,rfl,zqv⟩
 conv=>whnf
 have ea:PV.slice (1+b.length) ([PV.int .u8 (IntKind.u8.wrap u)]++b.map bC) none=sl (byteI u::b):=by
  rw [byteC_I,Nat.add_comm];rfl
 refine ⟨_,cA (zqm (fun z=>[PV.agg ((k.drop 16).map bC),z]) ea) (cP (c102 (k.drop 16) h2 (byteI u::b) (by show b.length+1≤_;omega)) ⟨rfl,rfl,zqv⟩),?_⟩
 conv=>whnf
 refine ⟨_,cP (c94 _) ⟨rfl,rfl,zqv⟩,?_⟩
 conv=>whnf
 (refine dS ?_;(conv=>whnf))
 exact ⟨rfl,(((Ext.refl H).push _).push _).set (zqn _) _ |>.set (by simp) _⟩
theorem c59 (k:List UInt8) (hk:k.length=32) (u:Int) (b:List UInt8) (hb:b.length≤900000):Pure prog 59 [.agg (k.map bC),.int .i64 u,sl b] (sl (tagV (k.drop 16) u b)) :=
 Pure.of_gc (by show oldPs _=true;exact oldPs_bytesY _) fun H=>c59x k hk u b hb H
def D60_7:Draw:={ cons:=[(11,[12]),(12,[46])],fs:=[(0,11,.slot 12)],looks:=[(0,12)] }
theorem xorL_take (p st:List UInt8) (i:Nat) (h:st.length=p.length) (hi:i<p.length):(xorL p st).take (i+1)=(xorL p st).take i++[p[i] ^^^ st[i]]:=by
 have hx:i<(xorL p st).length:=by rw [xorL_len p st h];exact hi
 rw [List.take_succ_eq_append_getElem hx]
 have:∀(a b:List UInt8) (h:i<(List.zipWith (· ^^^ ·) a b).length) (ha:i<a.length) (hb:i<b.length),(List.zipWith (· ^^^ ·) a b)[i]=a[i] ^^^ b[i]:=fun a b h ha hb=>by simp
 rw [show (xorL p st)[i]=p[i] ^^^ st[i] from this p st hx hi (by omega)]
theorem gC (H:PH) (a b c d:PObj):(((H++[a]++[b]).set H.length c).set (H++[a]).length d)[H.length]? = some c:=by
 rw [zqj (by simp),List.getElem?_set_self (by simp)]
theorem c60x (k:List UInt8) (hk:k.length=32) (u nn:Int) (p:List UInt8) (hp:p.length≤900000) (H:PH):CK prog 60 [.agg (k.map bC),.int .i64 u,.int .u64 nn,sl p] H fun r H'=>r=sl (xorL p (streamV (k.take 16) (mixN nn u) p.length))∧∃ext,H'=H++ext:=by
 have h1:(k.take 16).length=16:=by rw [zqr];omega
 have h2:(k.drop 16).length=16:=by rw [List.length_drop];omega
 have q1:Nat.beq ((k.take 16).map bC).length 16=true:=by rw [zqq,h1];rfl
 have q2:Nat.beq ((k.drop 16).map bC).length 16=true:=by rw [zqq,h2];rfl
 have b1:Nat.ble 16 (dropN 0 ((k.take 16).map bC)).length=true:=by rw [Nat.ble_eq,dropN_eq,List.drop_zero,zqq,h1];exact zqn _
 have b32:Nat.ble 32 (dropN 0 (k.map bC)).length=true:=by rw [Nat.ble_eq,dropN_eq,List.drop_zero,zqq,hk];exact zqn _
 have hs:=set16 (k.take 16) h1
 have b1':Nat.ble 16 (dropN 0 (setCells 0 ((k.take 16).map bC) ((List.replicate 16 (0:UInt8)).map bC))).length=true:=by rw [hs];exact b1
 have e1:((dropN 0 (setCells 0 ((k.take 16).map bC) ((List.replicate 16 (0:UInt8)).map bC))).take 16).map dem=(k.take 16).map bC:=by rw [hs];exact agg16 _ h1
 (refine fnS (imm:=imm60) ttQ4_ok func60 ?_;(conv=>whnf))
 ((conv in (Nat.ble _ _)=>tactic=>exact b32);(conv=>whnf))
 refine cA (zqm (fun z=>[PV.agg z]) (agg32 k hk)) (cP (c101 k hk) ?_)
 conv=>whnf
 ((conv in (_[_]?)=>tactic=>exact (gA H _ _));(conv=>whnf))
 (conv in (Nat.beq _ _)=>tactic=>exact q1)
 conv=>whnf
 (conv in (List.all _ _)=>tactic=>exact allOne (k.take 16))
 conv=>whnf
 ((conv in (_[_]?)=>tactic=>exact (gB H _ _ _));(conv=>whnf))
 (conv in (Nat.beq _ _)=>tactic=>exact q2)
 conv=>whnf
 (conv in (List.all _ _)=>tactic=>exact allOne (k.drop 16))
 conv=>whnf
 ((conv in (_[_]?)=>tactic=>exact (gC H _ _ _ _));(conv=>whnf))
 ((conv in (Nat.ble _ _)=>tactic=>exact b1');(conv=>whnf))
 refine cA (zqm (fun z=>[PV.agg z]) e1) (cP (c104 (k.take 16) h1) ?_)
 conv=>whnf
 refine cA rfl (cP (c103 (k.take 16) (mixN nn u) p.length (by omega)) ?_)
 conv=>whnf
 generalize hst:streamV (k.take 16) (mixN nn u) p.length=st
 have hl:st.length=p.length:=by rw [←hst,streamV_len]
 refine lO Nat (fun i=>[(3,sl p),(11,sl st),(12,ow ((xorL p st).take i)),(13,.int .i64 i)]) (fun _=>_) (fun i=>i≤p.length) (fun i=>p.length - i) ⟨0,Nat.zero_le _,⟨rfl,rfl,rfl,rfl,zqv⟩,rfl⟩ ?_
 intro i hi
 conv=>whnf
 refine ⟨fun h=>?_,fun h=>?_⟩
 ·have h:(i:Int)<p.length:=h
  have hip:i<p.length:=by omega
  have his:i<st.length:=by omega
  conv=>whnf
  refine dO2 D60_7 [_] (by kernel_rfl) rfl ⟨trivial,zqv⟩ ?_
  conv=>whnf
  apply exA
  ·conv=>whnf
   exact ⟨rfl,rfl,rfl,zqv⟩
  conv=>whnf
  iterate 2 (refine dS ?_;(conv=>whnf))
  refine ⟨.elem [bC p[i]],⟨⟨by show (0:Int)≤(i:Int);omega,h⟩,[bC p[i]],at1' (k:=(i:Int).toNat*1) (by rw [Int.toNat_natCast,Nat.mul_one,List.getElem?_map,zqc hip];rfl),rfl,rfl,zqv⟩,?_⟩
  conv=>whnf
  iterate 3 (refine dS ?_;(conv=>whnf))
  refine ⟨.elem [bC st[i]],⟨⟨by show (0:Int)≤(i:Int);omega,by show (i:Int)<(st.length:Int);omega⟩,[bC st[i]],at1' (k:=(i:Int).toNat*1) (by rw [Int.toNat_natCast,Nat.mul_one,List.getElem?_map,zqc his];rfl),rfl,rfl,zqv⟩,?_⟩
  conv=>whnf
  iterate 3 (refine dS ?_;(conv=>whnf))
  have hlt:((xorL p st).take i).length=i:=by rw [zqr,xorL_len p st hl];omega
  apply exA
  ·conv=>whnf
   refine ⟨⟨by show (((xorL p st).take i).length+1)*1≤140737488355328;omega,rfl,rfl⟩,?_⟩
   conv=>whnf
   exact ⟨rfl,rfl,zqv⟩
  conv=>whnf
  (refine dS ?_;(conv=>whnf))
  refine ⟨i+1,by omega,⟨rfl,rfl,?_,?_,zqv⟩,rfl,by omega⟩
  ·show PV.slice (((xorL p st).take i).length+1) (((xorL p st).take i).map bC++[.int .u8 (ibits .xor .u8 (p[i].toNat:Int) (st[i].toNat:Int))]) (some 5)=ow ((xorL p st).take (i+1))
   rw [xor8,xorL_take p st i hl hip,←ow_app]
   rfl
  ·show PV.int _ (IntKind.i64.wrap ((i:Int)+1))=PV.int _ _
   rw [w64 (by omega) (by omega)];simp
 ·have h:¬(i:Int)<p.length:=h
  have e:(xorL p st).take i=xorL p st:=List.take_of_length_le (by rw [xorL_len p st hl];omega)
  rw [e]
  conv=>whnf
  exact ⟨rfl,((((Ext.refl H).push _).push _).set (zqn _) _).set (by simp) _⟩
theorem c60 (k:List UInt8) (hk:k.length=32) (u nn:Int) (p:List UInt8) (hp:p.length≤900000):Pure prog 60 [.agg (k.map bC),.int .i64 u,.int .u64 nn,sl p] (sl (xorL p (streamV (k.take 16) (mixN nn u) p.length))) :=
 Pure.of_gc (by show oldPs _=true;exact oldPs_bytesY _) fun H=>c60x k hk u nn p hp H
def D51:Draw:={ cons:=[(9,[32]),(10,[39])] }
theorem c51 (k:List UInt8) (hk:k.length=32) (u n:Int) (hu:isUseB u=true) (hn0:0≤n) (hn1:n≤1099511627776) (p:List UInt8) (hp:p.length≤784) :
  Pure prog 51 [.agg (k.map bC),.int .i64 u,.int .i64 n,sl p] (.tup [ow (sealV (k.drop 16) u (IntKind.u64.wrap n) p (streamV (k.take 16) (mixN (IntKind.u64.wrap n) u) p.length)),.int .i64 0]):=by
 intro H
 have hu':0≤u∧u≤255:=by
  unfold isUseB at hu
  rw [zqb] at hu
  exact ⟨of_decide_eq_true hu.1,of_decide_eq_true hu.2⟩
 have b32:Nat.ble 32 (dropN 0 (k.map bC)).length=true:=by rw [Nat.ble_eq,dropN_eq,List.drop_zero,zqq,hk];exact zqn _
 (refine fnS (imm:=imm51) ttQ4_ok func51 ?_;(conv=>whnf))
 refine ⟨fun h=>absurd h (by omega),fun _=>?_⟩
 conv=>whnf
 refine ⟨fun h=>absurd h (by omega),fun _=>?_⟩
 conv=>whnf
 refine ⟨fun h=>absurd h (by omega),fun _=>?_⟩
 conv=>whnf
 refine ⟨fun h=>absurd h (by omega),fun _=>?_⟩
 conv=>whnf
 refine ⟨fun h=>absurd (show (784:Int)<p.length from h) (by omega),fun _=>?_⟩
 conv=>whnf
 generalize hst:streamV (k.take 16) (mixN (IntKind.u64.wrap n) u) p.length=st
 have hl:st.length=p.length:=by rw [←hst,streamV_len]
 have hx:=xorL_len p st hl
 refine dO2 D51 [H] (by kernel_rfl) rfl trivial ?_
 conv=>whnf
 iterate 2 (refine dS ?_;(conv=>whnf))
 refine ⟨_,cP (c94 _) ⟨rfl,rfl,zqv⟩,?_⟩
 conv=>whnf
 refine ⟨.agg (k.map bC),?_,?_⟩
 ·conv=>whnf
  ((conv in (Nat.ble _ _)=>tactic=>exact b32);(conv=>whnf))
  exact ⟨zqm PV.agg (agg32 k hk),rfl,zqv⟩
 conv=>whnf
 iterate 4 (refine dS ?_;(conv=>whnf))
 refine ⟨sl (xorL p st),cP ((c60 k hk u (IntKind.u64.wrap n) p (by omega)).of_eq (by rw [hst])) ⟨rfl,rfl,zqv⟩,?_⟩
 conv=>whnf
 apply exA
 ·conv=>whnf
  refine ⟨⟨by show ((8+(xorL p st).length)*1≤_);omega,by simp,allOne _⟩,?_⟩
  conv=>whnf
  exact ⟨rfl,rfl,zqv⟩
 conv=>whnf
 (refine dS ?_;(conv=>whnf))
 ((conv in (Nat.ble _ _)=>tactic=>exact b32);(conv=>whnf))
 have ha:(bigV (IntKind.u64.wrap n)++xorL p st).length≤900000:=by rw [zqf,bigV_len];omega
 refine cA (args':=[.agg (k.map bC),.int .i64 u,sl (bigV (IntKind.u64.wrap n)++xorL p st)]) ?_ (cP (c59 k hk u _ ha) ?_)
 ·have ek:((k.map bC).take 32).map dem=k.map bC:=agg32 k hk
  show [PV.agg (((k.map bC).take 32).map dem),PV.int .i64 u,PV.slice ((bigV (IntKind.u64.wrap n)).length+(xorL p st).length) ((bigV (IntKind.u64.wrap n)).map bC++(xorL p st).map bC) none]=_
  rw [ek]
  unfold sl
  rw [zqf,List.map_append]
 conv=>whnf
 refine ⟨⟨by show ((8+(xorL p st).length+8)*1≤_);omega,by simp,allOne _⟩,?_⟩
 conv=>whnf
 refine ⟨?_,rfl⟩
 show PV.tup [.slice ((bigV (IntKind.u64.wrap n)).length+(xorL p st).length+(tagV (k.drop 16) u (bigV (IntKind.u64.wrap n)++xorL p st)).length) (((bigV (IntKind.u64.wrap n)).map bC++(xorL p st).map bC)++(tagV (k.drop 16) u (bigV (IntKind.u64.wrap n)++xorL p st)).map bC) (some 5),.int .i64 0]=_
 rw [←zqf,←List.map_append,ow_app]
 rfl
theorem c23o (k:List UInt8) (hk:k.length=32) (u:Int) (hu:isUseB u=true) (b:List UInt8) (h16:16≤b.length) (h800:b.length≤800) (H:PH) :
  CK prog 23 [.agg (k.map bC),.int .i64 u,sl b] H fun x H'=>(match openB (k.drop 16) u b with
   | true=>x=.tup [sl (xorL ((b.take (b.length - 8)).drop 8) (streamV (k.take 16) (mixN (beN (b.take 8):Nat) u) (b.length - 16))),.int .i64 0]
   | false=>x=.tup [ow [],.int .i64 3])∧H'=H:=by
 have hu':0≤u∧u≤255:=by
  unfold isUseB at hu
  rw [zqb] at hu
  exact ⟨of_decide_eq_true hu.1,of_decide_eq_true hu.2⟩
 have b32:Nat.ble 32 (dropN 0 (k.map bC)).length=true:=by rw [Nat.ble_eq,dropN_eq,List.drop_zero,zqq,hk];exact zqn _
 have hw8:IntKind.i64.wrap ((b.length:Int) - 8)=((b.length - 8:Nat):Int):=by rw [w64 (by omega) (by omega)];omega
 have hfst:decide (16≤b.length)=true:=zqe h16
 have hsnd:decide (b.length≤800)=true:=zqe h800
 have hal:(b.take (b.length - 8)).length=b.length - 8:=by rw [zqr];omega
 have hpl:((b.take (b.length - 8)).drop 8).length=b.length - 16:=by rw [List.length_drop,hal];omega
 (refine fnS (imm:=imm23) ttQ4_ok func23 ?_;(conv=>whnf))
 refine ⟨fun h=>absurd h (by omega),fun _=>?_⟩
 conv=>whnf
 refine ⟨fun h=>absurd h (by omega),fun _=>?_⟩
 conv=>whnf
 refine ⟨fun h=>absurd (show (b.length:Int)<16 from h) (by omega),fun _=>?_⟩
 conv=>whnf
 refine ⟨fun h=>absurd (show (800:Int)<b.length from h) (by omega),fun _=>?_⟩
 conv=>whnf
 refine cP (c58 b (by omega)) ?_
 conv=>whnf
 refine dO2 {} [H] (by kernel_rfl) rfl trivial ?_
 conv=>whnf
 (refine dS ?_;(conv=>whnf))
 by_cases hn:beN (b.take 8)≤1099511627776
 ·refine ⟨.bool false,?_,?_⟩
  ·conv=>whnf
   exact ⟨fun h=>absurd (show (1099511627776:Int)<((beN (b.take 8):Nat):Int) from h) (by omega),fun _=>⟨rfl,rfl,zqv⟩⟩
  conv=>whnf
  (refine dS ?_;(conv=>whnf))
  refine ⟨.agg (k.map bC),?_,?_⟩
  ·conv=>whnf
   ((conv in (Nat.ble _ _)=>tactic=>exact b32);(conv=>whnf))
   exact ⟨zqm PV.agg (agg32 k hk),rfl,zqv⟩
  conv=>whnf
  iterate 2 (refine dS ?_;(conv=>whnf))
  refine ⟨.int .i64 ((b.length - 8:Nat):Int),⟨zqm (PV.int _) hw8,rfl,zqv⟩,?_⟩
  conv=>whnf
  refine ⟨sl ((b.take (b.length - 8)).drop 0),⟨⟨by omega,by omega,by omega⟩,sl_cut2 b 0 ((b.length - 8:Nat):Int) ⟨by omega,by omega,by omega⟩,rfl,zqv⟩,?_⟩
  conv=>whnf
  refine ⟨_,cP (c59 k hk u (b.take (b.length - 8)) (by omega)) ⟨rfl,rfl,zqv⟩,?_⟩
  conv=>whnf
  refine ⟨.str (tagV (k.drop 16) u (b.take (b.length - 8))),⟨tagV (k.drop 16) u (b.take (b.length - 8)),⟨rfl,rfl⟩,rfl,rfl,zqv⟩,?_⟩
  conv=>whnf
  (refine dS ?_;(conv=>whnf))
  refine ⟨.int .i64 ((b.length - 8:Nat):Int),⟨zqm (PV.int _) hw8,rfl,zqv⟩,?_⟩
  conv=>whnf
  refine ⟨sl ((b.take b.length).drop (b.length - 8)),⟨⟨by omega,by omega,by omega⟩,sl_cut2 b ((b.length - 8:Nat):Int) (b.length:Int) ⟨by omega,by omega,by omega⟩,rfl,zqv⟩,?_⟩
  conv=>whnf
  refine ⟨.str ((b.take b.length).drop (b.length - 8)),⟨(b.take b.length).drop (b.length - 8),⟨rfl,rfl⟩,rfl,rfl,zqv⟩,?_⟩
  rw [List.take_length]
  conv=>whnf
  by_cases hq:tagV (k.drop 16) u (b.take (b.length - 8))=b.drop (b.length - 8)
  ·have hop:openB (k.drop 16) u b=true:=by unfold openB;rw [hfst,hsnd,zqe hn,zqe hq];rfl
   rw [hop]
   refine ⟨.bool false,?_,?_⟩
   ·conv=>whnf
    exact ⟨fun _=>⟨rfl,rfl,zqv⟩,fun h=>absurd hq h⟩
   conv=>whnf
   (refine dS ?_;(conv=>whnf))
   refine dO2 {} [H] (by kernel_rfl) rfl trivial ?_
   conv=>whnf
   refine ⟨.agg (k.map bC),?_,?_⟩
   ·conv=>whnf
    ((conv in (Nat.ble _ _)=>tactic=>exact b32);(conv=>whnf))
    exact ⟨zqm PV.agg (agg32 k hk),rfl,zqv⟩
   conv=>whnf
   iterate 3 (refine dS ?_;(conv=>whnf))
   refine ⟨.int .i64 ((b.length - 8:Nat):Int),⟨zqm (PV.int _) hw8,rfl,zqv⟩,?_⟩
   conv=>whnf
   refine ⟨sl ((b.take (b.length - 8)).drop 8),⟨⟨by omega,by omega,by omega⟩,sl_cut2 b 8 ((b.length - 8:Nat):Int) ⟨by omega,by omega,by omega⟩,rfl,zqv⟩,?_⟩
   conv=>whnf
   refine ⟨_,cP ((c60 k hk u (beN (b.take 8):Nat) ((b.take (b.length - 8)).drop 8) (by omega)).of_eq (by rw [hpl])) ⟨rfl,rfl,zqv⟩,?_⟩
   conv=>whnf
   iterate 2 (refine dS ?_;(conv=>whnf))
   exact ⟨rfl,rfl⟩
  ·have hop:openB (k.drop 16) u b=false:=by unfold openB;rw [zqd hq,zq3]
   rw [hop]
   refine ⟨.bool true,?_,?_⟩
   ·conv=>whnf
    exact ⟨fun h=>absurd h hq,fun _=>⟨rfl,rfl,zqv⟩⟩
   conv=>whnf
   (refine dS ?_;(conv=>whnf))
   exact ⟨rfl,rfl⟩
 ·have hop:openB (k.drop 16) u b=false:=by unfold openB;rw [zqd hn,zq3,zq4]
  rw [hop]
  refine ⟨.bool true,?_,?_⟩
  ·conv=>whnf
   exact ⟨fun _=>⟨rfl,rfl,zqv⟩,fun h=>absurd (show (1099511627776:Int)<((beN (b.take 8):Nat):Int) by omega) h⟩
  conv=>whnf
  iterate 14 (refine dS ?_;(conv=>whnf))
  exact ⟨rfl,rfl⟩
set_option maxHeartbeats 1000000
/-! How the heap goes on while boxes seal and open. -/
theorem byteC_inj {a b:UInt8} (h:bC a=bC b):a=b:=by
 have h:PV.int .u8 (a.toNat:Int)=PV.int .u8 (b.toNat:Int):=h
 injection h with _ h
 exact (byte_int a b).1 h
theorem map_byteC_inj:∀{a b:List UInt8},a.map bC=b.map bC→a=b
 | [],[],_=>rfl
 | [],_::_,h=>by simp at h
 | _::_,[],h=>by simp at h
 | x::a,y::b,h=>by
  rw [List.map_cons,List.map_cons] at h
  injection h with h1 h2
  rw [byteC_inj h1,map_byteC_inj h2]
theorem keyO_take {k:List UInt8} (hk:k.length=16) (d m s:Int) (l:List Int) (md:Int) (v:Nat):(keyO k d m s l md v).cs.take 16=k.map bC:=by
 show List.take 16 ((k.map bC++[.int .u32 d,.int .i32 m,.int .u32 s])++l.map u32C++[.int .u32 md])=_
 rw [List.append_assoc,List.append_assoc,List.take_append_of_le_length (by simp [hk]),List.take_of_length_le (by simp [hk])]
theorem KeySt.take {k:List UInt8} {o:PObj} (h:KeySt k o) (hk:k.length=16):o.cs.take 16=k.map bC:=by
 rcases h with ⟨v,rfl⟩ | ⟨v,rfl⟩
 ·exact keyO_take hk ..
 ·exact keyO_take hk ..
def keyT:Nat:=(keyO [] 0 0 0 [] 0 0).T
def boxT:Nat:=(boxS 0 [] 0 0 0 0).T
theorem KeySt.T {k:List UInt8} {o:PObj} (h:KeySt k o):o.T=keyT:=by rcases h with ⟨v,rfl⟩ | ⟨v,rfl⟩ <;> rfl
theorem key_box:keyT≠boxT:=by decide
theorem boxS_inj {sid sid':Nat} {sp sp':List UInt8} {s o r s' o' r':Int} {v v':Nat} (h:boxS sid sp s o r v=boxS sid' sp' s' o' r' v'):sid=sid'∧sp=sp':=by
 have h:[PV.ptr (some (sid,0))]++sp.map bC++[.int .i64 s,.int .i64 o,.int .i64 r]=[PV.ptr (some (sid',0))]++sp'.map bC++[.int .i64 s',.int .i64 o',.int .i64 r']:=zqm PObj.cs h
 have h1:=(List.append_inj' h rfl).1
 have h2:PV.ptr (some (sid,0))::sp.map bC=PV.ptr (some (sid',0))::sp'.map bC:=h1
 injection h2 with h3 h4
 injection h3 with h3
 injection h3 with h3
 injection h3 with h3 _
 exact ⟨h3,map_byteC_inj h4⟩
def BoxAt (H:PH) (bid:Nat) (key:List UInt8):Prop:=key.length=32∧∃sid s o r v so,H[bid]? = some (boxS sid (key.drop 16) s o r v)∧H[sid]? = some so∧KeySt (key.take 16) so
structure Evo (S:Nat→Prop) (H H':PH):Prop where
 len:H.length≤H'.length
 box:∀bid key,BoxAt H bid key→BoxAt H' bid key
 same:∀(id:Nat) (o:PObj),H[id]? = some o→¬S id→o.T≠keyT→o.T≠boxT→H'[id]? = some o
theorem Evo.trans {S:Nat→Prop} {H H1 H2:PH} (h:Evo S H H1) (k:Evo S H1 H2):Evo S H H2 :=
 ⟨Nat.le_trans h.len k.len,fun b key hb=>k.box b key (h.box b key hb),fun id o ho hs h1 h2=>k.same id o (h.same id o ho hs h1 h2) hs h1 h2⟩
theorem Evo.mono {S S':Nat→Prop} {H H':PH} (h:Evo S H H') (hs:∀id,S id→S' id):Evo S' H H':=⟨h.len,h.box,fun id o ho hn=>h.same id o ho fun hh=>hn (hs id hh)⟩
theorem Evo.app {S:Nat→Prop} (H l:PH):Evo S H (H++l) :=
 have g:∀(id:Nat) (o:PObj),H[id]? = some o→(H++l)[id]? = some o:=fun id o h=>by rw [zq2 (zq1.1 h).1];exact h
 ⟨by simp,fun b key ⟨hk,sid,s,o,r,v,so,h1,h2,h3⟩=>⟨hk,sid,s,o,r,v,so,g _ _ h1,g _ _ h2,h3⟩,fun id o h _ _ _=>g id o h⟩
theorem Evo.setBox {S:Nat→Prop} {H:PH} {bid sid:Nat} {sp:List UInt8} {s o r:Int} {v:Nat} (h:H[bid]? = some (boxS sid sp s o r v)) (s' o' r':Int) (v':Nat):Evo S H (H.set bid (boxS sid sp s' o' r' v')):=by
 refine ⟨by simp,fun b key ⟨hk,sid2,s2,o2,r2,v2,so,h1,h2,h3⟩=>?_,fun id x hx _ _ hb=>?_⟩
 ·have hne:bid≠sid2:=fun e=>by
   subst e
   rw [h] at h2;cases h2
   exact key_box h3.T.symm
  by_cases e:bid=b
  ·subst e
   rw [h] at h1
   obtain ⟨rfl,rfl⟩:=boxS_inj (Option.some.inj h1)
   exact ⟨hk,sid,s',o',r',v',so,gS h,by rw [zqj hne];exact h2,h3⟩
  ·exact ⟨hk,sid2,s2,o2,r2,v2,so,by rw [zqj e];exact h1,by rw [zqj hne];exact h2,h3⟩
 ·have e:bid≠id:=fun e=>by
   subst e
   rw [h] at hx;cases hx
   exact hb rfl
  rw [zqj e];exact hx
theorem Evo.setKey {S:Nat→Prop} {H:PH} {sid:Nat} {k:List UInt8} {so so':PObj} (h:H[sid]? = some so) (hk:k.length=16) (h1:KeySt k so) (h2:KeySt k so'):Evo S H (H.set sid so'):=by
 refine ⟨by simp,fun b key ⟨hkl,sid2,s2,o2,r2,v2,so2,g1,g2,g3⟩=>?_,fun id x hx _ hb _=>?_⟩
 ·have hne:sid≠b:=fun e=>by
   subst e
   rw [h] at g1;cases g1
   exact key_box h1.T.symm
  by_cases e:sid=sid2
  ·subst e
   rw [h] at g2;cases g2
   have e2:k=key.take 16:=map_byteC_inj ((h1.take hk).symm.trans (g3.take (by simp [hkl])))
   subst e2
   exact ⟨hkl,sid,s2,o2,r2,v2,so',by rw [zqj hne];exact g1,gS h,h2⟩
  ·exact ⟨hkl,sid2,s2,o2,r2,v2,so2,by rw [zqj hne];exact g1,by rw [zqj e];exact g2,g3⟩
 ·have e:sid≠id:=fun e=>by
   subst e
   rw [h] at hx;cases hx
   exact hb h1.T
  rw [zqj e];exact hx
theorem Evo.setOther {S:Nat→Prop} {H:PH} {id:Nat} {o o':PObj} (h:H[id]? = some o) (hs:S id) (h1:o.T≠keyT) (h2:o.T≠boxT):Evo S H (H.set id o'):=by
 refine ⟨by simp,fun b key ⟨hkl,sid2,s2,o2,r2,v2,so2,g1,g2,g3⟩=>?_,fun id2 x hx hn _ _=>?_⟩
 ·have e1:id≠b:=fun e=>by
   subst e
   rw [h] at g1;cases g1
   exact h2 rfl
  have e2:id≠sid2:=fun e=>by
   subst e
   rw [h] at g2;cases g2
   exact h1 g3.T
  exact ⟨hkl,sid2,s2,o2,r2,v2,so2,by rw [zqj e1];exact g1,by rw [zqj e2];exact g2,g3⟩
 ·have e:id≠id2:=fun e=>hn (e▸hs)
  rw [zqj e];exact hx
/-! What is sealed, and opened. -/
def sealK (key:List UInt8) (u n:Int) (p:List UInt8):List UInt8:=sealV (key.drop 16) u (IntKind.u64.wrap n) p (streamV (key.take 16) (mixN (IntKind.u64.wrap n) u) p.length)
def openK (key:List UInt8) (u:Int) (b:List UInt8):Option (List UInt8):=match openB (key.drop 16) u b with
 | true=>some (xorL ((b.take (b.length - 8)).drop 8) (streamV (key.take 16) (mixN (beN (b.take 8):Nat) u) (b.length - 16)))
 | false=>none
def openV (key:List UInt8) (u:Int) (b:List UInt8):PV:=match openK key u b with
 | some p=>.tup [sl p,.int .i64 0]
 | none=>.tup [sl [],.int .i64 3]
theorem openAt {H:PH} {bid:Nat} {key:List UInt8} (hb:BoxAt H bid key) (u:Int) (hu:isUseB u=true) (b:List UInt8) :
  CK prog 88 [.ptr (some (bid,0)),.int .i64 u,sl b] H fun x H'=>x=openV key u b∧Evo (fun _=>False) H H'∧H'.length=H.length:=by
 obtain ⟨hk,sid,s,o,r,v,so,h1,h2,h3⟩:=hb
 have hne:bid≠sid:=fun e=>by
  subst e
  rw [h1] at h2;cases h2
  exact key_box h3.T.symm
 have hk16:(key.take 16).length=16:=by simp [hk]
 unfold openV openK
 by_cases hl:16≤b.length∧b.length≤800
 ·refine (c88o (key.take 16) hk16 so h3 sid u hu b (key.drop 16) (by simp [hk]) s o r v bid H h1 h2 hne hl.1 hl.2).demT fun x H' hh=>?_
  cases e:openB (key.drop 16) u b
  ·rw [e] at hh
   obtain ⟨rfl,rfl⟩:=hh
   exact ⟨_,rfl,rfl,Evo.setBox h1 _ _ _ _,by simp⟩
  ·rw [e] at hh
   obtain ⟨rfl,o',ho',rfl⟩:=hh
   exact ⟨_,rfl,rfl,(Evo.setBox h1 s (IntKind.i64.wrap (o+1)) r (v+1)).trans (Evo.setKey (k:=key.take 16) (so:=so) (by rw [zqj hne];exact h2) hk16 h3 ho'),by simp⟩
 ·have e:openB (key.drop 16) u b=false:=by
   unfold openB
   by_cases h16:16≤b.length
   ·rw [zqd (p:=b.length≤800) (fun h=>hl ⟨h16,h⟩),zq3,zq4,zq4]
   ·rw [zqd h16,zq4,zq4,zq4]
  rw [e]
  refine (c88z u hu b (by omega) sid (key.drop 16) (by simp [hk]) s o r v bid H h1).demT fun x H' hh=>?_
  obtain ⟨rfl,rfl⟩:=hh
  exact ⟨_,rfl,rfl,Evo.setBox h1 _ _ _ _,by simp⟩
theorem beN_bigV (n:Nat) (hn:n≤1099511627776):beN (bigV (n:Int))=n:=by
 have e:∀k:Nat,k≤56→(byteI (ishr .u64 (n:Int) k)).toNat=n / 2 ^ k % 256:=fun k hk=>by
  have h1:ishr .u64 (n:Int) k=((n / 2 ^ k:Nat):Int):=by
   show Int.fdiv (n:Int) (2 ^ (min (k:Int).toNat 64))=_
   rw [Int.toNat_natCast,Nat.min_eq_left (by omega),show ((2:Int) ^ k)=((2 ^ k:Nat):Int) by push_cast;rfl]
   rw [Int.fdiv_eq_ediv_of_nonneg _ (Int.natCast_nonneg _)]
   rfl
  rw [h1]
  unfold byteI
  rw [UInt8.toNat_ofNat']
  omega
 have e56:=e 56 (by decide)
 have e48:=e 48 (by decide)
 have e40:=e 40 (by decide)
 have e32:=e 32 (by decide)
 have e24:=e 24 (by decide)
 have e16:=e 16 (by decide)
 have e8:=e 8 (by decide)
 have e0:=e 0 (by decide)
 show ((((((((0*256+(byteI (ishr .u64 (n:Int) 56)).toNat)*256+(byteI (ishr .u64 (n:Int) 48)).toNat)*256+(byteI (ishr .u64 (n:Int) 40)).toNat)*256+(byteI (ishr .u64 (n:Int) 32)).toNat)*256+(byteI (ishr .u64 (n:Int) 24)).toNat)*256+(byteI (ishr .u64 (n:Int) 16)).toNat)*256+(byteI (ishr .u64 (n:Int) 8)).toNat)*256+(byteI (ishr .u64 (n:Int) 0)).toNat)=n
 simp only [show ((56:Nat):Int)=56 from rfl,show ((48:Nat):Int)=48 from rfl,show ((40:Nat):Int)=40 from rfl,show ((32:Nat):Int)=32 from rfl,show ((24:Nat):Int)=24 from rfl,show ((16:Nat):Int)=16 from rfl,show ((8:Nat):Int)=8 from rfl,show ((0:Nat):Int)=0 from rfl] at e56 e48 e40 e32 e24 e16 e8 e0
 rw [e56,e48,e40,e32,e24,e16,e8,e0]
 omega
theorem xorL_xorL:∀(p st:List UInt8),st.length=p.length→xorL (xorL p st) st=p
 | [],_,_=>by simp [xorL]
 | x::p,[],h=>by simp at h
 | x::p,y::st,h=>by
  have ih:=xorL_xorL p st (by simpa using h)
  show ((x ^^^ y) ^^^ y)::xorL (xorL p st) st=x::p
  rw [ih]
  congr 1
  rw [UInt8.xor_assoc,UInt8.xor_self,UInt8.xor_zero]
theorem sealV_len (sp:List UInt8) (u nn:Int) (p st:List UInt8) (h:st.length=p.length):(sealV sp u nn p st).length=p.length+16:=by
 unfold sealV tagV
 rw [zqf,zqf,bigV_len,bigV_len,xorL_len p st h];omega
theorem sealK_len (key:List UInt8) (u n:Int) (p:List UInt8):(sealK key u n p).length=p.length+16:=sealV_len _ _ _ _ _ (streamV_len _ _ _)
theorem sealK_head (key:List UInt8) (u n:Int) (p:List UInt8):(sealK key u n p).take 8=bigV (IntKind.u64.wrap n):=by
 unfold sealK sealV
 rw [List.append_assoc,List.take_append_of_le_length (by rw [bigV_len];omega),List.take_of_length_le (by rw [bigV_len];omega)]
theorem open_seal (key:List UInt8) (u n:Int) (p:List UInt8) (hn0:0≤n) (hn1:n≤1099511627776) (hp:p.length≤784):openK key u (sealK key u n p)=some p:=by
 obtain ⟨m,rfl⟩:∃m:Nat,n=m:=⟨n.toNat,by omega⟩
 have hw:IntKind.u64.wrap (m:Int)=(m:Int):=wrapU64 (by omega)
 have hlen:=sealK_len key u m p
 have hhead:=sealK_head key u m p
 rw [hw] at hhead
 have hst:=streamV_len (key.take 16) (mixN (IntKind.u64.wrap (m:Int)) u) p.length
 generalize hS:streamV (key.take 16) (mixN (IntKind.u64.wrap (m:Int)) u) p.length=st at hst
 have hx:=xorL_len p st hst
 have hbody:(sealK key u m p).take ((sealK key u m p).length - 8)=bigV (m:Int)++xorL p st:=by
  rw [hlen]
  unfold sealK sealV
  rw [hw] at hS ⊢
  rw [hS,List.take_append_of_le_length (by rw [zqf,bigV_len];omega),List.take_of_length_le (by rw [zqf,bigV_len];omega)]
 have htag:(sealK key u m p).drop ((sealK key u m p).length - 8)=tagV (key.drop 16) u (bigV (m:Int)++xorL p st):=by
  rw [hlen]
  unfold sealK sealV
  rw [hw] at hS ⊢
  rw [hS]
  have e:p.length+16 - 8=(bigV (m:Int)++xorL p st).length:=by rw [zqf,bigV_len];omega
  rw [e,List.drop_left]
 have hop:openB (key.drop 16) u (sealK key u m p)=true:=by
  unfold openB
  rw [hhead,hbody,htag,zqe (by omega),zqe (by omega),beN_bigV m (by omega),zqe (by omega),zqe rfl];rfl
 unfold openK
 rw [hop]
 show some _=some p
 rw [hbody,hhead,hlen,beN_bigV m (by omega)]
 rw [hw] at hS
 have e8:(bigV (m:Int)++xorL p st).drop 8=xorL p st:=by
  rw [List.drop_append_of_le_length (by rw [bigV_len];omega),List.drop_eq_nil_of_le (by rw [bigV_len];omega),List.nil_append]
 rw [e8,show p.length+16 - 16=p.length by omega,hS,xorL_xorL p st hst]
theorem speck_key (k:List UInt8):KeySt k (speckO k):=by
 refine .inl ⟨0,?_⟩
 show PObj.mk _ (k.map bC++([.int .u32 0,.int .i32 0]++List.replicate 29 (.int .u32 0))) 0=PObj.mk _ ((k.map bC++[.int .u32 0,.int .i32 0,.int .u32 0])++(List.replicate 27 (0:Int)).map u32C++[.int .u32 0]) 0
 rw [List.append_assoc,List.append_assoc]
 rfl
end Go.Proofs.Tryz
/- PSem, part 33: counts of writes are ours to name. -/
namespace Ps
open Go
end Ps
namespace Go.Proofs.Tryz
open Go Ps
structure Tk where
 r:List UInt8
 n:List UInt8
 kv:Int
 b:List UInt8
def tickD (s:Option (List UInt8)):Tk:=⟨(princC s).2.1,(princC s).2.2,(intC (princC s).1).2,(octC (intC (princC s).1).1).2⟩
def tickC (s:Option (List UInt8)):Option (List UInt8)×Tk:=((elemC 97 s).1,tickD (elemC 97 s).2)
theorem tickC_wrap (r n:List UInt8) (kv:Int) (b rest:List UInt8) (hr:r.length≤1000) (hn:n.length≤1000) (h0:0≤kv) (h1:kv≤4611686018427387904) (hb:b.length≤10000) :
  tickC (some (ticketE r n kv b++rest))=(some rest,⟨r,n,kv,b⟩):=by
 have k1:=princE_len r n
 have k2:=intE_len kv
 have k3:=wrapB_len 4 b
 unfold tickC ticketE
 rw [elemC_wrap 97 _ rest (by simp only [zqk,zql,zqf,List.length_nil];omega)]
 show (some rest,tickD (some [princE r n,intE kv,wrapB 4 b].flatten))=_
 simp only [zqk,zql]
 unfold tickD
 rw [princC_wrap r n _ hr hn]
 show (some rest,Tk.mk r n (intC (some (intE kv++(wrapB 4 b++[])))).2 (octC (intC (some (intE kv++(wrapB 4 b++[])))).1).2)=_
 rw [intC_wrap kv h0 h1]
 show (some rest,Tk.mk r n kv (octC (some (wrapB 4 b++[]))).2)=_
 rw [octC_wrap b [] (by omega)]
def mZ:Msg:=⟨0,[],[],[],[],0,0,[],[],0,[],some 5,[],some 5,[],[],0,0,[],[],[],[],0,[],some 5,[],some 5,[],[],0,[],some 5,[],some 5,0,0⟩
def tkAs (s:Option (List UInt8)):Msg:={ mZ with kind:=1,a1:=(princC s).2.1,a2:=(princC s).2.2,a3:=(princC (princC s).1).2.1,a4:=(princC (princC s).1).2.2,aTill:=(intC (princC (princC s).1).1).2,aNonce:=(intC (intC (princC (princC s).1).1).1).2 }
def tkTgs (s:Option (List UInt8)):Msg:={ mZ with kind:=2,t1:=(tickC s).2.r,t2:=(tickC s).2.n,tKv:=(tickC s).2.kv,tB:=(tickC s).2.b,tBo:=none,tAu:=(octC (tickC s).1).2,tAuo:=none,t3:=(princC (octC (tickC s).1).1).2.1,t4:=(princC (octC (tickC s).1).1).2.2,tTill:=(intC (princC (octC (tickC s).1).1).1).2,tNonce:=(intC (intC (princC (octC (tickC s).1).1).1).1).2 }
def tkRep (s:Option (List UInt8)):Msg:={ mZ with kind:=3,r1:=(princC s).2.1,r2:=(princC s).2.2,r3:=(tickC (princC s).1).2.r,r4:=(tickC (princC s).1).2.n,rKv:=(tickC (princC s).1).2.kv,rB:=(tickC (princC s).1).2.b,rBo:=none,rBl:=(octC (tickC (princC s).1).1).2,rBlo:=none }
def tkAp (s:Option (List UInt8)):Msg:={ mZ with kind:=4,p1:=(tickC s).2.r,p2:=(tickC s).2.n,pKv:=(tickC s).2.kv,pB:=(tickC s).2.b,pBo:=none,pAu:=(octC (tickC s).1).2,pAuo:=none }
def tkFail (s:Option (List UInt8)):Msg:={ mZ with kind:=5,fErr:=(intC s).2,fNonce:=(intC (intC s).1).2 }
def takenT (t:UInt8) (s:Option (List UInt8)):Msg :=
 if t.toNat=106 then tkAs s else if t.toNat=108 then tkTgs s else if t.toNat=107 then tkRep s else if t.toNat=110 then tkAp s else if t.toNat=126 then tkFail s else mZ
def takenB:List UInt8→Msg
 | []=>mZ
 | t::r=>takenT t (elemC t (some (t::r))).2
theorem taken_wrap (t:UInt8) (x:List UInt8) (hx:x.length≤65535):takenB (wrapB t x)=takenT t (some x):=by
 have e:=elemC_wrap t x [] hx
 rw [List.append_nil] at e
 show takenT t (elemC t (some (wrapB t x))).2=_
 rw [e]
theorem noAs_z {m:Msg} (h:noAs m=true):m.a1=[]∧m.a2=[]∧m.a3=[]∧m.a4=[]∧m.aTill=0∧m.aNonce=0:=of_decide_eq_true h
theorem noTgs_z {m:Msg} (h:noTgs m=true):m.t1=[]∧m.t2=[]∧m.tKv=0∧m.tB=[]∧m.tAu=[]∧m.t3=[]∧m.t4=[]∧m.tTill=0∧m.tNonce=0:=by
 unfold noTgs noTk at h
 simp only [zqb,decide_eq_true_eq,List.length_eq_zero_iff] at h
 obtain ⟨⟨⟨⟨⟨⟨⟨h1,h2⟩,h3⟩,h4⟩,h5⟩,h6,h7⟩,h8⟩,h9⟩:=h
 exact ⟨h1,h2,h3,h4,h5,h6,h7,h8,h9⟩
theorem noRep_z {m:Msg} (h:noRep m=true):m.r1=[]∧m.r2=[]∧m.r3=[]∧m.r4=[]∧m.rKv=0∧m.rB=[]∧m.rBl=[]:=by
 unfold noRep noTk at h
 simp only [zqb,decide_eq_true_eq,List.length_eq_zero_iff] at h
 obtain ⟨⟨⟨h1,h2⟩,⟨⟨h3,h4⟩,h5⟩,h6⟩,h7⟩:=h
 exact ⟨h1,h2,h3,h4,h5,h6,h7⟩
theorem noAp_z {m:Msg} (h:noAp m=true):m.p1=[]∧m.p2=[]∧m.pKv=0∧m.pB=[]∧m.pAu=[]:=by
 unfold noAp noTk at h
 simp only [zqb,decide_eq_true_eq,List.length_eq_zero_iff] at h
 obtain ⟨⟨⟨⟨h1,h2⟩,h3⟩,h4⟩,h5⟩:=h
 exact ⟨h1,h2,h3,h4,h5⟩
theorem noFail_z {m:Msg} (h:noFail m=true):m.fErr=0∧m.fNonce=0:=of_decide_eq_true h
theorem others_z {m:Msg} (h:othersB m=true):(m.kind≠1→noAs m=true)∧(m.kind≠2→noTgs m=true)∧(m.kind≠3→noRep m=true)∧(m.kind≠4→noAp m=true)∧(m.kind≠5→noFail m=true):=by
 unfold othersB at h
 simp only [zqb,Bool.or_eq_true,decide_eq_true_eq] at h
 obtain ⟨⟨⟨⟨h1,h2⟩,h3⟩,h4⟩,h5⟩:=h
 exact ⟨fun h=>h1.resolve_left h,fun h=>h2.resolve_left h,fun h=>h3.resolve_left h,fun h=>h4.resolve_left h,fun h=>h5.resolve_left h⟩
theorem isB_kind {m:Msg} (h:isB m=true):othersB m=true:=by
 unfold isB at h
 rw [zqb] at h
 exact h.2
theorem tick_kv {r n:List UInt8} {kv:Int} {k:Nat} (h:tickB r n kv k=true):1≤kv∧kv≤255:=by
 unfold tickB at h
 rw [zqb,zqb] at h
 exact inZ_le h.1.2
theorem taken_laid (m:Msg) (h:isB m=true):(takenB (laidB m)).d=m.d:=by
 obtain ⟨o1,o2,o3,o4,o5⟩:=others_z (isB_kind h)
 have hm:=(zqb _ _▸h:_∧_).1
 by_cases h1:m.kind=1
 ·skip
  rw [zqp h1] at hm
  simp only [zqb] at hm
  have g1:=princ_len hm.1.1.1
  have g2:=princ_len hm.1.1.2
  have g3:=inZ_le hm.1.2
  have g4:=inZ_le hm.2
  have e0:=princE_len m.a1 m.a2
  have e1:=princE_len m.a3 m.a4
  have e2:=intE_len m.aTill
  have e3:=intE_len m.aNonce
  have hl:laidB m=wrapB 106 [princE m.a1 m.a2,princE m.a3 m.a4,intE m.aTill,intE m.aNonce].flatten:=by unfold laidB;rw [zqp h1]
  rw [hl,taken_wrap _ _ (by simp only [zqk,zql,zqf,List.length_nil];omega)]
  show (tkAs (some [princE m.a1 m.a2,princE m.a3 m.a4,intE m.aTill,intE m.aNonce].flatten)).d=_
  simp only [zqk,zql]
  unfold tkAs
  have w0:=princC_wrap m.a1 m.a2 (princE m.a3 m.a4++(intE m.aTill++(intE m.aNonce++[]))) (by omega) (by omega)
  have w1:=princC_wrap m.a3 m.a4 (intE m.aTill++(intE m.aNonce++[])) (by omega) (by omega)
  have w2:=intC_wrap m.aTill (by omega) (by omega) (intE m.aNonce++[])
  have w3:=intC_wrap m.aNonce (by omega) (by omega) []
  simp only [w0,w1,w2,w3]
  have z2:=noTgs_z (o2 (by omega))
  have z3:=noRep_z (o3 (by omega))
  have z4:=noAp_z (o4 (by omega))
  have z5:=noFail_z (o5 (by omega))
  clear o1 o2 o3 o4 o5 hl hm h w0
  obtain ⟨kind,a1,a2,a3,a4,aTill,aNonce,t1,t2,tKv,tB,tBo,tAu,tAuo,t3,t4,tTill,tNonce,r1,r2,r3,r4,rKv,rB,rBo,rBl,rBlo,p1,p2,pKv,pB,pBo,pAu,pAuo,fErr,fNonce⟩:=m
  obtain ⟨y2_0,y2_1,y2_2,y2_3,y2_4,y2_5,y2_6,y2_7,y2_8⟩:=z2
  obtain ⟨y3_0,y3_1,y3_2,y3_3,y3_4,y3_5,y3_6⟩:=z3
  obtain ⟨y4_0,y4_1,y4_2,y4_3,y4_4⟩:=z4
  obtain ⟨y5_0,y5_1⟩:=z5
  simp only at *
  subst h1 y2_0 y2_1 y2_2 y2_3 y2_4 y2_5 y2_6 y2_7 y2_8 y3_0 y3_1 y3_2 y3_3 y3_4 y3_5 y3_6 y4_0 y4_1 y4_2 y4_3 y4_4 y5_0 y5_1
  rfl
 by_cases h2:m.kind=2
 ·skip
  rw [zqo h1] at hm
  rw [zqp h2] at hm
  simp only [zqb] at hm
  have g1:=tick_len hm.1.1.1.1
  have gk:=tick_kv hm.1.1.1.1
  have g2:=inZ_le hm.1.1.1.2
  have g3:=princ_len hm.1.1.2
  have g4:=inZ_le hm.1.2
  have g5:=inZ_le hm.2
  have e0:=ticketE_len m.t1 m.t2 m.tKv m.tB
  have e1:=wrapB_len 4 m.tAu
  have e2:=princE_len m.t3 m.t4
  have e3:=intE_len m.tTill
  have e4:=intE_len m.tNonce
  have hl:laidB m=wrapB 108 [ticketE m.t1 m.t2 m.tKv m.tB,wrapB 4 m.tAu,princE m.t3 m.t4,intE m.tTill,intE m.tNonce].flatten:=by unfold laidB;rw [zqo h1];rw [zqp h2]
  rw [hl,taken_wrap _ _ (by simp only [zqk,zql,zqf,List.length_nil];omega)]
  show (tkTgs (some [ticketE m.t1 m.t2 m.tKv m.tB,wrapB 4 m.tAu,princE m.t3 m.t4,intE m.tTill,intE m.tNonce].flatten)).d=_
  simp only [zqk,zql]
  unfold tkTgs
  have w0:=tickC_wrap m.t1 m.t2 m.tKv m.tB (wrapB 4 m.tAu++(princE m.t3 m.t4++(intE m.tTill++(intE m.tNonce++[])))) (by omega) (by omega) (by omega) (by omega) (by omega)
  have w1:=octC_wrap m.tAu (princE m.t3 m.t4++(intE m.tTill++(intE m.tNonce++[]))) (by omega)
  have w2:=princC_wrap m.t3 m.t4 (intE m.tTill++(intE m.tNonce++[])) (by omega) (by omega)
  have w3:=intC_wrap m.tTill (by omega) (by omega) (intE m.tNonce++[])
  have w4:=intC_wrap m.tNonce (by omega) (by omega) []
  simp only [w0,w1,w2,w3,w4]
  have z1:=noAs_z (o1 (by omega))
  have z3:=noRep_z (o3 (by omega))
  have z4:=noAp_z (o4 (by omega))
  have z5:=noFail_z (o5 (by omega))
  clear o1 o2 o3 o4 o5 hl hm h w0
  obtain ⟨kind,a1,a2,a3,a4,aTill,aNonce,t1,t2,tKv,tB,tBo,tAu,tAuo,t3,t4,tTill,tNonce,r1,r2,r3,r4,rKv,rB,rBo,rBl,rBlo,p1,p2,pKv,pB,pBo,pAu,pAuo,fErr,fNonce⟩:=m
  obtain ⟨y1_0,y1_1,y1_2,y1_3,y1_4,y1_5⟩:=z1
  obtain ⟨y3_0,y3_1,y3_2,y3_3,y3_4,y3_5,y3_6⟩:=z3
  obtain ⟨y4_0,y4_1,y4_2,y4_3,y4_4⟩:=z4
  obtain ⟨y5_0,y5_1⟩:=z5
  simp only at *
  subst h2 y1_0 y1_1 y1_2 y1_3 y1_4 y1_5 y3_0 y3_1 y3_2 y3_3 y3_4 y3_5 y3_6 y4_0 y4_1 y4_2 y4_3 y4_4 y5_0 y5_1
  rfl
 by_cases h3:m.kind=3
 ·skip
  rw [zqo h1] at hm
  rw [zqo h2] at hm
  rw [zqp h3] at hm
  simp only [zqb] at hm
  have g1:=princ_len hm.1.1
  have g2:=tick_len hm.1.2
  have gk:=tick_kv hm.1.2
  have g3:=inZ_le hm.2
  have e0:=princE_len m.r1 m.r2
  have e1:=ticketE_len m.r3 m.r4 m.rKv m.rB
  have e2:=wrapB_len 4 m.rBl
  have hl:laidB m=wrapB 107 [princE m.r1 m.r2,ticketE m.r3 m.r4 m.rKv m.rB,wrapB 4 m.rBl].flatten:=by unfold laidB;rw [zqo h1];rw [zqo h2];rw [zqp h3]
  rw [hl,taken_wrap _ _ (by simp only [zqk,zql,zqf,List.length_nil];omega)]
  show (tkRep (some [princE m.r1 m.r2,ticketE m.r3 m.r4 m.rKv m.rB,wrapB 4 m.rBl].flatten)).d=_
  simp only [zqk,zql]
  unfold tkRep
  have w0:=princC_wrap m.r1 m.r2 (ticketE m.r3 m.r4 m.rKv m.rB++(wrapB 4 m.rBl++[])) (by omega) (by omega)
  have w1:=tickC_wrap m.r3 m.r4 m.rKv m.rB (wrapB 4 m.rBl++[]) (by omega) (by omega) (by omega) (by omega) (by omega)
  have w2:=octC_wrap m.rBl [] (by omega)
  simp only [w0,w1,w2]
  have z1:=noAs_z (o1 (by omega))
  have z2:=noTgs_z (o2 (by omega))
  have z4:=noAp_z (o4 (by omega))
  have z5:=noFail_z (o5 (by omega))
  clear o1 o2 o3 o4 o5 hl hm h w0
  obtain ⟨kind,a1,a2,a3,a4,aTill,aNonce,t1,t2,tKv,tB,tBo,tAu,tAuo,t3,t4,tTill,tNonce,r1,r2,r3,r4,rKv,rB,rBo,rBl,rBlo,p1,p2,pKv,pB,pBo,pAu,pAuo,fErr,fNonce⟩:=m
  obtain ⟨y1_0,y1_1,y1_2,y1_3,y1_4,y1_5⟩:=z1
  obtain ⟨y2_0,y2_1,y2_2,y2_3,y2_4,y2_5,y2_6,y2_7,y2_8⟩:=z2
  obtain ⟨y4_0,y4_1,y4_2,y4_3,y4_4⟩:=z4
  obtain ⟨y5_0,y5_1⟩:=z5
  simp only at *
  subst h3 y1_0 y1_1 y1_2 y1_3 y1_4 y1_5 y2_0 y2_1 y2_2 y2_3 y2_4 y2_5 y2_6 y2_7 y2_8 y4_0 y4_1 y4_2 y4_3 y4_4 y5_0 y5_1
  rfl
 by_cases h4:m.kind=4
 ·skip
  rw [zqo h1] at hm
  rw [zqo h2] at hm
  rw [zqo h3] at hm
  rw [zqp h4] at hm
  simp only [zqb] at hm
  have g1:=tick_len hm.1
  have gk:=tick_kv hm.1
  have g2:=inZ_le hm.2
  have e0:=ticketE_len m.p1 m.p2 m.pKv m.pB
  have e1:=wrapB_len 4 m.pAu
  have hl:laidB m=wrapB 110 [ticketE m.p1 m.p2 m.pKv m.pB,wrapB 4 m.pAu].flatten:=by unfold laidB;rw [zqo h1];rw [zqo h2];rw [zqo h3];rw [zqp h4]
  rw [hl,taken_wrap _ _ (by simp only [zqk,zql,zqf,List.length_nil];omega)]
  show (tkAp (some [ticketE m.p1 m.p2 m.pKv m.pB,wrapB 4 m.pAu].flatten)).d=_
  simp only [zqk,zql]
  unfold tkAp
  have w0:=tickC_wrap m.p1 m.p2 m.pKv m.pB (wrapB 4 m.pAu++[]) (by omega) (by omega) (by omega) (by omega) (by omega)
  have w1:=octC_wrap m.pAu [] (by omega)
  simp only [w0,w1]
  have z1:=noAs_z (o1 (by omega))
  have z2:=noTgs_z (o2 (by omega))
  have z3:=noRep_z (o3 (by omega))
  have z5:=noFail_z (o5 (by omega))
  clear o1 o2 o3 o4 o5 hl hm h w0
  obtain ⟨kind,a1,a2,a3,a4,aTill,aNonce,t1,t2,tKv,tB,tBo,tAu,tAuo,t3,t4,tTill,tNonce,r1,r2,r3,r4,rKv,rB,rBo,rBl,rBlo,p1,p2,pKv,pB,pBo,pAu,pAuo,fErr,fNonce⟩:=m
  obtain ⟨y1_0,y1_1,y1_2,y1_3,y1_4,y1_5⟩:=z1
  obtain ⟨y2_0,y2_1,y2_2,y2_3,y2_4,y2_5,y2_6,y2_7,y2_8⟩:=z2
  obtain ⟨y3_0,y3_1,y3_2,y3_3,y3_4,y3_5,y3_6⟩:=z3
  obtain ⟨y5_0,y5_1⟩:=z5
  simp only at *
  subst h4 y1_0 y1_1 y1_2 y1_3 y1_4 y1_5 y2_0 y2_1 y2_2 y2_3 y2_4 y2_5 y2_6 y2_7 y2_8 y3_0 y3_1 y3_2 y3_3 y3_4 y3_5 y3_6 y5_0 y5_1
  rfl
 by_cases h5:m.kind=5
 ·skip
  rw [zqo h1] at hm
  rw [zqo h2] at hm
  rw [zqo h3] at hm
  rw [zqo h4] at hm
  rw [zqp h5] at hm
  simp only [zqb] at hm
  have g1:=inZ_le hm.1
  have g2:=inZ_le hm.2
  have e0:=intE_len m.fErr
  have e1:=intE_len m.fNonce
  have hl:laidB m=wrapB 126 [intE m.fErr,intE m.fNonce].flatten:=by unfold laidB;rw [zqo h1,zqo h2,zqo h3,zqo h4]
  rw [hl,taken_wrap _ _ (by simp only [zqk,zql,zqf,List.length_nil];omega)]
  show (tkFail (some [intE m.fErr,intE m.fNonce].flatten)).d=_
  simp only [zqk,zql]
  unfold tkFail
  have w0:=intC_wrap m.fErr (by omega) (by omega) (intE m.fNonce++[])
  have w1:=intC_wrap m.fNonce (by omega) (by omega) []
  simp only [w0,w1]
  have z1:=noAs_z (o1 (by omega))
  have z2:=noTgs_z (o2 (by omega))
  have z3:=noRep_z (o3 (by omega))
  have z4:=noAp_z (o4 (by omega))
  clear o1 o2 o3 o4 o5 hl hm h w0
  obtain ⟨kind,a1,a2,a3,a4,aTill,aNonce,t1,t2,tKv,tB,tBo,tAu,tAuo,t3,t4,tTill,tNonce,r1,r2,r3,r4,rKv,rB,rBo,rBl,rBlo,p1,p2,pKv,pB,pBo,pAu,pAuo,fErr,fNonce⟩:=m
  obtain ⟨y1_0,y1_1,y1_2,y1_3,y1_4,y1_5⟩:=z1
  obtain ⟨y2_0,y2_1,y2_2,y2_3,y2_4,y2_5,y2_6,y2_7,y2_8⟩:=z2
  obtain ⟨y3_0,y3_1,y3_2,y3_3,y3_4,y3_5,y3_6⟩:=z3
  obtain ⟨y4_0,y4_1,y4_2,y4_3,y4_4⟩:=z4
  simp only at *
  subst h5 y1_0 y1_1 y1_2 y1_3 y1_4 y1_5 y2_0 y2_1 y2_2 y2_3 y2_4 y2_5 y2_6 y2_7 y2_8 y3_0 y3_1 y3_2 y3_3 y3_4 y3_5 y3_6 y4_0 y4_1 y4_2 y4_3 y4_4
  rfl
 rw [zqo h1,zqo h2,zqo h3,zqo h4,zqo h5] at hm
 cases hm
theorem d_is {m m':Msg} (h:m.d=m'.d):isB m=isB m':=by rw [←isd (m:=m),h,isd]
theorem d_laid {m m':Msg} (h:m.d=m'.d):laidB m=laidB m':=by rw [←laidd (m:=m),h,laidd]
set_option maxHeartbeats 2000000
theorem Upd.over {X Y:Nat→Prop} {H H1 H2:PH} (h:Upd X H H1) (k:Upd Y H1 H2) (hy:∀i,i<H.length→Y i→X i):Upd X H H2 :=
 ⟨Nat.le_trans h.1 k.1,fun i hi hx=>(k.2 i (Nat.lt_of_lt_of_le hi h.1) fun hY=>hx (hy i hi hY)).trans (h.2 i hi hx)⟩
theorem curAt.set_ne {H:PH} {c j:Nat} {s:Option (List UInt8)} (h:curAt H c s) (hj:j≠c) (o:PObj):curAt (H.set j o) c s:=by
 obtain ⟨x,v,h1,h2⟩:=h
 exact ⟨x,v,by rw [zqj hj];exact h1,h2⟩
theorem c133 (b:List UInt8) (tag:UInt8) (hb:b.length≤140737488355328) (H:PH):CK prog 133 [sl b,bC tag] H fun r H' =>
  ∃d,r=.agg [.ptr (some (d,0))]∧H.length≤d∧Upd (fun _=>False) H H'∧curAt H' d (elemC tag (some b)).2:=by
 (refine fnS (imm:=imm133) ttC_ok func133 ?_;(conv=>whnf))
 refine cO (c170 b hb _) ?_
 rintro _ _ ⟨rfl,rfl⟩
 conv=>whnf
 obtain ⟨H1,hH1⟩:∃H1,H1=H++[PObj.mk 215 [.ptr none] 0]:=⟨_,rfl⟩
 have hl1:H1.length=H.length+1:=by rw [hH1];simp
 have h0:H1[H.length]? = some ⟨215,[.ptr none],0⟩:=by rw [hH1];exact gL _ _
 have u1:Upd (fun _=>False) H H1:=by rw [hH1];exact (Upd.refl H).push _
 rw [←hH1]
 have hcur:curAt (H1++[PObj.mk 265 [sl b,.bool false] 0]) H1.length (some b):=⟨sl b,0,gL _ _,fun l hl=>by cases hl;rfl⟩
 refine cO (c171 H1.length tag (some b) (H1++[PObj.mk 265 [sl b,.bool false] 0]) hcur (fun l hl=>by cases hl;exact hb)) ?_
 rintro _ H2 ⟨d,rfl,k1,k2,k3,k4⟩
 have hl2:(H1++[PObj.mk 265 [sl b,.bool false] 0]).length=H.length+2:=by simp [hl1]
 have u2:Upd (fun _=>False) H (H1++[⟨265,[sl b,.bool false],0⟩]):=u1.push _
 have u3:Upd (fun _=>False) H H2:=u2.over k2 (fun i hi e=>by have e:i=H1.length:=e;omega)
 have hat:H2[H.length]? = some ⟨215,[.ptr none],0⟩:=by
  rw [k2.2 H.length (by omega) (fun e=>by have e:H.length=H1.length:=e;omega),zq2 (by omega)]
  exact h0
 conv=>whnf
 ((conv in (_[_]?)=>tactic=>exact hat);(conv=>whnf))
 ((conv in (_[_]?)=>tactic=>exact gS hat);(conv=>whnf))
 exact ⟨d,rfl,by omega,u3.set (.inr (zqn _)) _,k4.set_ne (by omega) _⟩
theorem c134 (d:Nat) (s:Option (List UInt8)) (H:PH) (hc:curAt H d s) (hl:∀l,s=some l→l.length≤140737488355328) :
  CK prog 134 [.agg [.ptr (some (d,0))]] H fun r H'=>r=.agg [.str (princC s).2.1,.str (princC s).2.2]∧Upd (·=d) H H'∧curAt H' d (princC s).1:=by
 have hd:=hc.lt
 have g0:=elemC_len (tag:=48) hl
 have g1:∀l,(elemC 48 s).2=some l→l.length≤140737488355328:=fun l h=>(g0.2 l h).1
 have g2:=(elemC_len (tag:=27) g1).1
 (refine fnS (imm:=imm134) ttC_ok func134 ?_;(conv=>whnf))
 obtain ⟨H1,hH1⟩:∃H1,H1=H++[PObj.mk 36 [.str [],.str []] 0]:=⟨_,rfl⟩
 have hl1:H1.length=H.length+1:=by rw [hH1];simp
 have h0:H1[H.length]? = some ⟨36,[.str [],.str []],0⟩:=by rw [hH1];exact gL _ _
 have u1:Upd (·=d) H H1:=by rw [hH1];exact (Upd.refl H).push _
 have hc1:curAt H1 d s:=hc.keep (X:=fun _=>False) (by rw [hH1];exact (Upd.refl H).push _) (fun f=>f)
 rw [←hH1]
 refine cO (c171 d 48 s H1 hc1 hl) ?_
 rintro _ H2 ⟨e,rfl,k1,k2,k3,k4⟩
 conv=>whnf
 refine cO (c172 e _ H2 k4 g1) ?_
 rintro _ H3 ⟨rfl,k5,k6⟩
 conv=>whnf
 refine cO (c172 e _ H3 k6 g2) ?_
 rintro _ H4 ⟨rfl,k7,k8⟩
 have u4:Upd (fun i=>i=d∨i=e) H1 H4:=((k2.mono fun i _ h=>.inl h).trans (k5.mono fun i _ h=>.inr h)).trans (k7.mono fun i _ h=>.inr h)
 have hat:H4[H.length]? = some ⟨36,[.str [],.str []],0⟩:=by
  rw [u4.2 H.length (by omega) (fun h=>by rcases h with h | h <;> omega)]
  exact h0
 have u5:Upd (·=d) H H4:=u1.over u4 (fun i hi h=>by rcases h with h | h;exact h;omega)
 have hc4:curAt H4 d (elemC 48 s).1:=(k3.keep k5 (fun h=>by omega)).keep k7 (fun h=>by omega)
 conv=>whnf
 ((conv in (_[_]?)=>tactic=>exact hat);(conv=>whnf))
 ((conv in (_[_]?)=>tactic=>exact gS hat);(conv=>whnf))
 exact ⟨rfl,u5.set (.inr (zqn _)) _,hc4.set_ne (by omega) _⟩
theorem keyB_range (k:Nat→UInt8):keyB k=(List.range 32).map k:=rfl
def D143:Draw:={ imp:=[3,4],win:=[(0,0,1),(4,1,1)] }
theorem keyC_set (x:List UInt8) (m:Nat) (hm:m=min 32 x.length):setCells 0 ((x.take m).map bC) (List.replicate 32 (.int .u8 0))=keyC (keyOf x):=by
 have hl:0+((x.take m).map bC).length≤(List.replicate 32 (PV.int .u8 0)).length:=by rw [zqq,zqr,List.length_replicate];omega
 rw [keyC_map,keyB_range]
 apply List.ext_getElem?
 intro j
 rw [setCells_get _ _ _ hl,zqq,zqr,List.getElem?_map,List.getElem?_map,List.getElem?_map]
 by_cases h:j<32
 ·rw [List.getElem?_range h]
  by_cases h2:j<x.length
  ·rw [zqp (by omega),Nat.sub_zero,zqs,zqp (by omega),zqc h2]
   show some (bC x[j])=some (bC (x.getD j 0))
   rw [List.getD_eq_getElem?_getD,zqc h2];rfl
  ·rw [zqo (by omega),List.getElem?_replicate,zqp h]
   show some (PV.int .u8 0)=some (bC (x.getD j 0))
   rw [List.getD_eq_getElem?_getD,List.getElem?_eq_none (by omega)];rfl
 ·rw [zqo (by omega),List.getElem?_replicate,zqo h,List.getElem?_eq_none (by rw [List.length_range];omega)]
  rfl
theorem curStep_at {H:PH} {d:Nat} {o:PObj} (h:H[d]? = some o) (t:UInt8) (s:Option (List UInt8)) (v:Nat):curAt (H.set d (curStep t s v)) d (elemC t s).1:=by
 unfold curStep
 cases (elemC t s).1 with
 | none=>exact ⟨.nilS,v+2,gS h,fun l hl=>by cases hl⟩
 | some r=>exact ⟨sl r,v+1,gS h,fun l hl=>by cases hl;rfl⟩
theorem c143 (d:Nat) (s:Option (List UInt8)) (H:PH) (hc:curAt H d s) (hl:∀l,s=some l→l.length≤140737488355328) :
  CK prog 143 [.agg [.ptr (some (d,0))]] H fun r H'=>r=.agg (keyC (keyOf (octC s).2))∧Upd (·=d) H H'∧curAt H' d (octC s).1:=by
 have hd:=hc.lt
 obtain ⟨y,v,h0,hy⟩:=id hc
 obtain ⟨HA,hHA⟩:∃HA,HA=H++[PObj.mk 31 (List.replicate 32 (.int .u8 0)) 0]:=⟨_,rfl⟩
 obtain ⟨H1,hH1⟩:∃H1,H1=HA++[PObj.mk 31 (List.replicate 32 (.int .u8 0)) 1]:=⟨_,rfl⟩
 have hlA:HA.length=H.length+1:=by rw [hHA];simp
 have hl1:H1.length=H.length+2:=by rw [hH1];simp [hlA]
 have uA:Upd (·=d) H HA:=by rw [hHA];exact (Upd.refl H).push _
 have u1:Upd (·=d) H H1:=by rw [hH1];exact uA.push _
 have hc1:curAt H1 d s:=hc.keep (X:=fun _=>False) (by rw [hH1,hHA];exact ((Upd.refl H).push _).push _) (fun f=>f)
 have h1d:H1[d]? = some ⟨265,[y,.bool s.isNone],v⟩:=by
  rw [hH1,zq2 (by omega),hHA,zq2 hd];exact h0
 obtain ⟨H2,hH2⟩:∃H2,H2=H1.set d (curStep 4 s v):=⟨_,rfl⟩
 have hl2:H2.length=H.length+2:=by rw [hH2,List.length_set,hl1]
 have h2k:H2[HA.length]? = some ⟨31,List.replicate 32 (.int .u8 0),1⟩:=by
  rw [hH2,zqj (by omega),hH1];exact gL _ _
 have h2r:H2[H.length]? = some ⟨31,List.replicate 32 (.int .u8 0),0⟩:=by
  rw [hH2,zqj (by omega),hH1,zq2 (by omega),hHA];exact gL _ _
 obtain ⟨H3,hH3⟩:∃H3,H3=H2.set HA.length ⟨31,keyC (keyOf (octC s).2),2⟩:=⟨_,rfl⟩
 have h3k:H3[HA.length]? = some ⟨31,keyC (keyOf (octC s).2),2⟩:=by rw [hH3];exact gS h2k
 have h3r:H3[H.length]? = some ⟨31,List.replicate 32 (.int .u8 0),0⟩:=by rw [hH3,zqj (by omega)];exact h2r
 (refine fnS (imm:=imm143) ttC_ok func143 ?_;(conv=>whnf))
 ((conv in (_[_]?)=>tactic=>exact gL _ _);(conv=>whnf))
 refine dO2 D143 [H1,H2,H3] (by kernel_rfl) ?_ trivial ?_
 ·rw [hH1,hHA]
  exact (sL _ _ _).symm
 rw [←hHA]
 conv=>whnf
 refine ⟨.sref HA.length 0 32 32,⟨?_,?_⟩,?_⟩
 ·conv=>whnf
  exact ⟨⟨by decide,by decide,by decide⟩,fun _=>⟨rfl,rfl,zqv⟩,fun h=>absurd (show (0:Int)<32 by decide) h⟩
 ·conv=>whnf
  exact ⟨⟨by decide,by decide,by decide⟩,fun _=>⟨rfl,rfl,zqv⟩,fun h=>absurd (show (0:Int)<32 by decide) h⟩
 conv=>whnf
 iterate 2 (refine dS ?_;(conv=>whnf))
 refine ⟨_,cO (c137 d s H1 hc1 hl) (fun r H' ⟨k1,_,_,k4⟩=>⟨k1,(k4 _ _ h1d).trans hH2.symm,zqv⟩),?_⟩
 conv=>whnf
 apply exA
 ·conv=>whnf
  ((conv in (_[_]?)=>tactic=>exact h2k);(conv=>whnf))
  refine ⟨⟨by rw [zqq];exact (Nat.mul_one _).symm,allOne _,by decide⟩,rfl,?_,zqv⟩
  show H2.set HA.length ⟨31,setCells 0 (((octC s).2.map bC).take (min (octC s).2.length 32*1)) (List.replicate 32 (.int .u8 0)),2⟩=H3
  rw [hH3,Nat.mul_one,←List.map_take,keyC_set _ _ (Nat.min_comm _ _)]
 conv=>whnf
 ((conv in (_[_]?)=>tactic=>exact h3k);(conv=>whnf))
 ((conv in (_[_]?)=>tactic=>exact h3r);(conv=>whnf))
 ((conv in (_[_]?)=>tactic=>exact gS h3r);(conv=>whnf))
 refine ⟨rfl,?_,?_⟩
 ·have u2:Upd (·=d) H H2:=by rw [hH2];exact u1.set (.inl rfl) _
  have u3:Upd (·=d) H H3:=by rw [hH3];exact u2.set (.inr (by omega)) _
  exact u3.set (.inr (zqn _)) _
 ·have k2:curAt H2 d (octC s).1:=by rw [hH2];exact curStep_at h1d 4 s v
  have k3:curAt H3 d (octC s).1:=by rw [hH3];exact k2.set_ne (by omega) _
  exact k3.set_ne (by omega) _
theorem limV_yes {ok:Bool} {b:List UInt8} (h:ok=true∧b.length≤2000):limV ok b=.tup [sl b,.int .i64 0]:=zqp h
theorem limV_no {ok:Bool} {b:List UInt8} (h:¬(ok=true∧b.length≤2000)):limV ok b=.tup [.slice 0 [] (some 5),.int .i64 1]:=zqo h
def zPrt:Prt:=⟨[],[],fun _=>0,[],0,0⟩
def okPrt (p:Prt) (b:List UInt8):Bool:=isPartB p&&(decide ((partL p).length≤2000)&&decide (partL p=b))
theorem get_mid (H:PH) (o o':PObj):(H++[o]++[o'])[H.length]? = some o:=by
 rw [zq2 (by simp)];exact gL _ _
structure DecS (T:Nat) (zc:List PV) (H K:PH) (a d q:Nat) (s:Option (List UInt8)) (cells:List PV) (ver:Nat):Prop where
 z:K[H.length]? = some ⟨T,zc,0⟩
 c:K[a]? = some ⟨215,[.ptr (some (d,0))],1⟩
 p:K[q]? = some ⟨T,cells,ver⟩
 cur:curAt K d s
 up:Upd (fun _=>False) H K
 o1:H.length<d
 o2:d<a
 o3:a<q
theorem DecS.call {T:Nat} {zc:List PV} {H K K':PH} {a d q:Nat} {s s':Option (List UInt8)} {cells:List PV} {ver:Nat} (h:DecS T zc H K a d q s cells ver) (u:Upd (·=d) K K') (c:curAt K' d s') :
  DecS T zc H K' a d q s' cells ver:=by
 have o1:=h.o1
 have o2:=h.o2
 have o3:=h.o3
 have lt:∀{i:Nat} {o:PObj},K[i]? = some o→i<K.length:=fun h=>(zq1.1 h).1
 refine ⟨(u.2 _ (lt h.z) (by omega)).trans h.z,(u.2 _ (lt h.c) (by omega)).trans h.c,(u.2 _ (lt h.p) (by omega)).trans h.p,c,h.up.over u (fun i hi e=>by omega),o1,o2,o3⟩
theorem DecS.store {T:Nat} {zc:List PV} {H K:PH} {a d q:Nat} {s:Option (List UInt8)} {cells:List PV} {ver:Nat} (h:DecS T zc H K a d q s cells ver) (cells':List PV) (ver':Nat) :
  DecS T zc H (K.set q ⟨T,cells',ver'⟩) a d q s cells' ver':=by
 have o1:=h.o1
 have o2:=h.o2
 have o3:=h.o3
 refine ⟨?_,?_,gS h.p,h.cur.set_ne (by omega) _,h.up.set (.inr (by omega)) _,o1,o2,o3⟩
 ·rw [zqj (by omega)];exact h.z
 ·rw [zqj (by omega)];exact h.c
theorem getD_len {o:Option (List UInt8)} {B:Nat} (h:∀l,o=some l→l.length≤B∧l.length≤65535):(o.getD []).length≤65535:=by
 cases o with
 | none=>exact Nat.zero_le _
 | some l=>exact (h l rfl).2
theorem dec_begin {T:Nat} {zc:List PV} {H H2:PH} {d:Nat} {s:Option (List UInt8)} (h1:(H++[PObj.mk T zc 0]).length≤d) (u:Upd (fun _=>False) (H++[PObj.mk T zc 0]) H2) (c:curAt H2 d s) :
  H.length<d∧d<H2.length∧((H2++[PObj.mk 215 [.ptr none] 0]).set H2.length (PObj.mk 215 [.ptr (some (d,0))] 1))[H.length]? = some ⟨T,zc,0⟩∧((H2++[PObj.mk 215 [.ptr none] 0]).set H2.length (PObj.mk 215 [.ptr (some (d,0))] 1))[H2.length]? = some ⟨215,[.ptr (some (d,0))],1⟩ ∧
   curAt ((H2++[PObj.mk 215 [.ptr none] 0]).set H2.length (PObj.mk 215 [.ptr (some (d,0))] 1)) d s∧Upd (fun _=>False) H ((H2++[PObj.mk 215 [.ptr none] 0]).set H2.length (PObj.mk 215 [.ptr (some (d,0))] 1)):=by
 have hl:=c.lt
 have h1:H.length+1≤d:=by simpa using h1
 rw [sL]
 refine ⟨h1,hl,?_,gL _ _,c.keep (X:=fun _=>False) ((Upd.refl H2).push _) (fun f=>f),?_⟩
 ·rw [zq2 (by omega),u.2 _ (by simp) (fun f=>f)];exact gL _ _
 ·exact (((Upd.refl H).push _).over u (fun i hi f=>f)).push _
theorem dec_part {T:Nat} {zc:List PV} {H K0 K:PH} {a d:Nat} {s:Option (List UInt8)} (o1:H.length<d) (o2:d<a) (hz:K0[H.length]? = some ⟨T,zc,0⟩) (hc:K0[a]? = some ⟨215,[.ptr (some (d,0))],1⟩)
  (up:Upd (fun _=>False) H K0) (u:Upd (·=d) K0 K) (c:curAt K d s) (cells:List PV) (ver:Nat):DecS T zc H ((K++[PObj.mk T zc 0]).set K.length ⟨T,cells,ver⟩) a d K.length s cells ver:=by
 rw [sL]
 have lt:∀{i:Nat} {o:PObj},K0[i]? = some o→i<K0.length:=fun h=>(zq1.1 h).1
 have l1:=lt hz
 have l2:=lt hc
 have l3:=u.1
 refine ⟨?_,?_,gL _ _,c.keep (X:=fun _=>False) ((Upd.refl K).push _) (fun f=>f),(up.over u (fun i hi e=>by omega)).push _,o1,o2,by omega⟩
 ·rw [zq2 (by omega),u.2 _ l1 (by omega)];exact hz
 ·rw [zq2 (by omega),u.2 _ l2 (by omega)];exact hc
set_option maxHeartbeats 4000000
def ttN:TT:=[(3,⟨.int .i64,1,8,[.int .i64 0]⟩),(4,⟨.bool,1,1,[.bool false]⟩),(5,⟨.int .u8,1,1,[.int .u8 0]⟩),(9,⟨.str,1,16,[.str []]⟩),(25,⟨.slice 5,1,24,[.slice 0 [] (some 5)]⟩),(36,⟨.strct [(9,0),(9,1)],2,32,[.str [],.str []]⟩),(51,⟨.strct [(36,0),(36,2),(3,4),(3,5)],6,80,[.str [],.str [],.str [],.str [],.int .i64 0,.int .i64 0]⟩),(53,⟨.strct [(36,0),(3,2),(25,3)],4,64,[.str [],.str [],.int .i64 0,.slice 0 [] (some 5)]⟩),(55,⟨.strct [(53,0),(25,4),(36,5),(3,7),(3,8)],9,136,[.str [],.str [],.int .i64 0,.slice 0 [] (some 5),.slice 0 [] (some 5),.str [],.str [],.int .i64 0,.int .i64 0]⟩),(57,⟨.strct [(36,0),(53,2),(25,6)],7,120,[.str [],.str [],.str [],.str [],.int .i64 0,.slice 0 [] (some 5),.slice 0 [] (some 5)]⟩),(59,⟨.strct [(53,0),(25,4)],5,88,[.str [],.str [],.int .i64 0,.slice 0 [] (some 5),.slice 0 [] (some 5)]⟩),(26,⟨.int .i64,1,8,[.int .i64 0]⟩),(61,⟨.strct [(26,0),(3,1)],2,16,[.int .i64 0,.int .i64 0]⟩),(63,⟨.strct [(3,0),(51,1),(55,7),(57,16),(59,23),(61,28)],30,448,[.int .i64 0,.str [],.str [],.str [],.str [],.int .i64 0,.int .i64 0,.str [],.str [],.int .i64 0,.slice 0 [] (some 5),.slice 0 [] (some 5),.str [],.str [],.int .i64 0,.int .i64 0,.str [],.str [],.str [],.str [],.int .i64 0,.slice 0 [] (some 5),.slice 0 [] (some 5),.str [],.str [],.int .i64 0,.slice 0 [] (some 5),.slice 0 [] (some 5),.int .i64 0,.int .i64 0]⟩),(150,⟨.fn,1,8,[.nilF]⟩),(213,⟨.ptr,1,8,[.ptr none]⟩),(215,⟨.strct [(213,0)],1,8,[.ptr none]⟩)]
theorem ttN_ok:ttOk prog ttN=true:=by kernel_rfl
def imm136:List Nat:=[1]
def imm87:List Nat:=[]
def imm86:List Nat:=[4]
def imm44:List Nat:=[]
structure TakS (T:Nat) (zc:List PV) (B K:PH) (r a e q:Nat) (s:Option (List UInt8)) (cells:List PV) (ver:Nat):Prop where
 z:K[r]? = some ⟨T,zc,0⟩
 c:K[a]? = some ⟨215,[.ptr (some (e,0))],1⟩
 p:K[q]? = some ⟨T,cells,ver⟩
 cur:curAt K e s
 up:Upd (·=e) B K
 lb:B.length≤q
 n1:r≠e
 n2:a≠e
 n3:q≠e
 n4:q≠a
 n5:q≠r
theorem TakS.call {T:Nat} {zc:List PV} {B K K':PH} {r a e q:Nat} {s s':Option (List UInt8)} {cells:List PV} {ver:Nat} (h:TakS T zc B K r a e q s cells ver) (u:Upd (·=e) K K') (c:curAt K' e s') :
  TakS T zc B K' r a e q s' cells ver:=by
 have lt:∀{i:Nat} {o:PObj},K[i]? = some o→i<K.length:=fun h=>(zq1.1 h).1
 exact ⟨(u.2 _ (lt h.z) h.n1).trans h.z,(u.2 _ (lt h.c) h.n2).trans h.c,(u.2 _ (lt h.p) h.n3).trans h.p,c,h.up.trans u,h.lb,h.n1,h.n2,h.n3,h.n4,h.n5⟩
theorem TakS.store {T:Nat} {zc:List PV} {B K:PH} {r a e q:Nat} {s:Option (List UInt8)} {cells:List PV} {ver:Nat} (h:TakS T zc B K r a e q s cells ver) (cells':List PV) (ver':Nat) :
  TakS T zc B (K.set q ⟨T,cells',ver'⟩) r a e q s cells' ver':=by
 refine ⟨?_,?_,gS h.p,h.cur.set_ne h.n3 _,h.up.set (.inr h.lb) _,h.lb,h.n1,h.n2,h.n3,h.n4,h.n5⟩
 ·rw [zqj h.n5];exact h.z
 ·rw [zqj h.n4];exact h.c
theorem c136 (d:Nat) (s:Option (List UInt8)) (H:PH) (hc:curAt H d s) (hl:∀l,s=some l→l.length≤140737488355328) :
  CK prog 136 [.agg [.ptr (some (d,0))]] H fun r H'=>r=.agg [.str (tickC s).2.r,.str (tickC s).2.n,.int .i64 (tickC s).2.kv,sl (tickC s).2.b]∧Upd (·=d) H H'∧curAt H' d (tickC s).1:=by
 have hd:=hc.lt
 have g0:=elemC_len (tag:=97) hl
 have hs0:∀l,(elemC 97 s).2=some l→l.length≤140737488355328:=fun l h=>(g0.2 l h).1
 have hs1:=(elemC_len (tag:=48) hs0).1
 have hs2:=intC_len hs1
 (refine fnS (imm:=imm136) ttN_ok func136 ?_;(conv=>whnf))
 obtain ⟨H1,hH1⟩:∃H1,H1=H++[PObj.mk 53 [.str [],.str [],.int .i64 0,.slice 0 [] (some 5)] 0]:=⟨_,rfl⟩
 have hl1:H1.length=H.length+1:=by rw [hH1];simp
 have h0:H1[H.length]? = some ⟨53,[.str [],.str [],.int .i64 0,.slice 0 [] (some 5)],0⟩:=by rw [hH1];exact gL _ _
 have u1:Upd (·=d) H H1:=by rw [hH1];exact (Upd.refl H).push _
 have hc1:curAt H1 d s:=hc.keep (X:=fun _=>False) (by rw [hH1];exact (Upd.refl H).push _) (fun f=>f)
 rw [←hH1]
 refine cO (c171 d 97 s H1 hc1 hl) ?_
 rintro _ H2 ⟨e,rfl,k1,k2,k3,k4⟩
 have hle:=k4.lt
 have uB:Upd (·=d) H H2:=u1.trans k2
 conv=>whnf
 ((conv in (_[_]?)=>tactic=>exact gL _ _);(conv=>whnf))
 obtain ⟨H3,hH3⟩:∃H3,H3=(H2++[PObj.mk 215 [.ptr none] 0]).set H2.length (PObj.mk 215 [.ptr (some (e,0))] 1):=⟨_,rfl⟩
 have hH3':H3=H2++[PObj.mk 215 [.ptr (some (e,0))] 1]:=by rw [hH3,sL]
 have u3:Upd (·=e) H2 H3:=by rw [hH3'];exact (Upd.refl H2).push _
 have h3c:H3[H2.length]? = some ⟨215,[.ptr (some (e,0))],1⟩:=by rw [hH3'];exact gL _ _
 have h3e:curAt H3 e (elemC 97 s).2:=k4.keep (X:=fun _=>False) (by rw [hH3'];exact (Upd.refl H2).push _) (fun f=>f)
 have h3z:H3[H.length]? = some ⟨53,[.str [],.str [],.int .i64 0,.slice 0 [] (some 5)],0⟩:=by
  rw [hH3',zq2 (by omega),k2.2 _ (by omega) (by omega)];exact h0
 have h3l:H3.length=H2.length+1:=by rw [hH3'];simp
 subst hH3
 ((conv in (_[_]?)=>tactic=>exact h3c);(conv=>whnf))
 refine cO (c134 e _ _ h3e hs0) ?_
 rintro _ K1 ⟨rfl,u4,g4⟩
 have D1:TakS 53 [.str [],.str [],.int .i64 0,.slice 0 [] (some 5)] H2 ((K1++[PObj.mk 53 [.str [],.str [],.int .i64 0,.slice 0 [] (some 5)] 0]).set K1.length ⟨53,[.str (princC (elemC 97 s).2).2.1,.str (princC (elemC 97 s).2).2.2,.int .i64 0,.slice 0 [] (some 5)],1⟩) H.length H2.length e K1.length (princC (elemC 97 s).2).1 [.str (princC (elemC 97 s).2).2.1,.str (princC (elemC 97 s).2).2.2,.int .i64 0,.slice 0 [] (some 5)] 1:=by
  have hk:H2.length+1≤K1.length:=Nat.le_trans (Nat.le_of_eq h3l.symm) u4.1
  rw [sL]
  refine ⟨?_,?_,gL _ _,g4.keep (X:=fun _=>False) ((Upd.refl K1).push _) (fun f=>f),(u3.trans u4).push _,by omega,by omega,by omega,by omega,by omega,by omega⟩
  ·rw [zq2 (by omega),u4.2 _ (Nat.lt_of_lt_of_le (show H.length<H2.length+1 by omega) (Nat.le_of_eq h3l.symm)) (by omega)];exact h3z
  ·rw [zq2 (by omega),u4.2 _ (Nat.lt_of_lt_of_le (show H2.length<H2.length+1 by omega) (Nat.le_of_eq h3l.symm)) (by omega)];exact h3c
 conv=>whnf
 ((conv in (_[_]?)=>tactic=>exact gL _ _);(conv=>whnf))
 ((conv in (_[_]?)=>tactic=>exact D1.c);(conv=>whnf))
 refine cO (c135 e _ _ D1.cur hs1) ?_
 rintro _ K2 ⟨rfl,u5,g5⟩
 have D2:=D1.call u5 g5
 conv=>whnf
 ((conv in (_[_]?)=>tactic=>exact D2.p);(conv=>whnf))
 have D3:=D2.store [.str (princC (elemC 97 s).2).2.1,.str (princC (elemC 97 s).2).2.2,.int .i64 (intC (princC (elemC 97 s).2).1).2,.slice 0 [] (some 5)] 2
 ((conv in (_[_]?)=>tactic=>exact D3.c);(conv=>whnf))
 refine cO (c137 e _ _ D3.cur hs2) ?_
 rintro _ K4 ⟨rfl,u6,g6,_⟩
 have D4:=D3.call u6 g6
 conv=>whnf
 ((conv in (_[_]?)=>tactic=>exact D4.p);(conv=>whnf))
 have D5:=D4.store [.str (princC (elemC 97 s).2).2.1,.str (princC (elemC 97 s).2).2.2,.int .i64 (intC (princC (elemC 97 s).2).1).2,sl (octC (intC (princC (elemC 97 s).2).1).1).2] 3
 ((conv in (_[_]?)=>tactic=>exact D5.p);(conv=>whnf))
 ((conv in (_[_]?)=>tactic=>exact D5.z);(conv=>whnf))
 ((conv in (_[_]?)=>tactic=>exact gS D5.z);(conv=>whnf))
 have uF:=uB.over D5.up (fun i hi h=>by omega)
 exact ⟨rfl,uF.set (.inr (zqn _)) _,(k3.keep D5.up (by omega)).set_ne (by omega) _⟩
theorem sl_get0 (t:UInt8) (b:List UInt8):∀(j:Nat) (c:PV),[bC t][j]? = some c→((t::b).map bC)[0*1+j]? = some c:=by
 intro j c hj
 match j with
 | 0=>exact hj
 | j+1=>simp at hj
theorem get_mid_set (H:PH) (o o' o'':PObj):((H++[o]++[o']).set (H++[o]).length o'')[H.length]? = some o:=by
 rw [sL];exact get_mid _ _ _
theorem c87x (b:List UInt8) (hb:b.length≤140737488355328) (H:PH):CK prog 87 [sl b] H fun r H'=>r=.agg (takenB b).d.cells∧∃ext,H'=H++ext:=by
 (refine fnS (imm:=imm87) ttN_ok func87 ?_;(conv=>whnf))
 ((conv in (_[_]?)=>tactic=>exact gL _ _);(conv=>whnf))
 cases b with
 | nil =>
  refine ⟨fun _=>?_,fun h=>absurd rfl h⟩
  conv=>whnf
  ((conv in (_[_]?)=>tactic=>exact gS (gL _ _));(conv=>whnf))
  ((conv in (_[_]?)=>tactic=>exact get_mid_set _ _ _ _);(conv=>whnf))
  ((conv in (_[_]?)=>tactic=>exact gS (get_mid_set _ _ _ _));(conv=>whnf))
  exact ⟨rfl,((((Ext.refl H).push _).push _).set (by simp) _).set (zqn _) _⟩
 | cons t b =>
  refine ⟨fun h=>absurd h (by simp <;> omega),fun _=>?_⟩
  conv=>whnf
  obtain ⟨HA,hHA⟩:∃HA,HA=H++[PObj.mk 63 mZ.cells 0]:=⟨_,rfl⟩
  obtain ⟨H1,hH1⟩:∃H1,H1=(HA++[PObj.mk 63 mZ.cells 0]).set HA.length (PObj.mk 63 mZ.cells 1):=⟨_,rfl⟩
  have hlA:HA.length=H.length+1:=by rw [hHA];simp
  have hH1':H1=HA++[PObj.mk 63 mZ.cells 1]:=by rw [hH1,sL]
  have hl1:H1.length=H.length+2:=by rw [hH1'];simp [hlA]
  have h1r:H1[H.length]? = some ⟨63,mZ.cells,0⟩:=by rw [hH1',zq2 (by omega),hHA];exact gL _ _
  have h1q:H1[HA.length]? = some ⟨63,mZ.cells,1⟩:=by rw [hH1'];exact gL _ _
  have u1:Upd (fun _=>False) H H1:=by rw [hH1',hHA];exact ((Upd.refl H).push _).push _
  refine ⟨⟨by decide,by first | (simp;done) | (simp;omega)⟩,[bC t],sl_get0 t b,?_⟩
  conv=>whnf
  subst hH1
  subst hHA
  refine cO (c133 (t::b) t hb _) ?_
  rintro _ H2 ⟨e,rfl,k1,k2,k3⟩
  have k1:((H++[PObj.mk 63 mZ.cells 0]++[PObj.mk 63 mZ.cells 0]).set (H++[PObj.mk 63 mZ.cells 0]).length (PObj.mk 63 mZ.cells 1)).length≤e:=k1
  rw [hl1] at k1
  have k2:Upd (fun _=>False) ((H++[PObj.mk 63 mZ.cells 0]++[PObj.mk 63 mZ.cells 0]).set (H++[PObj.mk 63 mZ.cells 0]).length (PObj.mk 63 mZ.cells 1)) H2:=k2
  have hle:=k3.lt
  have hs0:∀l,(elemC t (some (t::b))).2=some l→l.length≤140737488355328:=fun l h=>((elemC_len (tag:=t) (fun l h=>by cases h;exact hb)).2 l h).1
  show _
  have e0:takenB (t::b)=takenT t (elemC t (some (t::b))).2:=rfl
  rw [e0]
  generalize (elemC t (some (t::b))).2=s at hs0 k3
  have D0:TakS 63 mZ.cells H ((H2++[PObj.mk 215 [.ptr none] 0]).set H2.length (PObj.mk 215 [.ptr (some (e,0))] 1)) H.length H2.length e (H++[PObj.mk 63 mZ.cells 0]).length s mZ.cells 1:=by
   rw [sL]
   have hk:H.length+2≤H2.length:=Nat.le_trans (Nat.le_of_eq hl1.symm) k2.1
   refine ⟨?_,gL _ _,?_,k3.keep (X:=fun _=>False) ((Upd.refl H2).push _) (fun f=>f),((u1.over k2 (fun _ _ h=>h)).push _).mono (fun i _ h=>h.elim),by omega,by omega,by omega,by omega,by omega,by omega⟩
   ·rw [zq2 (by omega),k2.2 _ (by omega) (fun f=>f)];exact h1r
   ·rw [zq2 (by omega),k2.2 _ (by omega) (fun f=>f)];exact h1q
  have fin:∀{K:PH} {s':Option (List UInt8)} {cells:List PV} {ver:Nat} (D:TakS 63 mZ.cells H K H.length H2.length e (H++[PObj.mk 63 mZ.cells 0]).length s' cells ver) (o:PObj),∃ext,K.set H.length o=H++ext:=fun D o =>
   Upd.ext ((D.up.mono (Y:=fun _=>False) (fun i hi h=>by have h:i=e:=h;omega)).set (.inr (zqn _)) o)
  conv=>whnf
  ((conv in (_[_]?)=>tactic=>exact gL _ _);(conv=>whnf))
  refine ⟨⟨by decide,by first | (simp;done) | (simp;omega)⟩,[bC t],sl_get0 t b,?_⟩
  conv=>whnf
  refine ⟨fun h1=>?_,fun h1=>?_⟩
  ·have h1:(t.toNat:Int)=106:=h1
   have et:takenT t s=tkAs s:=by unfold takenT;rw [zqp (by omega)]
   rw [et]
   conv=>whnf
   ((conv in (_[_]?)=>tactic=>exact D0.p);(conv=>whnf))
   have E0:=D0.store ({ mZ with kind:=1 }:Msg).cells 2
   ((conv in (_[_]?)=>tactic=>exact E0.c);(conv=>whnf))
   have l0:∀l,s=some l→l.length≤140737488355328:=hs0
   refine cO (c134 e _ _ E0.cur l0) ?_
   rintro _ K0 ⟨rfl,u0,g0⟩
   have F0:=E0.call u0 g0
   conv=>whnf
   ((conv in (_[_]?)=>tactic=>exact F0.p);(conv=>whnf))
   have E1:=F0.store ({ mZ with kind:=1,a1:=(princC s).2.1,a2:=(princC s).2.2 }:Msg).cells 3
   ((conv in (_[_]?)=>tactic=>exact E1.c);(conv=>whnf))
   have l1:∀l,(princC s).1=some l→l.length≤140737488355328:=(elemC_len (tag:=48) l0).1
   refine cO (c134 e _ _ E1.cur l1) ?_
   rintro _ K1 ⟨rfl,u1,g1⟩
   have F1:=E1.call u1 g1
   conv=>whnf
   ((conv in (_[_]?)=>tactic=>exact F1.p);(conv=>whnf))
   have E2:=F1.store ({ mZ with kind:=1,a1:=(princC s).2.1,a2:=(princC s).2.2,a3:=(princC (princC s).1).2.1,a4:=(princC (princC s).1).2.2 }:Msg).cells 4
   ((conv in (_[_]?)=>tactic=>exact E2.c);(conv=>whnf))
   have l2:∀l,(princC (princC s).1).1=some l→l.length≤140737488355328:=(elemC_len (tag:=48) l1).1
   refine cO (c135 e _ _ E2.cur l2) ?_
   rintro _ K2 ⟨rfl,u2,g2⟩
   have F2:=E2.call u2 g2
   conv=>whnf
   ((conv in (_[_]?)=>tactic=>exact F2.p);(conv=>whnf))
   have E3:=F2.store ({ mZ with kind:=1,a1:=(princC s).2.1,a2:=(princC s).2.2,a3:=(princC (princC s).1).2.1,a4:=(princC (princC s).1).2.2,aTill:=(intC (princC (princC s).1).1).2 }:Msg).cells 5
   ((conv in (_[_]?)=>tactic=>exact E3.c);(conv=>whnf))
   have l3:∀l,(intC (princC (princC s).1).1).1=some l→l.length≤140737488355328:=intC_len l2
   refine cO (c135 e _ _ E3.cur l3) ?_
   rintro _ K3 ⟨rfl,u3,g3⟩
   have F3:=E3.call u3 g3
   conv=>whnf
   ((conv in (_[_]?)=>tactic=>exact F3.p);(conv=>whnf))
   have E4:=F3.store ({ mZ with kind:=1,a1:=(princC s).2.1,a2:=(princC s).2.2,a3:=(princC (princC s).1).2.1,a4:=(princC (princC s).1).2.2,aTill:=(intC (princC (princC s).1).1).2,aNonce:=(intC (intC (princC (princC s).1).1).1).2 }:Msg).cells 6
   ((conv in (_[_]?)=>tactic=>exact E4.p);(conv=>whnf))
   ((conv in (_[_]?)=>tactic=>exact E4.z);(conv=>whnf))
   ((conv in (_[_]?)=>tactic=>exact gS E4.z);(conv=>whnf))
   exact ⟨rfl,fin E4 _⟩
  conv=>whnf
  have h1:¬(t.toNat:Int)=106:=h1
  refine ⟨fun h2=>?_,fun h2=>?_⟩
  ·have h2:(t.toNat:Int)=108:=h2
   have et:takenT t s=tkTgs s:=by unfold takenT;rw [zqo (by omega)];rw [zqp (by omega)]
   rw [et]
   conv=>whnf
   ((conv in (_[_]?)=>tactic=>exact D0.p);(conv=>whnf))
   have E0:=D0.store ({ mZ with kind:=2 }:Msg).cells 2
   ((conv in (_[_]?)=>tactic=>exact E0.c);(conv=>whnf))
   have l0:∀l,s=some l→l.length≤140737488355328:=hs0
   refine cO (c136 e _ _ E0.cur l0) ?_
   rintro _ K0 ⟨rfl,u0,g0⟩
   have F0:=E0.call u0 g0
   conv=>whnf
   ((conv in (_[_]?)=>tactic=>exact F0.p);(conv=>whnf))
   have E1:=F0.store ({ mZ with kind:=2,t1:=(tickC s).2.r,t2:=(tickC s).2.n,tKv:=(tickC s).2.kv,tB:=(tickC s).2.b,tBo:=none }:Msg).cells 3
   ((conv in (_[_]?)=>tactic=>exact E1.c);(conv=>whnf))
   have l1:∀l,(tickC s).1=some l→l.length≤140737488355328:=(elemC_len (tag:=97) l0).1
   refine cO (c137 e _ _ E1.cur l1) ?_
   rintro _ K1 ⟨rfl,u1,g1,_⟩
   have F1:=E1.call u1 g1
   conv=>whnf
   ((conv in (_[_]?)=>tactic=>exact F1.p);(conv=>whnf))
   have E2:=F1.store ({ mZ with kind:=2,t1:=(tickC s).2.r,t2:=(tickC s).2.n,tKv:=(tickC s).2.kv,tB:=(tickC s).2.b,tBo:=none,tAu:=(octC (tickC s).1).2,tAuo:=none }:Msg).cells 4
   ((conv in (_[_]?)=>tactic=>exact E2.c);(conv=>whnf))
   have l2:∀l,(octC (tickC s).1).1=some l→l.length≤140737488355328:=(elemC_len (tag:=4) l1).1
   refine cO (c134 e _ _ E2.cur l2) ?_
   rintro _ K2 ⟨rfl,u2,g2⟩
   have F2:=E2.call u2 g2
   conv=>whnf
   ((conv in (_[_]?)=>tactic=>exact F2.p);(conv=>whnf))
   have E3:=F2.store ({ mZ with kind:=2,t1:=(tickC s).2.r,t2:=(tickC s).2.n,tKv:=(tickC s).2.kv,tB:=(tickC s).2.b,tBo:=none,tAu:=(octC (tickC s).1).2,tAuo:=none,t3:=(princC (octC (tickC s).1).1).2.1,t4:=(princC (octC (tickC s).1).1).2.2 }:Msg).cells 5
   ((conv in (_[_]?)=>tactic=>exact E3.c);(conv=>whnf))
   have l3:∀l,(princC (octC (tickC s).1).1).1=some l→l.length≤140737488355328:=(elemC_len (tag:=48) l2).1
   refine cO (c135 e _ _ E3.cur l3) ?_
   rintro _ K3 ⟨rfl,u3,g3⟩
   have F3:=E3.call u3 g3
   conv=>whnf
   ((conv in (_[_]?)=>tactic=>exact F3.p);(conv=>whnf))
   have E4:=F3.store ({ mZ with kind:=2,t1:=(tickC s).2.r,t2:=(tickC s).2.n,tKv:=(tickC s).2.kv,tB:=(tickC s).2.b,tBo:=none,tAu:=(octC (tickC s).1).2,tAuo:=none,t3:=(princC (octC (tickC s).1).1).2.1,t4:=(princC (octC (tickC s).1).1).2.2,tTill:=(intC (princC (octC (tickC s).1).1).1).2 }:Msg).cells 6
   ((conv in (_[_]?)=>tactic=>exact E4.c);(conv=>whnf))
   have l4:∀l,(intC (princC (octC (tickC s).1).1).1).1=some l→l.length≤140737488355328:=intC_len l3
   refine cO (c135 e _ _ E4.cur l4) ?_
   rintro _ K4 ⟨rfl,u4,g4⟩
   have F4:=E4.call u4 g4
   conv=>whnf
   ((conv in (_[_]?)=>tactic=>exact F4.p);(conv=>whnf))
   have E5:=F4.store ({ mZ with kind:=2,t1:=(tickC s).2.r,t2:=(tickC s).2.n,tKv:=(tickC s).2.kv,tB:=(tickC s).2.b,tBo:=none,tAu:=(octC (tickC s).1).2,tAuo:=none,t3:=(princC (octC (tickC s).1).1).2.1,t4:=(princC (octC (tickC s).1).1).2.2,tTill:=(intC (princC (octC (tickC s).1).1).1).2,tNonce:=(intC (intC (princC (octC (tickC s).1).1).1).1).2 }:Msg).cells 7
   ((conv in (_[_]?)=>tactic=>exact E5.p);(conv=>whnf))
   ((conv in (_[_]?)=>tactic=>exact E5.z);(conv=>whnf))
   ((conv in (_[_]?)=>tactic=>exact gS E5.z);(conv=>whnf))
   exact ⟨rfl,fin E5 _⟩
  conv=>whnf
  have h2:¬(t.toNat:Int)=108:=h2
  refine ⟨fun h3=>?_,fun h3=>?_⟩
  ·have h3:(t.toNat:Int)=107:=h3
   have et:takenT t s=tkRep s:=by unfold takenT;rw [zqo (by omega)];rw [zqo (by omega)];rw [zqp (by omega)]
   rw [et]
   conv=>whnf
   ((conv in (_[_]?)=>tactic=>exact D0.p);(conv=>whnf))
   have E0:=D0.store ({ mZ with kind:=3 }:Msg).cells 2
   ((conv in (_[_]?)=>tactic=>exact E0.c);(conv=>whnf))
   have l0:∀l,s=some l→l.length≤140737488355328:=hs0
   refine cO (c134 e _ _ E0.cur l0) ?_
   rintro _ K0 ⟨rfl,u0,g0⟩
   have F0:=E0.call u0 g0
   conv=>whnf
   ((conv in (_[_]?)=>tactic=>exact F0.p);(conv=>whnf))
   have E1:=F0.store ({ mZ with kind:=3,r1:=(princC s).2.1,r2:=(princC s).2.2 }:Msg).cells 3
   ((conv in (_[_]?)=>tactic=>exact E1.c);(conv=>whnf))
   have l1:∀l,(princC s).1=some l→l.length≤140737488355328:=(elemC_len (tag:=48) l0).1
   refine cO (c136 e _ _ E1.cur l1) ?_
   rintro _ K1 ⟨rfl,u1,g1⟩
   have F1:=E1.call u1 g1
   conv=>whnf
   ((conv in (_[_]?)=>tactic=>exact F1.p);(conv=>whnf))
   have E2:=F1.store ({ mZ with kind:=3,r1:=(princC s).2.1,r2:=(princC s).2.2,r3:=(tickC (princC s).1).2.r,r4:=(tickC (princC s).1).2.n,rKv:=(tickC (princC s).1).2.kv,rB:=(tickC (princC s).1).2.b,rBo:=none }:Msg).cells 4
   ((conv in (_[_]?)=>tactic=>exact E2.c);(conv=>whnf))
   have l2:∀l,(tickC (princC s).1).1=some l→l.length≤140737488355328:=(elemC_len (tag:=97) l1).1
   refine cO (c137 e _ _ E2.cur l2) ?_
   rintro _ K2 ⟨rfl,u2,g2,_⟩
   have F2:=E2.call u2 g2
   conv=>whnf
   ((conv in (_[_]?)=>tactic=>exact F2.p);(conv=>whnf))
   have E3:=F2.store ({ mZ with kind:=3,r1:=(princC s).2.1,r2:=(princC s).2.2,r3:=(tickC (princC s).1).2.r,r4:=(tickC (princC s).1).2.n,rKv:=(tickC (princC s).1).2.kv,rB:=(tickC (princC s).1).2.b,rBo:=none,rBl:=(octC (tickC (princC s).1).1).2,rBlo:=none }:Msg).cells 5
   ((conv in (_[_]?)=>tactic=>exact E3.p);(conv=>whnf))
   ((conv in (_[_]?)=>tactic=>exact E3.z);(conv=>whnf))
   ((conv in (_[_]?)=>tactic=>exact gS E3.z);(conv=>whnf))
   exact ⟨rfl,fin E3 _⟩
  conv=>whnf
  have h3:¬(t.toNat:Int)=107:=h3
  refine ⟨fun h4=>?_,fun h4=>?_⟩
  ·have h4:(t.toNat:Int)=110:=h4
   have et:takenT t s=tkAp s:=by unfold takenT;rw [zqo (by omega)];rw [zqo (by omega)];rw [zqo (by omega)];rw [zqp (by omega)]
   rw [et]
   conv=>whnf
   ((conv in (_[_]?)=>tactic=>exact D0.p);(conv=>whnf))
   have E0:=D0.store ({ mZ with kind:=4 }:Msg).cells 2
   ((conv in (_[_]?)=>tactic=>exact E0.c);(conv=>whnf))
   have l0:∀l,s=some l→l.length≤140737488355328:=hs0
   refine cO (c136 e _ _ E0.cur l0) ?_
   rintro _ K0 ⟨rfl,u0,g0⟩
   have F0:=E0.call u0 g0
   conv=>whnf
   ((conv in (_[_]?)=>tactic=>exact F0.p);(conv=>whnf))
   have E1:=F0.store ({ mZ with kind:=4,p1:=(tickC s).2.r,p2:=(tickC s).2.n,pKv:=(tickC s).2.kv,pB:=(tickC s).2.b,pBo:=none }:Msg).cells 3
   ((conv in (_[_]?)=>tactic=>exact E1.c);(conv=>whnf))
   have l1:∀l,(tickC s).1=some l→l.length≤140737488355328:=(elemC_len (tag:=97) l0).1
   refine cO (c137 e _ _ E1.cur l1) ?_
   rintro _ K1 ⟨rfl,u1,g1,_⟩
   have F1:=E1.call u1 g1
   conv=>whnf
   ((conv in (_[_]?)=>tactic=>exact F1.p);(conv=>whnf))
   have E2:=F1.store ({ mZ with kind:=4,p1:=(tickC s).2.r,p2:=(tickC s).2.n,pKv:=(tickC s).2.kv,pB:=(tickC s).2.b,pBo:=none,pAu:=(octC (tickC s).1).2,pAuo:=none }:Msg).cells 4
   ((conv in (_[_]?)=>tactic=>exact E2.p);(conv=>whnf))
   ((conv in (_[_]?)=>tactic=>exact E2.z);(conv=>whnf))
   ((conv in (_[_]?)=>tactic=>exact gS E2.z);(conv=>whnf))
   exact ⟨rfl,fin E2 _⟩
  conv=>whnf
  have h4:¬(t.toNat:Int)=110:=h4
  refine ⟨fun h5=>?_,fun h5=>?_⟩
  ·have h5:(t.toNat:Int)=126:=h5
   have et:takenT t s=tkFail s:=by unfold takenT;rw [zqo (by omega)];rw [zqo (by omega)];rw [zqo (by omega)];rw [zqo (by omega)];rw [zqp (by omega)]
   rw [et]
   conv=>whnf
   ((conv in (_[_]?)=>tactic=>exact D0.p);(conv=>whnf))
   have E0:=D0.store ({ mZ with kind:=5 }:Msg).cells 2
   ((conv in (_[_]?)=>tactic=>exact E0.c);(conv=>whnf))
   have l0:∀l,s=some l→l.length≤140737488355328:=hs0
   refine cO (c135 e _ _ E0.cur l0) ?_
   rintro _ K0 ⟨rfl,u0,g0⟩
   have F0:=E0.call u0 g0
   conv=>whnf
   ((conv in (_[_]?)=>tactic=>exact F0.p);(conv=>whnf))
   have E1:=F0.store ({ mZ with kind:=5,fErr:=(intC s).2 }:Msg).cells 3
   ((conv in (_[_]?)=>tactic=>exact E1.c);(conv=>whnf))
   have l1:∀l,(intC s).1=some l→l.length≤140737488355328:=intC_len l0
   refine cO (c135 e _ _ E1.cur l1) ?_
   rintro _ K1 ⟨rfl,u1,g1⟩
   have F1:=E1.call u1 g1
   conv=>whnf
   ((conv in (_[_]?)=>tactic=>exact F1.p);(conv=>whnf))
   have E2:=F1.store ({ mZ with kind:=5,fErr:=(intC s).2,fNonce:=(intC (intC s).1).2 }:Msg).cells 4
   ((conv in (_[_]?)=>tactic=>exact E2.p);(conv=>whnf))
   ((conv in (_[_]?)=>tactic=>exact E2.z);(conv=>whnf))
   ((conv in (_[_]?)=>tactic=>exact gS E2.z);(conv=>whnf))
   exact ⟨rfl,fin E2 _⟩
  conv=>whnf
  have h5:¬(t.toNat:Int)=126:=h5
  have et:takenT t s=mZ:=by unfold takenT;rw [zqo (by omega),zqo (by omega),zqo (by omega),zqo (by omega),zqo (by omega)]
  rw [et]
  ((conv in (_[_]?)=>tactic=>exact D0.p);(conv=>whnf))
  ((conv in (_[_]?)=>tactic=>exact D0.z);(conv=>whnf))
  ((conv in (_[_]?)=>tactic=>exact gS D0.z);(conv=>whnf))
  exact ⟨rfl,fin D0 _⟩
theorem old_cells (m:Msg):oldPs m.d.cells=true:=by
 simp [Msg.cells,Msg.as,Msg.tgs,Msg.rep,Msg.ap,Msg.fail,Msg.d,oldPs,oldP,slo,oldPs_bytes]
theorem c87 (b:List UInt8) (hb:b.length≤140737488355328):Pure prog 87 [sl b] (.agg (takenB b).d.cells):=Pure.of_gc (old_cells _) (c87x b hb)
theorem small (t:UInt8) (s:Option (List UInt8)):((elemC t s).2.getD []).length≤65535 :=
 getD_len (B:=(s.getD []).length) (elemC_len (fun l h=>by subst h;exact zqn _)).2
theorem small2 (t:UInt8) (s:Option (List UInt8)):((elemC t s).2.getD []).length≤1099511620000:=Nat.le_trans (small t s) (by decide)
theorem taken_fits (b:List UInt8):(takenB b).fits:=by
 cases b with
 | nil=>simp [takenB,mZ,Msg.fits]
 | cons t b =>
  show (takenT t _).fits
  generalize (elemC t (some (t::b))).2=s
  unfold takenT
  have z:∀n:Nat,([]:List UInt8).length≤n:=fun n=>Nat.zero_le _
  split
  ·refine ⟨?_,?_,?_,?_,?_,?_,?_,?_,?_,?_,?_,?_,?_,?_⟩ <;> first | exact z _ | exact small2 _ _
  ·split
   ·refine ⟨?_,?_,?_,?_,?_,?_,?_,?_,?_,?_,?_,?_,?_,?_⟩ <;> first | exact z _ | exact small2 _ _
   ·split
    ·refine ⟨?_,?_,?_,?_,?_,?_,?_,?_,?_,?_,?_,?_,?_,?_⟩ <;> first | exact z _ | exact small2 _ _
    ·split
     ·refine ⟨?_,?_,?_,?_,?_,?_,?_,?_,?_,?_,?_,?_,?_,?_⟩ <;> first | exact z _ | exact small2 _ _
     ·split
      ·refine ⟨?_,?_,?_,?_,?_,?_,?_,?_,?_,?_,?_,?_,?_,?_⟩ <;> first | exact z _ | exact small2 _ _
      ·refine ⟨?_,?_,?_,?_,?_,?_,?_,?_,?_,?_,?_,?_,?_,?_⟩ <;> first | exact z _ | exact small2 _ _
def okM (m:Msg) (b:List UInt8):Bool:=isB m&&(decide ((laidB m).length≤2000)&&decide (laidB m=b))
def agM (m:Msg) (b:List UInt8):PV:=match okM m b with
 | true=>.tup [.agg m.d.cells,.int .i64 0]
 | false=>.tup [.agg mZ.d.cells,.int .i64 2]
theorem agM_yes {m:Msg} {b:List UInt8} (h:okM m b=true):agM m b=.tup [.agg m.d.cells,.int .i64 0]:=by unfold agM;rw [h]
theorem agM_no {m:Msg} {b:List UInt8} (h:okM m b=false):agM m b=.tup [.agg mZ.d.cells,.int .i64 2]:=by unfold agM;rw [h]
theorem encV_yes {m:Msg} (h:isB m=true∧(laidB m).length≤2000):encV m=.tup [sl (laidB m),.int .i64 0]:=zqp h
theorem encV_no {m:Msg} (h:¬(isB m=true∧(laidB m).length≤2000)):encV m=.tup [.slice 0 [] (some 5),.int .i64 1]:=zqo h
theorem c86x (m:Msg) (b:List UInt8) (hm:m.fits) (H:PH):CK prog 86 [sl b,.agg m.d.cells,.func 72 [] []] H fun r H'=>r=agM m b∧∃ext,H'=H++ext:=by
 (refine fnS (imm:=imm86) ttN_ok func86 ?_;(conv=>whnf))
 have hd:encV m.d=encV m:=rfl
 by_cases hb:isB m=true∧(laidB m).length≤2000
 ·refine cP ((c72 m.d hm).of_eq (hd.trans (encV_yes hb))) ?_
  conv=>whnf
  refine ⟨fun _=>?_,fun h=>absurd rfl h⟩
  conv=>whnf
  refine cP (c132 (laidB m) b) ?_
  cases hq:decide (laidB m=b)
  ·have hk:okM m b=false:=by unfold okM;rw [hq,zq3,zq3]
   rw [agM_no hk]
   conv=>whnf
   ((conv in (_[_]?)=>tactic=>exact gL _ _);(conv=>whnf))
   ((conv in (_[_]?)=>tactic=>exact get_mid _ _ _);(conv=>whnf))
   ((conv in (_[_]?)=>tactic=>exact gS (get_mid _ _ _));(conv=>whnf))
   exact ⟨rfl,(((Ext.refl H).push _).push _).set (zqn _) _⟩
  ·have hk:okM m b=true:=by unfold okM;rw [hq,hb.1,zqe hb.2];rfl
   rw [agM_yes hk]
   conv=>whnf
   ((conv in (_[_]?)=>tactic=>exact get_mid _ _ _);(conv=>whnf))
   ((conv in (_[_]?)=>tactic=>exact gS (get_mid _ _ _));(conv=>whnf))
   exact ⟨rfl,(((Ext.refl H).push _).push _).set (zqn _) _⟩
 ·refine cP ((c72 m.d hm).of_eq (hd.trans (encV_no hb))) ?_
  have hk:okM m b=false:=by
   unfold okM
   cases h1:isB m
   ·rfl
   ·rw [zqd (fun h2=>hb ⟨h1,h2⟩)];rfl
  rw [agM_no hk]
  conv=>whnf
  refine ⟨fun h=>absurd h (by decide),fun _=>?_⟩
  conv=>whnf
  ((conv in (_[_]?)=>tactic=>exact gL _ _);(conv=>whnf))
  ((conv in (_[_]?)=>tactic=>exact get_mid _ _ _);(conv=>whnf))
  ((conv in (_[_]?)=>tactic=>exact gS (get_mid _ _ _));(conv=>whnf))
  exact ⟨rfl,(((Ext.refl H).push _).push _).set (zqn _) _⟩
theorem agM_old (m:Msg) (b:List UInt8):oldR (agM m b)=true:=by
 cases h:okM m b
 ·rw [agM_no h];simp [oldR,oldPs,oldP,old_cells]
 ·rw [agM_yes h];simp [oldR,oldPs,oldP,old_cells]
theorem c86 (m:Msg) (b:List UInt8) (hm:m.fits):Pure prog 86 [sl b,.agg m.d.cells,.func 72 [] []] (agM m b):=Pure.of_gc (agM_old m b) (c86x m b hm)
def decV (b:List UInt8):PV:=agM (takenB b) b
theorem c44x (b:List UInt8) (hb:b.length≤140737488355328) (H:PH):CK prog 44 [sl b] H fun r H'=>r=decV b∧∃ext,H'=H++ext:=by
 (refine fnS (imm:=imm44) ttN_ok func44 ?_;(conv=>whnf))
 refine cP (c87 b hb) ?_
 conv=>whnf
 refine cP (c86 (takenB b) b (taken_fits b)) ?_
 unfold decV
 cases h:okM (takenB b) b
 ·rw [agM_no h]
  conv=>whnf
  ((conv in (_[_]?)=>tactic=>exact gL _ _);(conv=>whnf))
  ((conv in (_[_]?)=>tactic=>exact gS (gL _ _));(conv=>whnf))
  exact ⟨rfl,((Ext.refl H).push _).set (zqn _) _⟩
 ·rw [agM_yes h]
  conv=>whnf
  ((conv in (_[_]?)=>tactic=>exact gL _ _);(conv=>whnf))
  ((conv in (_[_]?)=>tactic=>exact gS (gL _ _));(conv=>whnf))
  exact ⟨rfl,((Ext.refl H).push _).set (zqn _) _⟩
theorem c44 (b:List UInt8) (hb:b.length≤140737488355328):Pure prog 44 [sl b] (decV b):=Pure.of_gc (agM_old _ b) (c44x b hb)
def ttL:TT:=[(3,⟨.int .i64,1,8,[.int .i64 0]⟩),(4,⟨.bool,1,1,[.bool false]⟩),(5,⟨.int .u8,1,1,[.int .u8 0]⟩),(9,⟨.str,1,16,[.str []]⟩),(25,⟨.slice 5,1,24,[.slice 0 [] (some 5)]⟩),(36,⟨.strct [(9,0),(9,1)],2,32,[.str [],.str []]⟩),(51,⟨.strct [(36,0),(36,2),(3,4),(3,5)],6,80,[.str [],.str [],.str [],.str [],.int .i64 0,.int .i64 0]⟩),(53,⟨.strct [(36,0),(3,2),(25,3)],4,64,[.str [],.str [],.int .i64 0,.slice 0 [] (some 5)]⟩),(55,⟨.strct [(53,0),(25,4),(36,5),(3,7),(3,8)],9,136,[.str [],.str [],.int .i64 0,.slice 0 [] (some 5),.slice 0 [] (some 5),.str [],.str [],.int .i64 0,.int .i64 0]⟩),(57,⟨.strct [(36,0),(53,2),(25,6)],7,120,[.str [],.str [],.str [],.str [],.int .i64 0,.slice 0 [] (some 5),.slice 0 [] (some 5)]⟩),(59,⟨.strct [(53,0),(25,4)],5,88,[.str [],.str [],.int .i64 0,.slice 0 [] (some 5),.slice 0 [] (some 5)]⟩),(26,⟨.int .i64,1,8,[.int .i64 0]⟩),(61,⟨.strct [(26,0),(3,1)],2,16,[.int .i64 0,.int .i64 0]⟩),(63,⟨.strct [(3,0),(51,1),(55,7),(57,16),(59,23),(61,28)],30,448,[.int .i64 0,.str [],.str [],.str [],.str [],.int .i64 0,.int .i64 0,.str [],.str [],.int .i64 0,.slice 0 [] (some 5),.slice 0 [] (some 5),.str [],.str [],.int .i64 0,.int .i64 0,.str [],.str [],.str [],.str [],.int .i64 0,.slice 0 [] (some 5),.slice 0 [] (some 5),.str [],.str [],.int .i64 0,.slice 0 [] (some 5),.slice 0 [] (some 5),.int .i64 0,.int .i64 0]⟩),(126,⟨.ptr,1,8,[.ptr none]⟩),(128,⟨.strct [(25,0),(4,1)],2,32,[.slice 0 [] (some 5),.bool false]⟩),(192,⟨.slice 25,1,24,[.slice 0 [] (some 25)]⟩)]
theorem ttL_ok:ttOk prog ttL=true:=by kernel_rfl
def imm147:List Nat:=[]
def imm100:List Nat:=[]
def imm63:List Nat:=[]
def imm67:List Nat:=[]
def imm111:List Nat:=[]
def imm65:List Nat:=[]
def imm57:List Nat:=[]
def imm98:List Nat:=[]
def imm99:List Nat:=[]
def imm53:List Nat:=[]
def imm97:List Nat:=[]
def imm55:List Nat:=[]
def imm54:List Nat:=[]
def imm56:List Nat:=[]
def imm64:List Nat:=[1]
def imm66:List Nat:=[1]
def imm62:List Nat:=[]
def imm24:List Nat:=[1]
def imm22:List Nat:=[]
theorem c147 (n:Nat):Pure prog 147 [.int .i64 n] (slo (lenB n) (some 5)):=by
 intro H
 (refine fnS (imm:=imm147) ttL_ok func147 ?_;(conv=>whnf))
 refine ⟨fun h=>?_,fun h=>?_⟩
 ·conv=>whnf
  have h:(n:Int)<128:=h
  have e:lenB n=[UInt8.ofNat n]:=by unfold lenB;rw [zqp (by omega)]
  rw [e]
  refine ⟨?_,rfl⟩
  show PV.slice 1 [PV.int .u8 (IntKind.u8.wrap (n:Int))] (some 5)=PV.slice 1 [PV.int .u8 ((UInt8.ofNat n).toNat:Int)] (some 5)
  rw [u8w]
 ·conv=>whnf
  have h:¬(n:Int)<128:=h
  refine ⟨fun h2=>?_,fun h2=>?_⟩
  ·conv=>whnf
   have h2:(n:Int)<256:=h2
   have e:lenB n=[129,UInt8.ofNat n]:=by unfold lenB;rw [zqo (by omega),zqp (by omega)]
   rw [e]
   refine ⟨?_,rfl⟩
   show PV.slice 2 [PV.int .u8 129,PV.int .u8 (IntKind.u8.wrap (n:Int))] (some 5)=PV.slice 2 [PV.int .u8 129,PV.int .u8 ((UInt8.ofNat n).toNat:Int)] (some 5)
   rw [u8w]
  ·conv=>whnf
   have h2:¬(n:Int)<256:=h2
   have e:lenB n=[130,UInt8.ofNat (n / 256),UInt8.ofNat n]:=by unfold lenB;rw [zqo (by omega),zqo (by omega)]
   rw [e]
   refine ⟨by decide,?_⟩
   conv=>whnf
   refine ⟨?_,rfl⟩
   show PV.slice 3 [PV.int .u8 130,PV.int .u8 (IntKind.u8.wrap (ishr .i64 (n:Int) 8)),PV.int .u8 (IntKind.u8.wrap (n:Int))] (some 5)=PV.slice 3 [PV.int .u8 130,PV.int .u8 ((UInt8.ofNat (n / 256)).toNat:Int),PV.int .u8 ((UInt8.ofNat n).toNat:Int)] (some 5)
   rw [shr8,u8w,u8w]
theorem c100 (tag:UInt8) (p:List UInt8) (o:Option Nat) (hp:p.length≤1099511627000):Pure prog 100 [bC tag,slo p o] (slo (wrapB tag p) (some 5)):=by
 intro H
 have hl:=lenB_len p.length
 (refine fnS (imm:=imm100) ttL_ok func100 ?_;(conv=>whnf))
 refine cP (c147 p.length) ?_
 conv=>whnf
 refine ⟨⟨by show (1+(lenB p.length).length)*1≤_;omega,by simp,allOne _⟩,?_⟩
 conv=>whnf
 refine ⟨⟨by show (1+(lenB p.length).length+p.length)*1≤_;omega,by simp,allOne _⟩,?_⟩
 conv=>whnf
 refine ⟨?_,rfl⟩
 show PV.slice (1+(lenB p.length).length+p.length) ([bC tag]++(lenB p.length).map bC++p.map bC) (some 5)=PV.slice (wrapB tag p).length ((wrapB tag p).map bC) (some 5)
 have e1:(wrapB tag p).length=1+(lenB p.length).length+p.length:=by unfold wrapB;rw [List.length_cons,zqf];omega
 have e2:(wrapB tag p).map bC=[bC tag]++(lenB p.length).map bC++p.map bC:=by unfold wrapB;rw [List.map_cons,List.map_append];rfl
 rw [e1,e2]
theorem c67 (p:List UInt8) (o:Option Nat) (hp:p.length≤1099511627000):Pure prog 67 [slo p o] (slo (wrapB 4 p) (some 5)):=by
 intro H
 (refine fnS (imm:=imm67) ttL_ok func67 ?_;(conv=>whnf))
 refine cP (c100 4 p none hp) ?_
 conv=>whnf
 exact ⟨rfl,rfl⟩
theorem c111 (p:List UInt8) (hp:p.length≤1099511627000):Pure prog 111 [.str p] (slo (wrapB 27 p) (some 5)):=by
 intro H
 (refine fnS (imm:=imm111) ttL_ok func111 ?_;(conv=>whnf))
 refine ⟨by omega,?_⟩
 conv=>whnf
 refine cP (c100 27 p none hp) ?_
 conv=>whnf
 exact ⟨rfl,rfl⟩
structure RwS where
 i:Nat
theorem flat_len (ls:List (List UInt8)) (i:Nat):(ls.take i).flatten.length≤ls.flatten.length:=by
 conv=>rhs;rw [←List.take_append_drop i ls,List.flatten_append,zqf]
 omega
theorem c63 (tag:UInt8) (ls:List (List UInt8)) (hn:ls.length≤1099511627776) (ht:ls.flatten.length≤1099511627000):Pure prog 63 [bC tag,.slice ls.length (ls.map sl) none] (slo (wrapB tag ls.flatten) (some 5)):=by
 intro H
 (refine fnS (imm:=imm63) ttL_ok func63 ?_;(conv=>whnf))
 refine lO RwS (fun x=>[(0,bC tag),(1,.slice ls.length (ls.map sl) none),(6,.int .i64 x.i),(5,slo (ls.take x.i).flatten (some 5))]) (fun _=>H) (fun x=>x.i≤ls.length) (fun x=>ls.length - x.i)
  ⟨⟨0⟩,Nat.zero_le _,⟨rfl,rfl,rfl,rfl,zqv⟩,rfl⟩ ?_
 rintro ⟨i⟩ hi
 have hi:i≤ls.length:=hi
 conv=>whnf
 refine ⟨fun h=>?_,fun h=>?_⟩
 ·conv=>whnf
  have h:(i:Int)<(ls.length:Int):=h
  have hlt:i<ls.length:=by omega
  have hat:(ls.map sl)[(i:Int).toNat*1]? = some (sl ls[i]):=by
   rw [Int.toNat_natCast,Nat.mul_one,List.getElem?_map,zqc hlt];rfl
  refine ⟨⟨by show (0:Int)≤(i:Int);omega,h⟩,[sl ls[i]],at1 hat,?_⟩
  conv=>whnf
  have e1:=flat_take hlt
  have e2:=flat_len ls (i+1)
  rw [e1,zqf] at e2
  refine ⟨⟨by show ((ls.take i).flatten.length+ls[i].length)*1≤_;omega,by simp,allOne _⟩,?_⟩
  conv=>whnf
  refine ⟨⟨i+1⟩,hlt,⟨rfl,rfl,?_,?_,zqv⟩,rfl,by show ls.length - (i+1)<ls.length - i;omega⟩
  ·show PV.int _ (IntKind.i64.wrap ((i:Int)+1))=PV.int _ ((i+1:Nat):Int)
   rw [w64 (by omega) (by omega)];rfl
  ·show PV.slice ((ls.take i).flatten.length+ls[i].length) ((ls.take i).flatten.map bC++ls[i].map bC) (some 5)=slo (ls.take (i+1)).flatten (some 5)
   rw [e1];unfold slo;rw [zqf,List.map_append]
 ·conv=>whnf
  have h:¬(i:Int)<(ls.length:Int):=h
  have hi2:i=ls.length:=by omega
  subst hi2
  rw [List.take_length]
  refine cP (c100 tag ls.flatten none ht) ?_
  conv=>whnf
  exact ⟨rfl,rfl⟩
def digB (n:Nat):List UInt8:=if n=0 then [0] else (le 9 n).reverse
theorem digB_len (n:Nat):(digB n).length≤9:=by
 unfold digB
 split
 ·decide
 ·rw [List.length_reverse];exact le_len 9 n
theorem digB_intB (n : Nat) (x : UInt8) (t : List UInt8) (h : digB n = x :: t) : intB n = if 128 ≤ x.toNat then 0 :: x :: t else x :: t := by
  unfold digB at h
  unfold intB padB
  split at h
  · rename_i e
    subst e
    cases h
    rw [le_zero, zqp (.inl rfl), zqo (by decide)]; rfl
  · have hl : le 9 n = (x :: t).reverse := by rw [← h, List.reverse_reverse]
    have hg : ((x :: t).reverse.getLast?.getD 0) = x := by simp
    rw [hl, hg]
    by_cases hc : 128 ≤ x.toNat
    · rw [zqp (.inr hc), zqp hc, List.reverse_append, List.reverse_reverse]; rfl
    · rw [zqo (fun hh => by rcases hh with hh | hh; · simp at hh
                            · exact hc hh), zqo hc, List.reverse_reverse]
theorem digB_ne (n:Nat) (hn:n≤4611686018427387904):digB n≠[]:=by
 unfold digB
 split
 ·simp
 ·rename_i h0
  intro e
  have e:le 9 n=[]:=by rw [←List.reverse_reverse (le 9 n),e];rfl
  exact h0 (le_nil 9 n (by omega) e)
structure RiS where
 m:Nat
 p:List UInt8
theorem c65 (n:Int):Pure prog 65 [.int .i64 n] (slo (intE n) (some 5)):=by
 intro H
 (refine fnS (imm:=imm65) ttL_ok func65 ?_;(conv=>whnf))
 have hN:min (max n 0) 4611686018427387904=(clampI n:Int):=by unfold clampI;omega
 have hN2:clampI n≤4611686018427387904:=by unfold clampI;omega
 refine ⟨by decide,?_⟩
 conv=>whnf
 have hbw:∀m:Nat,PV.int .u8 (IntKind.u8.wrap (m:Int))=bC (UInt8.ofNat m):=fun m=>zqm (PV.int .u8) (u8w m)
 refine lO RiS (fun x=>[(0,.int .i64 x.m),(3,slo x.p (some 5))]) (fun _=>H)
  (fun x=>∃f,(le f x.m).reverse++x.p=digB (clampI n)∧x.m<256 ^ f∧x.m≤4611686018427387904) (fun x=>x.m)
  ⟨⟨clampI n / 256,[UInt8.ofNat (clampI n)]⟩,⟨8,?_,by show clampI n / 256<256 ^ 8;omega,by show clampI n / 256≤_;omega⟩,⟨?_,?_,zqv⟩,rfl⟩ ?_
 ·show (le 8 (clampI n / 256)).reverse++[UInt8.ofNat (clampI n)]=_
  unfold digB
  split
  ·rename_i e
   rw [e];rfl
  ·rename_i e
   have hle:le (8+1) (clampI n)=UInt8.ofNat (clampI n)::le 8 (clampI n / 256):=by
    conv=>lhs;unfold le
    rw [zqo e]
   show _=(le (8+1) (clampI n)).reverse
   rw [hle,List.reverse_cons]
 ·show PV.int .i64 (ishr .i64 (min (max n 0) 4611686018427387904) 8)=PV.int .i64 ((clampI n / 256:Nat):Int)
  rw [hN,shr8]
 ·show PV.slice 1 [PV.int .u8 (IntKind.u8.wrap (min (max n 0) 4611686018427387904))] (some 5)=slo [UInt8.ofNat (clampI n)] (some 5)
  rw [hN,hbw];rfl
 rintro ⟨m,p⟩ ⟨f,g1,g2,g3⟩
 have g1:(le f m).reverse++p=digB (clampI n):=g1
 have g2:m<256 ^ f:=g2
 have g3:m≤4611686018427387904:=g3
 have hp9:p.length≤9:=by
  have:=digB_len (clampI n)
  rw [←g1,zqf] at this
  omega
 conv=>whnf
 refine ⟨fun h=>?_,fun h=>?_⟩
 ·conv=>whnf
  have h:(m:Int) > 0:=h
  have hf:∃f',f=f'+1:=by
   cases f with
   | zero=>simp at g2;omega
   | succ f=>exact ⟨f,rfl⟩
  obtain ⟨f,rfl⟩:=hf
  have hle:le (f+1) m=UInt8.ofNat m::le f (m / 256):=by
   conv=>lhs;unfold le
   rw [zqo (by omega)]
  refine ⟨⟨by show (1+p.length)*1≤_;omega,by simp,allOne _⟩,?_⟩
  conv=>whnf
  refine ⟨by decide,?_⟩
  conv=>whnf
  refine ⟨⟨m / 256,UInt8.ofNat m::p⟩,⟨f,?_,?_,by show m / 256≤_;omega⟩,⟨?_,?_,zqv⟩,rfl,by show m / 256<m;omega⟩
  ·show (le f (m / 256)).reverse++(UInt8.ofNat m::p)=_
   rw [←g1,hle,List.reverse_cons,List.append_assoc];rfl
  ·show m / 256<256 ^ f
   rw [Nat.div_lt_iff_lt_mul (by omega),←Nat.pow_succ];exact g2
  ·show PV.int .i64 (ishr .i64 (m:Int) 8)=PV.int .i64 ((m / 256:Nat):Int)
   rw [shr8]
  ·show PV.slice (1+p.length) ([PV.int .u8 (IntKind.u8.wrap (m:Int))]++p.map bC) (some 5)=PV.slice (p.length+1) (bC (UInt8.ofNat m)::p.map bC) (some 5)
   rw [hbw,Nat.add_comm];rfl
 ·conv=>whnf
  have h:¬(m:Int) > 0:=h
  have hm:m=0:=by omega
  subst hm
  rw [le_zero] at g1
  have g1:p=digB (clampI n):=g1
  have hne:=digB_ne (clampI n) hN2
  rw [←g1] at hne
  have hib:=digB_intB (clampI n)
  cases p with
  | nil=>exact absurd rfl hne
  | cons x t =>
   have hib:=hib x t g1.symm
   refine ⟨⟨by decide,by first | (simp;done) | (simp;omega)⟩,[bC x],sl_get0 x t,?_⟩
   conv=>whnf
   refine ⟨fun h=>?_,fun h=>?_⟩
   ·conv=>whnf
    have h:(128:Int)≤(x.toNat:Int):=h
    rw [zqp (by omega)] at hib
    have hp9:t.length+1≤9:=hp9
    refine ⟨⟨by show (1+(t.length+1))*1≤_;omega,by simp,allOne (x::t)⟩,?_⟩
    conv=>whnf
    have hE:slo (0::x::t) (some 5)=PV.slice (1+(x::t).length) ([PV.int .u8 0]++(x::t).map bC) (some 5):=by
     unfold slo
     rw [Nat.add_comm];rfl
    refine cA (args':=[bC 2,slo (0::x::t) none]) (zqm (fun n=>[bC 2,PV.slice n ([PV.int .u8 0]++(x::t).map bC) none]) (Nat.add_comm 1 _)) (cP (c100 2 (0::x::t) none (by simp;omega)) ?_)
    conv=>whnf
    refine ⟨?_,rfl⟩
    unfold intE
    rw [hib];rfl
   ·conv=>whnf
    have h:¬(128:Int)≤(x.toNat:Int):=h
    rw [zqo (by omega)] at hib
    have hp9:t.length+1≤9:=hp9
    refine cP (c100 2 (x::t) none (by simp;omega)) ?_
    conv=>whnf
    refine ⟨?_,rfl⟩
    unfold intE
    rw [hib];rfl
theorem or8 (a b:Nat) (ha:a<36028797018963968) (hb:b<256):ibits .or .i64 ((a*256:Nat):Int) (b:Int)=((a*256+b:Nat):Int):=by
 show IntKind.i64.wrap ((BitVec.ofInt 64 ((a*256:Nat):Int) ||| BitVec.ofInt 64 (b:Int)).toNat:Int)=_
 have e1:(BitVec.ofInt 64 ((a*256:Nat):Int)).toNat=a*256:=by rw [BitVec.toNat_ofInt];omega
 have e2:(BitVec.ofInt 64 (b:Int)).toNat=b:=by rw [BitVec.toNat_ofInt];omega
 have e3:=Nat.two_pow_add_eq_or_of_lt (i:=8) (show b<2 ^ 8 by omega) a
 have e4:2 ^ 8*a=a*256:=by rw [Nat.mul_comm]
 rw [e4] at e3
 rw [BitVec.toNat_or,e1,e2,←e3,w64 (by omega) (by omega)]
def rcur (H:PH) (c:Nat) (s:Option (List UInt8)):Prop:=∃b v,H[c]? = some ⟨128,[sl b,.bool s.isNone],v⟩∧∀l,s=some l→b=l
theorem rcur.lt {H:PH} {c:Nat} {s:Option (List UInt8)} (h:rcur H c s):c<H.length:=by
 obtain ⟨b,v,h,_⟩:=h
 exact (zq1.1 h).1
theorem rcur.keep {X:Nat→Prop} {H H':PH} {c:Nat} {s:Option (List UInt8)} (h:rcur H c s) (k:Upd X H H') (hc:¬X c):rcur H' c s:=by
 have hl:=h.lt
 obtain ⟨b,v,h,h2⟩:=h
 exact ⟨b,v,(k.2 c hl hc).trans h,h2⟩
theorem rcur.set_ne {H:PH} {c j:Nat} {s:Option (List UInt8)} (h:rcur H c s) (hj:j≠c) (x:PObj):rcur (H.set j x) c s:=by
 obtain ⟨b,v,h1,h2⟩:=h
 exact ⟨b,v,by rw [zqj hj];exact h1,h2⟩
theorem head_lt (y:UInt8) (r:List UInt8) (h:y.toNat<128):headB (y::r)=(1,y.toNat,true):=by
 match r with
 | []=>rw [head_1,zqp h]
 | [z]=>rw [head_2,zqp h]
 | z::w::u=>rw [head_3,zqp h]
theorem head_81 (y z:UInt8) (r:List UInt8) (h:y.toNat=129):headB (y::z::r)=if 128≤z.toNat then (2,z.toNat,true) else (0,0,false):=by
 match r with
 | [] =>
  rw [head_2,zqo (by omega)]
  by_cases h2:128≤z.toNat
  ·rw [zqp ⟨h,h2⟩,zqp h2]
  ·rw [zqo (fun hh=>h2 hh.2),zqo h2]
 | w::u =>
  rw [head_3,zqo (by omega)]
  by_cases h2:128≤z.toNat
  ·rw [zqp ⟨h,h2⟩,zqp h2]
  ·rw [zqo (fun hh=>h2 hh.2),zqo h2,zqo (fun hh=>by omega)]
theorem head_82 (y z w:UInt8) (r:List UInt8) (h:y.toNat=130):headB (y::z::w::r)=if 0<z.toNat then (3,z.toNat*256+w.toNat,true) else (0,0,false):=by
 rw [head_3,zqo (by omega),zqo (fun hh=>by omega)]
 by_cases h2:0<z.toNat
 ·rw [zqp ⟨h,h2⟩,zqp h2]
 ·rw [zqo (fun hh=>h2 hh.2),zqo h2]
theorem head_bad (y:UInt8) (r:List UInt8) (h:128≤y.toNat) (h1:¬(y.toNat=129∧r≠[])) (h2:¬(y.toNat=130∧2≤r.length)):(headB (y::r)).2.2=false:=by
 match r with
 | []=>rw [head_1,zqo (by omega)]
 | [z]=>rw [head_2,zqo (by omega),zqo (fun hh=>h1 ⟨hh.1,by simp⟩)]
 | z::w::u=>rw [head_3,zqo (by omega),zqo (fun hh=>h1 ⟨hh.1,by simp⟩),zqo (fun hh=>h2 ⟨hh.1,by simp⟩)]
theorem elemC_ne {t tag:UInt8} {b:List UInt8} (h:¬t=tag):elemC tag (some (t::b))=(none,none):=by
 refine elemC_bad ?_
 show (if t=tag then _ else none)=none
 rw [zqo h]
theorem elemC_hd {t:UInt8} {b:List UInt8} {h1 n:Nat} {ok:Bool} (h:headB b=(h1,n,ok)) (hb:¬(ok=true∧h1+n≤b.length)):elemC t (some (t::b))=(none,none):=by
 refine elemC_bad ?_
 show (if t=t then (if (headB b).2.2=true∧(headB b).1+(headB b).2.1≤b.length then some ((b.drop (headB b).1).take (headB b).2.1,b.drop ((headB b).1+(headB b).2.1)) else none) else none)=none
 rw [zqp rfl,h]
 exact zqo hb
theorem elemC_hy {t:UInt8} {b:List UInt8} {h1 n:Nat} (h:headB b=(h1,n,true)) (hb:h1+n≤b.length):elemC t (some (t::b))=(some (b.drop (h1+n)),some ((b.drop h1).take n)):=by
 show (match elemB t (t::b) with | none=>(none,none) | some (x,r)=>(some r,some x))=_
 have e:elemB t (t::b)=some ((b.drop h1).take n,b.drop (h1+n)):=by
  show (if t=t then (if (headB b).2.2=true∧(headB b).1+(headB b).2.1≤b.length then some ((b.drop (headB b).1).take (headB b).2.1,b.drop ((headB b).1+(headB b).2.1)) else none) else none)=_
  rw [zqp rfl,h]
  exact zqp ⟨rfl,hb⟩
 rw [e]
theorem elemC_f {t:UInt8} {b:List UInt8} (h:(headB b).2.2=false):elemC t (some (t::b))=(none,none):=by
 refine elemC_bad ?_
 show (if t=t then (if (headB b).2.2=true∧(headB b).1+(headB b).2.1≤b.length then some ((b.drop (headB b).1).take (headB b).2.1,b.drop ((headB b).1+(headB b).2.1)) else none) else none)=none
 rw [zqp rfl]
 exact zqo (fun hh=>by rw [h] at hh;cases hh.1)
theorem lenB_1 {n:Nat} (h:n<128):(lenB n).length=1:=by unfold lenB;rw [zqp h];rfl
theorem lenB_2 {n:Nat} (h:128≤n) (h2:n<256):(lenB n).length=2:=by unfold lenB;rw [zqo (by omega),zqp (by omega)];rfl
theorem lenB_3 {n:Nat} (h:256≤n):(lenB n).length=3:=by unfold lenB;rw [zqo (by omega),zqo (by omega)];rfl
theorem c97 (c:Nat) (tag:UInt8) (s:Option (List UInt8)) (H:PH) (hc:rcur H c s) (hl:∀l,s=some l→l.length≤140737488355328) :
  CK prog 97 [.ptr (some (c,0)),bC tag] H fun r H'=>(∃o,r=slo ((elemC tag s).2.getD []) o)∧Upd (·=c) H H'∧rcur H' c (elemC tag s).1:=by
 obtain ⟨b,v,hc0,hx⟩:=id hc
 (refine fnS (imm:=imm97) ttL_ok func97 ?_;(conv=>whnf))
 ((conv in (_[_]?)=>tactic=>exact hc0);(conv=>whnf))
 have fin:∀(q:Option (List UInt8)×Option (List UInt8)),q=(none,none)→∀o',(∃o,PV.slice 0 [] o'=slo (q.2.getD []) o)∧Upd (·=c) H (H.set c ⟨128,[sl b,.bool true],v+1⟩)∧rcur (H.set c ⟨128,[sl b,.bool true],v+1⟩) c q.1:=fun q hq o'=>by
  subst hq
  exact ⟨⟨o',rfl⟩,((Upd.refl H).set (X:=(·=c)) (.inl rfl) _),b,v+1,gS hc0,fun l h=>by cases h⟩
 cases s with
 | none =>
  ((conv in (_[_]?)=>tactic=>exact hc0);(conv=>whnf))
  ((conv in (_[_]?)=>tactic=>exact hc0);(conv=>whnf))
  exact fin _ rfl _
 | some l =>
  have hb:=hx l rfl
  subst hb
  have hll:=hl b rfl
  ((conv in (_[_]?)=>tactic=>exact hc0);(conv=>whnf))
  match b,hc0,hll with
  | [],hc0,_ =>
   refine ⟨fun _=>?_,fun h=>absurd (by decide) h⟩
   conv=>whnf
   ((conv in (_[_]?)=>tactic=>exact hc0);(conv=>whnf))
   exact fin _ rfl _
  | [t],hc0,_ =>
   refine ⟨fun _=>?_,fun h=>absurd (by show ((1:Nat):Int)<2;decide) h⟩
   conv=>whnf
   ((conv in (_[_]?)=>tactic=>exact hc0);(conv=>whnf))
   refine fin _ ?_ _
   by_cases h:t=tag
   ·subst h;exact elemC_hd (h1:=0) (n:=0) (ok:=false) rfl (fun hh=>by cases hh.1)
   ·exact elemC_ne h
  | t::y::r,hc0,hll =>
   have hll:r.length+2≤140737488355328:=hll
   refine ⟨fun h=>absurd h (by simp;omega),fun _=>?_⟩
   conv=>whnf
   have i0:(0:Int)≤0∧(0:Int)<(((t::y::r).length:Nat):Int):=⟨by decide,by simp;omega⟩
   have i1:(0:Int)≤1∧(1:Int)<(((t::y::r).length:Nat):Int):=⟨by decide,by simp;omega⟩
   refine ⟨i0,[bC t],at1 (k:=0*1) rfl,?_⟩
   conv=>whnf
   refine ⟨fun ht=>?_,fun ht=>?_⟩
   rotate_left
   ·have ht:¬t=tag:=fun e=>ht (show (t.toNat:Int)=(tag.toNat:Int) by rw [e])
    conv=>whnf
    ((conv in (_[_]?)=>tactic=>exact hc0);(conv=>whnf))
    exact fin _ (elemC_ne ht) _
   have ht:t=tag:=by
    have ht:(t.toNat:Int)=(tag.toNat:Int):=ht
    exact UInt8.toNat_inj.1 (by omega)
   subst ht
   conv=>whnf
   refine ⟨i1,[bC y],at1 (k:=1*1) rfl,?_⟩
   conv=>whnf
   refine ⟨i1,[bC y],at1 (k:=1*1) rfl,?_⟩
   conv=>whnf
   refine ⟨fun h6=>?_,fun h6=>?_⟩
   ·have h6:(y.toNat:Int)=129:=h6
    conv=>whnf
    match r,hc0,hll,i0,i1 with
    | [],hc0,hll,i0,i1 =>
     refine ⟨fun h=>absurd h (by show ¬((2:Nat):Int) ≥ 3;decide),fun _=>?_⟩
     conv=>whnf
     refine ⟨i1,[bC y],at1 (k:=1*1) rfl,?_⟩
     conv=>whnf
     refine ⟨fun h=>absurd (show (y.toNat:Int)=130 from h) (by omega),fun _=>?_⟩
     conv=>whnf
     refine ⟨i1,[bC y],at1 (k:=1*1) rfl,?_⟩
     conv=>whnf
     refine ⟨fun _=>?_,fun h=>absurd (show (128:Int)≤(y.toNat:Int) by omega) h⟩
     conv=>whnf
     ((conv in (_[_]?)=>tactic=>exact hc0);(conv=>whnf))
     exact fin _ (elemC_f (head_bad y [] (by omega) (fun hh=>hh.2 rfl) (fun hh=>by omega))) _
    | z::r,hc0,hll,i0,i1 =>
     have i2:(0:Int)≤2∧(2:Int)<(((t::y::z::r).length:Nat):Int):=⟨by decide,by simp;omega⟩
     have hll:r.length+1+2≤140737488355328:=hll
     refine ⟨fun _=>?_,fun h=>absurd (show (((t::y::z::r).length:Nat):Int) ≥ 3 by simp;omega) h⟩
     conv=>whnf
     refine ⟨i2,[bC z],at1 (k:=2*1) rfl,?_⟩
     conv=>whnf
     have hz:=z.toNat_lt
     rw [show IntKind.i64.wrap (z.toNat:Int)=(z.toNat:Int) from wrapB1 z]
     have hd0:=head_81 y z r (by omega)
     have hL:(((t::y::z::r).length:Nat):Int)=(((y::z::r).length+1:Nat):Int):=rfl
     have hl2:2≤(y::z::r).length:=by simp <;> omega
     have hl3:(y::z::r).length≤140737488355327:=by simp <;> omega
     have hnw:IntKind.i64.wrap ((((t::y::z::r).length:Nat):Int) - 3)=(((t::y::z::r).length:Nat):Int) - 3:=by rw [w64 (by omega) (by omega)]
     have hn:z.toNat≤65535:=by omega
     refine ⟨fun hg=>?_,fun hg=>?_⟩
     ·have hg:((z.toNat:Nat):Int) > IntKind.i64.wrap ((((t::y::z::r).length:Nat):Int) - 3):=hg
      rw [hnw,hL] at hg
      conv=>whnf
      ((conv in (_[_]?)=>tactic=>exact hc0);(conv=>whnf))
      by_cases hz8:128≤z.toNat
      ·exact fin _ (elemC_hd (hd0.trans (zqp hz8)) (fun hh=>by have:=hh.2;omega)) _
      ·exact fin _ (elemC_f (by rw [hd0,zqo hz8])) _
     have hg:¬((z.toNat:Nat):Int) > IntKind.i64.wrap ((((t::y::z::r).length:Nat):Int) - 3):=hg
     rw [hnw,hL] at hg
     conv=>whnf
     refine cP (c147 (z.toNat)) ?_
     conv=>whnf
     have ew:IntKind.i64.wrap (3 - 1)=2:=by decide
     refine ⟨fun hs=>?_,fun hs=>?_⟩
     rotate_left
     ·have hs:¬(((lenB (z.toNat)).length:Nat):Int)=IntKind.i64.wrap (3 - 1):=hs
      rw [ew] at hs
      conv=>whnf
      ((conv in (_[_]?)=>tactic=>exact hc0);(conv=>whnf))
      have hz8:¬128≤z.toNat:=fun h8=>hs (by rw [lenB_2 h8 hz];rfl)
      exact fin _ (elemC_f (by rw [hd0,zqo hz8])) _
     have hs:(((lenB (z.toNat)).length:Nat):Int)=IntKind.i64.wrap (3 - 1):=hs
     rw [ew] at hs
     have hz8:128≤z.toNat:=Nat.le_of_not_lt fun h8=>by rw [lenB_1 h8] at hs;exact absurd hs (by decide)
     conv=>whnf
     have haw:IntKind.i64.wrap (3+((z.toNat:Nat):Int))=((3+(z.toNat):Nat):Int):=by rw [w64 (by omega) (by omega)];omega
     have hfit:2+(z.toNat)≤(y::z::r).length:=by omega
     refine ⟨⟨by show (0:Int)≤IntKind.i64.wrap (3+((z.toNat:Nat):Int));rw [haw];omega,by show IntKind.i64.wrap (3+((z.toNat:Nat):Int))≤(((t::y::z::r).length:Nat):Int);rw [haw];omega,by show (((t::y::z::r).length:Nat):Int)≤(((t::y::z::r).length:Nat):Int);omega⟩,?_⟩
     conv=>whnf
     ((conv in (_[_]?)=>tactic=>exact hc0);(conv=>whnf))
     refine ⟨⟨by decide,by show (3:Int)≤IntKind.i64.wrap (3+((z.toNat:Nat):Int));rw [haw];omega,by show IntKind.i64.wrap (3+((z.toNat:Nat):Int))≤(((t::y::z::r).length:Nat):Int);rw [haw];omega⟩,?_⟩
     conv=>whnf
     have e1:=sl_cut (t::y::z::r) 3 (IntKind.i64.wrap (3+((z.toNat:Nat):Int))) ⟨by decide,by rw [haw];omega,by rw [haw];omega⟩
     have e2:=sl_cut (t::y::z::r) (IntKind.i64.wrap (3+((z.toNat:Nat):Int))) (((t::y::z::r).length:Nat):Int) ⟨by rw [haw];omega,by rw [haw];omega,by omega⟩
     have f1:((t::y::z::r).take (IntKind.i64.wrap (3+((z.toNat:Nat):Int))).toNat).drop (3:Int).toNat=((y::z::r).drop 2).take (z.toNat):=by
      rw [haw,Int.toNat_natCast,List.drop_take]
      show ((t::y::z::r).drop 3).take (3+(z.toNat) - 3)=_
      rw [show 3+(z.toNat) - 3=z.toNat by omega];rfl
     have f2:((t::y::z::r).take (((t::y::z::r).length:Nat):Int).toNat).drop (IntKind.i64.wrap (3+((z.toNat:Nat):Int))).toNat=(y::z::r).drop (2+(z.toNat)):=by
      rw [haw,Int.toNat_natCast,Int.toNat_natCast,List.take_length,show 3+(z.toNat)=(2+(z.toNat))+1 by omega];rfl
     have hel:=elemC_hy (t:=t) (hd0.trans (zqp hz8)) hfit
     rw [hel]
     exact ⟨⟨none,e1.trans (by rw [f1];rfl)⟩,((Upd.refl H).set (X:=(·=c)) (.inl rfl) _),_,v+1,(gS hc0).trans (zqm (fun x=>some (PObj.mk 128 [x,.bool false] (v+1))) (e2.trans (by rw [f2]))),fun l h=>Option.some.inj h⟩
   have h6:¬(y.toNat:Int)=129:=h6
   conv=>whnf
   refine ⟨i1,[bC y],at1 (k:=1*1) rfl,?_⟩
   conv=>whnf
   refine ⟨fun h8=>?_,fun h8=>?_⟩
   ·have h8:(y.toNat:Int)=130:=h8
    conv=>whnf
    match r,hc0,hll,i0,i1 with
    | [],hc0,hll,i0,i1 =>
     refine ⟨fun h=>absurd h (by show ¬((2:Nat):Int) ≥ 4;decide),fun _=>?_⟩
     conv=>whnf
     refine ⟨i1,[bC y],at1 (k:=1*1) rfl,?_⟩
     conv=>whnf
     refine ⟨fun _=>?_,fun h=>absurd (show (128:Int)≤(y.toNat:Int) by omega) h⟩
     conv=>whnf
     ((conv in (_[_]?)=>tactic=>exact hc0);(conv=>whnf))
     exact fin _ (elemC_f (head_bad y [] (by omega) (fun hh=>by omega) (fun hh=>absurd hh.2 (by decide)))) _
    | [z],hc0,hll,i0,i1 =>
     refine ⟨fun h=>absurd h (by show ¬((3:Nat):Int) ≥ 4;decide),fun _=>?_⟩
     conv=>whnf
     refine ⟨i1,[bC y],at1 (k:=1*1) rfl,?_⟩
     conv=>whnf
     refine ⟨fun _=>?_,fun h=>absurd (show (128:Int)≤(y.toNat:Int) by omega) h⟩
     conv=>whnf
     ((conv in (_[_]?)=>tactic=>exact hc0);(conv=>whnf))
     exact fin _ (elemC_f (head_bad y [z] (by omega) (fun hh=>by omega) (fun hh=>absurd hh.2 (by show ¬2≤1;decide)))) _
    | z::w::r,hc0,hll,i0,i1 =>
     have i2:(0:Int)≤2∧(2:Int)<(((t::y::z::w::r).length:Nat):Int):=⟨by decide,by simp;omega⟩
     have i3:(0:Int)≤3∧(3:Int)<(((t::y::z::w::r).length:Nat):Int):=⟨by decide,by simp;omega⟩
     have hll:r.length+1+1+2≤140737488355328:=hll
     have hz:=z.toNat_lt
     have hw:=w.toNat_lt
     refine ⟨fun _=>?_,fun h=>absurd (show (((t::y::z::w::r).length:Nat):Int) ≥ 4 by simp;omega) h⟩
     conv=>whnf
     refine dP2 (by kernel_rfl) ?_
     conv=>whnf
     (refine dS ?_;(conv=>whnf))
     refine ⟨.elem [bC z],⟨i2,[bC z],at1 (k:=2*1) rfl,rfl,rfl,zqv⟩,?_⟩
     conv=>whnf
     iterate 2 (refine dS ?_;(conv=>whnf))
     refine ⟨_,⟨by decide,rfl,rfl,zqv⟩,?_⟩
     conv=>whnf
     (refine dS ?_;(conv=>whnf))
     refine ⟨.elem [bC w],⟨i3,[bC w],at1 (k:=3*1) rfl,rfl,rfl,zqv⟩,?_⟩
     conv=>whnf
     iterate 5 (refine dS ?_;(conv=>whnf))
     have hor:ibits .or .i64 (ishl .i64 (IntKind.i64.wrap (z.toNat:Int)) 8) (IntKind.i64.wrap (w.toNat:Int))=(((z.toNat*256+w.toNat):Nat):Int):=by
      rw [ishl8,wrapB1,wrapB1,w64 (by omega) (by omega)]
      exact or8 z.toNat w.toNat (by omega) hw
     rw [hor]
     have hd0:=head_82 y z w r (by omega)
     have hL:(((t::y::z::w::r).length:Nat):Int)=(((y::z::w::r).length+1:Nat):Int):=rfl
     have hl2:3≤(y::z::w::r).length:=by simp <;> omega
     have hl3:(y::z::w::r).length≤140737488355327:=by simp <;> omega
     have hnw:IntKind.i64.wrap ((((t::y::z::w::r).length:Nat):Int) - 4)=(((t::y::z::w::r).length:Nat):Int) - 4:=by rw [w64 (by omega) (by omega)]
     have hn:(z.toNat*256+w.toNat)≤65535:=by omega
     refine ⟨fun hg=>?_,fun hg=>?_⟩
     ·have hg:(((z.toNat*256+w.toNat):Nat):Int) > IntKind.i64.wrap ((((t::y::z::w::r).length:Nat):Int) - 4):=hg
      rw [hnw,hL] at hg
      conv=>whnf
      ((conv in (_[_]?)=>tactic=>exact hc0);(conv=>whnf))
      by_cases hz8:0<z.toNat
      ·exact fin _ (elemC_hd (hd0.trans (zqp hz8)) (fun hh=>by have:=hh.2;omega)) _
      ·exact fin _ (elemC_f (by rw [hd0,zqo hz8])) _
     have hg:¬(((z.toNat*256+w.toNat):Nat):Int) > IntKind.i64.wrap ((((t::y::z::w::r).length:Nat):Int) - 4):=hg
     rw [hnw,hL] at hg
     conv=>whnf
     refine cP (c147 ((z.toNat*256+w.toNat))) ?_
     conv=>whnf
     have ew:IntKind.i64.wrap (4 - 1)=3:=by decide
     refine ⟨fun hs=>?_,fun hs=>?_⟩
     rotate_left
     ·have hs:¬(((lenB ((z.toNat*256+w.toNat))).length:Nat):Int)=IntKind.i64.wrap (4 - 1):=hs
      rw [ew] at hs
      conv=>whnf
      ((conv in (_[_]?)=>tactic=>exact hc0);(conv=>whnf))
      have hz8:¬0<z.toNat:=fun h8=>hs (by rw [lenB_3 (by omega)];rfl)
      exact fin _ (elemC_f (by rw [hd0,zqo hz8])) _
     have hs:(((lenB ((z.toNat*256+w.toNat))).length:Nat):Int)=IntKind.i64.wrap (4 - 1):=hs
     rw [ew] at hs
     have hz8:0<z.toNat:=Nat.pos_of_ne_zero fun h0=>by
      have h9:(lenB (z.toNat*256+w.toNat)).length≤2:=by
       by_cases h7:w.toNat<128
       ·rw [lenB_1 (by omega)];decide
       ·rw [lenB_2 (by omega) (by omega)];decide
      omega
     conv=>whnf
     have haw:IntKind.i64.wrap (4+(((z.toNat*256+w.toNat):Nat):Int))=((4+((z.toNat*256+w.toNat)):Nat):Int):=by rw [w64 (by omega) (by omega)];omega
     have hfit:3+((z.toNat*256+w.toNat))≤(y::z::w::r).length:=by omega
     refine ⟨⟨by show (0:Int)≤IntKind.i64.wrap (4+(((z.toNat*256+w.toNat):Nat):Int));rw [haw];omega,by show IntKind.i64.wrap (4+(((z.toNat*256+w.toNat):Nat):Int))≤(((t::y::z::w::r).length:Nat):Int);rw [haw];omega,by show (((t::y::z::w::r).length:Nat):Int)≤(((t::y::z::w::r).length:Nat):Int);omega⟩,?_⟩
     conv=>whnf
     ((conv in (_[_]?)=>tactic=>exact hc0);(conv=>whnf))
     refine ⟨⟨by decide,by show (4:Int)≤IntKind.i64.wrap (4+(((z.toNat*256+w.toNat):Nat):Int));rw [haw];omega,by show IntKind.i64.wrap (4+(((z.toNat*256+w.toNat):Nat):Int))≤(((t::y::z::w::r).length:Nat):Int);rw [haw];omega⟩,?_⟩
     conv=>whnf
     have e1:=sl_cut (t::y::z::w::r) 4 (IntKind.i64.wrap (4+(((z.toNat*256+w.toNat):Nat):Int))) ⟨by decide,by rw [haw];omega,by rw [haw];omega⟩
     have e2:=sl_cut (t::y::z::w::r) (IntKind.i64.wrap (4+(((z.toNat*256+w.toNat):Nat):Int))) (((t::y::z::w::r).length:Nat):Int) ⟨by rw [haw];omega,by rw [haw];omega,by omega⟩
     have f1:((t::y::z::w::r).take (IntKind.i64.wrap (4+(((z.toNat*256+w.toNat):Nat):Int))).toNat).drop (4:Int).toNat=((y::z::w::r).drop 3).take ((z.toNat*256+w.toNat)):=by
      rw [haw,Int.toNat_natCast,List.drop_take]
      show ((t::y::z::w::r).drop 4).take (4+((z.toNat*256+w.toNat)) - 4)=_
      rw [show 4+((z.toNat*256+w.toNat)) - 4=(z.toNat*256+w.toNat) by omega];rfl
     have f2:((t::y::z::w::r).take (((t::y::z::w::r).length:Nat):Int).toNat).drop (IntKind.i64.wrap (4+(((z.toNat*256+w.toNat):Nat):Int))).toNat=(y::z::w::r).drop (3+((z.toNat*256+w.toNat))):=by
      rw [haw,Int.toNat_natCast,Int.toNat_natCast,List.take_length,show 4+((z.toNat*256+w.toNat))=(3+((z.toNat*256+w.toNat)))+1 by omega];rfl
     have hel:=elemC_hy (t:=t) (hd0.trans (zqp hz8)) hfit
     rw [hel]
     exact ⟨⟨none,e1.trans (by rw [f1];rfl)⟩,((Upd.refl H).set (X:=(·=c)) (.inl rfl) _),_,v+1,(gS hc0).trans (zqm (fun x=>some (PObj.mk 128 [x,.bool false] (v+1))) (e2.trans (by rw [f2]))),fun l h=>Option.some.inj h⟩
   have h8:¬(y.toNat:Int)=130:=h8
   conv=>whnf
   refine ⟨i1,[bC y],at1 (k:=1*1) rfl,?_⟩
   conv=>whnf
   refine ⟨fun h9=>?_,fun h9=>?_⟩
   ·have h9:(128:Int)≤(y.toNat:Int):=h9
    conv=>whnf
    ((conv in (_[_]?)=>tactic=>exact hc0);(conv=>whnf))
    exact fin _ (elemC_f (head_bad y r (by omega) (fun hh=>by omega) (fun hh=>by omega))) _
   have h9:¬(128:Int)≤(y.toNat:Int):=h9
   conv=>whnf
   have hy:=y.toNat_lt
   rw [show IntKind.i64.wrap (y.toNat:Int)=(y.toNat:Int) from wrapB1 y]
   have hd0:=head_lt y r (by omega)
   have hL:(((t::y::r).length:Nat):Int)=(((y::r).length+1:Nat):Int):=rfl
   have hl2:1≤(y::r).length:=by simp <;> omega
   have hl3:(y::r).length≤140737488355327:=by simp <;> omega
   have hnw:IntKind.i64.wrap ((((t::y::r).length:Nat):Int) - 2)=(((t::y::r).length:Nat):Int) - 2:=by rw [w64 (by omega) (by omega)]
   have hn:y.toNat≤65535:=by omega
   refine ⟨fun hg=>?_,fun hg=>?_⟩
   ·have hg:((y.toNat:Nat):Int) > IntKind.i64.wrap ((((t::y::r).length:Nat):Int) - 2):=hg
    rw [hnw,hL] at hg
    conv=>whnf
    ((conv in (_[_]?)=>tactic=>exact hc0);(conv=>whnf))
    exact fin _ (elemC_hd (hd0) (fun hh=>by have:=hh.2;omega)) _
   have hg:¬((y.toNat:Nat):Int) > IntKind.i64.wrap ((((t::y::r).length:Nat):Int) - 2):=hg
   rw [hnw,hL] at hg
   conv=>whnf
   refine cP (c147 (y.toNat)) ?_
   conv=>whnf
   have ew:IntKind.i64.wrap (2 - 1)=1:=by decide
   refine ⟨fun hs=>?_,fun hs=>?_⟩
   rotate_left
   ·have hs:¬(((lenB (y.toNat)).length:Nat):Int)=IntKind.i64.wrap (2 - 1):=hs
    rw [ew] at hs
    conv=>whnf
    ((conv in (_[_]?)=>tactic=>exact hc0);(conv=>whnf))
    exact absurd (by rw [lenB_1 (by omega)];rfl) hs
   have hs:(((lenB (y.toNat)).length:Nat):Int)=IntKind.i64.wrap (2 - 1):=hs
   rw [ew] at hs
   skip
   conv=>whnf
   have haw:IntKind.i64.wrap (2+((y.toNat:Nat):Int))=((2+(y.toNat):Nat):Int):=by rw [w64 (by omega) (by omega)];omega
   have hfit:1+(y.toNat)≤(y::r).length:=by omega
   refine ⟨⟨by show (0:Int)≤IntKind.i64.wrap (2+((y.toNat:Nat):Int));rw [haw];omega,by show IntKind.i64.wrap (2+((y.toNat:Nat):Int))≤(((t::y::r).length:Nat):Int);rw [haw];omega,by show (((t::y::r).length:Nat):Int)≤(((t::y::r).length:Nat):Int);omega⟩,?_⟩
   conv=>whnf
   ((conv in (_[_]?)=>tactic=>exact hc0);(conv=>whnf))
   refine ⟨⟨by decide,by show (2:Int)≤IntKind.i64.wrap (2+((y.toNat:Nat):Int));rw [haw];omega,by show IntKind.i64.wrap (2+((y.toNat:Nat):Int))≤(((t::y::r).length:Nat):Int);rw [haw];omega⟩,?_⟩
   conv=>whnf
   have e1:=sl_cut (t::y::r) 2 (IntKind.i64.wrap (2+((y.toNat:Nat):Int))) ⟨by decide,by rw [haw];omega,by rw [haw];omega⟩
   have e2:=sl_cut (t::y::r) (IntKind.i64.wrap (2+((y.toNat:Nat):Int))) (((t::y::r).length:Nat):Int) ⟨by rw [haw];omega,by rw [haw];omega,by omega⟩
   have f1:((t::y::r).take (IntKind.i64.wrap (2+((y.toNat:Nat):Int))).toNat).drop (2:Int).toNat=((y::r).drop 1).take (y.toNat):=by
    rw [haw,Int.toNat_natCast,List.drop_take]
    show ((t::y::r).drop 2).take (2+(y.toNat) - 2)=_
    rw [show 2+(y.toNat) - 2=y.toNat by omega];rfl
   have f2:((t::y::r).take (((t::y::r).length:Nat):Int).toNat).drop (IntKind.i64.wrap (2+((y.toNat:Nat):Int))).toNat=(y::r).drop (1+(y.toNat)):=by
    rw [haw,Int.toNat_natCast,Int.toNat_natCast,List.take_length,show 2+(y.toNat)=(1+(y.toNat))+1 by omega];rfl
   have hel:=elemC_hy (t:=t) (hd0) hfit
   rw [hel]
   exact ⟨⟨none,e1.trans (by rw [f1];rfl)⟩,((Upd.refl H).set (X:=(·=c)) (.inl rfl) _),_,v+1,(gS hc0).trans (zqm (fun x=>some (PObj.mk 128 [x,.bool false] (v+1))) (e2.trans (by rw [f2]))),fun l h=>Option.some.inj h⟩
theorem elemC_both (tag:UInt8) (s:Option (List UInt8)):(elemC tag s).1.isNone=(elemC tag s).2.isNone:=by
 cases s with
 | none=>rfl
 | some l =>
  have e:elemC tag (some l)=(match elemB tag l with | none=>(none,none) | some (x,r)=>(some r,some x)):=rfl
  rw [e]
  cases elemB tag l with
  | none=>rfl
  | some p=>rfl
theorem c97s (c:Nat) (tag:UInt8) (s:Option (List UInt8)) (H:PH) (hc:rcur H c s) (hl:∀l,s=some l→l.length≤140737488355328) :
  CK prog 97 [.ptr (some (c,0)),bC tag] H fun r H'=>r=sl ((elemC tag s).2.getD [])∧Upd (·=c) H H'∧rcur H' c (elemC tag s).1 :=
 (c97 c tag s H hc hl).dem fun r H' ⟨⟨o,e⟩,h⟩=>by subst e;exact ⟨(fun cs e=>by cases e),rfl,h⟩
theorem c57 (c:Nat) (s:Option (List UInt8)) (H:PH) (hc:rcur H c s) (hl:∀l,s=some l→l.length≤140737488355328) :
  CK prog 57 [.ptr (some (c,0))] H fun r H'=>r=sl (octC s).2∧Upd (·=c) H H'∧rcur H' c (octC s).1:=by
 (refine fnS (imm:=imm57) ttL_ok func57 ?_;(conv=>whnf))
 refine cO (c97s c 4 s H hc hl) ?_
 rintro _ H1 ⟨rfl,h1,h2⟩
 conv=>whnf
 exact ⟨rfl,h1,h2⟩
theorem c98 (c:Nat) (s:Option (List UInt8)) (H:PH) (hc:rcur H c s) (hl:∀l,s=some l→l.length≤140737488355328) :
  CK prog 98 [.ptr (some (c,0))] H fun r H'=>r=.str (txtC s).2∧Upd (·=c) H H'∧rcur H' c (txtC s).1:=by
 (refine fnS (imm:=imm98) ttL_ok func98 ?_;(conv=>whnf))
 refine cO (c97s c 27 s H hc hl) ?_
 rintro _ H1 ⟨rfl,h1,h2⟩
 conv=>whnf
 refine ⟨_,⟨rfl,rfl⟩,?_⟩
 conv=>whnf
 exact ⟨rfl,h1,h2⟩
theorem c53 (c:Nat) (tag:UInt8) (s:Option (List UInt8)) (H:PH) (hc:rcur H c s) (hl:∀l,s=some l→l.length≤140737488355328) :
  CK prog 53 [.ptr (some (c,0)),bC tag] H fun r H'=>∃d,r=.ptr (some (d,0))∧H.length≤d∧Upd (·=c) H H'∧rcur H' c (elemC tag s).1∧rcur H' d (elemC tag s).2:=by
 (refine fnS (imm:=imm53) ttL_ok func53 ?_;(conv=>whnf))
 refine cO (c97s c tag s H hc hl) ?_
 rintro _ H1 ⟨rfl,h1,h2⟩
 obtain ⟨b,v,hb,_⟩:=id h2
 conv=>whnf
 ((conv in (_[_]?)=>tactic=>exact hb);(conv=>whnf))
 refine ⟨H1.length,rfl,h1.1,h1.push _,h2.keep (X:=fun _=>False) ((Upd.refl H1).push _) (fun f=>f),(elemC tag s).2.getD [],0,?_,fun l hl=>by rw [hl];rfl⟩
 rw [←elemC_both]
 exact gL _ _
def wholeB:Option (List UInt8)→Bool
 | some []=>true
 | _=>false
theorem c99 (c:Nat) (s:Option (List UInt8)) (H:PH) (hc:rcur H c s):CK prog 99 [.ptr (some (c,0))] H fun r H'=>r=.bool (wholeB s)∧H'=H:=by
 obtain ⟨b,v,hb,hx⟩:=hc
 (refine fnS (imm:=imm99) ttL_ok func99 ?_;(conv=>whnf))
 ((conv in (_[_]?)=>tactic=>exact hb);(conv=>whnf))
 cases s with
 | none =>
  conv=>whnf
  exact ⟨rfl,rfl⟩
 | some l =>
  have:=hx l rfl
  subst this
  conv=>whnf
  ((conv in (_[_]?)=>tactic=>exact hb);(conv=>whnf))
  cases b with
  | nil =>
   refine ⟨fun _=>?_,fun h=>absurd rfl h⟩
   conv=>whnf
   exact ⟨rfl,rfl⟩
  | cons x t =>
   refine ⟨fun h=>absurd h (by simp <;> omega),fun _=>?_⟩
   conv=>whnf
   exact ⟨rfl,rfl⟩
def stepR (n:Int) (x:UInt8):Int:=ibits .or .i64 (ishl .i64 n 8) (IntKind.i64.wrap (x.toNat:Int))
def numR (l:List UInt8):Int:=l.foldl stepR 0
def okR (p:List UInt8):Bool:=decide (p≠[])&&(decide (p.length≤9)&&(decide (0≤numR p)&&(decide (numR p≤4611686018427387904)&&decide (intE (numR p)=wrapB 2 p))))
def rintR (s':Option (List UInt8)):Option (List UInt8)→Option (List UInt8)×Int
 | none=>(none,0)
 | some p=>if okR p=true then (s',numR p) else (none,0)
def rintC (s:Option (List UInt8)):Option (List UInt8)×Int:=rintR (elemC 2 s).1 (elemC 2 s).2
theorem numR_fold:∀(l:List UInt8) (a:Nat),l.foldl stepV a≤4611686018427387904→l.foldl stepR (a:Int)=((l.foldl stepV a:Nat):Int)
 | [],a,_=>rfl
 | x::l,a,h=>by
  have h:l.foldl stepV (stepV a x)≤4611686018427387904:=h
  have h1:=fold_ge l (stepV a x)
  have h2:stepV a x=a*256+x.toNat:=rfl
  have hx:=x.toNat_lt
  show l.foldl stepR (stepR (a:Int) x)=((l.foldl stepV (stepV a x):Nat):Int)
  rw [←numR_fold l (stepV a x) h]
  congr 1
  unfold stepR
  rw [ishl8,wrapB1,w64 (by omega) (by omega),show (a:Int)*256=((a*256:Nat):Int) by omega,or8 a x.toNat (by omega) hx,h2]
theorem rintC_wrap (n:Int) (h0:0≤n) (h1:n≤4611686018427387904) (rest:List UInt8):rintC (some (intE n++rest))=(some rest,n):=by
 have hc:clampI n=n.toNat:=by unfold clampI;omega
 obtain ⟨k1,k2,k3⟩:=intB_ok n.toNat (by omega)
 have hw:numR (intB n.toNat)=n:=by
  show (intB n.toNat).foldl stepR ((0:Nat):Int)=n
  have e:(intB n.toNat).foldl stepV 0=n.toNat:=k2
  rw [numR_fold _ 0 (by rw [e];omega),e];omega
 have hok:okR (intB n.toNat)=true:=by
  have hne:intB n.toNat≠[]:=fun e=>by rw [e] at k1;cases k1
  unfold okR
  rw [hw,zqe hne,zqe (show (intB n.toNat).length≤9 by omega),zqe h0,zqe h1]
  unfold intE
  rw [hc,zqe rfl];rfl
 have e:elemC 2 (some (intE n++rest))=(some rest,some (intB n.toNat)):=by
  unfold intE
  rw [hc]
  exact elemC_wrap 2 _ rest (by omega)
 unfold rintC
 rw [e]
 show (if okR (intB n.toNat)=true then (some rest,numR (intB n.toNat)) else (none,0))=_
 rw [zqp hok,hw]
theorem c55 (c:Nat) (s:Option (List UInt8)) (H:PH) (hc:rcur H c s) (hl:∀l,s=some l→l.length≤140737488355328) :
  CK prog 55 [.ptr (some (c,0))] H fun r H'=>r=.int .i64 (rintC s).2∧Upd (·=c) H H'∧rcur H' c (rintC s).1:=by
 (refine fnS (imm:=imm55) ttL_ok func55 ?_;(conv=>whnf))
 refine cO (c97s c 2 s H hc hl) ?_
 rintro _ H1 ⟨rfl,h1,h2⟩
 obtain ⟨b,v,hb,hx⟩:=id h2
 unfold rintC
 have hbo:=elemC_both 2 s
 have hl2:=(elemC_len (tag:=2) hl).2
 revert h2 hb hx hbo hl2
 generalize elemC 2 s=q
 obtain ⟨s',p⟩:=q
 intro h2 hb hx hbo hl2
 have fin:∀q:Option (List UInt8)×Int,q=(none,0)→PV.int .i64 0=PV.int .i64 q.2∧Upd (·=c) H (H1.set c ⟨128,[sl b,.bool true],v+1⟩)∧rcur (H1.set c ⟨128,[sl b,.bool true],v+1⟩) c q.1:=fun q hq=>by
  subst hq
  exact ⟨rfl,h1.set (.inl rfl) _,b,v+1,gS hb,fun l h=>by cases h⟩
 conv=>whnf
 ((conv in (_[_]?)=>tactic=>exact hb);(conv=>whnf))
 cases p with
 | none =>
  cases s' with
  | some _=>cases hbo
  | none =>
   conv=>whnf
   ((conv in (_[_]?)=>tactic=>exact hb);(conv=>whnf))
   exact fin _ rfl
 | some p =>
  cases s' with
  | none=>cases hbo
  | some s' =>
   have hp:=(hl2 p rfl).2
   have hno:okR p=false→rintR (some s') (some p)=(none,0):=fun h=>zqo (by rw [h];decide)
   have hpl:(PV.int .i64 (((some p).getD []:List UInt8).length:Int))=.int .i64 (p.length:Int):=rfl
   conv=>whnf
   refine ⟨fun h=>?_,fun h=>?_⟩
   ·conv=>whnf
    ((conv in (_[_]?)=>tactic=>exact hb);(conv=>whnf))
    have h:(p.length:Int)=0:=h
    have e:p=[]:=List.length_eq_zero_iff.1 (by omega)
    exact fin _ (hno (by rw [e];rfl))
   have h:¬(p.length:Int)=0:=h
   have hne:p≠[]:=fun e=>h (by rw [e];rfl)
   conv=>whnf
   refine ⟨fun h9=>?_,fun h9=>?_⟩
   ·have h9:(p.length:Int) > 9:=h9
    conv=>whnf
    ((conv in (_[_]?)=>tactic=>exact hb);(conv=>whnf))
    exact fin _ (hno (by unfold okR;rw [zqd (show ¬p.length≤9 by omega),zq4,zq3]))
   have h9:¬(p.length:Int) > 9:=h9
   conv=>whnf
   refine lO RwS (fun x=>[(0,.ptr (some (c,0))),(3,sl p),(5,.int .i64 x.i),(4,.int .i64 (numR (p.take x.i)))]) (fun _=>H1) (fun x=>x.i≤p.length) (fun x=>p.length - x.i)
    ⟨⟨0⟩,Nat.zero_le _,⟨rfl,rfl,rfl,rfl,zqv⟩,rfl⟩ ?_
   rintro ⟨i⟩ hi
   have hi:i≤p.length:=hi
   conv=>whnf
   refine ⟨fun h5=>?_,fun h5=>?_⟩
   ·conv=>whnf
    have h5:(i:Int)<(p.length:Int):=h5
    have hlt:i<p.length:=by omega
    refine ⟨by decide,?_⟩
    conv=>whnf
    refine ⟨⟨by show (0:Int)≤(i:Int);omega,h5⟩,[bC p[i]],at1 ?_,?_⟩
    ·show (p.map bC)[(i:Int).toNat*1]? = _
     rw [Int.toNat_natCast,Nat.mul_one,List.getElem?_map,zqc hlt];rfl
    conv=>whnf
    refine ⟨⟨i+1⟩,hlt,⟨rfl,rfl,?_,?_,zqv⟩,rfl,by show p.length - (i+1)<p.length - i;omega⟩
    ·show PV.int _ (IntKind.i64.wrap ((i:Int)+1))=PV.int _ ((i+1:Nat):Int)
     rw [w64 (by omega) (by omega)];rfl
    ·rw [List.take_succ_eq_append_getElem hlt]
     unfold numR
     rw [List.foldl_append]
     rfl
   ·conv=>whnf
    have h5:¬(i:Int)<(p.length:Int):=h5
    rw [List.take_of_length_le (l:=p) (by omega)]
    refine dP2 (by kernel_rfl) ?_
    conv=>whnf
    (refine dS ?_;(conv=>whnf))
    by_cases n0:numR p<0
    ·refine ⟨.bool true,?_,?_⟩
     ·conv=>whnf
      exact ⟨fun _=>⟨rfl,rfl,zqv⟩,fun h=>(h n0).elim⟩
     conv=>whnf
     iterate 13 (refine dS ?_;(conv=>whnf))
     ((conv in (_[_]?)=>tactic=>exact hb);(conv=>whnf))
     exact fin _ (hno (by unfold okR;rw [zqd (show ¬0≤numR p by omega),zq4,zq3,zq3]))
    refine ⟨.bool false,?_,?_⟩
    ·conv=>whnf
     exact ⟨fun h=>(n0 h).elim,fun _=>⟨rfl,rfl,zqv⟩⟩
    conv=>whnf
    iterate 2 (refine dS ?_;(conv=>whnf))
    by_cases n1:numR p > 4611686018427387904
    ·refine ⟨.bool true,?_,?_⟩
     ·conv=>whnf
      exact ⟨fun _=>⟨rfl,rfl,zqv⟩,fun h=>(h n1).elim⟩
     conv=>whnf
     iterate 10 (refine dS ?_;(conv=>whnf))
     ((conv in (_[_]?)=>tactic=>exact hb);(conv=>whnf))
     exact fin _ (hno (by unfold okR;rw [zqd (show ¬numR p≤4611686018427387904 by omega),zq4,zq3,zq3,zq3]))
    refine ⟨.bool false,?_,?_⟩
    ·conv=>whnf
     exact ⟨fun h=>(n1 h).elim,fun _=>⟨rfl,rfl,zqv⟩⟩
    conv=>whnf
    iterate 3 (refine dS ?_;(conv=>whnf))
    refine ⟨_,cP (c65 (numR p)) ⟨rfl,rfl,zqv⟩,?_⟩
    conv=>whnf
    refine ⟨.str (intE (numR p)),⟨intE (numR p),⟨rfl,rfl⟩,rfl,rfl,zqv⟩,?_⟩
    conv=>whnf
    (refine dS ?_;(conv=>whnf))
    refine ⟨_,cP (c100 2 p none (by omega)) ⟨rfl,rfl,zqv⟩,?_⟩
    conv=>whnf
    refine ⟨.str (wrapB 2 p),⟨wrapB 2 p,⟨rfl,rfl⟩,rfl,rfl,zqv⟩,?_⟩
    conv=>whnf
    by_cases n2:intE (numR p)=wrapB 2 p
    ·refine ⟨.bool false,?_,?_⟩
     ·conv=>whnf
      exact ⟨fun _=>⟨rfl,rfl,zqv⟩,fun h=>(h n2).elim⟩
     conv=>whnf
     (refine dS ?_;(conv=>whnf))
     have hyes:rintR (some s') (some p)=(some s',numR p):=zqp (by unfold okR;rw [zqe hne,zqe (show p.length≤9 by omega),zqe (show 0≤numR p by omega),zqe (show numR p≤4611686018427387904 by omega),zqe n2];rfl)
     show _=PV.int .i64 (rintR (some s') (some p)).2∧_∧rcur _ c (rintR (some s') (some p)).1
     rw [hyes]
     exact ⟨rfl,h1,h2⟩
    ·refine ⟨.bool true,?_,?_⟩
     ·conv=>whnf
      exact ⟨fun h=>(n2 h).elim,fun _=>⟨rfl,rfl,zqv⟩⟩
     conv=>whnf
     (refine dS ?_;(conv=>whnf))
     ((conv in (_[_]?)=>tactic=>exact hb);(conv=>whnf))
     exact fin _ (hno (by unfold okR;rw [zqd n2,zq3,zq3,zq3,zq3]))
end Go.Proofs.Tryz
