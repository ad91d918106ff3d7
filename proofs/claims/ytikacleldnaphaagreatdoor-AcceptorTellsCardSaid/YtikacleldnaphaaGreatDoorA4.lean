import Derived.Test.YtikacleldnaphaaGreatDoorA3
import Derived.Tactics
import Derived.Tactics2
import Derived.Defers
import Derived.Laws.Pointers
import Derived.Laws.LoneSync
import Derived.RegionTactic
import Derived.RegionCalls
import Derived.Test.YtikacleldnaphaaGreatDoorA2
import Derived.Shelf.GgClosure.StringsRunes
import Derived.WalkKit
set_option linter.all false
set_option maxRecDepth 100000
set_option maxHeartbeats 1000000
namespace Go.Proofs.Tryz
open Go Ps
def KeySt (k:List UInt8) (o:PObj):Prop:=(∃v,o=keyO k 0 0 0 (List.replicate 27 0) 0 v)∨(∃v,o=keyO k 1 0 0 (spW k) 1 v)
theorem KeySt.flat {k:List UInt8} {o:PObj} (h:KeySt k o):o.cs.all flatP=true:=by
 rcases h with ⟨v,rfl⟩ | ⟨v,rfl⟩ <;> exact List.all_eq_true.2 fun c hc=>zlk _ _ _ _ _ _ _ c hc
def le4 (w:Int):List UInt8:=[byteI w,byteI (ishr .u32 w 8),byteI (ishr .u32 w 16),byteI (ishr .u32 w 24)]
def blkP (k:List UInt8) (nn:Int) (i:Nat):Int×Int:=spB (spW k) (IntKind.u32.wrap (ishr .u64 nn 32),add32 (IntKind.u32.wrap nn) i)
def strN (k:List UInt8) (nn:Int):Nat→List UInt8
 | 0=>[]
 | i+1=>strN k nn i++(le4 (blkP k nn i).1++le4 (blkP k nn i).2)
theorem zge (k:List UInt8) (nn:Int):∀i,(strN k nn i).length=8*i
 | 0=>rfl
 | i+1=>by
  show (strN k nn i++(le4 _++le4 _)).length=_
  rw [zqf,zge k nn i]
  show 8*i+8=_
  omega
def zbe (k:List UInt8) (nn:Int) (n:Nat):List UInt8:=(strN k nn ((n+7) / 8)).take n
theorem zb4 (k:List UInt8) (nn:Int) (n:Nat):(zbe k nn n).length=n:=by
 unfold zbe
 rw [zqr,zge];omega
theorem zdv (w:Int):[PV.int .u8 (IntKind.u8.wrap w),.int .u8 (IntKind.u8.wrap (ishr .u32 w 8)),.int .u8 (IntKind.u8.wrap (ishr .u32 w 16)),.int .u8 (IntKind.u8.wrap (ishr .u32 w 24))]=(le4 w).map bC:=by
 rw [zba,zba,zba,zba];rfl
theorem zid (a b:List UInt8) {n:Nat} (hn:n=b.length):PV.slice (a.length+n) (a.map bC++b.map bC) (some 5)=ow (a++b):=by subst hn;exact ztb a b
structure StS where
 i:Nat
 o:PObj
theorem zt4 {n:Nat} (h:n<4294967296):IntKind.u32.wrap (n:Int)=(n:Int):=by
 show (n:Int) % _=_
 have:(2 ^ IntKind.u32.bits:Int)=4294967296:=by decide
 rw [this];omega
theorem c218 (hw:zjo) (k:List UInt8) (hk:k.length=16) (kid:Nat) (nn:Int) (n:Nat) (hn:n≤1000000) (so:PObj) (hso:KeySt k so) (H:PH) (hid:H[kid]? = some so) :
  CK prog 218 [.ptr (some (kid,0)),.int .u64 nn,.int .i64 n] H fun r H'=>r=sl (zbe k nn n)∧∃o',KeySt k o'∧H'=H.set kid o':=by
 have hlt:kid<H.length:=(zq1.1 hid).1
 rcases Nat.eq_zero_or_pos n with h0 | h0
 ·subst h0
  exact (c218z kid nn 0 (by decide) H).mono fun r H' hh=>⟨hh.1,so,hso,by rw [hh.2];exact (zea hid).symm⟩
 (refine fnS (imm:=zsc) zdm func218 ?_;(conv=>whnf))
 refine ⟨fun h=>absurd h (by omega),fun _=>?_⟩
 conv=>whnf
 have hw8:IntKind.i64.wrap ((n:Int)+8)=(n:Int)+8:=w64 (by omega) (by omega)
 refine ⟨⟨by decide,by rw [hw8];omega,by rw [hw8];show ((n:Int)+8)*((1:Nat):Int)≤_;omega⟩,?_⟩
 conv=>whnf
 refine lO StS (fun x=>[(0,.ptr (some (kid,0))),(1,.int .u64 nn),(2,.int .i64 n),(7,ow (strN k nn x.i)),(8,.int .u32 x.i)]) (fun x=>H.set kid x.o) (fun x=>x.i≤(n+7) / 8∧KeySt k x.o) (fun x=>(n+7) / 8 - x.i) ⟨⟨0,so⟩,⟨Nat.zero_le _,hso⟩,⟨rfl,rfl,rfl,rfl,rfl,zqv⟩,(zea hid).symm⟩ ?_
 rintro ⟨i,o⟩ ⟨hi,ho⟩
 replace hi:i≤(n+7) / 8:=hi
 replace ho:KeySt k o:=ho
 have hsl:=zge k nn i
 conv=>whnf
 refine ⟨fun h=>?_,fun h=>?_⟩
 ·have h:((strN k nn i).length:Int)<n:=h
  rw [hsl] at h
  conv=>whnf
  refine ⟨by decide,?_⟩
  conv=>whnf
  have hst:(∃v,(H.set kid o)[kid]? = some (keyO k 0 0 0 (List.replicate 27 0) 0 v))∨(∃v,(H.set kid o)[kid]? = some (keyO k 1 0 0 (spW k) 1 v)):=by
   rw [List.getElem?_set_self hlt]
   rcases ho with ⟨v,rfl⟩ | ⟨v,rfl⟩
   ·exact .inl ⟨v,rfl⟩
   ·exact .inr ⟨v,rfl⟩
  refine cO (Q:=fun r H'=>r=.tup [.int .u32 (blkP k nn i).1,.int .u32 (blkP k nn i).2]∧∃v',H'=H.set kid (keyO k 1 0 0 (spW k) 1 v')) ((c242 hw k hk kid (H.set kid o) hst _ _).mono fun r H' hh=>?_) ?_
  ·obtain ⟨h1,v',h2⟩:=hh
   exact ⟨h1,v',by rw [h2,List.set_set]⟩
  rintro _ _ ⟨rfl,v',rfl⟩
  conv=>whnf
  generalize hx:(blkP k nn i).1=x
  generalize hy:(blkP k nn i).2=y
  refine lO Nat (fun j=>[(0,.ptr (some (kid,0))),(1,.int .u64 nn),(2,.int .i64 n),(7,ow (strN k nn i++(le4 x++le4 y).take (4*j))),(8,.int .u32 i),(42,.slice 2 [.int .u32 x,.int .u32 y] (some 230)),(43,.int .i64 2),(44,.int .i64 j)]) (fun _=>H.set kid (keyO k 1 0 0 (spW k) 1 v')) (fun j=>j≤2) (fun j=>2 - j) ⟨0,Nat.zero_le _,⟨rfl,rfl,rfl,?_,rfl,rfl,rfl,rfl,zqv⟩,rfl⟩ ?_
  ·show ow (strN k nn i)=ow (strN k nn i++[])
   rw [List.append_nil]
  intro j hj
  have happ:∀(a b:List UInt8),b.length=4→a.length≤2000000→(a.length+4)*1≤140737488355328∧(b.map bC).length=4*1∧(b.map bC).all oneP=true:=fun a b hb ha=>⟨by omega,by simp [hb],zbr b⟩
  match j,hj with
  | 0,_ =>
   conv=>whnf
   refine ⟨fun _=>?_,fun h=>absurd (show ((0:Nat):Int)<2 by decide) h⟩
   conv=>whnf
   refine ⟨⟨by decide,by decide⟩,[.int .u32 x],at1' (k:=0) rfl,?_⟩
   conv=>whnf
   refine ⟨by decide,?_⟩
   conv=>whnf
   refine ⟨by decide,?_⟩
   conv=>whnf
   refine ⟨by decide,?_⟩
   conv=>whnf
   refine ⟨⟨by show ((strN k nn i++(le4 x++le4 y).take (4*0)).length+4)*1≤_;rw [zqf,hsl];simp;omega,rfl,rfl⟩,?_⟩
   conv=>whnf
   refine ⟨1,by decide,⟨rfl,rfl,rfl,?_,rfl,rfl,rfl,rfl,zqv⟩,rfl,by decide⟩
   show PV.slice ((strN k nn i++(le4 x++le4 y).take (4*0)).length+4) ((strN k nn i++(le4 x++le4 y).take (4*0)).map bC++[PV.int .u8 (IntKind.u8.wrap x),.int .u8 (IntKind.u8.wrap (ishr .u32 x 8)),.int .u8 (IntKind.u8.wrap (ishr .u32 x 16)),.int .u8 (IntKind.u8.wrap (ishr .u32 x 24))]) (some 5)=ow (strN k nn i++(le4 x++le4 y).take (4*1))
   rw [zdv,zid _ (le4 x) (n:=4) rfl,List.append_assoc]
   rfl
  | 1,_ =>
   conv=>whnf
   refine ⟨fun _=>?_,fun h=>absurd (show ((1:Nat):Int)<2 by decide) h⟩
   conv=>whnf
   refine ⟨⟨by decide,by decide⟩,[.int .u32 y],at1' (k:=1) rfl,?_⟩
   conv=>whnf
   refine ⟨by decide,?_⟩
   conv=>whnf
   refine ⟨by decide,?_⟩
   conv=>whnf
   refine ⟨by decide,?_⟩
   conv=>whnf
   refine ⟨⟨by show ((strN k nn i++(le4 x++le4 y).take (4*1)).length+4)*1≤_;rw [zqf,hsl];simp;omega,rfl,rfl⟩,?_⟩
   conv=>whnf
   refine ⟨2,by decide,⟨rfl,rfl,rfl,?_,rfl,rfl,rfl,rfl,zqv⟩,rfl,by decide⟩
   show PV.slice ((strN k nn i++(le4 x++le4 y).take (4*1)).length+4) ((strN k nn i++(le4 x++le4 y).take (4*1)).map bC++[PV.int .u8 (IntKind.u8.wrap y),.int .u8 (IntKind.u8.wrap (ishr .u32 y 8)),.int .u8 (IntKind.u8.wrap (ishr .u32 y 16)),.int .u8 (IntKind.u8.wrap (ishr .u32 y 24))]) (some 5)=ow (strN k nn i++(le4 x++le4 y).take (4*2))
   rw [zdv,zid _ (le4 y) (n:=4) rfl,List.append_assoc]
   rfl
  | 2,_ =>
   conv=>whnf
   refine ⟨fun h=>absurd h (by decide),fun _=>?_⟩
   conv=>whnf
   refine ⟨⟨i+1,keyO k 1 0 0 (spW k) 1 v'⟩,⟨by show i+1≤(n+7) / 8;omega,.inr ⟨v',rfl⟩⟩,⟨rfl,rfl,rfl,?_,?_,zqv⟩,rfl,by show (n+7) / 8 - (i+1)<(n+7) / 8 - i;omega⟩
   ·subst hx hy
    rfl
   ·show PV.int _ (IntKind.u32.wrap ((i:Int)+1))=PV.int _ ((i+1:Nat):Int)
    rw [←zt4 (n:=i+1) (by omega)];rfl
 ·have h:¬((strN k nn i).length:Int)<n:=h
  rw [hsl] at h
  have e:i=(n+7) / 8:=by omega
  conv=>whnf
  refine ⟨⟨by decide,by omega,by show (n:Int)≤((strN k nn i).length:Int);omega⟩,?_⟩
  conv=>whnf
  refine ⟨?_,o,ho,rfl⟩
  refine (zce (strN k nn i) 0 n ⟨by omega,by omega,by omega⟩).trans ?_
  rw [Int.toNat_natCast,e]
  rfl
set_option maxHeartbeats 1600000
open Go
theorem zoo (w:World):(callFunc 293 #[]).run prog w=.ok (.value (.tuple #[])) w:=run_call_mark0 func293 (by kernel_rfl) (by kernel_rfl) (by kernel_rfl) .disable (by kernel_rfl) w
theorem zst (w:World):(callFunc 295 #[]).run prog w=.ok (.value (.tuple #[])) w:=run_call_mark0 func295 (by kernel_rfl) (by kernel_rfl) (by kernel_rfl) .enable (by kernel_rfl) w
theorem zuz (a:Addr) (w:World):(callFunc 296 #[.pointer (some a)]).run prog w=.ok (.value (.tuple #[])) w:=run_call_marked func296 (by kernel_rfl) (by kernel_rfl) (by kernel_rfl) .acquire (by kernel_rfl) a w
theorem zu0 (a:Addr) (w:World):(callFunc 298 #[.pointer (some a)]).run prog w=.ok (.value (.tuple #[])) w:=run_call_marked func298 (by kernel_rfl) (by kernel_rfl) (by kernel_rfl) .releaseMerge (by kernel_rfl) a w
theorem zss (a:Addr) (w:World) (hc:w.cell? a=some (.int .i32 0)) (hz:w.frozen? a=false) :
  Calls prog 285 #[.pointer (some a)] w fun e w'=>e=.returned (.tuple #[])∧w'=w.setCell a (.int .i32 1):=by
 have hd:=zoo
 have he:=zst
 have ha:=zuz
 have hcas:=run_call_cas_hit (P:=prog) func294 (by kernel_rfl) (by kernel_rfl) (by kernel_rfl) .i32 (by kernel_rfl) (y:=1) hc hz
 have hc':(w.setCell a (.int .i32 1)).cell? a=some (.int .i32 1):=World.cell?_setCell_same w a _ hc
 have hcv:=run_convert_to_unsafe (P:=prog) (src:=373) (dst:=370) underlying373 underlying370 (by kernel_rfl) hc'
 go_enter func285,ntmps285
 go_wp2
 first | go_end0 | (simp only [Exit.inBlock,Exit.then];refine bodyPost_ret (results_none rfl _ _ _) rfl ?_) | refine bodyPost_ret (results_none rfl _ _ _) rfl ?_
 go_wp2
 go_end0
 exact ⟨rfl,rfl⟩
theorem ziz (a:Addr) (u:FrameMode) (w:World) (hc:w.cell? a=some (.int .i32 1)) (hz:w.frozen? a=false) :
  CallsD prog 286 #[.pointer (some a)] u w fun e u' w'=>u'=u∧(e=.returned (.tuple #[])∧w'=w.setCell a (.int .i32 0)):=by
 have hd:=zoo
 have he:=zst
 have hr:=zu0
 have hadd:=run_call_add (P:=prog) func299 (by kernel_rfl) (by kernel_rfl) (by kernel_rfl) .i32 (by kernel_rfl) (y:=-1) (s:=0) hc hz (by simp [go_sem];rfl)
 have hcv:=run_convert_to_unsafe (P:=prog) (src:=373) (dst:=370) underlying373 underlying370 (by kernel_rfl) hc
 go_enter_d func286,ntmps286
 go_wp2
 go_end0
 go_wp2
 go_end0
 exact ⟨rfl,rfl⟩
set_option maxHeartbeats 3000000
open Go Ps
theorem c207D {H:PH} {id off:Nat} {o:PObj} {n:Int} (ho:H[id]? = some o) (hc:o.cs[off]? = some (.int .u32 n)) :
  zjn prog 279 [.ptr (some (id,off)),.bool true] H fun r H'=>r=.tup []∧H'=H.set id ⟨o.T,zaa off [.int .u32 1] o.cs,o.ver+1⟩:=by
 refine zg8 (tt:=ttO) (imm:=zwv) follows zfl zjb func279 (by kernel_rfl) ?_
 conv=>whnf
 refine dO2 D279 [H,H.set id ⟨o.T,zaa off [.int .u32 1] o.cs,o.ver+1⟩] (by kernel_rfl) rfl trivial ?_
 conv=>whnf
 iterate 4 (refine dS ?_;(conv=>whnf))
 refine ⟨_,cP c288 ⟨rfl,rfl,zqv⟩,?_⟩
 conv=>whnf
 refine ⟨_,cO (c287 1 ho hc) (by rintro _ _ ⟨rfl,rfl⟩;exact ⟨rfl,rfl,zqv⟩),?_⟩
 conv=>whnf
 exact ⟨rfl,rfl⟩
theorem zgp (k:List UInt8) (hk:k.length=16) (d m s:Int) (l:List Int) (md:Int) (v:Nat):(keyO k d m s l md v).cs[16]? = some (.int .u32 d)∧(keyO k d m s l md v).cs[17]? = some (.int .i32 m):=by
 obtain ⟨k0,k1,k2,k3,k4,k5,k6,k7,k8,k9,ka,kb,kc,kd,ke,kf,rfl⟩:=len16 hk
 exact ⟨rfl,rfl⟩
theorem zpi (k:List UInt8) (hk:k.length=16) (d m s:Int) (l:List Int) (md:Int) (v:Nat) (x:Int):zaa 16 [.int .u32 x] (keyO k d m s l md v).cs=(keyO k x m s l md v).cs:=by
 obtain ⟨k0,k1,k2,k3,k4,k5,k6,k7,k8,k9,ka,kb,kc,kd,ke,kf,rfl⟩:=len16 hk
 rfl
theorem zjf (k:List UInt8) (hk:k.length=16) (d m s:Int) (l:List Int) (md:Int) (v:Nat) (x:Int):zaa 17 [.int .i32 x] (keyO k d m s l md v).cs=(keyO k d x s l md v).cs:=by
 obtain ⟨k0,k1,k2,k3,k4,k5,k6,k7,k8,k9,ka,kb,kc,kd,ke,kf,rfl⟩:=len16 hk
 rfl
theorem zsr (a:Addr) (w:World) (hc:w.cell? a=some (.int .u32 0)) :
  Calls prog 277 #[.pointer (some a)] w fun e w'=>e=.returned (.bool false)∧w'=w:=by
 have hl:=run_call_load (P:=prog) func284 (by kernel_rfl) (by kernel_rfl) (by kernel_rfl) .u32 (by kernel_rfl) (w:=w) (a:=a) (x:=0) hc
 go_enter func277,ntmps277
 go_wp2
 exact ⟨rfl,.bool false,by simp [results,f205,go_sem,Act.eval],rfl,rfl⟩
theorem c278 (k:List UInt8) (hk:k.length=16) (kid v:Nat) (H:PH) (hid:H[kid]? = some (keyO k 0 0 0 (List.replicate 27 0) 0 v)) :
  CK prog 278 [.ptr (some (kid,16)),.func 271 [.ptr (some (kid,0))] []] H fun r H'=>r=.tup []∧∃v',H'=H.set kid (keyO k 1 0 0 (spW k) 1 v'):=by
 intro g w vs hs hr
 obtain ⟨a,y,rfl,ha,hy⟩:=args2 hs hr.e
 obtain ⟨b,rfl,hι,hkd⟩:=(zaf ha (by simp) (by simp)).inv_ptr
 obtain ⟨first,caps,rfl,e2,e3,e4,e5⟩:=(zaf hy (by simp) (by simp)).inv_func
 have st0:=St.start hr
 obtain ⟨b1,q1,hd1,fd1,_⟩:=zgk hr.h ha hid (zgp k hk 0 0 0 _ 0 v).1
 cases q1
 obtain ⟨b2,q2,hm1,fm1,hset1⟩:=zgk hr.h ((V.ptr kid b 17 hι hkd).vc) hid (zgp k hk 0 0 0 _ 0 v).2
 cases q2
 have st1:St prog g w H g (w.setCell ⟨b,17,none⟩ (.int .i32 1)) _:=hset1 1 _ _ _ st0
 rw [zjf k hk] at st1
 obtain ⟨p,rfl⟩:∃p,first=#[p]:=by
  match first,e2 with
  | ⟨[p]⟩,_=>exact ⟨p,rfl⟩
 obtain rfl:caps=#[]:=Array.eq_empty_of_size_eq_zero e3
 have hp:V g w p (.ptr (some (kid,0))):=e4 0 _ rfl
 obtain ⟨b3,rfl,hι3,_⟩:=hp.inv_ptr
 rw [hι] at hι3
 cases hι3
 refine .inl ⟨za1 func278 (by kernel_rfl) (by kernel_rfl),?_⟩
 have hd1':(w.setCell ⟨b,17,none⟩ (.int .i32 1)).cell? ⟨b,16,none⟩=some (.int .u32 0):=(World.cell?_setCell_other _ ⟨b,17,none⟩ ⟨b,16,none⟩ _ (by simp)).trans hd1
 have hid1:(H.set kid ⟨(keyO k 0 0 0 (List.replicate 27 0) 0 v).T,(keyO k 0 1 0 (List.replicate 27 0) 0 v).cs,(keyO k 0 0 0 (List.replicate 27 0) 0 v).ver+1⟩)[kid]? = some (keyO k 0 1 0 (List.replicate 27 0) 0 (v+1)):=gS hid
 have hmake:=St.call st1 func271 (by kernel_rfl) (by kernel_rfl) (c271 k hk 0 1 0 0 (List.replicate 27 0) rfl (v+1) kid _ hid1) (vs:=#[.pointer (some ⟨b,0,none⟩)]) rfl (fun j c hj=>by
  match j,hj with
  | 0,hj=>cases hj;exact .ptr kid b 0 hι (zc5 hd1')
  | j+1,hj=>simp at hj)
 have hnot:∀(x:Bool) (w:World),(Op.unary .not (.bool x)).run prog w=.ok (.bool (!x)) w:=fun _ _=>rfl
 go_enter_defers func278,ntmps278
 go_wp2_with (go_at_call 285;refine (zss ⟨b,17,none⟩ _ hm1 fm1).mono ?_;rintro e w' ⟨rfl,rfl⟩)
 refine (zsr ⟨b,16,none⟩ _ hd1').mono ?_
 rintro e w' ⟨rfl,rfl⟩
 go_wp2_with (go_at_call 271;refine hmake.mono ?_;rintro e w' ⟨v',r,H2,g2,rfl,⟨rfl,v2,rfl⟩,st2,kp,hv2⟩)
 have hidk:((H.set kid ⟨(keyO k 0 0 0 (List.replicate 27 0) 0 v).T,(keyO k 0 1 0 (List.replicate 27 0) 0 v).cs,(keyO k 0 0 0 (List.replicate 27 0) 0 v).ver+1⟩).set kid (keyO k 0 1 0 (spW k) 1 v2))[kid]? = some (keyO k 0 1 0 (spW k) 1 v2):=gS hid1
 have hι2:g2.ι[kid]? = some (some b):=kp.ι kid b hι
 have hk2:=(kp.kind kid b hι).trans (zc5 hd1')
 obtain ⟨hinv,hstore⟩:=St.callD st2 (c207D hidk (zgp k hk 0 1 0 (spW k) 1 v2).1) (vs:=#[.pointer (some ⟨b,16,none⟩),.bool true]) .returning rfl (fun j c hj=>by
  match j,hj with
  | 0,hj=>cases hj;exact .ptr kid b 16 hι2 hk2
  | 1,hj=>cases hj;exact .bool true
  | j+2,hj=>simp at hj)
 show Leaves prog f278 _ _ _ .returning w'
 refine leaves_cons (f:=279) (args:=#[.pointer (some ⟨b,16,none⟩),.bool true]) (by simp) (by simp [invoke,hinv]) ?_
 refine hstore.mono ?_
 rintro e u' w3 ⟨rfl,v3,r3,H3,g3,rfl,⟨rfl,rfl⟩,st3,kp3⟩
 rw [zpi k hk] at st3
 have hid3:=gS (o':=⟨(keyO k 0 1 0 (spW k) 1 v2).T,(keyO k 1 1 0 (spW k) 1 v2).cs,(keyO k 0 1 0 (spW k) 1 v2).ver+1⟩) hidk
 have hι3:g3.ι[kid]? = some (some b):=kp3.ι kid b hι2
 obtain ⟨b5,q5,hm3,fm3,hset3⟩:=zgk st3.rel.h ((V.ptr kid b 17 hι3 ((kp3.kind kid b hι2).trans hk2)).vc) hid3 (zgp k hk 1 1 0 (spW k) 1 v2).2
 cases q5
 have st4:St prog g w H g3 (w3.setCell ⟨b,17,none⟩ (.int .i32 0)) _:=hset3 0 _ _ _ st3
 rw [show zaa 17 [PV.int .i32 0] (PObj.mk (keyO k 0 1 0 (spW k) 1 v2).T (keyO k 1 1 0 (spW k) 1 v2).cs ((keyO k 0 1 0 (spW k) 1 v2).ver+1)).cs=(keyO k 1 0 0 (spW k) 1 v2).cs from zjf k hk 1 1 0 (spW k) 1 v2 0] at st4
 refine leaves_cons (f:=286) (args:=#[.pointer (some ⟨b,17,none⟩)]) (by simp [settle]) (by
  have:=za1 (P:=prog) (vs:=#[.pointer (some ⟨b,17,none⟩)]) (w:=w3) func286 (by kernel_rfl) (by kernel_rfl)
  simp [invoke,this]) ?_
 refine (ziz ⟨b,17,none⟩ _ _ hm3 fm3).mono ?_
 rintro e u' w4 ⟨rfl,rfl,rfl⟩
 obtain ⟨f1,f2,f3,f4⟩:=st4.fin
 refine ⟨.tuple #[],results_none rfl _ _ _,.tuple #[],.tup [],_,g3,rfl,⟨rfl,v2+1+1,?_⟩,f1,f2,f3,f4⟩
 rw [List.set_set,List.set_set,List.set_set]
 rfl
set_option maxHeartbeats 1000000
theorem c284 {H:PH} {id off:Nat} {o:PObj} {n:Int} (ho:H[id]? = some o) (hc:o.cs[off]? = some (.int .u32 n)) :
  CK prog 284 [.ptr (some (id,off))] H fun r H'=>r=.int .u32 n∧H'=H :=
 zhx func284 (by kernel_rfl) (by kernel_rfl) (by kernel_rfl) .u32 (by kernel_rfl) ho hc
theorem c277 {H:PH} {id off:Nat} {o:PObj} {n:Int} (ho:H[id]? = some o) (hc:o.cs[off]? = some (.int .u32 n)) :
  CK prog 277 [.ptr (some (id,off))] H fun r H'=>r=.bool (!decide (n=0))∧H'=H:=by
 (refine fnS (imm:=z20) zfl func277 ?_;(conv=>whnf))
 refine cO (c284 ho hc) ?_
 rintro _ _ ⟨rfl,rfl⟩
 conv=>whnf
 refine ⟨fun h=>?_,fun h=>?_⟩
 ·conv=>whnf
  have h:n=0:=h
  exact ⟨zqm PV.bool (by rw [zqe h];rfl),rfl⟩
 ·conv=>whnf
  have h:¬n=0:=h
  exact ⟨zqm PV.bool (by rw [zqd h];rfl),rfl⟩
theorem c270a (k:List UInt8) (hk:k.length=16) (kid v:Nat) (H:PH) (hid:H[kid]? = some (keyO k 0 0 0 (List.replicate 27 0) 0 v)) :
  CK prog 270 [.ptr (some (kid,16)),.func 271 [.ptr (some (kid,0))] []] H fun r H'=>r=.tup []∧∃v',H'=H.set kid (keyO k 1 0 0 (spW k) 1 v'):=by
 (refine fnS (imm:=zwu) zfl func270 ?_;(conv=>whnf))
 refine cO (c277 hid (zgp k hk 0 0 0 _ 0 v).1) ?_
 rintro _ _ ⟨rfl,rfl⟩
 conv=>whnf
 refine cO (c278 k hk kid v _ hid) ?_
 rintro _ _ ⟨rfl,v',rfl⟩
 conv=>whnf
 exact ⟨rfl,v',rfl⟩
theorem c270b (k:List UInt8) (hk:k.length=16) (kid v:Nat) (H:PH) (hid:H[kid]? = some (keyO k 1 0 0 (spW k) 1 v)) :
  CK prog 270 [.ptr (some (kid,16)),.func 271 [.ptr (some (kid,0))] []] H fun r H'=>r=.tup []∧∃v',H'=H.set kid (keyO k 1 0 0 (spW k) 1 v'):=by
 (refine fnS (imm:=zwu) zfl func270 ?_;(conv=>whnf))
 refine cO (c277 hid (zgp k hk 1 0 0 _ 1 v).1) ?_
 rintro _ _ ⟨rfl,rfl⟩
 conv=>whnf
 exact ⟨rfl,v,(zea hid).symm⟩
theorem znk:zjo:=by
 intro k hk kid H h0
 have hlt:kid<H.length:=by
  rcases h0 with ⟨v,h⟩ | ⟨v,h⟩ <;> exact (zq1.1 h).1
 have hc:CK prog 270 [.ptr (some (kid,16)),.func 271 [.ptr (some (kid,0))] []] H fun r H'=>r=.tup []∧∃v',H'=H.set kid (keyO k 1 0 0 (spW k) 1 v'):=by
  rcases h0 with ⟨v,h⟩ | ⟨v,h⟩
  ·exact c270a k hk kid v H h
  ·exact c270b k hk kid v H h
 (refine fnS (imm:=z2v) zfl func259 ?_;(conv=>whnf))
 refine cO hc ?_
 rintro _ _ ⟨rfl,v',rfl⟩
 conv=>whnf
 refine ⟨by decide,fun _=>?_,fun h=>absurd (show (0:Int)<((27:Nat):Int) by decide) h⟩
 conv=>whnf
 exact ⟨rfl,v',rfl⟩
set_option maxHeartbeats 2000000
def z1b:List Nat:=[]
theorem zjv (a b:UInt8):((a.toNat:Int)=(b.toNat:Int))↔a=b:=by
 constructor
 ·intro h
  have:a.toNat=b.toNat:=by omega
  exact UInt8.toNat_inj.1 this
 ·rintro rfl;rfl
theorem c169 (a b:List UInt8) (ha:a.length≤1000000):Pure prog 169 [sl a,sl b] (.bool (decide (a=b))):=by
 intro H
 (refine fnS (imm:=z1b) zdm func169 ?_;(conv=>whnf))
 refine ⟨fun h=>?_,fun h=>?_⟩
 rotate_left
 ·conv=>whnf
  have h:¬(a.length:Int)=b.length:=h
  exact ⟨zqm PV.bool (zqd fun e=>h (by rw [e])).symm,rfl⟩
 have h:(a.length:Int)=b.length:=h
 have hl:a.length=b.length:=by omega
 conv=>whnf
 refine lO Nat (fun i=>[(0,sl a),(1,sl b),(12,.int .i64 a.length),(13,.int .i64 i)]) (fun _=>H) (fun i=>i≤a.length∧a.take i=b.take i) (fun i=>a.length - i) ⟨0,⟨Nat.zero_le _,rfl⟩,⟨rfl,rfl,rfl,rfl,zqv⟩,rfl⟩ ?_
 rintro i ⟨hi,he⟩
 conv=>whnf
 refine ⟨fun h=>?_,fun h=>?_⟩
 ·have h:(i:Int)<a.length:=h
  have hia:i<a.length:=by omega
  have hib:i<b.length:=by omega
  conv=>whnf
  refine dP2 (by kernel_rfl) ?_
  conv=>whnf
  iterate 2 (refine dS ?_;(conv=>whnf))
  refine ⟨.elem [bC a[i]],⟨⟨by omega,h⟩,[bC a[i]],at1' (k:=(i:Int).toNat*1) (by rw [Int.toNat_natCast,Nat.mul_one,List.getElem?_map,zqc hia];rfl),rfl,rfl,zqv⟩,?_⟩
  conv=>whnf
  iterate 3 (refine dS ?_;(conv=>whnf))
  refine ⟨.elem [bC b[i]],⟨⟨by omega,by omega⟩,[bC b[i]],at1' (k:=(i:Int).toNat*1) (by rw [Int.toNat_natCast,Nat.mul_one,List.getElem?_map,zqc hib];rfl),rfl,rfl,zqv⟩,?_⟩
  conv=>whnf
  (refine dS ?_;(conv=>whnf))
  by_cases hq:a[i]=b[i]
  ·refine ⟨.bool false,?_,?_⟩
   ·conv=>whnf
    exact ⟨fun _=>⟨rfl,rfl,zqv⟩,fun h2=>absurd ((zjv _ _).2 hq) h2⟩
   conv=>whnf
   refine ⟨i+1,⟨by omega,?_⟩,⟨rfl,rfl,rfl,?_,zqv⟩,rfl,by omega⟩
   ·rw [List.take_succ_eq_append_getElem hia,List.take_succ_eq_append_getElem hib,he,hq]
   ·show PV.int _ (IntKind.i64.wrap ((i:Int)+1))=PV.int _ _
    rw [w64 (by omega) (by omega)];simp
  ·refine ⟨.bool true,?_,?_⟩
   ·conv=>whnf
    exact ⟨fun h2=>absurd ((zjv _ _).1 h2) hq,fun _=>⟨rfl,rfl,zqv⟩⟩
   conv=>whnf
   refine ⟨zqm PV.bool (zqd fun e=>hq ?_).symm,rfl⟩
   subst e;rfl
 ·have h:¬(i:Int)<a.length:=h
  conv=>whnf
  refine ⟨zqm PV.bool (zqe ?_).symm,rfl⟩
  rw [←List.take_of_length_le (l:=a) (i:=i) (by omega),he,List.take_of_length_le (by omega)]
def openB (sp:List UInt8) (u:Int) (b:List UInt8):Bool:=decide (16≤b.length)&&decide (b.length≤800)&&decide (beN (b.take 8)≤1099511627776)&&decide (tagV sp u (b.take (b.length - 8))=b.drop (b.length - 8))
theorem c131o (k:List UInt8) (hk:k.length=16) (so:PObj) (hso:KeySt k so) (sid:Nat) (u:Int) (hu:zde u=true) (b:List UInt8) (sp:List UInt8) (hsp:sp.length=16) (s o r:Int) (v bid:Nat) (H:PH)
  (hb:H[bid]? = some (boxS sid sp s o r v)) (hs:H[sid]? = some so) (hne:bid≠sid) (h16:16≤b.length) (h800:b.length≤800) :
  CK prog 131 [.ptr (some (bid,0)),.int .i64 u,sl b] H fun x H'=>match openB sp u b with
   | true=>x=.tup [sl (xorL ((b.take (b.length - 8)).drop 8) (zbe k (mixN (beN (b.take 8):Nat) u) (b.length - 16))),.int .i64 0]∧∃o',KeySt k o'∧H'=(H.set bid (boxS sid sp s (IntKind.i64.wrap (o+1)) r (v+1))).set sid o'
   | false=>x=.tup [ow [],.int .i64 3]∧H'=H.set bid (boxS sid sp s o (IntKind.i64.wrap (r+1)) (v+1)):=by
 have hc93r:CK prog 40 [.ptr (some (bid,0+19)),.int .i64 1] H fun x H'=>H'=H.set bid (boxS sid sp s o (IntKind.i64.wrap (r+1)) (v+1)):=by
  obtain ⟨k0,k1,k2,k3,k4,k5,k6,k7,k8,k9,ka,kb,kc,kd,ke,kf,rfl⟩:=len16 hsp
  exact (c40 (off:=19) (n:=r) 1 hb rfl).mono fun x H' hh=>hh.2
 have hc93o:CK prog 40 [.ptr (some (bid,0+18)),.int .i64 1] H fun x H'=>H'=H.set bid (boxS sid sp s (IntKind.i64.wrap (o+1)) r (v+1)):=by
  obtain ⟨k0,k1,k2,k3,k4,k5,k6,k7,k8,k9,ka,kb,kc,kd,ke,kf,rfl⟩:=len16 hsp
  exact (c40 (off:=18) (n:=o) 1 hb rfl).mono fun x H' hh=>hh.2
 have hw8:IntKind.i64.wrap ((b.length:Int) - 8)=((b.length - 8:Nat):Int):=by rw [w64 (by omega) (by omega)];omega
 have hfst:decide (16≤b.length)=true:=zqe h16
 have hsnd:decide (b.length≤800)=true:=zqe h800
 (refine fnS (imm:=zws) zdm func131 ?_;(conv=>whnf))
 refine cP (c167 u) ?_
 rw [hu]
 conv=>whnf
 refine ⟨fun _=>?_,fun h=>absurd (show (16:Int)≤b.length by omega) h⟩
 conv=>whnf
 refine ⟨fun _=>?_,fun h=>absurd (show (b.length:Int)≤800 by omega) h⟩
 conv=>whnf
 refine dP2 (by kernel_rfl) ?_
 conv=>whnf
 iterate 3 (refine dS ?_;(conv=>whnf))
 refine ⟨.int .i64 ((b.length - 8:Nat):Int),⟨zqm (PV.int _) hw8,rfl,zqv⟩,?_⟩
 conv=>whnf
 refine ⟨sl ((b.take (b.length - 8)).drop 0),⟨⟨by omega,by omega,by omega⟩,zce b 0 ((b.length - 8:Nat):Int) ⟨by omega,by omega,by omega⟩,rfl,zqv⟩,?_⟩
 conv=>whnf
 (refine dS ?_;(conv=>whnf))
 refine ⟨sl ((b.take 8).drop 0),⟨⟨by omega,by omega,by omega⟩,zce b 0 8 ⟨by omega,by omega,by omega⟩,rfl,zqv⟩,?_⟩
 conv=>whnf
 refine ⟨_,cP (c168 ((b.take 8).drop 0) (by rw [List.length_drop,zqr];omega)) ⟨rfl,rfl,zqv⟩,?_⟩
 conv=>whnf
 iterate 2 (refine dS ?_;(conv=>whnf))
 refine dP2 (by kernel_rfl) ?_
 conv=>whnf
 (refine dS ?_;(conv=>whnf))
 have e0:(b.take (b.length - 8)).drop 0=b.take (b.length - 8):=rfl
 have hal:(b.take (b.length - 8)).length=b.length - 8:=by rw [zqr];omega
 have hpl:((b.take (b.length - 8)).drop 8).length=b.length - 16:=by rw [List.length_drop,hal];omega
 by_cases hn:beN (b.take 8)≤1099511627776
 ·refine ⟨.bool true,?_,?_⟩
  ·conv=>whnf
   exact ⟨fun _=>⟨rfl,rfl,zqv⟩,fun h=>absurd (show ((beN (b.take 8):Nat):Int)≤1099511627776 by omega) h⟩
  conv=>whnf
  iterate 4 (refine dS ?_;(conv=>whnf))
  refine ⟨_,cO (c170 sid sp hsp s o r v u (b.take (b.length - 8)) (by omega) bid H hb) (by rintro _ _ ⟨rfl,rfl⟩;exact ⟨rfl,rfl,zqv⟩),?_⟩
  conv=>whnf
  iterate 3 (refine dS ?_;(conv=>whnf))
  refine ⟨.int .i64 ((b.length - 8:Nat):Int),⟨zqm (PV.int _) hw8,rfl,zqv⟩,?_⟩
  conv=>whnf
  refine ⟨sl ((b.take b.length).drop (b.length - 8)),⟨⟨by omega,by omega,by omega⟩,zce b ((b.length - 8:Nat):Int) (b.length:Int) ⟨by omega,by omega,by omega⟩,rfl,zqv⟩,?_⟩
  conv=>whnf
  refine ⟨_,cP (c169 (tagV sp u (b.take (b.length - 8))) ((b.take b.length).drop (b.length - 8)) (by show 8≤_;omega)) ⟨rfl,rfl,zqv⟩,?_⟩
  rw [List.take_length]
  by_cases hq:tagV sp u (b.take (b.length - 8))=b.drop (b.length - 8)
  ·have hop:openB sp u b=true:=by unfold openB;rw [hfst,hsnd,zqe hn,zqe hq];rfl
   rw [zqe hq,hop]
   conv=>whnf
   (refine dS ?_;(conv=>whnf))
   refine cO hc93o ?_
   rintro x _ rfl
   have hb':(H.set bid (boxS sid sp s (IntKind.i64.wrap (o+1)) r (v+1)))[bid]? = some (boxS sid sp s (IntKind.i64.wrap (o+1)) r (v+1)):=gS hb
   have hs':(H.set bid (boxS sid sp s (IntKind.i64.wrap (o+1)) r (v+1)))[sid]? = some so:=by rw [zqj hne];exact hs
   conv=>whnf
   refine ⟨⟨by decide,by show (8:Int)≤((b.take (b.length - 8)).length:Int);omega,by omega⟩,?_⟩
   conv=>whnf
   have ec:=zce (b.take (b.length - 8)) 8 ((b.take (b.length - 8)).length:Int) ⟨by omega,by omega,by omega⟩
   rw [Int.toNat_natCast,List.take_length] at ec
   refine cA (args':=[.ptr (some (bid,0)),.int .i64 u,.int .u64 (beN (b.take 8):Nat),sl ((b.take (b.length - 8)).drop 8)]) ?_ (cO (c171 (KeySt k) (fun o' h=>h.flat) so sid (beN (b.take 8):Nat) u ((b.take (b.length - 8)).drop 8) (zbe k (mixN (beN (b.take 8):Nat) u) (b.length - 16)) (by rw [zb4,hpl]) (by omega) (fun H hs=>by
    rw [hpl]
    exact c218 znk k hk sid _ (b.length - 16) (by omega) so hso H hs) sp hsp s (IntKind.i64.wrap (o+1)) r (v+1) bid _ hb' hs') ?_)
   ·exact zqm (fun z=>[PV.ptr (some (bid,0)),PV.int .i64 u,PV.int .u64 (beN (b.take 8):Nat),z]) ec
   rintro _ _ ⟨rfl,o',ho',rfl⟩
   conv=>whnf
   exact ⟨rfl,o',ho',rfl⟩
  ·have hop:openB sp u b=false:=by unfold openB;rw [zqd hq,zq3]
   rw [zqd hq,hop]
   conv=>whnf
   (refine dS ?_;(conv=>whnf))
   refine cO hc93r ?_
   rintro x _ rfl
   conv=>whnf
   exact ⟨rfl,rfl⟩
 ·have hop:openB sp u b=false:=by unfold openB;rw [zqd hn,zq3,zq4]
  rw [hop]
  refine ⟨.bool false,?_,?_⟩
  ·conv=>whnf
   exact ⟨fun h=>absurd (show ((beN (b.take 8):Nat):Int)≤1099511627776 from h) (by omega),fun _=>⟨rfl,rfl,zqv⟩⟩
  conv=>whnf
  iterate 12 (refine dS ?_;(conv=>whnf))
  refine cO hc93r ?_
  rintro x _ rfl
  conv=>whnf
  exact ⟨rfl,rfl⟩
def ttQ3:TT:=[(3,⟨.int .i64,1,8,[.int .i64 0]⟩),(5,⟨.int .u8,1,1,[.int .u8 0]⟩),(22,⟨.slice 5,1,24,[.slice 0 [] (some 5)]⟩),(215,⟨.arr 16 5,16,16,List.replicate 16 (.int .u8 0)⟩),(173,⟨.int .u64,1,8,[.int .u64 0]⟩),(94,⟨.int .u64,1,8,[.int .u64 0]⟩),(272,⟨.ptr,1,8,[.ptr none]⟩),(274,⟨.arr 4 173,4,32,[.int .u64 0,.int .u64 0,.int .u64 0,.int .u64 0]⟩)]
theorem zix:ttOk prog ttQ3=true:=by kernel_rfl
def z1r:List Nat:=[]
def z0x:List Nat:=[]
def z0w:List Nat:=[]
def z0v:List Nat:=[]
def z0d:List Nat:=[2]
def rotR (x n:Int):Int:=ibits .or .u64 (ishl .u64 x n) (ishr .u64 x (IntKind.u64.wrap (64 - n)))
theorem c198 (x n:Int) (hn:0≤n):Pure prog 198 [.int .u64 x,.int .u64 n] (.int .u64 (rotR x n)):=by
 intro H
 (refine fnS (imm:=z1r) zix func198 ?_;(conv=>whnf))
 refine ⟨hn,?_⟩
 conv=>whnf
 refine ⟨zck _,?_⟩
 conv=>whnf
 exact ⟨rfl,rfl⟩
theorem rot13 (x:Int):rotR x 13=rotC x 13:=by unfold rotC;rw [show rotS 13=13 by decide];rfl
theorem zw8 (x:Int):rotR x 32=rotC x 32:=by unfold rotC;rw [show rotS 32=32 by decide];rfl
theorem rot16 (x:Int):rotR x 16=rotC x 16:=by unfold rotC;rw [show rotS 16=16 by decide];rfl
theorem rot21 (x:Int):rotR x 21=rotC x 21:=by unfold rotC;rw [show rotS 21=21 by decide];rfl
theorem rot17 (x:Int):rotR x 17=rotC x 17:=by unfold rotC;rw [show rotS 17=17 by decide];rfl
def S4.Q (s:S4) (v:Nat):PObj:=⟨274,[.int .u64 s.a,.int .u64 s.b,.int .u64 s.c,.int .u64 s.d],v⟩
theorem S4.lookQ (s:S4) (v:Nat) {id:Nat} {H:PH} {o:PObj} (h:H[id]? = some o):(H.set id (s.Q v))[id]? = some ⟨274,[.int .u64 s.a,.int .u64 s.b,.int .u64 s.c,.int .u64 s.d],v⟩:=gS h
def zyx:Draw:={ imp:=[12],win:=[] }
def zyy:Draw:={ imp:=[13],win:=[] }
def zyz:Draw:={ imp:=[8],win:=[] }
def zy0:Draw:={ imp:=[12],win:=[] }
def zy1:Draw:={ imp:=[13],win:=[] }
def zy2:Draw:={ imp:=[12],win:=[] }
def zy3:Draw:={ imp:=[13],win:=[] }
def zy4:Draw:={ imp:=[12],win:=[] }
def zy5:Draw:={ imp:=[13],win:=[] }
def zy6:Draw:={ imp:=[8],win:=[] }
theorem c156 (z0:S4) (id w:Nat) (H:PH) (hid:H[id]? = some (z0.Q w)) :
  CK prog 156 [.ptr (some (id,0))] H fun r H'=>r=.tup []∧∃v',H'=H.set id (z0.rnd.Q v'):=by
 (refine fnS (imm:=z0x) zix func156 ?_;(conv=>whnf))
 refine dO2 zyx [H,H.set id (z0.s0.Q (w+1))] (by kernel_rfl) rfl trivial ?_
 conv=>whnf
 iterate 4 (refine dS ?_;(conv=>whnf))
 apply exA
 ·conv=>whnf
  ((conv in (_[_]?)=>tactic=>exact (show H[id]? = some ⟨274,[.int .u64 z0.a,.int .u64 z0.b,.int .u64 z0.c,.int .u64 z0.d],w⟩ from hid));(conv=>whnf))
  exact ⟨rfl,rfl,zqv⟩
 conv=>whnf
 iterate 3 (refine dS ?_;(conv=>whnf))
 apply exA
 ·conv=>whnf
  ((conv in (_[_]?)=>tactic=>exact (show H[id]? = some ⟨274,[.int .u64 z0.a,.int .u64 z0.b,.int .u64 z0.c,.int .u64 z0.d],w⟩ from hid));(conv=>whnf))
  exact ⟨rfl,rfl,zqv⟩
 conv=>whnf
 iterate 3 (refine dS ?_;(conv=>whnf))
 apply exA
 ·conv=>whnf
  ((conv in (_[_]?)=>tactic=>exact (show H[id]? = some ⟨274,[.int .u64 z0.a,.int .u64 z0.b,.int .u64 z0.c,.int .u64 z0.d],w⟩ from hid));(conv=>whnf))
  exact ⟨rfl,rfl,zqv⟩
 conv=>whnf
 generalize hs1:S4.s0 z0=z1
 refine dO2 zyy [H.set id (z1.Q (w+1)),H.set id (z1.s1.Q (w+2))] (by kernel_rfl) rfl trivial ?_
 conv=>whnf
 iterate 4 (refine dS ?_;(conv=>whnf))
 apply exA
 ·conv=>whnf
  ((conv in (_[_]?)=>tactic=>exact (z1.lookQ (w+1) hid));(conv=>whnf))
  exact ⟨rfl,rfl,zqv⟩
 conv=>whnf
 refine ⟨_,cP ((c198 _ 13 (by decide)).of_eq (zqm _ (rot13 _))) ⟨rfl,rfl,zqv⟩,?_⟩
 conv=>whnf
 iterate 3 (refine dS ?_;(conv=>whnf))
 apply exA
 ·conv=>whnf
  ((conv in (_[_]?)=>tactic=>exact (z1.lookQ (w+1) hid));(conv=>whnf))
  exact ⟨rfl,rfl,zqv⟩
 conv=>whnf
 iterate 3 (refine dS ?_;(conv=>whnf))
 apply exA
 ·conv=>whnf
  ((conv in (_[_]?)=>tactic=>exact (z1.lookQ (w+1) hid));(conv=>whnf))
  exact ⟨rfl,List.set_set ..,zqv⟩
 conv=>whnf
 generalize hs2:S4.s1 z1=z2
 refine dO2 zyz [H.set id (z2.Q (w+2)),H.set id (z2.s2.Q (w+3))] (by kernel_rfl) rfl trivial ?_
 conv=>whnf
 iterate 4 (refine dS ?_;(conv=>whnf))
 apply exA
 ·conv=>whnf
  ((conv in (_[_]?)=>tactic=>exact (z2.lookQ (w+2) hid));(conv=>whnf))
  exact ⟨rfl,rfl,zqv⟩
 conv=>whnf
 refine ⟨_,cP ((c198 _ 32 (by decide)).of_eq (zqm _ (zw8 _))) ⟨rfl,rfl,zqv⟩,?_⟩
 conv=>whnf
 iterate 2 (refine dS ?_;(conv=>whnf))
 apply exA
 ·conv=>whnf
  ((conv in (_[_]?)=>tactic=>exact (z2.lookQ (w+2) hid));(conv=>whnf))
  exact ⟨rfl,List.set_set ..,zqv⟩
 conv=>whnf
 generalize hs3:S4.s2 z2=z3
 refine dO2 zy0 [H.set id (z3.Q (w+3)),H.set id (z3.s3.Q (w+4))] (by kernel_rfl) rfl trivial ?_
 conv=>whnf
 iterate 4 (refine dS ?_;(conv=>whnf))
 apply exA
 ·conv=>whnf
  ((conv in (_[_]?)=>tactic=>exact (z3.lookQ (w+3) hid));(conv=>whnf))
  exact ⟨rfl,rfl,zqv⟩
 conv=>whnf
 iterate 3 (refine dS ?_;(conv=>whnf))
 apply exA
 ·conv=>whnf
  ((conv in (_[_]?)=>tactic=>exact (z3.lookQ (w+3) hid));(conv=>whnf))
  exact ⟨rfl,rfl,zqv⟩
 conv=>whnf
 iterate 3 (refine dS ?_;(conv=>whnf))
 apply exA
 ·conv=>whnf
  ((conv in (_[_]?)=>tactic=>exact (z3.lookQ (w+3) hid));(conv=>whnf))
  exact ⟨rfl,List.set_set ..,zqv⟩
 conv=>whnf
 generalize hs4:S4.s3 z3=z4
 refine dO2 zy1 [H.set id (z4.Q (w+4)),H.set id (z4.s4.Q (w+5))] (by kernel_rfl) rfl trivial ?_
 conv=>whnf
 iterate 4 (refine dS ?_;(conv=>whnf))
 apply exA
 ·conv=>whnf
  ((conv in (_[_]?)=>tactic=>exact (z4.lookQ (w+4) hid));(conv=>whnf))
  exact ⟨rfl,rfl,zqv⟩
 conv=>whnf
 refine ⟨_,cP ((c198 _ 16 (by decide)).of_eq (zqm _ (rot16 _))) ⟨rfl,rfl,zqv⟩,?_⟩
 conv=>whnf
 iterate 3 (refine dS ?_;(conv=>whnf))
 apply exA
 ·conv=>whnf
  ((conv in (_[_]?)=>tactic=>exact (z4.lookQ (w+4) hid));(conv=>whnf))
  exact ⟨rfl,rfl,zqv⟩
 conv=>whnf
 iterate 3 (refine dS ?_;(conv=>whnf))
 apply exA
 ·conv=>whnf
  ((conv in (_[_]?)=>tactic=>exact (z4.lookQ (w+4) hid));(conv=>whnf))
  exact ⟨rfl,List.set_set ..,zqv⟩
 conv=>whnf
 generalize hs5:S4.s4 z4=z5
 refine dO2 zy2 [H.set id (z5.Q (w+5)),H.set id (z5.s5.Q (w+6))] (by kernel_rfl) rfl trivial ?_
 conv=>whnf
 iterate 4 (refine dS ?_;(conv=>whnf))
 apply exA
 ·conv=>whnf
  ((conv in (_[_]?)=>tactic=>exact (z5.lookQ (w+5) hid));(conv=>whnf))
  exact ⟨rfl,rfl,zqv⟩
 conv=>whnf
 iterate 3 (refine dS ?_;(conv=>whnf))
 apply exA
 ·conv=>whnf
  ((conv in (_[_]?)=>tactic=>exact (z5.lookQ (w+5) hid));(conv=>whnf))
  exact ⟨rfl,rfl,zqv⟩
 conv=>whnf
 iterate 3 (refine dS ?_;(conv=>whnf))
 apply exA
 ·conv=>whnf
  ((conv in (_[_]?)=>tactic=>exact (z5.lookQ (w+5) hid));(conv=>whnf))
  exact ⟨rfl,List.set_set ..,zqv⟩
 conv=>whnf
 generalize hs6:S4.s5 z5=z6
 refine dO2 zy3 [H.set id (z6.Q (w+6)),H.set id (z6.s6.Q (w+7))] (by kernel_rfl) rfl trivial ?_
 conv=>whnf
 iterate 4 (refine dS ?_;(conv=>whnf))
 apply exA
 ·conv=>whnf
  ((conv in (_[_]?)=>tactic=>exact (z6.lookQ (w+6) hid));(conv=>whnf))
  exact ⟨rfl,rfl,zqv⟩
 conv=>whnf
 refine ⟨_,cP ((c198 _ 21 (by decide)).of_eq (zqm _ (rot21 _))) ⟨rfl,rfl,zqv⟩,?_⟩
 conv=>whnf
 iterate 3 (refine dS ?_;(conv=>whnf))
 apply exA
 ·conv=>whnf
  ((conv in (_[_]?)=>tactic=>exact (z6.lookQ (w+6) hid));(conv=>whnf))
  exact ⟨rfl,rfl,zqv⟩
 conv=>whnf
 iterate 3 (refine dS ?_;(conv=>whnf))
 apply exA
 ·conv=>whnf
  ((conv in (_[_]?)=>tactic=>exact (z6.lookQ (w+6) hid));(conv=>whnf))
  exact ⟨rfl,List.set_set ..,zqv⟩
 conv=>whnf
 generalize hs7:S4.s6 z6=z7
 refine dO2 zy4 [H.set id (z7.Q (w+7)),H.set id (z7.s7.Q (w+8))] (by kernel_rfl) rfl trivial ?_
 conv=>whnf
 iterate 4 (refine dS ?_;(conv=>whnf))
 apply exA
 ·conv=>whnf
  ((conv in (_[_]?)=>tactic=>exact (z7.lookQ (w+7) hid));(conv=>whnf))
  exact ⟨rfl,rfl,zqv⟩
 conv=>whnf
 iterate 3 (refine dS ?_;(conv=>whnf))
 apply exA
 ·conv=>whnf
  ((conv in (_[_]?)=>tactic=>exact (z7.lookQ (w+7) hid));(conv=>whnf))
  exact ⟨rfl,rfl,zqv⟩
 conv=>whnf
 iterate 3 (refine dS ?_;(conv=>whnf))
 apply exA
 ·conv=>whnf
  ((conv in (_[_]?)=>tactic=>exact (z7.lookQ (w+7) hid));(conv=>whnf))
  exact ⟨rfl,List.set_set ..,zqv⟩
 conv=>whnf
 generalize hs8:S4.s7 z7=z8
 refine dO2 zy5 [H.set id (z8.Q (w+8)),H.set id (z8.s8.Q (w+9))] (by kernel_rfl) rfl trivial ?_
 conv=>whnf
 iterate 4 (refine dS ?_;(conv=>whnf))
 apply exA
 ·conv=>whnf
  ((conv in (_[_]?)=>tactic=>exact (z8.lookQ (w+8) hid));(conv=>whnf))
  exact ⟨rfl,rfl,zqv⟩
 conv=>whnf
 refine ⟨_,cP ((c198 _ 17 (by decide)).of_eq (zqm _ (rot17 _))) ⟨rfl,rfl,zqv⟩,?_⟩
 conv=>whnf
 iterate 3 (refine dS ?_;(conv=>whnf))
 apply exA
 ·conv=>whnf
  ((conv in (_[_]?)=>tactic=>exact (z8.lookQ (w+8) hid));(conv=>whnf))
  exact ⟨rfl,rfl,zqv⟩
 conv=>whnf
 iterate 3 (refine dS ?_;(conv=>whnf))
 apply exA
 ·conv=>whnf
  ((conv in (_[_]?)=>tactic=>exact (z8.lookQ (w+8) hid));(conv=>whnf))
  exact ⟨rfl,List.set_set ..,zqv⟩
 conv=>whnf
 generalize hs9:S4.s8 z8=z9
 refine dO2 zy6 [H.set id (z9.Q (w+9)),H.set id (z9.s9.Q (w+10))] (by kernel_rfl) rfl trivial ?_
 conv=>whnf
 iterate 4 (refine dS ?_;(conv=>whnf))
 apply exA
 ·conv=>whnf
  ((conv in (_[_]?)=>tactic=>exact (z9.lookQ (w+9) hid));(conv=>whnf))
  exact ⟨rfl,rfl,zqv⟩
 conv=>whnf
 refine ⟨_,cP ((c198 _ 32 (by decide)).of_eq (zqm _ (zw8 _))) ⟨rfl,rfl,zqv⟩,?_⟩
 conv=>whnf
 iterate 2 (refine dS ?_;(conv=>whnf))
 apply exA
 ·conv=>whnf
  ((conv in (_[_]?)=>tactic=>exact (z9.lookQ (w+9) hid));(conv=>whnf))
  exact ⟨rfl,List.set_set ..,zqv⟩
 conv=>whnf
 refine ⟨rfl,w+10,?_⟩
 subst hs1 hs2 hs3 hs4 hs5 hs6 hs7 hs8 hs9
 rfl
def D155:Draw:={ imp:=[9],win:=[] }
theorem c155 (s:S4) (m:Int) (id v:Nat) (H:PH) (hid:H[id]? = some (s.Q v)) :
  CK prog 155 [.ptr (some (id,0)),.int .u64 m] H fun r H'=>r=.tup []∧∃v',H'=H.set id ((s.takes m).Q v'):=by
 (refine fnS (imm:=z0w) zix func155 ?_;(conv=>whnf))
 refine dO2 D155 [H,H.set id (S4.Q { s with d:=xorW s.d m } (v+1))] (by kernel_rfl) rfl trivial ?_
 have g0:H[id]? = some ⟨274,[.int .u64 s.a,.int .u64 s.b,.int .u64 s.c,.int .u64 s.d],v⟩:=hid
 conv=>whnf
 iterate 4 (refine dS ?_;(conv=>whnf))
 apply exA
 ·conv=>whnf
  ((conv in (_[_]?)=>tactic=>exact g0);(conv=>whnf))
  exact ⟨rfl,rfl,zqv⟩
 conv=>whnf
 iterate 4 (refine dS ?_;(conv=>whnf))
 apply exA
 ·conv=>whnf
  ((conv in (_[_]?)=>tactic=>exact g0);(conv=>whnf))
  exact ⟨rfl,rfl,zqv⟩
 conv=>whnf
 refine cO (Q:=fun r H'=>r=.tup []∧∃v',H'=H.set id ((S4.rnds 1 { s with d:=xorW s.d m }).Q v')) ((c156 { s with d:=xorW s.d m } id (v+1) (H.set id _) (gS hid)).mono fun r H' hh=>?_) ?_
 ·obtain ⟨h1,v',h2⟩:=hh
  exact ⟨h1,v',by rw [h2,List.set_set];rfl⟩
 rintro _ _ ⟨rfl,v1,rfl⟩
 conv=>whnf
 refine cO (Q:=fun r H'=>r=.tup []∧∃v',H'=H.set id ((S4.rnds 2 { s with d:=xorW s.d m }).Q v')) ((c156 (S4.rnds 1 { s with d:=xorW s.d m }) id v1 (H.set id _) (gS hid)).mono fun r H' hh=>?_) ?_
 ·obtain ⟨h1,v',h2⟩:=hh
  exact ⟨h1,v',by rw [h2,List.set_set];rfl⟩
 rintro _ _ ⟨rfl,v',rfl⟩
 conv=>whnf
 generalize hs:S4.rnds 2 { s with d:=xorW s.d m }=z
 refine dO2 D155 [H.set id (z.Q v'),H.set id (S4.Q { z with a:=xorW z.a m } (v'+1))] (by kernel_rfl) rfl trivial ?_
 conv=>whnf
 iterate 4 (refine dS ?_;(conv=>whnf))
 apply exA
 ·conv=>whnf
  ((conv in (_[_]?)=>tactic=>exact (z.lookQ v' hid));(conv=>whnf))
  exact ⟨rfl,rfl,zqv⟩
 conv=>whnf
 iterate 4 (refine dS ?_;(conv=>whnf))
 apply exA
 ·conv=>whnf
  ((conv in (_[_]?)=>tactic=>exact (z.lookQ v' hid));(conv=>whnf))
  exact ⟨rfl,List.set_set ..,zqv⟩
 conv=>whnf
 refine ⟨rfl,v'+1,?_⟩
 subst hs
 rfl
theorem zuy (l:List UInt8) (c:UInt8) (h:l.length<8):ibits .or .u64 (ishl .u64 (leN l:Nat) 8) (IntKind.u64.wrap c.toNat)=((leN (c::l):Nat):Int):=by
 have hc:=c.toNat_lt
 have h1:=zsp l
 rw [pow8] at h1
 have h3:2 ^ (8*(l.length+1))≤18446744073709551616:=zkp (by omega)
 have h4:2 ^ (8*(l.length+1))=256*2 ^ (8*l.length):=by rw [Nat.mul_add,Nat.pow_add];omega
 have h5:leN l*256<18446744073709551616:=by omega
 have e:ishl .u64 (leN l:Nat) 8=((leN l*256:Nat):Int):=by
  show IntKind.u64.wrap ((leN l:Int)*2 ^ (min (8:Int).toNat 64))=_
  have:((leN l:Int)*2 ^ (min (8:Int).toNat 64))=((leN l*256:Nat):Int):=by push_cast;rfl
  rw [this]
  exact zda h5
 rw [e,zda (by omega),zs9 h5 (by omega),show leN l*256=2 ^ 8*leN l by omega,←Nat.two_pow_add_eq_or_of_lt (by omega:c.toNat<2 ^ 8)]
 congr 1
 show _=c.toNat+256*leN l
 omega
theorem c154 (b:List UInt8) (hb:b.length≤8):Pure prog 154 [sl b] (.int .u64 (leN b)):=by
 intro H
 (refine fnS (imm:=z0v) zix func154 ?_;(conv=>whnf))
 refine lO Nat (fun k=>[(0,sl b),(4,.int .i64 ((k:Int) - 1)),(3,.int .u64 (leN (b.drop k)))]) (fun _=>H) (fun k=>k≤b.length) (fun k=>k) ⟨b.length,zqn _,⟨rfl,?_,?_,zqv⟩,rfl⟩ ?_
 ·show PV.int _ (IntKind.i64.wrap ((b.length:Int) - 1))=_
  rw [w64 (by omega) (by omega)]
 ·rw [List.drop_length];rfl
 intro k hk
 conv=>whnf
 refine ⟨fun h=>?_,fun h=>?_⟩
 ·have h:(0:Int)≤(k:Int) - 1:=h
  have hi:k - 1<b.length:=by omega
  conv=>whnf
  refine ⟨by decide,?_⟩
  conv=>whnf
  refine ⟨⟨h,by show (k:Int) - 1<(b.length:Int);omega⟩,[bC b[k - 1]],at1' (k:=((k:Int) - 1).toNat*1) (by rw [show ((k:Int) - 1).toNat*1=k - 1 by omega,List.getElem?_map,zqc hi];rfl),?_⟩
  conv=>whnf
  refine ⟨k - 1,by omega,⟨rfl,?_,?_,zqv⟩,rfl,by omega⟩
  ·show PV.int _ (IntKind.i64.wrap ((k:Int) - 1 - 1))=PV.int _ _
   rw [w64 (by omega) (by omega)]
   congr 1;omega
  ·show PV.int _ (ibits .or .u64 (ishl .u64 (leN (b.drop k):Nat) 8) (IntKind.u64.wrap (b[k - 1].toNat:Int)))=PV.int _ _
   have e:b.drop (k - 1)=b[k - 1]::b.drop k:=by
    rw [List.drop_eq_getElem_cons hi,show k - 1+1=k by omega]
   rw [e,zuy _ _ (by rw [List.length_drop];omega)]
 ·have h:¬(0:Int)≤(k:Int) - 1:=h
  have e:k=0:=by omega
  subst e
  conv=>whnf
  exact ⟨rfl,rfl⟩
theorem zs8 (x y:Int):ibits .or .u64 x y=ibits .or .u64 y x:=by
 show IntKind.u64.wrap _=IntKind.u64.wrap _
 rw [BitVec.or_comm]
theorem zzh (n:Nat) (h:n≤1099511627776):ibits .and .i64 (n:Int) 255=IntKind.u8.wrap (n:Int):=by
 show IntKind.i64.wrap ((BitVec.ofInt 64 (n:Int) &&& BitVec.ofInt 64 255).toNat:Int)=(n:Int) % (2 ^ IntKind.u8.bits:Int)
 have e:(2 ^ IntKind.u8.bits:Int)=256:=by decide
 have h1:(BitVec.ofInt 64 (n:Int)).toNat=n:=by rw [BitVec.toNat_ofInt];omega
 have h2:(BitVec.ofInt 64 255).toNat=2 ^ 8 - 1:=by decide
 rw [e,BitVec.toNat_and,h1,h2,Nat.and_two_pow_sub_one_eq_mod,w64 (by omega) (by omega)]
 omega
def zyw:Draw:={ imp:=[8],win:=[] }
theorem c126x (k:List UInt8) (hk:k.length=16) (p:List UInt8) (hp:p.length≤1000000) (H:PH) :
  CK prog 126 [.agg (k.map bC),sl p] H fun r H'=>r=.int .u64 (sipV k p)∧∃ext,H'=H++ext:=by
 obtain ⟨k0,k1,k2,k3,k4,k5,k6,k7,k8,k9,ka,kb,kc,kd,ke,kf,rfl⟩:=len16 hk
 have hk2:sipI [k0,k1,k2,k3,k4,k5,k6,k7,k8,k9,ka,kb,kc,kd,ke,kf]=⟨xorW 8317987319222330741 (leN [k0,k1,k2,k3,k4,k5,k6,k7]:Nat),xorW 7237128888997146477 (leN [k8,k9,ka,kb,kc,kd,ke,kf]:Nat),xorW 7816392313619706465 (leN [k0,k1,k2,k3,k4,k5,k6,k7]:Nat),xorW 8387220255154660723 (leN [k8,k9,ka,kb,kc,kd,ke,kf]:Nat)⟩:=rfl
 unfold sipV
 generalize hs0:sipI [k0,k1,k2,k3,k4,k5,k6,k7,k8,k9,ka,kb,kc,kd,ke,kf]=s0
 rw [hk2] at hs0
 (refine fnS (imm:=z0d) zix func126 ?_;(conv=>whnf))
 refine dP2 (by kernel_rfl) ?_
 conv=>whnf
 (refine dS ?_;(conv=>whnf))
 refine ⟨_,cA rfl (cP (c154 [k0,k1,k2,k3,k4,k5,k6,k7] (by simp)) ⟨rfl,rfl,zqv⟩),?_⟩
 conv=>whnf
 (refine dS ?_;(conv=>whnf))
 refine ⟨_,cA rfl (cP (c154 [k8,k9,ka,kb,kc,kd,ke,kf] (by simp)) ⟨rfl,rfl,zqv⟩),?_⟩
 conv=>whnf
 iterate 2 (refine dS ?_;(conv=>whnf))
 have hO:(PObj.mk 274 [.int .u64 (ibits .xor .u64 8317987319222330741 (leN [k0,k1,k2,k3,k4,k5,k6,k7]:Nat)),.int .u64 (ibits .xor .u64 7237128888997146477 (leN [k8,k9,ka,kb,kc,kd,ke,kf]:Nat)),.int .u64 (ibits .xor .u64 7816392313619706465 (leN [k0,k1,k2,k3,k4,k5,k6,k7]:Nat)),.int .u64 (ibits .xor .u64 8387220255154660723 (leN [k8,k9,ka,kb,kc,kd,ke,kf]:Nat))] 0)=s0.Q 0:=by subst hs0;rfl
 refine lO SipS (fun x=>[(1,sl p),(7,.ptr (some (H.length,0))),(8,.int .i64 ((8*x.i:Nat):Int))]) (fun x=>H++[(sipN s0 p x.i).Q x.v]) (fun x=>x.i≤p.length / 8) (fun x=>p.length / 8 - x.i) ⟨⟨0,0⟩,Nat.zero_le _,⟨rfl,rfl,rfl,zqv⟩,zqm (fun o=>H++[o]) hO⟩ ?_
 rintro ⟨i,v⟩ hi
 replace hi:i≤p.length / 8:=hi
 have hl:(p.drop (8*i)).length=p.length - 8*i:=List.length_drop
 have hsub:IntKind.i64.wrap ((p.length:Int) - ((8*i:Nat):Int))=(p.length:Int) - ((8*i:Nat):Int):=w64 (by omega) (by omega)
 have hadd:IntKind.i64.wrap (((8*i:Nat):Int)+8)=((8*i+8:Nat):Int):=by rw [w64 (by omega) (by omega)];omega
 conv=>whnf
 refine ⟨fun h=>?_,fun h=>?_⟩
 ·have h:(8:Int)≤IntKind.i64.wrap ((p.length:Int) - ((8*i:Nat):Int)):=h
  rw [hsub] at h
  conv=>whnf
  refine ⟨⟨by show (0:Int)≤((8*i:Nat):Int);omega,by show ((8*i:Nat):Int)≤IntKind.i64.wrap (((8*i:Nat):Int)+8);rw [hadd];omega,by show IntKind.i64.wrap (((8*i:Nat):Int)+8)≤(p.length:Int);rw [hadd];omega⟩,?_⟩
  conv=>whnf
  have ecut:(p.take (8*i+8)).drop (8*i)=(p.drop (8*i)).take 8:=by
   rw [List.drop_take,show 8*i+8 - 8*i=8 by omega]
  refine cA (args':=[sl ((p.drop (8*i)).take 8)]) ?_ (cP (c154 ((p.drop (8*i)).take 8) (by rw [zqr];omega)) ?_)
  ·refine zqm (fun z=>[z]) ?_
   have e:=zce p ((8*i:Nat):Int) ((8*i+8:Nat):Int) ⟨by omega,by omega,by omega⟩
   rw [Int.toNat_natCast,Int.toNat_natCast,ecut] at e
   show PV.slice ((IntKind.i64.wrap (((8*i:Nat):Int)+8)).toNat - ((8*i:Nat):Int).toNat) (((p.map bC).take ((IntKind.i64.wrap (((8*i:Nat):Int)+8)).toNat*1)).drop (((8*i:Nat):Int).toNat*1)) none=_
   rw [hadd,Int.toNat_natCast,Int.toNat_natCast]
   exact e
  conv=>whnf
  refine cO (Q:=fun r H'=>r=.tup []∧∃v',H'=H++[(sipN s0 p (i+1)).Q v']) ((c155 (sipN s0 p i) (leN ((p.drop (8*i)).take 8):Nat) H.length v _ (gL H _)).mono fun r H' hh=>?_) ?_
  ·obtain ⟨h1,v',h2⟩:=hh
   exact ⟨h1,v',by rw [h2,sL];rfl⟩
  rintro _ _ ⟨rfl,v',rfl⟩
  conv=>whnf
  refine ⟨⟨i+1,v'⟩,by show i+1≤p.length / 8;omega,⟨rfl,rfl,?_,zqv⟩,rfl,by show p.length / 8 - (i+1)<p.length / 8 - i;omega⟩
  show PV.int _ (IntKind.i64.wrap (((8*i:Nat):Int)+8))=PV.int _ ((8*(i+1):Nat):Int)
  rw [hadd];rfl
 ·have h:¬(8:Int)≤IntKind.i64.wrap ((p.length:Int) - ((8*i:Nat):Int)):=h
  rw [hsub] at h
  have hi2:i=p.length / 8:=by omega
  rw [←hi2]
  conv=>whnf
  refine ⟨⟨by show (0:Int)≤((8*i:Nat):Int);omega,by show ((8*i:Nat):Int)≤(p.length:Int);omega,by omega⟩,?_⟩
  conv=>whnf
  have hcut:=zce p ((8*i:Nat):Int) (p.length:Int) ⟨by omega,by omega,by omega⟩
  rw [Int.toNat_natCast,Int.toNat_natCast,List.take_length] at hcut
  refine cA (args':=[sl (p.drop (8*i))]) (zqm (fun z=>[z]) hcut) (cP (c154 (p.drop (8*i)) (by omega)) ?_)
  conv=>whnf
  refine ⟨by decide,?_⟩
  conv=>whnf
  have hm:ibits .or .u64 (leN (p.drop (8*i)):Nat) (ishl .u64 (IntKind.u64.wrap (ibits .and .i64 (p.length:Int) 255)) 56)=ibits .or .u64 (lastW p.length) (leN (p.drop (8*i)):Nat):=by
   rw [zs8,zzh _ (by omega)];rfl
  generalize hm2:ibits .or .u64 (lastW p.length) (leN (p.drop (8*i)):Nat)=m at hm
  generalize hs1:sipN s0 p i=s1
  refine cA (args':=[.ptr (some (H.length,0)),.int .u64 m]) (zqm (fun z=>[PV.ptr (some (H.length,0)),PV.int .u64 z]) hm) (cO (Q:=fun r H'=>r=.tup []∧∃v',H'=H++[(s1.takes m).Q v']) ?_ ?_)
  ·refine (c155 s1 m H.length v _ (gL H _)).mono fun r H' hh=>?_
   obtain ⟨h1,v',h2⟩:=hh
   exact ⟨h1,v',by rw [h2,sL]⟩
  rintro _ _ ⟨rfl,v1,rfl⟩
  conv=>whnf
  generalize hs2:s1.takes m=s2
  refine dO2 zyw [H++[s2.Q v1],H++[S4.Q { s2 with c:=xorW s2.c 255 } (v1+1)]] (by kernel_rfl) rfl trivial ?_
  have g0:(H++[s2.Q v1])[H.length]? = some ⟨274,[.int .u64 s2.a,.int .u64 s2.b,.int .u64 s2.c,.int .u64 s2.d],v1⟩:=gL H _
  conv=>whnf
  iterate 4 (refine dS ?_;(conv=>whnf))
  apply exA
  ·conv=>whnf
   ((conv in (_[_]?)=>tactic=>exact g0);(conv=>whnf))
   exact ⟨rfl,rfl,zqv⟩
  conv=>whnf
  iterate 3 (refine dS ?_;(conv=>whnf))
  apply exA
  ·conv=>whnf
   ((conv in (_[_]?)=>tactic=>exact g0);(conv=>whnf))
   exact ⟨rfl,sL H _ _,zqv⟩
  conv=>whnf
  refine lO SipS (fun x=>[(7,.ptr (some (H.length,0))),(9,.int .i64 x.i)]) (fun x=>H++[(S4.rnds x.i { s2 with c:=xorW s2.c 255 }).Q x.v]) (fun x=>x.i≤4) (fun x=>4 - x.i) ⟨⟨0,v1+1⟩,Nat.zero_le _,⟨rfl,rfl,zqv⟩,rfl⟩ ?_
  rintro ⟨j,w⟩ hj
  replace hj:j≤4:=hj
  conv=>whnf
  refine ⟨fun h=>?_,fun h=>?_⟩
  ·have h:(j:Int)<4:=h
   conv=>whnf
   refine cO (Q:=fun r H'=>r=.tup []∧∃v',H'=H++[(S4.rnds (j+1) { s2 with c:=xorW s2.c 255 }).Q v']) ((c156 (S4.rnds j { s2 with c:=xorW s2.c 255 }) H.length w _ (gL H _)).mono fun r H' hh=>?_) ?_
   ·obtain ⟨h1,v',h2⟩:=hh
    exact ⟨h1,v',by rw [h2,sL];rfl⟩
   rintro _ _ ⟨rfl,v',rfl⟩
   conv=>whnf
   refine ⟨⟨j+1,v'⟩,by show j+1≤4;omega,⟨rfl,?_,zqv⟩,rfl,by show 4 - (j+1)<4 - j;omega⟩
   show PV.int _ (IntKind.i64.wrap ((j:Int)+1))=PV.int _ _
   rw [w64 (by omega) (by omega)];simp
  have h:¬(j:Int)<4:=h
  have e4:j=4:=by omega
  subst e4
  conv=>whnf
  have hf:S4.rnds 4 { s2 with c:=xorW s2.c 255 }=s2.fin:=rfl
  rw [hf]
  generalize hs3:s2.fin=s3
  have g1:(H++[s3.Q w])[H.length]? = some ⟨274,[.int .u64 s3.a,.int .u64 s3.b,.int .u64 s3.c,.int .u64 s3.d],w⟩:=gL H _
  refine dP2 (by kernel_rfl) ?_
  conv=>whnf
  iterate 3 (refine dS ?_;(conv=>whnf))
  apply exA
  ·conv=>whnf
   ((conv in (_[_]?)=>tactic=>exact g1);(conv=>whnf))
   exact ⟨rfl,rfl,zqv⟩
  conv=>whnf
  iterate 3 (refine dS ?_;(conv=>whnf))
  apply exA
  ·conv=>whnf
   ((conv in (_[_]?)=>tactic=>exact g1);(conv=>whnf))
   exact ⟨rfl,rfl,zqv⟩
  conv=>whnf
  iterate 4 (refine dS ?_;(conv=>whnf))
  apply exA
  ·conv=>whnf
   ((conv in (_[_]?)=>tactic=>exact g1);(conv=>whnf))
   exact ⟨rfl,rfl,zqv⟩
  conv=>whnf
  iterate 4 (refine dS ?_;(conv=>whnf))
  apply exA
  ·conv=>whnf
   ((conv in (_[_]?)=>tactic=>exact g1);(conv=>whnf))
   exact ⟨rfl,rfl,zqv⟩
  conv=>whnf
  iterate 2 (refine dS ?_;(conv=>whnf))
  exact ⟨rfl,_,rfl⟩
theorem c126 (k:List UInt8) (hk:k.length=16) (p:List UInt8) (hp:p.length≤1000000):Pure prog 126 [.agg (k.map bC),sl p] (.int .u64 (sipV k p)) :=
 Pure.of_gc rfl fun H=>c126x k hk p hp H
def ttQ2:TT:=[(3,⟨.int .i64,1,8,[.int .i64 0]⟩),(5,⟨.int .u8,1,1,[.int .u8 0]⟩),(22,⟨.slice 5,1,24,[.slice 0 [] (some 5)]⟩),(215,⟨.arr 16 5,16,16,List.replicate 16 (.int .u8 0)⟩),(173,⟨.int .u64,1,8,[.int .u64 0]⟩),(94,⟨.int .u64,1,8,[.int .u64 0]⟩),(230,⟨.int .u32,1,4,[.int .u32 0]⟩),(231,⟨.arr 27 230,27,108,List.replicate 27 (.int .u32 0)⟩),(269,⟨.slice 230,1,24,[.slice 0 [] (some 230)]⟩),(268,⟨.arr 4 230,4,16,[.int .u32 0,.int .u32 0,.int .u32 0,.int .u32 0]⟩)]
theorem ziw:ttOk prog ttQ2=true:=by kernel_rfl
def z0t:List Nat:=[]
def z0u:List Nat:=[]
def z0c:List Nat:=[1]
def z0s:List Nat:=[3]
def z0b:List Nat:=[3]
def ztg (x n:Int):Int:=ibits .or .u32 (ishr .u32 x n) (ishl .u32 x (IntKind.u64.wrap (32 - n)))
def zwy (x n:Int):Int:=ibits .or .u32 (ishl .u32 x n) (ishr .u32 x (IntKind.u64.wrap (32 - n)))
theorem c152' (x n:Int) (hn:0≤n):Pure prog 152 [.int .u32 x,.int .u64 n] (.int .u32 (ztg x n)):=by
 intro H
 (refine fnS (imm:=z0t) ziw func152 ?_;(conv=>whnf))
 refine ⟨hn,?_⟩
 conv=>whnf
 refine ⟨zck _,?_⟩
 conv=>whnf
 exact ⟨rfl,rfl⟩
theorem c153' (x n:Int) (hn:0≤n):Pure prog 153 [.int .u32 x,.int .u64 n] (.int .u32 (zwy x n)):=by
 intro H
 (refine fnS (imm:=z0u) ziw func153 ?_;(conv=>whnf))
 refine ⟨hn,?_⟩
 conv=>whnf
 refine ⟨zck _,?_⟩
 conv=>whnf
 exact ⟨rfl,rfl⟩
theorem zs7 (x y:Int):ibits .or .u32 x y=ibits .or .u32 y x:=by
 show IntKind.u32.wrap _=IntKind.u32.wrap _
 rw [BitVec.or_comm]
theorem c152 (x:Int):Pure prog 152 [.int .u32 x,.int .u64 8] (.int .u32 (rot32 x (-8))) :=
 (c152' x 8 (by decide)).of_eq (zqm _ (by
  unfold rot32 ztg
  rw [show zji (-8)=24 by decide,zs7]
  rfl))
theorem c153 (x:Int):Pure prog 153 [.int .u32 x,.int .u64 3] (.int .u32 (rot32 x 3)) :=
 (c153' x 3 (by decide)).of_eq (zqm _ (by
  unfold rot32 zwy
  rw [show zji 3=3 by decide]))
theorem c151 (ws:List Int) (hws:ws.length=27) (x y:Int):Pure prog 151 [.agg (ws.map u32C),.int .u32 x,.int .u32 y] (.tup [.int .u32 (spB ws (x,y)).1,.int .u32 (spB ws (x,y)).2]):=by
 intro H
 (refine fnS (imm:=z0s) ziw func151 ?_;(conv=>whnf))
 refine lO Nat (fun i=>[(3,.elem (ws.map u32C)),(1,.int .u32 (spB (ws.take i) (x,y)).1),(2,.int .u32 (spB (ws.take i) (x,y)).2),(8,.int .i64 i)]) (fun _=>H) (fun i=>i≤27) (fun i=>27 - i) ⟨0,Nat.zero_le _,⟨rfl,rfl,rfl,rfl,zqv⟩,rfl⟩ ?_
 intro i hi
 conv=>whnf
 refine ⟨fun h=>?_,fun h=>?_⟩
 ·have h:(i:Int)<27:=h
  have hi':i<ws.length:=by omega
  conv=>whnf
  refine dP2 (by kernel_rfl) ?_
  conv=>whnf
  (refine dS ?_;(conv=>whnf))
  refine ⟨_,cP (c152 _) ⟨rfl,rfl,zqv⟩,?_⟩
  conv=>whnf
  iterate 3 (refine dS ?_;(conv=>whnf))
  refine ⟨.elem [u32C ws[i]],⟨⟨by omega,by show (i:Int)<((27:Nat):Int);exact h⟩,[u32C ws[i]],at1' (k:=(i:Int).toNat*1) (by rw [Int.toNat_natCast,Nat.mul_one,List.getElem?_map,zqc hi'];rfl),rfl,rfl,zqv⟩,?_⟩
  conv=>whnf
  iterate 3 (refine dS ?_;(conv=>whnf))
  refine cP (c153 _) ?_
  conv=>whnf
  have et:spB (ws.take (i+1)) (x,y)=spR ws[i] (spB (ws.take i) (x,y)):=by rw [List.take_succ_eq_append_getElem hi',zo6]
  refine ⟨i+1,by omega,⟨rfl,?_,?_,?_,zqv⟩,rfl,by omega⟩
  ·rw [et];rfl
  ·rw [et];rfl
  ·show PV.int _ (IntKind.i64.wrap ((i:Int)+1))=PV.int _ _
   rw [w64 (by omega) (by omega)];simp
 ·have h:¬(i:Int)<27:=h
  have e:ws.take i=ws:=List.take_of_length_le (by omega)
  rw [e]
  conv=>whnf
  exact ⟨rfl,rfl⟩
theorem agg27 (ws:List Int) (hws:ws.length=27):((dropN 0 (ws.map u32C)).take 27).map dem=ws.map u32C:=by
 rw [za2,List.drop_zero,List.take_of_length_le (by rw [zqq];omega),List.map_map]
 rfl
theorem c124 (k:List UInt8) (nn:Int) (n:Nat) (hn:n≤1000000):Pure prog 124 [.agg ((spW k).map u32C),.int .u64 nn,.int .i64 n] (sl (zbe k nn n)):=by
 intro H
 (refine fnS (imm:=z0b) ziw func124 ?_;(conv=>whnf))
 refine lO Nat (fun i=>[(1,.int .u64 nn),(2,.int .i64 n),(3,.elem ((spW k).map u32C)),(7,ow (strN k nn i)),(8,.int .i64 i)]) (fun _=>H) (fun i=>i≤(n+7) / 8) (fun i=>(n+7) / 8 - i) ⟨0,Nat.zero_le _,⟨rfl,rfl,rfl,rfl,rfl,zqv⟩,rfl⟩ ?_
 intro i hi
 have hsl:=zge k nn i
 conv=>whnf
 refine ⟨fun h=>?_,fun h=>?_⟩
 ·have h:((strN k nn i).length:Int)<n:=h
  rw [hsl] at h
  conv=>whnf
  refine ⟨by decide,?_⟩
  conv=>whnf
  have eargs:[PV.agg (((dropN 0 ((spW k).map u32C)).take 27).map dem),PV.int .u32 (IntKind.u32.wrap (ishr .u64 nn 32)),PV.int .u32 (IntKind.u32.wrap (IntKind.u32.wrap nn+IntKind.u32.wrap (i:Int)))]=[.agg ((spW k).map u32C),.int .u32 (IntKind.u32.wrap (ishr .u64 nn 32)),.int .u32 (add32 (IntKind.u32.wrap nn) i)]:=by
   rw [agg27 _ (ze2 k),zt4 (n:=i) (by omega)];rfl
  refine cA eargs (cP ((c151 (spW k) (ze2 k) _ _).of_eq (show _=PV.tup [.int .u32 (blkP k nn i).1,.int .u32 (blkP k nn i).2] from rfl)) ?_)
  conv=>whnf
  generalize hx:(blkP k nn i).1=x
  generalize hy:(blkP k nn i).2=y
  refine ⟨by decide,?_⟩
  conv=>whnf
  refine ⟨by decide,?_⟩
  conv=>whnf
  refine ⟨by decide,?_⟩
  conv=>whnf
  refine ⟨by decide,?_⟩
  conv=>whnf
  refine ⟨by decide,?_⟩
  conv=>whnf
  refine ⟨by decide,?_⟩
  conv=>whnf
  refine ⟨⟨by show ((strN k nn i).length+8)*1≤_;omega,rfl,rfl⟩,?_⟩
  conv=>whnf
  refine ⟨i+1,by omega,⟨rfl,rfl,rfl,?_,?_,zqv⟩,rfl,by omega⟩
  ·have e8:[PV.int .u8 (IntKind.u8.wrap x),.int .u8 (IntKind.u8.wrap (ishr .u32 x 8)),.int .u8 (IntKind.u8.wrap (ishr .u32 x 16)),.int .u8 (IntKind.u8.wrap (ishr .u32 x 24)),.int .u8 (IntKind.u8.wrap y),.int .u8 (IntKind.u8.wrap (ishr .u32 y 8)),.int .u8 (IntKind.u8.wrap (ishr .u32 y 16)),.int .u8 (IntKind.u8.wrap (ishr .u32 y 24))]=(le4 x++le4 y).map bC:=by
    rw [List.map_append,←zdv,←zdv];rfl
   show PV.slice ((strN k nn i).length+8) ((strN k nn i).map bC++[PV.int .u8 (IntKind.u8.wrap x),.int .u8 (IntKind.u8.wrap (ishr .u32 x 8)),.int .u8 (IntKind.u8.wrap (ishr .u32 x 16)),.int .u8 (IntKind.u8.wrap (ishr .u32 x 24)),.int .u8 (IntKind.u8.wrap y),.int .u8 (IntKind.u8.wrap (ishr .u32 y 8)),.int .u8 (IntKind.u8.wrap (ishr .u32 y 16)),.int .u8 (IntKind.u8.wrap (ishr .u32 y 24))]) (some 5)=_
   rw [e8,zid _ (le4 x++le4 y) (n:=8) rfl]
   subst hx hy
   rfl
  ·show PV.int _ (IntKind.i64.wrap ((i:Int)+1))=PV.int _ _
   rw [w64 (by omega) (by omega)];simp
 ·have h:¬((strN k nn i).length:Int)<n:=h
  rw [hsl] at h
  have e:i=(n+7) / 8:=by omega
  conv=>whnf
  have hmax:max (n:Int) 0=(n:Int):=by omega
  refine ⟨⟨by decide,by rw [hmax];omega,by rw [hmax];omega⟩,?_⟩
  conv=>whnf
  refine ⟨?_,rfl⟩
  have ec:=zce (strN k nn i) 0 n ⟨by omega,by omega,by omega⟩
  show PV.slice ((max (n:Int) 0).toNat - (0:Int).toNat) ((((strN k nn i).map bC).take ((max (n:Int) 0).toNat*1)).drop ((0:Int).toNat*1)) none=_
  rw [hmax]
  refine ec.trans ?_
  rw [Int.toNat_natCast,e]
  rfl
set_option maxHeartbeats 4000000
def zcu:Draw:={ imp:=[17],win:=[] }
def zxf:Draw:={ cons:=[(14,[6]),(15,[57])],imp:=[],win:=[],fs:=[(0,14,.slot 6)],looks:=[(0,6)] }
def zxg:Draw:={ imp:=[13],win:=[] }
def z27:List Int:=List.replicate 27 0
theorem spN_c (k:List UInt8) (i:Nat):(spN k i).c=(spN k (i+1)).b:=by rw [spN]
theorem z3s (k:List UInt8) (i:Nat):(spN k i).d=(spN k (i+1)).c:=by rw [spN]
theorem spN_d (k:List UInt8) (i:Nat):(spN k i).d=(spN k (i+2)).b:=by rw [z3s,spN_c]
theorem zvn (k:List UInt8) (i:Nat):(spN k (i+1)).d=xor32 (add32 (spN k i).a (rot32 (spN k i).b (-8))) (IntKind.u32.wrap (i:Int)):=by rw [spN]
theorem spN_a (k:List UInt8) (i:Nat):(spN k (i+1)).a=xor32 (rot32 (spN k i).a 3) (spN k (i+1)).d:=by rw [spN]
def spL2 (k:List UInt8) (i:Nat):List Int:=(List.range (i+3)).map fun j=>(spN k j).b
theorem zkx (k:List UInt8):spN k 0=wN k 16:=by rw [spN]
theorem ztr (k:List UInt8):spL2 k 0=[(wN k 16).b,(wN k 16).c,(wN k 16).d]:=by
 rw [←zkx,spN_c,spN_d]
 generalize hb:(fun j=>(spN k j).b)=f
 have e:∀j,(spN k j).b=f j:=fun j=>by rw [←hb]
 unfold spL2
 rw [hb,e,e,e]
 rfl
theorem zym (k:List UInt8):spL k z27 (0+1)=(wN k 16).a::z27.drop 1:=by
 rw [←zkx]
 generalize hb:(fun j=>(spN k j).a)=f
 have e:(spN k 0).a=f 0:=by rw [←hb]
 unfold spL
 rw [hb,e]
 rfl
theorem zo7 (k:List UInt8) (i:Nat):(spL2 k i).length=i+3:=by unfold spL2;simp
theorem zvm (k:List UInt8) (i j:Nat) (h:j<i+3):(spL2 k i)[j]? = some (spN k j).b:=by
 unfold spL2
 rw [List.getElem?_map,List.getElem?_range h];rfl
theorem ztq (k:List UInt8) (i:Nat):spL2 k (i+1)=spL2 k i++[(spN k (i+3)).b]:=by
 unfold spL2
 rw [show i+1+3=(i+3)+1 by omega,List.range_succ,List.map_append];rfl
theorem z3r (k:List UInt8) (i j:Nat) (hi:i≤27) (h:j<i):(spL k z27 i)[j]? = some (spN k j).a:=by
 unfold spL
 rw [zq2 (by simp;omega),List.getElem?_map,List.getElem?_range h];rfl
theorem zun {l:List Int} {j:Nat} {x:Int} (h:l[j]? = some x):∃r,dropN (0+(j:Int).toNat*1) (l.map u32C)=u32C x::r:=by
 have hlt:=(zq1.1 h).1
 refine ⟨(l.drop (j+1)).map u32C,?_⟩
 rw [za2,Int.toNat_natCast,Nat.mul_one,Nat.zero_add,←List.map_drop,List.drop_eq_getElem_cons hlt,(zq1.1 h).2];rfl
theorem zwq {H K:PH} (hl:H.length≤K.length) (hf:∀j,j<H.length→K[j]? = H[j]?):∃ext,K=H++ext:=⟨K.drop H.length,List.ext_getElem? fun j=>by
 by_cases h:j<H.length
 ·rw [zq2 h];exact hf j h
 ·rw [zqi (by omega),zqt]
  congr 1;omega⟩
theorem c125x (k:List UInt8) (hk:k.length=16) (H:PH):CK prog 125 [.agg (k.map bC)] H fun r H'=>r=.agg ((spW k).map u32C)∧∃ext,H'=H++ext:=by
 obtain ⟨k0,k1,k2,k3,k4,k5,k6,k7,k8,k9,ka,kb,kc,kd,ke,kf,rfl⟩:=len16 hk
 obtain ⟨kk,hkk⟩:∃kk:List UInt8,kk=[k0,k1,k2,k3,k4,k5,k6,k7,k8,k9,ka,kb,kc,kd,ke,kf]:=⟨_,rfl⟩
 rw [←hkk]
 (refine fnS (imm:=z0c) ziw func125 ?_;(conv=>whnf))
 obtain ⟨H1,hH1⟩:∃H1:PH,H1=H++[⟨231,z27.map u32C,0⟩]:=⟨_,rfl⟩
 have hl1:H1.length=H.length+1:=by rw [hH1];simp
 have hr1:H1[H.length]? = some ⟨231,z27.map u32C,0⟩:=by rw [hH1];exact gL H _
 refine lO Nat (fun x=>[(1,.elem (kk.map bC)),(2,.ptr (some (H.length,0))),(3,.ptr (some (H1.length,0))),(4,.int .i64 x)]) (fun x=>H1++[(wN kk x).O4 x]) (fun x=>x≤16) (fun x=>16 - x) ⟨0,Nat.zero_le _,⟨rfl,rfl,?_,rfl,zqv⟩,?_⟩ ?_
 ·subst hH1;rfl
 ·subst hH1;rfl
 intro i hi
 match i,hi with
 | 0,_ =>
  conv=>whnf
  refine ⟨fun _=>?_,fun h=>absurd (show ((0:Nat):Int)<16 by decide) h⟩
  conv=>whnf
  generalize hz:wN kk 0=z
  refine dO2 zcu [H1++[z.O4 0],H1++[S4.O4 { z with a:=orB z.a k0 0 } 1]] (by kernel_rfl) rfl trivial ?_
  conv=>whnf
  (refine dS ?_;(conv=>whnf))
  (refine dZ ?_;(conv=>whnf))
  (refine dS ?_;(conv=>whnf))
  iterate 2 (refine dZ ?_;(conv=>whnf))
  apply exA
  ·conv=>whnf
   ((conv in (_[_]?)=>tactic=>exact (z.look4 0 H1));(conv=>whnf))
   exact ⟨rfl,rfl,zqv⟩
  conv=>whnf
  (refine dS ?_;(conv=>whnf))
  refine ⟨.elem [bC k0],⟨⟨by decide,by decide⟩,[bC k0],at1' (k:=0) (by rw [hkk];rfl),rfl,rfl,zqv⟩,?_⟩
  conv=>whnf
  iterate 3 (refine dS ?_;(conv=>whnf))
  (refine dZ ?_;(conv=>whnf))
  iterate 2 (refine dS ?_;(conv=>whnf))
  (refine dZ ?_;(conv=>whnf))
  (refine dS ?_;(conv=>whnf))
  (refine dZ ?_;(conv=>whnf))
  apply exA
  ·conv=>whnf
   ((conv in (_[_]?)=>tactic=>exact (z.look4 0 H1));(conv=>whnf))
   exact ⟨rfl,sL H1 _ _,zqv⟩
  conv=>whnf
  refine ⟨1,by decide,⟨rfl,rfl,rfl,rfl,zqv⟩,?_,by decide⟩
  subst hz hkk
  rfl
 | 1,_ =>
  conv=>whnf
  refine ⟨fun _=>?_,fun h=>absurd (show ((1:Nat):Int)<16 by decide) h⟩
  conv=>whnf
  generalize hz:wN kk 1=z
  refine dO2 zcu [H1++[z.O4 1],H1++[S4.O4 { z with a:=orB z.a k1 8 } 2]] (by kernel_rfl) rfl trivial ?_
  conv=>whnf
  (refine dS ?_;(conv=>whnf))
  (refine dZ ?_;(conv=>whnf))
  (refine dS ?_;(conv=>whnf))
  iterate 2 (refine dZ ?_;(conv=>whnf))
  apply exA
  ·conv=>whnf
   ((conv in (_[_]?)=>tactic=>exact (z.look4 1 H1));(conv=>whnf))
   exact ⟨rfl,rfl,zqv⟩
  conv=>whnf
  (refine dS ?_;(conv=>whnf))
  refine ⟨.elem [bC k1],⟨⟨by decide,by decide⟩,[bC k1],at1' (k:=1) (by rw [hkk];rfl),rfl,rfl,zqv⟩,?_⟩
  conv=>whnf
  iterate 3 (refine dS ?_;(conv=>whnf))
  (refine dZ ?_;(conv=>whnf))
  iterate 2 (refine dS ?_;(conv=>whnf))
  (refine dZ ?_;(conv=>whnf))
  (refine dS ?_;(conv=>whnf))
  (refine dZ ?_;(conv=>whnf))
  apply exA
  ·conv=>whnf
   ((conv in (_[_]?)=>tactic=>exact (z.look4 1 H1));(conv=>whnf))
   exact ⟨rfl,sL H1 _ _,zqv⟩
  conv=>whnf
  refine ⟨2,by decide,⟨rfl,rfl,rfl,rfl,zqv⟩,?_,by decide⟩
  subst hz hkk
  rfl
 | 2,_ =>
  conv=>whnf
  refine ⟨fun _=>?_,fun h=>absurd (show ((2:Nat):Int)<16 by decide) h⟩
  conv=>whnf
  generalize hz:wN kk 2=z
  refine dO2 zcu [H1++[z.O4 2],H1++[S4.O4 { z with a:=orB z.a k2 16 } 3]] (by kernel_rfl) rfl trivial ?_
  conv=>whnf
  (refine dS ?_;(conv=>whnf))
  (refine dZ ?_;(conv=>whnf))
  (refine dS ?_;(conv=>whnf))
  iterate 2 (refine dZ ?_;(conv=>whnf))
  apply exA
  ·conv=>whnf
   ((conv in (_[_]?)=>tactic=>exact (z.look4 2 H1));(conv=>whnf))
   exact ⟨rfl,rfl,zqv⟩
  conv=>whnf
  (refine dS ?_;(conv=>whnf))
  refine ⟨.elem [bC k2],⟨⟨by decide,by decide⟩,[bC k2],at1' (k:=2) (by rw [hkk];rfl),rfl,rfl,zqv⟩,?_⟩
  conv=>whnf
  iterate 3 (refine dS ?_;(conv=>whnf))
  (refine dZ ?_;(conv=>whnf))
  iterate 2 (refine dS ?_;(conv=>whnf))
  (refine dZ ?_;(conv=>whnf))
  (refine dS ?_;(conv=>whnf))
  (refine dZ ?_;(conv=>whnf))
  apply exA
  ·conv=>whnf
   ((conv in (_[_]?)=>tactic=>exact (z.look4 2 H1));(conv=>whnf))
   exact ⟨rfl,sL H1 _ _,zqv⟩
  conv=>whnf
  refine ⟨3,by decide,⟨rfl,rfl,rfl,rfl,zqv⟩,?_,by decide⟩
  subst hz hkk
  rfl
 | 3,_ =>
  conv=>whnf
  refine ⟨fun _=>?_,fun h=>absurd (show ((3:Nat):Int)<16 by decide) h⟩
  conv=>whnf
  generalize hz:wN kk 3=z
  refine dO2 zcu [H1++[z.O4 3],H1++[S4.O4 { z with a:=orB z.a k3 24 } 4]] (by kernel_rfl) rfl trivial ?_
  conv=>whnf
  (refine dS ?_;(conv=>whnf))
  (refine dZ ?_;(conv=>whnf))
  (refine dS ?_;(conv=>whnf))
  iterate 2 (refine dZ ?_;(conv=>whnf))
  apply exA
  ·conv=>whnf
   ((conv in (_[_]?)=>tactic=>exact (z.look4 3 H1));(conv=>whnf))
   exact ⟨rfl,rfl,zqv⟩
  conv=>whnf
  (refine dS ?_;(conv=>whnf))
  refine ⟨.elem [bC k3],⟨⟨by decide,by decide⟩,[bC k3],at1' (k:=3) (by rw [hkk];rfl),rfl,rfl,zqv⟩,?_⟩
  conv=>whnf
  iterate 3 (refine dS ?_;(conv=>whnf))
  (refine dZ ?_;(conv=>whnf))
  iterate 2 (refine dS ?_;(conv=>whnf))
  (refine dZ ?_;(conv=>whnf))
  (refine dS ?_;(conv=>whnf))
  (refine dZ ?_;(conv=>whnf))
  apply exA
  ·conv=>whnf
   ((conv in (_[_]?)=>tactic=>exact (z.look4 3 H1));(conv=>whnf))
   exact ⟨rfl,sL H1 _ _,zqv⟩
  conv=>whnf
  refine ⟨4,by decide,⟨rfl,rfl,rfl,rfl,zqv⟩,?_,by decide⟩
  subst hz hkk
  rfl
 | 4,_ =>
  conv=>whnf
  refine ⟨fun _=>?_,fun h=>absurd (show ((4:Nat):Int)<16 by decide) h⟩
  conv=>whnf
  generalize hz:wN kk 4=z
  refine dO2 zcu [H1++[z.O4 4],H1++[S4.O4 { z with b:=orB z.b k4 0 } 5]] (by kernel_rfl) rfl trivial ?_
  conv=>whnf
  (refine dS ?_;(conv=>whnf))
  (refine dZ ?_;(conv=>whnf))
  (refine dS ?_;(conv=>whnf))
  iterate 2 (refine dZ ?_;(conv=>whnf))
  apply exA
  ·conv=>whnf
   ((conv in (_[_]?)=>tactic=>exact (z.look4 4 H1));(conv=>whnf))
   exact ⟨rfl,rfl,zqv⟩
  conv=>whnf
  (refine dS ?_;(conv=>whnf))
  refine ⟨.elem [bC k4],⟨⟨by decide,by decide⟩,[bC k4],at1' (k:=4) (by rw [hkk];rfl),rfl,rfl,zqv⟩,?_⟩
  conv=>whnf
  iterate 3 (refine dS ?_;(conv=>whnf))
  (refine dZ ?_;(conv=>whnf))
  iterate 2 (refine dS ?_;(conv=>whnf))
  (refine dZ ?_;(conv=>whnf))
  (refine dS ?_;(conv=>whnf))
  (refine dZ ?_;(conv=>whnf))
  apply exA
  ·conv=>whnf
   ((conv in (_[_]?)=>tactic=>exact (z.look4 4 H1));(conv=>whnf))
   exact ⟨rfl,sL H1 _ _,zqv⟩
  conv=>whnf
  refine ⟨5,by decide,⟨rfl,rfl,rfl,rfl,zqv⟩,?_,by decide⟩
  subst hz hkk
  rfl
 | 5,_ =>
  conv=>whnf
  refine ⟨fun _=>?_,fun h=>absurd (show ((5:Nat):Int)<16 by decide) h⟩
  conv=>whnf
  generalize hz:wN kk 5=z
  refine dO2 zcu [H1++[z.O4 5],H1++[S4.O4 { z with b:=orB z.b k5 8 } 6]] (by kernel_rfl) rfl trivial ?_
  conv=>whnf
  (refine dS ?_;(conv=>whnf))
  (refine dZ ?_;(conv=>whnf))
  (refine dS ?_;(conv=>whnf))
  iterate 2 (refine dZ ?_;(conv=>whnf))
  apply exA
  ·conv=>whnf
   ((conv in (_[_]?)=>tactic=>exact (z.look4 5 H1));(conv=>whnf))
   exact ⟨rfl,rfl,zqv⟩
  conv=>whnf
  (refine dS ?_;(conv=>whnf))
  refine ⟨.elem [bC k5],⟨⟨by decide,by decide⟩,[bC k5],at1' (k:=5) (by rw [hkk];rfl),rfl,rfl,zqv⟩,?_⟩
  conv=>whnf
  iterate 3 (refine dS ?_;(conv=>whnf))
  (refine dZ ?_;(conv=>whnf))
  iterate 2 (refine dS ?_;(conv=>whnf))
  (refine dZ ?_;(conv=>whnf))
  (refine dS ?_;(conv=>whnf))
  (refine dZ ?_;(conv=>whnf))
  apply exA
  ·conv=>whnf
   ((conv in (_[_]?)=>tactic=>exact (z.look4 5 H1));(conv=>whnf))
   exact ⟨rfl,sL H1 _ _,zqv⟩
  conv=>whnf
  refine ⟨6,by decide,⟨rfl,rfl,rfl,rfl,zqv⟩,?_,by decide⟩
  subst hz hkk
  rfl
 | 6,_ =>
  conv=>whnf
  refine ⟨fun _=>?_,fun h=>absurd (show ((6:Nat):Int)<16 by decide) h⟩
  conv=>whnf
  generalize hz:wN kk 6=z
  refine dO2 zcu [H1++[z.O4 6],H1++[S4.O4 { z with b:=orB z.b k6 16 } 7]] (by kernel_rfl) rfl trivial ?_
  conv=>whnf
  (refine dS ?_;(conv=>whnf))
  (refine dZ ?_;(conv=>whnf))
  (refine dS ?_;(conv=>whnf))
  iterate 2 (refine dZ ?_;(conv=>whnf))
  apply exA
  ·conv=>whnf
   ((conv in (_[_]?)=>tactic=>exact (z.look4 6 H1));(conv=>whnf))
   exact ⟨rfl,rfl,zqv⟩
  conv=>whnf
  (refine dS ?_;(conv=>whnf))
  refine ⟨.elem [bC k6],⟨⟨by decide,by decide⟩,[bC k6],at1' (k:=6) (by rw [hkk];rfl),rfl,rfl,zqv⟩,?_⟩
  conv=>whnf
  iterate 3 (refine dS ?_;(conv=>whnf))
  (refine dZ ?_;(conv=>whnf))
  iterate 2 (refine dS ?_;(conv=>whnf))
  (refine dZ ?_;(conv=>whnf))
  (refine dS ?_;(conv=>whnf))
  (refine dZ ?_;(conv=>whnf))
  apply exA
  ·conv=>whnf
   ((conv in (_[_]?)=>tactic=>exact (z.look4 6 H1));(conv=>whnf))
   exact ⟨rfl,sL H1 _ _,zqv⟩
  conv=>whnf
  refine ⟨7,by decide,⟨rfl,rfl,rfl,rfl,zqv⟩,?_,by decide⟩
  subst hz hkk
  rfl
 | 7,_ =>
  conv=>whnf
  refine ⟨fun _=>?_,fun h=>absurd (show ((7:Nat):Int)<16 by decide) h⟩
  conv=>whnf
  generalize hz:wN kk 7=z
  refine dO2 zcu [H1++[z.O4 7],H1++[S4.O4 { z with b:=orB z.b k7 24 } 8]] (by kernel_rfl) rfl trivial ?_
  conv=>whnf
  (refine dS ?_;(conv=>whnf))
  (refine dZ ?_;(conv=>whnf))
  (refine dS ?_;(conv=>whnf))
  iterate 2 (refine dZ ?_;(conv=>whnf))
  apply exA
  ·conv=>whnf
   ((conv in (_[_]?)=>tactic=>exact (z.look4 7 H1));(conv=>whnf))
   exact ⟨rfl,rfl,zqv⟩
  conv=>whnf
  (refine dS ?_;(conv=>whnf))
  refine ⟨.elem [bC k7],⟨⟨by decide,by decide⟩,[bC k7],at1' (k:=7) (by rw [hkk];rfl),rfl,rfl,zqv⟩,?_⟩
  conv=>whnf
  iterate 3 (refine dS ?_;(conv=>whnf))
  (refine dZ ?_;(conv=>whnf))
  iterate 2 (refine dS ?_;(conv=>whnf))
  (refine dZ ?_;(conv=>whnf))
  (refine dS ?_;(conv=>whnf))
  (refine dZ ?_;(conv=>whnf))
  apply exA
  ·conv=>whnf
   ((conv in (_[_]?)=>tactic=>exact (z.look4 7 H1));(conv=>whnf))
   exact ⟨rfl,sL H1 _ _,zqv⟩
  conv=>whnf
  refine ⟨8,by decide,⟨rfl,rfl,rfl,rfl,zqv⟩,?_,by decide⟩
  subst hz hkk
  rfl
 | 8,_ =>
  conv=>whnf
  refine ⟨fun _=>?_,fun h=>absurd (show ((8:Nat):Int)<16 by decide) h⟩
  conv=>whnf
  generalize hz:wN kk 8=z
  refine dO2 zcu [H1++[z.O4 8],H1++[S4.O4 { z with c:=orB z.c k8 0 } 9]] (by kernel_rfl) rfl trivial ?_
  conv=>whnf
  (refine dS ?_;(conv=>whnf))
  (refine dZ ?_;(conv=>whnf))
  (refine dS ?_;(conv=>whnf))
  iterate 2 (refine dZ ?_;(conv=>whnf))
  apply exA
  ·conv=>whnf
   ((conv in (_[_]?)=>tactic=>exact (z.look4 8 H1));(conv=>whnf))
   exact ⟨rfl,rfl,zqv⟩
  conv=>whnf
  (refine dS ?_;(conv=>whnf))
  refine ⟨.elem [bC k8],⟨⟨by decide,by decide⟩,[bC k8],at1' (k:=8) (by rw [hkk];rfl),rfl,rfl,zqv⟩,?_⟩
  conv=>whnf
  iterate 3 (refine dS ?_;(conv=>whnf))
  (refine dZ ?_;(conv=>whnf))
  iterate 2 (refine dS ?_;(conv=>whnf))
  (refine dZ ?_;(conv=>whnf))
  (refine dS ?_;(conv=>whnf))
  (refine dZ ?_;(conv=>whnf))
  apply exA
  ·conv=>whnf
   ((conv in (_[_]?)=>tactic=>exact (z.look4 8 H1));(conv=>whnf))
   exact ⟨rfl,sL H1 _ _,zqv⟩
  conv=>whnf
  refine ⟨9,by decide,⟨rfl,rfl,rfl,rfl,zqv⟩,?_,by decide⟩
  subst hz hkk
  rfl
 | 9,_ =>
  conv=>whnf
  refine ⟨fun _=>?_,fun h=>absurd (show ((9:Nat):Int)<16 by decide) h⟩
  conv=>whnf
  generalize hz:wN kk 9=z
  refine dO2 zcu [H1++[z.O4 9],H1++[S4.O4 { z with c:=orB z.c k9 8 } 10]] (by kernel_rfl) rfl trivial ?_
  conv=>whnf
  (refine dS ?_;(conv=>whnf))
  (refine dZ ?_;(conv=>whnf))
  (refine dS ?_;(conv=>whnf))
  iterate 2 (refine dZ ?_;(conv=>whnf))
  apply exA
  ·conv=>whnf
   ((conv in (_[_]?)=>tactic=>exact (z.look4 9 H1));(conv=>whnf))
   exact ⟨rfl,rfl,zqv⟩
  conv=>whnf
  (refine dS ?_;(conv=>whnf))
  refine ⟨.elem [bC k9],⟨⟨by decide,by decide⟩,[bC k9],at1' (k:=9) (by rw [hkk];rfl),rfl,rfl,zqv⟩,?_⟩
  conv=>whnf
  iterate 3 (refine dS ?_;(conv=>whnf))
  (refine dZ ?_;(conv=>whnf))
  iterate 2 (refine dS ?_;(conv=>whnf))
  (refine dZ ?_;(conv=>whnf))
  (refine dS ?_;(conv=>whnf))
  (refine dZ ?_;(conv=>whnf))
  apply exA
  ·conv=>whnf
   ((conv in (_[_]?)=>tactic=>exact (z.look4 9 H1));(conv=>whnf))
   exact ⟨rfl,sL H1 _ _,zqv⟩
  conv=>whnf
  refine ⟨10,by decide,⟨rfl,rfl,rfl,rfl,zqv⟩,?_,by decide⟩
  subst hz hkk
  rfl
 | 10,_ =>
  conv=>whnf
  refine ⟨fun _=>?_,fun h=>absurd (show ((10:Nat):Int)<16 by decide) h⟩
  conv=>whnf
  generalize hz:wN kk 10=z
  refine dO2 zcu [H1++[z.O4 10],H1++[S4.O4 { z with c:=orB z.c ka 16 } 11]] (by kernel_rfl) rfl trivial ?_
  conv=>whnf
  (refine dS ?_;(conv=>whnf))
  (refine dZ ?_;(conv=>whnf))
  (refine dS ?_;(conv=>whnf))
  iterate 2 (refine dZ ?_;(conv=>whnf))
  apply exA
  ·conv=>whnf
   ((conv in (_[_]?)=>tactic=>exact (z.look4 10 H1));(conv=>whnf))
   exact ⟨rfl,rfl,zqv⟩
  conv=>whnf
  (refine dS ?_;(conv=>whnf))
  refine ⟨.elem [bC ka],⟨⟨by decide,by decide⟩,[bC ka],at1' (k:=10) (by rw [hkk];rfl),rfl,rfl,zqv⟩,?_⟩
  conv=>whnf
  iterate 3 (refine dS ?_;(conv=>whnf))
  (refine dZ ?_;(conv=>whnf))
  iterate 2 (refine dS ?_;(conv=>whnf))
  (refine dZ ?_;(conv=>whnf))
  (refine dS ?_;(conv=>whnf))
  (refine dZ ?_;(conv=>whnf))
  apply exA
  ·conv=>whnf
   ((conv in (_[_]?)=>tactic=>exact (z.look4 10 H1));(conv=>whnf))
   exact ⟨rfl,sL H1 _ _,zqv⟩
  conv=>whnf
  refine ⟨11,by decide,⟨rfl,rfl,rfl,rfl,zqv⟩,?_,by decide⟩
  subst hz hkk
  rfl
 | 11,_ =>
  conv=>whnf
  refine ⟨fun _=>?_,fun h=>absurd (show ((11:Nat):Int)<16 by decide) h⟩
  conv=>whnf
  generalize hz:wN kk 11=z
  refine dO2 zcu [H1++[z.O4 11],H1++[S4.O4 { z with c:=orB z.c kb 24 } 12]] (by kernel_rfl) rfl trivial ?_
  conv=>whnf
  (refine dS ?_;(conv=>whnf))
  (refine dZ ?_;(conv=>whnf))
  (refine dS ?_;(conv=>whnf))
  iterate 2 (refine dZ ?_;(conv=>whnf))
  apply exA
  ·conv=>whnf
   ((conv in (_[_]?)=>tactic=>exact (z.look4 11 H1));(conv=>whnf))
   exact ⟨rfl,rfl,zqv⟩
  conv=>whnf
  (refine dS ?_;(conv=>whnf))
  refine ⟨.elem [bC kb],⟨⟨by decide,by decide⟩,[bC kb],at1' (k:=11) (by rw [hkk];rfl),rfl,rfl,zqv⟩,?_⟩
  conv=>whnf
  iterate 3 (refine dS ?_;(conv=>whnf))
  (refine dZ ?_;(conv=>whnf))
  iterate 2 (refine dS ?_;(conv=>whnf))
  (refine dZ ?_;(conv=>whnf))
  (refine dS ?_;(conv=>whnf))
  (refine dZ ?_;(conv=>whnf))
  apply exA
  ·conv=>whnf
   ((conv in (_[_]?)=>tactic=>exact (z.look4 11 H1));(conv=>whnf))
   exact ⟨rfl,sL H1 _ _,zqv⟩
  conv=>whnf
  refine ⟨12,by decide,⟨rfl,rfl,rfl,rfl,zqv⟩,?_,by decide⟩
  subst hz hkk
  rfl
 | 12,_ =>
  conv=>whnf
  refine ⟨fun _=>?_,fun h=>absurd (show ((12:Nat):Int)<16 by decide) h⟩
  conv=>whnf
  generalize hz:wN kk 12=z
  refine dO2 zcu [H1++[z.O4 12],H1++[S4.O4 { z with d:=orB z.d kc 0 } 13]] (by kernel_rfl) rfl trivial ?_
  conv=>whnf
  (refine dS ?_;(conv=>whnf))
  (refine dZ ?_;(conv=>whnf))
  (refine dS ?_;(conv=>whnf))
  iterate 2 (refine dZ ?_;(conv=>whnf))
  apply exA
  ·conv=>whnf
   ((conv in (_[_]?)=>tactic=>exact (z.look4 12 H1));(conv=>whnf))
   exact ⟨rfl,rfl,zqv⟩
  conv=>whnf
  (refine dS ?_;(conv=>whnf))
  refine ⟨.elem [bC kc],⟨⟨by decide,by decide⟩,[bC kc],at1' (k:=12) (by rw [hkk];rfl),rfl,rfl,zqv⟩,?_⟩
  conv=>whnf
  iterate 3 (refine dS ?_;(conv=>whnf))
  (refine dZ ?_;(conv=>whnf))
  iterate 2 (refine dS ?_;(conv=>whnf))
  (refine dZ ?_;(conv=>whnf))
  (refine dS ?_;(conv=>whnf))
  (refine dZ ?_;(conv=>whnf))
  apply exA
  ·conv=>whnf
   ((conv in (_[_]?)=>tactic=>exact (z.look4 12 H1));(conv=>whnf))
   exact ⟨rfl,sL H1 _ _,zqv⟩
  conv=>whnf
  refine ⟨13,by decide,⟨rfl,rfl,rfl,rfl,zqv⟩,?_,by decide⟩
  subst hz hkk
  rfl
 | 13,_ =>
  conv=>whnf
  refine ⟨fun _=>?_,fun h=>absurd (show ((13:Nat):Int)<16 by decide) h⟩
  conv=>whnf
  generalize hz:wN kk 13=z
  refine dO2 zcu [H1++[z.O4 13],H1++[S4.O4 { z with d:=orB z.d kd 8 } 14]] (by kernel_rfl) rfl trivial ?_
  conv=>whnf
  (refine dS ?_;(conv=>whnf))
  (refine dZ ?_;(conv=>whnf))
  (refine dS ?_;(conv=>whnf))
  iterate 2 (refine dZ ?_;(conv=>whnf))
  apply exA
  ·conv=>whnf
   ((conv in (_[_]?)=>tactic=>exact (z.look4 13 H1));(conv=>whnf))
   exact ⟨rfl,rfl,zqv⟩
  conv=>whnf
  (refine dS ?_;(conv=>whnf))
  refine ⟨.elem [bC kd],⟨⟨by decide,by decide⟩,[bC kd],at1' (k:=13) (by rw [hkk];rfl),rfl,rfl,zqv⟩,?_⟩
  conv=>whnf
  iterate 3 (refine dS ?_;(conv=>whnf))
  (refine dZ ?_;(conv=>whnf))
  iterate 2 (refine dS ?_;(conv=>whnf))
  (refine dZ ?_;(conv=>whnf))
  (refine dS ?_;(conv=>whnf))
  (refine dZ ?_;(conv=>whnf))
  apply exA
  ·conv=>whnf
   ((conv in (_[_]?)=>tactic=>exact (z.look4 13 H1));(conv=>whnf))
   exact ⟨rfl,sL H1 _ _,zqv⟩
  conv=>whnf
  refine ⟨14,by decide,⟨rfl,rfl,rfl,rfl,zqv⟩,?_,by decide⟩
  subst hz hkk
  rfl
 | 14,_ =>
  conv=>whnf
  refine ⟨fun _=>?_,fun h=>absurd (show ((14:Nat):Int)<16 by decide) h⟩
  conv=>whnf
  generalize hz:wN kk 14=z
  refine dO2 zcu [H1++[z.O4 14],H1++[S4.O4 { z with d:=orB z.d ke 16 } 15]] (by kernel_rfl) rfl trivial ?_
  conv=>whnf
  (refine dS ?_;(conv=>whnf))
  (refine dZ ?_;(conv=>whnf))
  (refine dS ?_;(conv=>whnf))
  iterate 2 (refine dZ ?_;(conv=>whnf))
  apply exA
  ·conv=>whnf
   ((conv in (_[_]?)=>tactic=>exact (z.look4 14 H1));(conv=>whnf))
   exact ⟨rfl,rfl,zqv⟩
  conv=>whnf
  (refine dS ?_;(conv=>whnf))
  refine ⟨.elem [bC ke],⟨⟨by decide,by decide⟩,[bC ke],at1' (k:=14) (by rw [hkk];rfl),rfl,rfl,zqv⟩,?_⟩
  conv=>whnf
  iterate 3 (refine dS ?_;(conv=>whnf))
  (refine dZ ?_;(conv=>whnf))
  iterate 2 (refine dS ?_;(conv=>whnf))
  (refine dZ ?_;(conv=>whnf))
  (refine dS ?_;(conv=>whnf))
  (refine dZ ?_;(conv=>whnf))
  apply exA
  ·conv=>whnf
   ((conv in (_[_]?)=>tactic=>exact (z.look4 14 H1));(conv=>whnf))
   exact ⟨rfl,sL H1 _ _,zqv⟩
  conv=>whnf
  refine ⟨15,by decide,⟨rfl,rfl,rfl,rfl,zqv⟩,?_,by decide⟩
  subst hz hkk
  rfl
 | 15,_ =>
  conv=>whnf
  refine ⟨fun _=>?_,fun h=>absurd (show ((15:Nat):Int)<16 by decide) h⟩
  conv=>whnf
  generalize hz:wN kk 15=z
  refine dO2 zcu [H1++[z.O4 15],H1++[S4.O4 { z with d:=orB z.d kf 24 } 16]] (by kernel_rfl) rfl trivial ?_
  conv=>whnf
  (refine dS ?_;(conv=>whnf))
  (refine dZ ?_;(conv=>whnf))
  (refine dS ?_;(conv=>whnf))
  iterate 2 (refine dZ ?_;(conv=>whnf))
  apply exA
  ·conv=>whnf
   ((conv in (_[_]?)=>tactic=>exact (z.look4 15 H1));(conv=>whnf))
   exact ⟨rfl,rfl,zqv⟩
  conv=>whnf
  (refine dS ?_;(conv=>whnf))
  refine ⟨.elem [bC kf],⟨⟨by decide,by decide⟩,[bC kf],at1' (k:=15) (by rw [hkk];rfl),rfl,rfl,zqv⟩,?_⟩
  conv=>whnf
  iterate 3 (refine dS ?_;(conv=>whnf))
  (refine dZ ?_;(conv=>whnf))
  iterate 2 (refine dS ?_;(conv=>whnf))
  (refine dZ ?_;(conv=>whnf))
  (refine dS ?_;(conv=>whnf))
  (refine dZ ?_;(conv=>whnf))
  apply exA
  ·conv=>whnf
   ((conv in (_[_]?)=>tactic=>exact (z.look4 15 H1));(conv=>whnf))
   exact ⟨rfl,sL H1 _ _,zqv⟩
  conv=>whnf
  refine ⟨16,by decide,⟨rfl,rfl,rfl,rfl,zqv⟩,?_,by decide⟩
  subst hz hkk
  rfl
 | 16,_ =>
  conv=>whnf
  refine ⟨fun h=>absurd h (by decide),fun _=>?_⟩
  conv=>whnf
  have hs0:spN kk 0=wN kk 16:=zkx kk
  have hl2:(spL2 kk 0).map u32C=[u32C (wN kk 16).b,u32C (wN kk 16).c,u32C (wN kk 16).d]:=by rw [ztr,List.map_cons,List.map_cons,List.map_cons,List.map_nil]
  have hl1':(spL kk z27 (0+1)).map u32C=u32C (wN kk 16).a::(z27.drop 1).map u32C:=by rw [zym,List.map_cons]
  generalize wN kk 16=w16 at hs0 hl2 hl1' ⊢
  obtain ⟨H2,hH2⟩:∃H2:PH,H2=H1++[w16.O4 16]:=⟨_,rfl⟩
  have hw2:∀x:PObj,(H2++[x])[H1.length]? = some ⟨268,[.int .u32 w16.a,.int .u32 w16.b,.int .u32 w16.c,.int .u32 w16.d],16⟩:=fun x=>by
   rw [zq2 (by rw [hH2];simp),hH2];exact gL H1 _
  rw [←hH2]
  refine ⟨by decide,?_⟩
  conv=>whnf
  ((conv in (_[_]?)=>tactic=>exact (hw2 _));(conv=>whnf))
  refine ⟨by decide,?_⟩
  conv=>whnf
  ((conv in (_[_]?)=>tactic=>exact (hw2 _));(conv=>whnf))
  refine ⟨by decide,?_⟩
  conv=>whnf
  ((conv in (_[_]?)=>tactic=>exact (hw2 _));(conv=>whnf))
  refine ⟨by decide,?_⟩
  conv=>whnf
  ((conv in (_[_]?)=>tactic=>exact (hw2 _));(conv=>whnf))
  refine ⟨by decide,?_⟩
  conv=>whnf
  ((conv in (_[_]?)=>tactic=>exact (gL H2 _));(conv=>whnf))
  refine lO Nat (fun i=>[(2,.ptr (some (H.length,0))),(5,.ptr (some (H2.length,0))),(6,.slice (i+3) ((spL2 kk i).map u32C) (some 230)),(7,.int .i64 i)]) (fun i=>H2++[PObj.mk 231 ((spL kk z27 (i+1)).map u32C) (i+1)]) (fun i=>i≤26) (fun i=>26 - i) ⟨0,Nat.zero_le _,⟨rfl,rfl,?_,rfl,zqv⟩,?_⟩ ?_
  ·exact zqm (fun z=>PV.slice 3 z (some 230)) hl2.symm
  ·rw [hl1'];exact sL H2 _ _
  intro i hi
  conv=>whnf
  refine ⟨fun h=>?_,fun h=>?_⟩
  ·have h:(i:Int)<26:=h
   have hlen1:(spL kk z27 (i+1)).length=27:=zts kk z27 (i+1) rfl (by omega)
   have g0:=gL H2 (PObj.mk 231 ((spL kk z27 (i+1)).map u32C) (i+1))
   obtain ⟨r0,hr0⟩:=zun (z3r kk (i+1) i (by omega) (by omega))
   conv=>whnf
   refine dO2 zxf [H2++[PObj.mk 231 ((spL kk z27 (i+1)).map u32C) (i+1)]] (by kernel_rfl) rfl ⟨trivial,zqv⟩ ?_
   conv=>whnf
   apply exA
   ·conv=>whnf
    exact ⟨rfl,rfl,rfl,zqv⟩
   conv=>whnf
   (refine dS ?_;(conv=>whnf))
   apply exA
   ·conv=>whnf
    refine ⟨⟨by show (0:Int)≤(i:Int);omega,by show (i:Int)<((27:Nat):Int);omega⟩,rfl,rfl,zqv⟩
   conv=>whnf
   apply exA
   ·conv=>whnf
    ((conv in (_[_]?)=>tactic=>exact g0);(conv=>whnf))
    ((conv in (dropN _ _)=>tactic=>exact hr0);(conv=>whnf))
    exact ⟨rfl,rfl,zqv⟩
   conv=>whnf
   iterate 2 (refine dS ?_;(conv=>whnf))
   refine ⟨.elem [u32C (spN kk i).b],⟨⟨by show (0:Int)≤(i:Int);omega,by show (i:Int)<((i+3:Nat):Int);omega⟩,[u32C (spN kk i).b],at1' (k:=(i:Int).toNat*1) (by rw [Int.toNat_natCast,Nat.mul_one,List.getElem?_map,zvm kk i i (by omega)];rfl),rfl,rfl,zqv⟩,?_⟩
   conv=>whnf
   (refine dS ?_;(conv=>whnf))
   refine ⟨_,cP (c152 _) ⟨rfl,rfl,zqv⟩,?_⟩
   conv=>whnf
   iterate 5 (refine dS ?_;(conv=>whnf))
   apply exA
   ·conv=>whnf
    refine ⟨⟨by show (i+3+1)*4≤_;omega,rfl,rfl⟩,?_⟩
    conv=>whnf
    exact ⟨rfl,rfl,zqv⟩
   conv=>whnf
   (refine dS ?_;(conv=>whnf))
   have hw1:IntKind.i64.wrap ((i:Int)+1)=((i+1:Nat):Int):=by rw [w64 (by omega) (by omega)];omega
   have hw3:IntKind.i64.wrap ((i:Int)+3)=((i+3:Nat):Int):=by rw [w64 (by omega) (by omega)];omega
   have hnx:PV.int .u32 (ibits .xor .u32 (IntKind.u32.wrap ((spN kk i).a+rot32 (spN kk i).b (-8))) (IntKind.u32.wrap (i:Int)))=u32C (spN kk (i+1)).d:=by rw [zvn];rfl
   refine dO2 zxg [H2++[PObj.mk 231 ((spL kk z27 (i+1)).map u32C) (i+1)],H2++[PObj.mk 231 ((spL kk z27 (i+1+1)).map u32C) (i+1+1)]] (by kernel_rfl) rfl trivial ?_
   conv=>whnf
   (refine dS ?_;(conv=>whnf))
   refine ⟨.int .i64 ((i+1:Nat):Int),⟨zqm (PV.int _) hw1,rfl,zqv⟩,?_⟩
   conv=>whnf
   (refine dS ?_;(conv=>whnf))
   apply exA
   ·conv=>whnf
    refine ⟨⟨by show (0:Int)≤(i:Int);omega,by show (i:Int)<((27:Nat):Int);omega⟩,rfl,rfl,zqv⟩
   conv=>whnf
   apply exA
   ·conv=>whnf
    ((conv in (_[_]?)=>tactic=>exact g0);(conv=>whnf))
    ((conv in (dropN _ _)=>tactic=>exact hr0);(conv=>whnf))
    exact ⟨rfl,rfl,zqv⟩
   conv=>whnf
   refine ⟨_,cP (c153 _) ⟨rfl,rfl,zqv⟩,?_⟩
   conv=>whnf
   iterate 2 (refine dS ?_;(conv=>whnf))
   refine ⟨.int .i64 ((i+3:Nat):Int),⟨zqm (PV.int _) hw3,rfl,zqv⟩,?_⟩
   conv=>whnf
   refine ⟨.elem [u32C (spN kk (i+1)).d],⟨⟨by show (0:Int)≤((i+3:Nat):Int);omega,by show ((i+3:Nat):Int)<((i+3+1:Nat):Int);omega⟩,[u32C (spN kk (i+1)).d],at1' (k:=((i+3:Nat):Int).toNat*1) (by
    have e:((i+3:Nat):Int).toNat*1=i+3:=by omega
    rw [e,zqi (by rw [zqq,zo7];omega),zqq,zo7,Nat.sub_self]
    exact zqm some hnx),rfl,rfl,zqv⟩,?_⟩
   conv=>whnf
   iterate 2 (refine dS ?_;(conv=>whnf))
   apply exA
   ·conv=>whnf
    refine ⟨⟨by show (0:Int)≤((i+1:Nat):Int);omega,by show ((i+1:Nat):Int)<((27:Nat):Int);omega⟩,rfl,rfl,zqv⟩
   conv=>whnf
   apply exA
   ·conv=>whnf
    ((conv in (_[_]?)=>tactic=>exact g0);(conv=>whnf))
    ((conv in (Nat.ble _ _)=>tactic=>exact (show Nat.ble (0+((i+1:Nat):Int).toNat*1+1) ((spL kk z27 (i+1)).map u32C).length=true by rw [Nat.ble_eq,zqq,hlen1];omega));(conv=>whnf))
    refine ⟨rfl,?_,zqv⟩
    refine (sL H2 _ _).trans (zqm (fun o=>H2++[o]) ?_)
    show PObj.mk 231 (zaa (0+((i+1:Nat):Int).toNat*1) [u32C (xor32 (rot32 (spN kk i).a 3) (spN kk (i+1)).d)] ((spL kk z27 (i+1)).map u32C)) (i+1+1)=_
    rw [←spN_a]
    have:=zg2 [] [] (spL kk z27 (i+1)) (i+1) (0+((i+1:Nat):Int).toNat*1) (spN kk (i+1)).a (by omega) (by simp)
    rw [List.nil_append,List.append_nil,List.nil_append,List.append_nil,ztt kk z27 (i+1) rfl (by omega)] at this
    rw [this]
   conv=>whnf
   refine ⟨i+1,by omega,⟨rfl,rfl,?_,?_,zqv⟩,rfl,by omega⟩
   ·show PV.slice (i+3+1) ((spL2 kk i).map u32C++[PV.int .u32 (ibits .xor .u32 (IntKind.u32.wrap ((spN kk i).a+rot32 (spN kk i).b (-8))) (IntKind.u32.wrap (i:Int)))]) (some 230)=PV.slice (i+1+3) ((spL2 kk (i+1)).map u32C) (some 230)
    rw [hnx,ztq,List.map_append,spN_d,List.map_cons,List.map_nil,show i+3+1=i+1+3 by omega,show i+1+2=i+3 by omega]
   ·exact zqm (PV.int _) hw1
  ·have h:¬(i:Int)<26:=h
   have e:i=26:=by omega
   subst e
   have hspl:spL kk z27 (26+1)=spW kk:=by
    unfold spL spW
    rw [List.drop_of_length_le (by show 27≤26+1;omega),List.append_nil]
   rw [hspl]
   conv=>whnf
   ((conv in (_[_]?)=>tactic=>exact (gL H2 _));(conv=>whnf))
   have hR:∀x:PObj,(H2++[x])[H.length]? = some ⟨231,z27.map u32C,0⟩:=fun x=>by
    rw [zq2 (by rw [hH2];simp;omega),hH2,zq2 (by omega)];exact hr1
   ((conv in (_[_]?)=>tactic=>exact (hR _));(conv=>whnf))
   have hW:zaa 0 (((dropN 0 ((spW kk).map u32C)).take 27).map dem) (z27.map u32C)=(spW kk).map u32C:=by
    rw [agg27 _ (ze2 kk),za3 _ _ _ (by rw [zqq,zqq,ze2];exact zqn _),List.take_zero,List.drop_of_length_le (by rw [zqq,zqq,ze2];exact zqn _),List.nil_append,List.append_nil]
   have h2:((H2++[PObj.mk 231 ((spW kk).map u32C) (26+1)]).set H.length (PObj.mk 231 (zaa 0 (((dropN 0 ((spW kk).map u32C)).take 27).map dem) (z27.map u32C)) (0+1)))[H.length]? = some (PObj.mk 231 ((spW kk).map u32C) 1):=by
    rw [gS (hR _),hW]
   generalize hh:(setH _ _ _ _)[List.length H]? = X
   rw [show X=some (PObj.mk 231 ((spW kk).map u32C) 1) from hh.symm.trans h2]
   conv=>whnf
   refine ⟨zqm PV.agg (agg27 _ (ze2 kk)),?_⟩
   refine zwq ?_ fun j hj=>?_
   ·show H.length≤((H2++[_]).set _ _).length
    rw [List.length_set,zqf,hH2,zqf];omega
   ·show ((H2++[_]).set H.length _)[j]? = _
    rw [zqj (by omega),zq2 (by rw [hH2,zqf];omega),hH2,zq2 (by omega),hH1,zq2 hj]
 | j+17,hj=>exact absurd hj (by omega)
theorem zs3 (l:List Int):oldPs (l.map u32C)=true:=by
 induction l with
 | nil=>rfl
 | cons x l ih=>simp [oldPs,oldP,u32C,ih]
theorem c125 (k:List UInt8) (hk:k.length=16):Pure prog 125 [.agg (k.map bC)] (.agg ((spW k).map u32C)) :=
 Pure.of_gc (by simp [oldR,oldP,zs3]) fun H=>c125x k hk H
set_option maxHeartbeats 2000000
def ttQ4:TT:=[(3,⟨.int .i64,1,8,[.int .i64 0]⟩),(5,⟨.int .u8,1,1,[.int .u8 0]⟩),(9,⟨.str,1,16,[.str []]⟩),(22,⟨.slice 5,1,24,[.slice 0 [] (some 5)]⟩),(24,⟨.arr 32 5,32,32,List.replicate 32 (.int .u8 0)⟩),(215,⟨.arr 16 5,16,16,List.replicate 16 (.int .u8 0)⟩),(173,⟨.int .u64,1,8,[.int .u64 0]⟩),(94,⟨.int .u64,1,8,[.int .u64 0]⟩),(230,⟨.int .u32,1,4,[.int .u32 0]⟩),(231,⟨.arr 27 230,27,108,List.replicate 27 (.int .u32 0)⟩)]
theorem zfs:ttOk prog ttQ4=true:=by kernel_rfl
def imm77:List Nat:=[2000002]
def z1l:List Nat:=[]
def z0a:List Nat:=[1]
def imm79:List Nat:=[3]
def imm78:List Nat:=[4]
def imm38:List Nat:=[4]
def z0n:List Nat:=[3]
theorem c77 (n:Int):Pure prog 77 [.int .u64 n] (ow (bigV n)):=by
 intro H
 (refine fnS (imm:=imm77) zfs func77 ?_;(conv=>whnf))
 refine lO Nat (fun k=>[(0,.int .u64 n),(3,ow ((bigV n).take k)),(4,.int .i64 (7 - (k:Int)))]) (fun _=>H) (fun k=>k≤8) (fun k=>8 - k) ⟨0,Nat.zero_le _,⟨rfl,rfl,rfl,zqv⟩,rfl⟩ ?_
 intro i hi
 match i,hi with
 | 0,_ =>
  conv=>whnf
  refine ⟨fun _=>?_,fun h=>absurd (show (0:Int)≤7 - ((0:Nat):Int) by decide) h⟩
  conv=>whnf
  refine ⟨by decide,?_⟩
  conv=>whnf
  refine ⟨⟨by show (0+1)*1≤140737488355328;decide,rfl,rfl⟩,?_⟩
  conv=>whnf
  refine ⟨1,by decide,⟨rfl,?_,rfl,zqv⟩,rfl,by decide⟩
  show PV.slice 1 (((bigV n).take 0).map bC++[.int .u8 (IntKind.u8.wrap (ishr .u64 n 56))]) (some 5)=ow ((bigV n).take 1)
  rw [zba]
  rfl
 | 1,_ =>
  conv=>whnf
  refine ⟨fun _=>?_,fun h=>absurd (show (0:Int)≤7 - ((1:Nat):Int) by decide) h⟩
  conv=>whnf
  refine ⟨by decide,?_⟩
  conv=>whnf
  refine ⟨⟨by show (1+1)*1≤140737488355328;decide,rfl,rfl⟩,?_⟩
  conv=>whnf
  refine ⟨2,by decide,⟨rfl,?_,rfl,zqv⟩,rfl,by decide⟩
  show PV.slice 2 (((bigV n).take 1).map bC++[.int .u8 (IntKind.u8.wrap (ishr .u64 n 48))]) (some 5)=ow ((bigV n).take 2)
  rw [zba]
  rfl
 | 2,_ =>
  conv=>whnf
  refine ⟨fun _=>?_,fun h=>absurd (show (0:Int)≤7 - ((2:Nat):Int) by decide) h⟩
  conv=>whnf
  refine ⟨by decide,?_⟩
  conv=>whnf
  refine ⟨⟨by show (2+1)*1≤140737488355328;decide,rfl,rfl⟩,?_⟩
  conv=>whnf
  refine ⟨3,by decide,⟨rfl,?_,rfl,zqv⟩,rfl,by decide⟩
  show PV.slice 3 (((bigV n).take 2).map bC++[.int .u8 (IntKind.u8.wrap (ishr .u64 n 40))]) (some 5)=ow ((bigV n).take 3)
  rw [zba]
  rfl
 | 3,_ =>
  conv=>whnf
  refine ⟨fun _=>?_,fun h=>absurd (show (0:Int)≤7 - ((3:Nat):Int) by decide) h⟩
  conv=>whnf
  refine ⟨by decide,?_⟩
  conv=>whnf
  refine ⟨⟨by show (3+1)*1≤140737488355328;decide,rfl,rfl⟩,?_⟩
  conv=>whnf
  refine ⟨4,by decide,⟨rfl,?_,rfl,zqv⟩,rfl,by decide⟩
  show PV.slice 4 (((bigV n).take 3).map bC++[.int .u8 (IntKind.u8.wrap (ishr .u64 n 32))]) (some 5)=ow ((bigV n).take 4)
  rw [zba]
  rfl
 | 4,_ =>
  conv=>whnf
  refine ⟨fun _=>?_,fun h=>absurd (show (0:Int)≤7 - ((4:Nat):Int) by decide) h⟩
  conv=>whnf
  refine ⟨by decide,?_⟩
  conv=>whnf
  refine ⟨⟨by show (4+1)*1≤140737488355328;decide,rfl,rfl⟩,?_⟩
  conv=>whnf
  refine ⟨5,by decide,⟨rfl,?_,rfl,zqv⟩,rfl,by decide⟩
  show PV.slice 5 (((bigV n).take 4).map bC++[.int .u8 (IntKind.u8.wrap (ishr .u64 n 24))]) (some 5)=ow ((bigV n).take 5)
  rw [zba]
  rfl
 | 5,_ =>
  conv=>whnf
  refine ⟨fun _=>?_,fun h=>absurd (show (0:Int)≤7 - ((5:Nat):Int) by decide) h⟩
  conv=>whnf
  refine ⟨by decide,?_⟩
  conv=>whnf
  refine ⟨⟨by show (5+1)*1≤140737488355328;decide,rfl,rfl⟩,?_⟩
  conv=>whnf
  refine ⟨6,by decide,⟨rfl,?_,rfl,zqv⟩,rfl,by decide⟩
  show PV.slice 6 (((bigV n).take 5).map bC++[.int .u8 (IntKind.u8.wrap (ishr .u64 n 16))]) (some 5)=ow ((bigV n).take 6)
  rw [zba]
  rfl
 | 6,_ =>
  conv=>whnf
  refine ⟨fun _=>?_,fun h=>absurd (show (0:Int)≤7 - ((6:Nat):Int) by decide) h⟩
  conv=>whnf
  refine ⟨by decide,?_⟩
  conv=>whnf
  refine ⟨⟨by show (6+1)*1≤140737488355328;decide,rfl,rfl⟩,?_⟩
  conv=>whnf
  refine ⟨7,by decide,⟨rfl,?_,rfl,zqv⟩,rfl,by decide⟩
  show PV.slice 7 (((bigV n).take 6).map bC++[.int .u8 (IntKind.u8.wrap (ishr .u64 n 8))]) (some 5)=ow ((bigV n).take 7)
  rw [zba]
  rfl
 | 7,_ =>
  conv=>whnf
  refine ⟨fun _=>?_,fun h=>absurd (show (0:Int)≤7 - ((7:Nat):Int) by decide) h⟩
  conv=>whnf
  refine ⟨by decide,?_⟩
  conv=>whnf
  refine ⟨⟨by show (7+1)*1≤140737488355328;decide,rfl,rfl⟩,?_⟩
  conv=>whnf
  refine ⟨8,by decide,⟨rfl,?_,rfl,zqv⟩,rfl,by decide⟩
  show PV.slice 8 (((bigV n).take 7).map bC++[.int .u8 (IntKind.u8.wrap (ishr .u64 n 0))]) (some 5)=ow ((bigV n).take 8)
  rw [zba]
  rfl
 | 8,_ =>
  conv=>whnf
  refine ⟨fun h=>absurd h (by decide),fun _=>?_⟩
  conv=>whnf
  exact ⟨rfl,rfl⟩
theorem zua (l:List UInt8) (c:UInt8) (h:l.length<8):ibits .or .u64 (ishl .u64 (beN l:Nat) 8) (IntKind.u64.wrap c.toNat)=((beN (l++[c]):Nat):Int):=by
 have hc:=c.toNat_lt
 have h1:=zwm l rfl
 rw [pow8] at h1
 have h3:2 ^ (8*(l.length+1))≤18446744073709551616:=zkp (by omega)
 have h4:2 ^ (8*(l.length+1))=256*2 ^ (8*l.length):=by rw [Nat.mul_add,Nat.pow_add];omega
 have h5:beN l*256<18446744073709551616:=by omega
 have e:ishl .u64 (beN l:Nat) 8=((beN l*256:Nat):Int):=by
  show IntKind.u64.wrap ((beN l:Int)*2 ^ (min (8:Int).toNat 64))=_
  have:((beN l:Int)*2 ^ (min (8:Int).toNat 64))=((beN l*256:Nat):Int):=by push_cast;rfl
  rw [this]
  exact zda h5
 rw [e,zda (by omega),zs9 h5 (by omega),zju,show beN l*256=2 ^ 8*beN l by omega,←Nat.two_pow_add_eq_or_of_lt (by omega:c.toNat<2 ^ 8)]
theorem c186 (b:List UInt8) (hb:8≤b.length):Pure prog 186 [sl b] (.int .u64 (beN (b.take 8))):=by
 intro H
 (refine fnS (imm:=z1l) zfs func186 ?_;(conv=>whnf))
 refine lO Nat (fun i=>[(0,sl b),(3,.int .u64 (beN (b.take i))),(4,.int .i64 i)]) (fun _=>H) (fun i=>i≤8) (fun i=>8 - i) ⟨0,Nat.zero_le _,⟨rfl,rfl,rfl,zqv⟩,rfl⟩ ?_
 intro i hi
 conv=>whnf
 refine ⟨fun h=>?_,fun h=>?_⟩
 ·have h:(i:Int)<8:=h
  have hi':i<b.length:=by omega
  conv=>whnf
  refine ⟨by decide,?_⟩
  conv=>whnf
  refine ⟨⟨by omega,by show (i:Int)<(b.length:Int);omega⟩,[bC b[i]],at1' (k:=(i:Int).toNat*1) (by rw [Int.toNat_natCast,Nat.mul_one,List.getElem?_map,zqc hi'];rfl),?_⟩
  conv=>whnf
  refine ⟨i+1,by omega,⟨rfl,?_,?_,zqv⟩,rfl,by omega⟩
  ·show PV.int _ (ibits .or .u64 (ishl .u64 (beN (b.take i):Nat) 8) (IntKind.u64.wrap (b[i].toNat:Int)))=PV.int _ _
   have hl:(b.take i).length=i:=by rw [zqr];omega
   rw [List.take_succ_eq_append_getElem hi',zua (b.take i) b[i] (by omega)]
  ·show PV.int _ (IntKind.i64.wrap ((i:Int)+1))=PV.int _ _
   rw [w64 (by omega) (by omega)];simp
 ·have h:¬(i:Int)<8:=h
  have e:i=8:=by omega
  subst e
  conv=>whnf
  exact ⟨rfl,rfl⟩
def cur16 (l:List UInt8) (i:Nat):List UInt8:=l.take i++List.replicate (16 - i) 0
theorem zlb (l:List UInt8) (i:Nat) (hl:16≤l.length) (hi:i≤16):(cur16 l i).length=16:=by
 unfold cur16
 rw [zqf,zqr,List.length_replicate];omega
theorem zlc (l:List UInt8) (i:Nat) (hl:16≤l.length) (hi:i<16):(cur16 l i).set i (l[i]'(by omega))=cur16 l (i+1):=by
 unfold cur16
 rw [List.set_append_right _ _ (by rw [zqr];omega),zqr,Nat.min_eq_left (by omega),Nat.sub_self,show 16 - i=(16 - (i+1))+1 by omega,List.replicate_succ,List.set_cons_zero,List.take_succ_eq_append_getElem (by omega),List.append_assoc]
 rfl
theorem get2a (H:PH) (a b:PObj):(H++[a,b])[H.length]? = some a:=by simp
theorem get2b (H:PH) (a b:PObj):(H++[a,b])[H.length+1]? = some b:=by simp
theorem set2a (H:PH) (a b o:PObj):(H++[a,b]).set H.length o=H++[o,b]:=by simp
theorem set2b (H:PH) (a b o:PObj):(H++[a,b]).set (H.length+1) o=H++[a,o]:=by
 rw [List.set_append_right _ _ (by omega),show H.length+1 - H.length=1 by omega];rfl
def B16 (l:List UInt8) (v:Nat):PObj:=⟨215,l.map bC,v⟩
def zyu:Draw:={ imp:=[10,12],win:=[(1,0,1),(5,0,1),(6,0,1),(7,0,1),(8,0,1),(11,1,1),(12,1,1)] }
def zyv:Draw:={ imp:=[2,3],win:=[(1,0,1),(3,1,1)] }
theorem zgd (cs:List UInt8) (i:Nat) (x:UInt8) (h:i<cs.length):zaa i [bC x] (cs.map bC)=(cs.set i x).map bC:=by
 have:=zdl cs [] i x h
 rw [List.append_nil,List.append_nil] at this
 exact this
theorem agg16 (l:List UInt8) (hl:l.length=16):((dropN 0 (l.map bC)).take 16).map dem=l.map bC:=by
 rw [za2,List.drop_zero,List.take_of_length_le (by rw [zqq];omega),List.map_map]
 rfl
theorem set16 (l:List UInt8) (hl:l.length=16):zaa 0 (l.map bC) ((List.replicate 16 (0:UInt8)).map bC)=l.map bC:=by
 rw [za3 _ _ _ (by rw [zqq,hl];exact zqn _),List.take_zero,List.drop_of_length_le (by simp [hl]),List.nil_append,List.append_nil]
theorem zdf (l:List UInt8):oldPs (l.map bC)=true:=by
 induction l with
 | nil=>rfl
 | cons x l ih=>simp [oldPs,oldP,bC,ih]
theorem c123x (k:List UInt8) (hk:k.length=32) (H:PH):CK prog 123 [.agg (k.map bC)] H fun r H'=>r=.tup [.agg ((k.take 16).map bC),.agg ((k.drop 16).map bC)]∧∃ext,H'=H++ext:=by
 (refine fnS (imm:=z0a) zfs func123 ?_;(conv=>whnf))
 obtain ⟨H3,hH3⟩:∃H3:PH,H3=H++[B16 (List.replicate 16 0) 0,B16 (List.replicate 16 0) 0]:=⟨_,rfl⟩
 have hd16:16≤(k.drop 16).length:=by rw [List.length_drop];omega
 refine lO Nat (fun i=>[(1,.elem (k.map bC)),(2,.ptr (some (H.length,0))),(3,.ptr (some (H.length+1,0))),(4,.ptr (some (H3.length,0))),(5,.ptr (some (H3.length+1,0))),(6,.int .i64 i)]) (fun i=>H3++[B16 (cur16 k i) i,B16 (cur16 (k.drop 16) i) i]) (fun i=>i≤16) (fun i=>16 - i) ⟨0,Nat.zero_le _,⟨rfl,rfl,?_,?_,?_,rfl,zqv⟩,?_⟩ ?_
 ·show PV.ptr (some ((H++[_]).length,0))=_
  simp
 ·show PV.ptr (some ((H++[_]++[_]).length,0))=_
  simp [hH3]
 ·show PV.ptr (some ((H++[_]++[_]++[_]).length,0))=_
  simp [hH3]
 ·subst hH3
  show H++[_]++[_]++[_]++[_]=_
  simp only [List.append_assoc,List.cons_append,List.nil_append]
  rfl
 intro i hi
 conv=>whnf
 refine ⟨fun h=>?_,fun h=>?_⟩
 ·have h:(i:Int)<16:=h
  have hia:i<k.length:=by omega
  have hib:i<(k.drop 16).length:=by omega
  have hib2:16+i<k.length:=by omega
  have hw:IntKind.i64.wrap (16+(i:Int))=((16+i:Nat):Int):=by rw [w64 (by omega) (by omega)];omega
  have hgb:(k.drop 16)[i]=k[16+i]:=by rw [List.getElem_drop]
  have lA:=zlb k i (by omega) (by omega)
  have lB:=zlb (k.drop 16) i hd16 (by omega)
  conv=>whnf
  refine dO2 zyu [H3++[B16 (cur16 k i) i,B16 (cur16 (k.drop 16) i) i],H3++[B16 (cur16 k (i+1)) (i+1),B16 (cur16 (k.drop 16) i) i],H3++[B16 (cur16 k (i+1)) (i+1),B16 (cur16 (k.drop 16) (i+1)) (i+1)]] (by kernel_rfl) rfl trivial ?_
  conv=>whnf
  (refine dS ?_;(conv=>whnf))
  (refine dS2 ?_;(conv=>whnf))
  (refine dS ?_;(conv=>whnf))
  refine ⟨.elem [bC k[i]],⟨⟨by show (0:Int)≤(i:Int);omega,by show (i:Int)<((32:Nat):Int);omega⟩,[bC k[i]],at1' (k:=(i:Int).toNat*1) (by rw [Int.toNat_natCast,Nat.mul_one,List.getElem?_map,zqc hia];rfl),rfl,rfl,zqv⟩,?_⟩
  conv=>whnf
  (refine dS ?_;(conv=>whnf))
  (refine dS2 ?_;(conv=>whnf))
  refine ⟨.int .i64 ((16+i:Nat):Int),⟨⟨zqm (PV.int _) hw,rfl,zqv⟩,⟨zqm (PV.int _) hw,rfl,zqv⟩⟩,?_⟩
  conv=>whnf
  refine ⟨.elem [bC k[16+i]],?_,?_⟩
  ·conv=>whnf
   have hq:∀(j:Nat) (c:PV),[bC k[16+i]][j]? = some c→(k.map bC)[((16+i:Nat):Int).toNat*1+j]? = some c:=at1' (by rw [Int.toNat_natCast,Nat.mul_one,List.getElem?_map,zqc hib2];rfl)
   exact ⟨⟨⟨by omega,by show ((16+i:Nat):Int)<((32:Nat):Int);omega⟩,_,hq,rfl,rfl,zqv⟩,⟨⟨by omega,by show ((16+i:Nat):Int)<((32:Nat):Int);omega⟩,_,hq,rfl,rfl,zqv⟩⟩
  conv=>whnf
  (refine dS2 ?_;(conv=>whnf))
  apply exA
  ·conv=>whnf
   refine ⟨⟨by show (0:Int)≤(i:Int);omega,by show (i:Int)<((16:Nat):Int);omega⟩,rfl,rfl,zqv⟩
  conv=>whnf
  apply exA
  ·conv=>whnf
   ((conv in (_[_]?)=>tactic=>exact (get2a H3 _ _));(conv=>whnf))
   ((conv in (Nat.ble _ _)=>tactic=>exact (show Nat.ble (0+(i:Int).toNat*1+1) ((cur16 k i).map bC).length=true by rw [Nat.ble_eq,zqq,lA];omega));(conv=>whnf))
   refine ⟨rfl,?_,zqv⟩
   refine (set2a H3 _ _ _).trans (zqm (fun o=>H3++[o,_]) ?_)
   show PObj.mk 215 (zaa (0+(i:Int).toNat*1) [bC k[i]] ((cur16 k i).map bC)) (i+1)=_
   rw [show 0+(i:Int).toNat*1=i by omega,zgd _ _ _ (by omega),zlc k i (by omega) (by omega)];rfl
  conv=>whnf
  apply exA
  ·conv=>whnf
   refine ⟨⟨by show (0:Int)≤(i:Int);omega,by show (i:Int)<((16:Nat):Int);omega⟩,rfl,rfl,zqv⟩
  conv=>whnf
  apply exA
  ·conv=>whnf
   ((conv in (_[_]?)=>tactic=>exact (get2b H3 _ _));(conv=>whnf))
   ((conv in (Nat.ble _ _)=>tactic=>exact (show Nat.ble (0+(i:Int).toNat*1+1) ((cur16 (k.drop 16) i).map bC).length=true by rw [Nat.ble_eq,zqq,lB];omega));(conv=>whnf))
   refine ⟨rfl,?_,zqv⟩
   refine (set2b H3 _ _ _).trans (zqm (fun o=>H3++[_,o]) ?_)
   show PObj.mk 215 (zaa (0+(i:Int).toNat*1) [bC k[16+i]] ((cur16 (k.drop 16) i).map bC)) (i+1)=_
   rw [show 0+(i:Int).toNat*1=i by omega,zgd _ _ _ (by omega),←hgb,zlc (k.drop 16) i hd16 (by omega)];rfl
  conv=>whnf
  refine ⟨i+1,by omega,⟨rfl,rfl,rfl,rfl,rfl,?_,zqv⟩,rfl,by omega⟩
  show PV.int _ (IntKind.i64.wrap ((i:Int)+1))=PV.int _ _
  rw [w64 (by omega) (by omega)];simp
 ·have h:¬(i:Int)<16:=h
  have e:i=16:=by omega
  subst e
  have e1:cur16 k 16=k.take 16:=by unfold cur16;exact List.append_nil _
  have e2:cur16 (k.drop 16) 16=k.drop 16:=by
   unfold cur16
   rw [List.take_of_length_le (by rw [List.length_drop];omega)];exact List.append_nil _
  rw [e1,e2]
  have h1:(k.take 16).length=16:=by rw [zqr];omega
  have h2:(k.drop 16).length=16:=by rw [List.length_drop];omega
  have g1:(H3++[B16 (k.take 16) 16,B16 (k.drop 16) 16])[H.length]? = some (B16 (List.replicate 16 0) 0):=by
   rw [zq2 (by rw [hH3];simp),hH3];exact get2a H _ _
  have g2:(H3++[B16 (k.take 16) 16,B16 (k.drop 16) 16])[H.length+1]? = some (B16 (List.replicate 16 0) 0):=by
   rw [zq2 (by rw [hH3];simp),hH3];exact get2b H _ _
  have g3:(H3++[B16 (k.take 16) 16,B16 (k.drop 16) 16])[H3.length]? = some (B16 (k.take 16) 16):=get2a H3 _ _
  have g4:(H3++[B16 (k.take 16) 16,B16 (k.drop 16) 16])[H3.length+1]? = some (B16 (k.drop 16) 16):=get2b H3 _ _
  have b1:Nat.ble 16 (dropN 0 ((k.take 16).map bC)).length=true:=by rw [Nat.ble_eq,za2,List.drop_zero,zqq,h1];exact zqn _
  have b2:Nat.ble 16 (dropN 0 ((k.drop 16).map bC)).length=true:=by rw [Nat.ble_eq,za2,List.drop_zero,zqq,h2];exact zqn _
  have q1:Nat.beq ((k.take 16).map bC).length 16=true:=by rw [zqq,h1];rfl
  have q2:Nat.beq ((k.drop 16).map bC).length 16=true:=by rw [zqq,h2];rfl
  have hlen3:H3.length=H.length+2:=by rw [hH3];simp
  have hXl:(H3++[B16 (k.take 16) 16,B16 (k.drop 16) 16]).length=H3.length+2:=by simp
  have hfr:∀j,j<H.length→(H3++[B16 (k.take 16) 16,B16 (k.drop 16) 16])[j]? = H[j]?:=fun j hj=>by
   rw [zq2 (by omega),hH3,zq2 hj]
  generalize H3++[B16 (k.take 16) 16,B16 (k.drop 16) 16]=X at g1 g2 g3 g4 hXl hfr ⊢
  have g4':(X.set H.length (B16 (k.take 16) 1))[H3.length+1]? = some (B16 (k.drop 16) 16):=by rw [zqj (by omega)];exact g4
  have g2':(X.set H.length (B16 (k.take 16) 1))[H.length+1]? = some (B16 (List.replicate 16 0) 0):=by rw [zqj (by omega)];exact g2
  conv=>whnf
  refine dO2 zyv [X,X.set H.length (B16 (k.take 16) 1),(X.set H.length (B16 (k.take 16) 1)).set (H.length+1) (B16 (k.drop 16) 1)] (by kernel_rfl) rfl trivial ?_
  conv=>whnf
  refine ⟨.agg ((k.take 16).map bC),?_,?_⟩
  ·conv=>whnf
   ((conv in (_[_]?)=>tactic=>exact g3);(conv=>whnf))
   ((conv in (Nat.ble _ _)=>tactic=>exact b1);(conv=>whnf))
   exact ⟨zqm PV.agg (agg16 _ h1),rfl,zqv⟩
  conv=>whnf
  refine ⟨.agg ((k.drop 16).map bC),?_,?_⟩
  ·conv=>whnf
   refine ⟨?_,?_⟩
   ·conv=>whnf
    ((conv in (_[_]?)=>tactic=>exact g4);(conv=>whnf))
    ((conv in (Nat.ble _ _)=>tactic=>exact b2);(conv=>whnf))
    exact ⟨zqm PV.agg (agg16 _ h2),rfl,zqv⟩
   ·conv=>whnf
    ((conv in (_[_]?)=>tactic=>exact g4');(conv=>whnf))
    ((conv in (Nat.ble _ _)=>tactic=>exact b2);(conv=>whnf))
    exact ⟨zqm PV.agg (agg16 _ h2),rfl,zqv⟩
  conv=>whnf
  apply exA
  ·conv=>whnf
   ((conv in (_[_]?)=>tactic=>exact g1);(conv=>whnf))
   (conv in (Nat.beq _ _)=>tactic=>exact q1)
   conv=>whnf
   (conv in (List.all _ _)=>tactic=>exact zbr (k.take 16))
   conv=>whnf
   refine ⟨rfl,?_,zqv⟩
   show X.set H.length (PObj.mk 215 (zaa 0 ((k.take 16).map bC) ((List.replicate 16 (0:UInt8)).map bC)) (0+1))=_
   rw [set16 _ h1];rfl
  conv=>whnf
  apply exA
  ·conv=>whnf
   ((conv in (_[_]?)=>tactic=>exact g2');(conv=>whnf))
   (conv in (Nat.beq _ _)=>tactic=>exact q2)
   conv=>whnf
   (conv in (List.all _ _)=>tactic=>exact zbr (k.drop 16))
   conv=>whnf
   refine ⟨rfl,?_,zqv⟩
   show (X.set H.length _).set (H.length+1) (PObj.mk 215 (zaa 0 ((k.drop 16).map bC) ((List.replicate 16 (0:UInt8)).map bC)) (0+1))=_
   rw [set16 _ h2];rfl
  conv=>whnf
  have r1:((X.set H.length (B16 (k.take 16) 1)).set (H.length+1) (B16 (k.drop 16) 1))[H.length]? = some (B16 (k.take 16) 1):=by
   rw [zqj (by omega)];exact gS g1
  have r2:((X.set H.length (B16 (k.take 16) 1)).set (H.length+1) (B16 (k.drop 16) 1))[H.length+1]? = some (B16 (k.drop 16) 1):=gS g2'
  ((conv in (_[_]?)=>tactic=>exact r1);(conv=>whnf))
  ((conv in (Nat.ble _ _)=>tactic=>exact b1);(conv=>whnf))
  ((conv in (_[_]?)=>tactic=>exact r2);(conv=>whnf))
  ((conv in (Nat.ble _ _)=>tactic=>exact b2);(conv=>whnf))
  refine ⟨?_,?_⟩
  ·show PV.tup [.agg (((dropN 0 ((k.take 16).map bC)).take 16).map dem),.agg (((dropN 0 ((k.drop 16).map bC)).take 16).map dem)]=_
   rw [agg16 _ h1,agg16 _ h2]
  ·refine zwq (by show H.length≤((X.set _ _).set _ _).length;rw [List.length_set,List.length_set];omega) fun j hj=>?_
   show ((X.set H.length _).set (H.length+1) _)[j]? = _
   rw [zqj (by omega),zqj (by omega)]
   exact hfr j hj
theorem c123 (k:List UInt8) (hk:k.length=32):Pure prog 123 [.agg (k.map bC)] (.tup [.agg ((k.take 16).map bC),.agg ((k.drop 16).map bC)]) :=
 Pure.of_gc (by show (oldPs ((k.take 16).map bC)&&(oldPs ((k.drop 16).map bC)&&true))=true;rw [zdf,zdf];rfl) fun H=>c123x k hk H
theorem agg32 (l:List UInt8) (hl:l.length=32):((dropN 0 (l.map bC)).take 32).map dem=l.map bC:=by
 rw [za2,List.drop_zero,List.take_of_length_le (by rw [zqq];omega),List.map_map]
 rfl
theorem gA (H:PH) (a b:PObj):(H++[a]++[b])[H.length]? = some a:=by simp
theorem gB (H:PH) (a b c:PObj):((H++[a]++[b]).set H.length c)[(H++[a]).length]? = some b:=by
 rw [zqj (by simp)];exact gL _ b
def D79:Draw:={ cons:=[(5,[17])] }
theorem c79x (k:List UInt8) (hk:k.length=32) (u:Int) (b:List UInt8) (hb:b.length≤900000) (H:PH):CK prog 79 [.agg (k.map bC),.int .i64 u,sl b] H fun r H'=>r=sl (tagV (k.drop 16) u b)∧∃ext,H'=H++ext:=by
 have h1:(k.take 16).length=16:=by rw [zqr];omega
 have h2:(k.drop 16).length=16:=by rw [List.length_drop];omega
 have q1:Nat.beq ((k.take 16).map bC).length 16=true:=by rw [zqq,h1];rfl
 have q2:Nat.beq ((k.drop 16).map bC).length 16=true:=by rw [zqq,h2];rfl
 have b2:Nat.ble 16 (dropN 0 ((k.drop 16).map bC)).length=true:=by rw [Nat.ble_eq,za2,List.drop_zero,zqq,h2];exact zqn _
 have b32:Nat.ble 32 (dropN 0 (k.map bC)).length=true:=by rw [Nat.ble_eq,za2,List.drop_zero,zqq,hk];exact zqn _
 have hs:=set16 (k.drop 16) h2
 have b2':Nat.ble 16 (dropN 0 (zaa 0 ((k.drop 16).map bC) ((List.replicate 16 (0:UInt8)).map bC))).length=true:=by rw [hs];exact b2
 have e2:((dropN 0 (zaa 0 ((k.drop 16).map bC) ((List.replicate 16 (0:UInt8)).map bC))).take 16).map dem=(k.drop 16).map bC:=by rw [hs];exact agg16 _ h2
 (refine fnS (imm:=imm79) zfs func79 ?_;(conv=>whnf))
 ((conv in (Nat.ble _ _)=>tactic=>exact b32);(conv=>whnf))
 refine cA (zqm (fun z=>[PV.agg z]) (agg32 k hk)) (cP (c123 k hk) ?_)
 conv=>whnf
 ((conv in (_[_]?)=>tactic=>exact (gA H _ _));(conv=>whnf))
 (conv in (Nat.beq _ _)=>tactic=>exact q1)
 conv=>whnf
 (conv in (List.all _ _)=>tactic=>exact zbr (k.take 16))
 conv=>whnf
 ((conv in (_[_]?)=>tactic=>exact (gB H _ _ _));(conv=>whnf))
 (conv in (Nat.beq _ _)=>tactic=>exact q2)
 conv=>whnf
 (conv in (List.all _ _)=>tactic=>exact zbr (k.drop 16))
 conv=>whnf
 refine dO2 D79 [_] (by kernel_rfl) rfl trivial ?_
 conv=>whnf
 refine ⟨.agg ((k.drop 16).map bC),?_,?_⟩
 ·conv=>whnf
  ((conv in (_[_]?)=>tactic=>exact (gS (gB H _ _ _)));(conv=>whnf))
  ((conv in (Nat.ble _ _)=>tactic=>exact b2');(conv=>whnf))
  exact ⟨zqm PV.agg e2,rfl,zqv⟩
 conv=>whnf
 iterate 4 (refine dS ?_;(conv=>whnf))
 apply exA
 ·conv=>whnf
  refine ⟨⟨by show (1+b.length)*1≤140737488355328;omega,by rw [zqq,Nat.mul_one],zbr b⟩,?_⟩
  conv=>whnf
  exact ⟨rfl,rfl,zqv⟩
 conv=>whnf
 have ea:PV.slice (1+b.length) ([PV.int .u8 (IntKind.u8.wrap u)]++b.map bC) none=sl (byteI u::b):=by
  rw [zba,Nat.add_comm];rfl
 refine ⟨_,cA (zqm (fun z=>[PV.agg ((k.drop 16).map bC),z]) ea) (cP (c126 (k.drop 16) h2 (byteI u::b) (by show b.length+1≤_;omega)) ⟨rfl,rfl,zqv⟩),?_⟩
 conv=>whnf
 refine ⟨_,cP (c77 _) ⟨rfl,rfl,zqv⟩,?_⟩
 conv=>whnf
 (refine dS ?_;(conv=>whnf))
 exact ⟨rfl,(((Ext.refl H).push _).push _).set (zqn _) _ |>.set (by simp) _⟩
theorem c79 (k:List UInt8) (hk:k.length=32) (u:Int) (b:List UInt8) (hb:b.length≤900000):Pure prog 79 [.agg (k.map bC),.int .i64 u,sl b] (sl (tagV (k.drop 16) u b)) :=
 Pure.of_gc (by show oldPs _=true;exact zdf _) fun H=>c79x k hk u b hb H
def D78_7:Draw:={ cons:=[(11,[12]),(12,[46])],fs:=[(0,11,.slot 12)],looks:=[(0,12)] }
theorem zt6 (p st:List UInt8) (i:Nat) (h:st.length=p.length) (hi:i<p.length):(xorL p st).take (i+1)=(xorL p st).take i++[p[i] ^^^ st[i]]:=by
 have hx:i<(xorL p st).length:=by rw [zbp p st h];exact hi
 rw [List.take_succ_eq_append_getElem hx]
 have:∀(a b:List UInt8) (h:i<(List.zipWith (· ^^^ ·) a b).length) (ha:i<a.length) (hb:i<b.length),(List.zipWith (· ^^^ ·) a b)[i]=a[i] ^^^ b[i]:=fun a b h ha hb=>by simp
 rw [show (xorL p st)[i]=p[i] ^^^ st[i] from this p st hx hi (by omega)]
theorem gC (H:PH) (a b c d:PObj):(((H++[a]++[b]).set H.length c).set (H++[a]).length d)[H.length]? = some c:=by
 rw [zqj (by simp),List.getElem?_set_self (by simp)]
theorem c78x (k:List UInt8) (hk:k.length=32) (u nn:Int) (p:List UInt8) (hp:p.length≤900000) (H:PH):CK prog 78 [.agg (k.map bC),.int .i64 u,.int .u64 nn,sl p] H fun r H'=>r=sl (xorL p (zbe (k.take 16) (mixN nn u) p.length))∧∃ext,H'=H++ext:=by
 have h1:(k.take 16).length=16:=by rw [zqr];omega
 have h2:(k.drop 16).length=16:=by rw [List.length_drop];omega
 have q1:Nat.beq ((k.take 16).map bC).length 16=true:=by rw [zqq,h1];rfl
 have q2:Nat.beq ((k.drop 16).map bC).length 16=true:=by rw [zqq,h2];rfl
 have b1:Nat.ble 16 (dropN 0 ((k.take 16).map bC)).length=true:=by rw [Nat.ble_eq,za2,List.drop_zero,zqq,h1];exact zqn _
 have b32:Nat.ble 32 (dropN 0 (k.map bC)).length=true:=by rw [Nat.ble_eq,za2,List.drop_zero,zqq,hk];exact zqn _
 have hs:=set16 (k.take 16) h1
 have b1':Nat.ble 16 (dropN 0 (zaa 0 ((k.take 16).map bC) ((List.replicate 16 (0:UInt8)).map bC))).length=true:=by rw [hs];exact b1
 have e1:((dropN 0 (zaa 0 ((k.take 16).map bC) ((List.replicate 16 (0:UInt8)).map bC))).take 16).map dem=(k.take 16).map bC:=by rw [hs];exact agg16 _ h1
 (refine fnS (imm:=imm78) zfs func78 ?_;(conv=>whnf))
 ((conv in (Nat.ble _ _)=>tactic=>exact b32);(conv=>whnf))
 refine cA (zqm (fun z=>[PV.agg z]) (agg32 k hk)) (cP (c123 k hk) ?_)
 conv=>whnf
 ((conv in (_[_]?)=>tactic=>exact (gA H _ _));(conv=>whnf))
 (conv in (Nat.beq _ _)=>tactic=>exact q1)
 conv=>whnf
 (conv in (List.all _ _)=>tactic=>exact zbr (k.take 16))
 conv=>whnf
 ((conv in (_[_]?)=>tactic=>exact (gB H _ _ _));(conv=>whnf))
 (conv in (Nat.beq _ _)=>tactic=>exact q2)
 conv=>whnf
 (conv in (List.all _ _)=>tactic=>exact zbr (k.drop 16))
 conv=>whnf
 ((conv in (_[_]?)=>tactic=>exact (gC H _ _ _ _));(conv=>whnf))
 ((conv in (Nat.ble _ _)=>tactic=>exact b1');(conv=>whnf))
 refine cA (zqm (fun z=>[PV.agg z]) e1) (cP (c125 (k.take 16) h1) ?_)
 conv=>whnf
 refine cA rfl (cP (c124 (k.take 16) (mixN nn u) p.length (by omega)) ?_)
 conv=>whnf
 generalize hst:zbe (k.take 16) (mixN nn u) p.length=st
 have hl:st.length=p.length:=by rw [←hst,zb4]
 refine lO Nat (fun i=>[(3,sl p),(11,sl st),(12,ow ((xorL p st).take i)),(13,.int .i64 i)]) (fun _=>_) (fun i=>i≤p.length) (fun i=>p.length - i) ⟨0,Nat.zero_le _,⟨rfl,rfl,rfl,rfl,zqv⟩,rfl⟩ ?_
 intro i hi
 conv=>whnf
 refine ⟨fun h=>?_,fun h=>?_⟩
 ·have h:(i:Int)<p.length:=h
  have hip:i<p.length:=by omega
  have his:i<st.length:=by omega
  conv=>whnf
  refine dO2 D78_7 [_] (by kernel_rfl) rfl ⟨trivial,zqv⟩ ?_
  conv=>whnf
  apply exA
  ·conv=>whnf
   exact ⟨rfl,rfl,rfl,zqv⟩
  conv=>whnf
  iterate 2 (refine dS ?_;(conv=>whnf))
  refine ⟨.elem [bC p[i]],⟨⟨by show (0:Int)≤(i:Int);omega,h⟩,[bC p[i]],at1' (k:=(i:Int).toNat*1) (by rw [Int.toNat_natCast,Nat.mul_one,List.getElem?_map,zqc hip];rfl),rfl,rfl,zqv⟩,?_⟩
  conv=>whnf
  iterate 3 (refine dS ?_;(conv=>whnf))
  refine ⟨.elem [bC st[i]],⟨⟨by show (0:Int)≤(i:Int);omega,by show (i:Int)<(st.length:Int);omega⟩,[bC st[i]],at1' (k:=(i:Int).toNat*1) (by rw [Int.toNat_natCast,Nat.mul_one,List.getElem?_map,zqc his];rfl),rfl,rfl,zqv⟩,?_⟩
  conv=>whnf
  iterate 3 (refine dS ?_;(conv=>whnf))
  have hlt:((xorL p st).take i).length=i:=by rw [zqr,zbp p st hl];omega
  apply exA
  ·conv=>whnf
   refine ⟨⟨by show (((xorL p st).take i).length+1)*1≤140737488355328;omega,rfl,rfl⟩,?_⟩
   conv=>whnf
   exact ⟨rfl,rfl,zqv⟩
  conv=>whnf
  (refine dS ?_;(conv=>whnf))
  refine ⟨i+1,by omega,⟨rfl,rfl,?_,?_,zqv⟩,rfl,by omega⟩
  ·show PV.slice (((xorL p st).take i).length+1) (((xorL p st).take i).map bC++[.int .u8 (ibits .xor .u8 (p[i].toNat:Int) (st[i].toNat:Int))]) (some 5)=ow ((xorL p st).take (i+1))
   rw [xor8,zt6 p st i hl hip,←ztb]
   rfl
  ·show PV.int _ (IntKind.i64.wrap ((i:Int)+1))=PV.int _ _
   rw [w64 (by omega) (by omega)];simp
 ·have h:¬(i:Int)<p.length:=h
  have e:(xorL p st).take i=xorL p st:=List.take_of_length_le (by rw [zbp p st hl];omega)
  rw [e]
  conv=>whnf
  exact ⟨rfl,((((Ext.refl H).push _).push _).set (zqn _) _).set (by simp) _⟩
theorem c78 (k:List UInt8) (hk:k.length=32) (u nn:Int) (p:List UInt8) (hp:p.length≤900000):Pure prog 78 [.agg (k.map bC),.int .i64 u,.int .u64 nn,sl p] (sl (xorL p (zbe (k.take 16) (mixN nn u) p.length))) :=
 Pure.of_gc (by show oldPs _=true;exact zdf _) fun H=>c78x k hk u nn p hp H
def D38:Draw:={ cons:=[(9,[32]),(10,[39])] }
theorem c38 (k:List UInt8) (hk:k.length=32) (u n:Int) (hu:zde u=true) (hn0:0≤n) (hn1:n≤1099511627776) (p:List UInt8) (hp:p.length≤784) :
  Pure prog 38 [.agg (k.map bC),.int .i64 u,.int .i64 n,sl p] (.tup [ow (sealV (k.drop 16) u (IntKind.u64.wrap n) p (zbe (k.take 16) (mixN (IntKind.u64.wrap n) u) p.length)),.int .i64 0]):=by
 intro H
 have hu':0≤u∧u≤255:=by
  unfold zde at hu
  rw [zqb] at hu
  exact ⟨of_decide_eq_true hu.1,of_decide_eq_true hu.2⟩
 have b32:Nat.ble 32 (dropN 0 (k.map bC)).length=true:=by rw [Nat.ble_eq,za2,List.drop_zero,zqq,hk];exact zqn _
 (refine fnS (imm:=imm38) zfs func38 ?_;(conv=>whnf))
 refine ⟨fun h=>absurd h (by omega),fun _=>?_⟩
 conv=>whnf
 refine ⟨fun h=>absurd h (by omega),fun _=>?_⟩
 conv=>whnf
 refine ⟨fun h=>absurd h (by omega),fun _=>?_⟩
 conv=>whnf
 refine ⟨fun h=>absurd h (by omega),fun _=>?_⟩
 conv=>whnf
 refine ⟨fun h=>absurd (show (784:Int)<p.length from h) (by omega),fun _=>?_⟩
 conv=>whnf
 generalize hst:zbe (k.take 16) (mixN (IntKind.u64.wrap n) u) p.length=st
 have hl:st.length=p.length:=by rw [←hst,zb4]
 have hx:=zbp p st hl
 refine dO2 D38 [H] (by kernel_rfl) rfl trivial ?_
 conv=>whnf
 iterate 2 (refine dS ?_;(conv=>whnf))
 refine ⟨_,cP (c77 _) ⟨rfl,rfl,zqv⟩,?_⟩
 conv=>whnf
 refine ⟨.agg (k.map bC),?_,?_⟩
 ·conv=>whnf
  ((conv in (Nat.ble _ _)=>tactic=>exact b32);(conv=>whnf))
  exact ⟨zqm PV.agg (agg32 k hk),rfl,zqv⟩
 conv=>whnf
 iterate 4 (refine dS ?_;(conv=>whnf))
 refine ⟨sl (xorL p st),cP ((c78 k hk u (IntKind.u64.wrap n) p (by omega)).of_eq (by rw [hst])) ⟨rfl,rfl,zqv⟩,?_⟩
 conv=>whnf
 apply exA
 ·conv=>whnf
  refine ⟨⟨by show ((8+(xorL p st).length)*1≤_);omega,by simp,zbr _⟩,?_⟩
  conv=>whnf
  exact ⟨rfl,rfl,zqv⟩
 conv=>whnf
 (refine dS ?_;(conv=>whnf))
 ((conv in (Nat.ble _ _)=>tactic=>exact b32);(conv=>whnf))
 have ha:(bigV (IntKind.u64.wrap n)++xorL p st).length≤900000:=by rw [zqf,zcm];omega
 refine cA (args':=[.agg (k.map bC),.int .i64 u,sl (bigV (IntKind.u64.wrap n)++xorL p st)]) ?_ (cP (c79 k hk u _ ha) ?_)
 ·have ek:((k.map bC).take 32).map dem=k.map bC:=agg32 k hk
  show [PV.agg (((k.map bC).take 32).map dem),PV.int .i64 u,PV.slice ((bigV (IntKind.u64.wrap n)).length+(xorL p st).length) ((bigV (IntKind.u64.wrap n)).map bC++(xorL p st).map bC) none]=_
  rw [ek]
  unfold sl
  rw [zqf,List.map_append]
 conv=>whnf
 refine ⟨⟨by show ((8+(xorL p st).length+8)*1≤_);omega,by simp,zbr _⟩,?_⟩
 conv=>whnf
 refine ⟨?_,rfl⟩
 show PV.tup [.slice ((bigV (IntKind.u64.wrap n)).length+(xorL p st).length+(tagV (k.drop 16) u (bigV (IntKind.u64.wrap n)++xorL p st)).length) (((bigV (IntKind.u64.wrap n)).map bC++(xorL p st).map bC)++(tagV (k.drop 16) u (bigV (IntKind.u64.wrap n)++xorL p st)).map bC) (some 5),.int .i64 0]=_
 rw [←zqf,←List.map_append,ztb]
 rfl
theorem c141o (k:List UInt8) (hk:k.length=32) (u:Int) (hu:zde u=true) (b:List UInt8) (h16:16≤b.length) (h800:b.length≤800) (H:PH) :
  CK prog 141 [.agg (k.map bC),.int .i64 u,sl b] H fun x H'=>(match openB (k.drop 16) u b with
   | true=>x=.tup [sl (xorL ((b.take (b.length - 8)).drop 8) (zbe (k.take 16) (mixN (beN (b.take 8):Nat) u) (b.length - 16))),.int .i64 0]
   | false=>x=.tup [ow [],.int .i64 3])∧H'=H:=by
 have hu':0≤u∧u≤255:=by
  unfold zde at hu
  rw [zqb] at hu
  exact ⟨of_decide_eq_true hu.1,of_decide_eq_true hu.2⟩
 have b32:Nat.ble 32 (dropN 0 (k.map bC)).length=true:=by rw [Nat.ble_eq,za2,List.drop_zero,zqq,hk];exact zqn _
 have hw8:IntKind.i64.wrap ((b.length:Int) - 8)=((b.length - 8:Nat):Int):=by rw [w64 (by omega) (by omega)];omega
 have hfst:decide (16≤b.length)=true:=zqe h16
 have hsnd:decide (b.length≤800)=true:=zqe h800
 have hal:(b.take (b.length - 8)).length=b.length - 8:=by rw [zqr];omega
 have hpl:((b.take (b.length - 8)).drop 8).length=b.length - 16:=by rw [List.length_drop,hal];omega
 (refine fnS (imm:=z0n) zfs func141 ?_;(conv=>whnf))
 refine ⟨fun h=>absurd h (by omega),fun _=>?_⟩
 conv=>whnf
 refine ⟨fun h=>absurd h (by omega),fun _=>?_⟩
 conv=>whnf
 refine ⟨fun h=>absurd (show (b.length:Int)<16 from h) (by omega),fun _=>?_⟩
 conv=>whnf
 refine ⟨fun h=>absurd (show (800:Int)<b.length from h) (by omega),fun _=>?_⟩
 conv=>whnf
 refine cP (c186 b (by omega)) ?_
 conv=>whnf
 refine dO2 {} [H] (by kernel_rfl) rfl trivial ?_
 conv=>whnf
 (refine dS ?_;(conv=>whnf))
 by_cases hn:beN (b.take 8)≤1099511627776
 ·refine ⟨.bool false,?_,?_⟩
  ·conv=>whnf
   exact ⟨fun h=>absurd (show (1099511627776:Int)<((beN (b.take 8):Nat):Int) from h) (by omega),fun _=>⟨rfl,rfl,zqv⟩⟩
  conv=>whnf
  (refine dS ?_;(conv=>whnf))
  refine ⟨.agg (k.map bC),?_,?_⟩
  ·conv=>whnf
   ((conv in (Nat.ble _ _)=>tactic=>exact b32);(conv=>whnf))
   exact ⟨zqm PV.agg (agg32 k hk),rfl,zqv⟩
  conv=>whnf
  iterate 2 (refine dS ?_;(conv=>whnf))
  refine ⟨.int .i64 ((b.length - 8:Nat):Int),⟨zqm (PV.int _) hw8,rfl,zqv⟩,?_⟩
  conv=>whnf
  refine ⟨sl ((b.take (b.length - 8)).drop 0),⟨⟨by omega,by omega,by omega⟩,zce b 0 ((b.length - 8:Nat):Int) ⟨by omega,by omega,by omega⟩,rfl,zqv⟩,?_⟩
  conv=>whnf
  refine ⟨_,cP (c79 k hk u (b.take (b.length - 8)) (by omega)) ⟨rfl,rfl,zqv⟩,?_⟩
  conv=>whnf
  refine ⟨.str (tagV (k.drop 16) u (b.take (b.length - 8))),⟨tagV (k.drop 16) u (b.take (b.length - 8)),⟨rfl,rfl⟩,rfl,rfl,zqv⟩,?_⟩
  conv=>whnf
  (refine dS ?_;(conv=>whnf))
  refine ⟨.int .i64 ((b.length - 8:Nat):Int),⟨zqm (PV.int _) hw8,rfl,zqv⟩,?_⟩
  conv=>whnf
  refine ⟨sl ((b.take b.length).drop (b.length - 8)),⟨⟨by omega,by omega,by omega⟩,zce b ((b.length - 8:Nat):Int) (b.length:Int) ⟨by omega,by omega,by omega⟩,rfl,zqv⟩,?_⟩
  conv=>whnf
  refine ⟨.str ((b.take b.length).drop (b.length - 8)),⟨(b.take b.length).drop (b.length - 8),⟨rfl,rfl⟩,rfl,rfl,zqv⟩,?_⟩
  rw [List.take_length]
  conv=>whnf
  by_cases hq:tagV (k.drop 16) u (b.take (b.length - 8))=b.drop (b.length - 8)
  ·have hop:openB (k.drop 16) u b=true:=by unfold openB;rw [hfst,hsnd,zqe hn,zqe hq];rfl
   rw [hop]
   refine ⟨.bool false,?_,?_⟩
   ·conv=>whnf
    exact ⟨fun _=>⟨rfl,rfl,zqv⟩,fun h=>absurd hq h⟩
   conv=>whnf
   (refine dS ?_;(conv=>whnf))
   refine dO2 {} [H] (by kernel_rfl) rfl trivial ?_
   conv=>whnf
   refine ⟨.agg (k.map bC),?_,?_⟩
   ·conv=>whnf
    ((conv in (Nat.ble _ _)=>tactic=>exact b32);(conv=>whnf))
    exact ⟨zqm PV.agg (agg32 k hk),rfl,zqv⟩
   conv=>whnf
   iterate 3 (refine dS ?_;(conv=>whnf))
   refine ⟨.int .i64 ((b.length - 8:Nat):Int),⟨zqm (PV.int _) hw8,rfl,zqv⟩,?_⟩
   conv=>whnf
   refine ⟨sl ((b.take (b.length - 8)).drop 8),⟨⟨by omega,by omega,by omega⟩,zce b 8 ((b.length - 8:Nat):Int) ⟨by omega,by omega,by omega⟩,rfl,zqv⟩,?_⟩
   conv=>whnf
   refine ⟨_,cP ((c78 k hk u (beN (b.take 8):Nat) ((b.take (b.length - 8)).drop 8) (by omega)).of_eq (by rw [hpl])) ⟨rfl,rfl,zqv⟩,?_⟩
   conv=>whnf
   iterate 2 (refine dS ?_;(conv=>whnf))
   exact ⟨rfl,rfl⟩
  ·have hop:openB (k.drop 16) u b=false:=by unfold openB;rw [zqd hq,zq3]
   rw [hop]
   refine ⟨.bool true,?_,?_⟩
   ·conv=>whnf
    exact ⟨fun h=>absurd h hq,fun _=>⟨rfl,rfl,zqv⟩⟩
   conv=>whnf
   (refine dS ?_;(conv=>whnf))
   exact ⟨rfl,rfl⟩
 ·have hop:openB (k.drop 16) u b=false:=by unfold openB;rw [zqd hn,zq3,zq4]
  rw [hop]
  refine ⟨.bool true,?_,?_⟩
  ·conv=>whnf
   exact ⟨fun _=>⟨rfl,rfl,zqv⟩,fun h=>absurd (show (1099511627776:Int)<((beN (b.take 8):Nat):Int) by omega) h⟩
  conv=>whnf
  iterate 14 (refine dS ?_;(conv=>whnf))
  exact ⟨rfl,rfl⟩
set_option maxHeartbeats 1000000
/-! How the heap goes on while boxes seal and open. -/
theorem zre {a b:UInt8} (h:bC a=bC b):a=b:=by
 have h:PV.int .u8 (a.toNat:Int)=PV.int .u8 (b.toNat:Int):=h
 injection h with _ h
 exact (zjv a b).1 h
theorem zd5:∀{a b:List UInt8},a.map bC=b.map bC→a=b
 | [],[],_=>rfl
 | [],_::_,h=>by simp at h
 | _::_,[],h=>by simp at h
 | x::a,y::b,h=>by
  rw [List.map_cons,List.map_cons] at h
  injection h with h1 h2
  rw [zre h1,zd5 h2]
theorem zll {k:List UInt8} (hk:k.length=16) (d m s:Int) (l:List Int) (md:Int) (v:Nat):(keyO k d m s l md v).cs.take 16=k.map bC:=by
 show List.take 16 ((k.map bC++[.int .u32 d,.int .i32 m,.int .u32 s])++l.map u32C++[.int .u32 md])=_
 rw [List.append_assoc,List.append_assoc,List.take_append_of_le_length (by simp [hk]),List.take_of_length_le (by simp [hk])]
theorem KeySt.take {k:List UInt8} {o:PObj} (h:KeySt k o) (hk:k.length=16):o.cs.take 16=k.map bC:=by
 rcases h with ⟨v,rfl⟩ | ⟨v,rfl⟩
 ·exact zll hk ..
 ·exact zll hk ..
def keyT:Nat:=(keyO [] 0 0 0 [] 0 0).T
def boxT:Nat:=(boxS 0 [] 0 0 0 0).T
theorem KeySt.T {k:List UInt8} {o:PObj} (h:KeySt k o):o.T=keyT:=by rcases h with ⟨v,rfl⟩ | ⟨v,rfl⟩ <;> rfl
theorem zm0:keyT≠boxT:=by decide
theorem zub {sid sid':Nat} {sp sp':List UInt8} {s o r s' o' r':Int} {v v':Nat} (h:boxS sid sp s o r v=boxS sid' sp' s' o' r' v'):sid=sid'∧sp=sp':=by
 have h:[PV.ptr (some (sid,0))]++sp.map bC++[.int .i64 s,.int .i64 o,.int .i64 r]=[PV.ptr (some (sid',0))]++sp'.map bC++[.int .i64 s',.int .i64 o',.int .i64 r']:=zqm PObj.cs h
 have h1:=(List.append_inj' h rfl).1
 have h2:PV.ptr (some (sid,0))::sp.map bC=PV.ptr (some (sid',0))::sp'.map bC:=h1
 injection h2 with h3 h4
 injection h3 with h3
 injection h3 with h3
 injection h3 with h3 _
 exact ⟨h3,zd5 h4⟩
def BoxAt (H:PH) (bid:Nat) (key:List UInt8):Prop:=key.length=32∧∃sid s o r v so,H[bid]? = some (boxS sid (key.drop 16) s o r v)∧H[sid]? = some so∧KeySt (key.take 16) so
structure Evo (S:Nat→Prop) (H H':PH):Prop where
 len:H.length≤H'.length
 box:∀bid key,BoxAt H bid key→BoxAt H' bid key
 same:∀(id:Nat) (o:PObj),H[id]? = some o→¬S id→o.T≠keyT→o.T≠boxT→H'[id]? = some o
theorem Evo.trans {S:Nat→Prop} {H H1 H2:PH} (h:Evo S H H1) (k:Evo S H1 H2):Evo S H H2 :=
 ⟨Nat.le_trans h.len k.len,fun b key hb=>k.box b key (h.box b key hb),fun id o ho hs h1 h2=>k.same id o (h.same id o ho hs h1 h2) hs h1 h2⟩
theorem Evo.mono {S S':Nat→Prop} {H H':PH} (h:Evo S H H') (hs:∀id,S id→S' id):Evo S' H H':=⟨h.len,h.box,fun id o ho hn=>h.same id o ho fun hh=>hn (hs id hh)⟩
theorem Evo.app {S:Nat→Prop} (H l:PH):Evo S H (H++l) :=
 have g:∀(id:Nat) (o:PObj),H[id]? = some o→(H++l)[id]? = some o:=fun id o h=>by rw [zq2 (zq1.1 h).1];exact h
 ⟨by simp,fun b key ⟨hk,sid,s,o,r,v,so,h1,h2,h3⟩=>⟨hk,sid,s,o,r,v,so,g _ _ h1,g _ _ h2,h3⟩,fun id o h _ _ _=>g id o h⟩
theorem Evo.setBox {S:Nat→Prop} {H:PH} {bid sid:Nat} {sp:List UInt8} {s o r:Int} {v:Nat} (h:H[bid]? = some (boxS sid sp s o r v)) (s' o' r':Int) (v':Nat):Evo S H (H.set bid (boxS sid sp s' o' r' v')):=by
 refine ⟨by simp,fun b key ⟨hk,sid2,s2,o2,r2,v2,so,h1,h2,h3⟩=>?_,fun id x hx _ _ hb=>?_⟩
 ·have hne:bid≠sid2:=fun e=>by
   subst e
   rw [h] at h2;cases h2
   exact zm0 h3.T.symm
  by_cases e:bid=b
  ·subst e
   rw [h] at h1
   obtain ⟨rfl,rfl⟩:=zub (Option.some.inj h1)
   exact ⟨hk,sid,s',o',r',v',so,gS h,by rw [zqj hne];exact h2,h3⟩
  ·exact ⟨hk,sid2,s2,o2,r2,v2,so,by rw [zqj e];exact h1,by rw [zqj hne];exact h2,h3⟩
 ·have e:bid≠id:=fun e=>by
   subst e
   rw [h] at hx;cases hx
   exact hb rfl
  rw [zqj e];exact hx
theorem Evo.setKey {S:Nat→Prop} {H:PH} {sid:Nat} {k:List UInt8} {so so':PObj} (h:H[sid]? = some so) (hk:k.length=16) (h1:KeySt k so) (h2:KeySt k so'):Evo S H (H.set sid so'):=by
 refine ⟨by simp,fun b key ⟨hkl,sid2,s2,o2,r2,v2,so2,g1,g2,g3⟩=>?_,fun id x hx _ hb _=>?_⟩
 ·have hne:sid≠b:=fun e=>by
   subst e
   rw [h] at g1;cases g1
   exact zm0 h1.T.symm
  by_cases e:sid=sid2
  ·subst e
   rw [h] at g2;cases g2
   have e2:k=key.take 16:=zd5 ((h1.take hk).symm.trans (g3.take (by simp [hkl])))
   subst e2
   exact ⟨hkl,sid,s2,o2,r2,v2,so',by rw [zqj hne];exact g1,gS h,h2⟩
  ·exact ⟨hkl,sid2,s2,o2,r2,v2,so2,by rw [zqj hne];exact g1,by rw [zqj e];exact g2,g3⟩
 ·have e:sid≠id:=fun e=>by
   subst e
   rw [h] at hx;cases hx
   exact hb h1.T
  rw [zqj e];exact hx
theorem Evo.setOther {S:Nat→Prop} {H:PH} {id:Nat} {o o':PObj} (h:H[id]? = some o) (hs:S id) (h1:o.T≠keyT) (h2:o.T≠boxT):Evo S H (H.set id o'):=by
 refine ⟨by simp,fun b key ⟨hkl,sid2,s2,o2,r2,v2,so2,g1,g2,g3⟩=>?_,fun id2 x hx hn _ _=>?_⟩
 ·have e1:id≠b:=fun e=>by
   subst e
   rw [h] at g1;cases g1
   exact h2 rfl
  have e2:id≠sid2:=fun e=>by
   subst e
   rw [h] at g2;cases g2
   exact h1 g3.T
  exact ⟨hkl,sid2,s2,o2,r2,v2,so2,by rw [zqj e1];exact g1,by rw [zqj e2];exact g2,g3⟩
 ·have e:id≠id2:=fun e=>hn (e▸hs)
  rw [zqj e];exact hx
/-! What is sealed, and opened. -/
def sealK (key:List UInt8) (u n:Int) (p:List UInt8):List UInt8:=sealV (key.drop 16) u (IntKind.u64.wrap n) p (zbe (key.take 16) (mixN (IntKind.u64.wrap n) u) p.length)
def openK (key:List UInt8) (u:Int) (b:List UInt8):Option (List UInt8):=match openB (key.drop 16) u b with
 | true=>some (xorL ((b.take (b.length - 8)).drop 8) (zbe (key.take 16) (mixN (beN (b.take 8):Nat) u) (b.length - 16)))
 | false=>none
def openV (key:List UInt8) (u:Int) (b:List UInt8):PV:=match openK key u b with
 | some p=>.tup [sl p,.int .i64 0]
 | none=>.tup [sl [],.int .i64 3]
theorem zw2 {H:PH} {bid:Nat} {key:List UInt8} (hb:BoxAt H bid key) (u:Int) (hu:zde u=true) (b:List UInt8) :
  CK prog 131 [.ptr (some (bid,0)),.int .i64 u,sl b] H fun x H'=>x=openV key u b∧Evo (fun _=>False) H H'∧H'.length=H.length:=by
 obtain ⟨hk,sid,s,o,r,v,so,h1,h2,h3⟩:=hb
 have hne:bid≠sid:=fun e=>by
  subst e
  rw [h1] at h2;cases h2
  exact zm0 h3.T.symm
 have hk16:(key.take 16).length=16:=by simp [hk]
 unfold openV openK
 by_cases hl:16≤b.length∧b.length≤800
 ·refine (c131o (key.take 16) hk16 so h3 sid u hu b (key.drop 16) (by simp [hk]) s o r v bid H h1 h2 hne hl.1 hl.2).demT fun x H' hh=>?_
  cases e:openB (key.drop 16) u b
  ·rw [e] at hh
   obtain ⟨rfl,rfl⟩:=hh
   exact ⟨_,rfl,rfl,Evo.setBox h1 _ _ _ _,by simp⟩
  ·rw [e] at hh
   obtain ⟨rfl,o',ho',rfl⟩:=hh
   exact ⟨_,rfl,rfl,(Evo.setBox h1 s (IntKind.i64.wrap (o+1)) r (v+1)).trans (Evo.setKey (k:=key.take 16) (so:=so) (by rw [zqj hne];exact h2) hk16 h3 ho'),by simp⟩
 ·have e:openB (key.drop 16) u b=false:=by
   unfold openB
   by_cases h16:16≤b.length
   ·rw [zqd (p:=b.length≤800) (fun h=>hl ⟨h16,h⟩),zq3,zq4,zq4]
   ·rw [zqd h16,zq4,zq4,zq4]
  rw [e]
  refine (c131z u hu b (by omega) sid (key.drop 16) (by simp [hk]) s o r v bid H h1).demT fun x H' hh=>?_
  obtain ⟨rfl,rfl⟩:=hh
  exact ⟨_,rfl,rfl,Evo.setBox h1 _ _ _ _,by simp⟩
theorem znq (n:Nat) (hn:n≤1099511627776):beN (bigV (n:Int))=n:=by
 have e:∀k:Nat,k≤56→(byteI (ishr .u64 (n:Int) k)).toNat=n / 2 ^ k % 256:=fun k hk=>by
  have h1:ishr .u64 (n:Int) k=((n / 2 ^ k:Nat):Int):=by
   show Int.fdiv (n:Int) (2 ^ (min (k:Int).toNat 64))=_
   rw [Int.toNat_natCast,Nat.min_eq_left (by omega),show ((2:Int) ^ k)=((2 ^ k:Nat):Int) by push_cast;rfl]
   rw [Int.fdiv_eq_ediv_of_nonneg _ (Int.natCast_nonneg _)]
   rfl
  rw [h1]
  unfold byteI
  rw [UInt8.toNat_ofNat']
  omega
 have e56:=e 56 (by decide)
 have e48:=e 48 (by decide)
 have e40:=e 40 (by decide)
 have e32:=e 32 (by decide)
 have e24:=e 24 (by decide)
 have e16:=e 16 (by decide)
 have e8:=e 8 (by decide)
 have e0:=e 0 (by decide)
 show ((((((((0*256+(byteI (ishr .u64 (n:Int) 56)).toNat)*256+(byteI (ishr .u64 (n:Int) 48)).toNat)*256+(byteI (ishr .u64 (n:Int) 40)).toNat)*256+(byteI (ishr .u64 (n:Int) 32)).toNat)*256+(byteI (ishr .u64 (n:Int) 24)).toNat)*256+(byteI (ishr .u64 (n:Int) 16)).toNat)*256+(byteI (ishr .u64 (n:Int) 8)).toNat)*256+(byteI (ishr .u64 (n:Int) 0)).toNat)=n
 simp only [show ((56:Nat):Int)=56 from rfl,show ((48:Nat):Int)=48 from rfl,show ((40:Nat):Int)=40 from rfl,show ((32:Nat):Int)=32 from rfl,show ((24:Nat):Int)=24 from rfl,show ((16:Nat):Int)=16 from rfl,show ((8:Nat):Int)=8 from rfl,show ((0:Nat):Int)=0 from rfl] at e56 e48 e40 e32 e24 e16 e8 e0
 rw [e56,e48,e40,e32,e24,e16,e8,e0]
 omega
theorem zmh:∀(p st:List UInt8),st.length=p.length→xorL (xorL p st) st=p
 | [],_,_=>by simp [xorL]
 | x::p,[],h=>by simp at h
 | x::p,y::st,h=>by
  have ih:=zmh p st (by simpa using h)
  show ((x ^^^ y) ^^^ y)::xorL (xorL p st) st=x::p
  rw [ih]
  congr 1
  rw [UInt8.xor_assoc,UInt8.xor_self,UInt8.xor_zero]
theorem ztm (sp:List UInt8) (u nn:Int) (p st:List UInt8) (h:st.length=p.length):(sealV sp u nn p st).length=p.length+16:=by
 unfold sealV tagV
 rw [zqf,zqf,zcm,zcm,zbp p st h];omega
theorem zcd (key:List UInt8) (u n:Int) (p:List UInt8):(sealK key u n p).length=p.length+16:=ztm _ _ _ _ _ (zb4 _ _ _)
theorem zpv (key:List UInt8) (u n:Int) (p:List UInt8):(sealK key u n p).take 8=bigV (IntKind.u64.wrap n):=by
 unfold sealK sealV
 rw [List.append_assoc,List.take_append_of_le_length (by rw [zcm];omega),List.take_of_length_le (by rw [zcm];omega)]
theorem zlu (key:List UInt8) (u n:Int) (p:List UInt8) (hn0:0≤n) (hn1:n≤1099511627776) (hp:p.length≤784):openK key u (sealK key u n p)=some p:=by
 obtain ⟨m,rfl⟩:∃m:Nat,n=m:=⟨n.toNat,by omega⟩
 have hw:IntKind.u64.wrap (m:Int)=(m:Int):=zda (by omega)
 have hlen:=zcd key u m p
 have hhead:=zpv key u m p
 rw [hw] at hhead
 have hst:=zb4 (key.take 16) (mixN (IntKind.u64.wrap (m:Int)) u) p.length
 generalize hS:zbe (key.take 16) (mixN (IntKind.u64.wrap (m:Int)) u) p.length=st at hst
 have hx:=zbp p st hst
 have hbody:(sealK key u m p).take ((sealK key u m p).length - 8)=bigV (m:Int)++xorL p st:=by
  rw [hlen]
  unfold sealK sealV
  rw [hw] at hS ⊢
  rw [hS,List.take_append_of_le_length (by rw [zqf,zcm];omega),List.take_of_length_le (by rw [zqf,zcm];omega)]
 have htag:(sealK key u m p).drop ((sealK key u m p).length - 8)=tagV (key.drop 16) u (bigV (m:Int)++xorL p st):=by
  rw [hlen]
  unfold sealK sealV
  rw [hw] at hS ⊢
  rw [hS]
  have e:p.length+16 - 8=(bigV (m:Int)++xorL p st).length:=by rw [zqf,zcm];omega
  rw [e,List.drop_left]
 have hop:openB (key.drop 16) u (sealK key u m p)=true:=by
  unfold openB
  rw [hhead,hbody,htag,zqe (by omega),zqe (by omega),znq m (by omega),zqe (by omega),zqe rfl];rfl
 unfold openK
 rw [hop]
 show some _=some p
 rw [hbody,hhead,hlen,znq m (by omega)]
 rw [hw] at hS
 have e8:(bigV (m:Int)++xorL p st).drop 8=xorL p st:=by
  rw [List.drop_append_of_le_length (by rw [zcm];omega),List.drop_eq_nil_of_le (by rw [zcm];omega),List.nil_append]
 rw [e8,show p.length+16 - 16=p.length by omega,hS,zmh p st hst]
theorem zl6 (k:List UInt8):KeySt k (zej k):=by
 refine .inl ⟨0,?_⟩
 show PObj.mk _ (k.map bC++([.int .u32 0,.int .i32 0]++List.replicate 29 (.int .u32 0))) 0=PObj.mk _ ((k.map bC++[.int .u32 0,.int .i32 0,.int .u32 0])++(List.replicate 27 (0:Int)).map u32C++[.int .u32 0]) 0
 rw [List.append_assoc,List.append_assoc]
 rfl
theorem ringT (l:List Ent) (v:Nat):(ringO l v).T≠keyT∧(ringO l v).T≠boxT:=⟨fun h=>absurd (show (ringO [] 0).T=keyT from h) (by decide),fun h=>absurd (show (ringO [] 0).T=boxT from h) (by decide)⟩
structure RingAt (H:PH) (rid:Nat) (l:List Ent):Prop where
 ex:∃v,H[rid]? = some (ringO l v)
 box:∀e∈l,BoxAt H e.box e.key
theorem RingAt.klen {H:PH} {rid:Nat} {l:List Ent} (h:RingAt H rid l):∀e∈l,e.key.length=32:=fun e he=>(h.box e he).1
theorem RingAt.evo {S:Nat→Prop} {H H':PH} {rid:Nat} {l:List Ent} (h:RingAt H rid l) (k:Evo S H H') (hs:¬S rid):RingAt H' rid l:=by
 obtain ⟨⟨v,h1⟩,h2⟩:=h
 exact ⟨⟨v,k.same _ _ h1 hs (ringT _ _).1 (ringT _ _).2⟩,fun e he=>k.box _ _ (h2 e he)⟩
theorem zsm {f:Ent→Bool} {l:List Ent} {e:Ent} (h:lastE f l=some e):e∈l:=List.mem_reverse.1 (List.mem_of_find?_eq_some h)
theorem zzj {H:PH} {rid:Nat} {l:List Ent} (h:RingAt H rid l) (hl:l.length≤1000) (r n:List UInt8) (k:Int) :
  CK prog 130 [.ptr (some (rid,0)),.agg [.str r,.str n],.int .i64 k] H fun x H'=>x=boxR (lastE (isK r n k) l)∧H'=H:=by
 obtain ⟨v,hv⟩:=h.ex
 exact c130 hv hl h.klen r n k
set_option maxHeartbeats 2000000
theorem c141k (key:List UInt8) (hk:key.length=32) (u:Int) (hu:zde u=true) (b:List UInt8) (h16:16≤b.length) (h800:b.length≤800):Pure prog 141 [.agg (key.map bC),.int .i64 u,sl b] (openV key u b):=by
 intro H
 unfold openV openK
 refine (c141o key hk u hu b h16 h800 H).demT fun x H' hh=>?_
 obtain ⟨h1,h2⟩:=hh
 cases e:openB (key.drop 16) u b
 ·rw [e] at h1
  exact ⟨_,h1,rfl,h2⟩
 ·rw [e] at h1
  exact ⟨_,h1,rfl,h2⟩
/-! Sealing, reckoned quickly. -/
noncomputable def rF (x:Int) (s t:Nat):Int:=cBits .or .u32 (cShl .u32 x (.ofNat s)) (cShr .u32 x (.ofNat t))
theorem rF3 (x:Int):rot32 x 3=rF x 3 29:=by
 unfold rF rot32
 rw [za7,zc4,zd1,show zji 3=3 by decide];rfl
theorem rF8 (x:Int):rot32 x (-8)=rF x 24 8:=by
 unfold rF rot32
 rw [za7,zc4,zd1,show zji (-8)=24 by decide];rfl
noncomputable def turnF {α:Type} (w x y:Int) (K:Int→Int→α):α:=fI (cBits .xor .u32 (cW .u32 (rF x 24 8+y)) w) fun x'=>fI (cBits .xor .u32 (rF y 3 29) x') fun y'=>K x' y'
theorem zwk {α:Type} (w x y:Int) (K:Int→Int→α):turnF w x y K=K (spR w (x,y)).1 (spR w (x,y)).2:=by
 unfold turnF spR xor32 add32
 rw [fI_eq,fI_eq,za7,za7,cW_eq,←rF8,←rF3]
noncomputable def blkF {α:Type}:List Int→Int→Int→(Int→Int→α)→α
 | [],x,y,K=>K x y
 | w::ws,x,y,K=>turnF w x y fun x y=>blkF ws x y K
theorem zrc {α:Type}:∀(ws:List Int) (x y:Int) (K:Int→Int→α),blkF ws x y K=K (spB ws (x,y)).1 (spB ws (x,y)).2
 | [],x,y,K=>rfl
 | w::ws,x,y,K=>by
  unfold blkF
  rw [zwk,zrc ws]
  rfl
noncomputable def spF {α:Type} (a b c d:Int):Nat→Nat→(List Int→α)→α
 | _,0,K=>K []
 | i,m+1,K=>fI (cBits .xor .u32 (cW .u32 (a+rF b 24 8)) (cW .u32 (.ofNat i))) fun n=>fI (cBits .xor .u32 (rF a 3 29) n) fun a'=>spF a' c d n (Nat.succ i) m fun l=>K (a::l)
theorem zxb {α:Type} (k:List UInt8):∀(m i:Nat) (K:List Int→α),spF (spN k i).a (spN k i).b (spN k i).c (spN k i).d i m K=K ((List.range m).map fun j=>(spN k (i+j)).a)
 | 0,i,K=>rfl
 | m+1,i,K=>by
  unfold spF
  rw [fI_eq,fI_eq,za7,za7,cW_eq,cW_eq,←rF8,←rF3]
  have e:spN k (i+1)=⟨xor32 (rot32 (spN k i).a 3) (xor32 (add32 (spN k i).a (rot32 (spN k i).b (-8))) (IntKind.u32.wrap (i:Int))),(spN k i).c,(spN k i).d,xor32 (add32 (spN k i).a (rot32 (spN k i).b (-8))) (IntKind.u32.wrap (i:Int))⟩:=by rw [spN]
  have ih:=zxb k m (i+1) (fun l=>K ((spN k i).a::l))
  rw [e] at ih
  refine Eq.trans ih ?_
  congr 1
  rw [List.range_succ_eq_map,List.map_cons,List.map_map]
  congr 1
  refine List.map_congr_left fun j _=>?_
  show _=(spN k (i+(j+1))).a
  rw [show i+(j+1)=i+1+j by omega]
noncomputable def orF (x:Int) (c:UInt8) (s:Nat):Int:=cBits .or .u32 x (cShl .u32 (cW .u32 (.ofNat c.toNat)) (.ofNat s))
theorem z3m (x:Int) (c:UInt8) (s:Nat):orB x c (s:Int)=orF x c s:=by
 unfold orF orB
 rw [za7,zc4,cW_eq];rfl
noncomputable def w4F (a b c d:UInt8):Int:=orF (orF (orF (orF 0 a 0) b 8) c 16) d 24
noncomputable def zmg {α:Type} (k:List UInt8) (K:List Int→α):α:=match k with
 | [k0,k1,k2,k3,k4,k5,k6,k7,k8,k9,ka,kb,kc,kd,ke,kf]=>fI (w4F k0 k1 k2 k3) fun a=>fI (w4F k4 k5 k6 k7) fun b=>fI (w4F k8 k9 ka kb) fun c=>fI (w4F kc kd ke kf) fun d=>spF a b c d 0 27 K
 | k=>K (spW k)
theorem zgi {α:Type} (k:List UInt8) (K:List Int→α):zmg k K=K (spW k):=by
 unfold zmg
 split
 ·rename_i k0 k1 k2 k3 k4 k5 k6 k7 k8 k9 ka kb kc kd ke kf
  rw [fI_eq,fI_eq,fI_eq,fI_eq]
  generalize hk:[k0,k1,k2,k3,k4,k5,k6,k7,k8,k9,ka,kb,kc,kd,ke,kf]=k
  have h0:spN k 0=⟨w4F k0 k1 k2 k3,w4F k4 k5 k6 k7,w4F k8 k9 ka kb,w4F kc kd ke kf⟩:=by
   rw [spN]
   subst hk
   unfold w4F
   simp only [←z3m]
   rfl
  have:=zxb k 27 0 K
  rw [h0] at this
  refine this.trans ?_
  unfold spW
  congr 1 <;> (refine List.map_congr_left fun j _=>?_;rw [Nat.zero_add])
 ·rfl
noncomputable def byF {α:Type} (x:Int) (s:Nat) (K:UInt8→α):α:=match x with
 | .ofNat n=>fN (Nat.mod (Nat.div n (Nat.pow 2 s)) 256) fun m=>K (UInt8.ofNat m)
 | x=>K (byteI (Int.fdiv x (2 ^ s)))
theorem zrf (n:Nat):byteI (.ofNat n)=UInt8.ofNat (n % 256):=by
 unfold byteI
 congr 1
theorem zee {α:Type} (x:Int) (s:Nat) (K:UInt8→α):byF x s K=K (byteI (Int.fdiv x (2 ^ s))):=by
 cases x with
 | ofNat n =>
  unfold byF
  simp only []
  rw [fN_eq]
  have:Int.fdiv (Int.ofNat n) (2 ^ s)=Int.ofNat (n / 2 ^ s):=by
   have h:(2:Int) ^ s=((2 ^ s:Nat):Int):=by rw [Int.natCast_pow];rfl
   rw [h]
   exact (Int.ofNat_fdiv n (2 ^ s)).symm
  rw [this,zrf]
  rfl
 | negSucc n=>rfl
theorem zo4 (k:IntKind) (x:Int) (s:Nat) (h:s≤k.bits):ishr k x (s:Int)=Int.fdiv x (2 ^ s):=by
 unfold ishr
 rw [Int.toNat_natCast,Nat.min_eq_left h]
noncomputable def le4F {α:Type} (w:Int) (l:List UInt8) (K:List UInt8→α):α:=byF w 24 fun d=>byF w 16 fun c=>byF w 8 fun b=>byF w 0 fun a=>K (a::b::c::d::l)
theorem zxo (w:Int):byteI (Int.fdiv w (2 ^ 0))=byteI w:=by
 rw [show ((2:Int) ^ 0)=1 from rfl,Int.fdiv_one]
theorem zso {α:Type} (w:Int) (l:List UInt8) (K:List UInt8→α):le4F w l K=K (le4 w++l):=by
 unfold le4F
 rw [zee,zee,zee,zee,zxo]
 have e (s:Nat) (h:s≤32):=zo4 .u32 w s h
 have e8:=e 8 (by decide)
 have e16:=e 16 (by decide)
 have e24:=e 24 (by decide)
 rw [←e8,←e16,←e24]
 rfl
noncomputable def blksF {α:Type} (ws:List Int) (hi lo:Int):Nat→Nat→(List UInt8→α)→α
 | _,0,K=>K []
 | i,m+1,K=>fI (cW .u32 (lo+.ofNat i)) fun y=>blkF ws hi y fun x y=>blksF ws hi lo (Nat.succ i) m fun l=>le4F y l fun l=>le4F x l K
def blks (k:List UInt8) (nn:Int):Nat→Nat→List UInt8
 | _,0=>[]
 | i,m+1=>(le4 (blkP k nn i).1++le4 (blkP k nn i).2)++blks k nn (i+1) m
theorem zns (k:List UInt8) (nn:Int):∀(m i:Nat),strN k nn i++blks k nn i m=strN k nn (i+m)
 | 0,i=>by simp [blks]
 | m+1,i=>by
  unfold blks
  rw [←List.append_assoc,show strN k nn i++(le4 (blkP k nn i).1++le4 (blkP k nn i).2)=strN k nn (i+1) from rfl,zns k nn m (i+1),show i+1+m=i+(m+1) by omega]
theorem znr {α:Type} (k:List UInt8) (nn:Int):∀(m i:Nat) (K:List UInt8→α),blksF (spW k) (IntKind.u32.wrap (ishr .u64 nn 32)) (IntKind.u32.wrap nn) i m K=K (blks k nn i m)
 | 0,i,K=>rfl
 | m+1,i,K=>by
  unfold blksF blks
  rw [fI_eq,zrc,znr k nn m,zso,zso,cW_eq]
  rw [List.append_assoc]
  rfl
noncomputable def zgw {α:Type} (k:List UInt8) (nn:Int) (n:Nat) (K:List UInt8→α):α:=zmg k fun ws=>fI (cW .u32 (cShr .u64 nn 32)) fun hi=>fI (cW .u32 nn) fun lo=>blksF ws hi lo 0 (Nat.div (Nat.add n 7) 8) fun l=>fL (l.take n) K
theorem zdy {α:Type} (k:List UInt8) (nn:Int) (n:Nat) (K:List UInt8→α):zgw k nn n K=K (zbe k nn n):=by
 unfold zgw
 rw [zgi,fI_eq,fI_eq,cW_eq,cW_eq,zd1,znr,fL_eq]
 congr 1
 have:=zns k nn ((n+7) / 8) 0
 rw [Nat.zero_add] at this
 show (blks k nn 0 ((n+7) / 8)).take n=_
 unfold zbe
 rw [←this];rfl
noncomputable def rG (x:Int) (s t:Nat):Int:=cBits .or .u64 (cShl .u64 x (.ofNat s)) (cShr .u64 x (.ofNat t))
theorem rG13 (x:Int):rotC x 13=rG x 13 51:=by
 unfold rG rotC
 rw [za7,zc4,zd1,show rotS 13=13 by decide];rfl
theorem rG32 (x:Int):rotC x 32=rG x 32 32:=by
 unfold rG rotC
 rw [za7,zc4,zd1,show rotS 32=32 by decide];rfl
theorem rG16 (x:Int):rotC x 16=rG x 16 48:=by
 unfold rG rotC
 rw [za7,zc4,zd1,show rotS 16=16 by decide];rfl
theorem rG21 (x:Int):rotC x 21=rG x 21 43:=by
 unfold rG rotC
 rw [za7,zc4,zd1,show rotS 21=21 by decide];rfl
theorem rG17 (x:Int):rotC x 17=rG x 17 47:=by
 unfold rG rotC
 rw [za7,zc4,zd1,show rotS 17=17 by decide];rfl
noncomputable def xF (x y:Int):Int:=cBits .xor .u64 x y
theorem xF_eq (x y:Int):xorW x y=xF x y:=by unfold xF xorW;rw [za7]
noncomputable def aF (x y:Int):Int:=cW .u64 (x+y)
theorem aF_eq (x y:Int):addW x y=aF x y:=by unfold aF addW;rw [cW_eq]
noncomputable def rndF {α:Type} (a b c d:Int) (K:Int→Int→Int→Int→α):α:=fI (aF a b) fun a=>fI (xF (rG b 13 51) a) fun b=>fI (rG a 32 32) fun a=>fI (aF c d) fun c=>fI (xF (rG d 16 48) c) fun d =>
 fI (aF a d) fun a=>fI (xF (rG d 21 43) a) fun d=>fI (aF c b) fun c=>fI (xF (rG b 17 47) c) fun b=>fI (rG c 32 32) fun c=>K a b c d
theorem zgu {α:Type} (s:S4) (K:Int→Int→Int→Int→α):rndF s.a s.b s.c s.d K=K s.rnd.a s.rnd.b s.rnd.c s.rnd.d:=by
 unfold rndF
 simp only [fI_eq,←rG13,←rG32,←rG16,←rG21,←rG17,←xF_eq,←aF_eq]
 rfl
noncomputable def takF {α:Type} (a b c d m:Int) (K:Int→Int→Int→Int→α):α:=fI (xF d m) fun d=>rndF a b c d fun a b c d=>rndF a b c d fun a b c d=>fI (xF a m) fun a=>K a b c d
theorem ztx {α:Type} (s:S4) (m:Int) (K:Int→Int→Int→Int→α):takF s.a s.b s.c s.d m K=K (s.takes m).a (s.takes m).b (s.takes m).c (s.takes m).d:=by
 unfold takF
 rw [fI_eq,←xF_eq]
 have h1:=zgu { s with d:=xorW s.d m } (fun a b c d=>rndF a b c d fun a b c d=>fI (xF a m) fun a=>K a b c d)
 refine Eq.trans h1 ?_
 have h2:=zgu (S4.rnd { s with d:=xorW s.d m }) (fun a b c d=>fI (xF a m) fun a=>K a b c d)
 refine Eq.trans h2 ?_
 rw [fI_eq,←xF_eq]
 rfl
noncomputable def finF {α:Type} (a b c d:Int) (K:Int→α):α:=fI (xF c 255) fun c=>rndF a b c d fun a b c d=>rndF a b c d fun a b c d=>rndF a b c d fun a b c d=>rndF a b c d fun a b c d=>fI (xF (xF (xF a b) c) d) K
theorem zx1 {α:Type} (s:S4) (K:Int→α):finF s.a s.b s.c s.d K=K s.fin.out:=by
 unfold finF
 rw [fI_eq,←xF_eq]
 refine Eq.trans (zgu { s with c:=xorW s.c 255 } _) ?_
 refine Eq.trans (zgu (S4.rnd { s with c:=xorW s.c 255 }) _) ?_
 refine Eq.trans (zgu (S4.rnd (S4.rnd { s with c:=xorW s.c 255 })) _) ?_
 refine Eq.trans (zgu (S4.rnd (S4.rnd (S4.rnd { s with c:=xorW s.c 255 }))) _) ?_
 rw [fI_eq,←xF_eq,←xF_eq,←xF_eq]
 rfl
noncomputable def sipL {α:Type} (a b c d:Int) (p:List UInt8):Nat→(Int→Int→Int→Int→List UInt8→α)→α
 | 0,K=>K a b c d p
 | m+1,K=>fN (leN (p.take 8)) fun w=>takF a b c d (.ofNat w) fun a b c d=>fL (p.drop 8) fun p=>sipL a b c d p m K
theorem ztp {α:Type} (s:S4) (p:List UInt8):∀(m i:Nat) (K:Int→Int→Int→Int→List UInt8→α),sipL (sipN s p i).a (sipN s p i).b (sipN s p i).c (sipN s p i).d (p.drop (8*i)) m K=K (sipN s p (i+m)).a (sipN s p (i+m)).b (sipN s p (i+m)).c (sipN s p (i+m)).d (p.drop (8*(i+m)))
 | 0,i,K=>rfl
 | m+1,i,K=>by
  unfold sipL
  rw [fN_eq]
  refine Eq.trans (ztx (sipN s p i) _ _) ?_
  rw [fL_eq]
  have h:=ztp s p m (i+1) K
  rw [show i+1+m=i+(m+1) by omega] at h
  refine Eq.trans ?_ h
  rw [List.drop_drop,show 8*i+8=8*(i+1) by omega]
  rfl
noncomputable def sipF {α:Type} (k p:List UInt8) (K:Int→α):α:=fN (leN (k.take 8)) fun x=>fN (leN (k.drop 8)) fun y=>fI (xF 8317987319222330741 (.ofNat x)) fun a=>fI (xF 7237128888997146477 (.ofNat y)) fun b=>fI (xF 7816392313619706465 (.ofNat x)) fun c=>fI (xF 8387220255154660723 (.ofNat y)) fun d =>
 fN p.length fun n=>sipL a b c d p (Nat.div n 8) fun a b c d r=>takF a b c d (cBits .or .u64 (cShl .u64 (cW .u64 (cW .u8 (.ofNat n))) 56) (.ofNat (leN r))) fun a b c d=>finF a b c d K
theorem zto {α:Type} (k p:List UInt8) (K:Int→α):sipF k p K=K (sipV k p):=by
 unfold sipF
 rw [fN_eq,fN_eq,fI_eq,fI_eq,fI_eq,fI_eq,fN_eq,←xF_eq,←xF_eq,←xF_eq,←xF_eq]
 refine Eq.trans (ztp (sipI k) p (p.length / 8) 0 _) ?_
 rw [Nat.zero_add,za7,zc4,cW_eq,cW_eq]
 refine Eq.trans (ztx (sipN (sipI k) p (p.length / 8)) _ _) ?_
 refine Eq.trans (zx1 _ _) ?_
 rfl
noncomputable def bigF {α:Type} (n:Int) (K:List UInt8→α):α:=byF n 56 fun a=>byF n 48 fun b=>byF n 40 fun c=>byF n 32 fun d=>byF n 24 fun e=>byF n 16 fun f=>byF n 8 fun g=>byF n 0 fun h=>K [a,b,c,d,e,f,g,h]
theorem zrb {α:Type} (n:Int) (K:List UInt8→α):bigF n K=K (bigV n):=by
 unfold bigF
 have e (s:Nat) (h:s≤64):=zo4 .u64 n s h
 rw [zee,zee,zee,zee,zee,zee,zee,zee,←e 56 (by decide),←e 48 (by decide),←e 40 (by decide),←e 32 (by decide),←e 24 (by decide),←e 16 (by decide),←e 8 (by decide),←e 0 (by decide)]
 rfl
noncomputable def xorF {α:Type}:List UInt8→List UInt8→(List UInt8→α)→α
 | a::p,b::q,K=>fN (Nat.xor a.toNat b.toNat) fun m=>xorF p q fun l=>K (UInt8.ofNat m::l)
 | _,_,K=>K []
theorem zk0 {α:Type}:∀(p q:List UInt8) (K:List UInt8→α),xorF p q K=K (xorL p q)
 | [],[],K=>rfl
 | [],_::_,K=>rfl
 | _::_,[],K=>rfl
 | a::p,b::q,K=>by
  unfold xorF
  rw [fN_eq,zk0 p q]
  have:UInt8.ofNat (Nat.xor a.toNat b.toNat)=a ^^^ b:=by
   apply UInt8.toNat_inj.1
   rw [UInt8.toNat_xor,UInt8.toNat_ofNat']
   have h1:=a.toNat_lt
   have h2:=b.toNat_lt
   exact Nat.mod_eq_of_lt (Nat.xor_lt_two_pow (n:=8) h1 h2)
  rw [this]
  rfl
noncomputable def tagF {α:Type} (sp:List UInt8) (u:Int) (ahead:List UInt8) (K:List UInt8→α):α:=sipF sp (byteI u::ahead) fun n=>bigF n K
theorem ztw {α:Type} (sp:List UInt8) (u:Int) (ahead:List UInt8) (K:List UInt8→α):tagF sp u ahead K=K (tagV sp u ahead):=by
 unfold tagF
 rw [zto,zrb];rfl
noncomputable def mixF {α:Type} (nn u:Int) (K:Int→α):α:=fI (cW .u64 (cShl .u64 nn 8+cW .u64 u)) K
theorem zm3 {α:Type} (nn u:Int) (K:Int→α):mixF nn u K=K (mixN nn u):=by
 unfold mixF
 rw [fI_eq,cW_eq,cW_eq,zc4];rfl
noncomputable def sealF {α:Type} (key:List UInt8) (u n:Int) (p:List UInt8) (K:List UInt8→α):α:=fL (key.take 16) fun k1=>fL (key.drop 16) fun k2=>fI (cW .u64 n) fun nn=>mixF nn u fun mx=>fN p.length fun len=>zgw k1 mx len fun st=>bigF nn fun hd=>xorF p st fun x=>fL (hd++x) fun ah=>tagF k2 u ah fun tg=>fL (ah++tg) K
theorem zvl {α:Type} (key:List UInt8) (u n:Int) (p:List UInt8) (K:List UInt8→α):sealF key u n p K=K (sealK key u n p):=by
 unfold sealF
 rw [fL_eq,fL_eq,fI_eq,zm3,fN_eq,zdy,zrb,zk0,fL_eq,ztw,fL_eq,cW_eq]
 rfl
noncomputable def openF {α:Type} (key:List UInt8) (u:Int) (b:List UInt8) (K:Option (List UInt8)→α):α:=fN b.length fun len=>match Nat.ble 16 len with
 | true=>match Nat.ble len 800 with
  | true=>fL (b.take 8) fun hd=>fN (beN hd) fun nn=>match Nat.ble nn 1099511627776 with
   | true=>fL (b.take (Nat.sub len 8)) fun ah=>fL (key.drop 16) fun k2=>tagF k2 u ah fun tg=>match sEqb tg (b.drop (Nat.sub len 8)) with
    | true=>fL (key.take 16) fun k1=>mixF (.ofNat nn) u fun mx=>zgw k1 mx (Nat.sub len 16) fun st=>fL (ah.drop 8) fun c=>xorF c st fun p=>K (some p)
    | false=>K none
   | false=>K none
  | false=>K none
 | false=>K none
theorem zve {α:Type} (key:List UInt8) (u:Int) (b:List UInt8) (K:Option (List UInt8)→α):openF key u b K=K (openK key u b):=by
 unfold openF openK openB
 rw [fN_eq]
 split
 ·rename_i h1
  rw [zqe (zqh h1)]
  split
  ·rename_i h2
   rw [zqe (zqh h2),fL_eq,fN_eq]
   split
   ·rename_i h3
    rw [zqe (zqh h3),fL_eq,fL_eq,ztw]
    have e8:Nat.sub b.length 8=b.length - 8:=rfl
    simp only [e8]
    split
    ·rename_i h4
     rw [zqe ((zd9 _ _).1 h4),fL_eq,zm3,zdy,fL_eq,zk0]
     rfl
    ·rename_i h4
     rw [zqd (fun e=>by rw [(zd9 _ _).2 e] at h4;cases h4)]
     rfl
   ·rename_i h3
    rw [zqd (fun e=>by rw [Nat.ble_eq_true_of_le e] at h3;cases h3)]
    simp
  ·rename_i h2
   rw [zqd (fun e=>by rw [Nat.ble_eq_true_of_le e] at h2;cases h2)]
   simp
 ·rename_i h1
  rw [zqd (fun e=>by rw [Nat.ble_eq_true_of_le e] at h1;cases h1)]
  simp
set_option maxHeartbeats 1000000
def Made (k:List UInt8) (o:PObj):Prop:=∃v,o=keyO k 1 0 0 (spW k) 1 v
theorem Made.st {k:List UInt8} {o:PObj} (h:Made k o):KeySt k o:=.inr h
theorem c218m (hw:zjo) (k:List UInt8) (hk:k.length=16) (kid:Nat) (nn:Int) (n:Nat) (hn:n≤1000000) (h0:0<n) (so:PObj) (hso:KeySt k so) (H:PH) (hid:H[kid]? = some so) :
  CK prog 218 [.ptr (some (kid,0)),.int .u64 nn,.int .i64 n] H fun r H'=>r=sl (zbe k nn n)∧∃o',Made k o'∧H'=H.set kid o':=by
 have hlt:kid<H.length:=(zq1.1 hid).1
 (refine fnS (imm:=zsc) zdm func218 ?_;(conv=>whnf))
 refine ⟨fun h=>absurd h (by omega),fun _=>?_⟩
 conv=>whnf
 have hw8:IntKind.i64.wrap ((n:Int)+8)=(n:Int)+8:=w64 (by omega) (by omega)
 refine ⟨⟨by decide,by rw [hw8];omega,by rw [hw8];show ((n:Int)+8)*((1:Nat):Int)≤_;omega⟩,?_⟩
 conv=>whnf
 refine lO StS (fun x=>[(0,.ptr (some (kid,0))),(1,.int .u64 nn),(2,.int .i64 n),(7,ow (strN k nn x.i)),(8,.int .u32 x.i)]) (fun x=>H.set kid x.o) (fun x=>x.i≤(n+7) / 8∧KeySt k x.o∧(0<x.i→Made k x.o)) (fun x=>(n+7) / 8 - x.i) ⟨⟨0,so⟩,⟨Nat.zero_le _,hso,fun h=>absurd h (Nat.lt_irrefl 0)⟩,⟨rfl,rfl,rfl,rfl,rfl,zqv⟩,(zea hid).symm⟩ ?_
 rintro ⟨i,o⟩ ⟨hi,ho,hm⟩
 replace hi:i≤(n+7) / 8:=hi
 replace ho:KeySt k o:=ho
 replace hm:0<i→Made k o:=hm
 have hsl:=zge k nn i
 conv=>whnf
 refine ⟨fun h=>?_,fun h=>?_⟩
 ·have h:((strN k nn i).length:Int)<n:=h
  rw [hsl] at h
  conv=>whnf
  refine ⟨by decide,?_⟩
  conv=>whnf
  have hst:(∃v,(H.set kid o)[kid]? = some (keyO k 0 0 0 (List.replicate 27 0) 0 v))∨(∃v,(H.set kid o)[kid]? = some (keyO k 1 0 0 (spW k) 1 v)):=by
   rw [List.getElem?_set_self hlt]
   rcases ho with ⟨v,rfl⟩ | ⟨v,rfl⟩
   ·exact .inl ⟨v,rfl⟩
   ·exact .inr ⟨v,rfl⟩
  refine cO (Q:=fun r H'=>r=.tup [.int .u32 (blkP k nn i).1,.int .u32 (blkP k nn i).2]∧∃v',H'=H.set kid (keyO k 1 0 0 (spW k) 1 v')) ((c242 hw k hk kid (H.set kid o) hst _ _).mono fun r H' hh=>?_) ?_
  ·obtain ⟨h1,v',h2⟩:=hh
   exact ⟨h1,v',by rw [h2,List.set_set]⟩
  rintro _ _ ⟨rfl,v',rfl⟩
  conv=>whnf
  generalize hx:(blkP k nn i).1=x
  generalize hy:(blkP k nn i).2=y
  refine lO Nat (fun j=>[(0,.ptr (some (kid,0))),(1,.int .u64 nn),(2,.int .i64 n),(7,ow (strN k nn i++(le4 x++le4 y).take (4*j))),(8,.int .u32 i),(42,.slice 2 [.int .u32 x,.int .u32 y] (some 230)),(43,.int .i64 2),(44,.int .i64 j)]) (fun _=>H.set kid (keyO k 1 0 0 (spW k) 1 v')) (fun j=>j≤2) (fun j=>2 - j) ⟨0,Nat.zero_le _,⟨rfl,rfl,rfl,?_,rfl,rfl,rfl,rfl,zqv⟩,rfl⟩ ?_
  ·show ow (strN k nn i)=ow (strN k nn i++[])
   rw [List.append_nil]
  intro j hj
  have happ:∀(a b:List UInt8),b.length=4→a.length≤2000000→(a.length+4)*1≤140737488355328∧(b.map bC).length=4*1∧(b.map bC).all oneP=true:=fun a b hb ha=>⟨by omega,by simp [hb],zbr b⟩
  match j,hj with
  | 0,_ =>
   conv=>whnf
   refine ⟨fun _=>?_,fun h=>absurd (show ((0:Nat):Int)<2 by decide) h⟩
   conv=>whnf
   refine ⟨⟨by decide,by decide⟩,[.int .u32 x],at1' (k:=0) rfl,?_⟩
   conv=>whnf
   refine ⟨by decide,?_⟩
   conv=>whnf
   refine ⟨by decide,?_⟩
   conv=>whnf
   refine ⟨by decide,?_⟩
   conv=>whnf
   refine ⟨⟨by show ((strN k nn i++(le4 x++le4 y).take (4*0)).length+4)*1≤_;rw [zqf,hsl];simp;omega,rfl,rfl⟩,?_⟩
   conv=>whnf
   refine ⟨1,by decide,⟨rfl,rfl,rfl,?_,rfl,rfl,rfl,rfl,zqv⟩,rfl,by decide⟩
   show PV.slice ((strN k nn i++(le4 x++le4 y).take (4*0)).length+4) ((strN k nn i++(le4 x++le4 y).take (4*0)).map bC++[PV.int .u8 (IntKind.u8.wrap x),.int .u8 (IntKind.u8.wrap (ishr .u32 x 8)),.int .u8 (IntKind.u8.wrap (ishr .u32 x 16)),.int .u8 (IntKind.u8.wrap (ishr .u32 x 24))]) (some 5)=ow (strN k nn i++(le4 x++le4 y).take (4*1))
   rw [zdv,zid _ (le4 x) (n:=4) rfl,List.append_assoc]
   rfl
  | 1,_ =>
   conv=>whnf
   refine ⟨fun _=>?_,fun h=>absurd (show ((1:Nat):Int)<2 by decide) h⟩
   conv=>whnf
   refine ⟨⟨by decide,by decide⟩,[.int .u32 y],at1' (k:=1) rfl,?_⟩
   conv=>whnf
   refine ⟨by decide,?_⟩
   conv=>whnf
   refine ⟨by decide,?_⟩
   conv=>whnf
   refine ⟨by decide,?_⟩
   conv=>whnf
   refine ⟨⟨by show ((strN k nn i++(le4 x++le4 y).take (4*1)).length+4)*1≤_;rw [zqf,hsl];simp;omega,rfl,rfl⟩,?_⟩
   conv=>whnf
   refine ⟨2,by decide,⟨rfl,rfl,rfl,?_,rfl,rfl,rfl,rfl,zqv⟩,rfl,by decide⟩
   show PV.slice ((strN k nn i++(le4 x++le4 y).take (4*1)).length+4) ((strN k nn i++(le4 x++le4 y).take (4*1)).map bC++[PV.int .u8 (IntKind.u8.wrap y),.int .u8 (IntKind.u8.wrap (ishr .u32 y 8)),.int .u8 (IntKind.u8.wrap (ishr .u32 y 16)),.int .u8 (IntKind.u8.wrap (ishr .u32 y 24))]) (some 5)=ow (strN k nn i++(le4 x++le4 y).take (4*2))
   rw [zdv,zid _ (le4 y) (n:=4) rfl,List.append_assoc]
   rfl
  | 2,_ =>
   conv=>whnf
   refine ⟨fun h=>absurd h (by decide),fun _=>?_⟩
   conv=>whnf
   refine ⟨⟨i+1,keyO k 1 0 0 (spW k) 1 v'⟩,⟨by show i+1≤(n+7) / 8;omega,.inr ⟨v',rfl⟩,fun _=>⟨v',rfl⟩⟩,⟨rfl,rfl,rfl,?_,?_,zqv⟩,rfl,by show (n+7) / 8 - (i+1)<(n+7) / 8 - i;omega⟩
   ·subst hx hy
    rfl
   ·show PV.int _ (IntKind.u32.wrap ((i:Int)+1))=PV.int _ ((i+1:Nat):Int)
    rw [←zt4 (n:=i+1) (by omega)];rfl
 ·have h:¬((strN k nn i).length:Int)<n:=h
  rw [hsl] at h
  have e:i=(n+7) / 8:=by omega
  conv=>whnf
  refine ⟨⟨by decide,by omega,by show (n:Int)≤((strN k nn i).length:Int);omega⟩,?_⟩
  conv=>whnf
  refine ⟨?_,o,hm (by omega),rfl⟩
  refine (zce (strN k nn i) 0 n ⟨by omega,by omega,by omega⟩).trans ?_
  rw [Int.toNat_natCast,e]
  rfl
end Go.Proofs.Tryz
/- CEval, part 11: what is known of calls. -/
namespace Ps
open Go
noncomputable section
abbrev EX:=List PV→CH→CC
structure ExOk (P:Program) (f:Nat) (e:EX):Prop where
 ok:∀args h r h',e args h=.ok r h'→∀H,RH H h→CK P f args H fun r' H'=>r'=r∧RH H' h'
 pure:∀args h r,e args h=.pure r→∀H,RH H h→CK P f args H fun r' H'=>r'=r∧H'=H
def extOf (t:Tr EX) (call:Nat→List PV→CH→CC) (f:Nat) (args:List PV) (h:CH):CC:=match t.get f with
 | some e=>e args h
 | none=>.err 0
def ExAll (P:Program):List (Nat×EX)→Prop
 | []=>True
 | (f,e)::r=>ExOk P f e∧ExAll P r
theorem zhs {P:Program}:∀{l:List (Nat×EX)},ExAll P l→∀{f:Nat} {e:EX},(f,e)∈l→ExOk P f e
 | [],_,_,_,h=>by cases h
 | (f,e)::r,ha,f',e',h=>by
  rcases List.mem_cons.1 h with h | h
  ·cases h;exact ha.1
  ·exact zhs ha.2 h
theorem zj2 {P:Program} {t:Tr EX} (h:ExAll P (t.toL fun j=>j)) (call:Nat→List PV→CH→CC) (hc:CallS P call):CallS P (extOf t call):=by
 refine ⟨fun f args hh r h' hr H rh=>?_,fun f args hh r hr H rh=>?_⟩
 ·unfold extOf at hr
  split at hr
  ·rename_i e he
   exact (zhs h (Tr.mem_toL t (fun j=>j) f e he)).ok _ _ _ _ hr H rh
  ·cases hr
 ·unfold extOf at hr
  split at hr
  ·rename_i e he
   exact (zhs h (Tr.mem_toL t (fun j=>j) f e he)).pure _ _ _ hr H rh
  ·cases hr
def pureE (g:List PV→CV):EX:=fun args h=>match g args with
 | .ok v=>.pure v
 | .err n=>.err n
theorem zcn {P:Program} {f:Nat} {g:List PV→CV} (h:∀args v,g args=.ok v→Pure P f args v):ExOk P f (pureE g):=by
 refine ⟨fun args hh r h' hr=>?_,fun args hh r hr H rh=>?_⟩
 ·unfold pureE at hr
  split at hr <;> cases hr
 ·unfold pureE at hr
  split at hr
  ·rename_i v hv
   cases hr
   exact h _ _ hv H
  ·cases hr
def zia (k:IntKind):EX:=fun args h=>match args with
 | [.ptr (some (id,off)),.int k' m]=>match zbo k k' with
  | true=>match h.get id with
   | some o=>match nth o.cs off with
    | some (.int k'' n)=>match zbo k k'' with
     | true=>fI (cW k (n+m)) fun x=>fL (zaa off [.int k x] o.cs) fun cs=>fN (Nat.succ o.ver) fun w=>.ok (.int k x) (h.set id ⟨o.T,cs,w⟩)
     | false=>.err 951
    | _=>.err 952
   | none=>.err 953
  | false=>.err 951
 | _=>.err 954
theorem zsu {P:Program} {k:IntKind} {f:Nat} (hf:∀{H:PH} {id off:Nat} {o:PObj} {n:Int} (m:Int),H[id]? = some o→o.cs[off]? = some (.int k n) →
  CK P f [.ptr (some (id,off)),.int k m] H fun r H'=>r=.int k (k.wrap (n+m))∧H'=H.set id ⟨o.T,zaa off [.int k (k.wrap (n+m))] o.cs,o.ver+1⟩):ExOk P f (zia k):=by
 refine ⟨fun args hh r h' hr H rh=>?_,fun args hh r hr=>?_⟩
 ·unfold zia at hr
  split at hr
  ·rename_i id off k' m
   split at hr
   ·rename_i h1
    have h1:=zeo h1
    subst h1
    split at hr
    ·rename_i o ho
     split at hr
     ·rename_i k'' n hn
      split at hr
      ·rename_i h2
       have h2:=zeo h2
       subst h2
       rw [fI_eq,fL_eq,fN_eq,cW_eq] at hr
       cases hr
       rw [zeh] at hn
       have ho:=rh.look ho
       refine (hf m ho hn).mono fun r' H' hh=>⟨hh.1,?_⟩
       rw [hh.2]
       exact rh.set ho
      ·cases hr
     ·cases hr
    ·cases hr
   ·cases hr
  ·cases hr
 ·unfold zia at hr
  split at hr
  ·split at hr
   ·split at hr
    ·split at hr
     ·split at hr
      ·rw [fI_eq,fL_eq,fN_eq] at hr;cases hr
      ·cases hr
     ·cases hr
    ·cases hr
   ·cases hr
  ·cases hr
def zfp (k:IntKind):EX:=fun args h=>match args with
 | [.ptr (some (id,off))]=>match h.get id with
  | some o=>match nth o.cs off with
   | some (.int k' n)=>match zbo k k' with
    | true=>.pure (.int k n)
    | false=>.err 955
   | _=>.err 956
  | none=>.err 957
 | _=>.err 958
theorem zpm {P:Program} {k:IntKind} {f:Nat} (hf:∀{H:PH} {id off:Nat} {o:PObj} {n:Int},H[id]? = some o→o.cs[off]? = some (.int k n) →
  CK P f [.ptr (some (id,off))] H fun r H'=>r=.int k n∧H'=H):ExOk P f (zfp k):=by
 refine ⟨fun args hh r h' hr=>?_,fun args hh r hr H rh=>?_⟩
 ·unfold zfp at hr
  split at hr
  ·split at hr
   ·split at hr
    ·split at hr <;> cases hr
    ·cases hr
   ·cases hr
  ·cases hr
 ·unfold zfp at hr
  split at hr
  ·split at hr
   ·rename_i o ho
    split at hr
    ·rename_i k' n hn
     split at hr
     ·rename_i h1
      have h1:=zeo h1
      subst h1
      cases hr
      rw [zeh] at hn
      exact hf (rh.look ho) hn
     ·cases hr
    ·cases hr
   ·cases hr
  ·cases hr
end
end Ps
namespace Go.Proofs.Tryz
open Go Ps
/-! What the Acceptor's seat knows ahead. -/
noncomputable def zla (args:List PV):CV:=match args with
 | [.str s,.int .u8 (.ofNat m)]=>match Nat.blt m 256 with
  | true=>vI .i64 (Lib.countByte s (UInt8.ofNat m))
  | false=>.err 960
 | _=>.err 960
theorem zk2 {m:Nat} (h:Nat.blt m 256=true):PV.int .u8 (.ofNat m)=bC (UInt8.ofNat m):=by
 rw [Nat.blt_eq] at h
 have:(UInt8.ofNat m).toNat=m:=by simp [UInt8.toNat_ofNat'];omega
 rw [bC,this];rfl
theorem ex263:ExOk prog 263 (pureE zla):=zcn fun args v hv=>by
 unfold zla at hv
 split at hv
 ·split at hv
  ·rename_i h1
   rw [vI_eq] at hv;cases hv
   rw [zk2 h1];exact c263 _ _
  ·cases hv
 ·cases hv
noncomputable def zlj (args:List PV):CV:=match args with
 | [.str s,.int .u8 (.ofNat m)]=>match Nat.blt m 256 with
  | true=>vI .i64 (Lib.indexByte s (UInt8.ofNat m))
  | false=>.err 961
 | _=>.err 961
theorem ex280:ExOk prog 280 (pureE zlj):=zcn fun args v hv=>by
 unfold zlj at hv
 split at hv
 ·split at hv
  ·rename_i h1
   rw [vI_eq] at hv;cases hv
   rw [zk2 h1];exact c280 _ _
  ·cases hv
 ·cases hv
noncomputable def slF (b:List UInt8):CV:=byL b fun cs=>fN b.length fun n=>.ok (.slice n cs none)
theorem zxa (b:List UInt8):slF b=.ok (sl b):=by unfold slF;rw [zgy,fN_eq];rfl
noncomputable def sealG (args:List PV):CV:=match args with
 | [.agg kc,.int .i64 (.ofNat u),.int .i64 (.ofNat n),.slice m cs none]=>toBy (.err 962) kc fun k=>toBy (.err 963) cs fun p=>match Nat.beq k.length 32 with
  | true=>match Nat.ble u 255 with
   | true=>match Nat.ble n 1099511627776 with
    | true=>match Nat.ble p.length 784 with
     | true=>match Nat.beq m p.length with
      | true=>sealF k (.ofNat u) (.ofNat n) p fun b=>byL b fun cs=>fN b.length fun l=>.ok (.tup [.slice l cs (some T5),.int .i64 0])
      | false=>.err 964
     | false=>.err 964
    | false=>.err 964
   | false=>.err 964
  | false=>.err 964
 | _=>.err 965
where T5:Nat:=match ow [] with | .slice _ _ (some t)=>t | _=>0
theorem ex38:ExOk prog 38 (pureE sealG):=zcn fun args v hv=>by
 unfold sealG at hv
 split at hv
 ·rename_i kc u n m cs
  obtain ⟨k,e1,hv1⟩:=zbz hv (by simp)
  clear hv
  obtain ⟨p,e2,hv⟩:=zbz hv1 (by simp)
  clear hv1
  subst e1 e2
  split at hv
  ·rename_i h1
   split at hv
   ·rename_i h2
    split at hv
    ·rename_i h3
     split at hv
     ·rename_i h4
      split at hv
      ·rename_i h5
       rw [zvl,zgy,fN_eq] at hv
       cases hv
       have h5:=zqg h5
       subst h5
       have h2:=zqh h2
       have h3:=zqh h3
       exact c38 k (zqg h1) (.ofNat u) (.ofNat n) (by unfold zde;simp;exact Int.ofNat_le.2 h2) (Int.natCast_nonneg n) (Int.ofNat_le.2 h3) p (zqh h4)
      ·cases hv
     ·cases hv
    ·cases hv
   ·cases hv
  ·cases hv
 ·cases hv
noncomputable def openG (args:List PV):CV:=match args with
 | [.agg kc,.int .i64 (.ofNat u),.slice m cs none]=>toBy (.err 966) kc fun k=>toBy (.err 967) cs fun b=>match Nat.beq k.length 32 with
  | true=>match Nat.ble u 255 with
   | true=>match Nat.ble 16 b.length with
    | true=>match Nat.ble b.length 800 with
     | true=>match Nat.beq m b.length with
      | true=>openF k (.ofNat u) b fun o=>match o with
       | some p=>byL p fun cs=>fN p.length fun l=>.ok (.tup [.slice l cs none,.int .i64 0])
       | none=>.ok (.tup [.slice 0 [] none,.int .i64 3])
      | false=>.err 968
     | false=>.err 968
    | false=>.err 968
   | false=>.err 968
  | false=>.err 968
 | _=>.err 969
theorem ex141:ExOk prog 141 (pureE openG):=zcn fun args v hv=>by
 unfold openG at hv
 split at hv
 ·rename_i kc u m cs
  obtain ⟨k,e1,hv1⟩:=zbz hv (by simp)
  clear hv
  obtain ⟨b,e2,hv⟩:=zbz hv1 (by simp)
  clear hv1
  subst e1 e2
  split at hv
  ·rename_i h1
   split at hv
   ·rename_i h2
    split at hv
    ·rename_i h3
     split at hv
     ·rename_i h4
      split at hv
      ·rename_i h5
       rw [zve] at hv
       have h5:=zqg h5
       subst h5
       have h2:=zqh h2
       have key:=c141k k (zqg h1) (.ofNat u) (by unfold zde;simp;exact Int.ofNat_le.2 h2) b (zqh h3) (zqh h4)
       unfold openV at key
       split at hv
       ·rename_i p hp
        rw [hp] at key
        rw [zgy,fN_eq] at hv
        cases hv
        exact key
       ·rename_i hp
        rw [hp] at key
        cases hv
        exact key
      ·cases hv
     ·cases hv
    ·cases hv
   ·cases hv
  ·cases hv
 ·cases hv
noncomputable def zk9 (args:List PV):CV:=match args with
 | [.slice m cs none]=>toBy (.err 970) cs fun b=>match Nat.ble b.length 140737488355328 with
  | true=>match Nat.beq m b.length with
   | true=>.ok (.slice m cs (some sealG.T5))
   | false=>.err 971
  | false=>.err 971
 | _=>.err 972
theorem ex217:ExOk prog 217 (pureE zk9):=zcn fun args v hv=>by
 unfold zk9 at hv
 split at hv
 ·rename_i m cs
  obtain ⟨b,e1,hv1⟩:=zbz hv (by simp)
  clear hv
  subst e1
  have hv:=hv1
  split at hv
  ·rename_i h1
   split at hv
   ·rename_i h2
    have h2:=zqg h2
    subst h2
    cases hv
    exact zjy b (zqh h1)
   ·cases hv
  ·cases hv
 ·cases hv
theorem ex85:ExOk prog 85 (zia .i64):=zsu fun m ho hc=>zja func85 (by kernel_rfl) (by kernel_rfl) (by kernel_rfl) .i64 (by kernel_rfl) m ho hc
theorem ex90:ExOk prog 90 (zfp .i64):=zpm fun ho hc=>zhx func90 (by kernel_rfl) (by kernel_rfl) (by kernel_rfl) .i64 (by kernel_rfl) ho hc
def zgh:Nat:=(keyO [] 0 0 0 [] 0 0).T
noncomputable def zgv:EX:=fun args h=>match args with
 | [.ptr (some (kid,0)),.int .u64 (.ofNat nn),.int .i64 (.ofNat n)]=>match h.get kid with
  | some o=>toBy (.err 981) (o.cs.take 16) fun k=>match Nat.beq k.length 16 with
   | true=>match Nat.ble n 1000000 with
    | true=>match Nat.ble 1 n with
     | true=>match Nat.beq o.T zgh with
      | true=>zmg k fun ws=>match pvsEq o.cs (keyO k 0 0 0 (List.replicate 27 0) 0 0).cs||pvsEq o.cs (keyO k 1 0 0 ws 1 0).cs with
       | true=>zgw k (.ofNat nn) n fun st=>byL st fun cs=>fL (keyO k 1 0 0 ws 1 0).cs fun kc=>fN (Nat.succ o.ver) fun w=>.ok (.slice n cs none) (h.set kid ⟨zgh,kc,w⟩)
       | false=>.err 982
      | false=>.err 983
     | false=>.err 984
    | false=>.err 984
   | false=>.err 985
  | none=>.err 986
 | _=>.err 987
theorem zhh (k:List UInt8) (d m s:Int) (l:List Int) (md:Int) (v:Nat):keyO k d m s l md v=⟨zgh,(keyO k d m s l md 0).cs,v⟩:=rfl
theorem ex218:ExOk prog 218 zgv:=by
 refine ⟨fun args hh r h' hr H rh=>?_,fun args hh r hr=>?_⟩
 ·unfold zgv at hr
  split at hr
  ·rename_i kid nn n
   split at hr
   ·rename_i o ho
    have ho:=rh.look ho
    obtain ⟨k,e1,hr1⟩:=zbz hr (by simp)
    clear hr
    have hr:=hr1
    split at hr
    ·rename_i h1
     have h1:=zqg h1
     split at hr
     ·rename_i h2
      split at hr
      ·rename_i h3
       split at hr
       ·rename_i h4
        have h4:=zqg h4
        rw [zgi] at hr
        split at hr
        ·rename_i h5
         rw [zdy,zgy,fL_eq,fN_eq] at hr
         cases hr
         have hst:KeySt k o:=by
          rw [Bool.or_eq_true] at h5
          obtain ⟨T,cs,v⟩:=o
          simp only at h4
          subst h4
          rcases h5 with h5 | h5
          ·have:=zbl _ _ h5
           simp only at this
           exact .inl ⟨v,by rw [zhh,this]⟩
          ·have:=zbl _ _ h5
           simp only at this
           exact .inr ⟨v,by rw [zhh,this]⟩
         have hlt:kid<H.length:=(zq1.1 ho).1
         have hc:=c218m znk k h1 kid (.ofNat nn) n (zqh h2) (zqh h3) o hst H ho
         refine (CK.ver (kid:=kid) hc (R:=fun r' H'=>r'=.slice n ((zbe k (.ofNat nn) n).map bC) none∧RH H' (hh.set kid ⟨zgh,(keyO k 1 0 0 (spW k) 1 0).cs,Nat.succ o.ver⟩)) fun r' H' hq=>?_)
         obtain ⟨rfl,o',⟨v,rfl⟩,rfl⟩:=hq
         refine ⟨_,o.ver+1,List.getElem?_set_self hlt,fun o2 h2=>by rw [ho] at h2;cases h2;exact Nat.lt_succ_self _,?_,?_⟩
         ·unfold sl
          rw [zb4]
         ·rw [List.set_set]
          exact rh.set ho
        ·cases hr
       ·cases hr
      ·cases hr
     ·cases hr
    ·cases hr
   ·cases hr
  ·cases hr
 ·unfold zgv at hr
  split at hr
  ·split at hr
   ·obtain ⟨k,e1,hr1⟩:=zbz hr (by simp)
    clear hr
    have hr:=hr1
    split at hr
    ·split at hr
     ·split at hr
      ·split at hr
       ·rw [zgi] at hr
        split at hr
        ·rw [zdy,zgy,fL_eq,fN_eq] at hr
         cases hr
        ·cases hr
       ·cases hr
      ·cases hr
     ·cases hr
    ·cases hr
   ·cases hr
  ·cases hr
noncomputable def rowsF {α:Type} (z:α):List PV→(List (List UInt8)→α)→α
 | [],K=>K []
 | .slice n cs none::r,K=>toBy z cs fun b=>match Nat.beq n b.length with
  | true=>rowsF z r fun l=>K (b::l)
  | false=>z
 | _,_=>z
theorem zkt {α:Type} {z:α}:∀{cs:List PV} {K:List (List UInt8)→α} {r:α},rowsF z cs K=r→r≠z→∃l,cs=l.map sl∧K l=r
 | [],K,r,h,hz=>⟨[],rfl,h⟩
 | c::rest,K,r,h,hz=>by
  unfold rowsF at h
  split at h
  ·rename_i heq;cases heq
  ·rename_i n cs r' K' heq
   cases heq
   obtain ⟨b,e1,h1⟩:=zbz h hz
   split at h1
   ·rename_i hn
    obtain ⟨l,e2,h2⟩:=zkt h1 hz
    refine ⟨b::l,?_,h2⟩
    rw [e2,e1,zqg hn];rfl
   ·exact absurd h1.symm hz
  ·exact absurd h.symm hz
noncomputable def sumG (args:List PV):CV:=match args with
 | [.agg kc,.slice m rs none]=>toBy (.err 991) kc fun k=>rowsF (.err 992) rs fun l=>match Nat.beq k.length 16 with
  | true=>match Nat.beq m l.length with
   | true=>match Nat.ble l.length 1099511627776 with
    | true=>match Nat.ble l.flatten.length 1099511627776 with
     | true=>sipF k l.flatten fun x=>.ok (.int .u64 x)
     | false=>.err 993
    | false=>.err 993
   | false=>.err 993
  | false=>.err 993
 | _=>.err 994
theorem ex216:ExOk prog 216 (pureE sumG):=zcn fun args v hv=>by
 unfold sumG at hv
 split at hv
 ·rename_i kc m rs
  obtain ⟨k,e1,hv1⟩:=zbz hv (by simp)
  clear hv
  obtain ⟨l,e2,hv⟩:=zkt hv1 (by simp)
  clear hv1
  subst e1 e2
  split at hv
  ·rename_i h1
   split at hv
   ·rename_i h2
    split at hv
    ·rename_i h3
     split at hv
     ·rename_i h4
      rw [zto] at hv
      cases hv
      have h2:=zqg h2
      subst h2
      exact fun H=>c216 k (zqg h1) l (zqh h3) (zqh h4) (Reps.sl H l)
     ·cases hv
    ·cases hv
   ·cases hv
  ·cases hv
 ·cases hv
noncomputable def exA1:Tr EX:=((((((((Tr.nil.set (pureE zla) 263).set (pureE zlj) 280).set (pureE sealG) 38).set (pureE openG) 141).set (pureE zk9) 217).set (zia .i64) 85).set (zfp .i64) 90).set zgv 218).set (pureE sumG) 216
def ttCl:TT:=[(9,⟨.str,1,16,[.str []]⟩),(36,⟨.slice 9,1,24,[.slice 0 [] (some 9)]⟩),(53,⟨.slice 130,1,24,[.slice 0 [] (some 130)]⟩),(54,⟨.slice 193,1,24,[.slice 0 [] (some 193)]⟩),(130,⟨.arr 2 9,2,32,[.str [],.str []]⟩),(193,⟨.strct [(9,0),(9,1),(36,2)],3,56,[.str [],.str [],.slice 0 [] (some 9)]⟩)]
theorem ziv:ttOk prog ttCl=true:=by kernel_rfl
def zz7:List Nat:=[]
def zz8:List Nat:=[]
def zz9:List Nat:=[]
theorem cl118 (n:Nat) (cs:List PV) (e sz by_:Nat) (he:e=9) (hz:sz=1) (hy:by_=16) (hl:cs.length=n*sz) (h1:cs.all oneP=true) (hb:(0+n)*by_≤140737488355328):Pure prog 118 [.slice n cs none] (.slice n cs (some e)):=by
 subst he hz hy
 intro H
 (refine fnS (imm:=zz7) ziv func118 ?_;(conv=>whnf))
 refine ⟨fun h=>?_,fun h=>⟨?_,?_⟩⟩
 ·conv=>whnf
  refine ⟨⟨hb,hl,h1⟩,?_⟩
  conv=>whnf
  exact ⟨by rw [Nat.zero_add];rfl,rfl⟩
 ·conv=>whnf
  subst h
  have e:cs=[]:=List.length_eq_zero_iff.1 (by simpa using hl)
  subst e
  exact ⟨rfl,rfl⟩
 ·conv=>whnf
  refine ⟨⟨hb,hl,h1⟩,?_⟩
  conv=>whnf
  exact ⟨by rw [Nat.zero_add];rfl,rfl⟩
theorem cl119 (n:Nat) (cs:List PV) (e sz by_:Nat) (he:e=130) (hz:sz=2) (hy:by_=32) (hl:cs.length=n*sz) (h1:cs.all oneP=true) (hb:(0+n)*by_≤140737488355328):Pure prog 119 [.slice n cs none] (.slice n cs (some e)):=by
 subst he hz hy
 intro H
 (refine fnS (imm:=zz8) ziv func119 ?_;(conv=>whnf))
 refine ⟨fun h=>?_,fun h=>⟨?_,?_⟩⟩
 ·conv=>whnf
  refine ⟨⟨hb,hl,h1⟩,?_⟩
  conv=>whnf
  exact ⟨by rw [Nat.zero_add];rfl,rfl⟩
 ·conv=>whnf
  subst h
  have e:cs=[]:=List.length_eq_zero_iff.1 (by simpa using hl)
  subst e
  exact ⟨rfl,rfl⟩
 ·conv=>whnf
  refine ⟨⟨hb,hl,h1⟩,?_⟩
  conv=>whnf
  exact ⟨by rw [Nat.zero_add];rfl,rfl⟩
theorem cl120 (n:Nat) (cs:List PV) (e sz by_:Nat) (he:e=193) (hz:sz=3) (hy:by_=56) (hl:cs.length=n*sz) (h1:cs.all oneP=true) (hb:(0+n)*by_≤140737488355328):Pure prog 120 [.slice n cs none] (.slice n cs (some e)):=by
 subst he hz hy
 intro H
 (refine fnS (imm:=zz9) ziv func120 ?_;(conv=>whnf))
 refine ⟨fun h=>?_,fun h=>⟨?_,?_⟩⟩
 ·conv=>whnf
  refine ⟨⟨hb,hl,h1⟩,?_⟩
  conv=>whnf
  exact ⟨by rw [Nat.zero_add];rfl,rfl⟩
 ·conv=>whnf
  subst h
  have e:cs=[]:=List.length_eq_zero_iff.1 (by simpa using hl)
  subst e
  exact ⟨rfl,rfl⟩
 ·conv=>whnf
  refine ⟨⟨hb,hl,h1⟩,?_⟩
  conv=>whnf
  exact ⟨by rw [Nat.zero_add];rfl,rfl⟩
noncomputable def clE (e sz by_:Nat) (args:List PV):CV:=match args with
 | [.slice n cs none]=>match Nat.beq cs.length (Nat.mul n sz) with
  | true=>match cs.all oneP with
   | true=>match Nat.ble (Nat.mul (Nat.add 0 n) by_) 140737488355328 with
    | true=>.ok (.slice n cs (some e))
    | false=>.err 995
   | false=>.err 995
  | false=>.err 995
 | _=>.err 996
theorem zrn {f e sz by_:Nat} (h:∀n cs,cs.length=n*sz→cs.all oneP=true→(0+n)*by_≤140737488355328→Pure prog f [.slice n cs none] (.slice n cs (some e))):ExOk prog f (pureE (clE e sz by_)):=zcn fun args v hv=>by
 unfold clE at hv
 split at hv
 ·split at hv
  ·rename_i h1
   split at hv
   ·rename_i h2
    split at hv
    ·rename_i h3
     cases hv
     exact h _ _ (zqg h1) h2 (zqh h3)
    ·cases hv
   ·cases hv
  ·cases hv
 ·cases hv
theorem ex118:ExOk prog 118 (pureE (clE 9 1 16)):=zrn fun n cs a b c=>cl118 n cs _ _ _ rfl rfl rfl a b c
theorem ex119:ExOk prog 119 (pureE (clE 130 2 32)):=zrn fun n cs a b c=>cl119 n cs _ _ _ rfl rfl rfl a b c
theorem ex120:ExOk prog 120 (pureE (clE 193 3 56)):=zrn fun n cs a b c=>cl120 n cs _ _ _ rfl rfl rfl a b c
noncomputable def exA2:Tr EX:=((exA1.set (pureE (clE 9 1 16)) 118).set (pureE (clE 130 2 32)) 119).set (pureE (clE 193 3 56)) 120
noncomputable def catG (args:List PV):CV:=match args with
 | [.slice m rs none]=>rowsF (.err 997) rs fun l=>match Nat.beq m l.length with
  | true=>match Nat.ble l.length 1099511627776 with
   | true=>match Nat.ble l.flatten.length 1099511627776 with
    | true=>slF l.flatten
    | false=>.err 998
   | false=>.err 998
  | false=>.err 998
 | _=>.err 999
theorem ex236:ExOk prog 236 (pureE catG):=zcn fun args v hv=>by
 unfold catG at hv
 split at hv
 ·rename_i m rs
  obtain ⟨l,e2,hv1⟩:=zkt hv (by simp)
  clear hv
  have hv:=hv1
  subst e2
  split at hv
  ·rename_i h2
   split at hv
   ·rename_i h3
    split at hv
    ·rename_i h4
     rw [zxa] at hv
     cases hv
     have h2:=zqg h2
     subst h2
     exact fun H=>c236 l (zqh h3) (zqh h4) (Reps.sl H l)
    ·cases hv
   ·cases hv
  ·cases hv
 ·cases hv
noncomputable def exA3:Tr EX:=exA2.set (pureE catG) 236
def z3t:Nat:=(boxS 0 [] 0 0 0 0).T
noncomputable def mixE:EX:=fun args h=>match args with
 | [.ptr (some (bid,0)),.int .i64 (.ofNat u),.int .u64 (.ofNat nn),.slice m cs none]=>toBy (.err 1001) cs fun p=>match Nat.beq m p.length with
  | true=>match Nat.ble p.length 1000000 with
   | true=>match Nat.ble 1 p.length with
    | true=>match h.get bid with
     | some ob=>match Nat.beq ob.T z3t with
      | true=>match ob.cs with
       | .ptr (some (sid,0))::rest=>toBy (.err 1002) (rest.take 16) fun sp=>match Nat.beq sp.length 16 with
        | true=>match rest.drop 16 with
         | [.int .i64 _,.int .i64 _,.int .i64 _]=>match h.get sid with
          | some o=>toBy (.err 1003) (o.cs.take 16) fun k=>match Nat.beq k.length 16 with
           | true=>match Nat.beq o.T zgh with
            | true=>zmg k fun ws=>match pvsEq o.cs (keyO k 0 0 0 (List.replicate 27 0) 0 0).cs||pvsEq o.cs (keyO k 1 0 0 ws 1 0).cs with
             | true=>mixF (.ofNat nn) (.ofNat u) fun mx=>zgw k mx p.length fun st=>xorF p st fun x=>byL x fun cs=>fN x.length fun n=>fL (keyO k 1 0 0 ws 1 0).cs fun kc=>fN (Nat.succ o.ver) fun w=>.ok (.slice n cs none) (h.set sid ⟨zgh,kc,w⟩)
             | false=>.err 1004
            | false=>.err 1005
           | false=>.err 1006
          | none=>.err 1007
         | _=>.err 1008
        | false=>.err 1009
       | _=>.err 1010
      | false=>.err 1011
     | none=>.err 1012
    | false=>.err 1013
   | false=>.err 1013
  | false=>.err 1014
 | _=>.err 1015
theorem zux {k:List UInt8} {o:PObj} (h4:o.T=zgh) (h5:(pvsEq o.cs (keyO k 0 0 0 (List.replicate 27 0) 0 0).cs||pvsEq o.cs (keyO k 1 0 0 (spW k) 1 0).cs)=true):KeySt k o:=by
 rw [Bool.or_eq_true] at h5
 obtain ⟨T,cs,v⟩:=o
 simp only at h4
 subst h4
 rcases h5 with h5 | h5
 ·have:=zbl _ _ h5
  simp only at this
  exact .inl ⟨v,by rw [zhh,this]⟩
 ·have:=zbl _ _ h5
  simp only at this
  exact .inr ⟨v,by rw [zhh,this]⟩
theorem zop {args:List PV} {h:CH} {c:CC} (hr:mixE args h=c) (hn:∀n,c≠.err n):∃bid u nn p ob sid sp s o r so k,args=[.ptr (some (bid,0)),.int .i64 (.ofNat u),.int .u64 (.ofNat nn),sl p]∧p.length≤1000000∧1≤p.length∧h.get bid=some ob∧ob=boxS sid sp s o r ob.ver∧sp.length=16 ∧
  h.get sid=some so∧k.length=16∧KeySt k so∧c=.ok (sl (xorL p (zbe k (mixN (.ofNat nn) (.ofNat u)) p.length))) (h.set sid ⟨zgh,(keyO k 1 0 0 (spW k) 1 0).cs,Nat.succ so.ver⟩):=by
 unfold mixE at hr
 split at hr
 ·rename_i bid u nn m cs
  obtain ⟨p,e1,hr1⟩:=zbz hr (fun e=>hn _ e)
  clear hr
  subst e1
  split at hr1
  ·rename_i h1
   have h1:=zqg h1
   subst h1
   split at hr1
   ·rename_i h2
    split at hr1
    ·rename_i h3
     split at hr1
     ·rename_i ob hob
      split at hr1
      ·rename_i h4
       split at hr1
       ·rename_i sid rest hrest
        obtain ⟨sp,e2,hr2⟩:=zbz hr1 (fun e=>hn _ e)
        clear hr1
        split at hr2
        ·rename_i h5
         split at hr2
         ·rename_i s o r hd
          split at hr2
          ·rename_i so hso
           obtain ⟨k,e3,hr3⟩:=zbz hr2 (fun e=>hn _ e)
           clear hr2
           split at hr3
           ·rename_i h6
            split at hr3
            ·rename_i h7
             rw [zgi] at hr3
             split at hr3
             ·rename_i h8
              rw [zm3,zdy,zk0,zgy,fN_eq,fL_eq,fN_eq] at hr3
              refine ⟨bid,u,nn,p,ob,sid,sp,s,o,r,so,k,rfl,zqh h2,zqh h3,hob,?_,zqg h5,hso,zqg h6,zux (zqg h7) h8,hr3.symm⟩
              have h4:=zqg h4
              obtain ⟨T,cs,v⟩:=ob
              simp only at h4 hrest
              subst h4
              rw [hrest]
              have:rest=sp.map bC++[.int .i64 s,.int .i64 o,.int .i64 r]:=by rw [←e2,←hd,List.take_append_drop]
              rw [this]
              rfl
             ·exact absurd hr3.symm (hn _)
            ·exact absurd hr3.symm (hn _)
           ·exact absurd hr3.symm (hn _)
          ·exact absurd hr2.symm (hn _)
         ·exact absurd hr2.symm (hn _)
        ·exact absurd hr2.symm (hn _)
       ·exact absurd hr1.symm (hn _)
      ·exact absurd hr1.symm (hn _)
     ·exact absurd hr1.symm (hn _)
    ·exact absurd hr1.symm (hn _)
   ·exact absurd hr1.symm (hn _)
  ·exact absurd hr1.symm (hn _)
 ·exact absurd hr.symm (hn _)
theorem ex171:ExOk prog 171 mixE:=by
 refine ⟨fun args hh r h' hr H rh=>?_,fun args hh r hr=>?_⟩
 ·obtain ⟨bid,u,nn,p,ob,sid,sp,s,o,rr,so,k,rfl,hp2,hp1,hob,hbox,hsp,hso,hk,hst,hc⟩:=zop hr (by simp)
  cases hc
  have hob:=rh.look hob
  rw [hbox] at hob
  have hso:=rh.look hso
  have hlt:sid<H.length:=(zq1.1 hso).1
  have hcall:=c171 (Made k) (fun o' h=>h.st.flat) so sid (.ofNat nn) (.ofNat u) p (zbe k (mixN (.ofNat nn) (.ofNat u)) p.length) (zb4 _ _ _) hp2
   (fun H1 h1=>c218m znk k hk sid _ p.length hp2 hp1 so hst H1 h1) sp hsp s o rr ob.ver bid H hob hso
  refine CK.ver (kid:=sid) hcall (R:=fun r' H'=>r'=_∧RH H' (hh.set sid ⟨zgh,(keyO k 1 0 0 (spW k) 1 0).cs,Nat.succ so.ver⟩)) fun r' H' hq=>?_
  obtain ⟨rfl,o',⟨v,rfl⟩,rfl⟩:=hq
  refine ⟨_,so.ver+1,List.getElem?_set_self hlt,fun o2 h2=>by rw [hso] at h2;cases h2;exact Nat.lt_succ_self _,rfl,?_⟩
  rw [List.set_set]
  exact rh.set hso
 ·obtain ⟨_,_,_,_,_,_,_,_,_,_,_,_,_,_,_,_,_,_,_,_,_,hc⟩:=zop hr (by simp)
  cases hc
noncomputable def exA4:Tr EX:=exA3.set mixE 171
open Go Ps Go.Shelf Go.RowKit
def ρ67:Ren:=⟨fun n=>if n=15 then 243 else 261,fun n=>if n=23 then 333 else if n=21 then 21 else n,fun n=>n⟩
def ttG:TT:=[(3,⟨.int .i64,1,8,[.int .i64 0]⟩),(9,⟨.str,1,16,[.str []]⟩),(333,⟨.fn,1,8,[.nilF]⟩)]
theorem z3u:ttOk prog ttG=true:=by kernel_rfl
def z2b:List Nat:=[]
theorem zx8:LaysGw.n15 prog ρ67 where
 mixed:=by kernel_rfl
 f15:=by kernel_rfl
 f20:=by kernel_rfl
 t0:=by kernel_rfl
 a0:=fun w=>by rfl
 z0:=fun w=>by rfl
 v0:=fun w=>by rfl
 i0:=by kernel_rfl
 t3:=by kernel_rfl
 a3:=fun w=>by rfl
 z3:=fun w=>by rfl
 v3:=fun w=>by rfl
 i3:=by kernel_rfl
 t4:=by kernel_rfl
 a4:=fun w=>by rfl
 z4:=fun w=>by rfl
 v4:=fun w=>by rfl
 i4:=by kernel_rfl
 t9:=by kernel_rfl
 a9:=fun w=>by rfl
 z9:=fun w=>by rfl
 v9:=fun w=>by rfl
 i9:=by kernel_rfl
 t21:=by kernel_rfl
 a21:=fun w=>by rfl
 z21:=fun w=>by rfl
 v21:=fun w=>by rfl
 i21:=by kernel_rfl
 t23:=by kernel_rfl
 a23:=fun w=>by rfl
 z23:=fun w=>by rfl
 v23:=fun w=>by rfl
 i23:=by kernel_rfl
def badR (x:Nat):Bool:=decide (x<32)||decide (126<x)
def okT8 (b:UInt8):Bool:=decide (32≤b.toNat)&&decide (b.toNat≤126)
theorem zrq (s:ByteArray) (i:Nat) (h:(s.get! i).toNat<128):Utf8.decode s i=((s.get! i).toNat,1):=by
 unfold Utf8.decode
 simp only [Nat.add_zero]
 rw [zqp h]
theorem zuk (s:ByteArray) (i:Nat) (h:¬(s.get! i).toNat<128):128≤(Utf8.decode s i).1:=by
 unfold Utf8.decode
 simp only [Nat.add_zero]
 rw [zqo h]
 have e:Utf8.runeError=65533:=rfl
 split
 ·split
  ·assumption
  ·rw [e];decide
 ·split
  ·split
   ·rename_i h2
    have:(decide (2048≤_)&&_)=true:=h2
    rw [zqb] at this
    have:=of_decide_eq_true this.1
    omega
   ·rw [e];decide
  ·split
   ·split
    ·rename_i h2
     have:(decide (65536≤_)&&_)=true:=h2
     rw [zqb] at this
     have:=of_decide_eq_true this.1
     omega
    ·rw [e];decide
   ·rw [e];decide
theorem zxx (s:ByteArray) (i:Nat):badR (Utf8.decode s i).1=!okT8 (s.get! i):=by
 by_cases h:(s.get! i).toNat<128
 ·rw [zrq s i h]
  unfold badR okT8
  by_cases h1:(s.get! i).toNat<32 <;> by_cases h2:126<(s.get! i).toNat <;> simp [h1,h2] <;> omega
 ·have:=zuk s i h
  unfold badR okT8
  have h1:¬(s.get! i).toNat≤126:=by omega
  have h2:126<(Utf8.decode s i).1:=by omega
  simp [h1,h2]
theorem zoc (s:ByteArray):∀(f pos:Nat),s.size≤pos+f→(Lib.idxFuncFrom badR true s f pos<0↔∀i,pos≤i→i<s.size→okT8 (s.get! i)=true)
 | 0,pos,h=>by
  rw [Lib.idxFuncFrom_end _ _ _ _ _ (by omega)]
  exact ⟨fun _ i h1 h2=>by omega,fun _=>by decide⟩
 | f+1,pos,h=>by
  unfold Lib.idxFuncFrom
  split
  ·rename_i hp
   rw [zxx]
   cases hb:okT8 (s.get! pos)
   ·simp only [Bool.not_false,if_true]
    exact ⟨fun h=>by omega,fun h=>by rw [h pos (zqn _) hp] at hb;cases hb⟩
   ·simp only [Bool.not_true,Bool.false_eq_true,if_false]
    have hlt:(s.get! pos).toNat<128:=by
     unfold okT8 at hb
     rw [zqb] at hb
     have:=of_decide_eq_true hb.2
     omega
    rw [zrq s pos hlt,zoc s f (pos+1) (by omega)]
    refine ⟨fun h i h1 h2=>?_,fun h i h1 h2=>h i (by omega) h2⟩
    by_cases e:i=pos
    ·rw [e];exact hb
    ·exact h i (by omega) h2
  ·rename_i hp
   exact ⟨fun _ i h1 h2=>by omega,fun _=>by decide⟩
theorem zod (s:List UInt8):(Lib.idxFunc badR true ⟨⟨s⟩⟩<0)↔s.all okT8=true:=by
 unfold Lib.idxFunc
 rw [zoc _ _ _ (by omega),List.all_eq_true]
 have hg:∀i (h:i<s.length),(⟨⟨s⟩⟩:ByteArray).get! i=s[i]:=fun i h=>by
  show (Array.mk s)[i]! = s[i]
  simp [h]
 refine ⟨fun h x hx=>?_,fun h i _ hi=>?_⟩
 ·obtain ⟨i,hi,rfl⟩:=List.getElem_of_mem hx
  rw [←hg i hi]
  exact h i (Nat.zero_le _) hi
 ·have hi:i<s.length:=hi
  rw [hg i hi]
  exact h _ (List.getElem_mem hi)
theorem zyj (W:World) (x:Nat) (hx:x≤1114111):FnGives prog 244 #[] #[.int .i32 (x:Int)] (.bool (badR x)) W:=by
 unfold FnGives
 go_enter Tryz.func244,Tryz.ntmps244
 go_wp2
 ·rename_i h
  go_ret
  refine ⟨zqm Ending.returned (show Value.bool (decide ((x:Int)<32)||decide (126<(x:Int)))=Value.bool (badR x) from zqm Value.bool ?_),0,rfl⟩
  unfold badR
  rw [decide_eq_decide.2 (show (x:Int)<32↔x<32 by omega),decide_eq_decide.2 (show 126<(x:Int)↔126<x by omega)]
 ·rename_i h
  go_ret
  refine ⟨zqm Ending.returned (show Value.bool true=Value.bool (badR x) from zqm Value.bool ?_),0,rfl⟩
  unfold badR
  have h2:x<32:=by omega
  rw [zqe h2,zq9]
theorem c243 (s:List UInt8):Pure prog 243 [.str s,.func 244 [] []] (.int .i64 (Lib.idxFunc badR true ⟨⟨s⟩⟩)):=fun H =>
 CK.of_below (fun g w=>.int _ _) fun g w vs hs hv=>by
  have h0:VC prog g w (Ps.valOf vs 0) (.str s):=hv 0
  have h1:VC prog g w (Ps.valOf vs 1) (.func 244 [] []):=hv 1
  have hvs:vs=#[.string ⟨⟨s⟩⟩,.func (.func 244) #[] #[]]:=by
   have e0:=h0.str
   obtain ⟨a,b,e1,z1,z2,_⟩:=(zaf h1 (by simp) (by simp)).inv_func
   have z1:a=#[]:=Array.eq_empty_of_size_eq_zero z1
   have z2:b=#[]:=Array.eq_empty_of_size_eq_zero z2
   subst z1;subst z2
   match vs,hs with
   | ⟨[x,y]⟩,_ =>
    simp [Ps.valOf] at e0 e1
    rw [e0,e1];rfl
  subst hvs
  exact ⟨za1 func243 (by kernel_rfl) (by kernel_rfl),Any.strings_IndexFunc_runes zx8 244 #[] (fun args w=>za1 func244 (by kernel_rfl) (by kernel_rfl)) badR ⟨⟨s⟩⟩ w fun W x hx _=>zyj W x hx⟩
def zby (s:List UInt8):Bool:=decide (s.length≤300)&&s.all okT8
theorem c219 (s:List UInt8):Pure prog 219 [.str s] (.bool (zby s)):=by
 intro H
 (refine fnS (imm:=z2b) z3u func219 ?_;(conv=>whnf))
 refine ⟨fun h=>?_,fun h=>?_⟩
 ·conv=>whnf
  refine cP (c243 s) ?_
  conv=>whnf
  have e:decide (s.length≤300)=true:=zqe (by have h:(s.length:Int)≤300:=h;omega)
  unfold zby
  rw [e,zq5]
  refine ⟨fun h2=>?_,fun h2=>?_⟩
  ·conv=>whnf
   rw [(zod s).1 h2]
   exact ⟨rfl,rfl⟩
  ·conv=>whnf
   cases hb:s.all okT8
   ·exact ⟨rfl,rfl⟩
   ·exact absurd ((zod s).2 hb) h2
 ·conv=>whnf
  have e:decide (s.length≤300)=false:=zqd (by have h:¬(s.length:Int)≤300:=h;omega)
  unfold zby
  rw [e]
  exact ⟨rfl,rfl⟩
open Go Ps
noncomputable def textF (s:List UInt8):Bool:=List.rec (motive:=fun _=>Bool) true (fun b _ ih=>Bool.rec (motive:=fun _=>Bool) false (Bool.rec (motive:=fun _=>Bool) false ih (Nat.ble b.toNat 126)) (Nat.ble 32 b.toNat)) s
theorem zvu (s:List UInt8):textF s=s.all okT8:=by
 induction s with
 | nil=>rfl
 | cons b s ih =>
  rw [List.all_cons,←ih]
  show (Bool.rec (motive:=fun _=>Bool) false (Bool.rec (motive:=fun _=>Bool) false (textF s) (Nat.ble b.toNat 126)) (Nat.ble 32 b.toNat):Bool)=_
  unfold okT8
  cases h1:Nat.ble 32 b.toNat
  ·have:¬32≤b.toNat:=fun h=>by rw [Nat.ble_eq_true_of_le h] at h1;cases h1
   rw [zqd this];rfl
  ·rw [zqe (zqh h1)]
   cases h2:Nat.ble b.toNat 126
   ·have:¬b.toNat≤126:=fun h=>by rw [Nat.ble_eq_true_of_le h] at h2;cases h2
    rw [zqd this];rfl
   ·rw [zqe (zqh h2)];rfl
noncomputable def textG (args:List PV):CV:=match args with
 | [.str s]=>match Nat.ble s.length 300 with
  | true=>.ok (.bool (textF s))
  | false=>.ok (.bool false)
 | _=>.err 981
theorem ex219:ExOk prog 219 (pureE textG):=zcn fun args v hv=>by
 unfold textG at hv
 split at hv
 ·rename_i s
  have h:=c219 s
  unfold zby at h
  split at hv
  ·rename_i h1
   cases hv
   rw [zqe (zqh h1),zq5,←zvu] at h
   exact h
  ·rename_i h1
   cases hv
   have:¬s.length≤300:=fun h=>by rw [Nat.ble_eq_true_of_le h] at h1;cases h1
   rw [zqd this,zq4] at h
   exact h
 ·cases hv
noncomputable def exA5:Tr EX:=exA4.set (pureE textG) 219
theorem u8w (n:Nat):IntKind.u8.wrap (n:Int)=((UInt8.ofNat n).toNat:Int):=by
 rw [UInt8.toNat_ofNat']
 simp [IntKind.wrap,IntKind.signed,IntKind.bits]
theorem shr8 (n:Nat):ishr .i64 (n:Int) 8=((n / 256:Nat):Int):=by
 show Int.fdiv (n:Int) (2 ^ (min (Int.toNat 8) 64))=_
 rw [show (2:Int) ^ (min (Int.toNat 8) 64)=256 from rfl,Int.fdiv_eq_ediv_of_nonneg _ (by decide)]
 omega
def lenB (n:Nat):List UInt8:=if n<128 then [UInt8.ofNat n] else if n≤255 then [129,UInt8.ofNat n] else [130,UInt8.ofNat (n / 256),UInt8.ofNat n]
theorem zka (n:Nat):(lenB n).length≤3:=by unfold lenB;split <;> (try split) <;> simp
theorem c237 (n:Nat) (hn:n≤1099511627776) (H:PH):CK prog 237 [.int .i64 n] H fun r H'=>r=.slice (lenB n).length ((lenB n).map bC) (some 5)∧H'=H:=by
 (refine fnS (imm:=z2l) zg5 func237 ?_;(conv=>whnf))
 refine ⟨fun h=>?_,fun h=>?_⟩
 ·conv=>whnf
  have h:(n:Int)<128:=h
  have e:lenB n=[UInt8.ofNat n]:=by unfold lenB;rw [zqp (by omega)]
  rw [e]
  refine ⟨?_,rfl⟩
  show PV.slice 1 [PV.int .u8 (IntKind.u8.wrap (n:Int))] (some 5)=PV.slice 1 [PV.int .u8 ((UInt8.ofNat n).toNat:Int)] (some 5)
  rw [u8w]
 ·conv=>whnf
  have h:¬(n:Int)<128:=h
  refine ⟨fun h2=>?_,fun h2=>?_⟩
  ·conv=>whnf
   have h2:(n:Int)≤255:=h2
   have e:lenB n=[129,UInt8.ofNat n]:=by unfold lenB;rw [zqo (by omega),zqp (by omega)]
   rw [e]
   refine ⟨?_,rfl⟩
   show PV.slice 2 [PV.int .u8 129,PV.int .u8 (IntKind.u8.wrap (n:Int))] (some 5)=PV.slice 2 [PV.int .u8 129,PV.int .u8 ((UInt8.ofNat n).toNat:Int)] (some 5)
   rw [u8w]
  ·conv=>whnf
   have h2:¬(n:Int)≤255:=h2
   have e:lenB n=[130,UInt8.ofNat (n / 256),UInt8.ofNat n]:=by unfold lenB;rw [zqo (by omega),zqo (by omega)]
   rw [e]
   refine ⟨by decide,?_⟩
   conv=>whnf
   refine ⟨?_,rfl⟩
   show PV.slice 3 [PV.int .u8 130,PV.int .u8 (IntKind.u8.wrap (ishr .i64 (n:Int) 8)),PV.int .u8 (IntKind.u8.wrap (n:Int))] (some 5)=PV.slice 3 [PV.int .u8 130,PV.int .u8 ((UInt8.ofNat (n / 256)).toNat:Int),PV.int .u8 ((UInt8.ofNat n).toNat:Int)] (some 5)
   rw [shr8,u8w,u8w]
def wrapB (tag:UInt8) (b:List UInt8):List UInt8:=tag::(lenB b.length++b)
theorem c210 (tag:UInt8) (ls:List (List UInt8)) (hn:ls.length≤1099511627776) (ht:ls.flatten.length≤1099511627000) {H:PH} {cs:List PV} (hr:Reps H cs ls) :
  CK prog 210 [bC tag,.slice ls.length cs none] H fun r H'=>r=sl (wrapB tag ls.flatten)∧H'=H:=by
 (refine fnS (imm:=z13) zg5 func210 ?_;(conv=>whnf))
 refine cO (c236 ls hn (by omega) hr) ?_
 rintro r H' ⟨rfl,rfl⟩
 conv=>whnf
 refine cO (c237 ls.flatten.length (by omega) H') ?_
 rintro r H'' ⟨rfl,rfl⟩
 conv=>whnf
 have hl:=zka ls.flatten.length
 refine cO (c236 [[tag],lenB ls.flatten.length,ls.flatten] (by show 3≤_;omega) (by simp only [zqk,zql,zqf,List.length_cons,List.length_nil];omega) (Reps.sl H'' [[tag],lenB ls.flatten.length,ls.flatten])) ?_
 rintro r H3 ⟨rfl,rfl⟩
 conv=>whnf
 refine ⟨?_,rfl⟩
 show sl [[tag],lenB ls.flatten.length,ls.flatten].flatten=_
 congr 1
 simp [wrapB]
theorem c214 (p:List UInt8) (hp:p.length≤1099511627000) (H:PH):CK prog 214 [sl p] H fun r H'=>r=sl (wrapB 4 p)∧H'=H:=by
 (refine fnS (imm:=z17) zg5 func214 ?_;(conv=>whnf))
 refine cO (c210 4 [p] (by show 1≤_;omega) (by simpa using hp) (Reps.sl H [p])) ?_
 rintro r H' ⟨rfl,rfl⟩
 conv=>whnf
 refine ⟨?_,rfl⟩
 show sl (wrapB 4 [p].flatten)=_
 rw [zqk,zql,List.append_nil]
theorem c220 (p:List UInt8) (hp:p.length≤1099511627000) (H:PH):CK prog 220 [.str p] H fun r H'=>r=sl (wrapB 27 p)∧H'=H:=by
 (refine fnS (imm:=z2c) zg5 func220 ?_;(conv=>whnf))
 refine ⟨by omega,?_⟩
 conv=>whnf
 refine cO (c210 27 [p] (by show 1≤_;omega) (by simpa using hp) (Reps.sl H [p])) ?_
 rintro r H' ⟨rfl,rfl⟩
 conv=>whnf
 refine ⟨?_,rfl⟩
 show sl (wrapB 27 [p].flatten)=_
 rw [zqk,zql,List.append_nil]
def le:Nat→Nat→List UInt8
 | 0,_=>[]
 | f+1,n=>if n=0 then [] else UInt8.ofNat n::le f (n / 256)
theorem zm1 (f:Nat):le f 0=[]:=by cases f <;> simp [le]
theorem zol:∀(f n:Nat),(le f n).length≤f
 | 0,_=>by simp [le]
 | f+1,n=>by
  unfold le
  split
  ·simp
  ·have:=zol f (n / 256)
   simp;omega
def zau (n:Int):Nat:=(min (max n 0) 4611686018427387904).toNat
def padB (b:List UInt8):List UInt8:=if b=[]∨128≤(b.getLast?.getD 0).toNat then b++[0] else b
def intB (n:Nat):List UInt8:=(padB (le 9 n)).reverse
structure InS where
 m:Nat
 H:PH
 v:PV
 d:List UInt8
def bOk (H0:PH) (d:List UInt8) (H:PH) (v:PV):Prop :=
 (d=[]∧v=.nilS)∨(d≠[]∧∃id cap T ver rest,v=.sref id 0 d.length cap∧H0.length≤id∧H[id]? = some ⟨T,d.map bC++rest,ver⟩∧d.length+rest.length=cap)
theorem zc8:∀(b:List UInt8),oldPs (b.map bC)=true
 | []=>rfl
 | _::b=>zc8 b
theorem ztn (cs:List UInt8) (rest:List PV) (x:UInt8) (h:0<rest.length):zaa (cs.length*1) [bC x] (cs.map bC++rest)=(cs++[x]).map bC++rest.drop 1:=by
 rw [za3 _ _ _ (by simp;omega),Nat.mul_one]
 rw [List.take_append_of_le_length (by simp),List.take_of_length_le (by simp),List.drop_append,List.drop_of_length_le (by simp)]
 simp
theorem zp8 {H0 H:PH} {d:List UInt8} {v:PV} (hx:Ext H0 H) (h:bOk H0 d H v) (x:UInt8) (hd:d.length≤100) {E:Env} {K:PV→PH→Prop}
  (hk:∀v' H',Ext H0 H'→bOk H0 (d++[x]) H' v'→(∃id cap,v'=.sref id 0 (d.length+1) cap)→K v' H') :
  (d=[]→∀cap',1≤cap'→K (.sref H.length 0 1 cap') (H++[⟨5,[bC x]++zal [PV.int .u8 0] (cap' - 1),0⟩])) ∧
  (∀id cap T ver rest,v=.sref id 0 d.length cap→H0.length≤id→H[id]? = some ⟨T,d.map bC++rest,ver⟩→d.length+rest.length=cap →
   (d.length+1≤cap→K (.sref id 0 (d.length+1) cap) (H.set id ⟨T,zaa (d.length*1) [bC x] (d.map bC++rest),ver+1⟩)) ∧
   (cap<d.length+1→∀cap',d.length+1≤cap'→K (.sref H.length 0 (d.length+1) cap') (H++[⟨5,((d.map bC++rest).take (d.length*1)).map dem++[bC x]++zal [PV.int .u8 0] (cap' - (d.length+1)),0⟩]))):=by
 have hz:∀n,(zal [PV.int .u8 0] n).length=n:=fun n=>by rw [(zcl (z:=[PV.int .u8 0]) (sz:=1) rfl (by omega) n).1];omega
 refine ⟨fun h0 cap' hc=>?_,fun id cap T ver rest hv hid ho hcap=>⟨fun hroom=>?_,fun hgrow cap' hc=>?_⟩⟩
 ·subst h0
  exact hk _ _ (hx.push _) (.inr ⟨by simp,H.length,cap',5,0,zal [PV.int .u8 0] (cap' - 1),rfl,hx.len,gL _ _,by rw [hz];simp;omega⟩) ⟨_,_,rfl⟩
 ·have hr:0<rest.length:=by omega
  rw [ztn _ _ _ hr]
  exact hk _ _ (hx.set hid _) (.inr ⟨by simp,id,cap,T,ver+1,rest.drop 1,by rw [zqf];rfl,hid,gS ho,by rw [zqf,List.length_drop];show d.length+1+(rest.length - 1)=cap;omega⟩) ⟨_,_,rfl⟩
 ·have e:((d.map bC++rest).take (d.length*1)).map dem++[bC x]=(d++[x]).map bC:=by
   rw [Nat.mul_one,zhp (by rw [zqq]),List.map_map,List.map_append];rfl
  rw [e]
  exact hk _ _ (hx.push _) (.inr ⟨by simp,H.length,cap',5,0,_,by rw [zqf];rfl,hx.len,gL _ _,by rw [hz,zqf];show d.length+1+(cap' - (d.length+1))=cap';omega⟩) ⟨_,_,rfl⟩
theorem zkr {H:PH} {id T v n cap:Nat} {x:List UInt8} {rest:List PV} (hid:H[id]? = some ⟨T,x.map bC++rest,v⟩) (hn:n=x.length):Reps H [.sref id 0 n cap] [x]:=by
 refine ⟨rfl,fun i c b hc hb=>?_⟩
 match i with
 | 0 =>
  simp at hc hb
  subst hc;subst hb;subst hn
  refine .inr ⟨id,0,cap,_,rfl,hid,?_⟩
  show (((x.map bC++rest).drop 0).take (x.length*1)).map dem=_
  rw [List.drop_zero,Nat.mul_one,zhp (by rw [zqq]),List.map_map];rfl
 | i+1=>simp at hc
theorem c212x (n:Int) (H0:PH):CK prog 212 [.int .i64 n] H0 fun r H'=>r=sl (wrapB 2 (intB (zau n)))∧∃ext,H'=H0++ext:=by
 (refine fnS (imm:=z15) zg5 func212 ?_;(conv=>whnf))
 have hN:min (max n 0) 4611686018427387904=(zau n:Int):=by unfold zau;omega
 have hN2:zau n≤4611686018427387904:=by unfold zau;omega
 refine lO InS (fun x=>[(0,.int .i64 x.m),(3,x.v)]) (fun x=>x.H)
  (fun x=>∃f,x.d++le f x.m=le 9 (zau n)∧x.m<256 ^ f∧x.m≤4611686018427387904∧Ext H0 x.H∧bOk H0 x.d x.H x.v) (fun x=>x.m)
  ⟨⟨zau n,H0,.nilS,[]⟩,⟨9,rfl,by show zau n<256 ^ 9;omega,hN2,Ext.refl _,.inl ⟨rfl,rfl⟩⟩,⟨zqm (PV.int .i64) hN,rfl,zqv⟩,rfl⟩ ?_
 rintro ⟨m,H,v,d⟩ ⟨f,g1,g2,g3,g4,g5⟩
 have g1:d++le f m=le 9 (zau n):=g1
 have g2:m<256 ^ f:=g2
 have g3:m≤4611686018427387904:=g3
 have g4:Ext H0 H:=g4
 have g5:bOk H0 d H v:=g5
 have hd9:d.length≤9:=by
  have:=zol 9 (zau n)
  rw [←g1,zqf] at this
  omega
 conv=>whnf
 refine ⟨fun h=>?_,fun h=>?_⟩
 ·conv=>whnf
  have h:(m:Int) > 0:=h
  have hf:∃f',f=f'+1:=by
   cases f with
   | zero=>simp at g2;omega
   | succ f=>exact ⟨f,rfl⟩
  obtain ⟨f,rfl⟩:=hf
  have hle:le (f+1) m=UInt8.ofNat m::le f (m / 256):=by
   conv=>lhs;unfold le
   rw [zqo (by omega)]
  have hlast:∀(E:Env) (H':PH) (v':PV),subE [(0,.int .i64 (ishr .i64 (m:Int) 8)),(3,v')] E→Ext H0 H'→bOk H0 (d++[UInt8.ofNat m]) H' v' →
    ∃s':InS,(∃f,s'.d++le f s'.m=le 9 (zau n)∧s'.m<256 ^ f∧s'.m≤4611686018427387904∧Ext H0 s'.H∧bOk H0 s'.d s'.H s'.v)∧subE [(0,.int .i64 s'.m),(3,s'.v)] E∧H'=s'.H∧s'.m<m:=by
   intro E H' v' hE hx hb
   rw [shr8] at hE
   refine ⟨⟨m / 256,H',v',d++[UInt8.ofNat m]⟩,⟨f,?_,?_,by show m / 256≤_;omega,hx,hb⟩,hE,rfl,by show m / 256<m;omega⟩
   ·show d++[UInt8.ofNat m]++le f (m / 256)=_
    rw [←g1,hle];simp
   ·show m / 256<256 ^ f
    rw [Nat.div_lt_iff_lt_mul (by omega),←Nat.pow_succ];exact g2
  obtain ⟨A,B⟩:=zp8 (E:=[]) (K:=fun v' H'=>Ext H0 H'∧bOk H0 (d++[UInt8.ofNat m]) H' v') g4 g5 (UInt8.ofNat m) (by omega) fun v' H' a b _=>⟨a,b⟩
  have hbw:PV.int .u8 (IntKind.u8.wrap (m:Int))=bC (UInt8.ofNat m):=zqm (PV.int .u8) (u8w m)
  rcases g5 with ⟨rfl,rfl⟩ | ⟨y1,id,cap,T,ver,rest,rfl,y2,y3,y4⟩
  ·conv=>whnf
   rw [hbw]
   refine ⟨⟨by show 1*1≤_;omega,rfl,rfl⟩,fun h=>absurd h (by omega),fun _ cap' hc=>?_⟩
   conv=>whnf
   refine ⟨by decide,?_⟩
   conv=>whnf
   exact hlast _ _ _ ⟨rfl,rfl,zqv⟩ (A rfl cap' hc).1 (A rfl cap' hc).2
  ·conv=>whnf
   rw [hbw]
   ((conv in (_[_]?)=>tactic=>exact y3);(conv=>whnf))
   obtain ⟨B1,B2⟩:=B id cap T ver rest rfl y2 y3 y4
   refine ⟨⟨rfl,by show (d.length+1)*1≤_;omega,rfl,rfl,by show d.length*1≤(d.map bC++rest).length;simp⟩,fun hroom=>⟨by show (d.length+1)*1≤(d.map bC++rest).length;rw [zqf,zqq];omega,?_⟩,fun hgrow cap' hc=>?_⟩
   ·conv=>whnf
    refine ⟨by decide,?_⟩
    conv=>whnf
    exact hlast _ _ _ ⟨rfl,rfl,zqv⟩ (B1 hroom).1 (B1 hroom).2
   ·conv=>whnf
    refine ⟨by decide,?_⟩
    conv=>whnf
    exact hlast _ _ _ ⟨rfl,rfl,zqv⟩ (B2 hgrow cap' hc).1 (B2 hgrow cap' hc).2
 ·conv=>whnf
  have h:¬(m:Int) > 0:=h
  have hm:m=0:=by omega
  subst hm
  rw [zm1,List.append_nil] at g1
  have k4:Ext H0 H:=g4
  have k5:bOk H0 d H v:=g5
  have k1:d=le 9 (zau n):=g1
  clear g1 g2 g3 g4 g5 h
  obtain ⟨A,B⟩:=zp8 (H0:=H0) (H:=H) (d:=d) (v:=v) (E:=[]) (K:=fun v' H'=>Ext H0 H'∧bOk H0 (d++[0]) H' v') k4 k5 0 (by omega) fun v' H' a b _=>⟨a,b⟩
  rcases k5 with ⟨rfl,rfl⟩ | ⟨y1,id,cap,T,ver,rest,rfl,y2,y3,y4⟩
  ·have hpad:padB (le 9 (zau n))=[0]:=by rw [←k1];rfl
   conv=>whnf
   refine ⟨fun _=>?_,fun h=>absurd rfl h⟩
   conv=>whnf
   refine ⟨⟨by show 1*1≤_;omega,rfl,rfl⟩,fun h=>absurd h (by omega),fun _ cap' hc=>?_⟩
   conv=>whnf
   refine cO (c238 H.length 1 cap' [0] (zal [PV.int .u8 0] (cap' - 1)) 5 0 (H++[PObj.mk 5 ([bC 0]++zal [PV.int .u8 0] (cap' - 1)) 0]) (gL _ _) (by simp) (by first | omega | (simp;omega) | simp)) ?_
   rintro r H' ⟨rfl,v',rfl⟩
   conv=>whnf
   refine cO (c210 2 [([0]).reverse] (cs:=[.sref H.length 0 (1) cap']) (by show 1≤_;omega) (by first | omega | (simp;omega) | simp) (zkr (gS (gL _ _)) (by simp))) ?_
   rintro r H'' ⟨rfl,rfl⟩
   conv=>whnf
   refine ⟨?_,(k4.push _).set k4.len _⟩
   show sl (wrapB 2 [([0]).reverse].flatten)=sl (wrapB 2 (intB (zau n)))
   rw [zqk,zql,List.append_nil]
   unfold intB
   rw [hpad]
  ·have hdl:0<d.length:=List.length_pos_iff.2 y1
   have hlst:d[d.length - 1]? = some (d.getLast?.getD 0):=by
    rw [List.getLast?_eq_getElem?,zqc (by omega)];rfl
   have hpad:padB (le 9 (zau n))=if 128≤(d.getLast?.getD 0).toNat then d++[0] else d:=by
    rw [←k1];unfold padB
    simp only [y1,false_or]
   have hidx:(0+(((d.length:Int) - 1)).toNat*1)=0+((d.length - 1:Nat):Int).toNat*1:=by omega
   obtain ⟨B1,B2⟩:=B id cap T ver rest rfl y2 y3 y4
   conv=>whnf
   refine ⟨fun h=>absurd (show (d.length:Int)=0 from h) (by omega),fun _=>?_⟩
   conv=>whnf
   have hw1:IntKind.i64.wrap ((d.length:Int) - 1)=(d.length:Int) - 1:=by rw [w64 (by omega) (by omega)]
   refine ⟨⟨by show 0≤IntKind.i64.wrap ((d.length:Int) - 1);rw [hw1];omega,by show IntKind.i64.wrap ((d.length:Int) - 1)<d.length;rw [hw1];omega⟩,?_⟩
   conv=>whnf
   ((conv in (_[_]?)=>tactic=>exact y3);(conv=>whnf))
   rw [hw1]
   ((conv in (dropN _ _)=>tactic=>exact (show dropN (0+((d.length:Int) - 1).toNat*1) (d.map bC++rest)=bC (d.getLast?.getD 0)::((d.drop (d.length - 1+1)).map bC++rest) by rw [hidx];exact zfz d rest hlst));(conv=>whnf))
   refine ⟨fun h128=>?_,fun h128=>?_⟩
   ·have h128:(128:Int)≤((d.getLast?.getD 0).toNat:Int):=h128
    rw [zqp (by omega)] at hpad
    conv=>whnf
    ((conv in (_[_]?)=>tactic=>exact y3);(conv=>whnf))
    refine ⟨⟨rfl,by show (d.length+1)*1≤_;omega,rfl,rfl,by show d.length*1≤(d.map bC++rest).length;simp⟩,fun hroom=>⟨by show (d.length+1)*1≤(d.map bC++rest).length;rw [zqf,zqq];omega,?_⟩,fun hgrow cap' hc=>?_⟩
    ·conv=>whnf
     have hs:=ztn d rest 0 (by omega)
     have hid2:(H.set id (PObj.mk T (zaa (d.length*1) [bC 0] (d.map bC++rest)) (ver+1)))[id]? = some ⟨T,(d++[0]).map bC++rest.drop 1,ver+1⟩:=by rw [hs];exact gS y3
     refine cO (c238 id (d.length+1) cap (d++[0]) (rest.drop 1) T (ver+1) (H.set id (PObj.mk T (zaa (d.length*1) [bC 0] (d.map bC++rest)) (ver+1))) hid2 (by simp) (by first | omega | (simp;omega) | simp)) ?_
     rintro r H' ⟨rfl,v',rfl⟩
     conv=>whnf
     refine cO (c210 2 [((d++[0])).reverse] (cs:=[.sref id 0 ((d.length+1)) cap]) (by show 1≤_;omega) (by first | omega | (simp;omega) | simp) (zkr (gS hid2) (by simp))) ?_
     rintro r H'' ⟨rfl,rfl⟩
     conv=>whnf
     refine ⟨?_,(k4.set y2 _).set y2 _⟩
     show sl (wrapB 2 [((d++[0])).reverse].flatten)=sl (wrapB 2 (intB (zau n)))
     rw [zqk,zql,List.append_nil]
     unfold intB
     rw [hpad]
    ·conv=>whnf
     have hz:((d.map bC++rest).take (d.length*1)).map dem++[bC 0]=(d++[0]).map bC:=by
      rw [Nat.mul_one,zhp (by rw [zqq]),List.map_map,List.map_append];rfl
     have hid2:(H++[PObj.mk 5 (((d.map bC++rest).take (d.length*1)).map dem++[bC 0]++zal [PV.int .u8 0] (cap' - (d.length+1))) 0])[H.length]? = some ⟨5,(d++[0]).map bC++zal [PV.int .u8 0] (cap' - (d.length+1)),0⟩:=by rw [hz];exact gL _ _
     refine cO (c238 H.length (d.length+1) cap' (d++[0]) (zal [PV.int .u8 0] (cap' - (d.length+1))) 5 0 (H++[PObj.mk 5 (((d.map bC++rest).take (d.length*1)).map dem++[bC 0]++zal [PV.int .u8 0] (cap' - (d.length+1))) 0]) hid2 (by simp) (by first | omega | (simp;omega) | simp)) ?_
     rintro r H' ⟨rfl,v',rfl⟩
     conv=>whnf
     refine cO (c210 2 [((d++[0])).reverse] (cs:=[.sref H.length 0 ((d.length+1)) cap']) (by show 1≤_;omega) (by first | omega | (simp;omega) | simp) (zkr (gS hid2) (by simp))) ?_
     rintro r H'' ⟨rfl,rfl⟩
     conv=>whnf
     refine ⟨?_,(k4.push _).set k4.len _⟩
     show sl (wrapB 2 [((d++[0])).reverse].flatten)=sl (wrapB 2 (intB (zau n)))
     rw [zqk,zql,List.append_nil]
     unfold intB
     rw [hpad]
   ·have h128:¬(128:Int)≤((d.getLast?.getD 0).toNat:Int):=h128
    rw [zqo (by omega)] at hpad
    conv=>whnf
    refine cO (c238 id d.length cap d rest T ver H y3 (by simp) (by first | omega | (simp;omega) | simp)) ?_
    rintro r H' ⟨rfl,v',rfl⟩
    conv=>whnf
    refine cO (c210 2 [(d).reverse] (cs:=[.sref id 0 (d.length) cap]) (by show 1≤_;omega) (by first | omega | (simp;omega) | simp) (zkr (gS y3) (by simp))) ?_
    rintro r H'' ⟨rfl,rfl⟩
    conv=>whnf
    refine ⟨?_,k4.set y2 _⟩
    show sl (wrapB 2 [(d).reverse].flatten)=sl (wrapB 2 (intB (zau n)))
    rw [zqk,zql,List.append_nil]
    unfold intB
    rw [hpad]
theorem c212 (n:Int):Pure prog 212 [.int .i64 n] (sl (wrapB 2 (intB (zau n)))):=Pure.of_gc (zc8 _) (c212x n)
noncomputable def intG (args:List PV):CV:=match args with
 | [.int .i64 n]=>slF (wrapB 2 (intB (zau n)))
 | _=>.err 982
theorem ex212:ExOk prog 212 (pureE intG):=zcn fun args v hv=>by
 unfold intG at hv
 split at hv
 ·rw [zxa] at hv
  cases hv
  exact c212 _
 ·cases hv
noncomputable def exA6:Tr EX:=exA5.set (pureE intG) 212
def zsb:List Nat:=[5]
theorem c118r (id off n:Nat) (o:PObj) (H:PH) (ho:H[id]? = some o) (hn:0<n) (hl:(((o.cs.drop off).take (n*1)).map dem).length=n) (h1:(((o.cs.drop off).take (n*1)).map dem).all oneP=true) (hb:(0+n)*16≤140737488355328) :
  CK prog 118 [.rref id off n] H fun r H'=>∃cap,n≤cap∧r=.sref (H.length+1) 0 n cap∧H'=H++[(⟨9,[],0⟩:PObj),⟨9,((o.cs.drop off).take (n*1)).map dem++zal [.str []] (cap - n),0⟩]:=by
 (refine fnS (imm:=zsb) ziv func118 ?_;(conv=>whnf))
 conv=>whnf
 have hlt:id<H.length:=(zq1.1 ho).1
 rw [zq2 hlt,ho,gL]
 refine ⟨⟨rfl,hb,?_,h1,?_⟩,fun h=>?_,fun _ cap' hc=>?_⟩
 ·rw [hl];exact (Nat.mul_one n).symm
 ·rw [Nat.zero_mul];exact Nat.zero_le _
 ·exact absurd h (by omega)
 ·conv=>whnf
  refine ⟨cap',by omega,?_,?_⟩
  ·rw [zqf,Nat.zero_add];rfl
  ·rw [List.append_assoc,Nat.zero_add];rfl
theorem c118q (id off n:Nat) (o:PObj) (H:PH) (ho:H[id]? = some o) (hn:0<n) (hl:(((o.cs.drop off).take (n*1)).map dem).length=n) (h1:(((o.cs.drop off).take (n*1)).map dem).all oneP=true) (hf:(((o.cs.drop off).take (n*1)).map dem).all flatP=true) (hb:(0+n)*16≤140737488355328) :
  CK prog 118 [.rref id off n] H fun r H'=>r=.slice n (((o.cs.drop off).take (n*1)).map dem) (some 9)∧H'=H:=by
 refine CK.own (nn:=n) (cs:=((o.cs.drop off).take (n*1)).map dem) (R:=fun H'=>H'=H) (c118r id off n o H ho hn hl h1 hb) (e0:=9) (sz:=1) (by kernel_rfl) (by decide) (by rw [hl,Nat.mul_one]) hf fun r H' hh=>?_
 obtain ⟨cap,hc,rfl,rfl⟩:=hh
 refine ⟨H,_,H.length+1,cap,⟨9,((o.cs.drop off).take (n*1)).map dem++zal [.str []] (cap - n),0⟩,rfl,Kept.refl H,rfl,rfl,by omega,?_,rfl,?_,?_⟩
 ·rw [zqi (by omega),show H.length+1 - H.length=1 by omega];rfl
 ·show (_++_:List PV).length=_
  rw [zqf,hl]
  have:(zal [PV.str []] (cap - n)).length=cap - n:=by rw [zed,List.length_replicate]
  omega
 ·show (_++_:List PV).take _=_
  rw [List.take_left' rfl]
theorem c118s (id off n c:Nat) (o:PObj) (H:PH) (ho:H[id]? = some o) (hn:0<n) (hl:(((o.cs.drop off).take (n*1)).map dem).length=n) (h1:(((o.cs.drop off).take (n*1)).map dem).all oneP=true) (hb:(0+n)*16≤140737488355328) :
  CK prog 118 [.sref id off n c] H fun r H'=>∃cap,n≤cap∧r=.sref (H.length+1) 0 n cap∧H'=H++[(⟨9,[],0⟩:PObj),⟨9,((o.cs.drop off).take (n*1)).map dem++zal [.str []] (cap - n),0⟩]:=by
 (refine fnS (imm:=zsb) ziv func118 ?_;(conv=>whnf))
 conv=>whnf
 have hlt:id<H.length:=(zq1.1 ho).1
 rw [zq2 hlt,ho,gL]
 refine ⟨⟨rfl,hb,?_,h1,?_⟩,fun h=>?_,fun _ cap' hc=>?_⟩
 ·rw [hl];exact (Nat.mul_one n).symm
 ·rw [Nat.zero_mul];exact Nat.zero_le _
 ·exact absurd h (by omega)
 ·conv=>whnf
  refine ⟨cap',by omega,?_,?_⟩
  ·rw [zqf,Nat.zero_add];rfl
  ·rw [List.append_assoc,Nat.zero_add];rfl
theorem c118t (id off n c:Nat) (o:PObj) (H:PH) (ho:H[id]? = some o) (hn:0<n) (hl:(((o.cs.drop off).take (n*1)).map dem).length=n) (h1:(((o.cs.drop off).take (n*1)).map dem).all oneP=true) (hf:(((o.cs.drop off).take (n*1)).map dem).all flatP=true) (hb:(0+n)*16≤140737488355328) :
  CK prog 118 [.sref id off n c] H fun r H'=>r=.slice n (((o.cs.drop off).take (n*1)).map dem) (some 9)∧H'=H:=by
 refine CK.own (nn:=n) (cs:=((o.cs.drop off).take (n*1)).map dem) (R:=fun H'=>H'=H) (c118s id off n c o H ho hn hl h1 hb) (e0:=9) (sz:=1) (by kernel_rfl) (by decide) (by rw [hl,Nat.mul_one]) hf fun r H' hh=>?_
 obtain ⟨cap,hc,rfl,rfl⟩:=hh
 refine ⟨H,_,H.length+1,cap,⟨9,((o.cs.drop off).take (n*1)).map dem++zal [.str []] (cap - n),0⟩,rfl,Kept.refl H,rfl,rfl,by omega,?_,rfl,?_,?_⟩
 ·rw [zqi (by omega),show H.length+1 - H.length=1 by omega];rfl
 ·show (_++_:List PV).length=_
  rw [zqf,hl]
  have:(zal [PV.str []] (cap - n)).length=cap - n:=by rw [zed,List.length_replicate]
  omega
 ·show (_++_:List PV).take _=_
  rw [List.take_left' rfl]
noncomputable def clR (args:List PV) (h:CH):CC:=match args with
 | [.slice n cs none]=>match clE 9 1 16 args with
  | .ok v=>.pure v
  | .err k=>.err k
 | [.rref id off n]=>match h.get id with
  | some o=>fL (((o.cs.drop off).take (Nat.mul n 1)).map dem) fun cs=>match Nat.beq cs.length n with
   | true=>match cs.all oneP with
    | true=>match cs.all flatP with
     | true=>match Nat.blt 0 n with
      | true=>match Nat.ble (Nat.mul (Nat.add 0 n) 16) 140737488355328 with
       | true=>.pure (.slice n cs (some 9))
       | false=>.err 970
      | false=>.err 971
     | false=>.err 972
    | false=>.err 973
   | false=>.err 974
  | none=>.err 975
 | [.sref id off n c]=>match h.get id with
  | some o=>fL (((o.cs.drop off).take (Nat.mul n 1)).map dem) fun cs=>match Nat.beq cs.length n with
   | true=>match cs.all oneP with
    | true=>match cs.all flatP with
     | true=>match Nat.blt 0 n with
      | true=>match Nat.ble (Nat.mul (Nat.add 0 n) 16) 140737488355328 with
       | true=>.pure (.slice n cs (some 9))
       | false=>.err 970
      | false=>.err 971
     | false=>.err 972
    | false=>.err 973
   | false=>.err 974
  | none=>.err 975
 | _=>.err 976
theorem zwo:ExOk prog 118 clR:=by
 refine ⟨fun args hh r h' hr H rh=>?_,fun args hh r hr H rh=>?_⟩
 ·exfalso
  unfold clR at hr
  split at hr
  ·split at hr <;> cases hr
  ·split at hr
   ·rw [fL_eq] at hr
    repeat' (split at hr)
    all_goals cases hr
   ·cases hr
  ·split at hr
   ·rw [fL_eq] at hr
    repeat' (split at hr)
    all_goals cases hr
   ·cases hr
  ·cases hr
 ·unfold clR at hr
  split at hr
  ·have:=ex118.pure
   rename_i n cs
   refine ex118.pure _ hh r ?_ H rh
   unfold pureE
   split at hr
   ·rename_i v hv
    cases hr
    first | rw [hv] | rfl
   ·cases hr
  ·rename_i id off n
   split at hr
   ·rename_i o ho
    rw [fL_eq] at hr
    split at hr
    ·rename_i e1
     split at hr
     ·rename_i e2
      split at hr
      ·rename_i e3
       split at hr
       ·rename_i e4
        split at hr
        ·rename_i e5
         cases hr
         exact c118q id off n o H (rh.look ho) (by rw [Nat.blt_eq] at e4;exact e4) (zqg e1) e2 e3 (zqh e5)
        ·cases hr
       ·cases hr
      ·cases hr
     ·cases hr
    ·cases hr
   ·cases hr
  ·rename_i id off n c
   split at hr
   ·rename_i o ho
    rw [fL_eq] at hr
    split at hr
    ·rename_i e1
     split at hr
     ·rename_i e2
      split at hr
      ·rename_i e3
       split at hr
       ·rename_i e4
        split at hr
        ·rename_i e5
         cases hr
         exact c118t id off n c o H (rh.look ho) (by rw [Nat.blt_eq] at e4;exact e4) (zqg e1) e2 e3 (zqh e5)
        ·cases hr
       ·cases hr
      ·cases hr
     ·cases hr
    ·cases hr
   ·cases hr
  ·cases hr
noncomputable def exA7:Tr EX:=exA6.set clR 118
end Go.Proofs.Tryz
