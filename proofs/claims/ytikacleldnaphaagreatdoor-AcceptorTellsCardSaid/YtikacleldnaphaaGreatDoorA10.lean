import Derived.Test.YtikacleldnaphaaGreatDoorA8
import Derived.Test.YtikacleldnaphaaGreatDoorA9
set_option linter.all false
set_option maxRecDepth 100000
namespace Go.Proofs.Tryz
open Go Ps
noncomputable section
def okIs (v:PV) (c:CC):Bool:=match c with
 | .ok r _=>pvEq r v
 | .pure r=>pvEq r v
 | .err _=>false
theorem zfr {f:Nat} {args:List PV} {v:PV} (hv:oldR v=true) (ha:args.all argQ=true) (hr:okIs v (run8 f args)=true):Pure prog f args v:=by
 intro H
 refine CK.frameR hv ha ?_ H
 have hs:CallS prog (cCall (extOf exA8) tgA ftA 1000000 60):=zha follows ztz zjb (znj tgA) (fun call hc=>zj2 (by rw [zr1];exact zr2) call hc) zr7 1000000 60
 unfold run8 at hr
 generalize hc:cCall (extOf exA8) tgA ftA 1000000 60 f args hZ=c at hr
 unfold okIs at hr
 split at hr
 ·have h:=zij _ _ hr
  exact (hs.ok f args hZ _ _ hc [] (show RH [] hZ from by exact rfl)).mono fun r H' hh=>by rw [hh.1,h]
 ·have h:=zij _ _ hr
  exact (hs.pure f args hZ _ hc [] (show RH [] hZ from by exact rfl)).mono fun r H' hh=>by rw [hh.1,h]
 ·cases hr
def aE:List UInt8:=[65,46,69,68,85]
def bE:List UInt8:=[66,46,69,68,85]
def eE:List UInt8:=[69,68,85]
def nA:List UInt8:=[97,110,110]
def nM:List UInt8:=[109,97,105,108]
def zgt:PV:=.slice 3 [.str aE,.str eE,.str bE] none
def zln:PV:=.slice 4 [.str aE,.str eE,.str eE,.str aE,.str eE,.str bE,.str bE,.str eE] none
def lE:PV:=.slice 1 [.str eE] none
theorem c134E:Pure prog 134 [.str eE,.str aE,.str bE] (.tup [lE,.int .i64 0]):=zfr rfl rfl (by kernel_rfl)
theorem c69E:Pure prog 69 [zgt,.str aE] (.bool true):=zfr rfl rfl (by kernel_rfl)
theorem c135E:Pure prog 135 [.agg [zgt,zln,.nilS],.str aE,.str bE,lE] (.bool true):=zfr rfl rfl (by kernel_rfl)
def objIs (o:Option PObj) (T:Nat) (cs:List PV) (v:Nat):Bool:=match o with
 | some ob=>match Nat.beq ob.T T with
  | true=>match Nat.beq ob.ver v with
   | true=>pvsEq ob.cs cs
   | false=>false
  | false=>false
 | none=>false
theorem zu6 {o:Option PObj} {T:Nat} {cs:List PV} {v:Nat} (h:objIs o T cs v=true):o=some ⟨T,cs,v⟩:=by
 unfold objIs at h
 split at h
 ·rename_i ob
  split at h
  ·rename_i h1
   split at h
   ·rename_i h2
    have e1:=zqg h1
    have e2:=zqg h2
    have e3:=zbl _ _ h
    cases ob
    simp only at e1 e2 e3
    rw [e1,e2,e3]
   ·cases h
  ·cases h
 ·cases h
def keyK (k:UInt8):List UInt8:=k::List.replicate 31 0
def ent (kv:Nat) (k:UInt8) (box:Nat):Ent:=⟨bE,nM,kv,keyK k,box⟩
def accO (rid sid:Nat) (ok bad:Int) (v:Nat):PObj:=⟨122,[.str bE,.str nM,zgt,zln,.nilS,.ptr (some (rid,0)),.ptr (some (sid,0)),.int .i64 ok,.int .i64 bad],v⟩
def entsE (d:Nat):List Ent:=[ent 1 1 (Nat.add 11 d),ent 2 2 (Nat.add 22 d)]
structure Beg (d:Nat) (H:PH):Prop where
 p:H[Nat.add 62 d]? = some ⟨44,[.ptr (some (Nat.add 53 d,0)),.ptr (some (Nat.add 61 d,0))],0⟩
 a:H[Nat.add 53 d]? = some (accO d (Nat.add 52 d) 0 0 0)
 s:H[Nat.add 52 d]? = some ⟨199,[.nilS,.bool false,.int .i64 0],0⟩
 ring:RingAt H d (entsE d)
def begC (d:Nat) (c:CC):Bool:=match c with
 | .ok r h=>pvEq r (.ptr (some (Nat.add 62 d,0)))&&(objIs (h.get (Nat.add 62 d)) 44 [.ptr (some (Nat.add 53 d,0)),.ptr (some (Nat.add 61 d,0))] 0&&(objIs (h.get (Nat.add 53 d)) 122 (accO d (Nat.add 52 d) 0 0 0).cs 0&&(objIs (h.get (Nat.add 52 d)) 199 [.nilS,.bool false,.int .i64 0] 0 &&
   (objIs (h.get d) 154 (ringO (entsE d) 3).cs 3&&(objIs (h.get (Nat.add 10 d)) 262 (zej ((keyK 1).take 16)).cs 0&&(objIs (h.get (Nat.add 11 d)) 217 (boxO (keyK 1) (Nat.add 10 d)).cs 0&&(objIs (h.get (Nat.add 21 d)) 262 (zej ((keyK 2).take 16)).cs 0&&objIs (h.get (Nat.add 22 d)) 217 (boxO (keyK 2) (Nat.add 21 d)).cs 0)))))))
 | _=>false
def cGet (c:CC) (i:Nat):Option PObj:=match c with
 | .ok _ h=>h.get i
 | _=>none
theorem zzi {d:Nat} {h0:CH} {H0:PH} (rh0:RH H0 h0) (hr:begC d (cCall (extOf exA8) tgA ftA 1000000 60 12 [.int .i64 0] h0)=true):CK prog 12 [.int .i64 0] H0 fun r H=>r=.ptr (some (Nat.add 62 d,0))∧Beg d H∧∀i x,cGet (cCall (extOf exA8) tgA ftA 1000000 60 12 [.int .i64 0] h0) i=some x→H[i]? = some x:=by
 have hs:CallS prog (cCall (extOf exA8) tgA ftA 1000000 60):=zha follows ztz zjb (znj tgA) (fun call hc=>zj2 (by rw [zr1];exact zr2) call hc) zr7 1000000 60
 generalize hc:cCall (extOf exA8) tgA ftA 1000000 60 12 [.int .i64 0] h0=c at hr ⊢
 unfold begC at hr
 split at hr
 ·simp only [zqb] at hr
  obtain ⟨h1,h3,h4,h5,h6,h7,h8,h9,h10⟩:=hr
  have h1:=zij _ _ h1
  refine (hs.ok 12 _ h0 _ _ hc H0 rh0).mono fun r H' hh=>⟨hh.1.trans h1,?_,fun i x hx=>hh.2.look hx⟩
  have rh:=hh.2
  have g:∀{i T cs v},objIs _ T cs v=true→H'[i]? = _:=fun {i T cs v} h=>rh.look (zu6 (o:=CH.get _ i) h)
  refine ⟨g h3,g h4,g h5,⟨⟨3,g h6⟩,fun e he=>?_⟩⟩
  have hb:∀(k:UInt8) (i j:Nat),H'[i]? = some (zej ((keyK k).take 16))→H'[j]? = some (boxO (keyK k) i)→BoxAt H' j (keyK k):=fun k i j a b =>
   ⟨rfl,i,0,0,0,0,_,b,a,zl6 _⟩
  simp only [entsE,List.mem_cons,List.not_mem_nil,or_false] at he
  rcases he with rfl | rfl
  ·exact hb 1 (Nat.add 10 d) _ (g h7) (g h8)
  ·exact hb 2 (Nat.add 21 d) _ (g h9) (g h10)
 ·cases hr
theorem beg_o (o:PObj):cGet (cCall (extOf exA8) tgA ftA 1000000 60 12 [.int .i64 0] (hZ.push o)) 0=some o:=by kernel_rfl
theorem c12E1 (o:PObj):CK prog 12 [.int .i64 0] [o] fun r H=>r=.ptr (some (63,0))∧Beg 1 H∧H[0]? = some o :=
 (zzi (d:=1) (h0:=hZ.push o) (show RH [o] (hZ.push o) from RH.push (H:=[]) (h:=hZ) (show RH [] hZ from by exact rfl) o) (by kernel_rfl)).mono fun r H h=>⟨h.1,h.2.1,h.2.2 0 o (beg_o o)⟩
end
end Go.Proofs.Tryz
