/-
  Models of the functions that this seat reaches.
-/
import Derived.Test.YtaobbpcbeopddaaGreatDoorGTab
import Derived.Test.YtaobbpcbeopddaaGreatDoorGCore6
namespace Go.Proofs.Tryz
open Go.Av
set_option maxRecDepth 100000
set_option maxHeartbeats 8000000
set_option linter.all false
def zy:List (List UInt8):=[[97,116,97,110,50],[99,108,111,115,101],[99,111,115],[101,120,112],[103,115,117,98],[105,110,100,101,120],[105,110,116],[108,101,110,103,116,104],[108,111,103],[109,97,116,99,104],[114,97,110,100],[115,105,110],[115,112,108,105,116],[115,112,114,105,110,116,102],[115,113,114,116],[115,114,97,110,100],[115,117,98],[115,117,98,115,116,114],[115,121,115,116,101,109],[116,111,108,111,119,101,114],[116,111,117,112,112,101,114]]
def sF:List (List UInt8):=[[66,69,71,73,78],[69,78,68],[102,117,110,99,116,105,111,110],[105,102],[101,108,115,101],[119,104,105,108,101],[102,111,114],[100,111],[98,114,101,97,107],[99,111,110,116,105,110,117,101],[110,101,120,116],[101,120,105,116],[114,101,116,117,114,110],[100,101,108,101,116,101],[105,110],[112,114,105,110,116],[112,114,105,110,116,102]]
def zx:List (List UInt8):=[[123],[125],[40],[41],[91],[93],[44],[59],[43,61],[45,61],[42,61],[47,61],[37,61],[94,61],[124,124],[38,38],[33,126],[61,61],[60,61],[62,61],[33,61],[43,43],[45,45],[62,62],[61],[43],[45],[42],[47],[37],[94],[33],[62],[60],[124],[63],[58],[126],[36]]
def GG:Nat->Option (List V)
  | 0=>some (zy.map V.s)
  | 1=>some (sF.map V.s)
  | 2=>some (zx.map V.s)
  | _=>none
def GS (l:List Nat) (g:Nat):Option (List V):=bif l.contains g then GG g else none
def iY {f:FuncId} {vs:List V} {H:Hp} {r:V} {H1:Hp} {l l1:List Nat} (h:AC Tryz.prog (GS l) f vs H r H1) (hs:(l.all fun g=>l1.contains g)=true):AC Tryz.prog (GS l1) f vs H r H1:=by
  refine Go.Av.AC.mono h fun g cs hg=>?_;unfold GS at hg ⊢;cases hc:l.contains g with
  | false=>rw [hc] at hg;cases hg
  | true=>
    rw [hc] at hg;have:=kW.1 hs g (Hq.1 hc);rw [this];exact hg
def mix:Tryz.prog.follows .mixedOrders=true:=au
def wR {G:Nat->Option (List V)} {ops:Array Oper} {draw:Bool} {T0:List V} {H0:Hp} {Q:St->Prop} (n q:Nat) {i:Nat} {T:List V} {H:Hp} {Es:List (Bool×Eff)} (k:W Tryz.prog G ops draw T0 H0 (i+n) (pV D G ops n q i T H).T (pV D G ops n q i T H).H (Es++(pV D G ops n q i T H).Es) Q) (h:(Cy D G ops n q i T H).isSome=true:=by kernel_rfl):W Tryz.prog G ops draw T0 H0 i T H Es Q:=W.run Dk n q h k
def cU {G:Nat->Option (List V)} {L:Option Nat} (n q:Nat) (T':List V) (H':Hp) {id:Nat} {l:List Oper} {draw:Bool} {c:Code} {T:List V} {H:Hp} {Q:Exit->St->Prop} (k:CO L Tryz.prog G c ⟨T',H'⟩ Q) (h:Rl D G l.toArray draw n q T H T' H'=(true,T',some H'):=by kernel_rfl):CO L Tryz.prog G (.seq (.region id l.toArray draw) c) ⟨T,H⟩ Q:=cu Dk mix n q T' H' h k
def cE {G:Nat->Option (List V)} {L:Option Nat} (n q:Nat) (T':List V) (H':Hp) {id:Nat} {l:List Oper} {draw:Bool} {T:List V} {H:Hp} {Q:Exit->St->Prop} (hQ:∀ st,Weak st ⟨T',H'⟩->Q .normal st) (h:Rl D G l.toArray draw n q T H T' H'=(true,T',some H'):=by kernel_rfl):CO L Tryz.prog G (.region id l.toArray draw) ⟨T,H⟩ Q:=ce Dk mix n q T' H' h hQ
def cV {G:Nat->Option (List V)} {L:Option Nat} (q:Nat) {id:Nat} {l:List Oper} {draw:Bool} {c:Code} {T:List V} {H:Hp} {Q:Exit->St->Prop} (k:CO L Tryz.prog G c ⟨(pV D G l.toArray l.toArray.size q 0 T H).T,(pV D G l.toArray l.toArray.size q 0 T H).H⟩ Q) (h:Rm D G l.toArray draw q T H=true:=by kernel_rfl):CO L Tryz.prog G (.seq (.region id l.toArray draw) c) ⟨T,H⟩ Q:=cv Dk mix q k h
def cK {G:Nat->Option (List V)} {L:Option Nat} (q:Nat) {ι:Type} {J:ι->St} {R:ι->Prop} {id:Nat} {l:List Oper} {draw:Bool} {T:List V} {H:Hp} {Q:Exit->St->Prop} (hk:∀ i,R i->∀ st,Weak st (J i)->Q .normal st) (i:ι) (hi:R i) (m:Ren) (ks:List Nat) (h:Rn m ks (Rm D G l.toArray draw q T H) (pV D G l.toArray l.toArray.size q 0 T H).T (pV D G l.toArray l.toArray.size q 0 T H).H=(true,(J i).T,some (J i).H):=by kernel_rfl):CO L Tryz.prog G (.region id l.toArray draw) ⟨T,H⟩ Q:=ck Dk mix q hk i hi m ks h
def cC {G:Nat->Option (List V)} {L:Option Nat} (n q:Nat) {id:Nat} {l:List Oper} {draw:Bool} {c:Code} {T:List V} {H:Hp} {Q:Exit->St->Prop} {fid:FuncId} {vs:List V} {rc:V} (hA:AC Tryz.prog G fid vs [] rc []) (hcf:yE Tryz.prog fid) (k:CO L Tryz.prog G c ⟨(Nj D G l.toArray n q rc T H).T,(Nj D G l.toArray n q rc T H).H⟩ Q) (h:ccC D G l.toArray draw n q rc T H=(true,some (fid,vs,[]),rc):=by kernel_rfl):CO L Tryz.prog G (.seq (.region id l.toArray draw) c) ⟨T,H⟩ Q:=cc Dk mix n q hA hcf k h
def wD {G:Nat->Option (List V)} {ops:Array Oper} {draw:Bool} {T0:List V} {H0:Hp} {i:Nat} {T:List V} {H:Hp} {Es:List (Bool×Eff)} {Q:St->Prop} {fid:FuncId} {vs:List V} {Hc dU:Hp} {rc:V} (h:AC Tryz.prog G fid vs Hc rc dU) (hcf:yE Tryz.prog fid) (q m:Ren) {Z:List (Nat×List (List V))} (N:List Nat) (hZ:bO H Z) (k:W Tryz.prog G ops draw T0 H0 (i+1) (fB T (jf ops i)<|rc.rn m) (je m dU++bU (Z.map (·.1)++q.map (·.1)) H) (Es++[(true,{v:=rc.rn m,C:=Z.map (·.1)++q.map (·.1),new:=je m dU,N:=N})]) Q) (hn:(Ej q m (Z.map (·.1)) N&&AX dU)=true:=by kernel_rfl) (hc:Ig G ops q Z i T H=some (fid,vs,Hc):=by kernel_rfl):W Tryz.prog G ops draw T0 H0 i T H Es Q:=W.call h hcf q m N hZ hn hc k
def wC {G:Nat->Option (List V)} {ops:Array Oper} {draw:Bool} {T0:List V} {H0:Hp} {i:Nat} {T:List V} {H:Hp} {Es:List (Bool×Eff)} {Q:St->Prop} {fid:FuncId} {vs:List V} {Hc dU:Hp} {rc:V} (h:AC Tryz.prog G fid vs Hc rc dU) (hcf:yE Tryz.prog fid) (q m:Ren) (N:List Nat) (k:W Tryz.prog G ops draw T0 H0 (i+1) (fB T (jf ops i)<|rc.rn m) (je m dU++bU (([]:List (Nat×List (List V))).map (·.1)++q.map (·.1)) H) (Es++[(true,{v:=rc.rn m,C:=([]:List (Nat×List (List V))).map (·.1)++q.map (·.1),new:=je m dU,N:=N})]) Q) (hn:(Ej q m (([]:List (Nat×List (List V))).map (·.1)) N&&AX dU)=true:=by kernel_rfl) (hc:Ig G ops q [] i T H=some (fid,vs,Hc):=by kernel_rfl):W Tryz.prog G ops draw T0 H0 i T H Es Q:=W.call h hcf q m N (show bO _ [] from trivial) hn hc k
def w0 {G:Nat->Option (List V)} {ops:Array Oper} {draw:Bool} {T0:List V} {H0:Hp} {i:Nat} {T:List V} {H:Hp} {Es:List (Bool×Eff)} {Q:St->Prop} {fid:FuncId} {vs:List V} {rc:V} (h:AC Tryz.prog G fid vs [] rc []) (hcf:yE Tryz.prog fid) (k:W Tryz.prog G ops draw T0 H0 (i+1) (fB T (jf ops i) rc) H (Es++[(true,{v:=rc})]) Q) (hc:Ig G ops [] [] i T H=some (fid,vs,[]):=by kernel_rfl) (hr:rc.rn []=rc:=by rfl):W Tryz.prog G ops draw T0 H0 i T H Es Q:=W.nI h hcf hr hc k
def wN {G:Nat->Option (List V)} {ops:Array Oper} {draw:Bool} {T0:List V} {H0:Hp} {i:Nat} {T:List V} {H:Hp} {Es:List (Bool×Eff)} {Q:St->Prop} {α:Type} (enc:α->List V) (l:List α) (R:List Nat) (k:W Tryz.prog G ops draw T0 H0 (i+1) (fB T (jf ops i)<|aj l.length) H (Es++[(true,{v:=aj l.length,R:=R})]) Q) (h:aeV G ops i T H=some (l.map enc,R):=by kernel_rfl) (hs:((oD ops i T).bind<|iy D H<|ev G T).isSome=true:=by kernel_rfl):W Tryz.prog G ops draw T0 H0 i T H Es Q:=W.len Dk enc l R h hs k
def wX {G:Nat->Option (List V)} {ops:Array Oper} {draw:Bool} {T0:List V} {H0:Hp} {i:Nat} {T:List V} {H:Hp} {Es:List (Bool×Eff)} {Q:St->Prop} {α:Type} (enc:α->List V) {l:List α} {n:Int} {x:α} (hx:ix l n=some x) (sz:Nat) (k:W Tryz.prog G ops draw T0 H0 (i+1) (fB T (jf ops i)<|.el<|enc x) H (Es++[(true,{v:=.el (enc x)})]) Q) (h:Nb D G ops i T=some (l.map enc,n,sz):=by kernel_rfl) (hs:(enc x).length=sz:=by kernel_rfl):W Tryz.prog G ops draw T0 H0 i T H Es Q:=W.Nb Dk enc hx sz h hs k
structure aK where
  Kind:Int
  Op:Int
  Text:List UInt8
  Other:List UInt8
  Kids:List Int
  deriving DecidableEq,Inhabited
def aM (b:Bool) (x:aK):List V:=[aj x.Kind,aj x.Op,V.s x.Text,V.s x.Other,.sl false b<|x.Kids.map bM]
def jg (b:Bool) (x:aK):tQ (aM b x)=aM false x:=by
  simp only [aM,tQ,V.share,aj,V.s,V.b,afd (enc:=bM) (enc':=bM) fun _=>rfl]
structure aC where
  Kind:Int
  Text:List UInt8
  At:Int
  deriving DecidableEq,Inhabited
def aV (x:aC):List V:=[aj x.Kind,V.s x.Text,aj x.At]
structure aN where
  Level:Int
  tV:Bool
  bC:Bool
  bE:Bool
  iZ:Bool
  deriving DecidableEq,Inhabited
structure gV where
  l:List aK
  full:Bool
  deriving DecidableEq,Inhabited
structure cO where
  From:Int
  To:Int
  deriving DecidableEq,Inhabited
def oF (x:cO):List V:=[aj x.From,aj x.To]
structure rQ where
  Kind:Int
  At:Int
  deriving DecidableEq,Inhabited
structure bn where
  dh:Bool
  dz:Bool
  deriving DecidableEq,Inhabited
structure aA where
  kind:Int
  op:Int
  text:List UInt8
  other:List UInt8
  kids:List aA
instance:Inhabited aA:=⟨⟨0,0,[],[],[]⟩⟩
def aA.lt (x:aA) (y:aA) (h:y∈x.kids):SizeOf.sizeOf y < SizeOf.sizeOf x:=by
  have:=List.sizeOf_lt_of_mem h;cases x;simp only [aA.mk.sizeOf_spec] at*;omega
def aR (x:aA):List V:=[aj x.kind,aj x.op,V.s x.text,V.s x.other,.sl false false<|x.kids.attach.map fun y=>aR y.1]
termination_by SizeOf.sizeOf x
decreasing_by exact aA.lt x y.1 y.2
def yG (x:aA):aR x=[aj x.kind,aj x.op,V.s x.text,V.s x.other,.sl false false<|x.kids.map aR]:=by
  rw [aR];simp only [List.attach_map_val (f:=aR),List.map_attach_eq_pmap,List.pmap_eq_map]
def zH (x:aA):tQ (aR x)=aR x:=by
  have hk:x.kids.map (tQ∘aR)=x.kids.map aR:=qx fun y hy=>zH y;rw [yG];simp only [tQ,V.share,MV,aj,V.s,V.b,nW];rw [hk]
termination_by SizeOf.sizeOf x
decreasing_by exact aA.lt x y hy
structure dx where
  tree:aA
  target:Bool
  deriving Inhabited
abbrev LU:=List UInt8
abbrev aU:=List (List UInt8)
abbrev LT:=List aC
abbrev LN:=List aK
abbrev T1:=dx×Int×Bool×aU
abbrev LS:=List aA
abbrev wr (x:Int):Int:=IntKind.wrap .i64 x
abbrev sL {α:Type} (f:α->List V) (x:List α):V:=.sl false false (x.map f)
abbrev iM (a:aN):List V:=[aj a.Level,V.b a.tV,V.b a.bC,V.b a.bE,V.b a.iZ]
abbrev jY (a:aK):List V:=[aj a.Kind,aj a.Op,V.s a.Text,V.s a.Other,sL bM a.Kids]
abbrev vX {α:Type} (t k:Nat) (f:α->List V) (x:List α):Ob:=.vec false t k (x.map f)
abbrev vN (x:aU):Ob:=.vec false 9 1 (x.map fD)
abbrev cP (t:Nat) (x:LT) (i:Int) (b:Bool) (k:Nat):Ob:=.cells t [.sl false false<|x.map aV,aj i,V.b b,.own k]
abbrev aP (x:dx):List V:=[aj x.tree.kind,aj x.tree.op,V.s x.tree.text,V.s x.tree.other,.sl false false<|x.tree.kids.map aR,V.b x.target]
abbrev aT:=AC Tryz.prog (GS [])
def lO {H:Hp}:bO H []:=trivial
def aaG (a0:LU):Option Bool:=
  some (decide<|(a0.length:Int) > 1048576)
def Nn (N:Nat):Nat->(LU×Int×Int)->Option (LU×Int×Int)
  | 0,_=>none
  | n1+1,(a0,y29,yH)=>(bif (decide<|yH < (a0.length:Int)) then some (decide<|yH < 4000) else (some false)).bind fun xD=>bif xD then (ix a0 yH).bind fun e44=>(Nn N n1) (a0,(bits .and .i64 (IntKind.wrap .i64<|(IntKind.wrap .i64<|(IntKind.wrap .i64<|y29*131)+(IntKind.wrap .i64 ((e44).toNat:Int)))+7) 1073741823),(IntKind.wrap .i64<|yH+1)) else (some (a0,0,y29))
def aaH (N:Nat) (a0:LU):Option (LU×Int×Int):=
  Nn N N (a0,(IntKind.wrap .i64<|10101+(a0.length:Int)),0)
def Rv (pa:LU):(Int×Int×Int)->Option (Int×Int×Int)
  | (pc,y3,y4)=>some (y3,y4,(IntKind.wrap .i64<|(IntKind.wrap .i64<|pc*6364136223846793005)+1442695040888963407))
def Ep (pa:LU) (pb:Int) (pc:Int):Option (Int×Int×Int):=
  bif (decide<|pb < (pa.length:Int)) then (ix pa pb).bind fun e6=>Rv pa (pc,(bits .and .i64 (IntKind.wrap .i64<|(bits .and .i64 (bits .xor .i64 (Int.fdiv (IntKind.wrap .i64<|(IntKind.wrap .i64<|pc*6364136223846793005)+1442695040888963407)<|2 ^ (min 33 64))<|Int.fdiv (IntKind.wrap .i64<|(IntKind.wrap .i64<|pc*6364136223846793005)+1442695040888963407)<|2 ^ (min 45 64)) 255)+(IntKind.wrap .i64 ((e6).toNat:Int))) 255),(IntKind.wrap .i64<|pb+1)) else (Rv pa (pc,(bits .and .i64 (bits .xor .i64 (Int.fdiv (IntKind.wrap .i64<|(IntKind.wrap .i64<|pc*6364136223846793005)+1442695040888963407)<|2 ^ (min 33 64))<|Int.fdiv (IntKind.wrap .i64<|(IntKind.wrap .i64<|pc*6364136223846793005)+1442695040888963407)<|2 ^ (min 45 64)) 255),pb))
def jJ (a1:Int) (pa:LU) (pb:Int) (pc:Int):Option (Int×Int×Int):=
  bif (decide<|a1<=0) then some (0,pb,pc) else (bif (decide<|a1<=256) then (Ep pa pb pc).bind fun r7=>(KF r7.1 a1).bind fun x8=>some (x8,r7.2.1,r7.2.2) else ((Ep pa pb pc).bind fun bJ=>(Ep pa bJ.2.1 bJ.2.2).bind fun dP=>(Ep pa dP.2.1 dP.2.2).bind fun bH=>(Ep pa bH.2.1 bH.2.2).bind fun r16=>(KF (IntKind.wrap .i64<|(IntKind.wrap .i64<|(IntKind.wrap .i64<|(IntKind.wrap .i64<|bJ.1*16777216)+(IntKind.wrap .i64<|dP.1*65536))+(IntKind.wrap .i64<|bH.1*256))+r16.1) a1).bind fun x18=>some (x18,r16.2.1,r16.2.2)))
def zI (a1:Int) (pa:LU) (pb:Int) (pc:Int):Option (Bool×Int×Int):=
  (jJ a1 pa pb pc).bind fun r2=>some ((r2.1==0),r2.2.1,r2.2.2)
def vg (a1:aU) (pa:LU) (pb:Int) (pc:Int):Option (LU×Int×Int):=
  (jJ (a1.length:Int) pa pb pc).bind fun r3=>(ix a1 r3.1).bind fun e4=>some (e4,r3.2.1,r3.2.2)
def aaI (pa:LU) (pb:Int) (pc:Int):Option (LU×Int×Int):=
  (vg [[48],[49],[52,50],[51,46,53],[46,53],[55,46],[49,101,51],[50,69,45,52],[49,48,46,50,53,101,43,49]] pa pb pc).bind fun r2=>some (r2.1,r2.2.1,r2.2.2)
def aaJ (pa:LU) (pb:Int) (pc:Int):Option (LU×Int×Int):=
  (vg [[34,34],[34,97,34],[34,120,32,121,34],[34,113,92,34,113,34],[34,92,110,34],[34,35,110,111,34],[34,47,34]] pa pb pc).bind fun r2=>some (r2.1,r2.2.1,r2.2.2)
def aaK (pa:LU) (pb:Int) (pc:Int):Option (LU×Int×Int):=
  (vg [[47,97,47],[47,94,120,43,36,47],[47,97,92,47,98,47],[47,61,47],[47,32,47],[47,91,48,45,57,93,47]] pa pb pc).bind fun r2=>some (r2.1,r2.2.1,r2.2.2)
def zJ (pa:LU) (pb:Int) (pc:Int):Option (LU×Int×Int):=
  (vg [[120],[121],[110],[105],[97,114,114],[78,82],[70,83],[116,111,116,97,108],[97,49],[95,116],[99,111,117,110,116]] pa pb pc).bind fun r2=>some (r2.1,r2.2.1,r2.2.2)
def VH (pa:LU):(Int×Int)->Option (LN×Int×Int)
  | (dS,qP)=>(zJ pa dS qP).bind fun bH=>some ([(⟨1,0,bH.1,[],[]⟩:aK)],bH.2.1,bH.2.2)
def Rw (pa:LU) (pb:Int) (pc:Int):Option (LN×Int×Int):=
  (jJ 7 pa pb pc).bind fun r16=>bif (r16.1==0) then (aaI pa r16.2.1 r16.2.2).bind fun jq=>some ([(⟨2,0,jq.1,[],[]⟩:aK)],jq.2.1,jq.2.2) else (bif (r16.1==1) then (aaJ pa r16.2.1 r16.2.2).bind fun Bb=>some ([(⟨3,0,Bb.1,[],[]⟩:aK)],Bb.2.1,Bb.2.2) else (bif (r16.1==2) then (zI 2 pa r16.2.1 r16.2.2).bind fun qQ=>bif qQ.1 then (aaK pa qQ.2.1 qQ.2.2).bind fun CG=>some ([(⟨4,0,CG.1,[],[]⟩:aK)],CG.2.1,CG.2.2) else (VH pa (qQ.2.1,qQ.2.2)) else (VH pa (r16.2.1,r16.2.2))))
def Np (N:Nat) (dX:(LN×Int×Int×LN)->Option LN):Nat->(LN×Int×Int×LN×aK×Int×(List Int))->Option LN
  | 0,_=>none
  | n2+1,(a0,a1,tX,zK,sN,KH,VI)=>(ix a0 tX).bind fun afo=>bif (decide<|KH < (afo.Kids.length:Int)) then (ix a0 tX).bind fun alN=>(ix alN.Kids KH).bind fun alO=>(app 8 VI [(IntKind.wrap .i64<|alO+a1)]).bind fun aaL=>(Np N dX n2) (a0,a1,tX,zK,sN,(IntKind.wrap .i64<|KH+1),aaL) else ((app 72 zK [(⟨sN.Kind,sN.Op,sN.Text,sN.Other,VI⟩:aK)]).bind fun aaM=>dX (a0,a1,(IntKind.wrap .i64<|tX+1),aaM))
def Il (N:Nat):Nat->(LN×Int×Int×LN)->Option LN
  | 0,_=>none
  | n1+1,(a0,a1,tX,zK)=>bif (decide<|tX < (a0.length:Int)) then (ix a0 tX).bind fun sN=>Np N (Il N n1) N (a0,a1,tX,zK,sN,0,[]) else (some zK)
def VJ (N:Nat) (a0:LN) (a1:Int):Option LN:=
  Il N N (a0,a1,0,[])
def KI (N:Nat):Nat->((List LN)×aK×Int×LN×(List Int))->Option LN
  | 0,_=>none
  | n1+1,(a1,a0,kK,gY,mV)=>bif (decide<|kK < (a1.length:Int)) then (ix a1 kK).bind fun afp=>(VJ N afp (gY.length:Int)).bind fun Bc=>(app 72 gY Bc).bind fun Rx=>(app 8 mV [(IntKind.wrap .i64<|(Rx.length:Int) - 1)]).bind fun aaN=>(KI N n1) (a1,a0,(IntKind.wrap .i64<|kK+1),Rx,aaN) else ((app 72 gY [(⟨a0.Kind,a0.Op,a0.Text,a0.Other,mV⟩:aK)]).bind fun alP=>some alP)
def iN (N:Nat) (a0:aK) (a1:List LN):Option LN:=
  KI N N (a1,a0,0,[],[])
def Bd (a1:List Int) (pa:LU) (pb:Int) (pc:Int):Option (Int×Int×Int):=
  (jJ (a1.length:Int) pa pb pc).bind fun r3=>(ix a1 r3.1).bind fun e4=>some (e4,r3.2.1,r3.2.2)
def aaO (pa:LU) (pb:Int) (pc:Int):Option (Int×Int×Int):=
  (Bd [60,57,58,59,55,56,56,99,99,99,63,48,47,50,62,62,49,67,46,45,44] pa pb pc).bind fun r2=>some (r2.1,r2.2.1,r2.2.2)
structure FU where
  wI:Int->Int->Int->LU->Int->Int->Option ((List LN)×Int×Int)
  yI:Int->LU->Int->Int->Option (LN×Int×Int)
  fq:Int->LU->Int->Int->Option (LN×Int×Int)
def Nq (N:Nat) (R:FU) (pa:LU):Nat->(Int×Int×Int×Int×(List LN))->Option ((List LN)×Int×Int)
  | 0,_=>none
  | n1+1,(a3,sO,rP,lK,pY)=>bif (decide<|sO > 0) then (R.fq a3 pa rP lK).bind fun bP=>(app 24 pY [bP.1]).bind fun Im=>(Nq N R pa n1) (a3,(IntKind.wrap .i64<|sO - 1),bP.2.1,bP.2.2,Im) else (some (pY,rP,lK))
def VK (N:Nat) (R:FU) (a1:Int) (a2:Int) (a3:Int) (pa:LU) (pb:Int) (pc:Int):Option ((List LN)×Int×Int):=
  (jJ (IntKind.wrap .i64<|(IntKind.wrap .i64<|a2 - a1)+1) pa pb pc).bind fun sP=>Nq N R pa N (a3,(IntKind.wrap .i64<|a1+sP.1),sP.2.1,sP.2.2,[])
def VL (N:Nat) (R:FU) (a1:Int) (pa:LU) (pb:Int) (pc:Int):Option (LN×Int×Int):=
  (jJ 4 pa pb pc).bind fun bH=>bif (bH.1==0) then (zJ pa bH.2.1 bH.2.2).bind fun jq=>(R.fq (IntKind.wrap .i64<|a1 - 1) pa jq.2.1 jq.2.2).bind fun lM=>(iN N (⟨5,0,jq.1,[],[]⟩:aK) [lM.1]).bind fun Bb=>some (Bb,lM.2.1,lM.2.2) else (bif (bH.1==1) then (R.fq (IntKind.wrap .i64<|a1 - 2) pa bH.2.1 bH.2.2).bind fun yJ=>(iN N (⟨6,0,[],[],[]⟩:aK) [yJ.1]).bind fun CG=>some (CG,yJ.2.1,yJ.2.2) else ((zJ pa bH.2.1 bH.2.2).bind fun wL=>some ([(⟨1,0,wL.1,[],[]⟩:aK)],wL.2.1,wL.2.2)))
def Ry (N:Nat) (R:FU) (pa:LU):(Int×(Int×Int×Int)×Bool)->Option (LN×Int×Int)
  | (a1,bP,y96)=>bif y96 then (Bd [56,55,61] pa bP.2.1 bP.2.2).bind fun sQ=>(R.fq (IntKind.wrap .i64<|a1 - 1) pa sQ.2.1 sQ.2.2).bind fun Rz=>(iN N (⟨11,sQ.1,[],[],[]⟩:aK) [Rz.1]).bind fun VN=>some (VN,Rz.2.1,Rz.2.2) else (bif (bP.1==9) then (zJ pa bP.2.1 bP.2.2).bind fun mW=>(R.wI 1 2 (IntKind.wrap .i64<|a1 - 1) pa mW.2.1 mW.2.2).bind fun RA=>(iN N (⟨13,0,mW.1,[],[]⟩:aK) RA.1).bind fun FV=>some (FV,RA.2.1,RA.2.2) else (bif (bP.1==10) then (R.fq (IntKind.wrap .i64<|a1 - 1) pa bP.2.1 bP.2.2).bind fun Bf=>(R.fq (IntKind.wrap .i64<|a1 - 1) pa Bf.2.1 Bf.2.2).bind fun rR=>(R.fq (IntKind.wrap .i64<|a1 - 1) pa rR.2.1 rR.2.2).bind fun FW=>(iN N (⟨14,0,[],[],[]⟩:aK) [Bf.1,rR.1,FW.1]).bind fun dw=>some (dw,FW.2.1,FW.2.2) else (bif (bP.1==11) then (Bd [54,38,43] pa bP.2.1 bP.2.2).bind fun qR=>(R.yI (IntKind.wrap .i64<|a1 - 1) pa qR.2.1 qR.2.2).bind fun nY=>(R.fq (IntKind.wrap .i64<|a1 - 1) pa nY.2.1 nY.2.2).bind fun RB=>(iN N (⟨15,qR.1,[],[],[]⟩:aK) [nY.1,RB.1]).bind fun iC=>some (iC,RB.2.1,RB.2.2) else ((aaO pa bP.2.1 bP.2.2).bind fun sS=>(R.fq (IntKind.wrap .i64<|a1 - 1) pa sS.2.1 sS.2.2).bind fun qb=>(R.fq (IntKind.wrap .i64<|a1 - 1) pa qb.2.1 qb.2.2).bind fun RF=>(iN N (⟨12,sS.1,[],[],[]⟩:aK) [qb.1,RF.1]).bind fun alQ=>some (alQ,RF.2.1,RF.2.2)))))
def Nr (N:Nat) (R:FU) (a1:Int) (pa:LU) (pb:Int) (pc:Int):Option (LN×Int×Int):=
  bif (decide<|a1<=0) then (Rw pa pb pc).bind fun r4=>some (r4.1,r4.2.1,r4.2.2) else ((jJ 2 pa pb pc).bind fun r6=>(jJ 16 pa r6.2.1 r6.2.2).bind fun bP=>bif (bP.1==0) then (Rw pa bP.2.1 bP.2.2).bind fun Ns=>some (Ns.1,Ns.2.1,Ns.2.2) else (bif (bP.1==1) then (R.yI a1 pa bP.2.1 bP.2.2).bind fun r71=>some (r71.1,r71.2.1,r71.2.2) else (bif (bP.1==2) then (R.fq (IntKind.wrap .i64<|a1 - 1) pa bP.2.1 bP.2.2).bind fun lN=>(iN N (⟨6,0,[],[],[]⟩:aK) [lN.1]).bind fun r75=>some (r75,lN.2.1,lN.2.2) else (bif (bP.1==3) then (zJ pa bP.2.1 bP.2.2).bind fun vk=>(R.wI 0 3 (IntKind.wrap .i64<|a1 - 1) pa vk.2.1 vk.2.2).bind fun tY=>(iN N (⟨7,0,vk.1,[],[]⟩:aK) tY.1).bind fun Io=>some (Io,tY.2.1,tY.2.2) else (bif (bP.1==4) then (vg [[108,101,110,103,116,104],[115,117,98,115,116,114],[105,110,100,101,120],[105,110,116],[116,111,117,112,112,101,114]] pa bP.2.1 bP.2.2).bind fun Nt=>(R.wI 0 3 (IntKind.wrap .i64<|a1 - 2) pa Nt.2.1 Nt.2.2).bind fun oG=>(iN N (⟨8,0,Nt.1,[],[]⟩:aK) oG.1).bind fun vo=>some (vo,oG.2.1,oG.2.2) else (bif (bP.1==5) then (R.yI (IntKind.wrap .i64<|a1 - 1) pa bP.2.1 bP.2.2).bind fun sU=>(iN N (⟨9,(IntKind.wrap .i64<|51+r6.1),[],[],[]⟩:aK) [sU.1]).bind fun VO=>some (VO,sU.2.1,sU.2.2) else (bif (bP.1==6) then (R.yI (IntKind.wrap .i64<|a1 - 1) pa bP.2.1 bP.2.2).bind fun qU=>(iN N (⟨10,(IntKind.wrap .i64<|51+r6.1),[],[],[]⟩:aK) [qU.1]).bind fun wM=>some (wM,qU.2.1,qU.2.2) else (bif (bP.1==7) then Ry N R pa (a1,bP,(bP.1==7)) else (Ry N R pa (a1,bP,(bP.1==8)))))))))))
def qV:Nat->FU
  | 0=>⟨fun _ _ _ _ _ _=>none,fun _ _ _ _=>none,fun _ _ _ _=>none⟩
  | N+1=>⟨fun a1 a2 a3 pa pb pc=>VK N (qV N) a1 a2 a3 pa pb pc,fun a1 pa pb pc=>VL N (qV N) a1 pa pb pc,fun a1 pa pb pc=>Nr N (qV N) a1 pa pb pc⟩
def wI (N:Nat) (a1:Int) (a2:Int) (a3:Int) (pa:LU) (pb:Int) (pc:Int):Option ((List LN)×Int×Int):=(qV N).wI a1 a2 a3 pa pb pc
def yI (N:Nat) (a1:Int) (pa:LU) (pb:Int) (pc:Int):Option (LN×Int×Int):=(qV N).yI a1 pa pb pc
def fq (N:Nat) (a1:Int) (pa:LU) (pb:Int) (pc:Int):Option (LN×Int×Int):=(qV N).fq a1 pa pb pc
def Nu (N:Nat) (pa:LU):Nat->(Int×Int)->Option (LN×Int×Int)
  | 0,_=>none
  | n1+1,(pb,pc)=>(jJ 4 pa pb pc).bind fun r9=>(fq N (IntKind.wrap .i64<|1+r9.1) pa r9.2.1 r9.2.2).bind fun bJ=>bif (decide<|(bJ.1.length:Int)<=60) then some (bJ.1,bJ.2.1,bJ.2.2) else ((Nu N pa n1) (bJ.2.1,bJ.2.2))
def RG (N:Nat) (pa:LU) (pb:Int) (pc:Int):Option (LN×Int×Int):=
  Nu N pa N (pb,pc)
def RH (N:Nat) (pa:LU):(Int×Int×Int)->Option (LN×Int×Int)
  | (a1,pY,jE)=>(fq N a1 pa pY jE).bind fun rT=>(iN N (⟨20,0,[],[],[]⟩:aK) [rT.1]).bind fun kL=>some (kL,rT.2.1,rT.2.2)
def RI (N:Nat) (pa:LU):((Int×Int×Int)×LU×(List LN)×Int×Int)->Option (LN×Int×Int)
  | (iD,jF,lu,kK,gY)=>(iN N (⟨21,iD.1,[],jF,[]⟩:aK) lu).bind fun lN=>some (lN,kK,gY)
def RJ (N:Nat) (pa:LU):(Int×(Int×Int×Int)×Bool)->Option (LN×Int×Int)
  | (a1,gZ,CJ)=>bif CJ then (jJ 2 pa gZ.2.1 gZ.2.2).bind fun iD=>(wI N iD.1 3 a1 pa iD.2.1 iD.2.2).bind fun rU=>(zI 3 pa rU.2.1 rU.2.2).bind fun nZ=>bif nZ.1 then (vg [[62],[62,62],[124]] pa nZ.2.1 nZ.2.2).bind fun nJ=>(fq N (IntKind.wrap .i64<|a1 - 1) pa nJ.2.1 nJ.2.2).bind fun Io=>(app 24 rU.1 [Io.1]).bind fun x82=>RI N pa (iD,nJ.1,x82,Io.2.1,Io.2.2) else (RI N pa (iD,[],rU.1,nZ.2.1,nZ.2.2)) else (bif (gZ.1==2) then (Bd [22,25,26] pa gZ.2.1 gZ.2.2).bind fun r84=>some ([(⟨r84.1,0,[],[],[]⟩:aK)],r84.2.1,r84.2.2) else (bif (gZ.1==3) then (Bd [23,24] pa gZ.2.1 gZ.2.2).bind fun qB=>(wI N 0 1 a1 pa qB.2.1 qB.2.2).bind fun sV=>(iN N (⟨qB.1,0,[],[],[]⟩:aK) sV.1).bind fun sU=>some (sU,sV.2.1,sV.2.2) else (bif (gZ.1==4) then (zJ pa gZ.2.1 gZ.2.2).bind fun qU=>(wI N 0 2 (IntKind.wrap .i64<|a1 - 1) pa qU.2.1 qU.2.2).bind fun wM=>(iN N (⟨27,0,qU.1,[],[]⟩:aK) wM.1).bind fun lC=>some (lC,wM.2.1,wM.2.2) else (bif (gZ.1==5) then (zI 2 pa gZ.2.1 gZ.2.2).bind fun jS=>bif jS.1 then (vg [[35],[35,32,110,111,116,101],[35,120,32,61,32,49]] pa jS.2.1 jS.2.2).bind fun sQ=>some ([(⟨34,0,sQ.1,[],[]⟩:aK)],sQ.2.1,sQ.2.2) else (RH N pa (a1,jS.2.1,jS.2.2)) else (RH N pa (a1,gZ.2.1,gZ.2.2))))))
def VP (N:Nat) (a1:Int) (pa:LU) (pb:Int) (pc:Int):Option (LN×Int×Int):=
  (jJ 9 pa pb pc).bind fun gZ=>bif (gZ.1==0) then RJ N pa (a1,gZ,(gZ.1==0)) else (RJ N pa (a1,gZ,(gZ.1==1)))
def FX (N:Nat) (a1:Int) (pa:LU) (pb:Int) (pc:Int):Option (LN×Int×Int):=
  (zI 3 pa pb pc).bind fun r4=>bif r4.1 then some ([(⟨16,0,[],[],[]⟩:aK)],r4.2.1,r4.2.2) else ((fq N a1 pa r4.2.1 r4.2.2).bind fun r6=>some (r6.1,r6.2.1,r6.2.2))
structure Nv where
  jh:Int->LU->Int->Int->Option (LN×Int×Int)
  CK:Int->LU->Int->Int->Option (LN×Int×Int)
def Nw (N:Nat) (R:Nv) (pa:LU):Nat->(Int×Int×Int×Int×(List LN))->Option (LN×Int×Int)
  | 0,_=>none
  | n1+1,(a1,sO,rP,lK,pY)=>bif (decide<|sO > 0) then (R.CK a1 pa rP lK).bind fun bP=>(app 24 pY [bP.1]).bind fun Im=>(Nw N R pa n1) (a1,(IntKind.wrap .i64<|sO - 1),bP.2.1,bP.2.2,Im) else ((iN N (⟨33,0,[],[],[]⟩:aK) pY).bind fun jr=>some (jr,rP,lK))
def VQ (N:Nat) (R:Nv) (a1:Int) (pa:LU) (pb:Int) (pc:Int):Option (LN×Int×Int):=
  (jJ 3 pa pb pc).bind fun sP=>Nw N R pa N (a1,sP.1,sP.2.1,sP.2.2,[])
def Ny (N:Nat) (R:Nv) (a1:Int) (pa:LU) (pb:Int) (pc:Int):Option (LN×Int×Int):=
  (bif (decide<|a1<=0) then some (true,pb,pc) else ((zI 3 pa pb pc).bind fun dP=>some ((!dP.1),dP.2.1,dP.2.2))).bind fun (y9,gP,dS)=>bif y9 then (VP N (if 2 < a1 then 2 else a1) pa gP dS).bind fun bH=>some (bH.1,bH.2.1,bH.2.2) else ((jJ 6 pa gP dS).bind fun fO=>bif (fO.1==0) then (fq N 1 pa fO.2.1 fO.2.2).bind fun iD=>(R.jh (IntKind.wrap .i64<|a1 - 1) pa iD.2.1 iD.2.2).bind fun mH=>(iN N (⟨28,0,[],[],[]⟩:aK) [iD.1,mH.1]).bind fun rU=>some (rU,mH.2.1,mH.2.2) else (bif (fO.1==1) then (fq N 1 pa fO.2.1 fO.2.2).bind fun mX=>(R.jh (IntKind.wrap .i64<|a1 - 1) pa mX.2.1 mX.2.2).bind fun qC=>(R.jh (IntKind.wrap .i64<|a1 - 1) pa qC.2.1 qC.2.2).bind fun bP=>(iN N (⟨28,0,[],[],[]⟩:aK) [mX.1,qC.1,bP.1]).bind fun tZ=>some (tZ,bP.2.1,bP.2.2) else (bif (fO.1==2) then (fq N 1 pa fO.2.1 fO.2.2).bind fun qc=>(R.jh (IntKind.wrap .i64<|a1 - 1) pa qc.2.1 qc.2.2).bind fun Bg=>(iN N (⟨29,0,[],[],[]⟩:aK) [qc.1,Bg.1]).bind fun lN=>some (lN,Bg.2.1,Bg.2.2) else (bif (fO.1==3) then (R.jh (IntKind.wrap .i64<|a1 - 1) pa fO.2.1 fO.2.2).bind fun nJ=>(fq N 1 pa nJ.2.1 nJ.2.2).bind fun vk=>(iN N (⟨30,0,[],[],[]⟩:aK) [nJ.1,vk.1]).bind fun tY=>some (tY,vk.2.1,vk.2.2) else (bif (fO.1==4) then (FX N 2 pa fO.2.1 fO.2.2).bind fun oG=>(FX N 1 pa oG.2.1 oG.2.2).bind fun vo=>(FX N 1 pa vo.2.1 vo.2.2).bind fun qB=>(R.jh (IntKind.wrap .i64<|a1 - 1) pa qB.2.1 qB.2.2).bind fun sV=>(iN N (⟨31,0,[],[],[]⟩:aK) [oG.1,vo.1,qB.1,sV.1]).bind fun sU=>some (sU,sV.2.1,sV.2.2) else ((zI 2 pa fO.2.1 fO.2.2).bind fun lC=>bif lC.1 then (R.jh (IntKind.wrap .i64<|a1 - 1) pa lC.2.1 lC.2.2).bind fun jS=>some (jS.1,jS.2.1,jS.2.2) else ((zJ pa lC.2.1 lC.2.2).bind fun Er=>(zJ pa Er.2.1 Er.2.2).bind fun oQ=>(R.jh (IntKind.wrap .i64<|a1 - 1) pa oQ.2.1 oQ.2.2).bind fun Bc=>(iN N (⟨32,0,Er.1,oQ.1,[]⟩:aK) [Bc.1]).bind fun mW=>some (mW,Bc.2.1,Bc.2.2))))))))
def qW:Nat->Nv
  | 0=>⟨fun _ _ _ _=>none,fun _ _ _ _=>none⟩
  | N+1=>⟨fun a1 pa pb pc=>VQ N (qW N) a1 pa pb pc,fun a1 pa pb pc=>Ny N (qW N) a1 pa pb pc⟩
def jh (N:Nat) (a1:Int) (pa:LU) (pb:Int) (pc:Int):Option (LN×Int×Int):=(qW N).jh a1 pa pb pc
def CK (N:Nat) (a1:Int) (pa:LU) (pb:Int) (pc:Int):Option (LN×Int×Int):=(qW N).CK a1 pa pb pc
def Nz (N:Nat) (pa:LU):Nat->((Int×Int×Int)×Int×Int×Int×(List LN))->Option (LN×Int×Int)
  | 0,_=>none
  | n1+1,(r2,NA,NC,ND,VR)=>bif (decide<|NA > 0) then (zJ pa NC ND).bind fun KJ=>(app 24 VR [[(⟨1,0,KJ.1,[],[]⟩:aK)]]).bind fun aaR=>(Nz N pa n1) (r2,(IntKind.wrap .i64<|NA - 1),KJ.2.1,KJ.2.2,aaR) else ((vg [[102],[103],[109,97,120]] pa NC ND).bind fun NG=>(jh N (IntKind.wrap .i64<|1+r2.1) pa NG.2.1 NG.2.2).bind fun aaS=>(app 24 VR [aaS.1]).bind fun aaT=>(iN N (⟨44,0,NG.1,[],[]⟩:aK) aaT).bind fun alS=>some (alS,aaS.2.1,aaS.2.2))
def VT (N:Nat) (pa:LU) (pb:Int) (pc:Int):Option (LN×Int×Int):=
  (jJ 2 pa pb pc).bind fun r2=>(jJ 8 pa r2.2.1 r2.2.2).bind fun iC=>bif (iC.1==0) then (jJ 2 pa iC.2.1 iC.2.2).bind fun Bh=>(jh N (IntKind.wrap .i64<|1+r2.1) pa Bh.2.1 Bh.2.2).bind fun sS=>(iN N (⟨(IntKind.wrap .i64<|40+Bh.1),0,[],[],[]⟩:aK) [sS.1]).bind fun qb=>some (qb,sS.2.1,sS.2.2) else (bif (iC.1==1) then (fq N (IntKind.wrap .i64<|1+r2.1) pa iC.2.1 iC.2.2).bind fun oH=>(iN N (⟨42,1,[],[],[]⟩:aK) [oH.1]).bind fun kM=>some (kM,oH.2.1,oH.2.2) else (bif (iC.1==2) then (jh N (IntKind.wrap .i64<|1+r2.1) pa iC.2.1 iC.2.2).bind fun Bj=>(iN N (⟨42,2,[],[],[]⟩:aK) [Bj.1]).bind fun VU=>some (VU,Bj.2.1,Bj.2.2) else (bif (iC.1==3) then (fq N 1 pa iC.2.1 iC.2.2).bind fun Bn=>(fq N 1 pa Bn.2.1 Bn.2.2).bind fun RL=>(iN N (⟨43,1,[],[],[]⟩:aK) [Bn.1,RL.1]).bind fun alT=>some (alT,RL.2.1,RL.2.2) else (bif (iC.1==4) then (fq N 1 pa iC.2.1 iC.2.2).bind fun CP=>(fq N 1 pa CP.2.1 CP.2.2).bind fun Et=>(jh N (IntKind.wrap .i64<|1+r2.1) pa Et.2.1 Et.2.2).bind fun RN=>(iN N (⟨43,3,[],[],[]⟩:aK) [CP.1,Et.1,RN.1]).bind fun alU=>some (alU,RN.2.1,RN.2.2) else (bif (iC.1==5) then (jJ 3 pa iC.2.1 iC.2.2).bind fun FY=>Nz N pa N (r2,FY.1,FY.2.1,FY.2.2,[]) else (bif (iC.1==6) then (vg [[35,32,116,111,112],[35]] pa iC.2.1 iC.2.2).bind fun aaU=>some ([(⟨34,0,aaU.1,[],[]⟩:aK)],aaU.2.1,aaU.2.2) else ((fq N (IntKind.wrap .i64<|1+r2.1) pa iC.2.1 iC.2.2).bind fun KL=>(jh N (IntKind.wrap .i64<|1+r2.1) pa KL.2.1 KL.2.2).bind fun RO=>(iN N (⟨42,3,[],[],[]⟩:aK) [KL.1,RO.1]).bind fun alV=>some (alV,RO.2.1,RO.2.2))))))))
def NI (N:Nat) (pa:LU) (dX:(Int×Int)->Option (LN×Int×Int)):Nat->(Int×Int×Int×(List LN))->Option (LN×Int×Int)
  | 0,_=>none
  | n2+1,(NJ,CQ,KM,NK)=>bif (decide<|NJ > 0) then (VT N pa CQ KM).bind fun xE=>(app 24 NK [xE.1]).bind fun aaV=>(NI N pa dX n2) ((IntKind.wrap .i64<|NJ - 1),xE.2.1,xE.2.2,aaV) else ((iN N (⟨45,0,[],[],[]⟩:aK) NK).bind fun Bn=>bif (decide<|(Bn.length:Int)<=220) then some (Bn,CQ,KM) else (dX (CQ,KM)))
def Ip (N:Nat) (pa:LU):Nat->(Int×Int)->Option (LN×Int×Int)
  | 0,_=>none
  | n1+1,(pb,pc)=>(jJ 4 pa pb pc).bind fun FV=>NI N pa (Ip N pa n1) N (FV.1,FV.2.1,FV.2.2,[])
def VW (N:Nat) (pa:LU) (pb:Int) (pc:Int):Option (LN×Int×Int):=
  Ip N pa N (pb,pc)
def RP (N:Nat) (pa:LU):((Int×Int×Int)×Bool)->Option (LN×Int×Int)
  | (r9,gP)=>bif gP then (RG N pa r9.2.1 r9.2.2).bind fun dP=>some (dP.1,dP.2.1,dP.2.2) else (bif (r9.1==2) then (CK N 2 pa r9.2.1 r9.2.2).bind fun bH=>some (bH.1,bH.2.1,bH.2.2) else ((VW N pa r9.2.1 r9.2.2).bind fun r16=>some (r16.1,r16.2.1,r16.2.2)))
def RQ (N:Nat) (pa:LU) (pb:Int) (pc:Int):Option (LN×Int×Int):=
  (jJ 5 pa pb pc).bind fun r9=>bif (r9.1==0) then RP N pa (r9,(r9.1==0)) else (RP N pa (r9,(r9.1==1)))
def NM (N:Nat) (pa:LU):(LN×Int×Int)->Option (LN×Int×Int)
  | (y31,y32,yK)=>some (y31,y32,yK)
def VX (N:Nat) (pa:LU) (pb:Int) (pc:Int):Option (LN×Int×Int):=
  (RQ N pa pb pc).bind fun r2=>(jJ (r2.1.length:Int) pa r2.2.1 r2.2.2).bind fun r4=>(jJ 12 pa r4.2.1 r4.2.2).bind fun dF=>bif (dF.1==0) then (cut r2.1 0 r4.1).bind fun RS=>some (RS,dF.2.1,dF.2.2) else (bif (dF.1==1) then (ix r2.1 r4.1).bind fun e39=>(Bd [(-1),r4.1,0,99] pa dF.2.1 dF.2.2).bind fun Eu=>(app 8 e39.Kids [Eu.1]).bind fun Iq=>(upd r2.1 r4.1 (⟨e39.Kind,e39.Op,e39.Text,e39.Other,Iq⟩:aK)).bind fun VY=>NM N pa (VY,Eu.2.1,Eu.2.2) else (bif (dF.1==2) then (ix r2.1 r4.1).bind fun e47=>bif (decide<|(e47.Kids.length:Int) > 0) then (ix r2.1 r4.1).bind fun e49=>(jJ (IntKind.wrap .i64<|r4.1+1) pa dF.2.1 dF.2.2).bind fun kL=>(ix e49.Kids 0).bind fun e54=>(upd e49.Kids 0<|IntKind.wrap .i64<|kL.1 - 1).bind fun x55=>(upd r2.1 r4.1 (⟨e49.Kind,e49.Op,e49.Text,e49.Other,x55⟩:aK)).bind fun VZ=>NM N pa (VZ,kL.2.1,kL.2.2) else (NM N pa (r2.1,dF.2.1,dF.2.2)) else (bif (dF.1==3) then (app 72 r2.1 r2.1).bind fun RU=>some (RU,dF.2.1,dF.2.2) else (NM N pa (r2.1,dF.2.1,dF.2.2)))))
def KN (N:Nat) (pa:LU):(LN×Int×Int)->Option (LN×Int×Int)
  | (yK,y34,iO)=>some (yK,y34,iO)
def Wd (N:Nat) (pa:LU) (pb:Int) (pc:Int):Option (LN×Int×Int):=
  (RQ N pa pb pc).bind fun r2=>(jJ (r2.1.length:Int) pa r2.2.1 r2.2.2).bind fun r4=>(jJ 14 pa r4.2.1 r4.2.2).bind fun jv=>bif (jv.1==0) then (jJ 47 pa jv.2.1 jv.2.2).bind fun xG=>(ix r2.1 r4.1).bind fun e42=>(upd r2.1 r4.1 (⟨xG.1,e42.Op,e42.Text,e42.Other,e42.Kids⟩:aK)).bind fun x43=>KN N pa (x43,xG.2.1,xG.2.2) else (bif (jv.1==1) then (Bd [0,1,56,99,54,51,(-1)] pa jv.2.1 jv.2.2).bind fun KO=>(ix r2.1 r4.1).bind fun e48=>(upd r2.1 r4.1 (⟨e48.Kind,KO.1,e48.Text,e48.Other,e48.Kids⟩:aK)).bind fun x49=>KN N pa (x49,KO.2.1,KO.2.2) else (bif (jv.1==2) then (vg [[],[120],[105,102],[108,101,110,103,116,104],[49],[47]] pa jv.2.1 jv.2.2).bind fun kL=>(ix r2.1 r4.1).bind fun e54=>(upd r2.1 r4.1 (⟨e54.Kind,e54.Op,kL.1,e54.Other,e54.Kids⟩:aK)).bind fun x55=>KN N pa (x55,kL.2.1,kL.2.2) else (bif (jv.1==3) then (vg [[],[62],[120]] pa jv.2.1 jv.2.2).bind fun mH=>(ix r2.1 r4.1).bind fun e60=>(upd r2.1 r4.1 (⟨e60.Kind,e60.Op,e60.Text,mH.1,e60.Kids⟩:aK)).bind fun x61=>KN N pa (x61,mH.2.1,mH.2.2) else (bif (jv.1==4) then (VX N pa jv.2.1 jv.2.2).bind fun xH=>some (xH.1,xH.2.1,xH.2.2) else (KN N pa (r2.1,jv.2.1,jv.2.2))))))
def Wh (N:Nat) (pa:LU) (pb:Int) (pc:Int):Option (LN×Int×Int):=
  (zI 10 pa pb pc).bind fun r6=>bif r6.1 then (Wd N pa r6.2.1 r6.2.2).bind fun r8=>some (r8.1,r8.2.1,r8.2.2) else ((RG N pa r6.2.1 r6.2.2).bind fun bJ=>some (bJ.1,bJ.2.1,bJ.2.2))
def UK (N:Nat) (a0:LU):Option LN:=
  (aaH N a0).bind fun r3=>(Wh N r3.1 r3.2.1 r3.2.2).bind fun r4=>some r4.1
def oI (a0:Int) (a1:Int) (a2:Int):Option Bool:=
  (bif (decide<|a0>=a1) then some (decide<|a0<=a2) else (some false)).bind fun y1=>some y1
def NP (N:Nat) (dX:(LN×Int×(List Int))->Option ((List Int)×Bool)):Nat->(LN×Int×(List Int)×Int×Int)->Option ((List Int)×Bool)
  | 0,_=>none
  | n2+1,(a0,rV,xI,KP,Ir)=>bif (decide<|Ir>=0) then ((ix a0 rV).bind fun alW=>(ix alW.Kids Ir).bind fun alX=>bif (alX !=(IntKind.wrap .i64<|KP - 1)) then some true else (some<|KP==0)).bind fun afs=>bif afs then some ([],false) else ((ix xI<|IntKind.wrap .i64<|KP - 1).bind fun Wi=>(NP N dX n2) (a0,rV,xI,Wi,(IntKind.wrap .i64<|Ir - 1))) else ((app 8 xI [KP]).bind fun aaW=>dX (a0,(IntKind.wrap .i64<|rV+1),aaW))
def KQ (N:Nat):Nat->(LN×Int×(List Int))->Option ((List Int)×Bool)
  | 0,_=>none
  | n1+1,(a0,rV,xI)=>bif (decide<|rV < (a0.length:Int)) then (ix a0 rV).bind fun aaX=>NP N (KQ N n1) N (a0,rV,xI,rV,(IntKind.wrap .i64<|(aaX.Kids.length:Int) - 1)) else (some (xI,true))
def aaY (N:Nat) (a0:LN):Option ((List Int)×Bool):=
  KQ N N (a0,0,[])
def RX (N:Nat) (a0:LN):Option Bool:=
  (oI (a0.length:Int) 1 400).bind fun r4=>bif (!r4) then some false else ((aaY N a0).bind fun r6=>(bif r6.2 then (ix r6.1<|IntKind.wrap .i64<|(a0.length:Int) - 1).bind fun e9=>some (e9==0) else (some false)).bind fun y8=>some y8)
def KR (N:Nat) (dX:(LN×Int×(List Int))->Option Int):Nat->(LN×Int×(List Int)×Int×Int)->Option Int
  | 0,_=>none
  | n2+1,(a0,vv,yL,FZ,KS)=>(ix a0 vv).bind fun aft=>bif (decide<|KS < (aft.Kids.length:Int)) then (ix a0 vv).bind fun alY=>(ix alY.Kids KS).bind fun alZ=>(ix yL alZ).bind fun KT=>(KR N dX n2) (a0,vv,yL,(if (IntKind.wrap .i64<|1+KT) > FZ then (IntKind.wrap .i64<|1+KT) else FZ),(IntKind.wrap .i64<|KS+1)) else ((app 8 yL [FZ]).bind fun aaZ=>dX (a0,(IntKind.wrap .i64<|vv+1),aaZ))
def Iu (N:Nat):Nat->(LN×Int×(List Int))->Option Int
  | 0,_=>none
  | n1+1,(a0,vv,yL)=>bif (decide<|vv < (a0.length:Int)) then KR N (Iu N n1) N (a0,vv,yL,1,0) else ((ix yL<|IntKind.wrap .i64<|(a0.length:Int) - 1).bind fun afu=>some afu)
def Wj (N:Nat) (a0:LN):Option Int:=
  (RX N a0).bind fun r4=>bif (!r4) then some 0 else (Iu N N (a0,0,[]))
def Wm:(aK×Bool)->Option (Int×Int)
  | (a0,qP)=>bif qP then some (0,(a0.Kids.length:Int)) else (bif (a0.Kind==42) then some ((IntKind.wrap .i64<|1+(IntKind.wrap .i64<|Int.tdiv a0.Op 3)),(IntKind.wrap .i64<|1+(IntKind.wrap .i64<|Int.tdiv a0.Op 3))) else (bif (a0.Kind==43) then some ((IntKind.wrap .i64<|2+(IntKind.wrap .i64<|Int.tdiv a0.Op 3)),(IntKind.wrap .i64<|2+(IntKind.wrap .i64<|Int.tdiv a0.Op 3))) else (bif (a0.Kind==44) then some (1,7) else (some (0,0)))))
def Wn:(aK×Bool)->Option (Int×Int)
  | (a0,dS)=>bif dS then some (0,1) else (bif (a0.Kind==28) then some (2,3) else (bif (a0.Kind==31) then some (4,4) else (bif (a0.Kind==33) then Wm (a0,(a0.Kind==33)) else (Wm (a0,(a0.Kind==45))))))
def NQ:(aK×Bool)->Option (Int×Int)
  | (a0,gP)=>bif gP then some (2,2) else (bif (a0.Kind==14) then some (3,3) else (bif (a0.Kind==21) then bif (!(a0.Other==[])) then some ((IntKind.wrap .i64<|a0.Op+1),7) else (some (a0.Op,6)) else (bif (a0.Kind==23) then Wn (a0,(a0.Kind==23)) else (Wn (a0,(a0.Kind==24))))))
def Ev:(aK×Bool)->Option (Int×Int)
  | (a0,y9)=>bif y9 then some (1,1) else (bif (a0.Kind==12) then NQ (a0,(a0.Kind==12)) else (bif (a0.Kind==15) then NQ (a0,(a0.Kind==15)) else (bif (a0.Kind==29) then NQ (a0,(a0.Kind==29)) else (NQ (a0,(a0.Kind==30))))))
def RY:(aK×Bool)->Option (Int×Int)
  | (a0,y8)=>bif y8 then some (0,6) else (bif (a0.Kind==6) then Ev (a0,(a0.Kind==6)) else (bif (a0.Kind==9) then Ev (a0,(a0.Kind==9)) else (bif (a0.Kind==10) then Ev (a0,(a0.Kind==10)) else (bif (a0.Kind==11) then Ev (a0,(a0.Kind==11)) else (bif (a0.Kind==20) then Ev (a0,(a0.Kind==20)) else (bif (a0.Kind==32) then Ev (a0,(a0.Kind==32)) else (bif (a0.Kind==40) then Ev (a0,(a0.Kind==40)) else (Ev (a0,(a0.Kind==41))))))))))
def Wo:(aK×Bool)->Option (Int×Int)
  | (a0,y7)=>bif y7 then some (1,6) else (bif (a0.Kind==7) then RY (a0,(a0.Kind==7)) else (bif (a0.Kind==8) then RY (a0,(a0.Kind==8)) else (RY (a0,(a0.Kind==27)))))
def Iw (a0:aK):Option (Int×Int):=
  bif (a0.Kind==5) then Wo (a0,(a0.Kind==5)) else (Wo (a0,(a0.Kind==13)))
def rW:Bool->Option Bool
  | y2=>bif y2 then some true else (some false)
def Ga (a0:Int):Option Bool:=
  bif (a0==60) then rW (a0==60) else (bif (a0==57) then rW (a0==57) else (bif (a0==58) then rW (a0==58) else (bif (a0==59) then rW (a0==59) else (bif (a0==55) then rW (a0==55) else (bif (a0==56) then rW (a0==56) else (bif (a0==99) then rW (a0==99) else (bif (a0==63) then rW (a0==63) else (bif (a0==48) then rW (a0==48) else (bif (a0==47) then rW (a0==47) else (bif (a0==50) then rW (a0==50) else (bif (a0==62) then rW (a0==62) else (bif (a0==49) then rW (a0==49) else (bif (a0==67) then rW (a0==67) else (bif (a0==46) then rW (a0==46) else (bif (a0==45) then rW (a0==45) else (rW<|a0==44))))))))))))))))
def CS (a0:Int):Option Bool:=
  (bif (a0==54) then some true else ((oI a0 38 43).bind fun r3=>some r3)).bind fun y2=>some y2
def RZ:(aK×Bool)->Option Bool
  | (a0,y13)=>bif y13 then (bif (a0.Op==51) then some true else (some<|a0.Op==52)).bind fun qX=>some qX else (bif (a0.Kind==11) then (bif (a0.Op==55) then some true else (bif (a0.Op==56) then some true else (some<|a0.Op==61))).bind fun iP=>some iP else (bif (a0.Kind==12) then (Ga a0.Op).bind fun wO=>some wO else (bif (a0.Kind==15) then (CS a0.Op).bind fun lM=>some lM else (bif (a0.Kind==21) then (oI a0.Op 0 1).bind fun bZ=>some bZ else (bif (a0.Kind==42) then (oI a0.Op 1 3).bind fun yJ=>some yJ else (bif (a0.Kind==43) then (bif (a0.Op==1) then some true else (some<|a0.Op==3)).bind fun y24=>some y24 else (some<|a0.Op==0)))))))
def Ew (a0:aK):Option Bool:=
  bif (a0.Kind==9) then RZ (a0,(a0.Kind==9)) else (RZ (a0,(a0.Kind==10)))
def Sb (a0:Int):Option Bool:=
  ((oI a0 97 122).bind fun r4=>bif r4 then some true else ((oI a0 65 90).bind fun r5=>bif r5 then some true else (some<|a0==95))).bind fun y3=>some y3
def Sc (a0:Int):Option Bool:=
  (oI a0 48 57).bind fun r2=>some r2
def Wp (a0:Int):Option Bool:=
  ((Sb a0).bind fun r4=>bif r4 then some true else ((Sc a0).bind fun r5=>some r5)).bind fun y3=>some y3
def KU (N:Nat):Nat->(LU×Int)->Option Bool
  | 0,_=>none
  | n1+1,(a0,iO)=>bif (decide<|iO < (a0.length:Int)) then (ix a0 iO).bind fun NR=>(Wp<|IntKind.wrap .i64 ((NR).toNat:Int)).bind fun rT=>bif (!rT) then some false else ((KU N n1) (a0,(IntKind.wrap .i64<|iO+1))) else (((oI (a0.length:Int) 1 12).bind fun Ws=>bif Ws then (ix a0 0).bind fun NS=>(Sb<|IntKind.wrap .i64 ((NS).toNat:Int)).bind fun mH=>some mH else (some false)).bind fun CJ=>some CJ)
def Wt (N:Nat) (a0:LU):Option Bool:=
  KU N N (a0,0)
def Wu:Option aU:=
  some [[66,69,71,73,78],[69,78,68],[102,117,110,99,116,105,111,110],[105,102],[101,108,115,101],[119,104,105,108,101],[102,111,114],[100,111],[98,114,101,97,107],[99,111,110,116,105,110,117,101],[110,101,120,116],[101,120,105,116],[114,101,116,117,114,110],[100,101,108,101,116,101],[105,110],[112,114,105,110,116],[112,114,105,110,116,102]]
def NT (N:Nat):Nat->(aU×LU×Int)->Option Int
  | 0,_=>none
  | n1+1,(a0,a1,iI)=>bif (decide<|iI < (a0.length:Int)) then (ix a0 iI).bind fun e28=>bif (e28==a1) then some iI else ((NT N n1) (a0,a1,(IntKind.wrap .i64<|iI+1))) else (some<|-1)
def Wv (N:Nat) (a0:aU) (a1:LU):Option Int:=
  NT N N (a0,a1,0)
def Ww (N:Nat) (a0:LU):Option Int:=
  Option.bind Wu fun r3=>(Wv N r3 a0).bind fun r4=>bif (decide<|r4 < 0) then some 0 else (some<|IntKind.wrap .i64<|10+r4)
def abb:Option aU:=
  some [[97,116,97,110,50],[99,108,111,115,101],[99,111,115],[101,120,112],[103,115,117,98],[105,110,100,101,120],[105,110,116],[108,101,110,103,116,104],[108,111,103],[109,97,116,99,104],[114,97,110,100],[115,105,110],[115,112,108,105,116],[115,112,114,105,110,116,102],[115,113,114,116],[115,114,97,110,100],[115,117,98],[115,117,98,115,116,114],[115,121,115,116,101,109],[116,111,108,111,119,101,114],[116,111,117,112,112,101,114]]
def Iy (N:Nat) (a0:LU):Option Bool:=
  Option.bind abb fun r3=>(Wv N r3 a0).bind fun r4=>some (decide<|r4>=0)
def Bo (N:Nat) (a0:LU):Option Bool:=
  ((Wt N a0).bind fun r5=>bif r5 then (Ww N a0).bind fun r6=>bif (r6==0) then (Iy N a0).bind fun r7=>some (!r7) else (some false) else (some false)).bind fun y4=>some y4
def NU (N:Nat):Nat->(LU×Int)->Option Bool
  | 0,_=>none
  | n1+1,(a0,iI)=>bif (decide<|iI < (a0.length:Int)) then (ix a0 iI).bind fun b28=>bif (((b28).toNat:Int)==10) then some false else ((NU N n1) (a0,(IntKind.wrap .i64<|iI+1))) else (some true)
def Sd (N:Nat) (a0:LU):Option Bool:=
  NU N N (a0,0)
def CU (a0:LU) (a1:Int):Option Int:=
  (bif (decide<|a1 < 0) then some true else (some<|decide<|a1>=(a0.length:Int))).bind fun y2=>bif y2 then some (-1) else ((ix a0 a1).bind fun b4=>some<|IntKind.wrap .i64 ((b4).toNat:Int))
def NV (N:Nat):Nat->(LU×Int)->Option Int
  | 0,_=>none
  | n1+1,(a0,a1)=>(CU a0 a1).bind fun fV=>(Sc fV).bind fun xJ=>bif xJ then (NV N n1) (a0,(IntKind.wrap .i64<|a1+1)) else (some a1)
def NW (N:Nat) (a0:LU) (a1:Int):Option Int:=
  NV N N (a0,a1)
def Wx (N:Nat):Int->Option Int
  | y9=>some y9
def Si (N:Nat):(LU×Int×Int)->Option Int
  | (a0,y9,xD)=>(NW N a0 xD).bind fun CV=>bif (decide<|CV > xD) then (NW N a0 xD).bind fun yM=>some yM else (Wx N y9)
def Sj (N:Nat):(LU×Int×Int)->Option Int
  | (a0,a1,y9)=>bif (y9==a1) then some (-1) else (((CU a0 y9).bind fun fV=>bif (fV==101) then some true else ((CU a0 y9).bind fun xJ=>some<|xJ==69)).bind fun y32=>bif y32 then ((CU a0<|IntKind.wrap .i64<|y9+1).bind fun NY=>bif (NY==43) then some true else ((CU a0<|IntKind.wrap .i64<|y9+1).bind fun gM=>some<|gM==45)).bind fun lK=>bif lK then Si N (a0,y9,(IntKind.wrap .i64<|(IntKind.wrap .i64<|y9+1)+1)) else (Si N (a0,y9,(IntKind.wrap .i64<|y9+1))) else (Wx N y9))
def KV (N:Nat) (a0:LU) (a1:Int):Option Int:=
  bif (decide<|a1 < 0) then some (-1) else ((NW N a0 a1).bind fun r2=>(CU a0 r2).bind fun r51=>bif (r51==46) then (NW N a0<|IntKind.wrap .i64<|r2+1).bind fun kL=>(bif (r2==a1) then some (kL==(IntKind.wrap .i64<|r2+1)) else (some false)).bind fun Rs=>bif Rs then some (-1) else (Sj N (a0,a1,kL)) else (Sj N (a0,a1,r2)))
def Sk (N:Nat) (dX:(LU×Int×Int)->Option Int):(LU×Int×Int)->Option Int
  | (a0,a2,CW)=>dX (a0,a2,(IntKind.wrap .i64<|CW+1))
def Iz (N:Nat):Nat->(LU×Int×Int)->Option Int
  | 0,_=>none
  | n1+1,(a0,a2,tT)=>bif (decide<|tT < (a0.length:Int)) then (ix a0 tT).bind fun b60=>bif ((IntKind.wrap .i64 ((b60).toNat:Int))==a2) then some (IntKind.wrap .i64<|tT+1) else (bif ((IntKind.wrap .i64 ((b60).toNat:Int))==10) then some (-1) else (bif ((IntKind.wrap .i64 ((b60).toNat:Int))==92) then (CU a0<|IntKind.wrap .i64<|tT+1).bind fun Bp=>bif (Bp==10) then some (-1) else (Sk N (Iz N n1) (a0,a2,(IntKind.wrap .i64<|tT+1))) else (Sk N (Iz N n1) (a0,a2,tT)))) else (some<|-1)
def Sl (N:Nat) (a0:LU) (a1:Int) (a2:Int):Option Int:=
  (CU a0 a1).bind fun r4=>bif (r4 !=a2) then some (-1) else (Iz N N (a0,a2,(IntKind.wrap .i64<|a1+1)))
def KW (N:Nat) (a0:LU) (a1:Int):Option Int:=
  (Sl N a0 a1 34).bind fun r2=>some r2
def KX (N:Nat) (a0:LU) (a1:Int):Option Int:=
  (Sl N a0 a1 47).bind fun r2=>bif (r2==(IntKind.wrap .i64<|a1+2)) then some (-1) else (some r2)
def abe:Option aU:=
  some [[123],[125],[40],[41],[91],[93],[44],[59],[43,61],[45,61],[42,61],[47,61],[37,61],[94,61],[124,124],[38,38],[33,126],[61,61],[60,61],[62,61],[33,61],[43,43],[45,45],[62,62],[61],[43],[45],[42],[47],[37],[94],[33],[62],[60],[124],[63],[58],[126],[36]]
def CX (a0:Int):Option LU:=
  bif (a0==1) then some [10] else ((oI a0 10 26).bind fun bH=>bif bH then Option.bind Wu fun wO=>(ix wO<|IntKind.wrap .i64<|a0 - 10).bind fun e18=>some e18 else ((oI a0 30 68).bind fun Bb=>bif Bb then Option.bind abe fun yJ=>(ix yJ<|IntKind.wrap .i64<|a0 - 30).bind fun e24=>some e24 else (some [])))
def yN (N:Nat):(aC×Bool)->Option Bool
  | (a0,yH)=>bif yH then (Bo N a0.Text).bind fun r32=>some r32 else (bif (a0.Kind==8) then (Iy N a0.Text).bind fun xJ=>some xJ else ((bif (!(a0.Text==[])) then (CX a0.Kind).bind fun jv=>some (jv==a0.Text) else (some false)).bind fun NZ=>some NZ))
def qY (N:Nat) (a0:aC):Option Bool:=
  bif (a0.Kind==2) then (bif (decide<|(a0.Text.length:Int) > 0) then (ix a0.Text 0).bind fun b21=>bif (((b21).toNat:Int)==35) then (Sd N a0.Text).bind fun qQ=>some qQ else (some false) else (some false)).bind fun y20=>some y20 else (bif (a0.Kind==3) then (bif (decide<|(a0.Text.length:Int) > 0) then (KV N a0.Text 0).bind fun Ey=>some (Ey==(a0.Text.length:Int)) else (some false)).bind fun y24=>some y24 else (bif (a0.Kind==4) then (KW N a0.Text 0).bind fun IB=>some (IB==(a0.Text.length:Int)) else (bif (a0.Kind==5) then (KX N a0.Text 0).bind fun CY=>some (CY==(a0.Text.length:Int)) else (bif (a0.Kind==6) then yN N (a0,(a0.Kind==6)) else (yN N (a0,(a0.Kind==7)))))))
def Ez (N:Nat):(aK×Bool)->Option Bool
  | (a0,oP)=>bif oP then ((Bo N a0.Text).bind fun CY=>bif CY then some (a0.Other==[]) else (some false)).bind fun y28=>some y28 else (bif (a0.Kind==2) then ((qY N (⟨3,a0.Text,0⟩:aC)).bind fun r32=>bif r32 then some (a0.Other==[]) else (some false)).bind fun y31=>some y31 else (bif (a0.Kind==3) then ((qY N (⟨4,a0.Text,0⟩:aC)).bind fun dF=>bif dF then some (a0.Other==[]) else (some false)).bind fun y34=>some y34 else (bif (a0.Kind==4) then ((qY N (⟨5,a0.Text,0⟩:aC)).bind fun kN=>bif kN then some (a0.Other==[]) else (some false)).bind fun nK=>some nK else (bif (a0.Kind==34) then ((qY N (⟨2,a0.Text,0⟩:aC)).bind fun xG=>bif xG then some (a0.Other==[]) else (some false)).bind fun xD=>some xD else (bif (a0.Kind==8) then ((Iy N a0.Text).bind fun yM=>bif yM then some (a0.Other==[]) else (some false)).bind fun tT=>some tT else (bif (a0.Kind==32) then ((Bo N a0.Text).bind fun NY=>bif NY then (Bo N a0.Other).bind fun gM=>some gM else (some false)).bind fun lK=>some lK else (bif (a0.Kind==21) then (bif (a0.Text==[]) then bif (a0.Other==[]) then some true else (bif (a0.Other==[62]) then some true else (bif (a0.Other==[62,62]) then some true else (some<|a0.Other==[124]))) else (some false)).bind fun lQ=>some lQ else ((bif (a0.Text==[]) then some (a0.Other==[]) else (some false)).bind fun wH=>some wH))))))))
def Wy (N:Nat) (a0:aK):Option Bool:=
  bif (a0.Kind==1) then Ez N (a0,(a0.Kind==1)) else (bif (a0.Kind==5) then Ez N (a0,(a0.Kind==5)) else (bif (a0.Kind==7) then Ez N (a0,(a0.Kind==7)) else (bif (a0.Kind==13) then Ez N (a0,(a0.Kind==13)) else (bif (a0.Kind==27) then Ez N (a0,(a0.Kind==27)) else (Ez N (a0,(a0.Kind==44)))))))
def Bq (N:Nat) (a0:aK):Option Bool:=
  (Iw a0).bind fun r2=>((oI a0.Kind 1 16).bind fun r7=>bif r7 then some true else ((oI a0.Kind 20 34).bind fun r8=>bif r8 then some true else ((oI a0.Kind 40 45).bind fun r9=>some r9))).bind fun y6=>(bif y6 then (Ew a0).bind fun bH=>bif bH then (Wy N a0).bind fun qZ=>bif qZ then (oI (a0.Kids.length:Int) r2.1 r2.2).bind fun r16=>some r16 else (some false) else (some false) else (some false)).bind fun y13=>some y13
def IC (a0:Int):Option Bool:=
  (bif (a0==1) then some true else (bif (a0==5) then some true else (some<|a0==6))).bind fun y1=>some y1
def oU (a0:Int):Option Bool:=
  (oI a0 1 15).bind fun r2=>some r2
def Wz (a0:Int):Option Bool:=
  (oI a0 20 34).bind fun r2=>some r2
def Oa:(Int×Int×aK×Bool)->Option Bool
  | (a1,a2,a0,qd)=>bif qd then some (a2==33) else (bif (a0.Kind==33) then (Wz a2).bind fun nZ=>some nZ else (bif (a0.Kind==42) then (bif (a0.Op==1) then (oU a2).bind fun vo=>bif vo then some true else (bif (a0.Op==2) then bif (a2==33) then some true else (bif (a0.Op==3) then bif (a1==(IntKind.wrap .i64<|(a0.Kids.length:Int) - 1)) then bif (a2==33) then some true else (bif (!(a1==(IntKind.wrap .i64<|(a0.Kids.length:Int) - 1))) then (oU a2).bind fun qB=>some qB else (some false)) else (bif (!(a1==(IntKind.wrap .i64<|(a0.Kids.length:Int) - 1))) then (oU a2).bind fun sV=>some sV else (some false)) else (some false)) else (bif (a0.Op==3) then bif (a1==(IntKind.wrap .i64<|(a0.Kids.length:Int) - 1)) then bif (a2==33) then some true else (bif (!(a1==(IntKind.wrap .i64<|(a0.Kids.length:Int) - 1))) then (oU a2).bind fun sU=>some sU else (some false)) else (bif (!(a1==(IntKind.wrap .i64<|(a0.Kids.length:Int) - 1))) then (oU a2).bind fun VO=>some VO else (some false)) else (some false))) else (bif (a0.Op==2) then bif (a2==33) then some true else (bif (a0.Op==3) then bif (a1==(IntKind.wrap .i64<|(a0.Kids.length:Int) - 1)) then bif (a2==33) then some true else (bif (!(a1==(IntKind.wrap .i64<|(a0.Kids.length:Int) - 1))) then (oU a2).bind fun KY=>some KY else (some false)) else (bif (!(a1==(IntKind.wrap .i64<|(a0.Kids.length:Int) - 1))) then (oU a2).bind fun KZ=>some KZ else (some false)) else (some false)) else (bif (a0.Op==3) then bif (a1==(IntKind.wrap .i64<|(a0.Kids.length:Int) - 1)) then bif (a2==33) then some true else (bif (!(a1==(IntKind.wrap .i64<|(a0.Kids.length:Int) - 1))) then (oU a2).bind fun qU=>some qU else (some false)) else (bif (!(a1==(IntKind.wrap .i64<|(a0.Kids.length:Int) - 1))) then (oU a2).bind fun wM=>some wM else (some false)) else (some false)))).bind fun lq=>some lq else (bif (a0.Kind==43) then (bif (decide<|a1 < 2) then (oU a2).bind fun jS=>bif jS then some true else (bif (a1==2) then some (a2==33) else (some false)) else (bif (a1==2) then some (a2==33) else (some false))).bind fun y97=>some y97 else (bif (a0.Kind==44) then (bif (a1==(IntKind.wrap .i64<|(a0.Kids.length:Int) - 1)) then bif (a2==33) then some true else (bif (!(a1==(IntKind.wrap .i64<|(a0.Kids.length:Int) - 1))) then some (a2==1) else (some false)) else (bif (!(a1==(IntKind.wrap .i64<|(a0.Kids.length:Int) - 1))) then some (a2==1) else (some false))).bind fun y99=>some y99 else (bif (a0.Kind==45) then ((oI a2 40 44).bind fun VN=>bif VN then some true else (some<|a2==34)).bind fun y101=>some y101 else ((oU a2).bind fun oQ=>some oQ))))))
def Sq:(Int×Int×aK×Bool)->Option Bool
  | (a1,a2,a0,y52)=>bif y52 then (IC a2).bind fun fO=>some fO else (bif (a0.Kind==15) then ((oU a2).bind fun iD=>bif iD then bif (decide<|a1 > 0) then some true else ((IC a2).bind fun mH=>some mH) else (some false)).bind fun WA=>some WA else (bif (a0.Kind==28) then (bif (a1==0) then (oU a2).bind fun Bp=>bif Bp then some true else (bif (decide<|a1 > 0) then some (a2==33) else (some false)) else (bif (decide<|a1 > 0) then some (a2==33) else (some false))).bind fun lg=>some lg else (bif (a0.Kind==29) then (bif (a1==0) then (oU a2).bind fun mX=>bif mX then some true else (bif (a1==1) then some (a2==33) else (some false)) else (bif (a1==1) then some (a2==33) else (some false))).bind fun EA=>some EA else (bif (a0.Kind==30) then (bif (a1==0) then bif (a2==33) then some true else (bif (a1==1) then (oU a2).bind fun Ns=>some Ns else (some false)) else (bif (a1==1) then (oU a2).bind fun jr=>some jr else (some false))).bind fun y68=>some y68 else (bif (a0.Kind==31) then (bif (decide<|a1 < 3) then (oU a2).bind fun Bg=>bif Bg then some true else (bif (a2==16) then some true else (bif (a1==3) then some (a2==33) else (some false))) else (bif (a1==3) then some (a2==33) else (some false))).bind fun gY=>some gY else (bif (a0.Kind==32) then Oa (a1,a2,a0,(a0.Kind==32)) else (bif (a0.Kind==40) then Oa (a1,a2,a0,(a0.Kind==40)) else (Oa (a1,a2,a0,(a0.Kind==41))))))))))
def Gb (a0:aK) (a1:Int) (a2:Int):Option Bool:=
  bif (a0.Kind==9) then Sq (a1,a2,a0,(a0.Kind==9)) else (Sq (a1,a2,a0,(a0.Kind==10)))
def IE (N:Nat) (dX:(LN×Int)->Option Bool):Nat->(LN×Int×Int)->Option Bool
  | 0,_=>none
  | n2+1,(a0,vB,IG)=>(ix a0 vB).bind fun afx=>bif (decide<|IG < (afx.Kids.length:Int)) then (ix a0 vB).bind fun afy=>(ix a0 vB).bind fun amc=>(ix amc.Kids IG).bind fun amd=>(ix a0 amd).bind fun afz=>(Gb afy IG afz.Kind).bind fun ame=>bif (!ame) then some false else ((IE N dX n2) (a0,vB,(IntKind.wrap .i64<|IG+1))) else (dX (a0,(IntKind.wrap .i64<|vB+1)))
def Br (N:Nat):Nat->(LN×Int)->Option Bool
  | 0,_=>none
  | n1+1,(a0,vB)=>bif (decide<|vB < (a0.length:Int)) then (ix a0 vB).bind fun afA=>(Bq N afA).bind fun amf=>bif (!amf) then some false else (IE N (Br N n1) N (a0,vB,0)) else (some true)
def zL (N:Nat) (a0:LN):Option Bool:=
  ((RX N a0).bind fun r9=>bif (!r9) then some true else ((Wj N a0).bind fun bJ=>some<|decide<|bJ > 40)).bind fun y8=>bif y8 then some false else (Br N N (a0,0))
def Ki (N:Nat) (a0:LN):Option Bool:=
  ((zL N a0).bind fun r5=>bif r5 then (ix a0<|IntKind.wrap .i64<|(a0.length:Int) - 1).bind fun e6=>(oU e6.Kind).bind fun r7=>some r7 else (some false)).bind fun y4=>some y4
def Ay:Option aN:=
  some (⟨1,false,false,false,false⟩:aN)
def Oc (a0:aN):Option Bool:=
  ((oI a0.Level 1 15).bind fun r3=>bif r3 then bif (!a0.tV) then some true else (some<|a0.Level==14) else (some false)).bind fun y2=>some y2
def La:(Int×Bool)->Option Int
  | (a0,y8)=>bif y8 then some 10 else (bif (a0==60) then some 12 else (some 0))
def Od:(Int×Bool)->Option Int
  | (a0,y7)=>bif y7 then some 9 else (bif (a0==57) then La (a0,(a0==57)) else (bif (a0==58) then La (a0,(a0==58)) else (La (a0,(a0==59)))))
def EB:(Int×Bool)->Option Int
  | (a0,y6)=>bif y6 then some 7 else (bif (a0==99) then some 8 else (bif (a0==55) then Od (a0,(a0==55)) else (Od (a0,(a0==56)))))
def Oe:(Int×Bool)->Option Int
  | (a0,y5)=>bif y5 then some 6 else (bif (a0==63) then EB (a0,(a0==63)) else (bif (a0==48) then EB (a0,(a0==48)) else (bif (a0==47) then EB (a0,(a0==47)) else (bif (a0==50) then EB (a0,(a0==50)) else (bif (a0==62) then EB (a0,(a0==62)) else (EB (a0,(a0==49))))))))
def Gc (a0:Int):Option Int:=
  bif (a0==44) then some 3 else (bif (a0==45) then some 4 else (bif (a0==67) then Oe (a0,(a0==67)) else (Oe (a0,(a0==46)))))
def Gf:Bool->Option Int
  | y8=>bif y8 then some 15 else (some 0)
def WB:(aK×Bool)->Option Int
  | (a0,y7)=>bif y7 then some 13 else (bif (a0.Kind==6) then some 14 else (bif (a0.Kind==1) then Gf (a0.Kind==1) else (bif (a0.Kind==2) then Gf (a0.Kind==2) else (bif (a0.Kind==3) then Gf (a0.Kind==3) else (bif (a0.Kind==4) then Gf (a0.Kind==4) else (bif (a0.Kind==5) then Gf (a0.Kind==5) else (bif (a0.Kind==7) then Gf (a0.Kind==7) else (Gf<|a0.Kind==8))))))))
def Lb (a0:aK):Option Int:=
  bif (a0.Kind==15) then some 1 else (bif (a0.Kind==14) then some 2 else (bif (a0.Kind==13) then some 5 else (bif (a0.Kind==12) then (Gc a0.Op).bind fun r6=>some r6 else (bif (a0.Kind==11) then some 11 else (bif (a0.Kind==9) then WB (a0,(a0.Kind==9)) else (WB (a0,(a0.Kind==10))))))))
def WC (a0:aK) (a1:aN):Option Bool:=
  ((Oc a1).bind fun yO=>bif (!yO) then some true else ((Lb a0).bind fun bH=>some<|bH==0)).bind fun qP=>bif qP then some false else ((bif a1.bC then some (a0.Kind==13) else (some false)).bind fun iP=>bif iP then some false else ((bif a1.bE then bif (a0.Kind==12) then some (a0.Op==62) else (some false) else (some false)).bind fun Og=>bif Og then some false else ((bif a1.iZ then bif (a0.Kind==11) then some true else (bif (a0.Kind==9) then some true else (some<|a0.Kind==4)) else (some false)).bind fun FT=>bif FT then some false else ((bif a1.tV then some (a0.Kind==9) else (some false)).bind fun y18=>bif y18 then some true else ((Lb a0).bind fun Bb=>some<|decide<|Bb>=a1.Level)))))
def afC (a0:aK):Option aC:=
  bif (a0.Kind==1) then some (⟨6,a0.Text,0⟩:aC) else (bif (a0.Kind==2) then some (⟨3,a0.Text,0⟩:aC) else (bif (a0.Kind==3) then some (⟨4,a0.Text,0⟩:aC) else (bif (a0.Kind==4) then some (⟨5,a0.Text,0⟩:aC) else (some (⟨0,[],0⟩:aC)))))
def jZ (a0:Int):Option aC:=
  (CX a0).bind fun r2=>some (⟨a0,r2,0⟩:aC)
def WE (a0:Int):Option (Int×Int):=
  (Gc a0).bind fun r4=>bif (r4==3) then some (3,4) else (bif (r4==4) then some (4,5) else (bif (r4==6) then some (7,7) else (bif (r4==7) then some (8,8) else (bif (r4==8) then some (8,9) else (bif (r4==9) then some (9,10) else (bif (r4==10) then some (10,11) else (some (13,11))))))))
def CZ:(aN×Int×Bool×Bool)->Option aN
  | (a2,y25,oP,y27)=>some (⟨y25,oP,a2.bC,a2.bE,y27⟩:aN)
def Sr:(aK×aN×Bool×Bool)->Option aN
  | (a0,a2,iP,y34)=>bif y34 then CZ (a2,14,false,false) else (bif (a0.Kind==6) then CZ (a2,14,true,false) else (Option.bind Ay fun sP=>some sP))
def kP (a0:aK) (a1:Int) (a2:aN):Option aN:=
  ((Oc a2).bind fun dP=>bif (!dP) then some true else ((oI a1 0<|IntKind.wrap .i64<|(a0.Kids.length:Int) - 1).bind fun yO=>bif (!yO) then some true else ((Lb a0).bind fun bH=>some<|bH==0))).bind fun dS=>bif dS then some (⟨0,false,false,false,false⟩:aN) else ((bif a2.iZ then some (a1==0) else (some false)).bind fun iP=>bif (a0.Kind==15) then bif (decide<|a1 > 0) then CZ (a2,1,false,iP) else (CZ (a2,14,false,iP)) else (bif (a0.Kind==14) then bif (a1==0) then CZ (a2,3,false,iP) else (CZ (a2,2,false,iP)) else (bif (a0.Kind==13) then bif (decide<|(a0.Kids.length:Int) > 1) then Option.bind Ay fun Gg=>some Gg else (CZ (a2,5,false,iP)) else (bif (a0.Kind==12) then (WE a0.Op).bind fun fV=>bif (decide<|a1 > 0) then CZ (a2,fV.2,false,(a0.Op==99)) else (CZ (a2,fV.1,false,iP)) else (bif (a0.Kind==11) then CZ (a2,11,false,false) else (bif (a0.Kind==9) then Sr (a0,a2,iP,(a0.Kind==9)) else (Sr (a0,a2,iP,(a0.Kind==10)))))))))
structure vC where
  Sv:gV->aK->aN->Option LT
  zM:gV->Int->Option LT
  Da:gV->(List Int)->Option LT
  EC:gV->aC->(List Int)->Int->Option LT
  wP:gV->Int->aN->Option LT
  gu:gV->Int->aN->Option LT
def Lc (N:Nat) (R:vC):(gV×aK×aN×LT)->Option LT
  | (a0,a1,a2,sW)=>(ix a1.Kids 1).bind fun e64=>(kP a1 1 a2).bind fun mX=>(R.gu a0 e64 mX).bind fun qC=>(app 32 sW qC).bind fun x67=>some x67
def afD (N:Nat) (R:vC) (a0:gV) (a1:aK) (a2:aN):Option LT:=
  (ix a1.Kids 0).bind fun e4=>(kP a1 0 a2).bind fun r5=>(R.gu a0 e4 r5).bind fun r6=>bif (a1.Kind==14) then (jZ 65).bind fun fV=>(app 32 r6 [fV]).bind fun x34=>(ix a1.Kids 1).bind fun e39=>(kP a1 1 a2).bind fun qg=>(R.gu a0 e39 qg).bind fun xG=>(app 32 x34 xG).bind fun x42=>(jZ 66).bind fun r45=>(app 32 x42 [r45]).bind fun x46=>(ix a1.Kids 2).bind fun e51=>(kP a1 2 a2).bind fun rT=>(R.gu a0 e51 rT).bind fun kL=>(app 32 x46 kL).bind fun x54=>some x54 else (bif (a1.Op !=99) then (jZ a1.Op).bind fun jr=>(app 32 r6 [jr]).bind fun WG=>Lc N R (a0,a1,a2,WG) else (Lc N R (a0,a1,a2,r6)))
def afE (N:Nat) (R:vC) (a0:gV) (a1:Int):Option LT:=
  (R.wP a0 a1 (⟨14,false,false,false,false⟩:aN)).bind fun r2=>some r2
def Sw (N:Nat) (R:vC) (dX:((List Int)×gV×Int×LT)->Option LT):((List Int)×Int×gV×LT)->Option LT
  | (a1,mY,a0,abl)=>(ix a1 mY).bind fun e169=>Option.bind Ay fun afF=>(R.gu a0 e169 afF).bind fun WH=>(app 32 abl WH).bind fun Oh=>dX (a1,a0,(IntKind.wrap .i64<|mY+1),Oh)
def Db (N:Nat) (R:vC):Nat->((List Int)×gV×Int×LT)->Option LT
  | 0,_=>none
  | n1+1,(a1,a0,mY,mU)=>bif (decide<|mY < (a1.length:Int)) then bif (decide<|mY > 0) then (jZ 36).bind fun amh=>(app 32 mU [amh]).bind fun afG=>Sw N R (Db N R n1) (a1,mY,a0,afG) else (Sw N R (Db N R n1) (a1,mY,a0,mU)) else (some mU)
def afH (N:Nat) (R:vC) (a0:gV) (a1:List Int):Option LT:=
  Db N R N (a1,a0,0,[])
def afI (N:Nat) (R:vC) (a0:gV) (a1:aC) (a2:List Int) (a3:Int):Option LT:=
  (jZ a3).bind fun r4=>(R.Da a0 a2).bind fun r5=>(app 32 [a1,r4] r5).bind fun x6=>(jZ<|IntKind.wrap .i64<|a3+1).bind fun r9=>(app 32 x6 [r9]).bind fun x10=>some x10
def Ld (N:Nat) (R:vC):(aK×LT)->Option LT
  | (e2,y168)=>(jZ 24).bind fun WH=>(app 32 y168 [WH,(⟨6,e2.Text,0⟩:aC)]).bind fun Oh=>some Oh
def WI (N:Nat) (R:vC) (a0:gV) (a1:Int) (a2:aN):Option LT:=
  (ix a0.l a1).bind fun e2=>(afC e2).bind fun r4=>bif (r4.Kind !=0) then some [r4] else (bif (e2.Kind==5) then (R.EC a0 (⟨6,e2.Text,0⟩:aC) e2.Kids 34).bind fun wM=>some wM else (bif (e2.Kind==7) then (R.EC a0 (⟨7,e2.Text,0⟩:aC) e2.Kids 32).bind fun r97=>some r97 else (bif (e2.Kind==8) then (R.EC a0 (⟨8,e2.Text,0⟩:aC) e2.Kids 32).bind fun r99=>some r99 else (bif (e2.Kind==9) then (jZ e2.Op).bind fun oQ=>(ix e2.Kids 0).bind fun WJ=>(R.zM a0 WJ).bind fun mW=>(app 32 [oQ] mW).bind fun x107=>some x107 else (bif (e2.Kind==10) then (ix e2.Kids 0).bind fun Lf=>(R.zM a0 Lf).bind fun Bf=>(jZ e2.Op).bind fun rR=>(app 32 Bf [rR]).bind fun x115=>some x115 else (bif (e2.Kind==15) then (ix e2.Kids 0).bind fun e120=>(R.zM a0 e120).bind fun qR=>(jZ e2.Op).bind fun nY=>(app 32 qR [nY]).bind fun abo=>(ix e2.Kids 1).bind fun e128=>(kP e2 1 a2).bind fun sS=>(R.gu a0 e128 sS).bind fun qb=>(app 32 abo qb).bind fun abp=>some abp else (bif (e2.Kind==6) then (jZ 68).bind fun Bj=>(ix e2.Kids 0).bind fun e138=>(kP e2 0 a2).bind fun xE=>(R.gu a0 e138 xE).bind fun II=>(app 32 [Bj] II).bind fun Sy=>some Sy else (bif (e2.Kind==11) then (jZ e2.Op).bind fun ami=>(ix e2.Kids 0).bind fun afJ=>(kP e2 0 a2).bind fun CP=>(R.gu a0 afJ CP).bind fun Et=>(app 32 [ami] Et).bind fun x151=>some x151 else (bif (e2.Kind==13) then (ix e2.Kids 0).bind fun WK=>(kP e2 0 a2).bind fun WL=>(R.gu a0 WK WL).bind fun Lg=>bif (decide<|(e2.Kids.length:Int) > 1) then (jZ 32).bind fun abq=>(R.Da a0 e2.Kids).bind fun abr=>(app 32 [abq] abr).bind fun abt=>(jZ 33).bind fun abu=>(app 32 abt [abu]).bind fun WM=>Ld N R (e2,WM) else (Ld N R (e2,Lg)) else ((R.Sv a0 e2 a2).bind fun SA=>some SA))))))))))
def WO (N:Nat) (R:vC) (a0:gV) (a1:Int) (a2:aN):Option LT:=
  ((ix a0.l a1).bind fun e11=>(WC e11 a2).bind fun dP=>bif dP then some (!a0.full) else (some false)).bind fun gP=>bif gP then (R.wP a0 a1 a2).bind fun bH=>some bH else ((bif a0.full then (ix a0.l a1).bind fun e28=>(Lb e28).bind fun CY=>bif (CY==15) then (ix a0.l a1).bind fun e30=>some (e30.Kind !=4) else (some false) else (some false)).bind fun y27=>bif y27 then (R.wP a0 a1 a2).bind fun r32=>some r32 else ((jZ 32).bind fun jv=>Option.bind Ay fun kN=>(R.wP a0 a1 kN).bind fun Lh=>(app 32 [jv] Lh).bind fun x40=>(jZ 33).bind fun Eu=>(app 32 x40 [Eu]).bind fun Iq=>some Iq))
def dV:Nat->vC
  | 0=>⟨fun _ _ _=>none,fun _ _=>none,fun _ _=>none,fun _ _ _ _=>none,fun _ _ _=>none,fun _ _ _=>none⟩
  | N+1=>⟨fun a0 a1 a2=>afD N (dV N) a0 a1 a2,fun a0 a1=>afE N (dV N) a0 a1,fun a0 a1=>afH N (dV N) a0 a1,fun a0 a1 a2 a3=>afI N (dV N) a0 a1 a2 a3,fun a0 a1 a2=>WI N (dV N) a0 a1 a2,fun a0 a1 a2=>WO N (dV N) a0 a1 a2⟩
def Sv (N:Nat) (a0:gV) (a1:aK) (a2:aN):Option LT:=(dV N).Sv a0 a1 a2
def zM (N:Nat) (a0:gV) (a1:Int):Option LT:=(dV N).zM a0 a1
def Da (N:Nat) (a0:gV) (a1:List Int):Option LT:=(dV N).Da a0 a1
def EC (N:Nat) (a0:gV) (a1:aC) (a2:List Int) (a3:Int):Option LT:=(dV N).EC a0 a1 a2 a3
def wP (N:Nat) (a0:gV) (a1:Int) (a2:aN):Option LT:=(dV N).wP a0 a1 a2
def gu (N:Nat) (a0:gV) (a1:Int) (a2:aN):Option LT:=(dV N).gu a0 a1 a2
def Mw (N:Nat) (a0:LN):Option LT:=
  ((Ki N a0).bind fun r9=>bif (!r9) then some true else ((ix a0<|IntKind.wrap .i64<|(a0.length:Int) - 1).bind fun e10=>some<|e10.Kind==16)).bind fun y8=>bif y8 then some [] else (Option.bind Ay fun yO=>(gu N (⟨a0,true⟩:gV) (IntKind.wrap .i64<|(a0.length:Int) - 1) yO).bind fun bH=>some bH)
def Oi (a0:Int):Option Bool:=
  (bif (a0==33) then some true else (bif (a0==35) then some true else (some<|a0==31))).bind fun y1=>some y1
def Oj (a0:Int):Option Bool:=
  (bif (a0==32) then some true else (bif (a0==34) then some true else (some<|a0==30))).bind fun y1=>some y1
def SC (N:Nat) (dX:(LT×Int×Int)->Option Int):(LT×Int×Int)->Option Int
  | (a0,y150,SE)=>bif (decide<|SE > 40) then some y150 else (dX (a0,SE,(IntKind.wrap .i64<|y150+1)))
def SF (N:Nat) (dX:(LT×Int×Int)->Option Int):(LT×Int×Int)->Option Int
  | (a0,y150,Ol)=>(ix a0 y150).bind fun e219=>(Oj e219.Kind).bind fun amj=>bif amj then SC N dX (a0,y150,(IntKind.wrap .i64<|Ol+1)) else (SC N dX (a0,y150,Ol))
def Dc (N:Nat):Nat->(LT×Int×Int)->Option Int
  | 0,_=>none
  | n1+1,(a0,IJ,y150)=>bif (decide<|y150 < (a0.length:Int)) then (ix a0 y150).bind fun e223=>(Oi e223.Kind).bind fun amk=>bif amk then SF N (Dc N n1) (a0,y150,(if (IntKind.wrap .i64<|IJ - 1) > 0 then (IntKind.wrap .i64<|IJ - 1) else 0)) else (SF N (Dc N n1) (a0,y150,IJ)) else (some<|-1)
def abv (N:Nat) (a0:LT):Option Int:=
  Dc N N (a0,0,0)
def IK (N:Nat) (dX:(LT×Int×(List cO))->Option (List cO)):(LT×Int×(List cO))->Option (List cO)
  | (a0,gI,WQ)=>dX (a0,(IntKind.wrap .i64<|gI+1),WQ)
def Om (N:Nat) (dX:(LT×Int×(List cO))->Option (List cO)) (SG:(LT×Int×(List cO)×Int×Int)->Option (List cO)):(LT×Int×Int×(List cO)×Int)->Option (List cO)
  | (a0,gI,oV,kg,SH)=>bif (SH==0) then (app 16 kg [(⟨gI,oV⟩:cO)]).bind fun afK=>IK N dX (a0,gI,afK) else (SG (a0,gI,kg,SH,(IntKind.wrap .i64<|oV+1)))
def SI (N:Nat) (dX:(LT×Int×(List cO))->Option (List cO)) (SG:(LT×Int×(List cO)×Int×Int)->Option (List cO)):(LT×Int×Int×(List cO)×Int)->Option (List cO)
  | (a0,gI,oV,kg,Oo)=>(ix a0 oV).bind fun aml=>bif (aml.Kind==33) then Om N dX SG (a0,gI,oV,kg,(IntKind.wrap .i64<|Oo - 1)) else (Om N dX SG (a0,gI,oV,kg,Oo))
def Df (N:Nat) (dX:(LT×Int×(List cO))->Option (List cO)):Nat->(LT×Int×(List cO)×Int×Int)->Option (List cO)
  | 0,_=>none
  | n3+1,(a0,gI,kg,Oq,oV)=>bif (decide<|oV < (a0.length:Int)) then (ix a0 oV).bind fun amm=>bif (amm.Kind==32) then SI N dX (Df N dX n3) (a0,gI,oV,kg,(IntKind.wrap .i64<|Oq+1)) else (SI N dX (Df N dX n3) (a0,gI,oV,kg,Oq)) else (IK N dX (a0,gI,kg))
def wQ (N:Nat):Nat->(LT×Int×(List cO))->Option (List cO)
  | 0,_=>none
  | n1+1,(a0,gI,kg)=>bif (decide<|gI < (a0.length:Int)) then ((ix a0 gI).bind fun amn=>bif (amn.Kind !=32) then some true else (bif (decide<|gI > 0) then (ix a0<|IntKind.wrap .i64<|gI - 1).bind fun amo=>bif (amo.Kind==7) then some true else ((ix a0<|IntKind.wrap .i64<|gI - 1).bind fun amq=>some<|amq.Kind==8) else (some false))).bind fun afL=>bif afL then IK N (wQ N n1) (a0,gI,kg) else (Df N (wQ N n1) N (a0,gI,kg,0,gI)) else (some kg)
def abw (N:Nat) (a0:LT):Option (List cO):=
  wQ N N (a0,0,[])
def Zx:Option aN:=
  some (⟨1,false,false,false,false⟩:aN)
def abx (a0:LT):Option LT:=
  (app 32 [] a0).bind fun x2=>some x2
def IL (a0:LT) (a1:Int):Option Bool:=
  (bif (decide<|a1 > 0) then (ix a0<|IntKind.wrap .i64<|a1 - 1).bind fun e4=>bif (e4.Kind==7) then some true else ((ix a0<|IntKind.wrap .i64<|a1 - 1).bind fun e5=>some<|e5.Kind==8) else (some false)).bind fun y3=>some y3
def Bt (N:Nat) (dX:(LT×Int×(List cO))->Option (List cO)):(LT×Int×(List cO))->Option (List cO)
  | (a0,ig,WR)=>dX (a0,(IntKind.wrap .i64<|ig+1),WR)
def Dh (N:Nat) (dX:(LT×Int×(List cO))->Option (List cO)) (SG:(LT×Int×(List cO)×Int×Int)->Option (List cO)):(LT×Int×Int×(List cO)×Int)->Option (List cO)
  | (a0,ig,vD,nL,SK)=>bif (SK==0) then (app 16 nL [(⟨ig,vD⟩:cO)]).bind fun afM=>Bt N dX (a0,ig,afM) else (SG (a0,ig,nL,SK,(IntKind.wrap .i64<|vD+1)))
def xK (N:Nat) (dX:(LT×Int×(List cO))->Option (List cO)):Nat->(LT×Int×(List cO)×Int×Int)->Option (List cO)
  | 0,_=>none
  | n3+1,(a0,ig,nL,IQ,vD)=>bif (decide<|vD < (a0.length:Int)) then (ix a0 vD).bind fun afN=>bif (afN.Kind==32) then Dh N dX (xK N dX n3) (a0,ig,vD,nL,(IntKind.wrap .i64<|IQ+1)) else (bif (afN.Kind==33) then Dh N dX (xK N dX n3) (a0,ig,vD,nL,(IntKind.wrap .i64<|IQ - 1)) else (Dh N dX (xK N dX n3) (a0,ig,vD,nL,IQ))) else (Bt N dX (a0,ig,nL))
def uf (N:Nat):Nat->(LT×Int×(List cO))->Option (List cO)
  | 0,_=>none
  | n1+1,(a0,ig,nL)=>bif (decide<|ig < (a0.length:Int)) then (ix a0 ig).bind fun amr=>(bif (amr.Kind !=32) then some true else ((IL a0 ig).bind fun ams=>some ams)).bind fun afO=>bif afO then Bt N (uf N n1) (a0,ig,nL) else (xK N (uf N n1) N (a0,ig,nL,0,ig)) else (some nL)
def SL (N:Nat) (a0:LT):Option (List cO):=
  uf N N (a0,0,[])
def Bu (a0:Int) (a1:Int) (a2:Int):Option Bool:=
  (bif (decide<|a0>=a1) then some (decide<|a0<=a2) else (some false)).bind fun y1=>some y1
def WS (a0:aN):Option Bool:=
  ((Bu a0.Level 1 15).bind fun r3=>bif r3 then bif (!a0.tV) then some true else (some<|a0.Level==14) else (some false)).bind fun y2=>some y2
def afP (a0:LU) (a1:Int):Option Int:=
  some (Go.Lib.indexByte a0 (Int.toNat a1).toUInt8)
def WT (a0:LU):Option Int:=
  bif (([10]:LU)==a0) then some 0 else ((ix ([10]:LU) 0).bind fun b7=>(afP a0 ((b7).toNat:Int)).bind fun r8=>some r8)
def aby (a0:LU):Option Int:=
  (WT a0).bind fun r2=>some r2
def WU (a0:LU):Option Bool:=
  (aby a0).bind fun r2=>some (decide<|r2>=0)
def Gh (a0:LU) (a1:Int):Option Int:=
  (Bu a1 0<|IntKind.wrap .i64<|(a0.length:Int) - 1).bind fun r4=>bif (!r4) then some (-1) else ((ix a0 a1).bind fun b6=>some<|IntKind.wrap .i64 ((b6).toNat:Int))
def SN (a0:Int):Option Bool:=
  (bif (decide<|a0>=48) then some (decide<|a0<=57) else (some false)).bind fun y1=>some y1
def Ot (N:Nat):Nat->(LU×Int)->Option Int
  | 0,_=>none
  | n1+1,(a0,a1)=>(Gh a0 a1).bind fun fV=>(SN fV).bind fun xJ=>bif xJ then (Ot N n1) (a0,(IntKind.wrap .i64<|a1+1)) else (some a1)
def SQ (N:Nat) (a0:LU) (a1:Int):Option Int:=
  Ot N N (a0,a1)
def WV (N:Nat):Int->Option Int
  | dS=>some dS
def SV (N:Nat):(LU×Int×Int)->Option Int
  | (a0,dS,y31)=>(SQ N a0 y31).bind fun fV=>bif (decide<|fV > y31) then some fV else (WV N dS)
def Ou (N:Nat):(LU×Int×Int)->Option Int
  | (a0,dS,qP)=>bif (qP==0) then some (-1) else ((Gh a0 dS).bind fun wL=>(bif (wL==101) then some true else (some<|wL==69)).bind fun y27=>bif y27 then (Gh a0<|IntKind.wrap .i64<|dS+1).bind fun dF=>(bif (dF==43) then some true else (some<|dF==45)).bind fun NZ=>bif NZ then SV N (a0,dS,(IntKind.wrap .i64<|(IntKind.wrap .i64<|dS+1)+1)) else (SV N (a0,dS,(IntKind.wrap .i64<|dS+1))) else (WV N dS))
def SX (N:Nat) (a0:LU) (a1:Int):Option Int:=
  (Bu a1 0<|IntKind.wrap .i64<|(a0.length:Int) - 1).bind fun r4=>bif (!r4) then some (-1) else ((SQ N a0 a1).bind fun r6=>(Gh a0 r6).bind fun kN=>bif (kN==46) then (SQ N a0<|IntKind.wrap .i64<|r6+1).bind fun qg=>Ou N (a0,qg,(IntKind.wrap .i64<|(IntKind.wrap .i64<|r6 - a1)+(IntKind.wrap .i64<|(IntKind.wrap .i64<|qg - r6) - 1))) else (Ou N (a0,r6,(IntKind.wrap .i64<|r6 - a1))))
def Ov (N:Nat) (dX:(LU×Int×Int)->Option Int):(LU×Int×Int)->Option Int
  | (a0,a2,WW)=>dX (a0,a2,(IntKind.wrap .i64<|WW+1))
def Gi (N:Nat):Nat->(LU×Int×Int)->Option Int
  | 0,_=>none
  | n1+1,(a0,a2,y91)=>(bif (decide<|y91 < (a0.length:Int)) then (ix a0 y91).bind fun amt=>some (((amt).toNat:Int) !=10) else (some false)).bind fun CQ=>bif CQ then (ix a0 y91).bind fun amu=>bif ((IntKind.wrap .i64 ((amu).toNat:Int))==a2) then some (IntKind.wrap .i64<|y91+1) else (((ix a0 y91).bind fun amv=>bif (((amv).toNat:Int)==92) then (Gh a0<|IntKind.wrap .i64<|y91+1).bind fun kM=>some (kM !=10) else (some false)).bind fun afQ=>bif afQ then Ov N (Gi N n1) (a0,a2,(IntKind.wrap .i64<|y91+1)) else (Ov N (Gi N n1) (a0,a2,y91))) else (some<|-1)
def SY (N:Nat) (a0:LU) (a1:Int) (a2:Int):Option Int:=
  (Gh a0 a1).bind fun r4=>bif (r4 !=a2) then some (-1) else (Gi N N (a0,a2,(IntKind.wrap .i64<|a1+1)))
def Ta (N:Nat) (a0:LU) (a1:Int):Option Int:=
  (SY N a0 a1 34).bind fun r2=>some r2
def Tc (N:Nat) (a0:LU) (a1:Int):Option Int:=
  (SY N a0 a1 47).bind fun r2=>bif (r2==(IntKind.wrap .i64<|a1+2)) then some (-1) else (some r2)
def Td (a0:Int):Option Bool:=
  (bif (decide<|a0>=97) then bif (decide<|a0<=122) then some true else (bif (decide<|a0>=65) then bif (decide<|a0<=90) then some true else (some<|a0==95) else (some<|a0==95)) else (bif (decide<|a0>=65) then bif (decide<|a0<=90) then some true else (some<|a0==95) else (some<|a0==95))).bind fun y1=>some y1
def WX (a0:Int):Option Bool:=
  ((Td a0).bind fun r4=>bif r4 then some true else ((SN a0).bind fun r5=>some r5)).bind fun y3=>some y3
def Ow (N:Nat):Nat->(LU×Int)->Option Bool
  | 0,_=>none
  | n1+1,(a0,iO)=>bif (decide<|iO < (a0.length:Int)) then (ix a0 iO).bind fun NR=>(WX<|IntKind.wrap .i64 ((NR).toNat:Int)).bind fun rT=>bif (!rT) then some false else ((Ow N n1) (a0,(IntKind.wrap .i64<|iO+1))) else (((Bu (a0.length:Int) 1 12).bind fun Ws=>bif Ws then (ix a0 0).bind fun NS=>(Td<|IntKind.wrap .i64 ((NS).toNat:Int)).bind fun mH=>some mH else (some false)).bind fun CJ=>some CJ)
def abz (N:Nat) (a0:LU):Option Bool:=
  Ow N N (a0,0)
def Ox (N:Nat):Nat->(aU×LU×Int)->Option Int
  | 0,_=>none
  | n1+1,(a0,a1,iI)=>bif (decide<|iI < (a0.length:Int)) then (ix a0 iI).bind fun e28=>bif (a1==e28) then some iI else ((Ox N n1) (a0,a1,(IntKind.wrap .i64<|iI+1))) else (some<|-1)
def WY (N:Nat) (a0:aU) (a1:LU):Option Int:=
  Ox N N (a0,a1,0)
def WZ (N:Nat) (a0:LU):Option Int:=
  (WY N sF a0).bind fun r2=>bif (decide<|r2 < 0) then some 0 else (some<|IntKind.wrap .i64<|10+r2)
def abA (N:Nat) (a0:aU) (a1:LU):Option Bool:=
  (WY N a0 a1).bind fun r2=>some (decide<|r2>=0)
def Te (N:Nat) (a0:LU):Option Bool:=
  (abA N zy a0).bind fun r2=>some r2
def Xa (N:Nat) (a0:LU):Option Bool:=
  ((abz N a0).bind fun r5=>bif r5 then (WZ N a0).bind fun r6=>bif (r6==0) then (Te N a0).bind fun r7=>some (!r7) else (some false) else (some false)).bind fun y4=>some y4
def Xb (a0:Int):Option Bool:=
  (Bu a0 10 26).bind fun r2=>some r2
def Xc (a0:Int):Option Bool:=
  (Bu a0 30 68).bind fun r2=>some r2
def Xd (a0:Int):Option LU:=
  bif (a0==1) then some [10] else ((Xb a0).bind fun bJ=>bif bJ then (ix sF<|IntKind.wrap .i64<|a0 - 10).bind fun e12=>some e12 else ((Xc a0).bind fun bH=>bif bH then (ix zx<|IntKind.wrap .i64<|a0 - 30).bind fun e16=>some e16 else (some [])))
def Tf (N:Nat):(aC×Bool)->Option Bool
  | (a0,y28)=>bif y28 then (Xa N a0.Text).bind fun ED=>some ED else (bif (a0.Kind==8) then (Te N a0.Text).bind fun r32=>some r32 else ((Xd a0.Kind).bind fun xJ=>some<|a0.Text==xJ))
def Xe (N:Nat) (a0:aC):Option Bool:=
  bif (a0.Text==[]) then some false else (bif (a0.Kind==2) then ((ix a0.Text 0).bind fun b20=>bif (((b20).toNat:Int)==35) then (WU a0.Text).bind fun bZ=>some (!bZ) else (some false)).bind fun iI=>some iI else (bif (a0.Kind==3) then (SX N a0.Text 0).bind fun yJ=>some (yJ==(a0.Text.length:Int)) else (bif (a0.Kind==4) then (Ta N a0.Text 0).bind fun Ey=>some (Ey==(a0.Text.length:Int)) else (bif (a0.Kind==5) then (Tc N a0.Text 0).bind fun IB=>some (IB==(a0.Text.length:Int)) else (bif (a0.Kind==6) then Tf N (a0,(a0.Kind==6)) else (Tf N (a0,(a0.Kind==7))))))))
def EF:Bool->Option Bool
  | y2=>bif y2 then some true else (some false)
def Oy (a0:Int):Option Bool:=
  bif (a0==3) then EF (a0==3) else (bif (a0==4) then EF (a0==4) else (bif (a0==5) then EF (a0==5) else (bif (a0==6) then EF (a0==6) else (bif (a0==8) then EF (a0==8) else (bif (a0==33) then EF (a0==33) else (bif (a0==35) then EF (a0==35) else (bif (a0==51) then EF (a0==51) else (EF<|a0==52))))))))
def Xf (N:Nat) (dX:(LT×Int×Int)->Option Bool):(LT×Int×aC×Bool)->Option Bool
  | (a0,mI,iE,abB)=>bif abB then some false else (dX (a0,iE.Kind,(IntKind.wrap .i64<|mI+1)))
def Li (N:Nat) (dX:(LT×Int×Int)->Option Bool):(LT×Int×Int×aC×Int)->Option Bool
  | (a0,sZ,mI,iE,Oz)=>(Xe N iE).bind fun amw=>bif (!amw) then some false else ((bif (iE.Kind==7) then some (Oz !=32) else (some false)).bind fun afR=>bif afR then some false else ((bif (iE.Kind==2) then bif (Oz !=1) then some (Oz !=0) else (some false) else (some false)).bind fun afS=>bif afS then some false else ((bif (iE.Kind==5) then (Oy sZ).bind fun amx=>some amx else (some false)).bind fun Xg=>bif Xg then Xf N dX (a0,mI,iE,Xg) else ((bif (iE.Kind==58) then (Oy sZ).bind fun amy=>some (!amy) else (bif (iE.Kind==41) then (Oy sZ).bind fun amA=>some (!amA) else (some false))).bind fun abC=>Xf N dX (a0,mI,iE,abC)))))
def yP (N:Nat):Nat->(LT×Int×Int)->Option Bool
  | 0,_=>none
  | n1+1,(a0,sZ,mI)=>bif (decide<|mI < (a0.length:Int)) then (ix a0 mI).bind fun iE=>bif (decide<|(IntKind.wrap .i64<|mI+1) < (a0.length:Int)) then (ix a0<|IntKind.wrap .i64<|mI+1).bind fun afT=>Li N (yP N n1) (a0,sZ,mI,iE,afT.Kind) else (Li N (yP N n1) (a0,sZ,mI,iE,0)) else (some true)
def OA (N:Nat) (a0:LT):Option Bool:=
  bif (decide<|(a0.length:Int) > 3000) then some false else (yP N N (a0,0,0))
def Gj (a0:Int):Option Bool:=
  (bif (a0==32) then some true else (bif (a0==34) then some true else (some<|a0==30))).bind fun y1=>some y1
def Gl (a0:Int):Option Bool:=
  (bif (a0==33) then some true else (bif (a0==35) then some true else (some<|a0==31))).bind fun y1=>some y1
def OB (N:Nat) (dX:(LT×Int×Int)->Option Int):(Int×LT×Int)->Option Int
  | (iB,a0,Ti)=>bif (decide<|Ti > 40) then some iB else (dX (a0,Ti,(IntKind.wrap .i64<|iB+1)))
def EG (N:Nat):Nat->(LT×Int×Int)->Option Int
  | 0,_=>none
  | n1+1,(a0,y93,iB)=>bif (decide<|iB < (a0.length:Int)) then (ix a0 iB).bind fun Xh=>(Gj Xh.Kind).bind fun VU=>bif VU then OB N (EG N n1) (iB,a0,(IntKind.wrap .i64<|y93+1)) else ((Gl Xh.Kind).bind fun II=>bif II then OB N (EG N n1) (iB,a0,(if 0 > (IntKind.wrap .i64<|y93 - 1) then 0 else (IntKind.wrap .i64<|y93 - 1))) else (OB N (EG N n1) (iB,a0,y93))) else (some<|-1)
def abD (N:Nat) (a0:LT):Option Int:=
  EG N N (a0,0,0)
def OC (a0:LT) (a1:Int):Option Int:=
  bif (decide<|a1 < (a0.length:Int)) then (ix a0 a1).bind fun e4=>some e4.At else (bif ((a0.length:Int)==0) then some 0 else ((ix a0<|IntKind.wrap .i64<|(a0.length:Int) - 1).bind fun e7=>(ix a0<|IntKind.wrap .i64<|(a0.length:Int) - 1).bind fun e8=>some<|IntKind.wrap .i64<|e7.At+(e8.Text.length:Int)))
def OD (N:Nat) (a0:LT):Option rQ:=
  (OA N a0).bind fun r4=>bif (!r4) then some (⟨2,0⟩:rQ) else ((abD N a0).bind fun bJ=>bif (decide<|bJ>=0) then (OC a0 bJ).bind fun dP=>some (⟨4,dP⟩:rQ) else (some (⟨0,0⟩:rQ)))
def fu (pa:LT) (pb:Int) (pc:Bool) (p1:aU):Option Int:=
  bif (decide<|pb>=(pa.length:Int)) then some 0 else ((ix pa pb).bind fun e2=>some e2.Kind)
def Gm:Bool->Option Bool
  | y2=>bif y2 then some true else (some false)
def OE (a0:Int):Option Bool:=
  bif (a0==3) then Gm (a0==3) else (bif (a0==4) then Gm (a0==4) else (bif (a0==6) then Gm (a0==6) else (bif (a0==7) then Gm (a0==7) else (bif (a0==8) then Gm (a0==8) else (bif (a0==32) then Gm (a0==32) else (Gm<|a0==68))))))
def OG (pa:LT) (pb:Int) (pc:Bool) (p1:aU):Option (dx×Bool):=
  some ((⟨(⟨0,0,[],[],[]⟩:aA),false⟩:dx),true)
def abE (N:Nat) (pa:LT) (pb:Int) (pc:Bool) (p1:aU):Unit->Option Bool
  | _=>some false
def zN (N:Nat) (pa:LT) (pb:Int) (pc:Bool) (p1:aU) (kb2:(LT×Int×Int)->Option Bool):(LT×Int×Int)->Option Bool
  | (oJ,mU,Ik)=>bif (decide<|Ik<=0) then abE N pa pb pc p1 () else (kb2 (oJ,Ik,(IntKind.wrap .i64<|mU+1)))
def qD (N:Nat) (pa:LT) (pb:Int) (pc:Bool) (p1:aU):Nat->(LT×Int×Int)->Option Bool
  | 0,_=>none
  | n2+1,(oJ,mY,mU)=>bif (decide<|mU < (oJ.length:Int)) then (ix oJ mU).bind fun Tj=>(Gj Tj.Kind).bind fun Lg=>bif Lg then zN N pa pb pc p1 (qD N pa pb pc p1 n2) (oJ,mU,(IntKind.wrap .i64<|mY+1)) else ((Gl Tj.Kind).bind fun amB=>bif amB then zN N pa pb pc p1 (qD N pa pb pc p1 n2) (oJ,mU,(IntKind.wrap .i64<|mY - 1)) else ((bif (Tj.Kind==36) then some (mY==1) else (some false)).bind fun y160=>bif y160 then some true else (zN N pa pb pc p1 (qD N pa pb pc p1 n2) (oJ,mU,mY)))) else (abE N pa pb pc p1 ())
def Di (N:Nat) (pa:LT) (pb:Int) (pc:Bool) (p1:aU):Option Bool:=
  (cut pa pb (pa.length:Int)).bind fun oJ=>qD N pa pb pc p1 N (oJ,0,0)
def Tm (N:Nat) (pa:LT) (pc:Bool) (dX:(Int×aU)->Option (Int×aU)):(Int×aU)->Option (Int×aU)
  | (qX,nK)=>dX ((IntKind.wrap .i64<|qX+1),nK)
def Bv (N:Nat) (pa:LT) (pc:Bool):Nat->(Int×aU)->Option (Int×aU)
  | 0,_=>none
  | n1+1,(qX,iP)=>bif (!pc) then (fu pa qX pc iP).bind fun Lh=>bif (Lh==1) then Tm N pa pc (Bv N pa pc n1) (qX,iP) else (bif (Lh==2) then (ix pa qX).bind fun e42=>(app 16 iP [e42.Text]).bind fun x43=>Tm N pa pc (Bv N pa pc n1) (qX,x43) else (some (qX,iP))) else (some (qX,iP))
def IU (N:Nat) (pa:LT) (pb:Int) (pc:Bool) (p1:aU):Option (Int×aU):=
  Bv N pa pc N (pb,p1)
def ug (a1:Int) (pa:LT) (pb:Int) (pc:Bool) (p1:aU):Option (Bool×Int×Bool):=
  (bif pc then some true else ((fu pa pb pc p1).bind fun r6=>some<|r6 !=a1)).bind fun y5=>bif y5 then some (false,pb,true) else (some (true,(IntKind.wrap .i64<|pb+1),pc))
def IV (a0:Int):Option Bool:=
  (bif (a0==51) then some true else (some<|a0==52)).bind fun y1=>some y1
def uh (pa:LT) (pb:Int) (pc:Bool) (p1:aU):Option (LU×Int):=
  (ix pa pb).bind fun e2=>some (e2.Text,(IntKind.wrap .i64<|pb+1))
def xL (a0:Int) (a1:dx) (a2:dx):Option dx:=
  some (⟨(⟨12,a0,[],[],[a1.tree,a2.tree]⟩:aA),false⟩:dx)
def Xi:(Int×Bool)->Option Int
  | (a0,y8)=>bif y8 then some 10 else (bif (a0==60) then some 12 else (some 0))
def abF:(Int×Bool)->Option Int
  | (a0,y7)=>bif y7 then some 9 else (bif (a0==57) then Xi (a0,(a0==57)) else (bif (a0==58) then Xi (a0,(a0==58)) else (Xi (a0,(a0==59)))))
def Lj:(Int×Bool)->Option Int
  | (a0,y6)=>bif y6 then some 7 else (bif (a0==99) then some 8 else (bif (a0==55) then abF (a0,(a0==55)) else (abF (a0,(a0==56)))))
def abG:(Int×Bool)->Option Int
  | (a0,y5)=>bif y5 then some 6 else (bif (a0==63) then Lj (a0,(a0==63)) else (bif (a0==48) then Lj (a0,(a0==48)) else (bif (a0==47) then Lj (a0,(a0==47)) else (bif (a0==50) then Lj (a0,(a0==50)) else (bif (a0==62) then Lj (a0,(a0==62)) else (Lj (a0,(a0==49))))))))
def OH (a0:Int):Option Int:=
  bif (a0==44) then some 3 else (bif (a0==45) then some 4 else (bif (a0==67) then abG (a0,(a0==67)) else (abG (a0,(a0==46)))))
def zO (pa:LT) (pb:Int) (pc:Bool) (p1:aU):Option (LU×Int×Bool):=
  (bif pc then some true else ((fu pa pb pc p1).bind fun r6=>some<|r6 !=6)).bind fun y5=>bif y5 then some ([],pb,true) else ((uh pa pb pc p1).bind fun r8=>some (r8.1,r8.2,pc))
def Xj (a0:Int):Option Bool:=
  (bif (a0==54) then some true else ((Bu a0 38 43).bind fun r3=>some r3)).bind fun y2=>some y2
structure eU where
  xM:LT->Int->Bool->aU->Option T1
  Bw:LT->Int->Bool->aU->Option T1
  qh:LT->Int->Bool->aU->Option T1
  IW:LT->Int->Bool->aU->Option T1
  xO:LT->Int->Bool->aU->Option T1
  zP:LT->Int->Bool->aU->Option T1
  zQ:bn->LT->Int->Bool->aU->Option T1
  ru:bn->LT->Int->Bool->aU->Option T1
  xP:bn->LT->Int->Bool->aU->Option T1
  xQ:bn->LT->Int->Bool->aU->Option T1
  vE:bn->LT->Int->Bool->aU->Option T1
  wU:bn->LT->Int->Bool->aU->Option T1
  yQ:bn->LT->Int->Bool->aU->Option T1
  Dj:bn->LT->Int->Bool->aU->Option (LS×Int×Bool×aU)
  xR:Int->LT->Int->Bool->aU->Option (LS×Int×Bool×aU)
  xS:bn->LT->Int->Bool->aU->Option T1
  xU:bn->LT->Int->Bool->aU->Option T1
  zR:bn->LT->Int->Bool->aU->Option T1
  tq:bn->LT->Int->Bool->aU->Option T1
  oW:bn->LT->Int->Bool->aU->Option T1
def Tp (N:Nat) (R:eU) (pa:LT):((LU×Int)×Int×Int×Bool×LS×aU)->Option T1
  | (r2,y7,y8,y9,gP,dS)=>some ((⟨(⟨y7,0,r2.1,[],gP⟩:aA),true⟩:dx),y8,y9,dS)
def EH (N:Nat) (R:eU) (pa:LT) (pb:Int) (pc:Bool) (p1:aU):Option T1:=
  (uh pa pb pc p1).bind fun r2=>(fu pa r2.2 pc p1).bind fun yO=>bif (yO==34) then (R.xR 35 pa (IntKind.wrap .i64<|r2.2+1) pc p1).bind fun qZ=>Tp N R pa (r2,5,qZ.2.1,qZ.2.2.1,qZ.1,qZ.2.2.2) else (Tp N R pa (r2,1,r2.2,pc,[],p1))
def OI (N:Nat) (R:eU) (pa:LT):(Int×(LU×Int)×Int×Bool×LS×aU)->Option T1
  | (wV,gM,CW,sW,xV,lg)=>some ((⟨(⟨wV,0,gM.1,[],xV⟩:aA),false⟩:dx),CW,sW,lg)
def Gn (N:Nat) (R:eU) (pa:LT):((LU×Int)×Bool×aU×Int)->Option T1
  | (gM,pc,p1,wV)=>(ug 32 pa gM.2 pc p1).bind fun xH=>bif xH.1 then (R.xR 33 pa xH.2.1 xH.2.2 p1).bind fun mX=>OI N R pa (wV,gM,mX.2.1,mX.2.2.1,mX.1,mX.2.2.2) else (OI N R pa (wV,gM,xH.2.1,xH.2.2,[],p1))
def Dl (N:Nat) (R:eU) (pa:LT):(Int×Int×Bool×aU×Bool)->Option T1
  | (kN,pb,pc,p1,lK)=>bif lK then (uh pa pb pc p1).bind fun gM=>bif (kN==8) then (bif (gM.1==[108,101,110,103,116,104]) then (fu pa gM.2 pc p1).bind fun tZ=>some (tZ !=32) else (some false)).bind fun y67=>bif y67 then some ((⟨(⟨8,0,gM.1,[],[]⟩:aA),false⟩:dx),gM.2,pc,p1) else (Gn N R pa (gM,pc,p1,8)) else (Gn N R pa (gM,pc,p1,7)) else (bif (kN==32) then (R.oW (⟨false,false⟩:bn) pa (IntKind.wrap .i64<|pb+1) pc p1).bind fun jr=>(ug 33 pa jr.2.1 jr.2.2.1 jr.2.2.2).bind fun qc=>some ((⟨jr.1.tree,false⟩:dx),qc.2.1,qc.2.2,jr.2.2.2) else ((OG pa pb pc p1).bind fun lN=>some (lN.1,pb,lN.2,p1)))
def rX (N:Nat) (R:eU) (pa:LT) (pb:Int) (pc:Bool) (p1:aU):Option T1:=
  bif pc then some ((⟨(⟨0,0,[],[],[]⟩:aA),false⟩:dx),pb,pc,p1) else ((fu pa pb pc p1).bind fun kN=>bif (kN==3) then (uh pa pb pc p1).bind fun qg=>some ((⟨(⟨2,0,qg.1,[],[]⟩:aA),false⟩:dx),qg.2,pc,p1) else (bif (kN==4) then (uh pa pb pc p1).bind fun CV=>some ((⟨(⟨3,0,CV.1,[],[]⟩:aA),false⟩:dx),CV.2,pc,p1) else (bif (kN==5) then (uh pa pb pc p1).bind fun yM=>some ((⟨(⟨4,0,yM.1,[],[]⟩:aA),false⟩:dx),yM.2,pc,p1) else (bif (kN==6) then (R.xM pa pb pc p1).bind fun Dm=>some (Dm.1,Dm.2.1,Dm.2.2.1,Dm.2.2.2) else (bif (kN==7) then Dl N R pa (kN,pb,pc,p1,(kN==7)) else (Dl N R pa (kN,pb,pc,p1,(kN==8))))))))
def Tq (N:Nat) (R:eU) (pa:LT):(Int×Int×LU×LU×LS×Bool×Int×Bool×aU)->Option T1
  | (iI,y20,y21,y22,y23,y24,y25,oP,y27)=>some ((⟨(⟨6,0,[],[],[(⟨iI,y20,y21,y22,y23⟩:aA)]⟩:aA),true⟩:dx),y25,oP,y27)
def wW (N:Nat) (R:eU) (pa:LT) (pb:Int) (pc:Bool) (p1:aU):Option T1:=
  (bif pc then some true else ((fu pa pb pc p1).bind fun r8=>some<|r8 !=68)).bind fun y7=>bif y7 then (R.Bw pa pb pc p1).bind fun bJ=>some (bJ.1,bJ.2.1,bJ.2.2.1,bJ.2.2.2) else ((fu pa (IntKind.wrap .i64<|pb+1) pc p1).bind fun ED=>(IV ED).bind fun Gg=>bif Gg then (R.xO pa (IntKind.wrap .i64<|pb+1) pc p1).bind fun fV=>Tq N R pa (fV.1.tree.kind,fV.1.tree.op,fV.1.tree.text,fV.1.tree.other,fV.1.tree.kids,fV.1.target,fV.2.1,fV.2.2.1,fV.2.2.2) else ((R.qh pa (IntKind.wrap .i64<|pb+1) pc p1).bind fun dF=>Tq N R pa (dF.1.tree.kind,dF.1.tree.op,dF.1.tree.text,dF.1.tree.other,dF.1.tree.kids,dF.1.target,dF.2.1,dF.2.2.1,dF.2.2.2)))
def Xk (N:Nat) (R:eU) (pa:LT):(Int×Bool×aU)->Option T1
  | (pb,pc,p1)=>(OG pa pb pc p1).bind fun bJ=>some (bJ.1,pb,bJ.2,p1)
def IX (N:Nat) (R:eU) (pa:LT) (pb:Int) (pc:Bool) (p1:aU):Option T1:=
  bif pc then Xk N R pa (pb,pc,p1) else ((fu pa pb pc p1).bind fun dP=>bif (dP==68) then (R.qh pa pb pc p1).bind fun bH=>some (bH.1,bH.2.1,bH.2.2.1,bH.2.2.2) else ((fu pa pb pc p1).bind fun r16=>bif (r16==6) then (R.xM pa pb pc p1).bind fun jq=>some (jq.1,jq.2.1,jq.2.2.1,jq.2.2.2) else (Xk N R pa (pb,pc,p1))))
def IY (N:Nat) (R:eU) (pa:LT) (pb:Int) (pc:Bool) (p1:aU):Option T1:=
  (fu pa pb pc p1).bind fun r2=>(R.IW pa (IntKind.wrap .i64<|pb+1) pc p1).bind fun r4=>some ((⟨(⟨9,r2,[],[],[r4.1.tree]⟩:aA),false⟩:dx),r4.2.1,r4.2.2.1,r4.2.2.2)
def Bz (N:Nat) (R:eU) (pa:LT) (pb:Int) (pc:Bool) (p1:aU):Option T1:=
  (bif (!pc) then (fu pa pb pc p1).bind fun jw=>(IV jw).bind fun dP=>some dP else (some false)).bind fun gP=>bif gP then (R.xO pa pb pc p1).bind fun bH=>some (bH.1,bH.2.1,bH.2.2.1,bH.2.2.2) else ((R.qh pa pb pc p1).bind fun r16=>(bif r16.2.2.1 then some true else (bif (!r16.1.target) then some true else ((fu pa r16.2.1 r16.2.2.1 r16.2.2.2).bind fun Ey=>(IV Ey).bind fun wL=>some<|!wL))).bind fun y24=>bif y24 then some (r16.1,r16.2.1,r16.2.2.1,r16.2.2.2) else ((fu pa r16.2.1 r16.2.2.1 r16.2.2.2).bind fun EI=>some ((⟨(⟨10,EI,[],[],[r16.1.tree]⟩:aA),false⟩:dx),(IntKind.wrap .i64<|r16.2.1+1),r16.2.2.1,r16.2.2.2)))
def EJ (N:Nat) (R:eU) (a1:bn) (pa:LT) (pb:Int) (pc:Bool) (p1:aU):Option T1:=
  (R.zP pa pb pc p1).bind fun r2=>(bif r2.2.2.1 then some true else ((fu pa r2.2.1 r2.2.2.1 r2.2.2.2).bind fun r8=>some<|r8 !=60)).bind fun y7=>bif y7 then some (r2.1,r2.2.1,r2.2.2.1,r2.2.2.2) else ((R.ru a1 pa (IntKind.wrap .i64<|r2.2.1+1) r2.2.2.1 r2.2.2.2).bind fun jw=>(xL 60 r2.1 jw.1).bind fun dP=>some (dP,jw.2.1,jw.2.2.1,jw.2.2.2))
def BA (N:Nat) (R:eU) (a1:bn) (pa:LT) (pb:Int) (pc:Bool) (p1:aU):Option T1:=
  (fu pa pb pc p1).bind fun r2=>(bif pc then some true else (bif (r2 !=55) then bif (r2 !=56) then some (r2 !=61) else (some false) else (some false))).bind fun y6=>bif y6 then (R.zQ a1 pa pb pc p1).bind fun r8=>some (r8.1,r8.2.1,r8.2.2.1,r8.2.2.2) else ((R.ru a1 pa (IntKind.wrap .i64<|pb+1) pc p1).bind fun bJ=>some ((⟨(⟨11,r2,[],[],[bJ.1.tree]⟩:aA),false⟩:dx),bJ.2.1,bJ.2.2.1,bJ.2.2.2))
def yR (N:Nat) (R:eU) (pa:LT):Nat->(bn×Int×Bool×Int×Int×LU×LU×LS×Bool×aU)->Option T1
  | 0,_=>none
  | n1+1,(a1,kQ,lq,uj,um,qE,y90,y91,iQ,y93)=>(bif (!lq) then (fu pa kQ lq y93).bind fun OJ=>(OH OJ).bind fun Bh=>some (Bh==10) else (some false)).bind fun OL=>bif OL then (fu pa kQ lq y93).bind fun qb=>(R.ru a1 pa (IntKind.wrap .i64<|kQ+1) lq y93).bind fun oH=>(xL qb (⟨(⟨uj,um,qE,y90,y91⟩:aA),iQ⟩:dx) oH.1).bind fun kM=>(yR N R pa n1) (a1,oH.2.1,oH.2.2.1,kM.tree.kind,kM.tree.op,kM.tree.text,kM.tree.other,kM.tree.kids,kM.target,oH.2.2.2) else (some ((⟨(⟨uj,um,qE,y90,y91⟩:aA),iQ⟩:dx),kQ,lq,y93))
def IZ (N:Nat) (R:eU) (a1:bn) (pa:LT) (pb:Int) (pc:Bool) (p1:aU):Option T1:=
  (R.ru a1 pa pb pc p1).bind fun r2=>yR N R pa N (a1,r2.2.1,r2.2.2.1,r2.1.tree.kind,r2.1.tree.op,r2.1.tree.text,r2.1.tree.other,r2.1.tree.kids,r2.1.target,r2.2.2.2)
def yS (N:Nat) (R:eU) (pa:LT):Nat->(bn×Int×Bool×Int×Int×LU×LU×LS×Bool×aU)->Option T1
  | 0,_=>none
  | n1+1,(a1,kQ,lq,uj,um,qE,y90,y91,iQ,y93)=>(bif (!lq) then (fu pa kQ lq y93).bind fun OJ=>(OH OJ).bind fun Bh=>some (Bh==9) else (some false)).bind fun OL=>bif OL then (fu pa kQ lq y93).bind fun qb=>(R.xP a1 pa (IntKind.wrap .i64<|kQ+1) lq y93).bind fun oH=>(xL qb (⟨(⟨uj,um,qE,y90,y91⟩:aA),iQ⟩:dx) oH.1).bind fun kM=>(yS N R pa n1) (a1,oH.2.1,oH.2.2.1,kM.tree.kind,kM.tree.op,kM.tree.text,kM.tree.other,kM.tree.kids,kM.target,oH.2.2.2) else (some ((⟨(⟨uj,um,qE,y90,y91⟩:aA),iQ⟩:dx),kQ,lq,y93))
def Ja (N:Nat) (R:eU) (a1:bn) (pa:LT) (pb:Int) (pc:Bool) (p1:aU):Option T1:=
  (R.xP a1 pa pb pc p1).bind fun r2=>yS N R pa N (a1,r2.2.1,r2.2.2.1,r2.1.tree.kind,r2.1.tree.op,r2.1.tree.text,r2.1.tree.other,r2.1.tree.kids,r2.1.target,r2.2.2.2)
def yT (N:Nat) (R:eU) (pa:LT):Nat->(bn×Int×Bool×Int×Int×LU×LU×LS×Bool×aU)->Option T1
  | 0,_=>none
  | n1+1,(a1,mZ,Gp,Jb,uo,og,Jc,Jd,Je,kQ)=>(bif (!Gp) then (fu pa mZ Gp kQ).bind fun afV=>(OE afV).bind fun amC=>some amC else (some false)).bind fun Ru=>bif Ru then (R.xQ a1 pa mZ Gp kQ).bind fun qR=>(xL 99 (⟨(⟨Jb,uo,og,Jc,Jd⟩:aA),Je⟩:dx) qR.1).bind fun nY=>(yT N R pa n1) (a1,qR.2.1,qR.2.2.1,nY.tree.kind,nY.tree.op,nY.tree.text,nY.tree.other,nY.tree.kids,nY.target,qR.2.2.2) else (some ((⟨(⟨Jb,uo,og,Jc,Jd⟩:aA),Je⟩:dx),mZ,Gp,kQ))
def Jf (N:Nat) (R:eU) (a1:bn) (pa:LT) (pb:Int) (pc:Bool) (p1:aU):Option T1:=
  (R.xQ a1 pa pb pc p1).bind fun r2=>yT N R pa N (a1,r2.2.1,r2.2.2.1,r2.1.tree.kind,r2.1.tree.op,r2.1.tree.text,r2.1.tree.other,r2.1.tree.kids,r2.1.target,r2.2.2.2)
def EK (N:Nat) (R:eU) (a1:bn) (pa:LT) (pb:Int) (pc:Bool) (p1:aU):Option T1:=
  (R.vE a1 pa pb pc p1).bind fun r2=>(bif r2.2.2.1 then some true else ((fu pa r2.2.1 r2.2.2.1 r2.2.2.2).bind fun bH=>(OH bH).bind fun qZ=>bif (qZ !=7) then some true else (bif a1.dz then (fu pa r2.2.1 r2.2.2.1 r2.2.2.2).bind fun r16=>some (r16==62) else (some false)))).bind fun y13=>bif y13 then some (r2.1,r2.2.1,r2.2.2.1,r2.2.2.2) else ((fu pa r2.2.1 r2.2.2.1 r2.2.2.2).bind fun jq=>(R.vE a1 pa (IntKind.wrap .i64<|r2.2.1+1) r2.2.2.1 r2.2.2.2).bind fun bZ=>(xL jq r2.1 bZ.1).bind fun qQ=>some (qQ,bZ.2.1,bZ.2.2.1,bZ.2.2.2))
def EL (N:Nat) (R:eU) (a1:bn) (pa:LT) (pb:Int) (pc:Bool) (p1:aU):Option T1:=
  (R.wU a1 pa pb pc p1).bind fun r2=>(bif r2.2.2.1 then some true else ((fu pa r2.2.1 r2.2.2.1 r2.2.2.2).bind fun jw=>bif (jw !=67) then (fu pa r2.2.1 r2.2.2.1 r2.2.2.2).bind fun dP=>some (dP !=46) else (some false))).bind fun gP=>bif gP then some (r2.1,r2.2.1,r2.2.2.1,r2.2.2.2) else ((fu pa r2.2.1 r2.2.2.1 r2.2.2.2).bind fun bH=>(R.wU a1 pa (IntKind.wrap .i64<|r2.2.1+1) r2.2.2.1 r2.2.2.2).bind fun wO=>(xL bH r2.1 wO.1).bind fun jq=>some (jq,wO.2.1,wO.2.2.1,wO.2.2.2))
def Xl (N:Nat) (R:eU) (pa:LT):(LS×Int×Bool×aU)->Option (LS×Int×Bool×aU)
  | (sO,rP,lK,pY)=>some (sO,rP,lK,pY)
def BD (N:Nat) (R:eU) (pa:LT):Nat->(bn×Int×Bool×LS×aU)->Option (LS×Int×Bool×aU)
  | 0,_=>none
  | n2+1,(a1,lg,Ll,Tv,EA)=>bif (!Ll) then (R.oW a1 pa lg Ll EA).bind fun iR=>(app 72 Tv [iR.1.tree]).bind fun x84=>(bif iR.2.2.1 then some true else ((fu pa iR.2.1 iR.2.2.1 iR.2.2.2).bind fun sU=>some<|sU !=36)).bind fun qE=>bif qE then Xl N R pa (x84,iR.2.1,iR.2.2.1,iR.2.2.2) else (bif ((x84.length:Int)==6) then Xl N R pa (x84,iR.2.1,true,iR.2.2.2) else ((IU N pa (IntKind.wrap .i64<|iR.2.1+1) iR.2.2.1 iR.2.2.2).bind fun KY=>(BD N R pa n2) (a1,KY.1,iR.2.2.1,x84,KY.2))) else (Xl N R pa (Tv,lg,Ll,EA))
def Tw (N:Nat) (R:eU) (a1:bn) (pa:LT) (pb:Int) (pc:Bool) (p1:aU):Option (LS×Int×Bool×aU):=
  BD N R pa N (a1,pb,pc,[],p1)
def Dn (N:Nat) (R:eU) (a1:Int) (pa:LT) (pb:Int) (pc:Bool) (p1:aU):Option (LS×Int×Bool×aU):=
  ((fu pa pb pc p1).bind fun r6=>bif (r6==a1) then some (a1==33) else (some false)).bind fun y5=>bif y5 then some ([],(IntKind.wrap .i64<|pb+1),pc,p1) else ((R.Dj (⟨false,false⟩:bn) pa pb pc p1).bind fun r8=>(ug a1 pa r8.2.1 r8.2.2.1 r8.2.2.2).bind fun bJ=>some (r8.1,bJ.2.1,bJ.2.2,r8.2.2.2))
def zS (N:Nat) (R:eU) (pa:LT):Nat->(bn×(LS×Int×Bool×aU)×Int×Bool×LU×LS)->Option T1
  | 0,_=>none
  | n1+1,(a1,bZ,y91,iQ,y93,iB)=>(bif (!iQ) then (fu pa y91 iQ bZ.2.2.2).bind fun Dq=>bif (Dq==24) then some (!a1.dh) else (some false) else (some false)).bind fun Rt=>bif Rt then (zO pa (IntKind.wrap .i64<|y91+1) iQ bZ.2.2.2).bind fun rR=>(zS N R pa n1) (a1,bZ,rR.2.1,rR.2.2,rR.1,[(⟨13,0,y93,[],iB⟩:aA)]) else (some ((⟨(⟨13,0,y93,[],iB⟩:aA),false⟩:dx),y91,iQ,bZ.2.2.2))
def yU (N:Nat) (R:eU) (pa:LT):Nat->(bn×T1×Int×Bool×LU×LS)->Option T1
  | 0,_=>none
  | n2+1,(a1,dw,zT,yV,vF,tu)=>(bif (!yV) then (fu pa zT yV dw.2.2.2).bind fun FY=>bif (FY==24) then some (!a1.dh) else (some false) else (some false)).bind fun afW=>bif afW then (zO pa (IntKind.wrap .i64<|zT+1) yV dw.2.2.2).bind fun OM=>(yU N R pa n2) (a1,dw,OM.2.1,OM.2.2,OM.1,[(⟨13,0,vF,[],tu⟩:aA)]) else (some ((⟨(⟨13,0,vF,[],tu⟩:aA),false⟩:dx),zT,yV,dw.2.2.2))
def BF (N:Nat) (R:eU) (a1:bn) (pa:LT) (pb:Int) (pc:Bool) (p1:aU):Option T1:=
  (bif (!pc) then (fu pa pb pc p1).bind fun jq=>bif (jq==32) then bif (!a1.dh) then (Di N pa pb pc p1).bind fun lM=>some lM else (some false) else (some false) else (some false)).bind fun FT=>bif FT then (R.xR 33 pa (IntKind.wrap .i64<|pb+1) pc p1).bind fun bZ=>(bif (!bZ.2.2.1) then (fu pa bZ.2.1 bZ.2.2.1 bZ.2.2.2).bind fun CG=>some (CG !=24) else (some false)).bind fun y23=>bif y23 then (OG pa bZ.2.1 bZ.2.2.1 bZ.2.2.2).bind fun wL=>some (wL.1,bZ.2.1,wL.2,bZ.2.2.2) else ((bif (!bZ.2.2.1) then (fu pa bZ.2.1 bZ.2.2.1 bZ.2.2.2).bind fun nZ=>bif (nZ==24) then some (!a1.dh) else (some false) else (some false)).bind fun jT=>bif jT then (neN bZ.1).bind fun b80=>(zO pa (IntKind.wrap .i64<|bZ.2.1+1) bZ.2.2.1 bZ.2.2.2).bind fun vG=>zS N R pa N (a1,bZ,vG.2.1,vG.2.2,vG.1,bZ.1) else (some ((⟨(⟨0,0,[],[],[]⟩:aA),false⟩:dx),bZ.2.1,bZ.2.2.1,bZ.2.2.2))) else ((R.yQ a1 pa pb pc p1).bind fun dw=>(bif (!dw.2.2.1) then (fu pa dw.2.1 dw.2.2.1 dw.2.2.2).bind fun abH=>bif (abH==24) then some (!a1.dh) else (some false) else (some false)).bind fun Xm=>bif Xm then (zO pa (IntKind.wrap .i64<|dw.2.1+1) dw.2.2.1 dw.2.2.2).bind fun zU=>yU N R pa N (a1,dw,zU.2.1,zU.2.2,zU.1,[dw.1.tree]) else (some (dw.1,dw.2.1,dw.2.2.1,dw.2.2.2)))
def yX (N:Nat) (R:eU) (pa:LT):Nat->(bn×Int×Bool×Int×Int×LU×LU×LS×Bool×aU)->Option T1
  | 0,_=>none
  | n1+1,(a1,jF,lu,kK,gY,mV,qd,jT,uq,mZ)=>(bif (!lu) then (fu pa jF lu mZ).bind fun oQ=>some (oQ==45) else (some false)).bind fun OO=>bif OO then (IU N pa (IntKind.wrap .i64<|jF+1) lu mZ).bind fun mW=>(R.xS a1 pa mW.1 lu mW.2).bind fun uw=>(xL 45 (⟨(⟨kK,gY,mV,qd,jT⟩:aA),uq⟩:dx) uw.1).bind fun oh=>(yX N R pa n1) (a1,uw.2.1,uw.2.2.1,oh.tree.kind,oh.tree.op,oh.tree.text,oh.tree.other,oh.tree.kids,oh.target,uw.2.2.2) else (some ((⟨(⟨kK,gY,mV,qd,jT⟩:aA),uq⟩:dx),jF,lu,mZ))
def Jg (N:Nat) (R:eU) (a1:bn) (pa:LT) (pb:Int) (pc:Bool) (p1:aU):Option T1:=
  (R.xS a1 pa pb pc p1).bind fun r2=>yX N R pa N (a1,r2.2.1,r2.2.2.1,r2.1.tree.kind,r2.1.tree.op,r2.1.tree.text,r2.1.tree.other,r2.1.tree.kids,r2.1.target,r2.2.2.2)
def yY (N:Nat) (R:eU) (pa:LT):Nat->(bn×Int×Bool×Int×Int×LU×LU×LS×Bool×aU)->Option T1
  | 0,_=>none
  | n1+1,(a1,jF,lu,kK,gY,mV,qd,jT,uq,mZ)=>(bif (!lu) then (fu pa jF lu mZ).bind fun oQ=>some (oQ==44) else (some false)).bind fun OO=>bif OO then (IU N pa (IntKind.wrap .i64<|jF+1) lu mZ).bind fun mW=>(R.xU a1 pa mW.1 lu mW.2).bind fun uw=>(xL 44 (⟨(⟨kK,gY,mV,qd,jT⟩:aA),uq⟩:dx) uw.1).bind fun oh=>(yY N R pa n1) (a1,uw.2.1,uw.2.2.1,oh.tree.kind,oh.tree.op,oh.tree.text,oh.tree.other,oh.tree.kids,oh.target,uw.2.2.2) else (some ((⟨(⟨kK,gY,mV,qd,jT⟩:aA),uq⟩:dx),jF,lu,mZ))
def Jh (N:Nat) (R:eU) (a1:bn) (pa:LT) (pb:Int) (pc:Bool) (p1:aU):Option T1:=
  (R.xU a1 pa pb pc p1).bind fun r2=>yY N R pa N (a1,r2.2.1,r2.2.2.1,r2.1.tree.kind,r2.1.tree.op,r2.1.tree.text,r2.1.tree.other,r2.1.tree.kids,r2.1.target,r2.2.2.2)
def EM (N:Nat) (R:eU) (a1:bn) (pa:LT) (pb:Int) (pc:Bool) (p1:aU):Option T1:=
  (R.zR a1 pa pb pc p1).bind fun r2=>(bif r2.2.2.1 then some true else ((fu pa r2.2.1 r2.2.2.1 r2.2.2.2).bind fun r8=>some<|r8 !=65)).bind fun y7=>bif y7 then some (r2.1,r2.2.1,r2.2.2.1,r2.2.2.2) else ((R.tq a1 pa (IntKind.wrap .i64<|r2.2.1+1) r2.2.2.1 r2.2.2.2).bind fun bJ=>(ug 66 pa bJ.2.1 bJ.2.2.1 bJ.2.2.2).bind fun dP=>bif dP.2.2 then some ((⟨(⟨0,0,[],[],[]⟩:aA),false⟩:dx),dP.2.1,dP.2.2,bJ.2.2.2) else ((R.tq a1 pa dP.2.1 dP.2.2 bJ.2.2.2).bind fun bH=>some ((⟨(⟨14,0,[],[],[r2.1.tree,bJ.1.tree,bH.1.tree]⟩:aA),false⟩:dx),bH.2.1,bH.2.2.1,bH.2.2.2)))
def EN (N:Nat) (R:eU) (a1:bn) (pa:LT) (pb:Int) (pc:Bool) (p1:aU):Option T1:=
  (R.tq a1 pa pb pc p1).bind fun r2=>(bif r2.2.2.1 then some true else (bif (!r2.1.target) then some true else ((fu pa r2.2.1 r2.2.2.1 r2.2.2.2).bind fun jw=>(Xj jw).bind fun dP=>some<|!dP))).bind fun gP=>bif gP then some (r2.1,r2.2.1,r2.2.2.1,r2.2.2.2) else ((fu pa r2.2.1 r2.2.2.1 r2.2.2.2).bind fun bH=>(R.oW a1 pa (IntKind.wrap .i64<|r2.2.1+1) r2.2.2.1 r2.2.2.2).bind fun r16=>some ((⟨(⟨15,bH,[],[],[r2.1.tree,r16.1.tree]⟩:aA),false⟩:dx),r16.2.1,r16.2.2.1,r16.2.2.2))
def aL:Nat->eU
  | 0=>⟨fun _ _ _ _=>none,fun _ _ _ _=>none,fun _ _ _ _=>none,fun _ _ _ _=>none,fun _ _ _ _=>none,fun _ _ _ _=>none,fun _ _ _ _ _=>none,fun _ _ _ _ _=>none,fun _ _ _ _ _=>none,fun _ _ _ _ _=>none,fun _ _ _ _ _=>none,fun _ _ _ _ _=>none,fun _ _ _ _ _=>none,fun _ _ _ _ _=>none,fun _ _ _ _ _=>none,fun _ _ _ _ _=>none,fun _ _ _ _ _=>none,fun _ _ _ _ _=>none,fun _ _ _ _ _=>none,fun _ _ _ _ _=>none⟩
  | N+1=>⟨fun pa pb pc p1=>EH N (aL N) pa pb pc p1,fun pa pb pc p1=>rX N (aL N) pa pb pc p1,fun pa pb pc p1=>wW N (aL N) pa pb pc p1,fun pa pb pc p1=>IX N (aL N) pa pb pc p1,fun pa pb pc p1=>IY N (aL N) pa pb pc p1,fun pa pb pc p1=>Bz N (aL N) pa pb pc p1,fun a1 pa pb pc p1=>EJ N (aL N) a1 pa pb pc p1,fun a1 pa pb pc p1=>BA N (aL N) a1 pa pb pc p1,fun a1 pa pb pc p1=>IZ N (aL N) a1 pa pb pc p1,fun a1 pa pb pc p1=>Ja N (aL N) a1 pa pb pc p1,fun a1 pa pb pc p1=>Jf N (aL N) a1 pa pb pc p1,fun a1 pa pb pc p1=>EK N (aL N) a1 pa pb pc p1,fun a1 pa pb pc p1=>EL N (aL N) a1 pa pb pc p1,fun a1 pa pb pc p1=>Tw N (aL N) a1 pa pb pc p1,fun a1 pa pb pc p1=>Dn N (aL N) a1 pa pb pc p1,fun a1 pa pb pc p1=>BF N (aL N) a1 pa pb pc p1,fun a1 pa pb pc p1=>Jg N (aL N) a1 pa pb pc p1,fun a1 pa pb pc p1=>Jh N (aL N) a1 pa pb pc p1,fun a1 pa pb pc p1=>EM N (aL N) a1 pa pb pc p1,fun a1 pa pb pc p1=>EN N (aL N) a1 pa pb pc p1⟩
def xM (N:Nat) (pa:LT) (pb:Int) (pc:Bool) (p1:aU):Option T1:=(aL N).xM pa pb pc p1
def Bw (N:Nat) (pa:LT) (pb:Int) (pc:Bool) (p1:aU):Option T1:=(aL N).Bw pa pb pc p1
def qh (N:Nat) (pa:LT) (pb:Int) (pc:Bool) (p1:aU):Option T1:=(aL N).qh pa pb pc p1
def IW (N:Nat) (pa:LT) (pb:Int) (pc:Bool) (p1:aU):Option T1:=(aL N).IW pa pb pc p1
def xO (N:Nat) (pa:LT) (pb:Int) (pc:Bool) (p1:aU):Option T1:=(aL N).xO pa pb pc p1
def zP (N:Nat) (pa:LT) (pb:Int) (pc:Bool) (p1:aU):Option T1:=(aL N).zP pa pb pc p1
def zQ (N:Nat) (a1:bn) (pa:LT) (pb:Int) (pc:Bool) (p1:aU):Option T1:=(aL N).zQ a1 pa pb pc p1
def ru (N:Nat) (a1:bn) (pa:LT) (pb:Int) (pc:Bool) (p1:aU):Option T1:=(aL N).ru a1 pa pb pc p1
def xP (N:Nat) (a1:bn) (pa:LT) (pb:Int) (pc:Bool) (p1:aU):Option T1:=(aL N).xP a1 pa pb pc p1
def xQ (N:Nat) (a1:bn) (pa:LT) (pb:Int) (pc:Bool) (p1:aU):Option T1:=(aL N).xQ a1 pa pb pc p1
def vE (N:Nat) (a1:bn) (pa:LT) (pb:Int) (pc:Bool) (p1:aU):Option T1:=(aL N).vE a1 pa pb pc p1
def wU (N:Nat) (a1:bn) (pa:LT) (pb:Int) (pc:Bool) (p1:aU):Option T1:=(aL N).wU a1 pa pb pc p1
def yQ (N:Nat) (a1:bn) (pa:LT) (pb:Int) (pc:Bool) (p1:aU):Option T1:=(aL N).yQ a1 pa pb pc p1
def Dj (N:Nat) (a1:bn) (pa:LT) (pb:Int) (pc:Bool) (p1:aU):Option (LS×Int×Bool×aU):=(aL N).Dj a1 pa pb pc p1
def xR (N:Nat) (a1:Int) (pa:LT) (pb:Int) (pc:Bool) (p1:aU):Option (LS×Int×Bool×aU):=(aL N).xR a1 pa pb pc p1
def xS (N:Nat) (a1:bn) (pa:LT) (pb:Int) (pc:Bool) (p1:aU):Option T1:=(aL N).xS a1 pa pb pc p1
def xU (N:Nat) (a1:bn) (pa:LT) (pb:Int) (pc:Bool) (p1:aU):Option T1:=(aL N).xU a1 pa pb pc p1
def zR (N:Nat) (a1:bn) (pa:LT) (pb:Int) (pc:Bool) (p1:aU):Option T1:=(aL N).zR a1 pa pb pc p1
def tq (N:Nat) (a1:bn) (pa:LT) (pb:Int) (pc:Bool) (p1:aU):Option T1:=(aL N).tq a1 pa pb pc p1
def oW (N:Nat) (a1:bn) (pa:LT) (pb:Int) (pc:Bool) (p1:aU):Option T1:=(aL N).oW a1 pa pb pc p1
def Ji (N:Nat) (a1:aN) (pa:LT) (pb:Int) (pc:Bool) (p1:aU):Option T1:=
  (bif a1.iZ then (fu pa pb pc p1).bind fun jw=>(OE jw).bind fun dP=>some (!dP) else (some false)).bind fun gP=>bif gP then (OG pa pb pc p1).bind fun bH=>some (bH.1,pb,bH.2,p1) else (bif (a1.Level==1) then (oW N (⟨a1.bC,a1.bE⟩:bn) pa pb pc p1).bind fun iD=>some (iD.1,iD.2.1,iD.2.2.1,iD.2.2.2) else (bif (a1.Level==2) then (tq N (⟨a1.bC,a1.bE⟩:bn) pa pb pc p1).bind fun rU=>some (rU.1,rU.2.1,rU.2.2.1,rU.2.2.2) else (bif (a1.Level==3) then (zR N (⟨a1.bC,a1.bE⟩:bn) pa pb pc p1).bind fun Bp=>some (Bp.1,Bp.2.1,Bp.2.2.1,Bp.2.2.2) else (bif (a1.Level==4) then (xU N (⟨a1.bC,a1.bE⟩:bn) pa pb pc p1).bind fun r64=>some (r64.1,r64.2.1,r64.2.2.1,r64.2.2.2) else (bif (a1.Level==5) then (xS N (⟨a1.bC,a1.bE⟩:bn) pa pb pc p1).bind fun qC=>some (qC.1,qC.2.1,qC.2.2.1,qC.2.2.2) else (bif (a1.Level==6) then (yQ N (⟨a1.bC,a1.bE⟩:bn) pa pb pc p1).bind fun tZ=>some (tZ.1,tZ.2.1,tZ.2.2.1,tZ.2.2.2) else (bif (a1.Level==7) then (wU N (⟨a1.bC,a1.bE⟩:bn) pa pb pc p1).bind fun jr=>some (jr.1,jr.2.1,jr.2.2.1,jr.2.2.2) else (bif (a1.Level==8) then (vE N (⟨a1.bC,a1.bE⟩:bn) pa pb pc p1).bind fun qc=>some (qc.1,qc.2.1,qc.2.2.1,qc.2.2.2) else (bif (a1.Level==9) then (xQ N (⟨a1.bC,a1.bE⟩:bn) pa pb pc p1).bind fun lN=>some (lN.1,lN.2.1,lN.2.2.1,lN.2.2.2) else (bif (a1.Level==10) then (xP N (⟨a1.bC,a1.bE⟩:bn) pa pb pc p1).bind fun nZ=>some (nZ.1,nZ.2.1,nZ.2.2.1,nZ.2.2.2) else (bif (a1.Level==11) then (ru N (⟨a1.bC,a1.bE⟩:bn) pa pb pc p1).bind fun nJ=>some (nJ.1,nJ.2.1,nJ.2.2.1,nJ.2.2.2) else (bif (a1.Level==12) then (zQ N (⟨a1.bC,a1.bE⟩:bn) pa pb pc p1).bind fun tY=>some (tY.1,tY.2.1,tY.2.2.1,tY.2.2.2) else (bif (a1.Level==13) then (zP N pa pb pc p1).bind fun vG=>some (vG.1,vG.2.1,vG.2.2.1,vG.2.2.2) else (bif (a1.Level==14) then (bif a1.tV then (fu pa pb pc p1).bind fun KZ=>(IV KZ).bind fun qU=>some qU else (some false)).bind fun iQ=>bif iQ then (xO N pa pb pc p1).bind fun lC=>some (lC.1,lC.2.1,lC.2.2.1,lC.2.2.2) else ((qh N pa pb pc p1).bind fun jS=>some (jS.1,jS.2.1,jS.2.2.1,jS.2.2.2)) else ((Bw N pa pb pc p1).bind fun sQ=>some (sQ.1,sQ.2.1,sQ.2.2.1,sQ.2.2.2))))))))))))))))
structure Xn where
  zV:aA->Option Int
def Lm (N:Nat) (R:Xn):Nat->(aA×Int×Int)->Option Int
  | 0,_=>none
  | n1+1,(a0,nK,y38)=>bif (decide<|y38 < (a0.kids.length:Int)) then (ix a0.kids y38).bind fun e54=>(R.zV e54).bind fun Dt=>(Lm N R n1) (a0,(IntKind.wrap .i64<|nK+Dt),(IntKind.wrap .i64<|y38+1)) else (some nK)
def afX (N:Nat) (R:Xn) (a0:aA):Option Int:=
  Lm N R N (a0,1,0)
def OP:Nat->Xn
  | 0=>⟨fun _=>none⟩
  | N+1=>⟨fun a0=>afX N (OP N) a0⟩
def zV (N:Nat) (a0:aA):Option Int:=(OP N).zV a0
structure Xo where
  zW:aA->Option Int
def Lp (N:Nat) (R:Xo):Nat->(aA×Int×Int)->Option Int
  | 0,_=>none
  | n1+1,(a0,nK,y38)=>bif (decide<|y38 < (a0.kids.length:Int)) then (ix a0.kids y38).bind fun e54=>(R.zW e54).bind fun Dt=>(Lp N R n1) (a0,(if Dt > nK then Dt else nK),(IntKind.wrap .i64<|y38+1)) else (some<|IntKind.wrap .i64<|nK+1)
def Xp (N:Nat) (R:Xo) (a0:aA):Option Int:=
  Lp N R N (a0,0,0)
def Lr:Nat->Xo
  | 0=>⟨fun _=>none⟩
  | N+1=>⟨fun a0=>Xp N (Lr N) a0⟩
def zW (N:Nat) (a0:aA):Option Int:=(Lr N).zW a0
def Tx (N:Nat) (a0:aA):Option rQ:=
  (zV N a0).bind fun r6=>bif (decide<|r6 > 400) then some (⟨1,0⟩:rQ) else ((zW N a0).bind fun r8=>bif (decide<|r8 > 40) then some (⟨4,0⟩:rQ) else (some (⟨0,0⟩:rQ)))
structure Xq where
  Du:aA->LN->Option LN
def Ls (N:Nat) (R:Xq):Nat->(aA×Int×LN×(List Int))->Option LN
  | 0,_=>none
  | n1+1,(a0,sW,xV,lg)=>bif (decide<|sW < (a0.kids.length:Int)) then (ix a0.kids sW).bind fun e84=>(R.Du e84 xV).bind fun oG=>(app 8 lg [(IntKind.wrap .i64<|(oG.length:Int) - 1)]).bind fun x88=>(Ls N R n1) (a0,(IntKind.wrap .i64<|sW+1),oG,x88) else ((app 72 xV [(⟨a0.kind,a0.op,a0.text,a0.other,lg⟩:aK)]).bind fun x90=>some x90)
def Xr (N:Nat) (R:Xq) (a0:aA) (p0:LN):Option LN:=
  Ls N R N (a0,0,p0,[])
def Jj:Nat->Xq
  | 0=>⟨fun _ _=>none⟩
  | N+1=>⟨fun a0 p0=>Xr N (Jj N) a0 p0⟩
def Du (N:Nat) (a0:aA) (p0:LN):Option LN:=(Jj N).Du a0 p0
def Lu (N:Nat) (a0:aA):Option LN:=
  (Du N a0 []).bind fun r2=>some r2
def Jk (N:Nat) (a0:LT) (a1:aN):Option (LN×Int×rQ):=
  (WS a1).bind fun r4=>bif (!r4) then some ([],0,(⟨3,0⟩:rQ)) else ((OD N a0).bind fun r8=>bif (!((r8.Kind==0)&&((r8.At==0)&&true))) then some ([],0,r8) else ((Ji N a1 a0 0 false []).bind fun jw=>bif jw.2.2.1 then (OC a0 jw.2.1).bind fun qZ=>some ([],0,(⟨3,qZ⟩:rQ)) else ((Tx N jw.1.tree).bind fun lM=>bif (!((lM.Kind==0)&&((lM.At==0)&&true))) then some ([],0,lM) else ((Lu N jw.1.tree).bind fun bZ=>some (bZ,jw.2.1,(⟨0,0⟩:rQ))))))
def Lv (N:Nat) (a0:LT) (a1:aN):Option (LN×Bool):=
  (Jk N a0 a1).bind fun r2=>(bif ((r2.2.2.Kind==0)&&((r2.2.2.At==0)&&true)) then some (r2.2.1==(a0.length:Int)) else (some false)).bind fun y3=>some (r2.1,y3)
def Tz (N:Nat) (dX:(LT×cO×Int×LT)->Option LT):(LT×Int×cO×LT)->Option LT
  | (a0,jE,a1,jF)=>dX (a0,a1,(IntKind.wrap .i64<|jE+1),jF)
def Jl (N:Nat):Nat->(LT×cO×Int×LT)->Option LT
  | 0,_=>none
  | n1+1,(a0,a1,jE,lQ)=>bif (decide<|jE < (a0.length:Int)) then (ix a0 jE).bind fun Lx=>(bif (jE !=a1.From) then some (jE !=a1.To) else (some false)).bind fun gY=>bif gY then (app 32 lQ [Lx]).bind fun x74=>Tz N (Jl N n1) (a0,jE,a1,x74) else (Tz N (Jl N n1) (a0,jE,a1,lQ)) else (some lQ)
def Xt (N:Nat) (a0:LT) (a1:cO):Option LT:=
  Jl N N (a0,a1,0,[])
def OQ (N:Nat):Nat->((List Int)×(List Int)×Int)->Option Bool
  | 0,_=>none
  | n1+1,(a0,a1,iO)=>bif (decide<|iO < (a0.length:Int)) then (ix a0 iO).bind fun e51=>(ix a1 iO).bind fun e52=>bif (e51 !=e52) then some false else ((OQ N n1) (a0,a1,(IntKind.wrap .i64<|iO+1))) else (some true)
def Xu (N:Nat) (a0:List Int) (a1:List Int):Option Bool:=
  bif ((a0.length:Int) !=(a1.length:Int)) then some false else (OQ N N (a0,a1,0))
def Xv (N:Nat) (a0:aK) (a1:aK):Option Bool:=
  (bif (a0.Kind==a1.Kind) then bif (a0.Op==a1.Op) then bif (a0.Text==a1.Text) then bif (a0.Other==a1.Other) then (Xu N a0.Kids a1.Kids).bind fun r3=>some r3 else (some false) else (some false) else (some false) else (some false)).bind fun y2=>some y2
def OT (N:Nat):Nat->(LN×LN×Int)->Option Bool
  | 0,_=>none
  | n1+1,(a1,a0,wH)=>bif (decide<|wH < (a0.length:Int)) then (ix a0 wH).bind fun e72=>(ix a1 wH).bind fun e74=>(Xv N e72 e74).bind fun nZ=>bif (!nZ) then some false else ((OT N n1) (a1,a0,(IntKind.wrap .i64<|wH+1))) else (some true)
def abJ (N:Nat) (a0:LN) (a1:LN):Option Bool:=
  bif ((a0.length:Int) !=(a1.length:Int)) then some false else (OT N N (a1,a0,0))
def Xw (N:Nat) (a0:LN) (a1:LN):Option Bool:=
  (abJ N a0 a1).bind fun r2=>some r2
def OU (N:Nat) (a0:LT) (a1:aN) (a2:cO):Option Bool:=
  (Lv N a0 a1).bind fun r2=>(Xt N a0 a2).bind fun r5=>(Lv N r5 a1).bind fun r6=>(bif r2.2 then bif r6.2 then (Xw N r2.1 r6.1).bind fun r9=>some r9 else (some false) else (some false)).bind fun y8=>some y8
def abK (N:Nat) (a0:cO) (vH:Int) (vI:Bool) (vJ:Bool) (vK:Bool) (vL:Bool) (p2:LT):Option Bool:=
  (OU N p2 (⟨vH,vI,vJ,vK,vL⟩:aN) a0).bind fun r2=>some r2
def LA (N:Nat) (vH:Int) (vI:Bool) (vJ:Bool) (vK:Bool) (vL:Bool) (p2:LT):Nat->((List cO)×Int)->Option Int
  | 0,_=>none
  | n1+1,(a0,iO)=>bif (decide<|iO < (a0.length:Int)) then (ix a0 iO).bind fun e51=>(abK N e51 vH vI vJ vK vL p2).bind fun rT=>bif rT then some iO else ((LA N vH vI vJ vK vL p2 n1) (a0,(IntKind.wrap .i64<|iO+1))) else (some<|-1)
def Xx (N:Nat) (a0:List cO) (vH:Int) (vI:Bool) (vJ:Bool) (vK:Bool) (vL:Bool) (p2:LT):Option Int:=
  LA N vH vI vJ vK vL p2 N (a0,0)
def Xy (N:Nat):LT->Option LT
  | lg=>some lg
def OV (N:Nat):Nat->(aN×Int×LT)->Option LT
  | 0,_=>none
  | n2+1,(a1,uo,og)=>bif (decide<|uo < 60) then (SL N og).bind fun Dq=>(Xx N Dq a1.Level a1.tV a1.bC a1.bE a1.iZ og).bind fun FW=>bif (decide<|FW < 0) then Xy N og else ((ix Dq FW).bind fun e118=>(Xt N og e118).bind fun abL=>(OV N n2) (a1,(IntKind.wrap .i64<|uo+1),abL)) else (Xy N og)
def Xz (N:Nat) (a0:LT) (a1:aN):Option LT:=
  (abx a0).bind fun r2=>OV N N (a1,0,r2)
def XA (N:Nat) (a0:LN) (a1:aN):Option LT:=
  ((Ki N a0).bind fun dP=>bif (!dP) then some true else ((Oc a1).bind fun yO=>bif (!yO) then some true else ((ix a0<|IntKind.wrap .i64<|(a0.length:Int) - 1).bind fun e14=>some<|e14.Kind==16))).bind fun dS=>bif dS then some [] else ((gu N (⟨a0,false⟩:gV) (IntKind.wrap .i64<|(a0.length:Int) - 1) a1).bind fun r16=>some r16)
def Mx (N:Nat):Nat->(LT×LT×Int)->Option Bool
  | 0,_=>none
  | n1+1,(a0,a1,jT)=>bif (decide<|jT < (a0.length:Int)) then ((ix a0 jT).bind fun e109=>(ix a1 jT).bind fun amD=>bif (e109.Kind !=amD.Kind) then some true else ((ix a0 jT).bind fun amE=>(ix a1 jT).bind fun Lf=>some<|!(amE.Text==Lf.Text))).bind fun agb=>bif agb then some false else ((Mx N n1) (a0,a1,(IntKind.wrap .i64<|jT+1))) else (some true)
def UJ (N:Nat) (a0:LT) (a1:LT):Option Bool:=
  bif ((a0.length:Int) !=(a1.length:Int)) then some false else (Mx N N (a0,a1,0))
def TB (N:Nat) (dX:(LT×Int×Int)->Option Int):(LT×Int×Int)->Option Int
  | (a0,lQ,jF)=>dX (a0,jF,(IntKind.wrap .i64<|lQ+1))
def Gq (N:Nat):Nat->(LT×Int×Int)->Option Int
  | 0,_=>none
  | n1+1,(a0,jE,lQ)=>bif (decide<|lQ < (a0.length:Int)) then (ix a0 lQ).bind fun Lx=>(bif (Lx.Kind==32) then (IL a0 lQ).bind fun lN=>some (!lN) else (some false)).bind fun mV=>bif mV then TB N (Gq N n1) (a0,lQ,(IntKind.wrap .i64<|jE+1)) else (TB N (Gq N n1) (a0,lQ,jE)) else (some jE)
def abM (N:Nat) (a0:LT):Option Int:=
  Gq N N (a0,0,0)
def Zv (N:Nat) (a0:LU):Option Bool:=
  (aaG a0).bind fun r4=>bif r4 then some true else ((UK N a0).bind fun r6=>(Mw N r6).bind fun r8=>(bif ((r8.length:Int)==0) then some true else (bif (decide<|(r8.length:Int) > 90) then some true else ((abv N r8).bind fun wO=>bif (decide<|wO>=0) then some true else ((abw N r8).bind fun jq=>some<|decide<|(jq.length:Int) > 40)))).bind fun Og=>bif Og then some true else ((Option.bind Zx fun IB=>(Xz N r8 IB).bind fun EI=>Option.bind Ay fun CY=>(XA N r6 CY).bind fun ED=>(UJ N EI ED).bind fun Gg=>bif Gg then (SL N r8).bind fun r32=>(abM N r8).bind fun fV=>some ((r32.length:Int)==fV) else (some false)).bind fun oP=>some oP))
def EO:Bool->Option Bool
 | y2=>bif y2 then some true else (some false)
def yZ (a0:Int):Option Bool:=
 bif (a0==3) then EO (a0==3) else (bif (a0==4) then EO (a0==4) else (bif (a0==5) then EO (a0==5) else (bif (a0==6) then EO (a0==6) else (bif (a0==8) then EO (a0==8) else (bif (a0==33) then EO (a0==33) else (bif (a0==35) then EO (a0==35) else (bif (a0==51) then EO (a0==51) else (EO<|a0==52))))))))
def TF (N:Nat) (dX:((List aC)×Int×Int)->Option Bool):((List aC)×Int×Int×Int)->Option Bool
 | (a0,LB,EP,agc)=>(ix a0 EP).bind fun Jm=>((ix a0 EP).bind fun awo=>(qY N awo).bind fun awp=>bif (!awp) then some true else (bif (Jm.Kind==7) then bif (agc !=32) then some true else (bif (Jm.Kind==2) then bif (agc !=1) then some (decide<|(IntKind.wrap .i64<|EP+1) < (a0.length:Int)) else (some false) else (some false)) else (bif (Jm.Kind==2) then bif (agc !=1) then some (decide<|(IntKind.wrap .i64<|EP+1) < (a0.length:Int)) else (some false) else (some false)))).bind fun awq=>bif awq then some false else ((bif (Jm.Kind==5) then (yZ LB).bind fun agd=>bif agd then some true else (bif (Jm.Kind==58) then (yZ LB).bind fun agf=>some (!agf) else (bif (Jm.Kind==41) then (yZ LB).bind fun agh=>some (!agh) else (some false))) else (bif (Jm.Kind==58) then (yZ LB).bind fun agi=>some (!agi) else (bif (Jm.Kind==41) then (yZ LB).bind fun agj=>some (!agj) else (some false)))).bind fun awr=>bif awr then some false else (dX (a0,Jm.Kind,(IntKind.wrap .i64<|EP+1))))
def Gr (N:Nat):Nat->((List aC)×Int×Int)->Option Bool
 | 0,_=>none
 | n1+1,(a0,LB,EP)=>bif (decide<|EP < (a0.length:Int)) then bif (decide<|(IntKind.wrap .i64<|EP+1) < (a0.length:Int)) then (ix a0<|IntKind.wrap .i64<|EP+1).bind fun awt=>TF N (Gr N n1) (a0,LB,EP,awt.Kind) else (TF N (Gr N n1) (a0,LB,EP,0)) else (some true)
def abN (N:Nat) (a0:List aC):Option Bool:=
 bif (decide<|(a0.length:Int) > 3000) then some false else (Gr N N (a0,0,0))
def yF (x:aK):Prop:=x.Text.length<=1048576/\x.Other.length<=1048576/\x.Kids.length<=1048576
end Go.Proofs.Tryz
