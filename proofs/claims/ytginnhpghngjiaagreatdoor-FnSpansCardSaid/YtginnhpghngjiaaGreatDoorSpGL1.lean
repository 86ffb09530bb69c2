/-
  Models of the functions that this seat reaches.
-/
import Derived.Test.YtginnhpghngjiaaGreatDoorGTab
import Derived.Test.YtginnhpghngjiaaGreatDoorGCore6
namespace Go.Proofs.Tryz
open Go.Av
set_option maxRecDepth 100000
set_option maxHeartbeats 8000000
set_option linter.all false
def vF:List (List UInt8):=[[66,69,71,73,78],[69,78,68],[102,117,110,99,116,105,111,110],[105,102],[101,108,115,101],[119,104,105,108,101],[102,111,114],[100,111],[98,114,101,97,107],[99,111,110,116,105,110,117,101],[110,101,120,116],[101,120,105,116],[114,101,116,117,114,110],[100,101,108,101,116,101],[105,110],[112,114,105,110,116],[112,114,105,110,116,102]]
def CZ:List (List UInt8):=[[123],[125],[40],[41],[91],[93],[44],[59],[43,61],[45,61],[42,61],[47,61],[37,61],[94,61],[124,124],[38,38],[33,126],[61,61],[60,61],[62,61],[33,61],[43,43],[45,45],[62,62],[61],[43],[45],[42],[47],[37],[94],[33],[62],[60],[124],[63],[58],[126],[36]]
def Ag:List (List UInt8):=[[97,116,97,110,50],[99,108,111,115,101],[99,111,115],[101,120,112],[103,115,117,98],[105,110,100,101,120],[105,110,116],[108,101,110,103,116,104],[108,111,103],[109,97,116,99,104],[114,97,110,100],[115,105,110],[115,112,108,105,116],[115,112,114,105,110,116,102],[115,113,114,116],[115,114,97,110,100],[115,117,98],[115,117,98,115,116,114],[115,121,115,116,101,109],[116,111,108,111,119,101,114],[116,111,117,112,112,101,114]]
def GG:Nat->Option (List V)
  | 0=>some (vF.map V.s)
  | 1=>some (CZ.map V.s)
  | 2=>some (Ag.map V.s)
  | _=>none
def GS (l:List Nat) (g:Nat):Option (List V):=bif l.contains g then GG g else none
abbrev aT:=AC Tryz.prog (GS [])
def dx {f:FuncId} {vs:List V} {H:Hp} {r:V} {H1:Hp} {l l1:List Nat} (h:AC Tryz.prog (GS l) f vs H r H1) (hs:(l.all fun g=>l1.contains g)=true):AC Tryz.prog (GS l1) f vs H r H1:=by
  refine Go.Av.AC.mono h fun g cs hg=>?_;unfold GS at hg ⊢;cases hc:l.contains g with
  | false=>rw [hc] at hg;cases hg
  | true=>
    rw [hc] at hg;have:=nP.1 hs g (RO.1 hc);rw [this];exact hg
def mix:Tryz.prog.follows .mixedOrders=true:=ak
def wR {G:Nat->Option (List V)} {ops:Array Oper} {draw:Bool} {T0:List V} {H0:Hp} {Q:St->Prop} (n q:Nat) {i:Nat} {T:List V} {H:Hp} {Es:List (Bool×Eff)} (k:W Tryz.prog G ops draw T0 H0 (i+n) (qx D G ops n q i T H).T (qx D G ops n q i T H).H (Es++(qx D G ops n q i T H).Es) Q) (h:(Dq D G ops n q i T H).isSome=true:=by kernel_rfl):W Tryz.prog G ops draw T0 H0 i T H Es Q:=W.run Dk n q h k
def cU {G:Nat->Option (List V)} {L:Option Nat} (n q:Nat) (T':List V) (H':Hp) {id:Nat} {l:List Oper} {draw:Bool} {c:Code} {T:List V} {H:Hp} {Q:Exit->St->Prop} (k:CO L Tryz.prog G c ⟨T',H'⟩ Q) (h:SV D G l.toArray draw n q T H T' H'=(true,T',some H'):=by kernel_rfl):CO L Tryz.prog G (.seq (.region id l.toArray draw) c) ⟨T,H⟩ Q:=cu Dk mix n q T' H' h k
def cE {G:Nat->Option (List V)} {L:Option Nat} (n q:Nat) (T':List V) (H':Hp) {id:Nat} {l:List Oper} {draw:Bool} {T:List V} {H:Hp} {Q:Exit->St->Prop} (hQ:∀ st,Weak st ⟨T',H'⟩->Q .normal st) (h:SV D G l.toArray draw n q T H T' H'=(true,T',some H'):=by kernel_rfl):CO L Tryz.prog G (.region id l.toArray draw) ⟨T,H⟩ Q:=ce Dk mix n q T' H' h hQ
def cV {G:Nat->Option (List V)} {L:Option Nat} (q:Nat) {id:Nat} {l:List Oper} {draw:Bool} {c:Code} {T:List V} {H:Hp} {Q:Exit->St->Prop} (k:CO L Tryz.prog G c ⟨(qx D G l.toArray l.toArray.size q 0 T H).T,(qx D G l.toArray l.toArray.size q 0 T H).H⟩ Q) (h:SX D G l.toArray draw q T H=true:=by kernel_rfl):CO L Tryz.prog G (.seq (.region id l.toArray draw) c) ⟨T,H⟩ Q:=cv Dk mix q k h
def cK {G:Nat->Option (List V)} {L:Option Nat} (q:Nat) {ι:Type} {J:ι->St} {R:ι->Prop} {id:Nat} {l:List Oper} {draw:Bool} {T:List V} {H:Hp} {Q:Exit->St->Prop} (hk:∀ i,R i->∀ st,Weak st (J i)->Q .normal st) (i:ι) (hi:R i) (m:Ren) (ks:List Nat) (h:SY m ks (SX D G l.toArray draw q T H) (qx D G l.toArray l.toArray.size q 0 T H).T (qx D G l.toArray l.toArray.size q 0 T H).H=(true,(J i).T,some (J i).H):=by kernel_rfl):CO L Tryz.prog G (.region id l.toArray draw) ⟨T,H⟩ Q:=ck Dk mix q hk i hi m ks h
def cC {G:Nat->Option (List V)} {L:Option Nat} (n q:Nat) {id:Nat} {l:List Oper} {draw:Bool} {c:Code} {T:List V} {H:Hp} {Q:Exit->St->Prop} {fid:FuncId} {vs:List V} {rc:V} (hA:AC Tryz.prog G fid vs [] rc []) (hcf:xY Tryz.prog fid) (k:CO L Tryz.prog G c ⟨(Ov D G l.toArray n q rc T H).T,(Ov D G l.toArray n q rc T H).H⟩ Q) (h:ccC D G l.toArray draw n q rc T H=(true,some (fid,vs,[]),rc):=by kernel_rfl):CO L Tryz.prog G (.seq (.region id l.toArray draw) c) ⟨T,H⟩ Q:=cc Dk mix n q hA hcf k h
def wD {G:Nat->Option (List V)} {ops:Array Oper} {draw:Bool} {T0:List V} {H0:Hp} {i:Nat} {T:List V} {H:Hp} {Es:List (Bool×Eff)} {Q:St->Prop} {fid:FuncId} {vs:List V} {Hc gG:Hp} {rc:V} (h:AC Tryz.prog G fid vs Hc rc gG) (hcf:xY Tryz.prog fid) (q m:Ren) {Z:List (Nat×List (List V))} (N:List Nat) (hZ:bG H Z) (k:W Tryz.prog G ops draw T0 H0 (i+1) (gq T (jQ ops i)<|rc.rn m) (lM m gG++cB (Z.map (·.1)++q.map (·.1)) H) (Es++[(true,{v:=rc.rn m,C:=Z.map (·.1)++q.map (·.1),new:=lM m gG,N:=N})]) Q) (hn:(KZ q m (Z.map (·.1)) N&&ER gG)=true:=by kernel_rfl) (hc:IZ G ops q Z i T H=some (fid,vs,Hc):=by kernel_rfl):W Tryz.prog G ops draw T0 H0 i T H Es Q:=W.call h hcf q m N hZ hn hc k
def wC {G:Nat->Option (List V)} {ops:Array Oper} {draw:Bool} {T0:List V} {H0:Hp} {i:Nat} {T:List V} {H:Hp} {Es:List (Bool×Eff)} {Q:St->Prop} {fid:FuncId} {vs:List V} {Hc gG:Hp} {rc:V} (h:AC Tryz.prog G fid vs Hc rc gG) (hcf:xY Tryz.prog fid) (q m:Ren) (N:List Nat) (k:W Tryz.prog G ops draw T0 H0 (i+1) (gq T (jQ ops i)<|rc.rn m) (lM m gG++cB (([]:List (Nat×List (List V))).map (·.1)++q.map (·.1)) H) (Es++[(true,{v:=rc.rn m,C:=([]:List (Nat×List (List V))).map (·.1)++q.map (·.1),new:=lM m gG,N:=N})]) Q) (hn:(KZ q m (([]:List (Nat×List (List V))).map (·.1)) N&&ER gG)=true:=by kernel_rfl) (hc:IZ G ops q [] i T H=some (fid,vs,Hc):=by kernel_rfl):W Tryz.prog G ops draw T0 H0 i T H Es Q:=W.call h hcf q m N (show bG _ [] from trivial) hn hc k
def w0 {G:Nat->Option (List V)} {ops:Array Oper} {draw:Bool} {T0:List V} {H0:Hp} {i:Nat} {T:List V} {H:Hp} {Es:List (Bool×Eff)} {Q:St->Prop} {fid:FuncId} {vs:List V} {rc:V} (h:AC Tryz.prog G fid vs [] rc []) (hcf:xY Tryz.prog fid) (k:W Tryz.prog G ops draw T0 H0 (i+1) (gq T (jQ ops i) rc) H (Es++[(true,{v:=rc})]) Q) (hc:IZ G ops [] [] i T H=some (fid,vs,[]):=by kernel_rfl) (hr:rc.rn []=rc:=by rfl):W Tryz.prog G ops draw T0 H0 i T H Es Q:=W.xk h hcf hr hc k
def wN {G:Nat->Option (List V)} {ops:Array Oper} {draw:Bool} {T0:List V} {H0:Hp} {i:Nat} {T:List V} {H:Hp} {Es:List (Bool×Eff)} {Q:St->Prop} {α:Type} (enc:α->List V) (l:List α) (R:List Nat) (k:W Tryz.prog G ops draw T0 H0 (i+1) (gq T (jQ ops i)<|aj l.length) H (Es++[(true,{v:=aj l.length,R:=R})]) Q) (h:agx G ops i T H=some (l.map enc,R):=by kernel_rfl) (hs:((pX ops i T).bind<|jc D H<|ev G T).isSome=true:=by kernel_rfl):W Tryz.prog G ops draw T0 H0 i T H Es Q:=W.len Dk enc l R h hs k
def wX {G:Nat->Option (List V)} {ops:Array Oper} {draw:Bool} {T0:List V} {H0:Hp} {i:Nat} {T:List V} {H:Hp} {Es:List (Bool×Eff)} {Q:St->Prop} {α:Type} (enc:α->List V) {l:List α} {n:Int} {x:α} (hx:ix l n=some x) (sz:Nat) (k:W Tryz.prog G ops draw T0 H0 (i+1) (gq T (jQ ops i)<|.el<|enc x) H (Es++[(true,{v:=.el (enc x)})]) Q) (h:Oo D G ops i T=some (l.map enc,n,sz):=by kernel_rfl) (hs:(enc x).length=sz:=by kernel_rfl):W Tryz.prog G ops draw T0 H0 i T H Es Q:=W.Oo Dk enc hx sz h hs k
structure aD where
  Kind:Int
  Op:Int
  Text:List UInt8
  Other:List UInt8
  Kids:List Int
  deriving DecidableEq,Inhabited
def aB (b:Bool) (x:aD):List V:=[aj x.Kind,aj x.Op,V.s x.Text,V.s x.Other,.sl false b<|x.Kids.map aW]
def dN (b:Bool) (x:aD):uH (aB b x)=aB false x:=by
  simp only [aB,uH,V.share,aj,V.s,V.b,agD (enc:=aW) (enc':=aW) fun _=>rfl]
structure aF where
  Level:Int
  nU:Bool
  aX:Bool
  bg:Bool
  eH:Bool
  deriving DecidableEq,Inhabited
structure aG where
  Kind:Int
  Text:List UInt8
  At:Int
  deriving DecidableEq,Inhabited
def aI (x:aG):List V:=[aj x.Kind,V.s x.Text,aj x.At]
structure jw where
  l:List aD
  full:Bool
  deriving DecidableEq,Inhabited
structure aR where
  From:Int
  To:Int
  deriving DecidableEq,Inhabited
def bN (x:aR):List V:=[aj x.From,aj x.To]
structure yg where
  Kind:Int
  At:Int
  deriving DecidableEq,Inhabited
structure aC where
  kind:Int
  op:Int
  text:List UInt8
  other:List UInt8
  kids:List aC
instance:Inhabited aC:=⟨⟨0,0,[],[],[]⟩⟩
def aC.lt (x:aC) (y:aC) (h:y∈x.kids):SizeOf.sizeOf y < SizeOf.sizeOf x:=by
  have:=List.sizeOf_lt_of_mem h;cases x;simp only [aC.mk.sizeOf_spec] at*;omega
def fC (x:aC):List V:=[aj x.kind,aj x.op,V.s x.text,V.s x.other,.sl false false<|x.kids.attach.map fun y=>fC y.1]
termination_by SizeOf.sizeOf x
decreasing_by exact aC.lt x y.1 y.2
def acj (x:aC):fC x=[aj x.kind,aj x.op,V.s x.text,V.s x.other,.sl false false<|x.kids.map fC]:=by
  rw [fC];simp only [List.attach_map_val (f:=fC),List.map_attach_eq_pmap,List.pmap_eq_map]
def aom (x:aC):uH (fC x)=fC x:=by
  have hk:x.kids.map (uH∘fC)=x.kids.map fC:=Bz fun y hy=>aom y;rw [acj];simp only [uH,V.share,Oc,aj,V.s,V.b,KM];rw [hk]
termination_by SizeOf.sizeOf x
decreasing_by exact aC.lt x y hy
structure nG where
  op:Bool
  text:Bool
  other:Bool
  least:Int
  most:Int
  deriving DecidableEq,Inhabited
structure bS where
  l:List aD
  held:Bool
  deriving DecidableEq,Inhabited
abbrev LU:=List UInt8
abbrev lZ:=List (List UInt8)
abbrev LT:=List aG
abbrev LN:=List aD
abbrev LS:=List aC
abbrev wr (x:Int):Int:=IntKind.wrap .i64 x
abbrev sL {α:Type} (f:α->List V) (x:List α):V:=.sl false false (x.map f)
abbrev bI (a:aF):List V:=[aj a.Level,V.b a.nU,V.b a.aX,V.b a.bg,V.b a.eH]
abbrev dO (a:aD):List V:=[aj a.Kind,aj a.Op,V.s a.Text,V.s a.Other,sL aW a.Kids]
abbrev vX {α:Type} (t k:Nat) (f:α->List V) (x:List α):Ob:=.vec false t k (x.map f)
abbrev vN (x:lZ):Ob:=.vec false 9 1 (x.map fT)
abbrev cP (t:Nat) (x:LT) (i:Int) (b:Bool) (k:Nat):Ob:=.cells t [.sl false false<|x.map aI,aj i,V.b b,.own k]
def lO {H:Hp}:bG H []:=trivial
def acn (a0:LU):Option Bool:=
  some (decide<|(a0.length:Int) > 1048576)
def Oy (N:Nat):Nat->(LU×Int×Int)->Option (LU×Int×Int)
  | 0,_=>none
  | n1+1,(a0,y29,pY)=>(bif (decide<|pY < (a0.length:Int)) then some (decide<|pY < 4000) else (some false)).bind fun qy=>bif qy then (ix a0 pY).bind fun e44=>(Oy N n1) (a0,(bits .and .i64 (IntKind.wrap .i64<|(IntKind.wrap .i64<|(IntKind.wrap .i64<|y29*131)+(IntKind.wrap .i64 ((e44).toNat:Int)))+7) 1073741823),(IntKind.wrap .i64<|pY+1)) else (some (a0,0,y29))
def aco (N:Nat) (a0:LU):Option (LU×Int×Int):=
  Oy N N (a0,(IntKind.wrap .i64<|10101+(a0.length:Int)),0)
def Ti (pa:LU):(Int×Int×Int)->Option (Int×Int×Int)
  | (pc,y3,y4)=>some (y3,y4,(IntKind.wrap .i64<|(IntKind.wrap .i64<|pc*6364136223846793005)+1442695040888963407))
def EY (pa:LU) (pb:Int) (pc:Int):Option (Int×Int×Int):=
  bif (decide<|pb < (pa.length:Int)) then (ix pa pb).bind fun e6=>Ti pa (pc,(bits .and .i64 (IntKind.wrap .i64<|(bits .and .i64 (bits .xor .i64 (Int.fdiv (IntKind.wrap .i64<|(IntKind.wrap .i64<|pc*6364136223846793005)+1442695040888963407)<|2 ^ (min 33 64))<|Int.fdiv (IntKind.wrap .i64<|(IntKind.wrap .i64<|pc*6364136223846793005)+1442695040888963407)<|2 ^ (min 45 64)) 255)+(IntKind.wrap .i64 ((e6).toNat:Int))) 255),(IntKind.wrap .i64<|pb+1)) else (Ti pa (pc,(bits .and .i64 (bits .xor .i64 (Int.fdiv (IntKind.wrap .i64<|(IntKind.wrap .i64<|pc*6364136223846793005)+1442695040888963407)<|2 ^ (min 33 64))<|Int.fdiv (IntKind.wrap .i64<|(IntKind.wrap .i64<|pc*6364136223846793005)+1442695040888963407)<|2 ^ (min 45 64)) 255),pb))
def jG (a1:Int) (pa:LU) (pb:Int) (pc:Int):Option (Int×Int×Int):=
  bif (decide<|a1<=0) then some (0,pb,pc) else (bif (decide<|a1<=256) then (EY pa pb pc).bind fun r7=>(Lc r7.1 a1).bind fun x8=>some (x8,r7.2.1,r7.2.2) else ((EY pa pb pc).bind fun bF=>(EY pa bF.2.1 bF.2.2).bind fun dz=>(EY pa dz.2.1 dz.2.2).bind fun cZ=>(EY pa cZ.2.1 cZ.2.2).bind fun r16=>(Lc (IntKind.wrap .i64<|(IntKind.wrap .i64<|(IntKind.wrap .i64<|(IntKind.wrap .i64<|bF.1*16777216)+(IntKind.wrap .i64<|dz.1*65536))+(IntKind.wrap .i64<|cZ.1*256))+r16.1) a1).bind fun x18=>some (x18,r16.2.1,r16.2.2)))
def vM (a1:Int) (pa:LU) (pb:Int) (pc:Int):Option (Bool×Int×Int):=
  (jG a1 pa pb pc).bind fun r2=>some ((r2.1==0),r2.2.1,r2.2.2)
def vO (a1:lZ) (pa:LU) (pb:Int) (pc:Int):Option (LU×Int×Int):=
  (jG (a1.length:Int) pa pb pc).bind fun r3=>(ix a1 r3.1).bind fun e4=>some (e4,r3.2.1,r3.2.2)
def acp (pa:LU) (pb:Int) (pc:Int):Option (LU×Int×Int):=
  (vO [[48],[49],[52,50],[51,46,53],[46,53],[55,46],[49,101,51],[50,69,45,52],[49,48,46,50,53,101,43,49]] pa pb pc).bind fun r2=>some (r2.1,r2.2.1,r2.2.2)
def acr (pa:LU) (pb:Int) (pc:Int):Option (LU×Int×Int):=
  (vO [[34,34],[34,97,34],[34,120,32,121,34],[34,113,92,34,113,34],[34,92,110,34],[34,35,110,111,34],[34,47,34]] pa pb pc).bind fun r2=>some (r2.1,r2.2.1,r2.2.2)
def acs (pa:LU) (pb:Int) (pc:Int):Option (LU×Int×Int):=
  (vO [[47,97,47],[47,94,120,43,36,47],[47,97,92,47,98,47],[47,61,47],[47,32,47],[47,91,48,45,57,93,47]] pa pb pc).bind fun r2=>some (r2.1,r2.2.1,r2.2.2)
def Aw (pa:LU) (pb:Int) (pc:Int):Option (LU×Int×Int):=
  (vO [[120],[121],[110],[105],[97,114,114],[78,82],[70,83],[116,111,116,97,108],[97,49],[95,116],[99,111,117,110,116]] pa pb pc).bind fun r2=>some (r2.1,r2.2.1,r2.2.2)
def WM (pa:LU):(Int×Int)->Option (LN×Int×Int)
  | (dF,jm)=>(Aw pa dF jm).bind fun cZ=>some ([(⟨1,0,cZ.1,[],[]⟩:aD)],cZ.2.1,cZ.2.2)
def Tj (pa:LU) (pb:Int) (pc:Int):Option (LN×Int×Int):=
  (jG 7 pa pb pc).bind fun r16=>bif (r16.1==0) then (acp pa r16.2.1 r16.2.2).bind fun dR=>some ([(⟨2,0,dR.1,[],[]⟩:aD)],dR.2.1,dR.2.2) else (bif (r16.1==1) then (acr pa r16.2.1 r16.2.2).bind fun iq=>some ([(⟨3,0,iq.1,[],[]⟩:aD)],iq.2.1,iq.2.2) else (bif (r16.1==2) then (vM 2 pa r16.2.1 r16.2.2).bind fun dH=>bif dH.1 then (acs pa dH.2.1 dH.2.2).bind fun gu=>some ([(⟨4,0,gu.1,[],[]⟩:aD)],gu.2.1,gu.2.2) else (WM pa (dH.2.1,dH.2.2)) else (WM pa (r16.2.1,r16.2.2))))
def Oz (N:Nat) (gJ:(LN×Int×Int×LN)->Option LN):Nat->(LN×Int×Int×LN×aD×Int×(List Int))->Option LN
  | 0,_=>none
  | n2+1,(a0,a1,uK,Ay,tX,Li,WO)=>(ix a0 uK).bind fun agX=>bif (decide<|Li < (agX.Kids.length:Int)) then (ix a0 uK).bind fun aon=>(ix aon.Kids Li).bind fun aoo=>(app 8 WO [(IntKind.wrap .i64<|aoo+a1)]).bind fun acu=>(Oz N gJ n2) (a0,a1,uK,Ay,tX,(IntKind.wrap .i64<|Li+1),acu) else ((app 72 Ay [(⟨tX.Kind,tX.Op,tX.Text,tX.Other,WO⟩:aD)]).bind fun acv=>gJ (a0,a1,(IntKind.wrap .i64<|uK+1),acv))
def Je (N:Nat):Nat->(LN×Int×Int×LN)->Option LN
  | 0,_=>none
  | n1+1,(a0,a1,uK,Ay)=>bif (decide<|uK < (a0.length:Int)) then (ix a0 uK).bind fun tX=>Oz N (Je N n1) N (a0,a1,uK,Ay,tX,0,[]) else (some Ay)
def OA (N:Nat) (a0:LN) (a1:Int):Option LN:=
  Je N N (a0,a1,0,[])
def Lj (N:Nat):Nat->((List LN)×aD×Int×LN×(List Int))->Option LN
  | 0,_=>none
  | n1+1,(a1,a0,BM,xu,WQ)=>bif (decide<|BM < (a1.length:Int)) then (ix a1 BM).bind fun agY=>(OA N agY (xu.length:Int)).bind fun BN=>(app 72 xu BN).bind fun Tm=>(app 8 WQ [(IntKind.wrap .i64<|(Tm.length:Int) - 1)]).bind fun acw=>(Lj N n1) (a1,a0,(IntKind.wrap .i64<|BM+1),Tm,acw) else ((app 72 xu [(⟨a0.Kind,a0.Op,a0.Text,a0.Other,WQ⟩:aD)]).bind fun aop=>some aop)
def fJ (N:Nat) (a0:aD) (a1:List LN):Option LN:=
  Lj N N (a1,a0,0,[],[])
def Az (a1:List Int) (pa:LU) (pb:Int) (pc:Int):Option (Int×Int×Int):=
  (jG (a1.length:Int) pa pb pc).bind fun r3=>(ix a1 r3.1).bind fun e4=>some (e4,r3.2.1,r3.2.2)
def acy (pa:LU) (pb:Int) (pc:Int):Option (Int×Int×Int):=
  (Az [60,57,58,59,55,56,56,99,99,99,63,48,47,50,62,62,49,67,46,45,44] pa pb pc).bind fun r2=>some (r2.1,r2.2.1,r2.2.2)
structure GQ where
  xw:Int->Int->Int->LU->Int->Int->Option ((List LN)×Int×Int)
  zk:Int->LU->Int->Int->Option (LN×Int×Int)
  fK:Int->LU->Int->Int->Option (LN×Int×Int)
def OB (N:Nat) (R:GQ) (pa:LU):Nat->(Int×Int×Int×Int×(List LN))->Option ((List LN)×Int×Int)
  | 0,_=>none
  | n1+1,(a3,vL,BO,sG,uL)=>bif (decide<|vL > 0) then (R.fK a3 pa BO sG).bind fun bU=>(app 24 uL [bU.1]).bind fun Jf=>(OB N R pa n1) (a3,(IntKind.wrap .i64<|vL - 1),bU.2.1,bU.2.2,Jf) else (some (uL,BO,sG))
def WR (N:Nat) (R:GQ) (a1:Int) (a2:Int) (a3:Int) (pa:LU) (pb:Int) (pc:Int):Option ((List LN)×Int×Int):=
  (jG (IntKind.wrap .i64<|(IntKind.wrap .i64<|a2 - a1)+1) pa pb pc).bind fun iW=>OB N R pa N (a3,(IntKind.wrap .i64<|a1+iW.1),iW.2.1,iW.2.2,[])
def WS (N:Nat) (R:GQ) (a1:Int) (pa:LU) (pb:Int) (pc:Int):Option (LN×Int×Int):=
  (jG 4 pa pb pc).bind fun cZ=>bif (cZ.1==0) then (Aw pa cZ.2.1 cZ.2.2).bind fun dR=>(R.fK (IntKind.wrap .i64<|a1 - 1) pa dR.2.1 dR.2.2).bind fun dI=>(fJ N (⟨5,0,dR.1,[],[]⟩:aD) [dI.1]).bind fun iq=>some (iq,dI.2.1,dI.2.2) else (bif (cZ.1==1) then (R.fK (IntKind.wrap .i64<|a1 - 2) pa cZ.2.1 cZ.2.2).bind fun qI=>(fJ N (⟨6,0,[],[],[]⟩:aD) [qI.1]).bind fun gu=>some (gu,qI.2.1,qI.2.2) else ((Aw pa cZ.2.1 cZ.2.2).bind fun dA=>some ([(⟨1,0,dA.1,[],[]⟩:aD)],dA.2.1,dA.2.2)))
def Tp (N:Nat) (R:GQ) (pa:LU):(Int×(Int×Int×Int)×Bool)->Option (LN×Int×Int)
  | (a1,bU,y96)=>bif y96 then (Az [56,55,61] pa bU.2.1 bU.2.2).bind fun sH=>(R.fK (IntKind.wrap .i64<|a1 - 1) pa sH.2.1 sH.2.2).bind fun Tq=>(fJ N (⟨11,sH.1,[],[],[]⟩:aD) [Tq.1]).bind fun WT=>some (WT,Tq.2.1,Tq.2.2) else (bif (bU.1==9) then (Aw pa bU.2.1 bU.2.2).bind fun qJ=>(R.xw 1 2 (IntKind.wrap .i64<|a1 - 1) pa qJ.2.1 qJ.2.2).bind fun zl=>(fJ N (⟨13,0,qJ.1,[],[]⟩:aD) zl.1).bind fun vP=>some (vP,zl.2.1,zl.2.2) else (bif (bU.1==10) then (R.fK (IntKind.wrap .i64<|a1 - 1) pa bU.2.1 bU.2.2).bind fun mg=>(R.fK (IntKind.wrap .i64<|a1 - 1) pa mg.2.1 mg.2.2).bind fun sJ=>(R.fK (IntKind.wrap .i64<|a1 - 1) pa sJ.2.1 sJ.2.2).bind fun oz=>(fJ N (⟨14,0,[],[],[]⟩:aD) [mg.1,sJ.1,oz.1]).bind fun yh=>some (yh,oz.2.1,oz.2.2) else (bif (bU.1==11) then (Az [54,38,43] pa bU.2.1 bU.2.2).bind fun oD=>(R.zk (IntKind.wrap .i64<|a1 - 1) pa oD.2.1 oD.2.2).bind fun uM=>(R.fK (IntKind.wrap .i64<|a1 - 1) pa uM.2.1 uM.2.2).bind fun sM=>(fJ N (⟨15,oD.1,[],[],[]⟩:aD) [uM.1,sM.1]).bind fun jg=>some (jg,sM.2.1,sM.2.2) else ((acy pa bU.2.1 bU.2.2).bind fun qz=>(R.fK (IntKind.wrap .i64<|a1 - 1) pa qz.2.1 qz.2.2).bind fun yj=>(R.fK (IntKind.wrap .i64<|a1 - 1) pa yj.2.1 yj.2.2).bind fun Tt=>(fJ N (⟨12,qz.1,[],[],[]⟩:aD) [yj.1,Tt.1]).bind fun Dz=>some (Dz,Tt.2.1,Tt.2.2)))))
def OC (N:Nat) (R:GQ) (a1:Int) (pa:LU) (pb:Int) (pc:Int):Option (LN×Int×Int):=
  bif (decide<|a1<=0) then (Tj pa pb pc).bind fun r4=>some (r4.1,r4.2.1,r4.2.2) else ((jG 2 pa pb pc).bind fun r6=>(jG 16 pa r6.2.1 r6.2.2).bind fun bU=>bif (bU.1==0) then (Tj pa bU.2.1 bU.2.2).bind fun AA=>some (AA.1,AA.2.1,AA.2.2) else (bif (bU.1==1) then (R.zk a1 pa bU.2.1 bU.2.2).bind fun r71=>some (r71.1,r71.2.1,r71.2.2) else (bif (bU.1==2) then (R.fK (IntKind.wrap .i64<|a1 - 1) pa bU.2.1 bU.2.2).bind fun AB=>(fJ N (⟨6,0,[],[],[]⟩:aD) [AB.1]).bind fun r75=>some (r75,AB.2.1,AB.2.2) else (bif (bU.1==3) then (Aw pa bU.2.1 bU.2.2).bind fun vQ=>(R.xw 0 3 (IntKind.wrap .i64<|a1 - 1) pa vQ.2.1 vQ.2.2).bind fun EZ=>(fJ N (⟨7,0,vQ.1,[],[]⟩:aD) EZ.1).bind fun Jg=>some (Jg,EZ.2.1,EZ.2.2) else (bif (bU.1==4) then (vO [[108,101,110,103,116,104],[115,117,98,115,116,114],[105,110,100,101,120],[105,110,116],[116,111,117,112,112,101,114]] pa bU.2.1 bU.2.2).bind fun OD=>(R.xw 0 3 (IntKind.wrap .i64<|a1 - 2) pa OD.2.1 OD.2.2).bind fun nV=>(fJ N (⟨8,0,OD.1,[],[]⟩:aD) nV.1).bind fun vR=>some (vR,nV.2.1,nV.2.2) else (bif (bU.1==5) then (R.zk (IntKind.wrap .i64<|a1 - 1) pa bU.2.1 bU.2.2).bind fun oQ=>(fJ N (⟨9,(IntKind.wrap .i64<|51+r6.1),[],[],[]⟩:aD) [oQ.1]).bind fun Jh=>some (Jh,oQ.2.1,oQ.2.2) else (bif (bU.1==6) then (R.zk (IntKind.wrap .i64<|a1 - 1) pa bU.2.1 bU.2.2).bind fun xA=>(fJ N (⟨10,(IntKind.wrap .i64<|51+r6.1),[],[],[]⟩:aD) [xA.1]).bind fun xB=>some (xB,xA.2.1,xA.2.2) else (bif (bU.1==7) then Tp N R pa (a1,bU,(bU.1==7)) else (Tp N R pa (a1,bU,(bU.1==8)))))))))))
def rC:Nat->GQ
  | 0=>⟨fun _ _ _ _ _ _=>none,fun _ _ _ _=>none,fun _ _ _ _=>none⟩
  | N+1=>⟨fun a1 a2 a3 pa pb pc=>WR N (rC N) a1 a2 a3 pa pb pc,fun a1 pa pb pc=>WS N (rC N) a1 pa pb pc,fun a1 pa pb pc=>OC N (rC N) a1 pa pb pc⟩
def xw (N:Nat) (a1:Int) (a2:Int) (a3:Int) (pa:LU) (pb:Int) (pc:Int):Option ((List LN)×Int×Int):=(rC N).xw a1 a2 a3 pa pb pc
def zk (N:Nat) (a1:Int) (pa:LU) (pb:Int) (pc:Int):Option (LN×Int×Int):=(rC N).zk a1 pa pb pc
def fK (N:Nat) (a1:Int) (pa:LU) (pb:Int) (pc:Int):Option (LN×Int×Int):=(rC N).fK a1 pa pb pc
def OE (N:Nat) (pa:LU):Nat->(Int×Int)->Option (LN×Int×Int)
  | 0,_=>none
  | n1+1,(pb,pc)=>(jG 4 pa pb pc).bind fun r9=>(fK N (IntKind.wrap .i64<|1+r9.1) pa r9.2.1 r9.2.2).bind fun bF=>bif (decide<|(bF.1.length:Int)<=60) then some (bF.1,bF.2.1,bF.2.2) else ((OE N pa n1) (bF.2.1,bF.2.2))
def Tv (N:Nat) (pa:LU) (pb:Int) (pc:Int):Option (LN×Int×Int):=
  OE N pa N (pb,pc)
def Tw (N:Nat) (pa:LU):(Int×Int×Int)->Option (LN×Int×Int)
  | (a1,uL,WU)=>(fK N a1 pa uL WU).bind fun vS=>(fJ N (⟨20,0,[],[],[]⟩:aD) [vS.1]).bind fun lF=>some (lF,vS.2.1,vS.2.2)
def Tx (N:Nat) (pa:LU):((Int×Int×Int)×LU×(List LN)×Int×Int)->Option (LN×Int×Int)
  | (kR,Lg,Tz,BM,xu)=>(fJ N (⟨21,kR.1,[],Lg,[]⟩:aD) Tz).bind fun AB=>some (AB,BM,xu)
def TB (N:Nat) (pa:LU):(Int×(Int×Int×Int)×Bool)->Option (LN×Int×Int)
  | (a1,iX,DC)=>bif DC then (jG 2 pa iX.2.1 iX.2.2).bind fun kR=>(xw N kR.1 3 a1 pa kR.2.1 kR.2.2).bind fun lN=>(vM 3 pa lN.2.1 lN.2.2).bind fun BP=>bif BP.1 then (vO [[62],[62,62],[124]] pa BP.2.1 BP.2.2).bind fun tY=>(fK N (IntKind.wrap .i64<|a1 - 1) pa tY.2.1 tY.2.2).bind fun Jg=>(app 24 lN.1 [Jg.1]).bind fun x82=>Tx N pa (kR,tY.1,x82,Jg.2.1,Jg.2.2) else (Tx N pa (kR,[],lN.1,BP.2.1,BP.2.2)) else (bif (iX.1==2) then (Az [22,25,26] pa iX.2.1 iX.2.2).bind fun r84=>some ([(⟨r84.1,0,[],[],[]⟩:aD)],r84.2.1,r84.2.2) else (bif (iX.1==3) then (Az [23,24] pa iX.2.1 iX.2.2).bind fun oU=>(xw N 0 1 a1 pa oU.2.1 oU.2.2).bind fun kZ=>(fJ N (⟨oU.1,0,[],[],[]⟩:aD) kZ.1).bind fun oQ=>some (oQ,kZ.2.1,kZ.2.2) else (bif (iX.1==4) then (Aw pa iX.2.1 iX.2.2).bind fun xA=>(xw N 0 2 (IntKind.wrap .i64<|a1 - 1) pa xA.2.1 xA.2.2).bind fun xB=>(fJ N (⟨27,0,xA.1,[],[]⟩:aD) xB.1).bind fun uN=>some (uN,xB.2.1,xB.2.2) else (bif (iX.1==5) then (vM 2 pa iX.2.1 iX.2.2).bind fun rD=>bif rD.1 then (vO [[35],[35,32,110,111,116,101],[35,120,32,61,32,49]] pa rD.2.1 rD.2.2).bind fun sH=>some ([(⟨34,0,sH.1,[],[]⟩:aD)],sH.2.1,sH.2.2) else (Tw N pa (a1,rD.2.1,rD.2.2)) else (Tw N pa (a1,iX.2.1,iX.2.2))))))
def WV (N:Nat) (a1:Int) (pa:LU) (pb:Int) (pc:Int):Option (LN×Int×Int):=
  (jG 9 pa pb pc).bind fun iX=>bif (iX.1==0) then TB N pa (a1,iX,(iX.1==0)) else (TB N pa (a1,iX,(iX.1==1)))
def GR (N:Nat) (a1:Int) (pa:LU) (pb:Int) (pc:Int):Option (LN×Int×Int):=
  (vM 3 pa pb pc).bind fun r4=>bif r4.1 then some ([(⟨16,0,[],[],[]⟩:aD)],r4.2.1,r4.2.2) else ((fK N a1 pa r4.2.1 r4.2.2).bind fun r6=>some (r6.1,r6.2.1,r6.2.2))
structure OG where
  jH:Int->LU->Int->Int->Option (LN×Int×Int)
  DF:Int->LU->Int->Int->Option (LN×Int×Int)
def OH (N:Nat) (R:OG) (pa:LU):Nat->(Int×Int×Int×Int×(List LN))->Option (LN×Int×Int)
  | 0,_=>none
  | n1+1,(a1,vL,BO,sG,uL)=>bif (decide<|vL > 0) then (R.DF a1 pa BO sG).bind fun bU=>(app 24 uL [bU.1]).bind fun Jf=>(OH N R pa n1) (a1,(IntKind.wrap .i64<|vL - 1),bU.2.1,bU.2.2,Jf) else ((fJ N (⟨33,0,[],[],[]⟩:aD) uL).bind fun GU=>some (GU,BO,sG))
def WW (N:Nat) (R:OG) (a1:Int) (pa:LU) (pb:Int) (pc:Int):Option (LN×Int×Int):=
  (jG 3 pa pb pc).bind fun iW=>OH N R pa N (a1,iW.1,iW.2.1,iW.2.2,[])
def OI (N:Nat) (R:OG) (a1:Int) (pa:LU) (pb:Int) (pc:Int):Option (LN×Int×Int):=
  (bif (decide<|a1<=0) then some (true,pb,pc) else ((vM 3 pa pb pc).bind fun dz=>some ((!dz.1),dz.2.1,dz.2.2))).bind fun (y9,kg,dF)=>bif y9 then (WV N (if 2 < a1 then 2 else a1) pa kg dF).bind fun cZ=>some (cZ.1,cZ.2.1,cZ.2.2) else ((jG 6 pa kg dF).bind fun gK=>bif (gK.1==0) then (fK N 1 pa gK.2.1 gK.2.2).bind fun kR=>(R.jH (IntKind.wrap .i64<|a1 - 1) pa kR.2.1 kR.2.2).bind fun eP=>(fJ N (⟨28,0,[],[],[]⟩:aD) [kR.1,eP.1]).bind fun lN=>some (lN,eP.2.1,eP.2.2) else (bif (gK.1==1) then (fK N 1 pa gK.2.1 gK.2.2).bind fun uO=>(R.jH (IntKind.wrap .i64<|a1 - 1) pa uO.2.1 uO.2.2).bind fun zm=>(R.jH (IntKind.wrap .i64<|a1 - 1) pa zm.2.1 zm.2.2).bind fun bU=>(fJ N (⟨28,0,[],[],[]⟩:aD) [uO.1,zm.1,bU.1]).bind fun r68=>some (r68,bU.2.1,bU.2.2) else (bif (gK.1==2) then (fK N 1 pa gK.2.1 gK.2.2).bind fun DI=>(R.jH (IntKind.wrap .i64<|a1 - 1) pa DI.2.1 DI.2.2).bind fun BQ=>(fJ N (⟨29,0,[],[],[]⟩:aD) [DI.1,BQ.1]).bind fun AB=>some (AB,BQ.2.1,BQ.2.2) else (bif (gK.1==3) then (R.jH (IntKind.wrap .i64<|a1 - 1) pa gK.2.1 gK.2.2).bind fun tY=>(fK N 1 pa tY.2.1 tY.2.2).bind fun vQ=>(fJ N (⟨30,0,[],[],[]⟩:aD) [tY.1,vQ.1]).bind fun EZ=>some (EZ,vQ.2.1,vQ.2.2) else (bif (gK.1==4) then (GR N 2 pa gK.2.1 gK.2.2).bind fun nV=>(GR N 1 pa nV.2.1 nV.2.2).bind fun vR=>(GR N 1 pa vR.2.1 vR.2.2).bind fun oU=>(R.jH (IntKind.wrap .i64<|a1 - 1) pa oU.2.1 oU.2.2).bind fun kZ=>(fJ N (⟨31,0,[],[],[]⟩:aD) [nV.1,vR.1,oU.1,kZ.1]).bind fun oQ=>some (oQ,kZ.2.1,kZ.2.2) else ((vM 2 pa gK.2.1 gK.2.2).bind fun uN=>bif uN.1 then (R.jH (IntKind.wrap .i64<|a1 - 1) pa uN.2.1 uN.2.2).bind fun rD=>some (rD.1,rD.2.1,rD.2.2) else ((Aw pa uN.2.1 uN.2.2).bind fun Fa=>(Aw pa Fa.2.1 Fa.2.2).bind fun uP=>(R.jH (IntKind.wrap .i64<|a1 - 1) pa uP.2.1 uP.2.2).bind fun BN=>(fJ N (⟨32,0,Fa.1,uP.1,[]⟩:aD) [BN.1]).bind fun qJ=>some (qJ,BN.2.1,BN.2.2))))))))
def rE:Nat->OG
  | 0=>⟨fun _ _ _ _=>none,fun _ _ _ _=>none⟩
  | N+1=>⟨fun a1 pa pb pc=>WW N (rE N) a1 pa pb pc,fun a1 pa pb pc=>OI N (rE N) a1 pa pb pc⟩
def jH (N:Nat) (a1:Int) (pa:LU) (pb:Int) (pc:Int):Option (LN×Int×Int):=(rE N).jH a1 pa pb pc
def DF (N:Nat) (a1:Int) (pa:LU) (pb:Int) (pc:Int):Option (LN×Int×Int):=(rE N).DF a1 pa pb pc
def OJ (N:Nat) (pa:LU):Nat->((Int×Int×Int)×Int×Int×Int×(List LN))->Option (LN×Int×Int)
  | 0,_=>none
  | n1+1,(r2,OL,OM,OO,WX)=>bif (decide<|OL > 0) then (Aw pa OM OO).bind fun Ll=>(app 24 WX [[(⟨1,0,Ll.1,[],[]⟩:aD)]]).bind fun acC=>(OJ N pa n1) (r2,(IntKind.wrap .i64<|OL - 1),Ll.2.1,Ll.2.2,acC) else ((vO [[102],[103],[109,97,120]] pa OM OO).bind fun OP=>(jH N (IntKind.wrap .i64<|1+r2.1) pa OP.2.1 OP.2.2).bind fun acD=>(app 24 WX [acD.1]).bind fun acE=>(fJ N (⟨44,0,OP.1,[],[]⟩:aD) acE).bind fun aor=>some (aor,acD.2.1,acD.2.2))
def WY (N:Nat) (pa:LU) (pb:Int) (pc:Int):Option (LN×Int×Int):=
  (jG 2 pa pb pc).bind fun r2=>(jG 8 pa r2.2.1 r2.2.2).bind fun jg=>bif (jg.1==0) then (jG 2 pa jg.2.1 jg.2.2).bind fun OQ=>(jH N (IntKind.wrap .i64<|1+r2.1) pa OQ.2.1 OQ.2.2).bind fun qz=>(fJ N (⟨(IntKind.wrap .i64<|40+OQ.1),0,[],[],[]⟩:aD) [qz.1]).bind fun yj=>some (yj,qz.2.1,qz.2.2) else (bif (jg.1==1) then (fK N (IntKind.wrap .i64<|1+r2.1) pa jg.2.1 jg.2.2).bind fun oF=>(fJ N (⟨42,1,[],[],[]⟩:aD) [oF.1]).bind fun WZ=>some (WZ,oF.2.1,oF.2.2) else (bif (jg.1==2) then (jH N (IntKind.wrap .i64<|1+r2.1) pa jg.2.1 jg.2.2).bind fun BR=>(fJ N (⟨42,2,[],[],[]⟩:aD) [BR.1]).bind fun Lm=>some (Lm,BR.2.1,BR.2.2) else (bif (jg.1==3) then (fK N 1 pa jg.2.1 jg.2.2).bind fun BU=>(fK N 1 pa BU.2.1 BU.2.2).bind fun TF=>(fJ N (⟨43,1,[],[],[]⟩:aD) [BU.1,TF.1]).bind fun aos=>some (aos,TF.2.1,TF.2.2) else (bif (jg.1==4) then (fK N 1 pa jg.2.1 jg.2.2).bind fun DJ=>(fK N 1 pa DJ.2.1 DJ.2.2).bind fun Fb=>(jH N (IntKind.wrap .i64<|1+r2.1) pa Fb.2.1 Fb.2.2).bind fun TG=>(fJ N (⟨43,3,[],[],[]⟩:aD) [DJ.1,Fb.1,TG.1]).bind fun aot=>some (aot,TG.2.1,TG.2.2) else (bif (jg.1==5) then (jG 3 pa jg.2.1 jg.2.2).bind fun OT=>OJ N pa N (r2,OT.1,OT.2.1,OT.2.2,[]) else (bif (jg.1==6) then (vO [[35,32,116,111,112],[35]] pa jg.2.1 jg.2.2).bind fun acF=>some ([(⟨34,0,acF.1,[],[]⟩:aD)],acF.2.1,acF.2.2) else ((fK N (IntKind.wrap .i64<|1+r2.1) pa jg.2.1 jg.2.2).bind fun Lp=>(jH N (IntKind.wrap .i64<|1+r2.1) pa Lp.2.1 Lp.2.2).bind fun TH=>(fJ N (⟨42,3,[],[],[]⟩:aD) [Lp.1,TH.1]).bind fun aou=>some (aou,TH.2.1,TH.2.2))))))))
def OU (N:Nat) (pa:LU) (gJ:(Int×Int)->Option (LN×Int×Int)):Nat->(Int×Int×Int×(List LN))->Option (LN×Int×Int)
  | 0,_=>none
  | n2+1,(OV,rF,Lr,OW)=>bif (decide<|OV > 0) then (WY N pa rF Lr).bind fun ko=>(app 24 OW [ko.1]).bind fun acG=>(OU N pa gJ n2) ((IntKind.wrap .i64<|OV - 1),ko.2.1,ko.2.2,acG) else ((fJ N (⟨45,0,[],[],[]⟩:aD) OW).bind fun BU=>bif (decide<|(BU.length:Int)<=220) then some (BU,rF,Lr) else (gJ (rF,Lr)))
def Ji (N:Nat) (pa:LU):Nat->(Int×Int)->Option (LN×Int×Int)
  | 0,_=>none
  | n1+1,(pb,pc)=>(jG 4 pa pb pc).bind fun vP=>OU N pa (Ji N pa n1) N (vP.1,vP.2.1,vP.2.2,[])
def Xa (N:Nat) (pa:LU) (pb:Int) (pc:Int):Option (LN×Int×Int):=
  Ji N pa N (pb,pc)
def TI (N:Nat) (pa:LU):((Int×Int×Int)×Bool)->Option (LN×Int×Int)
  | (r9,kg)=>bif kg then (Tv N pa r9.2.1 r9.2.2).bind fun dz=>some (dz.1,dz.2.1,dz.2.2) else (bif (r9.1==2) then (DF N 2 pa r9.2.1 r9.2.2).bind fun cZ=>some (cZ.1,cZ.2.1,cZ.2.2) else ((Xa N pa r9.2.1 r9.2.2).bind fun r16=>some (r16.1,r16.2.1,r16.2.2)))
def TJ (N:Nat) (pa:LU) (pb:Int) (pc:Int):Option (LN×Int×Int):=
  (jG 5 pa pb pc).bind fun r9=>bif (r9.1==0) then TI N pa (r9,(r9.1==0)) else (TI N pa (r9,(r9.1==1)))
def OX (N:Nat) (pa:LU):(LN×Int×Int)->Option (LN×Int×Int)
  | (y31,y32,zn)=>some (y31,y32,zn)
def Xb (N:Nat) (pa:LU) (pb:Int) (pc:Int):Option (LN×Int×Int):=
  (TJ N pa pb pc).bind fun r2=>(jG (r2.1.length:Int) pa r2.2.1 r2.2.2).bind fun r4=>(jG 12 pa r4.2.1 r4.2.2).bind fun dJ=>bif (dJ.1==0) then (cut r2.1 0 r4.1).bind fun TK=>some (TK,dJ.2.1,dJ.2.2) else (bif (dJ.1==1) then (ix r2.1 r4.1).bind fun e39=>(Az [(-1),r4.1,0,99] pa dJ.2.1 dJ.2.2).bind fun Fe=>(app 8 e39.Kids [Fe.1]).bind fun Jj=>(upd r2.1 r4.1 (⟨e39.Kind,e39.Op,e39.Text,e39.Other,Jj⟩:aD)).bind fun Xc=>OX N pa (Xc,Fe.2.1,Fe.2.2) else (bif (dJ.1==2) then (ix r2.1 r4.1).bind fun e47=>bif (decide<|(e47.Kids.length:Int) > 0) then (ix r2.1 r4.1).bind fun e49=>(jG (IntKind.wrap .i64<|r4.1+1) pa dJ.2.1 dJ.2.2).bind fun lF=>(ix e49.Kids 0).bind fun e54=>(upd e49.Kids 0<|IntKind.wrap .i64<|lF.1 - 1).bind fun x55=>(upd r2.1 r4.1 (⟨e49.Kind,e49.Op,e49.Text,e49.Other,x55⟩:aD)).bind fun Xd=>OX N pa (Xd,lF.2.1,lF.2.2) else (OX N pa (r2.1,dJ.2.1,dJ.2.2)) else (bif (dJ.1==3) then (app 72 r2.1 r2.1).bind fun TL=>some (TL,dJ.2.1,dJ.2.2) else (OX N pa (r2.1,dJ.2.1,dJ.2.2)))))
def Ls (N:Nat) (pa:LU):(LN×Int×Int)->Option (LN×Int×Int)
  | (zn,y34,jy)=>some (zn,y34,jy)
def Xe (N:Nat) (pa:LU) (pb:Int) (pc:Int):Option (LN×Int×Int):=
  (TJ N pa pb pc).bind fun r2=>(jG (r2.1.length:Int) pa r2.2.1 r2.2.2).bind fun r4=>(jG 14 pa r4.2.1 r4.2.2).bind fun fU=>bif (fU.1==0) then (jG 47 pa fU.2.1 fU.2.2).bind fun lQ=>(ix r2.1 r4.1).bind fun e42=>(upd r2.1 r4.1 (⟨lQ.1,e42.Op,e42.Text,e42.Other,e42.Kids⟩:aD)).bind fun x43=>Ls N pa (x43,lQ.2.1,lQ.2.2) else (bif (fU.1==1) then (Az [0,1,56,99,54,51,(-1)] pa fU.2.1 fU.2.2).bind fun tZ=>(ix r2.1 r4.1).bind fun e48=>(upd r2.1 r4.1 (⟨e48.Kind,tZ.1,e48.Text,e48.Other,e48.Kids⟩:aD)).bind fun x49=>Ls N pa (x49,tZ.2.1,tZ.2.2) else (bif (fU.1==2) then (vO [[],[120],[105,102],[108,101,110,103,116,104],[49],[47]] pa fU.2.1 fU.2.2).bind fun lF=>(ix r2.1 r4.1).bind fun e54=>(upd r2.1 r4.1 (⟨e54.Kind,e54.Op,lF.1,e54.Other,e54.Kids⟩:aD)).bind fun x55=>Ls N pa (x55,lF.2.1,lF.2.2) else (bif (fU.1==3) then (vO [[],[62],[120]] pa fU.2.1 fU.2.2).bind fun eP=>(ix r2.1 r4.1).bind fun e60=>(upd r2.1 r4.1 (⟨e60.Kind,e60.Op,e60.Text,eP.1,e60.Kids⟩:aD)).bind fun x61=>Ls N pa (x61,eP.2.1,eP.2.2) else (bif (fU.1==4) then (Xb N pa fU.2.1 fU.2.2).bind fun Xf=>some (Xf.1,Xf.2.1,Xf.2.2) else (Ls N pa (r2.1,fU.2.1,fU.2.2))))))
def Xg (N:Nat) (pa:LU) (pb:Int) (pc:Int):Option (LN×Int×Int):=
  (vM 10 pa pb pc).bind fun r6=>bif r6.1 then (Xe N pa r6.2.1 r6.2.2).bind fun r8=>some (r8.1,r8.2.1,r8.2.2) else ((Tv N pa r6.2.1 r6.2.2).bind fun bF=>some (bF.1,bF.2.1,bF.2.2))
def Lu (pa:LU):((Bool×Int×Int)×(Bool×Int×Int)×(Bool×Int×Int)×Int×Bool×Int×Int)->Option (aF×Int×Int)
  | (r6,r7,r8,oV,fF,nH,jZ)=>some ((⟨oV,fF,r6.1,r7.1,r8.1⟩:aF),nH,jZ)
def OY (pa:LU):((Int×Int×Int)×(Bool×Int×Int)×(Bool×Int×Int)×(Bool×Int×Int)×(Int×Int×Int)×Bool)->Option (aF×Int×Int)
  | (r5,r6,r7,r8,dI,y22)=>bif y22 then Lu pa (r6,r7,r8,1,false,dI.2.1,dI.2.2) else (Lu pa (r6,r7,r8,(IntKind.wrap .i64<|1+r5.1),false,dI.2.1,dI.2.2))
def Xh (pa:LU) (pb:Int) (pc:Int):Option (aF×Int×Int):=
  (jG 15 pa pb pc).bind fun r5=>(vM 4 pa r5.2.1 r5.2.2).bind fun r6=>(vM 4 pa r6.2.1 r6.2.2).bind fun r7=>(vM 4 pa r7.2.1 r7.2.2).bind fun r8=>(jG 12 pa r8.2.1 r8.2.2).bind fun dI=>bif (dI.1==0) then (Az [0,16,(-1)] pa dI.2.1 dI.2.2).bind fun oW=>Lu pa (r6,r7,r8,oW.1,false,oW.2.1,oW.2.2) else (bif (dI.1==1) then Lu pa (r6,r7,r8,(IntKind.wrap .i64<|1+r5.1),true,dI.2.1,dI.2.2) else (bif (dI.1==2) then Lu pa (r6,r7,r8,14,true,dI.2.1,dI.2.2) else (bif (dI.1==3) then OY pa (r5,r6,r7,r8,dI,(dI.1==3)) else (bif (dI.1==4) then OY pa (r5,r6,r7,r8,dI,(dI.1==4)) else (OY pa (r5,r6,r7,r8,dI,(dI.1==5)))))))
def qY:Option aF:=
  some (⟨1,false,false,false,false⟩:aF)
def Xi (pa:LU) (pb:Int) (pc:Int):Option (aF×Int×Int):=
  (vM 3 pa pb pc).bind fun r6=>bif r6.1 then (Xh pa r6.2.1 r6.2.2).bind fun r8=>some (r8.1,r8.2.1,r8.2.2) else (Option.bind qY fun bF=>some (bF,r6.2.1,r6.2.2))
def oG (a0:Int) (a1:Int) (a2:Int):Option Bool:=
  (bif (decide<|a0>=a1) then some (decide<|a0<=a2) else (some false)).bind fun y1=>some y1
def OZ (N:Nat) (gJ:(LN×Int×(List Int))->Option ((List Int)×Bool)):Nat->(LN×Int×(List Int)×Int×Int)->Option ((List Int)×Bool)
  | 0,_=>none
  | n2+1,(a0,sN,yt,Lv,Jk)=>bif (decide<|Jk>=0) then ((ix a0 sN).bind fun aov=>(ix aov.Kids Jk).bind fun aow=>bif (aow !=(IntKind.wrap .i64<|Lv - 1)) then some true else (some<|Lv==0)).bind fun ahb=>bif ahb then some ([],false) else ((ix yt<|IntKind.wrap .i64<|Lv - 1).bind fun Xj=>(OZ N gJ n2) (a0,sN,yt,Xj,(IntKind.wrap .i64<|Jk - 1))) else ((app 8 yt [Lv]).bind fun acH=>gJ (a0,(IntKind.wrap .i64<|sN+1),acH))
def Lx (N:Nat):Nat->(LN×Int×(List Int))->Option ((List Int)×Bool)
  | 0,_=>none
  | n1+1,(a0,sN,yt)=>bif (decide<|sN < (a0.length:Int)) then (ix a0 sN).bind fun acI=>OZ N (Lx N n1) N (a0,sN,yt,sN,(IntKind.wrap .i64<|(acI.Kids.length:Int) - 1)) else (some (yt,true))
def Xk (N:Nat) (a0:LN):Option ((List Int)×Bool):=
  Lx N N (a0,0,[])
def IB (N:Nat) (a0:LN):Option Bool:=
  (oG (a0.length:Int) 1 400).bind fun r4=>bif (!r4) then some false else ((Xk N a0).bind fun r6=>(bif r6.2 then (ix r6.1<|IntKind.wrap .i64<|(a0.length:Int) - 1).bind fun e9=>some (e9==0) else (some false)).bind fun y8=>some y8)
def LA (N:Nat) (gJ:(LN×Int×(List Int))->Option Int):Nat->(LN×Int×(List Int)×Int×Int)->Option Int
  | 0,_=>none
  | n2+1,(a0,vT,zo,GV,LB)=>(ix a0 vT).bind fun ahc=>bif (decide<|LB < (ahc.Kids.length:Int)) then (ix a0 vT).bind fun aox=>(ix aox.Kids LB).bind fun aoy=>(ix zo aoy).bind fun LC=>(LA N gJ n2) (a0,vT,zo,(if (IntKind.wrap .i64<|1+LC) > GV then (IntKind.wrap .i64<|1+LC) else GV),(IntKind.wrap .i64<|LB+1)) else ((app 8 zo [GV]).bind fun acJ=>gJ (a0,(IntKind.wrap .i64<|vT+1),acJ))
def Jl (N:Nat):Nat->(LN×Int×(List Int))->Option Int
  | 0,_=>none
  | n1+1,(a0,vT,zo)=>bif (decide<|vT < (a0.length:Int)) then LA N (Jl N n1) N (a0,vT,zo,1,0) else ((ix zo<|IntKind.wrap .i64<|(a0.length:Int) - 1).bind fun ahd=>some ahd)
def Pb (N:Nat) (a0:LN):Option Int:=
  (IB N a0).bind fun r4=>bif (!r4) then some 0 else (Jl N N (a0,0,[]))
def Pf:(aD×Bool)->Option (Int×Int)
  | (a0,jm)=>bif jm then some (0,(a0.Kids.length:Int)) else (bif (a0.Kind==42) then some ((IntKind.wrap .i64<|1+(IntKind.wrap .i64<|Int.tdiv a0.Op 3)),(IntKind.wrap .i64<|1+(IntKind.wrap .i64<|Int.tdiv a0.Op 3))) else (bif (a0.Kind==43) then some ((IntKind.wrap .i64<|2+(IntKind.wrap .i64<|Int.tdiv a0.Op 3)),(IntKind.wrap .i64<|2+(IntKind.wrap .i64<|Int.tdiv a0.Op 3))) else (bif (a0.Kind==44) then some (1,7) else (some (0,0)))))
def Ph:(aD×Bool)->Option (Int×Int)
  | (a0,dF)=>bif dF then some (0,1) else (bif (a0.Kind==28) then some (2,3) else (bif (a0.Kind==31) then some (4,4) else (bif (a0.Kind==33) then Pf (a0,(a0.Kind==33)) else (Pf (a0,(a0.Kind==45))))))
def Jm:(aD×Bool)->Option (Int×Int)
  | (a0,kg)=>bif kg then some (2,2) else (bif (a0.Kind==14) then some (3,3) else (bif (a0.Kind==21) then bif (!(a0.Other==[])) then some ((IntKind.wrap .i64<|a0.Op+1),7) else (some (a0.Op,6)) else (bif (a0.Kind==23) then Ph (a0,(a0.Kind==23)) else (Ph (a0,(a0.Kind==24))))))
def BX:(aD×Bool)->Option (Int×Int)
  | (a0,y9)=>bif y9 then some (1,1) else (bif (a0.Kind==12) then Jm (a0,(a0.Kind==12)) else (bif (a0.Kind==15) then Jm (a0,(a0.Kind==15)) else (bif (a0.Kind==29) then Jm (a0,(a0.Kind==29)) else (Jm (a0,(a0.Kind==30))))))
def LD:(aD×Bool)->Option (Int×Int)
  | (a0,y8)=>bif y8 then some (0,6) else (bif (a0.Kind==6) then BX (a0,(a0.Kind==6)) else (bif (a0.Kind==9) then BX (a0,(a0.Kind==9)) else (bif (a0.Kind==10) then BX (a0,(a0.Kind==10)) else (bif (a0.Kind==11) then BX (a0,(a0.Kind==11)) else (bif (a0.Kind==20) then BX (a0,(a0.Kind==20)) else (bif (a0.Kind==32) then BX (a0,(a0.Kind==32)) else (bif (a0.Kind==40) then BX (a0,(a0.Kind==40)) else (BX (a0,(a0.Kind==41))))))))))
def Pj:(aD×Bool)->Option (Int×Int)
  | (a0,y7)=>bif y7 then some (1,6) else (bif (a0.Kind==7) then LD (a0,(a0.Kind==7)) else (bif (a0.Kind==8) then LD (a0,(a0.Kind==8)) else (LD (a0,(a0.Kind==27)))))
def Fg (a0:aD):Option (Int×Int):=
  bif (a0.Kind==5) then Pj (a0,(a0.Kind==5)) else (Pj (a0,(a0.Kind==13)))
def sO:Bool->Option Bool
  | y2=>bif y2 then some true else (some false)
def DK (a0:Int):Option Bool:=
  bif (a0==60) then sO (a0==60) else (bif (a0==57) then sO (a0==57) else (bif (a0==58) then sO (a0==58) else (bif (a0==59) then sO (a0==59) else (bif (a0==55) then sO (a0==55) else (bif (a0==56) then sO (a0==56) else (bif (a0==99) then sO (a0==99) else (bif (a0==63) then sO (a0==63) else (bif (a0==48) then sO (a0==48) else (bif (a0==47) then sO (a0==47) else (bif (a0==50) then sO (a0==50) else (bif (a0==62) then sO (a0==62) else (bif (a0==49) then sO (a0==49) else (bif (a0==67) then sO (a0==67) else (bif (a0==46) then sO (a0==46) else (bif (a0==45) then sO (a0==45) else (sO<|a0==44))))))))))))))))
def BZ (a0:Int):Option Bool:=
  (bif (a0==54) then some true else ((oG a0 38 43).bind fun r3=>some r3)).bind fun y2=>some y2
def Pk:(aD×Bool)->Option Bool
  | (a0,y13)=>bif y13 then (bif (a0.Op==51) then some true else (some<|a0.Op==52)).bind fun oV=>some oV else (bif (a0.Kind==11) then (bif (a0.Op==55) then some true else (bif (a0.Op==56) then some true else (some<|a0.Op==61))).bind fun fF=>some fF else (bif (a0.Kind==12) then (DK a0.Op).bind fun uQ=>some uQ else (bif (a0.Kind==15) then (BZ a0.Op).bind fun dI=>some dI else (bif (a0.Kind==21) then (oG a0.Op 0 1).bind fun oW=>some oW else (bif (a0.Kind==42) then (oG a0.Op 1 3).bind fun qI=>some qI else (bif (a0.Kind==43) then (bif (a0.Op==1) then some true else (some<|a0.Op==3)).bind fun y24=>some y24 else (some<|a0.Op==0)))))))
def DL (a0:aD):Option Bool:=
  bif (a0.Kind==9) then Pk (a0,(a0.Kind==9)) else (Pk (a0,(a0.Kind==10)))
def TM (a0:Int):Option Bool:=
  ((oG a0 97 122).bind fun r4=>bif r4 then some true else ((oG a0 65 90).bind fun r5=>bif r5 then some true else (some<|a0==95))).bind fun y3=>some y3
def TP (a0:Int):Option Bool:=
  (oG a0 48 57).bind fun r2=>some r2
def Xl (a0:Int):Option Bool:=
  ((TM a0).bind fun r4=>bif r4 then some true else ((TP a0).bind fun r5=>some r5)).bind fun y3=>some y3
def LG (N:Nat):Nat->(LU×Int)->Option Bool
  | 0,_=>none
  | n1+1,(a0,jy)=>bif (decide<|jy < (a0.length:Int)) then (ix a0 jy).bind fun Pm=>(Xl<|IntKind.wrap .i64 ((Pm).toNat:Int)).bind fun vS=>bif (!vS) then some false else ((LG N n1) (a0,(IntKind.wrap .i64<|jy+1))) else (((oG (a0.length:Int) 1 12).bind fun LH=>bif LH then (ix a0 0).bind fun Pn=>(TM<|IntKind.wrap .i64 ((Pn).toNat:Int)).bind fun eP=>some eP else (some false)).bind fun DC=>some DC)
def Xm (N:Nat) (a0:LU):Option Bool:=
  LG N N (a0,0)
def Xn:Option lZ:=
  some [[66,69,71,73,78],[69,78,68],[102,117,110,99,116,105,111,110],[105,102],[101,108,115,101],[119,104,105,108,101],[102,111,114],[100,111],[98,114,101,97,107],[99,111,110,116,105,110,117,101],[110,101,120,116],[101,120,105,116],[114,101,116,117,114,110],[100,101,108,101,116,101],[105,110],[112,114,105,110,116],[112,114,105,110,116,102]]
def Po (N:Nat):Nat->(lZ×LU×Int)->Option Int
  | 0,_=>none
  | n1+1,(a0,a1,gW)=>bif (decide<|gW < (a0.length:Int)) then (ix a0 gW).bind fun e28=>bif (e28==a1) then some gW else ((Po N n1) (a0,a1,(IntKind.wrap .i64<|gW+1))) else (some<|-1)
def Xo (N:Nat) (a0:lZ) (a1:LU):Option Int:=
  Po N N (a0,a1,0)
def Xp (N:Nat) (a0:LU):Option Int:=
  Option.bind Xn fun r3=>(Xo N r3 a0).bind fun r4=>bif (decide<|r4 < 0) then some 0 else (some<|IntKind.wrap .i64<|10+r4)
def acK:Option lZ:=
  some [[97,116,97,110,50],[99,108,111,115,101],[99,111,115],[101,120,112],[103,115,117,98],[105,110,100,101,120],[105,110,116],[108,101,110,103,116,104],[108,111,103],[109,97,116,99,104],[114,97,110,100],[115,105,110],[115,112,108,105,116],[115,112,114,105,110,116,102],[115,113,114,116],[115,114,97,110,100],[115,117,98],[115,117,98,115,116,114],[115,121,115,116,101,109],[116,111,108,111,119,101,114],[116,111,117,112,112,101,114]]
def Jo (N:Nat) (a0:LU):Option Bool:=
  Option.bind acK fun r3=>(Xo N r3 a0).bind fun r4=>some (decide<|r4>=0)
def Ca (N:Nat) (a0:LU):Option Bool:=
  ((Xm N a0).bind fun r5=>bif r5 then (Xp N a0).bind fun r6=>bif (r6==0) then (Jo N a0).bind fun r7=>some (!r7) else (some false) else (some false)).bind fun y4=>some y4
def Pp (N:Nat):Nat->(LU×Int)->Option Bool
  | 0,_=>none
  | n1+1,(a0,gW)=>bif (decide<|gW < (a0.length:Int)) then (ix a0 gW).bind fun b28=>bif (((b28).toNat:Int)==10) then some false else ((Pp N n1) (a0,(IntKind.wrap .i64<|gW+1))) else (some true)
def TQ (N:Nat) (a0:LU):Option Bool:=
  Pp N N (a0,0)
def DN (a0:LU) (a1:Int):Option Int:=
  (bif (decide<|a1 < 0) then some true else (some<|decide<|a1>=(a0.length:Int))).bind fun y2=>bif y2 then some (-1) else ((ix a0 a1).bind fun b4=>some<|IntKind.wrap .i64 ((b4).toNat:Int))
def Pq (N:Nat):Nat->(LU×Int)->Option Int
  | 0,_=>none
  | n1+1,(a0,a1)=>(DN a0 a1).bind fun dZ=>(TP dZ).bind fun iN=>bif iN then (Pq N n1) (a0,(IntKind.wrap .i64<|a1+1)) else (some a1)
def Pt (N:Nat) (a0:LU) (a1:Int):Option Int:=
  Pq N N (a0,a1)
def Xq (N:Nat):Int->Option Int
  | y9=>some y9
def TR (N:Nat):(LU×Int×Int)->Option Int
  | (a0,y9,qy)=>(Pt N a0 qy).bind fun sP=>bif (decide<|sP > qy) then (Pt N a0 qy).bind fun vU=>some vU else (Xq N y9)
def TS (N:Nat):(LU×Int×Int)->Option Int
  | (a0,a1,y9)=>bif (y9==a1) then some (-1) else (((DN a0 y9).bind fun dZ=>bif (dZ==101) then some true else ((DN a0 y9).bind fun iN=>some<|iN==69)).bind fun y32=>bif y32 then ((DN a0<|IntKind.wrap .i64<|y9+1).bind fun fM=>bif (fM==43) then some true else ((DN a0<|IntKind.wrap .i64<|y9+1).bind fun eX=>some<|eX==45)).bind fun sG=>bif sG then TR N (a0,y9,(IntKind.wrap .i64<|(IntKind.wrap .i64<|y9+1)+1)) else (TR N (a0,y9,(IntKind.wrap .i64<|y9+1))) else (Xq N y9))
def LJ (N:Nat) (a0:LU) (a1:Int):Option Int:=
  bif (decide<|a1 < 0) then some (-1) else ((Pt N a0 a1).bind fun r2=>(DN a0 r2).bind fun r51=>bif (r51==46) then (Pt N a0<|IntKind.wrap .i64<|r2+1).bind fun lF=>(bif (r2==a1) then some (lF==(IntKind.wrap .i64<|r2+1)) else (some false)).bind fun Pv=>bif Pv then some (-1) else (TS N (a0,a1,lF)) else (TS N (a0,a1,r2)))
def TT (N:Nat) (gJ:(LU×Int×Int)->Option Int):(LU×Int×Int)->Option Int
  | (a0,a2,Jp)=>gJ (a0,a2,(IntKind.wrap .i64<|Jp+1))
def Jq (N:Nat):Nat->(LU×Int×Int)->Option Int
  | 0,_=>none
  | n1+1,(a0,a2,uf)=>bif (decide<|uf < (a0.length:Int)) then (ix a0 uf).bind fun b60=>bif ((IntKind.wrap .i64 ((b60).toNat:Int))==a2) then some (IntKind.wrap .i64<|uf+1) else (bif ((IntKind.wrap .i64 ((b60).toNat:Int))==10) then some (-1) else (bif ((IntKind.wrap .i64 ((b60).toNat:Int))==92) then (DN a0<|IntKind.wrap .i64<|uf+1).bind fun Xr=>bif (Xr==10) then some (-1) else (TT N (Jq N n1) (a0,a2,(IntKind.wrap .i64<|uf+1))) else (TT N (Jq N n1) (a0,a2,uf)))) else (some<|-1)
def TU (N:Nat) (a0:LU) (a1:Int) (a2:Int):Option Int:=
  (DN a0 a1).bind fun r4=>bif (r4 !=a2) then some (-1) else (Jq N N (a0,a2,(IntKind.wrap .i64<|a1+1)))
def LK (N:Nat) (a0:LU) (a1:Int):Option Int:=
  (TU N a0 a1 34).bind fun r2=>some r2
def LM (N:Nat) (a0:LU) (a1:Int):Option Int:=
  (TU N a0 a1 47).bind fun r2=>bif (r2==(IntKind.wrap .i64<|a1+2)) then some (-1) else (some r2)
def acM:Option lZ:=
  some [[123],[125],[40],[41],[91],[93],[44],[59],[43,61],[45,61],[42,61],[47,61],[37,61],[94,61],[124,124],[38,38],[33,126],[61,61],[60,61],[62,61],[33,61],[43,43],[45,45],[62,62],[61],[43],[45],[42],[47],[37],[94],[33],[62],[60],[124],[63],[58],[126],[36]]
def GX (a0:Int):Option LU:=
  bif (a0==1) then some [10] else ((oG a0 10 26).bind fun cZ=>bif cZ then Option.bind Xn fun uQ=>(ix uQ<|IntKind.wrap .i64<|a0 - 10).bind fun e18=>some e18 else ((oG a0 30 68).bind fun iq=>bif iq then Option.bind acM fun qI=>(ix qI<|IntKind.wrap .i64<|a0 - 30).bind fun e24=>some e24 else (some [])))
def zq (N:Nat):(aG×Bool)->Option Bool
  | (a0,pY)=>bif pY then (Ca N a0.Text).bind fun r32=>some r32 else (bif (a0.Kind==8) then (Jo N a0.Text).bind fun iN=>some iN else ((bif (!(a0.Text==[])) then (GX a0.Kind).bind fun fU=>some (fU==a0.Text) else (some false)).bind fun Pw=>some Pw))
def rG (N:Nat) (a0:aG):Option Bool:=
  bif (a0.Kind==2) then (bif (decide<|(a0.Text.length:Int) > 0) then (ix a0.Text 0).bind fun b21=>bif (((b21).toNat:Int)==35) then (TQ N a0.Text).bind fun dH=>some dH else (some false) else (some false)).bind fun y20=>some y20 else (bif (a0.Kind==3) then (bif (decide<|(a0.Text.length:Int) > 0) then (LJ N a0.Text 0).bind fun Fh=>some (Fh==(a0.Text.length:Int)) else (some false)).bind fun y24=>some y24 else (bif (a0.Kind==4) then (LK N a0.Text 0).bind fun qA=>some (qA==(a0.Text.length:Int)) else (bif (a0.Kind==5) then (LM N a0.Text 0).bind fun qB=>some (qB==(a0.Text.length:Int)) else (bif (a0.Kind==6) then zq N (a0,(a0.Kind==6)) else (zq N (a0,(a0.Kind==7)))))))
def DR (N:Nat):(aD×Bool)->Option Bool
  | (a0,nD)=>bif nD then ((Ca N a0.Text).bind fun qB=>bif qB then some (a0.Other==[]) else (some false)).bind fun y28=>some y28 else (bif (a0.Kind==2) then ((rG N (⟨3,a0.Text,0⟩:aG)).bind fun r32=>bif r32 then some (a0.Other==[]) else (some false)).bind fun y31=>some y31 else (bif (a0.Kind==3) then ((rG N (⟨4,a0.Text,0⟩:aG)).bind fun dJ=>bif dJ then some (a0.Other==[]) else (some false)).bind fun y34=>some y34 else (bif (a0.Kind==4) then ((rG N (⟨5,a0.Text,0⟩:aG)).bind fun jD=>bif jD then some (a0.Other==[]) else (some false)).bind fun sF=>some sF else (bif (a0.Kind==34) then ((rG N (⟨2,a0.Text,0⟩:aG)).bind fun lQ=>bif lQ then some (a0.Other==[]) else (some false)).bind fun qy=>some qy else (bif (a0.Kind==8) then ((Jo N a0.Text).bind fun vU=>bif vU then some (a0.Other==[]) else (some false)).bind fun uf=>some uf else (bif (a0.Kind==32) then ((Ca N a0.Text).bind fun fM=>bif fM then (Ca N a0.Other).bind fun eX=>some eX else (some false)).bind fun sG=>some sG else (bif (a0.Kind==21) then (bif (a0.Text==[]) then bif (a0.Other==[]) then some true else (bif (a0.Other==[62]) then some true else (bif (a0.Other==[62,62]) then some true else (some<|a0.Other==[124]))) else (some false)).bind fun y50=>some y50 else ((bif (a0.Text==[]) then some (a0.Other==[]) else (some false)).bind fun Xt=>some Xt))))))))
def TV (N:Nat) (a0:aD):Option Bool:=
  bif (a0.Kind==1) then DR N (a0,(a0.Kind==1)) else (bif (a0.Kind==5) then DR N (a0,(a0.Kind==5)) else (bif (a0.Kind==7) then DR N (a0,(a0.Kind==7)) else (bif (a0.Kind==13) then DR N (a0,(a0.Kind==13)) else (bif (a0.Kind==27) then DR N (a0,(a0.Kind==27)) else (DR N (a0,(a0.Kind==44)))))))
def yu (N:Nat) (a0:aD):Option Bool:=
  (Fg a0).bind fun r2=>((oG a0.Kind 1 16).bind fun r7=>bif r7 then some true else ((oG a0.Kind 20 34).bind fun r8=>bif r8 then some true else ((oG a0.Kind 40 45).bind fun r9=>some r9))).bind fun y6=>(bif y6 then (DL a0).bind fun cZ=>bif cZ then (TV N a0).bind fun eY=>bif eY then (oG (a0.Kids.length:Int) r2.1 r2.2).bind fun r16=>some r16 else (some false) else (some false) else (some false)).bind fun y13=>some y13
def GY (a0:Int):Option Bool:=
  (bif (a0==1) then some true else (bif (a0==5) then some true else (some<|a0==6))).bind fun y1=>some y1
def qb (a0:Int):Option Bool:=
  (oG a0 1 15).bind fun r2=>some r2
def Px (a0:Int):Option Bool:=
  (oG a0 20 34).bind fun r2=>some r2
def yw:(Int×Int×aD×Bool)->Option Bool
  | (a1,a2,a0,Cb)=>bif Cb then some (a2==33) else (bif (a0.Kind==33) then (Px a2).bind fun BP=>some BP else (bif (a0.Kind==42) then (bif (a0.Op==1) then (qb a2).bind fun vR=>bif vR then some true else (bif (a0.Op==2) then bif (a2==33) then some true else (bif (a0.Op==3) then bif (a1==(IntKind.wrap .i64<|(a0.Kids.length:Int) - 1)) then bif (a2==33) then some true else (bif (!(a1==(IntKind.wrap .i64<|(a0.Kids.length:Int) - 1))) then (qb a2).bind fun oU=>some oU else (some false)) else (bif (!(a1==(IntKind.wrap .i64<|(a0.Kids.length:Int) - 1))) then (qb a2).bind fun kZ=>some kZ else (some false)) else (some false)) else (bif (a0.Op==3) then bif (a1==(IntKind.wrap .i64<|(a0.Kids.length:Int) - 1)) then bif (a2==33) then some true else (bif (!(a1==(IntKind.wrap .i64<|(a0.Kids.length:Int) - 1))) then (qb a2).bind fun oQ=>some oQ else (some false)) else (bif (!(a1==(IntKind.wrap .i64<|(a0.Kids.length:Int) - 1))) then (qb a2).bind fun Jh=>some Jh else (some false)) else (some false))) else (bif (a0.Op==2) then bif (a2==33) then some true else (bif (a0.Op==3) then bif (a1==(IntKind.wrap .i64<|(a0.Kids.length:Int) - 1)) then bif (a2==33) then some true else (bif (!(a1==(IntKind.wrap .i64<|(a0.Kids.length:Int) - 1))) then (qb a2).bind fun GZ=>some GZ else (some false)) else (bif (!(a1==(IntKind.wrap .i64<|(a0.Kids.length:Int) - 1))) then (qb a2).bind fun r93=>some r93 else (some false)) else (some false)) else (bif (a0.Op==3) then bif (a1==(IntKind.wrap .i64<|(a0.Kids.length:Int) - 1)) then bif (a2==33) then some true else (bif (!(a1==(IntKind.wrap .i64<|(a0.Kids.length:Int) - 1))) then (qb a2).bind fun xA=>some xA else (some false)) else (bif (!(a1==(IntKind.wrap .i64<|(a0.Kids.length:Int) - 1))) then (qb a2).bind fun xB=>some xB else (some false)) else (some false)))).bind fun mO=>some mO else (bif (a0.Kind==43) then (bif (decide<|a1 < 2) then (qb a2).bind fun rD=>bif rD then some true else (bif (a1==2) then some (a2==33) else (some false)) else (bif (a1==2) then some (a2==33) else (some false))).bind fun y97=>some y97 else (bif (a0.Kind==44) then (bif (a1==(IntKind.wrap .i64<|(a0.Kids.length:Int) - 1)) then bif (a2==33) then some true else (bif (!(a1==(IntKind.wrap .i64<|(a0.Kids.length:Int) - 1))) then some (a2==1) else (some false)) else (bif (!(a1==(IntKind.wrap .i64<|(a0.Kids.length:Int) - 1))) then some (a2==1) else (some false))).bind fun y99=>some y99 else (bif (a0.Kind==45) then ((oG a2 40 44).bind fun WT=>bif WT then some true else (some<|a2==34)).bind fun y101=>some y101 else ((qb a2).bind fun uP=>some uP))))))
def rH:(Int×Int×aD×Bool)->Option Bool
  | (a1,a2,a0,Ox)=>bif Ox then (GY a2).bind fun gK=>some gK else (bif (a0.Kind==15) then ((qb a2).bind fun kR=>bif kR then bif (decide<|a1 > 0) then some true else ((GY a2).bind fun eP=>some eP) else (some false)).bind fun Lf=>some Lf else (bif (a0.Kind==28) then (bif (a1==0) then (qb a2).bind fun Xr=>bif Xr then some true else (bif (decide<|a1 > 0) then some (a2==33) else (some false)) else (bif (decide<|a1 > 0) then some (a2==33) else (some false))).bind fun jR=>some jR else (bif (a0.Kind==29) then (bif (a1==0) then (qb a2).bind fun uO=>bif uO then some true else (bif (a1==1) then some (a2==33) else (some false)) else (bif (a1==1) then some (a2==33) else (some false))).bind fun lD=>some lD else (bif (a0.Kind==30) then (bif (a1==0) then bif (a2==33) then some true else (bif (a1==1) then (qb a2).bind fun AA=>some AA else (some false)) else (bif (a1==1) then (qb a2).bind fun GU=>some GU else (some false))).bind fun y68=>some y68 else (bif (a0.Kind==31) then (bif (decide<|a1 < 3) then (qb a2).bind fun BQ=>bif BQ then some true else (bif (a2==16) then some true else (bif (a1==3) then some (a2==33) else (some false))) else (bif (a1==3) then some (a2==33) else (some false))).bind fun xu=>some xu else (bif (a0.Kind==32) then yw (a1,a2,a0,(a0.Kind==32)) else (bif (a0.Kind==40) then yw (a1,a2,a0,(a0.Kind==40)) else (yw (a1,a2,a0,(a0.Kind==41))))))))))
def oH (a0:aD) (a1:Int) (a2:Int):Option Bool:=
  bif (a0.Kind==9) then rH (a1,a2,a0,(a0.Kind==9)) else (rH (a1,a2,a0,(a0.Kind==10)))
def Cc (N:Nat) (gJ:(LN×Int)->Option Bool):Nat->(LN×Int×Int)->Option Bool
  | 0,_=>none
  | n2+1,(a0,vV,Jr)=>(ix a0 vV).bind fun ahh=>bif (decide<|Jr < (ahh.Kids.length:Int)) then (ix a0 vV).bind fun ahi=>(ix a0 vV).bind fun aoC=>(ix aoC.Kids Jr).bind fun aoD=>(ix a0 aoD).bind fun ahj=>(oH ahi Jr ahj.Kind).bind fun aoE=>bif (!aoE) then some false else ((Cc N gJ n2) (a0,vV,(IntKind.wrap .i64<|Jr+1))) else (gJ (a0,(IntKind.wrap .i64<|vV+1)))
def uR (N:Nat):Nat->(LN×Int)->Option Bool
  | 0,_=>none
  | n1+1,(a0,vV)=>bif (decide<|vV < (a0.length:Int)) then (ix a0 vV).bind fun ahk=>(yu N ahk).bind fun aoF=>bif (!aoF) then some false else (Cc N (uR N n1) N (a0,vV,0)) else (some true)
def tN (N:Nat) (a0:LN):Option Bool:=
  ((IB N a0).bind fun r9=>bif (!r9) then some true else ((Pb N a0).bind fun bF=>some<|decide<|bF > 40)).bind fun y8=>bif y8 then some false else (uR N N (a0,0))
def Fp (N:Nat) (a0:LN):Option Bool:=
  ((tN N a0).bind fun r5=>bif r5 then (ix a0<|IntKind.wrap .i64<|(a0.length:Int) - 1).bind fun e6=>(qb e6.Kind).bind fun r7=>some r7 else (some false)).bind fun y4=>some y4
def He (a0:aF):Option Bool:=
  ((oG a0.Level 1 15).bind fun r3=>bif r3 then bif (!a0.nU) then some true else (some<|a0.Level==14) else (some false)).bind fun y2=>some y2
def Py:(Int×Bool)->Option Int
  | (a0,y8)=>bif y8 then some 10 else (bif (a0==60) then some 12 else (some 0))
def TW:(Int×Bool)->Option Int
  | (a0,y7)=>bif y7 then some 9 else (bif (a0==57) then Py (a0,(a0==57)) else (bif (a0==58) then Py (a0,(a0==58)) else (Py (a0,(a0==59)))))
def Hf:(Int×Bool)->Option Int
  | (a0,y6)=>bif y6 then some 7 else (bif (a0==99) then some 8 else (bif (a0==55) then TW (a0,(a0==55)) else (TW (a0,(a0==56)))))
def TY:(Int×Bool)->Option Int
  | (a0,y5)=>bif y5 then some 6 else (bif (a0==63) then Hf (a0,(a0==63)) else (bif (a0==48) then Hf (a0,(a0==48)) else (bif (a0==47) then Hf (a0,(a0==47)) else (bif (a0==50) then Hf (a0,(a0==50)) else (bif (a0==62) then Hf (a0,(a0==62)) else (Hf (a0,(a0==49))))))))
def Fq (a0:Int):Option Int:=
  bif (a0==44) then some 3 else (bif (a0==45) then some 4 else (bif (a0==67) then TY (a0,(a0==67)) else (TY (a0,(a0==46)))))
def Hg:Bool->Option Int
  | y8=>bif y8 then some 15 else (some 0)
def Xu:(aD×Bool)->Option Int
  | (a0,y7)=>bif y7 then some 13 else (bif (a0.Kind==6) then some 14 else (bif (a0.Kind==1) then Hg (a0.Kind==1) else (bif (a0.Kind==2) then Hg (a0.Kind==2) else (bif (a0.Kind==3) then Hg (a0.Kind==3) else (bif (a0.Kind==4) then Hg (a0.Kind==4) else (bif (a0.Kind==5) then Hg (a0.Kind==5) else (bif (a0.Kind==7) then Hg (a0.Kind==7) else (Hg<|a0.Kind==8))))))))
def LP (a0:aD):Option Int:=
  bif (a0.Kind==15) then some 1 else (bif (a0.Kind==14) then some 2 else (bif (a0.Kind==13) then some 5 else (bif (a0.Kind==12) then (Fq a0.Op).bind fun r6=>some r6 else (bif (a0.Kind==11) then some 11 else (bif (a0.Kind==9) then Xu (a0,(a0.Kind==9)) else (Xu (a0,(a0.Kind==10))))))))
def Ua (a0:aD) (a1:aF):Option Bool:=
  ((He a1).bind fun jI=>bif (!jI) then some true else ((LP a0).bind fun cZ=>some<|cZ==0)).bind fun jm=>bif jm then some false else ((bif a1.aX then some (a0.Kind==13) else (some false)).bind fun fF=>bif fF then some false else ((bif a1.bg then bif (a0.Kind==12) then some (a0.Op==62) else (some false) else (some false)).bind fun nH=>bif nH then some false else ((bif a1.eH then bif (a0.Kind==11) then some true else (bif (a0.Kind==9) then some true else (some<|a0.Kind==4)) else (some false)).bind fun jZ=>bif jZ then some false else ((bif a1.nU then some (a0.Kind==9) else (some false)).bind fun qC=>bif qC then some true else ((LP a0).bind fun iq=>some<|decide<|iq>=a1.Level)))))
def ahl (a0:aD):Option aG:=
  bif (a0.Kind==1) then some (⟨6,a0.Text,0⟩:aG) else (bif (a0.Kind==2) then some (⟨3,a0.Text,0⟩:aG) else (bif (a0.Kind==3) then some (⟨4,a0.Text,0⟩:aG) else (bif (a0.Kind==4) then some (⟨5,a0.Text,0⟩:aG) else (some (⟨0,[],0⟩:aG)))))
def lg (a0:Int):Option aG:=
  (GX a0).bind fun r2=>some (⟨a0,r2,0⟩:aG)
def Uc (a0:Int):Option (Int×Int):=
  (Fq a0).bind fun r4=>bif (r4==3) then some (3,4) else (bif (r4==4) then some (4,5) else (bif (r4==6) then some (7,7) else (bif (r4==7) then some (8,8) else (bif (r4==8) then some (8,9) else (bif (r4==9) then some (9,10) else (bif (r4==10) then some (10,11) else (some (13,11))))))))
def DT:(aF×Int×Bool×Bool)->Option aF
  | (a2,y25,nD,y27)=>some (⟨y25,nD,a2.aX,a2.bg,y27⟩:aF)
def Ud:(aD×aF×Bool×Bool)->Option aF
  | (a0,a2,fF,y34)=>bif y34 then DT (a2,14,false,false) else (bif (a0.Kind==6) then DT (a2,14,true,false) else (Option.bind qY fun iW=>some iW))
def fO (a0:aD) (a1:Int) (a2:aF):Option aF:=
  ((He a2).bind fun dz=>bif (!dz) then some true else ((oG a1 0<|IntKind.wrap .i64<|(a0.Kids.length:Int) - 1).bind fun jI=>bif (!jI) then some true else ((LP a0).bind fun cZ=>some<|cZ==0))).bind fun dF=>bif dF then some (⟨0,false,false,false,false⟩:aF) else ((bif a2.eH then some (a1==0) else (some false)).bind fun fF=>bif (a0.Kind==15) then bif (decide<|a1 > 0) then DT (a2,1,false,fF) else (DT (a2,14,false,fF)) else (bif (a0.Kind==14) then bif (a1==0) then DT (a2,3,false,fF) else (DT (a2,2,false,fF)) else (bif (a0.Kind==13) then bif (decide<|(a0.Kids.length:Int) > 1) then Option.bind qY fun oZ=>some oZ else (DT (a2,5,false,fF)) else (bif (a0.Kind==12) then (Uc a0.Op).bind fun dZ=>bif (decide<|a1 > 0) then DT (a2,dZ.2,false,(a0.Op==99)) else (DT (a2,dZ.1,false,fF)) else (bif (a0.Kind==11) then DT (a2,11,false,false) else (bif (a0.Kind==9) then Ud (a0,a2,fF,(a0.Kind==9)) else (Ud (a0,a2,fF,(a0.Kind==10)))))))))
structure vW where
  Ue:jw->aD->aF->Option LT
  AJ:jw->Int->Option LT
  DU:jw->(List Int)->Option LT
  Fu:jw->aG->(List Int)->Int->Option LT
  xC:jw->Int->aF->Option LT
  iG:jw->Int->aF->Option LT
def LQ (N:Nat) (R:vW):(jw×aD×aF×LT)->Option LT
  | (a0,a1,a2,qK)=>(ix a1.Kids 1).bind fun e64=>(fO a1 1 a2).bind fun uO=>(R.iG a0 e64 uO).bind fun zm=>(app 32 qK zm).bind fun x67=>some x67
def ahm (N:Nat) (R:vW) (a0:jw) (a1:aD) (a2:aF):Option LT:=
  (ix a1.Kids 0).bind fun e4=>(fO a1 0 a2).bind fun r5=>(R.iG a0 e4 r5).bind fun r6=>bif (a1.Kind==14) then (lg 65).bind fun dZ=>(app 32 r6 [dZ]).bind fun x34=>(ix a1.Kids 1).bind fun e39=>(fO a1 1 a2).bind fun mh=>(R.iG a0 e39 mh).bind fun lQ=>(app 32 x34 lQ).bind fun x42=>(lg 66).bind fun zu=>(app 32 x42 [zu]).bind fun x46=>(ix a1.Kids 2).bind fun e51=>(fO a1 2 a2).bind fun vS=>(R.iG a0 e51 vS).bind fun lF=>(app 32 x46 lF).bind fun x54=>some x54 else (bif (a1.Op !=99) then (lg a1.Op).bind fun GU=>(app 32 r6 [GU]).bind fun Xv=>LQ N R (a0,a1,a2,Xv) else (LQ N R (a0,a1,a2,r6)))
def ahn (N:Nat) (R:vW) (a0:jw) (a1:Int):Option LT:=
  (R.xC a0 a1 (⟨14,false,false,false,false⟩:aF)).bind fun r2=>some r2
def Uf (N:Nat) (R:vW) (gJ:((List Int)×jw×Int×LT)->Option LT):((List Int)×Int×jw×LT)->Option LT
  | (a1,tV,a0,acQ)=>(ix a1 tV).bind fun e169=>Option.bind qY fun aho=>(R.iG a0 e169 aho).bind fun Xw=>(app 32 acQ Xw).bind fun Pz=>gJ (a1,a0,(IntKind.wrap .i64<|tV+1),Pz)
def DV (N:Nat) (R:vW):Nat->((List Int)×jw×Int×LT)->Option LT
  | 0,_=>none
  | n1+1,(a1,a0,tV,Ce)=>bif (decide<|tV < (a1.length:Int)) then bif (decide<|tV > 0) then (lg 36).bind fun aoH=>(app 32 Ce [aoH]).bind fun ahp=>Uf N R (DV N R n1) (a1,tV,a0,ahp) else (Uf N R (DV N R n1) (a1,tV,a0,Ce)) else (some Ce)
def ahq (N:Nat) (R:vW) (a0:jw) (a1:List Int):Option LT:=
  DV N R N (a1,a0,0,[])
def ahr (N:Nat) (R:vW) (a0:jw) (a1:aG) (a2:List Int) (a3:Int):Option LT:=
  (lg a3).bind fun r4=>(R.DU a0 a2).bind fun r5=>(app 32 [a1,r4] r5).bind fun x6=>(lg<|IntKind.wrap .i64<|a3+1).bind fun r9=>(app 32 x6 [r9]).bind fun x10=>some x10
def LV (N:Nat) (R:vW):(aD×LT)->Option LT
  | (e2,y168)=>(lg 24).bind fun Xw=>(app 32 y168 [Xw,(⟨6,e2.Text,0⟩:aG)]).bind fun Pz=>some Pz
def Xx (N:Nat) (R:vW) (a0:jw) (a1:Int) (a2:aF):Option LT:=
  (ix a0.l a1).bind fun e2=>(ahl e2).bind fun r4=>bif (r4.Kind !=0) then some [r4] else (bif (e2.Kind==5) then (R.Fu a0 (⟨6,e2.Text,0⟩:aG) e2.Kids 34).bind fun xB=>some xB else (bif (e2.Kind==7) then (R.Fu a0 (⟨7,e2.Text,0⟩:aG) e2.Kids 32).bind fun Hl=>some Hl else (bif (e2.Kind==8) then (R.Fu a0 (⟨8,e2.Text,0⟩:aG) e2.Kids 32).bind fun Cg=>some Cg else (bif (e2.Kind==9) then (lg e2.Op).bind fun uP=>(ix e2.Kids 0).bind fun Fv=>(R.AJ a0 Fv).bind fun qJ=>(app 32 [uP] qJ).bind fun x107=>some x107 else (bif (e2.Kind==10) then (ix e2.Kids 0).bind fun Xy=>(R.AJ a0 Xy).bind fun mg=>(lg e2.Op).bind fun sJ=>(app 32 mg [sJ]).bind fun x115=>some x115 else (bif (e2.Kind==15) then (ix e2.Kids 0).bind fun e120=>(R.AJ a0 e120).bind fun oD=>(lg e2.Op).bind fun uM=>(app 32 oD [uM]).bind fun acR=>(ix e2.Kids 1).bind fun e128=>(fO e2 1 a2).bind fun qz=>(R.iG a0 e128 qz).bind fun yj=>(app 32 acR yj).bind fun acS=>some acS else (bif (e2.Kind==6) then (lg 68).bind fun BR=>(ix e2.Kids 0).bind fun e138=>(fO e2 0 a2).bind fun ko=>(R.iG a0 e138 ko).bind fun Ug=>(app 32 [BR] Ug).bind fun Uh=>some Uh else (bif (e2.Kind==11) then (lg e2.Op).bind fun aoI=>(ix e2.Kids 0).bind fun ahs=>(fO e2 0 a2).bind fun DJ=>(R.iG a0 ahs DJ).bind fun Fb=>(app 32 [aoI] Fb).bind fun x151=>some x151 else (bif (e2.Kind==13) then (ix e2.Kids 0).bind fun Xz=>(fO e2 0 a2).bind fun XA=>(R.iG a0 Xz XA).bind fun XB=>bif (decide<|(e2.Kids.length:Int) > 1) then (lg 32).bind fun acT=>(R.DU a0 e2.Kids).bind fun acU=>(app 32 [acT] acU).bind fun acV=>(lg 33).bind fun acW=>(app 32 acV [acW]).bind fun XC=>LV N R (e2,XC) else (LV N R (e2,XB)) else ((R.Ue a0 e2 a2).bind fun Ui=>some Ui))))))))))
def XD (N:Nat) (R:vW) (a0:jw) (a1:Int) (a2:aF):Option LT:=
  ((ix a0.l a1).bind fun e11=>(Ua e11 a2).bind fun dz=>bif dz then some (!a0.full) else (some false)).bind fun kg=>bif kg then (R.xC a0 a1 a2).bind fun cZ=>some cZ else ((bif a0.full then (ix a0.l a1).bind fun e28=>(LP e28).bind fun qB=>bif (qB==15) then (ix a0.l a1).bind fun e30=>some (e30.Kind !=4) else (some false) else (some false)).bind fun y27=>bif y27 then (R.xC a0 a1 a2).bind fun r32=>some r32 else ((lg 32).bind fun fU=>Option.bind qY fun jD=>(R.xC a0 a1 jD).bind fun DW=>(app 32 [fU] DW).bind fun x40=>(lg 33).bind fun Fe=>(app 32 x40 [Fe]).bind fun Jj=>some Jj))
def dS:Nat->vW
  | 0=>⟨fun _ _ _=>none,fun _ _=>none,fun _ _=>none,fun _ _ _ _=>none,fun _ _ _=>none,fun _ _ _=>none⟩
  | N+1=>⟨fun a0 a1 a2=>ahm N (dS N) a0 a1 a2,fun a0 a1=>ahn N (dS N) a0 a1,fun a0 a1=>ahq N (dS N) a0 a1,fun a0 a1 a2 a3=>ahr N (dS N) a0 a1 a2 a3,fun a0 a1 a2=>Xx N (dS N) a0 a1 a2,fun a0 a1 a2=>XD N (dS N) a0 a1 a2⟩
def Ue (N:Nat) (a0:jw) (a1:aD) (a2:aF):Option LT:=(dS N).Ue a0 a1 a2
def AJ (N:Nat) (a0:jw) (a1:Int):Option LT:=(dS N).AJ a0 a1
def DU (N:Nat) (a0:jw) (a1:List Int):Option LT:=(dS N).DU a0 a1
def Fu (N:Nat) (a0:jw) (a1:aG) (a2:List Int) (a3:Int):Option LT:=(dS N).Fu a0 a1 a2 a3
def xC (N:Nat) (a0:jw) (a1:Int) (a2:aF):Option LT:=(dS N).xC a0 a1 a2
def iG (N:Nat) (a0:jw) (a1:Int) (a2:aF):Option LT:=(dS N).iG a0 a1 a2
def CX (N:Nat) (a0:LN) (a1:aF):Option LT:=
  ((Fp N a0).bind fun dz=>bif (!dz) then some true else ((He a1).bind fun jI=>bif (!jI) then some true else ((ix a0<|IntKind.wrap .i64<|(a0.length:Int) - 1).bind fun e14=>some<|e14.Kind==16))).bind fun dF=>bif dF then some [] else ((iG N (⟨a0,false⟩:jw) (IntKind.wrap .i64<|(a0.length:Int) - 1) a1).bind fun r16=>some r16)
def NC (N:Nat) (a0:LU):Option (LN×aF×Int):=
  (aco N a0).bind fun r2=>(Xg N r2.1 r2.2.1 r2.2.2).bind fun r4=>(Xi r2.1 r4.2.1 r4.2.2).bind fun r6=>(CX N r4.1 r6.1).bind fun r9=>(jG (IntKind.wrap .i64<|(r9.length:Int)+3) r2.1 r6.2.1 r6.2.2).bind fun bF=>some (r4.1,r6.1,(IntKind.wrap .i64<|bF.1 - 1))
def rJ (a0:Int) (a1:Int) (a2:Int):Option Bool:=
  (bif (decide<|a0>=a1) then some (decide<|a0<=a2) else (some false)).bind fun y1=>some y1
def LW (N:Nat) (gJ:(LN×Int×(List Int))->Option ((List Int)×Bool)) (a0:LN) (mP:Int) (zw:aD) (uS:List Int):List Int->Int->Option ((List Int)×Bool)
  | [],kT=>(ix uS mP).bind fun ayv=>(upd uS mP<|IntKind.wrap .i64<|kT+1).bind fun acX=>gJ (a0,(IntKind.wrap .i64<|mP+1),acX)
  | e339::aoJ,kT=>(bif (decide<|kT < 0) then some true else (some<|e339 !=kT)).bind fun aht=>bif aht then some ([],false) else ((ix uS e339).bind fun XE=>(LW N gJ a0 mP zw uS aoJ)<|IntKind.wrap .i64<|XE - 1)
def Js (N:Nat):Nat->(LN×Int×(List Int))->Option ((List Int)×Bool)
  | 0,_=>none
  | n1+1,(a0,mP,uS)=>bif (decide<|mP < (a0.length:Int)) then (ix a0 mP).bind fun zw=>LW N (Js N n1) a0 mP zw uS (zw.Kids.reverse) (IntKind.wrap .i64<|mP - 1) else ((ix uS<|IntKind.wrap .i64<|(a0.length:Int) - 1).bind fun XF=>some (uS,(XF==0)))
def XG (N:Nat) (a0:LN):Option ((List Int)×Bool):=
  (rJ (a0.length:Int) 1 400).bind fun r4=>bif (!r4) then some ([],false) else ((mk 8 0 (a0.length:Int)).bind fun x6=>Js N N (a0,0,x6))
def XH (N:Nat) (a0:LN):Option Bool:=
  (XG N a0).bind fun r2=>some r2.2
def Fw (a0:Int):Option Bool:=
  (rJ a0 1 15).bind fun r2=>some r2
def Uj (a0:Int):Option Bool:=
  (bif (decide<|a0>=97) then bif (decide<|a0<=122) then some true else (bif (decide<|a0>=65) then bif (decide<|a0<=90) then some true else (some<|a0==95) else (some<|a0==95)) else (bif (decide<|a0>=65) then bif (decide<|a0<=90) then some true else (some<|a0==95) else (some<|a0==95))).bind fun y1=>some y1
def Uk (a0:Int):Option Bool:=
  (bif (decide<|a0>=48) then some (decide<|a0<=57) else (some false)).bind fun y1=>some y1
def XI (a0:Int):Option Bool:=
  ((Uj a0).bind fun r4=>bif r4 then some true else ((Uk a0).bind fun r5=>some r5)).bind fun y3=>some y3
def PD (N:Nat):Nat->(LU×Int)->Option Bool
  | 0,_=>none
  | n1+1,(a0,jy)=>bif (decide<|jy < (a0.length:Int)) then (ix a0 jy).bind fun Pm=>(XI<|IntKind.wrap .i64 ((Pm).toNat:Int)).bind fun vS=>bif (!vS) then some false else ((PD N n1) (a0,(IntKind.wrap .i64<|jy+1))) else (((rJ (a0.length:Int) 1 12).bind fun LH=>bif LH then (ix a0 0).bind fun Pn=>(Uj<|IntKind.wrap .i64 ((Pn).toNat:Int)).bind fun eP=>some eP else (some false)).bind fun DC=>some DC)
def acY (N:Nat) (a0:LU):Option Bool:=
  PD N N (a0,0)
def LX (N:Nat):Nat->(lZ×LU×Int)->Option Int
  | 0,_=>none
  | n1+1,(a0,a1,gW)=>bif (decide<|gW < (a0.length:Int)) then (ix a0 gW).bind fun e28=>bif (a1==e28) then some gW else ((LX N n1) (a0,a1,(IntKind.wrap .i64<|gW+1))) else (some<|-1)
def Ul (N:Nat) (a0:lZ) (a1:LU):Option Int:=
  LX N N (a0,a1,0)
def XJ (N:Nat) (a0:LU):Option Int:=
  (Ul N vF a0).bind fun r2=>bif (decide<|r2 < 0) then some 0 else (some<|IntKind.wrap .i64<|10+r2)
def PE (N:Nat) (a0:lZ) (a1:LU):Option Bool:=
  (Ul N a0 a1).bind fun r2=>some (decide<|r2>=0)
def PG (N:Nat) (a0:LU):Option Bool:=
  (PE N Ag a0).bind fun r2=>some r2
def DX (N:Nat) (a0:LU):Option Bool:=
  ((acY N a0).bind fun r5=>bif r5 then (XJ N a0).bind fun r6=>bif (r6==0) then (PG N a0).bind fun r7=>some (!r7) else (some false) else (some false)).bind fun y4=>some y4
def ahu (a0:LU) (a1:Int):Option Int:=
  some (Go.Lib.indexByte a0 (Int.toNat a1).toUInt8)
def XK (a0:LU):Option Int:=
  bif (([10]:LU)==a0) then some 0 else ((ix ([10]:LU) 0).bind fun b7=>(ahu a0 ((b7).toNat:Int)).bind fun r8=>some r8)
def acZ (a0:LU):Option Int:=
  (XK a0).bind fun r2=>some r2
def XL (a0:LU):Option Bool:=
  (acZ a0).bind fun r2=>some (decide<|r2>=0)
def Ho (a0:LU) (a1:Int):Option Int:=
  (rJ a1 0<|IntKind.wrap .i64<|(a0.length:Int) - 1).bind fun r4=>bif (!r4) then some (-1) else ((ix a0 a1).bind fun b6=>some<|IntKind.wrap .i64 ((b6).toNat:Int))
def PI (N:Nat):Nat->(LU×Int)->Option Int
  | 0,_=>none
  | n1+1,(a0,a1)=>(Ho a0 a1).bind fun dZ=>(Uk dZ).bind fun iN=>bif iN then (PI N n1) (a0,(IntKind.wrap .i64<|a1+1)) else (some a1)
def Um (N:Nat) (a0:LU) (a1:Int):Option Int:=
  PI N N (a0,a1)
def XM (N:Nat):Int->Option Int
  | dF=>some dF
def Un (N:Nat):(LU×Int×Int)->Option Int
  | (a0,dF,y31)=>(Um N a0 y31).bind fun dZ=>bif (decide<|dZ > y31) then some dZ else (XM N dF)
def PK (N:Nat):(LU×Int×Int)->Option Int
  | (a0,dF,jm)=>bif (jm==0) then some (-1) else ((Ho a0 dF).bind fun dA=>(bif (dA==101) then some true else (some<|dA==69)).bind fun y27=>bif y27 then (Ho a0<|IntKind.wrap .i64<|dF+1).bind fun dJ=>(bif (dJ==43) then some true else (some<|dJ==45)).bind fun Pw=>bif Pw then Un N (a0,dF,(IntKind.wrap .i64<|(IntKind.wrap .i64<|dF+1)+1)) else (Un N (a0,dF,(IntKind.wrap .i64<|dF+1))) else (XM N dF))
def Uo (N:Nat) (a0:LU) (a1:Int):Option Int:=
  (rJ a1 0<|IntKind.wrap .i64<|(a0.length:Int) - 1).bind fun r4=>bif (!r4) then some (-1) else ((Um N a0 a1).bind fun r6=>(Ho a0 r6).bind fun jD=>bif (jD==46) then (Um N a0<|IntKind.wrap .i64<|r6+1).bind fun mh=>PK N (a0,mh,(IntKind.wrap .i64<|(IntKind.wrap .i64<|r6 - a1)+(IntKind.wrap .i64<|(IntKind.wrap .i64<|mh - r6) - 1))) else (PK N (a0,r6,(IntKind.wrap .i64<|r6 - a1))))
def PL (N:Nat) (gJ:(LU×Int×Int)->Option Int):(LU×Int×Int)->Option Int
  | (a0,a2,Fy)=>gJ (a0,a2,(IntKind.wrap .i64<|Fy+1))
def Hq (N:Nat):Nat->(LU×Int×Int)->Option Int
  | 0,_=>none
  | n1+1,(a0,a2,y91)=>(bif (decide<|y91 < (a0.length:Int)) then (ix a0 y91).bind fun aoK=>some (((aoK).toNat:Int) !=10) else (some false)).bind fun rF=>bif rF then (ix a0 y91).bind fun aoL=>bif ((IntKind.wrap .i64 ((aoL).toNat:Int))==a2) then some (IntKind.wrap .i64<|y91+1) else (((ix a0 y91).bind fun aoM=>bif (((aoM).toNat:Int)==92) then (Ho a0<|IntKind.wrap .i64<|y91+1).bind fun WZ=>some (WZ !=10) else (some false)).bind fun ahv=>bif ahv then PL N (Hq N n1) (a0,a2,(IntKind.wrap .i64<|y91+1)) else (PL N (Hq N n1) (a0,a2,y91))) else (some<|-1)
def Uq (N:Nat) (a0:LU) (a1:Int) (a2:Int):Option Int:=
  (Ho a0 a1).bind fun r4=>bif (r4 !=a2) then some (-1) else (Hq N N (a0,a2,(IntKind.wrap .i64<|a1+1)))
def Ur (N:Nat) (a0:LU) (a1:Int):Option Int:=
  (Uq N a0 a1 34).bind fun r2=>some r2
def Us (N:Nat) (a0:LU) (a1:Int):Option Int:=
  (Uq N a0 a1 47).bind fun r2=>bif (r2==(IntKind.wrap .i64<|a1+2)) then some (-1) else (some r2)
def XO (a0:Int):Option Bool:=
  (rJ a0 10 26).bind fun r2=>some r2
def XP (a0:Int):Option Bool:=
  (rJ a0 30 68).bind fun r2=>some r2
def PN (a0:Int):Option LU:=
  bif (a0==1) then some [10] else ((XO a0).bind fun bF=>bif bF then (ix vF<|IntKind.wrap .i64<|a0 - 10).bind fun e12=>some e12 else ((XP a0).bind fun cZ=>bif cZ then (ix CZ<|IntKind.wrap .i64<|a0 - 30).bind fun e16=>some e16 else (some [])))
def Ut (N:Nat):(aG×Bool)->Option Bool
  | (a0,y28)=>bif y28 then (DX N a0.Text).bind fun nW=>some nW else (bif (a0.Kind==8) then (PG N a0.Text).bind fun r32=>some r32 else ((PN a0.Kind).bind fun iN=>some<|a0.Text==iN))
def Uu (N:Nat) (a0:aG):Option Bool:=
  bif (a0.Text==[]) then some false else (bif (a0.Kind==2) then ((ix a0.Text 0).bind fun b20=>bif (((b20).toNat:Int)==35) then (XL a0.Text).bind fun oW=>some (!oW) else (some false)).bind fun gW=>some gW else (bif (a0.Kind==3) then (Uo N a0.Text 0).bind fun qI=>some (qI==(a0.Text.length:Int)) else (bif (a0.Kind==4) then (Ur N a0.Text 0).bind fun Fh=>some (Fh==(a0.Text.length:Int)) else (bif (a0.Kind==5) then (Us N a0.Text 0).bind fun qA=>some (qA==(a0.Text.length:Int)) else (bif (a0.Kind==6) then Ut N (a0,(a0.Kind==6)) else (Ut N (a0,(a0.Kind==7))))))))
def ada (a0:Int):Option Bool:=
  (bif (a0==51) then some true else (some<|a0==52)).bind fun y1=>some y1
def Uv:(Int×Bool)->Option Int
  | (a0,y8)=>bif y8 then some 10 else (bif (a0==60) then some 12 else (some 0))
def XQ:(Int×Bool)->Option Int
  | (a0,y7)=>bif y7 then some 9 else (bif (a0==57) then Uv (a0,(a0==57)) else (bif (a0==58) then Uv (a0,(a0==58)) else (Uv (a0,(a0==59)))))
def Jt:(Int×Bool)->Option Int
  | (a0,y6)=>bif y6 then some 7 else (bif (a0==99) then some 8 else (bif (a0==55) then XQ (a0,(a0==55)) else (XQ (a0,(a0==56)))))
def XR:(Int×Bool)->Option Int
  | (a0,y5)=>bif y5 then some 6 else (bif (a0==63) then Jt (a0,(a0==63)) else (bif (a0==48) then Jt (a0,(a0==48)) else (bif (a0==47) then Jt (a0,(a0==47)) else (bif (a0==50) then Jt (a0,(a0==50)) else (bif (a0==62) then Jt (a0,(a0==62)) else (Jt (a0,(a0==49))))))))
def LY (a0:Int):Option Int:=
  bif (a0==44) then some 3 else (bif (a0==45) then some 4 else (bif (a0==67) then XR (a0,(a0==67)) else (XR (a0,(a0==46)))))
def adb (a0:Int):Option Bool:=
  (bif (a0==54) then some true else ((rJ a0 38 43).bind fun r3=>some r3)).bind fun y2=>some y2
def XT (N:Nat):(aD×Bool)->Option nG
  | (a0,jy)=>bif jy then (ada a0.Op).bind fun fU=>some (⟨fU,(a0.Text==[]),false,1,1⟩:nG) else (bif (a0.Kind==11) then (bif (a0.Op==55) then some true else (bif (a0.Op==56) then some true else (some<|a0.Op==61))).bind fun y38=>some (⟨y38,(a0.Text==[]),false,1,1⟩:nG) else (bif (a0.Kind==12) then (LY a0.Op).bind fun mh=>some (⟨(mh !=0),(a0.Text==[]),false,2,2⟩:nG) else (bif (a0.Kind==14) then some (⟨(a0.Op==0),(a0.Text==[]),false,3,3⟩:nG) else ((adb a0.Op).bind fun sP=>some (⟨sP,(a0.Text==[]),false,2,2⟩:nG)))))
def XU (N:Nat):(aD×Bool)->Option nG
  | (a0,y28)=>bif y28 then (DX N a0.Text).bind fun nW=>some (⟨(a0.Op==0),nW,false,1,6⟩:nG) else (bif (a0.Kind==6) then some (⟨(a0.Op==0),(a0.Text==[]),false,1,1⟩:nG) else (bif (a0.Kind==7) then (DX N a0.Text).bind fun r32=>some (⟨(a0.Op==0),r32,false,0,6⟩:nG) else (bif (a0.Kind==8) then (PG N a0.Text).bind fun iN=>some (⟨(a0.Op==0),iN,false,0,6⟩:nG) else (bif (a0.Kind==9) then XT N (a0,(a0.Kind==9)) else (XT N (a0,(a0.Kind==10)))))))
def Uw (N:Nat):(aD×Bool)->Option nG
  | (a0,y23)=>bif y23 then (ix [3,4,5]<|IntKind.wrap .i64<|a0.Kind - 2).bind fun e26=>(Uu N (⟨e26,a0.Text,0⟩:aG)).bind fun qA=>some (⟨(a0.Op==0),qA,false,0,0⟩:nG) else (bif (a0.Kind==5) then XU N (a0,(a0.Kind==5)) else (XU N (a0,(a0.Kind==13))))
def ade (N:Nat) (a0:aD):Option nG:=
  bif (a0.Kind==1) then (DX N a0.Text).bind fun dH=>some (⟨(a0.Op==0),dH,false,0,0⟩:nG) else (bif (a0.Kind==2) then Uw N (a0,(a0.Kind==2)) else (bif (a0.Kind==3) then Uw N (a0,(a0.Kind==3)) else (Uw N (a0,(a0.Kind==4)))))
def LZ (a0:Int):Option Bool:=
  (rJ a0 20 34).bind fun r2=>some r2
def zx (N:Nat):(Bool×Bool×Bool×Int×Int)->Option nG
  | (oV,fF,nH,jZ,qC)=>some (⟨oV,fF,nH,jZ,qC⟩:nG)
def XV (N:Nat):(aD×Bool)->Option nG
  | (a0,y25)=>bif y25 then zx N ((a0.Op==0),(a0.Text==[]),(a0.Other==[]),2,2) else (bif (a0.Kind==31) then zx N ((a0.Op==0),(a0.Text==[]),(a0.Other==[]),4,4) else (bif (a0.Kind==32) then (DX N a0.Text).bind fun gN=>(DX N a0.Other).bind fun qB=>zx N ((a0.Op==0),gN,qB,1,1) else (bif (a0.Kind==33) then zx N ((a0.Op==0),(a0.Text==[]),(a0.Other==[]),0,400) else (bif (a0.Kind==34) then (Uu N (⟨2,a0.Text,0⟩:aG)).bind fun oZ=>zx N ((a0.Op==0),oZ,(a0.Other==[]),0,0) else (zx N ((a0.Op==0),(a0.Text==[]),(a0.Other==[]),0,0))))))
def XW (N:Nat):(aD×Bool)->Option nG
  | (a0,y22)=>bif y22 then zx N ((a0.Op==0),(a0.Text==[]),(a0.Other==[]),0,1) else (bif (a0.Kind==27) then (DX N a0.Text).bind fun gu=>zx N ((a0.Op==0),gu,(a0.Other==[]),0,6) else (bif (a0.Kind==28) then zx N ((a0.Op==0),(a0.Text==[]),(a0.Other==[]),2,3) else (bif (a0.Kind==29) then XV N (a0,(a0.Kind==29)) else (XV N (a0,(a0.Kind==30))))))
def adf (N:Nat) (a0:aD):Option nG:=
  bif (a0.Kind==20) then zx N ((a0.Op==0),(a0.Text==[]),(a0.Other==[]),1,1) else (bif (a0.Kind==21) then (bif (a0.Op==0) then some true else (some<|a0.Op==1)).bind fun gW=>(PE N [[],[62],[62,62],[124]] a0.Other).bind fun oW=>bif (!(a0.Other==[])) then zx N (gW,(a0.Text==[]),oW,(IntKind.wrap .i64<|a0.Op+1),7) else (zx N (gW,(a0.Text==[]),oW,a0.Op,6)) else (bif (a0.Kind==23) then XW N (a0,(a0.Kind==23)) else (XW N (a0,(a0.Kind==24)))))
def Ma (N:Nat):(aD×Bool×Bool×Int×Int)->Option nG
  | (a0,y9,kg,dF,jm)=>some (⟨y9,kg,(a0.Other==[]),dF,jm⟩:nG)
def XY (N:Nat):(Bool×aD×Int)->Option nG
  | (eY,a0,nH)=>Ma N (a0,eY,(a0.Text==[]),nH,nH)
def XZ (N:Nat):(Bool×aD×Int)->Option nG
  | (jZ,a0,qC)=>Ma N (a0,jZ,(a0.Text==[]),qC,qC)
def Ya (N:Nat):(aD×Bool)->Option nG
  | (a0,y13)=>bif y13 then Ma N (a0,(a0.Op==0),(a0.Text==[]),1,1) else (bif (a0.Kind==42) then (rJ a0.Op 1 3).bind fun eY=>bif (a0.Op==3) then XY N (eY,a0,2) else (XY N (eY,a0,1)) else (bif (a0.Kind==43) then (bif (a0.Op==1) then some true else (some<|a0.Op==3)).bind fun jZ=>bif (a0.Op==3) then XZ N (jZ,a0,3) else (XZ N (jZ,a0,2)) else (bif (a0.Kind==44) then (DX N a0.Text).bind fun iq=>Ma N (a0,(a0.Op==0),iq,1,7) else (Ma N (a0,(a0.Op==0),(a0.Text==[]),0,400)))))
def adg (N:Nat) (a0:aD):Option nG:=
  bif (a0.Kind==40) then Ya N (a0,(a0.Kind==40)) else (Ya N (a0,(a0.Kind==41)))
def PO (N:Nat):(aD×Bool×Bool×Bool×Int×Int)->Option Bool
  | (a0,y13,oV,fF,nH,jZ)=>(bif y13 then bif oV then bif fF then (rJ (a0.Kids.length:Int) nH jZ).bind fun iq=>some iq else (some false) else (some false) else (some false)).bind fun gW=>some gW
def Ux (N:Nat) (a0:aD):Option Bool:=
  (Fw a0.Kind).bind fun dH=>bif dH then (ade N a0).bind fun gu=>PO N (a0,gu.op,gu.text,(a0.Other==[]),gu.least,gu.most) else (bif (a0.Kind==16) then PO N (a0,(a0.Op==0),(a0.Text==[]),(a0.Other==[]),0,0) else ((LZ a0.Kind).bind fun dA=>bif dA then (adf N a0).bind fun gN=>PO N (a0,gN.op,gN.text,gN.other,gN.least,gN.most) else ((rJ a0.Kind 40 45).bind fun nW=>bif nW then (adg N a0).bind fun r32=>PO N (a0,r32.op,r32.text,r32.other,r32.least,r32.most) else (some false))))
def Uy (a0:Int):Option Bool:=
  (bif (a0==1) then some true else (bif (a0==5) then some true else (some<|a0==6))).bind fun y1=>some y1
def adh (a0:Int):Option Bool:=
  (rJ a0 40 44).bind fun r2=>some r2
def qL:(Int×Bool)->Option Bool
  | (a2,y22)=>bif y22 then some (a2==33) else ((Fw a2).bind fun gu=>some gu)
def AL:(Int×Int×aD×Bool)->Option Bool
  | (a2,a1,a0,y38)=>bif y38 then qL (a2,true) else (bif (a0.Kind==33) then (LZ a2).bind fun mh=>some mh else (bif (a0.Kind==42) then (bif (a1==(IntKind.wrap .i64<|(a0.Kids.length:Int) - 1)) then some (decide<|a0.Op>=2) else (some false)).bind fun Ju=>qL (a2,Ju) else (bif (a0.Kind==43) then (bif (a1==(IntKind.wrap .i64<|(a0.Kids.length:Int) - 1)) then some (a0.Op==3) else (some false)).bind fun Mc=>qL (a2,Mc) else (bif (a0.Kind==44) then bif (!(a1==(IntKind.wrap .i64<|(a0.Kids.length:Int) - 1))) then some (a2==1) else (qL (a2,true)) else (bif (a0.Kind==45) then ((adh a2).bind fun zu=>bif zu then some true else (some<|a2==34)).bind fun Fz=>some Fz else (qL (a2,false)))))))
def xD:(Int×Int×aD×Bool)->Option Bool
  | (a1,a2,a0,jy)=>bif jy then qL (a2,(decide<|a1 > 0)) else (bif (a0.Kind==31) then (bif (decide<|a1 < 3) then some (a2==16) else (some false)).bind fun sF=>bif sF then some true else (qL (a2,(a1==(IntKind.wrap .i64<|(a0.Kids.length:Int) - 1)))) else (bif (a0.Kind==30) then qL (a2,(a1==0)) else (bif (a0.Kind==32) then AL (a2,a1,a0,(a0.Kind==32)) else (bif (a0.Kind==40) then AL (a2,a1,a0,(a0.Kind==40)) else (AL (a2,a1,a0,(a0.Kind==41)))))))
def ug:(Int×Int×aD×Bool)->Option Bool
  | (a1,a2,a0,y25)=>bif y25 then (Uy a2).bind fun qA=>some qA else (bif (a0.Kind==15) then (bif (a1==0) then (Uy a2).bind fun r32=>bif r32 then some true else (bif (decide<|a1 > 0) then (Fw a2).bind fun dZ=>some dZ else (some false)) else (bif (decide<|a1 > 0) then (Fw a2).bind fun iN=>some iN else (some false))).bind fun y31=>some y31 else (bif (a0.Kind==28) then xD (a1,a2,a0,(a0.Kind==28)) else (xD (a1,a2,a0,(a0.Kind==29)))))
def uh (a0:aD) (a1:Int) (a2:Int):Option Bool:=
  bif (a0.Kind==9) then ug (a1,a2,a0,(a0.Kind==9)) else (ug (a1,a2,a0,(a0.Kind==10)))
structure Yb where
  DY:LN->Int->Option aC
def Md (N:Nat) (R:Yb):Nat->(LN×aD×Int×LS)->Option aC
  | 0,_=>none
  | n1+1,(a0,e2,nX,lD)=>bif (decide<|nX < (e2.Kids.length:Int)) then (ix e2.Kids nX).bind fun e86=>(R.DY a0 e86).bind fun kZ=>(app 72 lD [kZ]).bind fun x90=>(Md N R n1) (a0,e2,(IntKind.wrap .i64<|nX+1),x90) else (some (⟨e2.Kind,e2.Op,e2.Text,e2.Other,lD⟩:aC))
def Yc (N:Nat) (R:Yb) (a0:LN) (a1:Int):Option aC:=
  (ix a0 a1).bind fun e2=>Md N R N (a0,e2,0,[])
def Jv:Nat->Yb
  | 0=>⟨fun _ _=>none⟩
  | N+1=>⟨fun a0 a1=>Yc N (Jv N) a0 a1⟩
def DY (N:Nat) (a0:LN) (a1:Int):Option aC:=(Jv N).DY a0 a1
def Me (N:Nat) (a0:LN):Option aC:=
  (DY N a0<|IntKind.wrap .i64<|(a0.length:Int) - 1).bind fun r2=>some r2
structure Yd where
  AO:aC->Option Int
def Mf (N:Nat) (R:Yd):Nat->(aC×Int×Int)->Option Int
  | 0,_=>none
  | n1+1,(a0,sF,y38)=>bif (decide<|y38 < (a0.kids.length:Int)) then (ix a0.kids y38).bind fun e54=>(R.AO e54).bind fun nI=>(Mf N R n1) (a0,(if nI > sF then nI else sF),(IntKind.wrap .i64<|y38+1)) else (some<|IntKind.wrap .i64<|sF+1)
def Ye (N:Nat) (R:Yd) (a0:aC):Option Int:=
  Mf N R N (a0,0,0)
def Mg:Nat->Yd
  | 0=>⟨fun _=>none⟩
  | N+1=>⟨fun a0=>Ye N (Mg N) a0⟩
def AO (N:Nat) (a0:aC):Option Int:=(Mg N).AO a0
def PS (N:Nat) (gJ:(LN×Int)->Option Bool):Nat->(LN×Int×aD×Int)->Option Bool
  | 0,_=>none
  | n2+1,(a0,zy,vY,Jw)=>bif (decide<|Jw < (vY.Kids.length:Int)) then (ix vY.Kids Jw).bind fun aoN=>(ix a0 aoN).bind fun ahx=>(uh vY Jw ahx.Kind).bind fun aoO=>bif (!aoO) then some false else ((PS N gJ n2) (a0,zy,vY,(IntKind.wrap .i64<|Jw+1))) else (gJ (a0,(IntKind.wrap .i64<|zy+1)))
def Hr (N:Nat):Nat->(LN×Int)->Option Bool
  | 0,_=>none
  | n1+1,(a0,zy)=>bif (decide<|zy < (a0.length:Int)) then (ix a0 zy).bind fun vY=>(Ux N vY).bind fun aoP=>bif (!aoP) then some false else (PS N (Hr N n1) N (a0,zy,vY,0)) else ((Me N a0).bind fun ahy=>(AO N ahy).bind fun aoQ=>some<|decide<|aoQ<=40)
def Yf (N:Nat) (a0:LN):Option Bool:=
  (XH N a0).bind fun r4=>bif (!r4) then some false else (Hr N N (a0,0))
def Yg (N:Nat) (a0:LN):Option Bool:=
  ((Yf N a0).bind fun r5=>bif r5 then (ix a0<|IntKind.wrap .i64<|(a0.length:Int) - 1).bind fun e6=>(Fw e6.Kind).bind fun r7=>some r7 else (some false)).bind fun y4=>some y4
def PU (a0:aF):Option Bool:=
  ((rJ a0.Level 1 15).bind fun r3=>bif r3 then bif (!a0.nU) then some true else (some<|a0.Level==14) else (some false)).bind fun y2=>some y2
def PV (N:Nat):Nat->(aC×Int×(List Int))->Option aD
  | 0,_=>none
  | n1+1,(a0,y25,nD)=>bif (decide<|y25 < (a0.kids.length:Int)) then (app 8 nD [y25]).bind fun x36=>(PV N n1) (a0,(IntKind.wrap .i64<|y25+1),x36) else (some (⟨a0.kind,a0.op,a0.text,a0.other,nD⟩:aD))
def Yh (N:Nat) (a0:aC):Option aD:=
  PV N N (a0,0,[])
def Jy:Bool->Option Int
  | y8=>bif y8 then some 15 else (some 0)
def adk:(aD×Bool)->Option Int
  | (a0,y7)=>bif y7 then some 13 else (bif (a0.Kind==6) then some 14 else (bif (a0.Kind==1) then Jy (a0.Kind==1) else (bif (a0.Kind==2) then Jy (a0.Kind==2) else (bif (a0.Kind==3) then Jy (a0.Kind==3) else (bif (a0.Kind==4) then Jy (a0.Kind==4) else (bif (a0.Kind==5) then Jy (a0.Kind==5) else (bif (a0.Kind==7) then Jy (a0.Kind==7) else (Jy<|a0.Kind==8))))))))
def PW (a0:aD):Option Int:=
  bif (a0.Kind==15) then some 1 else (bif (a0.Kind==14) then some 2 else (bif (a0.Kind==13) then some 5 else (bif (a0.Kind==12) then (LY a0.Op).bind fun r6=>some r6 else (bif (a0.Kind==11) then some 11 else (bif (a0.Kind==9) then adk (a0,(a0.Kind==9)) else (adk (a0,(a0.Kind==10))))))))
def Yi (a0:aD) (a1:aF):Option Bool:=
  (PW a0).bind fun r2=>((PU a1).bind fun nY=>bif (!nY) then some true else (some<|r2==0)).bind fun kg=>bif kg then some false else ((bif a1.aX then some (a0.Kind==13) else (some false)).bind fun jm=>bif jm then some false else ((bif a1.bg then bif (a0.Kind==12) then some (a0.Op==62) else (some false) else (some false)).bind fun y13=>bif y13 then some false else ((bif a1.eH then bif (a0.Kind==11) then some true else (bif (a0.Kind==9) then some true else (some<|a0.Kind==4)) else (some false)).bind fun oV=>bif oV then some false else ((bif a1.nU then bif (a0.Kind==9) then some true else (some<|decide<|r2>=a1.Level) else (some<|decide<|r2>=a1.Level)).bind fun fF=>some fF))))
def iA (a1:LT) (pc:Bool) (p1:LT) (p2:List aR):Option LT:=
  (app 32 p1 a1).bind fun x2=>some x2
def jJ (a0:Int):Option aG:=
  (PN a0).bind fun r2=>some (⟨a0,r2,0⟩:aG)
def Uz:Option aF:=
  some (⟨1,false,false,false,false⟩:aF)
def FB:(Int×Int×Int)->Option Int
  | (a1,y3,y4)=>bif (a1==0) then some y3 else (some y4)
def Yj (a0:Int) (a1:Int):Option Int:=
  (LY a0).bind fun r6=>bif (r6==3) then FB (a1,3,4) else (bif (r6==4) then FB (a1,4,5) else (bif (r6==6) then FB (a1,7,7) else (bif (r6==7) then FB (a1,8,8) else (bif (r6==8) then FB (a1,8,9) else (bif (r6==9) then FB (a1,9,10) else (bif (r6==10) then FB (a1,10,11) else (FB (a1,13,11))))))))
def adl (a0:aD) (a1:Int):Option Int:=
  bif (a0.Kind==15) then bif (decide<|a1 > 0) then some 1 else (some 14) else (bif (a0.Kind==14) then bif (decide<|a1 > 0) then some 2 else (some 3) else (bif (a0.Kind==13) then some 5 else (bif (a0.Kind==11) then some 11 else (bif (a0.Kind==12) then (Yj a0.Op a1).bind fun r4=>some r4 else (some 14)))))
def Yk:(Int×aD×aF×Bool)->Option aF
  | (dA,a0,a2,y29)=>some (⟨dA,(a0.Kind==6),a2.aX,a2.bg,y29⟩:aF)
def PX:(Int×aD×aF×Int×Bool)->Option aF
  | (a1,a0,a2,dA,pY)=>bif pY then Yk (dA,a0,a2,false) else ((bif (a1==0) then bif a2.eH then some true else (bif (a1==1) then bif (a0.Kind==12) then some (a0.Op==99) else (some false) else (some false)) else (bif (a1==1) then bif (a0.Kind==12) then some (a0.Op==99) else (some false) else (some false))).bind fun y31=>Yk (dA,a0,a2,y31))
def PY (a0:aD) (a1:Int) (a2:aF):Option aF:=
  ((PU a2).bind fun dz=>bif (!dz) then some true else ((rJ a1 0<|IntKind.wrap .i64<|(a0.Kids.length:Int) - 1).bind fun jI=>bif (!jI) then some true else ((PW a0).bind fun cZ=>some<|cZ==0))).bind fun dF=>bif dF then some (⟨0,false,false,false,false⟩:aF) else (((PW a0).bind fun dH=>bif (dH==15) then some true else (bif (a0.Kind==13) then some (decide<|(a0.Kids.length:Int) > 1) else (some false))).bind fun y21=>bif y21 then Option.bind Uz fun gu=>some gu else ((adl a0 a1).bind fun dA=>bif (a0.Kind==11) then PX (a1,a0,a2,dA,(a0.Kind==11)) else (bif (a0.Kind==9) then PX (a1,a0,a2,dA,(a0.Kind==9)) else (bif (a0.Kind==10) then PX (a1,a0,a2,dA,(a0.Kind==10)) else (PX (a1,a0,a2,dA,(a0.Kind==6)))))))
def PZ (a0:aD) (a1:Int):Option Bool:=
  (bif (a1==0) then bif (a0.Kind==9) then some true else (bif (a0.Kind==10) then some true else (some<|a0.Kind==15)) else (some false)).bind fun y1=>some y1
structure sQ where
  Mh:aC->aF->Bool->LT->(List aR)->Option (LT×(List aR))
  eB:aC->Int->aF->Bool->LT->(List aR)->Option (LT×(List aR))
  sS:aC->Int->Int->aF->Bool->LT->(List aR)->Option (LT×(List aR))
  zA:aC->aF->Bool->LT->(List aR)->Option (LT×(List aR))
  xW:aC->aF->Bool->LT->(List aR)->Option (LT×(List aR))
def zB (N:Nat) (R:sQ) (pc:Bool):(aC×LT×(List aR))->Option (LT×(List aR))
  | (a1,y24,y25)=>(jJ 24).bind fun gN=>(iA [gN,(⟨6,a1.text,0⟩:aG)] pc y24 y25).bind fun qB=>some (qB,y25)
def xE (N:Nat) (R:sQ) (pc:Bool):(aC×aF×(LT×(List aR))×LT)->Option (LT×(List aR))
  | (a1,a2,eX,Ld)=>(R.eB a1 1 a2 pc Ld eX.2).bind fun nI=>some (nI.1,nI.2)
def adn (N:Nat) (R:sQ) (pc:Bool):(aC×aF×LT×(List aR)×Bool)->Option (LT×(List aR))
  | (a1,a2,p1,p2,y1)=>bif y1 then (jJ a1.op).bind fun r4=>(iA [r4] pc p1 p2).bind fun r5=>(R.eB a1 0 a2 pc r5 p2).bind fun r7=>some (r7.1,r7.2) else (bif (a1.kind==6) then (jJ 68).bind fun bF=>(iA [bF] pc p1 p2).bind fun nY=>(R.eB a1 0 a2 pc nY p2).bind fun jI=>some (jI.1,jI.2) else (bif (a1.kind==10) then (R.eB a1 0 a2 pc p1 p2).bind fun eY=>(jJ a1.op).bind fun dR=>(iA [dR] pc eY.1 eY.2).bind fun dI=>some (dI,eY.2) else (bif (a1.kind==13) then bif (decide<|(a1.kids.length:Int) > 1) then (R.sS a1 32 33 a2 pc p1 p2).bind fun oZ=>zB N R pc (a1,oZ.1,oZ.2) else ((R.eB a1 0 a2 pc p1 p2).bind fun dZ=>zB N R pc (a1,dZ.1,dZ.2)) else (bif (a1.kind==14) then (R.eB a1 0 a2 pc p1 p2).bind fun dJ=>(jJ 65).bind fun jD=>(iA [jD] pc dJ.1 dJ.2).bind fun DW=>(R.eB a1 1 a2 pc DW dJ.2).bind fun lQ=>(jJ 66).bind fun vU=>(iA [vU] pc lQ.1 lQ.2).bind fun zu=>(R.eB a1 2 a2 pc zu lQ.2).bind fun tZ=>some (tZ.1,tZ.2) else ((R.eB a1 0 a2 pc p1 p2).bind fun eX=>bif (a1.op !=99) then (jJ a1.op).bind fun eP=>(iA [eP] pc eX.1 eX.2).bind fun lN=>xE N R pc (a1,a2,eX,lN) else (xE N R pc (a1,a2,eX,eX.1)))))))
def Yl (N:Nat) (R:sQ) (a1:aC) (a2:aF) (pc:Bool) (p1:LT) (p2:List aR):Option (LT×(List aR)):=
  bif (a1.kind==9) then adn N R pc (a1,a2,p1,p2,(a1.kind==9)) else (adn N R pc (a1,a2,p1,p2,(a1.kind==11)))
def Qa (N:Nat) (R:sQ) (a1:aC) (a2:Int) (a3:aF) (pc:Bool) (p1:LT) (p2:List aR):Option (LT×(List aR)):=
  (Yh N a1).bind fun r3=>(ix a1.kids a2).bind fun e4=>(PY r3 a2 a3).bind fun r6=>(PZ r3 a2).bind fun dz=>bif dz then (R.zA e4 r6 pc p1 p2).bind fun cZ=>some (cZ.1,cZ.2) else ((R.xW e4 r6 pc p1 p2).bind fun r16=>some (r16.1,r16.2))
def Mi (N:Nat) (R:sQ) (pc:Bool) (gJ:(Int×aC×aF×Int×LT×(List aR))->Option (LT×(List aR))):(Int×Int×aC×aF×(List aR)×LT)->Option (LT×(List aR))
  | (a3,nX,a1,a4,nT,Ce)=>(R.eB a1 nX a4 pc Ce nT).bind fun vP=>gJ (a3,a1,a4,(IntKind.wrap .i64<|nX+1),vP.1,vP.2)
def zC (N:Nat) (R:sQ) (pc:Bool):Nat->(Int×aC×aF×Int×LT×(List aR))->Option (LT×(List aR))
  | 0,_=>none
  | n1+1,(a3,a1,a4,nX,lD,nT)=>bif (decide<|nX < (a1.kids.length:Int)) then bif (decide<|nX > 0) then (jJ 36).bind fun AP=>(iA [AP] pc lD nT).bind fun jK=>Mi N R pc (zC N R pc n1) (a3,nX,a1,a4,nT,jK) else (Mi N R pc (zC N R pc n1) (a3,nX,a1,a4,nT,lD)) else ((jJ a3).bind fun oz=>(iA [oz] pc lD nT).bind fun yh=>some (yh,nT))
def Jz (N:Nat) (R:sQ) (a1:aC) (a2:Int) (a3:Int) (a4:aF) (pc:Bool) (p1:LT) (p2:List aR):Option (LT×(List aR)):=
  (jJ a2).bind fun r3=>(iA [r3] pc p1 p2).bind fun r4=>zC N R pc N (a3,a1,a4,0,r4,p2)
def mQ (N:Nat) (R:sQ) (pc:Bool):(LT×LT×(List aR))->Option (LT×(List aR))
  | (p1,y23,y24)=>(app 16 y24 [(⟨(p1.length:Int),(y23.length:Int)⟩:aR)]).bind fun x26=>some (y23,x26)
def Ym (N:Nat) (R:sQ) (a1:aC) (a2:aF) (pc:Bool) (p1:LT) (p2:List aR):Option (LT×(List aR)):=
  bif (a1.kind==1) then (iA [(⟨6,a1.text,0⟩:aG)] pc p1 p2).bind fun gN=>mQ N R pc (p1,gN,p2) else (bif (a1.kind==2) then (iA [(⟨3,a1.text,0⟩:aG)] pc p1 p2).bind fun nW=>mQ N R pc (p1,nW,p2) else (bif (a1.kind==3) then (iA [(⟨4,a1.text,0⟩:aG)] pc p1 p2).bind fun r32=>mQ N R pc (p1,r32,p2) else (bif (a1.kind==4) then (iA [(⟨5,a1.text,0⟩:aG)] pc p1 p2).bind fun iN=>mQ N R pc (p1,iN,p2) else (bif (a1.kind==5) then (iA [(⟨6,a1.text,0⟩:aG)] pc p1 p2).bind fun iW=>(R.sS a1 34 35 a2 pc iW p2).bind fun jD=>mQ N R pc (p1,jD.1,jD.2) else (bif (a1.kind==7) then (iA [(⟨7,a1.text,0⟩:aG)] pc p1 p2).bind fun mh=>(R.sS a1 32 33 a2 pc mh p2).bind fun sP=>mQ N R pc (p1,sP.1,sP.2) else (bif (a1.kind==8) then (iA [(⟨8,a1.text,0⟩:aG)] pc p1 p2).bind fun vU=>(R.sS a1 32 33 a2 pc vU p2).bind fun mR=>mQ N R pc (p1,mR.1,mR.2) else ((R.Mh a1 a2 pc p1 p2).bind fun fM=>mQ N R pc (p1,fM.1,fM.2))))))))
def JA (N:Nat) (R:sQ) (pc:Bool):(aC×aF×LT×(List aR)×Bool)->Option (LT×(List aR))
  | (a1,a2,p1,p2,y8)=>bif (!y8) then (R.zA a1 a2 pc p1 p2).bind fun dz=>some (dz.1,dz.2) else ((jJ 32).bind fun eY=>(iA [eY] pc p1 p2).bind fun r16=>Option.bind Uz fun dI=>(R.zA a1 dI pc r16 p2).bind fun iq=>(jJ 33).bind fun qI=>(iA [qI] pc iq.1 iq.2).bind fun gu=>some (gu,iq.2))
def Qb (N:Nat) (R:sQ) (a1:aC) (a2:aF) (pc:Bool) (p1:LT) (p2:List aR):Option (LT×(List aR)):=
  (Yh N a1).bind fun r2=>(Yi r2 a2).bind fun r4=>bif pc then ((PW r2).bind fun qA=>bif (qA !=15) then some true else (some<|r2.Kind==4)).bind fun nD=>JA N R pc (a1,a2,p1,p2,nD) else (JA N R pc (a1,a2,p1,p2,(!r4)))
def bK:Nat->sQ
  | 0=>⟨fun _ _ _ _ _=>none,fun _ _ _ _ _ _=>none,fun _ _ _ _ _ _ _=>none,fun _ _ _ _ _=>none,fun _ _ _ _ _=>none⟩
  | N+1=>⟨fun a1 a2 pc p1 p2=>Yl N (bK N) a1 a2 pc p1 p2,fun a1 a2 a3 pc p1 p2=>Qa N (bK N) a1 a2 a3 pc p1 p2,fun a1 a2 a3 a4 pc p1 p2=>Jz N (bK N) a1 a2 a3 a4 pc p1 p2,fun a1 a2 pc p1 p2=>Ym N (bK N) a1 a2 pc p1 p2,fun a1 a2 pc p1 p2=>Qb N (bK N) a1 a2 pc p1 p2⟩
def Mh (N:Nat) (a1:aC) (a2:aF) (pc:Bool) (p1:LT) (p2:List aR):Option (LT×(List aR)):=(bK N).Mh a1 a2 pc p1 p2
def eB (N:Nat) (a1:aC) (a2:Int) (a3:aF) (pc:Bool) (p1:LT) (p2:List aR):Option (LT×(List aR)):=(bK N).eB a1 a2 a3 pc p1 p2
def sS (N:Nat) (a1:aC) (a2:Int) (a3:Int) (a4:aF) (pc:Bool) (p1:LT) (p2:List aR):Option (LT×(List aR)):=(bK N).sS a1 a2 a3 a4 pc p1 p2
def zA (N:Nat) (a1:aC) (a2:aF) (pc:Bool) (p1:LT) (p2:List aR):Option (LT×(List aR)):=(bK N).zA a1 a2 pc p1 p2
def xW (N:Nat) (a1:aC) (a2:aF) (pc:Bool) (p1:LT) (p2:List aR):Option (LT×(List aR)):=(bK N).xW a1 a2 pc p1 p2
def KC (N:Nat) (a0:LN) (a1:aF) (a2:Bool):Option (LT×(List aR)):=
  ((Yg N a0).bind fun r9=>bif (!r9) then some true else ((PU a1).bind fun bF=>some<|!bF)).bind fun y8=>bif y8 then some ([],[]) else ((Me N a0).bind fun uQ=>(xW N uQ a1 a2 [] []).bind fun dR=>some (dR.1,dR.2))
def xV (N:Nat) (a0:LN) (a1:aF):Option (List aR):=
  (KC N a0 a1 false).bind fun r2=>some r2.2
def CV (N:Nat) (gJ:(Int×(List aR)×Int×Int×Int)->Option Int):(Int×(List aR)×Int×Int×Int)->Option Int
  | (a2,mR,jR,Yn,nE)=>gJ (a2,mR,Yn,nE,(IntKind.wrap .i64<|jR+1))
def wH (N:Nat):Nat->(Int×(List aR)×Int×Int×Int)->Option Int
  | 0,_=>none
  | n1+1,(a2,mR,qK,qc,jR)=>bif (decide<|jR < (mR.length:Int)) then (ix mR jR).bind fun sU=>((rJ a2 sU.From<|IntKind.wrap .i64<|sU.To - 1).bind fun oU=>bif oU then bif (decide<|qK < 0) then some true else (some<|decide<|(IntKind.wrap .i64<|sU.To - sU.From) < qc) else (some false)).bind fun Ht=>bif Ht then CV N (wH N n1) (a2,mR,jR,jR,(IntKind.wrap .i64<|sU.To - sU.From)) else (CV N (wH N n1) (a2,mR,jR,qK,qc)) else (some qK)
def Ae (N:Nat) (a0:LN) (a1:aF) (a2:Int):Option Int:=
  (xV N a0 a1).bind fun mR=>wH N N (a2,mR,(-1),0,0)
def DZ:Bool->Option Bool
  | y2=>bif y2 then some true else (some false)
def AQ (a0:Int):Option Bool:=
  bif (a0==3) then DZ (a0==3) else (bif (a0==4) then DZ (a0==4) else (bif (a0==5) then DZ (a0==5) else (bif (a0==6) then DZ (a0==6) else (bif (a0==8) then DZ (a0==8) else (bif (a0==33) then DZ (a0==33) else (bif (a0==35) then DZ (a0==35) else (bif (a0==51) then DZ (a0==51) else (DZ<|a0==52))))))))
def UA (N:Nat) (gJ:(LT×Int×Int)->Option Bool):(LT×Int×Int×Int)->Option Bool
  | (a0,pq,qM,UC)=>(ix a0 qM).bind fun AU=>((ix a0 qM).bind fun ahA=>(rG N ahA).bind fun aoR=>bif (!aoR) then some true else (bif (AU.Kind==7) then bif (UC !=32) then some true else (bif (AU.Kind==2) then bif (UC !=1) then some (decide<|(IntKind.wrap .i64<|qM+1) < (a0.length:Int)) else (some false) else (some false)) else (bif (AU.Kind==2) then bif (UC !=1) then some (decide<|(IntKind.wrap .i64<|qM+1) < (a0.length:Int)) else (some false) else (some false)))).bind fun ahB=>bif ahB then some false else ((bif (AU.Kind==5) then (AQ pq).bind fun ado=>bif ado then some true else (bif (AU.Kind==58) then (AQ pq).bind fun adp=>some (!adp) else (bif (AU.Kind==41) then (AQ pq).bind fun adq=>some (!adq) else (some false))) else (bif (AU.Kind==58) then (AQ pq).bind fun adr=>some (!adr) else (bif (AU.Kind==41) then (AQ pq).bind fun ads=>some (!ads) else (some false)))).bind fun ahC=>bif ahC then some false else (gJ (a0,AU.Kind,(IntKind.wrap .i64<|qM+1))))
def Hu (N:Nat):Nat->(LT×Int×Int)->Option Bool
  | 0,_=>none
  | n1+1,(a0,pq,qM)=>bif (decide<|qM < (a0.length:Int)) then bif (decide<|(IntKind.wrap .i64<|qM+1) < (a0.length:Int)) then (ix a0<|IntKind.wrap .i64<|qM+1).bind fun ahD=>UA N (Hu N n1) (a0,pq,qM,ahD.Kind) else (UA N (Hu N n1) (a0,pq,qM,0)) else (some true)
def Kz (N:Nat) (a0:LT):Option Bool:=
  bif (decide<|(a0.length:Int) > 3000) then some false else (Hu N N (a0,0,0))
def UD (a0:Int):Option Bool:=
  (bif (a0==33) then some true else (bif (a0==35) then some true else (some<|a0==31))).bind fun y1=>some y1
def UE (a0:Int):Option Bool:=
  (bif (a0==32) then some true else (bif (a0==34) then some true else (some<|a0==30))).bind fun y1=>some y1
def UF (N:Nat) (gJ:(LT×Int×Int)->Option Int):(LT×Int×Int)->Option Int
  | (a0,y150,kr)=>bif (decide<|kr > 40) then some y150 else (gJ (a0,kr,(IntKind.wrap .i64<|y150+1)))
def UG (N:Nat) (gJ:(LT×Int×Int)->Option Int):(LT×Int×Int)->Option Int
  | (a0,y150,Qc)=>(ix a0 y150).bind fun e219=>(UE e219.Kind).bind fun aoS=>bif aoS then UF N gJ (a0,y150,(IntKind.wrap .i64<|Qc+1)) else (UF N gJ (a0,y150,Qc))
def Ea (N:Nat):Nat->(LT×Int×Int)->Option Int
  | 0,_=>none
  | n1+1,(a0,Dy,y150)=>bif (decide<|y150 < (a0.length:Int)) then (ix a0 y150).bind fun e223=>(UD e223.Kind).bind fun aoT=>bif aoT then UG N (Ea N n1) (a0,y150,(if (IntKind.wrap .i64<|Dy - 1) > 0 then (IntKind.wrap .i64<|Dy - 1) else 0)) else (UG N (Ea N n1) (a0,y150,Dy)) else (some<|-1)
def adt (N:Nat) (a0:LT):Option Int:=
  Ea N N (a0,0,0)
def Yo (a0:LT) (a1:Int) (a2:Int):Option yg:=
  bif (decide<|a1 < (a0.length:Int)) then (ix a0 a1).bind fun e4=>some (⟨a2,e4.At⟩:yg) else (bif ((a0.length:Int)==0) then some (⟨a2,0⟩:yg) else ((ix a0<|IntKind.wrap .i64<|(a0.length:Int) - 1).bind fun e6=>some (⟨a2,(IntKind.wrap .i64<|e6.At+(e6.Text.length:Int))⟩:yg)))
def Hw:Bool->Option Bool
  | y2=>bif y2 then some true else (some false)
def UH (a0:Int):Option Bool:=
  bif (a0==3) then Hw (a0==3) else (bif (a0==4) then Hw (a0==4) else (bif (a0==6) then Hw (a0==6) else (bif (a0==7) then Hw (a0==7) else (bif (a0==8) then Hw (a0==8) else (bif (a0==32) then Hw (a0==32) else (Hw<|a0==68))))))
def ku (pa:LT) (pb:Int) (pc:Bool) (p1:LT):Option Int:=
  bif (decide<|pb>=(pa.length:Int)) then some 0 else ((ix pa pb).bind fun e2=>some e2.Kind)
def Mj (a0:Int):Option Bool:=
  (bif (a0==51) then some true else (some<|a0==52)).bind fun y1=>some y1
def nZ (a1:Int) (pa:LT) (pb:Int) (pc:Bool) (p1:LT):Option (aG×Int×Bool):=
  (bif pc then some true else ((ku pa pb pc p1).bind fun r6=>some<|r6 !=a1)).bind fun y5=>bif y5 then some ((⟨0,[],0⟩:aG),pb,true) else ((ix pa pb).bind fun e8=>some (e8,(IntKind.wrap .i64<|pb+1),pc))
def mo (a0:aF) (a1:Int):Option aF:=
  some (⟨a1,false,a0.aX,a0.bg,false⟩:aF)
def Yp (a0:bS):Option aD:=
  bif ((a0.l.length:Int)==0) then some (⟨0,0,[],[],[]⟩:aD) else ((ix a0.l<|IntKind.wrap .i64<|(a0.l.length:Int) - 1).bind fun e2=>some e2)
def UJ (a0:bS):Option Bool:=
  (bif (!a0.held) then (Yp a0).bind fun r4=>(GY r4.Kind).bind fun r5=>some r5 else (some false)).bind fun y3=>some y3
def rM (N:Nat) (a0:aD) (a1:List LN):Option bS:=
  (fJ N a0 a1).bind fun r2=>some (⟨r2,false⟩:bS)
def Hy (N:Nat) (pa:LT) (pb:Int) (pc:Bool) (p1:LT) (gJ:(Int×Int)->Option Bool):(Int×Int)->Option Bool
  | (pz,Mk)=>bif (Mk==0) then some false else ((bif (Mk==1) then (ix pa pz).bind fun e258=>some (e258.Kind==36) else (some false)).bind fun ahE=>bif ahE then some true else (gJ (Mk,(IntKind.wrap .i64<|pz+1))))
def Eb (N:Nat) (pa:LT) (pb:Int) (pc:Bool) (p1:LT) (gJ:(Int×Int)->Option Bool):(Int×Int)->Option Bool
  | (pz,Qd)=>(ix pa pz).bind fun e261=>(UD e261.Kind).bind fun aoU=>bif aoU then Hy N pa pb pc p1 gJ (pz,(IntKind.wrap .i64<|Qd - 1)) else (Hy N pa pb pc p1 gJ (pz,Qd))
def yx (N:Nat) (pa:LT) (pb:Int) (pc:Bool) (p1:LT):Nat->(Int×Int)->Option Bool
  | 0,_=>none
  | n1+1,(Qe,pz)=>bif (decide<|pz < (pa.length:Int)) then (ix pa pz).bind fun ahF=>(UE ahF.Kind).bind fun aoV=>bif aoV then Eb N pa pb pc p1 (yx N pa pb pc p1 n1) (pz,(IntKind.wrap .i64<|Qe+1)) else (Eb N pa pb pc p1 (yx N pa pb pc p1 n1) (pz,Qe)) else (some false)
def Ml (N:Nat) (pa:LT) (pb:Int) (pc:Bool) (p1:LT):Option Bool:=
  (bif pc then some true else ((ku pa pb pc p1).bind fun r6=>some<|r6 !=32)).bind fun y5=>bif y5 then some false else (yx N pa pb pc p1 N (0,pb))
def Yq (N:Nat) (pa:LT) (pc:Bool) (gJ:(Int×LT)->Option (Int×LT)):(Int×LT)->Option (Int×LT)
  | (y24,zi)=>gJ ((IntKind.wrap .i64<|y24+1),zi)
def FC (N:Nat) (pa:LT) (pc:Bool):Nat->(Int×LT)->Option (Int×LT)
  | 0,_=>none
  | n1+1,(y24,y25)=>(bif (!pc) then (ku pa y24 pc y25).bind fun eP=>bif (eP==1) then some true else ((ku pa y24 pc y25).bind fun lN=>some<|lN==2) else (some false)).bind fun Jp=>bif Jp then (ku pa y24 pc y25).bind fun AA=>bif (AA==2) then (ix pa y24).bind fun e72=>(app 32 y25 [e72]).bind fun x73=>Yq N pa pc (FC N pa pc n1) (y24,x73) else (Yq N pa pc (FC N pa pc n1) (y24,y25)) else (some (y24,y25))
def UK (N:Nat) (pa:LT) (pb:Int) (pc:Bool) (p1:LT):Option (Int×LT):=
  FC N pa pc N (pb,p1)
def ahH (a0:Int):Option Int:=
  (ix [0,0,0,44,45,0,67,63,99,55,57] a0).bind fun e2=>some e2
def Yr (a1:Int) (a2:aF) (pa:LT) (pb:Int) (pc:Bool) (p1:LT):Option Bool:=
  (ku pa pb pc p1).bind fun r2=>(bif pc then some true else (some<|a1==8)).bind fun y7=>bif y7 then (bif (!pc) then (UH r2).bind fun bF=>some bF else (some false)).bind fun y9=>some y9 else ((bif (r2 !=0) then bif (r2 !=99) then (Fq r2).bind fun jI=>bif (jI==a1) then bif (r2 !=62) then some true else (some<|!a2.bg) else (some false) else (some false) else (some false)).bind fun jm=>some jm)
def Hz (a1:Int) (pa:LT) (pb:Int) (pc:Bool) (p1:LT):Option (bS×Int×Bool):=
  (ix pa pb).bind fun e3=>(nZ e3.Kind pa pb pc p1).bind fun r4=>some ((⟨[(⟨a1,0,r4.1.Text,[],[]⟩:aD)],false⟩:bS),r4.2.1,r4.2.2)
structure fD where
  Ci:Int->LT->Int->Bool->LT->Option (bS×Int×Bool×LT)
  HV:LT->Int->Bool->LT->Option (bS×Int×Bool×LT)
  HY:LT->Int->Bool->LT->Option (bS×Int×Bool×LT)
  Mq:aF->LT->Int->Bool->LT->Option (bS×Int×Bool×LT)
  Mr:aF->LT->Int->Bool->LT->Option (bS×Int×Bool×LT)
  FD:aF->LT->Int->Bool->LT->Option (bS×Int×Bool×LT)
  Ms:aF->LT->Int->Bool->LT->Option (bS×Int×Bool×LT)
  qN:aF->Int->Int->LT->Int->Bool->LT->Option (bS×Int×Bool×LT)
  Cj:Int->Int->LT->Int->Bool->LT->Option ((List LN)×Int×Bool×LT)
  Mt:aF->LT->Int->Bool->LT->Option (bS×Int×Bool×LT)
  Mv:aF->LT->Int->Bool->LT->Option (bS×Int×Bool×LT)
  Mw:aF->LT->Int->Bool->LT->Option (bS×Int×Bool×LT)
  eD:aF->LT->Int->Bool->LT->Option (bS×Int×Bool×LT)
  Ck:aF->LT->Int->Bool->LT->Option (bS×Int×Bool×LT)
def Qf (N:Nat) (R:fD) (a1:Int) (pa:LT) (pb:Int) (pc:Bool) (p1:LT):Option (bS×Int×Bool×LT):=
  (ku pa pb pc p1).bind fun r3=>(nZ r3 pa pb pc p1).bind fun r4=>(bif (a1==8) then (ku pa r4.2.1 r4.2.2 p1).bind fun bF=>bif (bF !=32) then some (r4.1.Text==[108,101,110,103,116,104]) else (some false) else (some false)).bind fun y9=>bif y9 then some ((⟨[(⟨a1,0,r4.1.Text,[],[]⟩:aD)],false⟩:bS),r4.2.1,r4.2.2,p1) else ((nZ 32 pa r4.2.1 r4.2.2 p1).bind fun dz=>(R.Cj 33 0 pa dz.2.1 dz.2.2 p1).bind fun eY=>(fJ N (⟨a1,0,r4.1.Text,[],[]⟩:aD) eY.1).bind fun r16=>some ((⟨r16,false⟩:bS),eY.2.1,eY.2.2.1,eY.2.2.2))
def Qg (N:Nat) (R:fD) (pa:LT) (pb:Int) (pc:Bool) (p1:LT):Option (bS×Int×Bool×LT):=
  (nZ 6 pa pb pc p1).bind fun r2=>(ku pa r2.2.1 r2.2.2 p1).bind fun r6=>bif (r6 !=34) then some ((⟨[(⟨1,0,r2.1.Text,[],[]⟩:aD)],false⟩:bS),r2.2.1,r2.2.2,p1) else ((nZ 34 pa r2.2.1 r2.2.2 p1).bind fun r8=>(R.Cj 35 1 pa r8.2.1 r8.2.2 p1).bind fun nY=>(fJ N (⟨5,0,r2.1.Text,[],[]⟩:aD) nY.1).bind fun dz=>some ((⟨dz,false⟩:bS),nY.2.1,nY.2.2.1,nY.2.2.2))
def zD (N:Nat) (R:fD) (pa:LT) (pb:Int) (pc:Bool) (p1:LT):Option (bS×Int×Bool×LT):=
  bif pc then some ((⟨[],false⟩:bS),pb,pc,p1) else ((ku pa pb pc p1).bind fun r16=>bif (r16==3) then (Hz 2 pa pb pc p1).bind fun dR=>some (dR.1,dR.2.1,dR.2.2,p1) else (bif (r16==4) then (Hz 3 pa pb pc p1).bind fun iq=>some (iq.1,iq.2.1,iq.2.2,p1) else (bif (r16==5) then (Hz 4 pa pb pc p1).bind fun dH=>some (dH.1,dH.2.1,dH.2.2,p1) else (bif (r16==6) then (R.HV pa pb pc p1).bind fun gu=>some (gu.1,gu.2.1,gu.2.2.1,gu.2.2.2) else (bif (r16==7) then (R.Ci 7 pa pb pc p1).bind fun dA=>some (dA.1,dA.2.1,dA.2.2.1,dA.2.2.2) else (bif (r16==8) then (R.Ci 8 pa pb pc p1).bind fun gN=>some (gN.1,gN.2.1,gN.2.2.1,gN.2.2.2) else ((nZ 32 pa pb pc p1).bind fun nW=>Option.bind qY fun dZ=>(R.eD dZ pa nW.2.1 nW.2.2 p1).bind fun iN=>(nZ 33 pa iN.2.1 iN.2.2.1 iN.2.2.2).bind fun iW=>some ((⟨iN.1.l,true⟩:bS),iW.2.1,iW.2.2,iN.2.2.2))))))))
def UL (N:Nat) (R:fD) (pa:LT):(Bool×Int×Bool×LN×LT)->Option (bS×Int×Bool×LT)
  | (y21,y22,y23,y24,y25)=>(rM N (⟨6,0,[],[],[]⟩:aD) [y24]).bind fun qA=>some (qA,y22,y23,y25)
def JB (N:Nat) (R:fD) (a1:aF) (pa:LT) (pb:Int) (pc:Bool) (p1:LT):Option (bS×Int×Bool×LT):=
  (ku pa pb pc p1).bind fun r6=>bif (r6 !=68) then (R.HY pa pb pc p1).bind fun r8=>some (r8.1,r8.2.1,r8.2.2.1,r8.2.2.2) else ((nZ 68 pa pb pc p1).bind fun bF=>(ku pa bF.2.1 bF.2.2 p1).bind fun nW=>(Mj nW).bind fun oZ=>bif oZ then (R.Ck a1 pa bF.2.1 bF.2.2 p1).bind fun dZ=>UL N R pa (dZ.1.held,dZ.2.1,dZ.2.2.1,dZ.1.l,dZ.2.2.2) else ((mo a1 14).bind fun iW=>(R.eD iW pa bF.2.1 bF.2.2 p1).bind fun fU=>UL N R pa (fU.1.held,fU.2.1,fU.2.2.1,fU.1.l,fU.2.2.2)))
def JC (N:Nat) (R:fD) (a1:aF) (pa:LT) (pb:Int) (pc:Bool) (p1:LT):Option (bS×Int×Bool×LT):=
  (ku pa pb pc p1).bind fun r9=>(Mj r9).bind fun bF=>bif bF then (R.Ck a1 pa pb pc p1).bind fun dz=>some (dz.1,dz.2.1,dz.2.2.1,dz.2.2.2) else ((mo a1 14).bind fun eY=>(R.eD eY pa pb pc p1).bind fun r16=>(ku pa r16.2.1 r16.2.2.1 r16.2.2.2).bind fun dR=>(bif r16.2.2.1 then some true else ((Mj dR).bind fun qA=>bif (!qA) then some true else ((UJ r16.1).bind fun gN=>some<|!gN))).bind fun nD=>bif nD then some (r16.1,r16.2.1,r16.2.2.1,r16.2.2.2) else ((nZ dR pa r16.2.1 r16.2.2.1 r16.2.2.2).bind fun nW=>(rM N (⟨10,dR,[],[],[]⟩:aD) [r16.1.l]).bind fun r32=>some (r32,nW.2.1,nW.2.2,r16.2.2.2)))
def FE (N:Nat) (R:fD) (a1:aF) (pa:LT) (pb:Int) (pc:Bool) (p1:LT):Option (bS×Int×Bool×LT):=
  (mo a1 13).bind fun r3=>(R.eD r3 pa pb pc p1).bind fun r4=>(bif r4.2.2.1 then some true else ((ku pa r4.2.1 r4.2.2.1 r4.2.2.2).bind fun bF=>some<|bF !=60)).bind fun y9=>bif y9 then some (r4.1,r4.2.1,r4.2.2.1,r4.2.2.2) else ((nZ 60 pa r4.2.1 r4.2.2.1 r4.2.2.2).bind fun dz=>(mo a1 11).bind fun eY=>(R.eD eY pa dz.2.1 dz.2.2 r4.2.2.2).bind fun r16=>(rM N (⟨12,60,[],[],[]⟩:aD) [r4.1.l,r16.1.l]).bind fun dR=>some (dR,r16.2.1,r16.2.2.1,r16.2.2.2))
def JD (N:Nat) (R:fD) (a1:aF) (pa:LT) (pb:Int) (pc:Bool) (p1:LT):Option (bS×Int×Bool×LT):=
  (ku pa pb pc p1).bind fun r2=>(bif (r2==56) then some true else (bif (r2==55) then some true else (some<|r2==61))).bind fun jm=>bif jm then (nZ r2 pa pb pc p1).bind fun cZ=>(mo a1 11).bind fun uQ=>(R.eD uQ pa cZ.2.1 cZ.2.2 p1).bind fun dR=>(rM N (⟨11,r2,[],[],[]⟩:aD) [dR.1.l]).bind fun iq=>some (iq,dR.2.1,dR.2.2.1,dR.2.2.2) else ((R.FD a1 pa pb pc p1).bind fun dH=>some (dH.1,dH.2.1,dH.2.2.1,dH.2.2.2))
def UM (N:Nat) (R:fD) (pa:LT) (JE:(Int×Int×(Int×Int)×aF×Int×Int×Bool×Bool×LT×LN)->Option (bS×Int×Bool×LT)):(Int×Int×(Int×Int)×Int×Int×Bool×aF×Bool×LN×Int×LT)->Option (bS×Int×Bool×LT)
  | (a2,a3,r4,oI,yA,kr,a1,pE,mq,Yt,Yu)=>(mo a1 r4.2).bind fun ahI=>(R.eD ahI pa Yt kr Yu).bind fun oJ=>(rM N (⟨12,yA,[],[],[]⟩:aD) [mq,oJ.1.l]).bind fun Qh=>JE (a2,a3,r4,a1,(IntKind.wrap .i64<|oI+1),oJ.2.1,oJ.2.2.1,Qh.held,oJ.2.2.2,Qh.l)
def UN (N:Nat) (R:fD) (pa:LT) (JE:(Int×Int×(Int×Int)×aF×Int×Int×Bool×Bool×LT×LN)->Option (bS×Int×Bool×LT)):(Int×Int×(Int×Int)×Int×Bool×aF×Bool×LT×LN×Int×Int)->Option (bS×Int×Bool×LT)
  | (a2,a3,r4,oI,kr,a1,pE,rO,mq,yA,Mx)=>(bif (a2==3) then some true else (some<|a2==4)).bind fun pq=>bif pq then (UK N pa Mx kr rO).bind fun Yv=>UM N R pa JE (a2,a3,r4,oI,yA,kr,a1,pE,mq,Yv.1,Yv.2) else (UM N R pa JE (a2,a3,r4,oI,yA,kr,a1,pE,mq,Mx,rO))
def uj (N:Nat) (R:fD) (pa:LT):Nat->(Int×Int×(Int×Int)×aF×Int×Int×Bool×Bool×LT×LN)->Option (bS×Int×Bool×LT)
  | 0,_=>none
  | n2+1,(a2,a3,r4,a1,oI,Cm,kr,pE,rO,mq)=>(bif (decide<|oI < a3) then (Yr a2 a1 pa Cm kr rO).bind fun aoX=>some aoX else (some false)).bind fun ahJ=>bif ahJ then bif (a2 !=8) then (ku pa Cm kr rO).bind fun ahK=>UN N R pa (uj N R pa n2) (a2,a3,r4,oI,kr,a1,pE,rO,mq,ahK,(IntKind.wrap .i64<|Cm+1)) else (UN N R pa (uj N R pa n2) (a2,a3,r4,oI,kr,a1,pE,rO,mq,99,Cm)) else (some ((⟨mq,pE⟩:bS),Cm,kr,rO))
def adu (N:Nat) (R:fD) (pa:LT):(Int×Int×(Int×Int)×Int×Bool×aF×LT×Int)->Option (bS×Int×Bool×LT)
  | (a2,a3,r4,pb,pc,a1,p1,y5)=>(mo a1 y5).bind fun r8=>(R.eD r8 pa pb pc p1).bind fun r9=>uj N R pa N (a2,a3,r4,a1,0,r9.2.1,r9.2.2.1,r9.1.held,r9.2.2.2,r9.1.l)
def Yw (N:Nat) (R:fD) (a1:aF) (a2:Int) (a3:Int) (pa:LT) (pb:Int) (pc:Bool) (p1:LT):Option (bS×Int×Bool×LT):=
  (ahH a2).bind fun r3=>(Uc r3).bind fun r4=>bif (decide<|a3 > 1) then adu N R pa (a2,a3,r4,pb,pc,a1,p1,(IntKind.wrap .i64<|a2+1)) else (adu N R pa (a2,a3,r4,pb,pc,a1,p1,r4.1))
def Yx (N:Nat) (R:fD) (pa:LT):(Int×Int×Bool×(List LN)×LT)->Option ((List LN)×Int×Bool×LT)
  | (a1,lD,nT,y66,zi)=>(nZ a1 pa lD nT zi).bind fun AA=>some (y66,AA.2.1,AA.2.2,zi)
def Yy (N:Nat) (R:fD) (pa:LT) (JE:(Int×Int×Bool×(List LN)×LT)->Option ((List LN)×Int×Bool×LT)):(Int×(bS×Int×Bool×LT)×(List LN)×Bool)->Option ((List LN)×Int×Bool×LT)
  | (a1,jK,x113,rF)=>(nZ 36 pa jK.2.1 rF jK.2.2.2).bind fun Cn=>(UK N pa Cn.2.1 Cn.2.2 jK.2.2.2).bind fun uM=>JE (a1,uM.1,Cn.2.2,x113,uM.2)
def HZ (N:Nat) (R:fD) (pa:LT):Nat->(Int×Int×Bool×(List LN)×LT)->Option ((List LN)×Int×Bool×LT)
  | 0,_=>none
  | n2+1,(a1,xG,mO,Ht,Qi)=>bif (!mO) then Option.bind qY fun AP=>(R.eD AP pa xG mO Qi).bind fun jK=>(app 24 Ht [jK.1.l]).bind fun x113=>(ku pa jK.2.1 jK.2.2.1 jK.2.2.2).bind fun aoY=>bif (aoY !=36) then Yx N R pa (a1,jK.2.1,jK.2.2.1,x113,jK.2.2.2) else (bif ((x113.length:Int)==6) then Yy N R pa (HZ N R pa n2) (a1,jK,x113,true) else (Yy N R pa (HZ N R pa n2) (a1,jK,x113,jK.2.2.1))) else (Yx N R pa (a1,xG,mO,Ht,Qi))
def Qj (N:Nat) (R:fD) (a1:Int) (a2:Int) (pa:LT) (pb:Int) (pc:Bool) (p1:LT):Option ((List LN)×Int×Bool×LT):=
  (bif (a2==0) then (ku pa pb pc p1).bind fun r8=>some (r8==a1) else (some false)).bind fun y7=>bif y7 then (nZ a1 pa pb pc p1).bind fun bF=>some ([],bF.2.1,bF.2.2,p1) else (HZ N R pa N (a1,pb,pc,[],p1))
def MB (N:Nat) (R:fD) (pa:LT):Nat->(aF×LT×Int×Bool×Bool×LN)->Option (bS×Int×Bool×LT)
  | 0,_=>none
  | n2+1,(a1,y21,nE,lS,xG,mO)=>(bif (!lS) then bif (!a1.aX) then (ku pa nE lS y21).bind fun vZ=>some (vZ==24) else (some false) else (some false)).bind fun Tf=>bif Tf then (nZ 24 pa nE lS y21).bind fun AP=>(nZ 6 pa AP.2.1 AP.2.2 y21).bind fun mg=>(rM N (⟨13,0,mg.1.Text,[],[]⟩:aD) [mO]).bind fun yh=>(MB N R pa n2) (a1,y21,mg.2.1,mg.2.2,yh.held,yh.l) else (some ((⟨mO,xG⟩:bS),nE,lS,y21))
def adw (N:Nat) (R:fD) (pa:LT):(aF×Int×Bool×Bool×LT×LN)->Option (bS×Int×Bool×LT)
  | (a1,qC,gW,y20,y21,y22)=>MB N R pa N (a1,y21,qC,gW,y20,y22)
def UO (N:Nat) (R:fD) (a1:aF) (pa:LT) (pb:Int) (pc:Bool) (p1:LT):Option (bS×Int×Bool×LT):=
  (bif (!a1.aX) then (Ml N pa pb pc p1).bind fun adx=>some adx else (some false)).bind fun rF=>bif rF then (nZ 32 pa pb pc p1).bind fun oD=>(R.Cj 33 1 pa oD.2.1 oD.2.2 p1).bind fun sM=>(nZ 24 pa sM.2.1 sM.2.2.1 sM.2.2.2).bind fun Yz=>(nZ 6 pa Yz.2.1 Yz.2.2 sM.2.2.2).bind fun yB=>(fJ N (⟨13,0,yB.1.Text,[],[]⟩:aD) sM.1).bind fun qz=>adw N R pa (a1,yB.2.1,yB.2.2,false,sM.2.2.2,qz) else ((mo a1 6).bind fun Dz=>(R.eD Dz pa pb pc p1).bind fun oF=>adw N R pa (a1,oF.2.1,oF.2.2.1,oF.1.held,oF.2.2.2,oF.1.l))
def Qk (N:Nat) (R:fD) (a1:aF) (pa:LT) (pb:Int) (pc:Bool) (p1:LT):Option (bS×Int×Bool×LT):=
  (mo a1 3).bind fun r3=>(R.eD r3 pa pb pc p1).bind fun r4=>(bif r4.2.2.1 then some true else ((ku pa r4.2.1 r4.2.2.1 r4.2.2.2).bind fun bF=>some<|bF !=65)).bind fun y9=>bif y9 then some (r4.1,r4.2.1,r4.2.2.1,r4.2.2.2) else ((nZ 65 pa r4.2.1 r4.2.2.1 r4.2.2.2).bind fun dz=>(mo a1 2).bind fun eY=>(R.eD eY pa dz.2.1 dz.2.2 r4.2.2.2).bind fun r16=>(nZ 66 pa r16.2.1 r16.2.2.1 r16.2.2.2).bind fun dR=>(mo a1 2).bind fun oW=>(R.eD oW pa dR.2.1 dR.2.2 r16.2.2.2).bind fun dH=>(rM N (⟨14,0,[],[],[]⟩:aD) [r4.1.l,r16.1.l,dH.1.l]).bind fun gu=>some (gu,dH.2.1,dH.2.2.1,dH.2.2.2))
def Ql (N:Nat) (R:fD) (a1:aF) (pa:LT) (pb:Int) (pc:Bool) (p1:LT):Option (bS×Int×Bool×LT):=
  (mo a1 2).bind fun r3=>(R.eD r3 pa pb pc p1).bind fun r4=>(bif r4.2.2.1 then some true else ((UJ r4.1).bind fun r16=>bif (!r16) then some true else ((ku pa r4.2.1 r4.2.2.1 r4.2.2.2).bind fun uQ=>(BZ uQ).bind fun dR=>some<|!dR))).bind fun fF=>bif fF then some (r4.1,r4.2.1,r4.2.2.1,r4.2.2.2) else ((ku pa r4.2.1 r4.2.2.1 r4.2.2.2).bind fun iq=>(nZ iq pa r4.2.1 r4.2.2.1 r4.2.2.2).bind fun dH=>(mo a1 1).bind fun Fh=>(R.eD Fh pa dH.2.1 dH.2.2 r4.2.2.2).bind fun dA=>(rM N (⟨15,iq,[],[],[]⟩:aD) [r4.1.l,dA.1.l]).bind fun gN=>some (gN,dA.2.1,dA.2.2.1,dA.2.2.2))
def Qm (N:Nat) (R:fD) (pa:LT):(aF×Int×Bool×LT×Bool)->Option (bS×Int×Bool×LT)
  | (a1,pb,pc,p1,pY)=>bif pY then (R.qN a1 a1.Level 3000 pa pb pc p1).bind fun r32=>some (r32.1,r32.2.1,r32.2.2.1,r32.2.2.2) else (bif (a1.Level==11) then (R.Ms a1 pa pb pc p1).bind fun iN=>some (iN.1,iN.2.1,iN.2.2.1,iN.2.2.2) else (bif (a1.Level==12) then (R.FD a1 pa pb pc p1).bind fun iW=>some (iW.1,iW.2.1,iW.2.2.1,iW.2.2.2) else (bif (a1.Level==13) then (R.Mr a1 pa pb pc p1).bind fun jD=>some (jD.1,jD.2.1,jD.2.2.1,jD.2.2.2) else (bif (a1.Level==14) then (R.Mq a1 pa pb pc p1).bind fun mh=>some (mh.1,mh.2.1,mh.2.2.1,mh.2.2.2) else ((R.HY pa pb pc p1).bind fun sP=>some (sP.1,sP.2.1,sP.2.2.1,sP.2.2.2))))))
def ady (N:Nat) (R:fD) (pa:LT):(aF×Int×Bool×LT×Bool)->Option (bS×Int×Bool×LT)
  | (a1,pb,pc,p1,y27)=>bif y27 then (R.qN a1 a1.Level 1 pa pb pc p1).bind fun qB=>some (qB.1,qB.2.1,qB.2.2.1,qB.2.2.2) else (bif (a1.Level==3) then Qm N R pa (a1,pb,pc,p1,(a1.Level==3)) else (bif (a1.Level==4) then Qm N R pa (a1,pb,pc,p1,(a1.Level==4)) else (bif (a1.Level==8) then Qm N R pa (a1,pb,pc,p1,(a1.Level==8)) else (bif (a1.Level==9) then Qm N R pa (a1,pb,pc,p1,(a1.Level==9)) else (Qm N R pa (a1,pb,pc,p1,(a1.Level==10)))))))
def jh (N:Nat) (R:fD) (a1:aF) (pa:LT) (pb:Int) (pc:Bool) (p1:LT):Option (bS×Int×Bool×LT):=
  bif pc then some ((⟨[],false⟩:bS),pb,pc,p1) else (bif (a1.Level==1) then (R.Mw a1 pa pb pc p1).bind fun dH=>some (dH.1,dH.2.1,dH.2.2.1,dH.2.2.2) else (bif (a1.Level==2) then (R.Mv a1 pa pb pc p1).bind fun gu=>some (gu.1,gu.2.1,gu.2.2.1,gu.2.2.2) else (bif (a1.Level==5) then (R.Mt a1 pa pb pc p1).bind fun dA=>some (dA.1,dA.2.1,dA.2.2.1,dA.2.2.2) else (bif (a1.Level==6) then ady N R pa (a1,pb,pc,p1,(a1.Level==6)) else (ady N R pa (a1,pb,pc,p1,(a1.Level==7)))))))
def YA (N:Nat) (R:fD) (pa:LT):(Int×(aG×Int×Bool)×aF×LT×Bool)->Option (bS×Int×Bool×LT)
  | (r2,r4,a1,p1,kg)=>(mo a1 14).bind fun jI=>(R.eD jI pa r4.2.1 kg p1).bind fun cZ=>(rM N (⟨9,r2,[],[],[]⟩:aD) [cZ.1.l]).bind fun r16=>some (r16,cZ.2.1,cZ.2.2.1,cZ.2.2.2)
def YB (N:Nat) (R:fD) (a1:aF) (pa:LT) (pb:Int) (pc:Bool) (p1:LT):Option (bS×Int×Bool×LT):=
  (ku pa pb pc p1).bind fun r2=>(nZ r2 pa pb pc p1).bind fun r4=>((ku pa r4.2.1 r4.2.2 p1).bind fun iq=>bif (iq !=6) then (ku pa r4.2.1 r4.2.2 p1).bind fun oW=>some (oW !=68) else (some false)).bind fun gW=>bif gW then YA N R pa (r2,r4,a1,p1,true) else (YA N R pa (r2,r4,a1,p1,r4.2.2))
def bq:Nat->fD
  | 0=>⟨fun _ _ _ _ _=>none,fun _ _ _ _=>none,fun _ _ _ _=>none,fun _ _ _ _ _=>none,fun _ _ _ _ _=>none,fun _ _ _ _ _=>none,fun _ _ _ _ _=>none,fun _ _ _ _ _ _ _=>none,fun _ _ _ _ _ _=>none,fun _ _ _ _ _=>none,fun _ _ _ _ _=>none,fun _ _ _ _ _=>none,fun _ _ _ _ _=>none,fun _ _ _ _ _=>none⟩
  | N+1=>⟨fun a1 pa pb pc p1=>Qf N (bq N) a1 pa pb pc p1,fun pa pb pc p1=>Qg N (bq N) pa pb pc p1,fun pa pb pc p1=>zD N (bq N) pa pb pc p1,fun a1 pa pb pc p1=>JB N (bq N) a1 pa pb pc p1,fun a1 pa pb pc p1=>JC N (bq N) a1 pa pb pc p1,fun a1 pa pb pc p1=>FE N (bq N) a1 pa pb pc p1,fun a1 pa pb pc p1=>JD N (bq N) a1 pa pb pc p1,fun a1 a2 a3 pa pb pc p1=>Yw N (bq N) a1 a2 a3 pa pb pc p1,fun a1 a2 pa pb pc p1=>Qj N (bq N) a1 a2 pa pb pc p1,fun a1 pa pb pc p1=>UO N (bq N) a1 pa pb pc p1,fun a1 pa pb pc p1=>Qk N (bq N) a1 pa pb pc p1,fun a1 pa pb pc p1=>Ql N (bq N) a1 pa pb pc p1,fun a1 pa pb pc p1=>jh N (bq N) a1 pa pb pc p1,fun a1 pa pb pc p1=>YB N (bq N) a1 pa pb pc p1⟩
def Ci (N:Nat) (a1:Int) (pa:LT) (pb:Int) (pc:Bool) (p1:LT):Option (bS×Int×Bool×LT):=(bq N).Ci a1 pa pb pc p1
def HV (N:Nat) (pa:LT) (pb:Int) (pc:Bool) (p1:LT):Option (bS×Int×Bool×LT):=(bq N).HV pa pb pc p1
def HY (N:Nat) (pa:LT) (pb:Int) (pc:Bool) (p1:LT):Option (bS×Int×Bool×LT):=(bq N).HY pa pb pc p1
def Mq (N:Nat) (a1:aF) (pa:LT) (pb:Int) (pc:Bool) (p1:LT):Option (bS×Int×Bool×LT):=(bq N).Mq a1 pa pb pc p1
def Mr (N:Nat) (a1:aF) (pa:LT) (pb:Int) (pc:Bool) (p1:LT):Option (bS×Int×Bool×LT):=(bq N).Mr a1 pa pb pc p1
def FD (N:Nat) (a1:aF) (pa:LT) (pb:Int) (pc:Bool) (p1:LT):Option (bS×Int×Bool×LT):=(bq N).FD a1 pa pb pc p1
def Ms (N:Nat) (a1:aF) (pa:LT) (pb:Int) (pc:Bool) (p1:LT):Option (bS×Int×Bool×LT):=(bq N).Ms a1 pa pb pc p1
def qN (N:Nat) (a1:aF) (a2:Int) (a3:Int) (pa:LT) (pb:Int) (pc:Bool) (p1:LT):Option (bS×Int×Bool×LT):=(bq N).qN a1 a2 a3 pa pb pc p1
def Cj (N:Nat) (a1:Int) (a2:Int) (pa:LT) (pb:Int) (pc:Bool) (p1:LT):Option ((List LN)×Int×Bool×LT):=(bq N).Cj a1 a2 pa pb pc p1
def Mt (N:Nat) (a1:aF) (pa:LT) (pb:Int) (pc:Bool) (p1:LT):Option (bS×Int×Bool×LT):=(bq N).Mt a1 pa pb pc p1
def Mv (N:Nat) (a1:aF) (pa:LT) (pb:Int) (pc:Bool) (p1:LT):Option (bS×Int×Bool×LT):=(bq N).Mv a1 pa pb pc p1
def Mw (N:Nat) (a1:aF) (pa:LT) (pb:Int) (pc:Bool) (p1:LT):Option (bS×Int×Bool×LT):=(bq N).Mw a1 pa pb pc p1
def eD (N:Nat) (a1:aF) (pa:LT) (pb:Int) (pc:Bool) (p1:LT):Option (bS×Int×Bool×LT):=(bq N).eD a1 pa pb pc p1
def Ck (N:Nat) (a1:aF) (pa:LT) (pb:Int) (pc:Bool) (p1:LT):Option (bS×Int×Bool×LT):=(bq N).Ck a1 pa pb pc p1
def YC (N:Nat) (a0:LN):Option yg:=
  bif (decide<|(a0.length:Int) > 400) then some (⟨1,0⟩:yg) else ((Pb N a0).bind fun r4=>bif (decide<|r4 > 40) then some (⟨4,0⟩:yg) else (some (⟨0,0⟩:yg)))
def YD (N:Nat):(LT×Int×Bool×Bool×LT×LN)->Option (LN×Int×yg)
  | (a0,qy,Ju,Mc,uf,Fz)=>bif Ju then (Yo a0 qy 3).bind fun fM=>some ([],0,fM) else ((YC N Fz).bind fun Qn=>bif (Qn.Kind !=0) then some ([],0,Qn) else (some (Fz,qy,(⟨0,0⟩:yg))))
def Gq (N:Nat) (a0:LT) (a1:aF):Option (LN×Int×yg):=
  (He a1).bind fun r4=>bif (!r4) then some ([],0,(⟨3,0⟩:yg)) else ((Kz N a0).bind fun r8=>bif (!r8) then some ([],0,(⟨2,0⟩:yg)) else ((adt N a0).bind fun bF=>bif (decide<|bF>=0) then (Yo a0 bF 4).bind fun cZ=>some ([],0,cZ) else ((bif a1.eH then bif ((a0.length:Int)==0) then some true else ((ix a0 0).bind fun e25=>(UH e25.Kind).bind fun dA=>some<|!dA) else (some false)).bind fun y24=>bif y24 then (Yo a0 0 3).bind fun gN=>some ([],0,gN) else ((bif a1.nU then (ku a0 0 false []).bind fun nI=>(Mj nI).bind fun LH=>some LH else (some false)).bind fun Pv=>bif Pv then (Ck N a1 a0 0 false []).bind fun eP=>YD N (a0,eP.2.1,eP.2.2.1,eP.1.held,eP.2.2.2,eP.1.l) else ((eD N a1 a0 0 false []).bind fun FH=>YD N (a0,FH.2.1,FH.2.2.1,FH.1.held,FH.2.2.2,FH.1.l))))))
def YE (N:Nat) (a0:LN) (a1:Int):Option LN:=
  (Xk N a0).bind fun r2=>(ix r2.1 a1).bind fun e7=>(cut a0 e7<|IntKind.wrap .i64<|a1+1).bind fun l8=>(ix r2.1 a1).bind fun e9=>(OA N l8<|IntKind.wrap .i64<|0 - e9).bind fun bF=>some bF
def Ny (N:Nat) (a0:LN) (a1:Int):Option LN:=
  ((IB N a0).bind fun r9=>bif (!r9) then some true else ((oG a1 0<|IntKind.wrap .i64<|(a0.length:Int) - 1).bind fun bF=>some<|!bF)).bind fun y8=>bif y8 then some [] else ((YE N a0 a1).bind fun dz=>some dz)
def Qo (N:Nat):Nat->((List Int)×(List Int)×Int)->Option Bool
  | 0,_=>none
  | n1+1,(a0,a1,jy)=>bif (decide<|jy < (a0.length:Int)) then (ix a0 jy).bind fun e51=>(ix a1 jy).bind fun e52=>bif (e51 !=e52) then some false else ((Qo N n1) (a0,a1,(IntKind.wrap .i64<|jy+1))) else (some true)
def YF (N:Nat) (a0:List Int) (a1:List Int):Option Bool:=
  bif ((a0.length:Int) !=(a1.length:Int)) then some false else (Qo N N (a0,a1,0))
def Qp (N:Nat):Nat->(LN×LN×Int)->Option Bool
  | 0,_=>none
  | n1+1,(a0,a1,xH)=>bif (decide<|xH < (a0.length:Int)) then ((ix a0 xH).bind fun e270=>(ix a1 xH).bind fun e271=>bif (e270.Kind !=e271.Kind) then some true else ((ix a0 xH).bind fun e272=>(ix a1 xH).bind fun e273=>bif (e272.Op !=e273.Op) then some true else ((ix a0 xH).bind fun e274=>(ix a1 xH).bind fun e275=>bif (!(e274.Text==e275.Text)) then some true else ((ix a0 xH).bind fun aoZ=>(ix a1 xH).bind fun apa=>bif (!(aoZ.Other==apa.Other)) then some true else ((ix a0 xH).bind fun e278=>(ix a1 xH).bind fun e279=>(YF N e278.Kids e279.Kids).bind fun apb=>some<|!apb))))).bind fun ahL=>bif ahL then some false else ((Qp N n1) (a0,a1,(IntKind.wrap .i64<|xH+1))) else (some true)
def Nz (N:Nat) (a0:LN) (a1:LN):Option Bool:=
  bif ((a0.length:Int) !=(a1.length:Int)) then some false else (Qp N N (a0,a1,0))
structure zF where
  Co:(List Int)->Int->LN->Bool->(List aR)->Option (Int×(List aR))
  uT:Int->aF->Int->LN->Bool->(List aR)->Option (Int×(List aR))
  kJ:Int->aF->Int->LN->Bool->(List aR)->Option (Int×(List aR))
def UQ (N:Nat) (R:zF) (pa:LN) (pb:Bool) (gJ:((List Int)×Int×Int×(List aR))->Option (Int×(List aR))):((List Int)×Int×(List aR)×Int)->Option (Int×(List aR))
  | (a1,qc,jR,mO)=>(ix a1 qc).bind fun e90=>Option.bind qY fun Jh=>(R.kJ e90 Jh mO pa pb jR).bind fun GZ=>gJ (a1,GZ.1,(IntKind.wrap .i64<|qc+1),GZ.2)
def FI (N:Nat) (R:zF) (pa:LN) (pb:Bool):Nat->((List Int)×Int×Int×(List aR))->Option (Int×(List aR))
  | 0,_=>none
  | n1+1,(a1,qK,qc,jR)=>bif (decide<|qc < (a1.length:Int)) then bif (decide<|qc > 0) then UQ N R pa pb (FI N R pa pb n1) (a1,qc,jR,(IntKind.wrap .i64<|qK+1)) else (UQ N R pa pb (FI N R pa pb n1) (a1,qc,jR,qK)) else (some (qK,jR))
def ahN (N:Nat) (R:zF) (a1:List Int) (a2:Int) (pa:LN) (pb:Bool) (p1:List aR):Option (Int×(List aR)):=
  FI N R pa pb N (a1,a2,0,p1)
def pF (N:Nat) (R:zF) (pa:LN) (pb:Bool):(Int×Int×(List aR))->Option (Int×(List aR))
  | (a1,Cb,Lh)=>(ix Lh a1).bind fun e78=>(upd Lh a1 (⟨e78.From,Cb⟩:aR)).bind fun x79=>some (Cb,x79)
def UR (N:Nat) (R:zF) (pa:LN) (pb:Bool):(Int×aF×aD×(Int×(List aR))×Int)->Option (Int×(List aR))
  | (a1,a2,e2,ko,YG)=>(ix e2.Kids 1).bind fun YH=>(fO e2 1 a2).bind fun YI=>(R.kJ YH YI YG pa pb ko.2).bind fun MC=>pF N R pa pb (a1,MC.1,MC.2)
def adz (N:Nat) (R:zF) (pa:LN) (pb:Bool):(Int×Int×aD×aF×(List aR)×Bool)->Option (Int×(List aR))
  | (a1,a3,e2,a2,x6,y101)=>bif y101 then (ix e2.Kids 0).bind fun Fv=>(fO e2 0 a2).bind fun qJ=>(R.kJ Fv qJ (IntKind.wrap .i64<|a3+1) pa pb x6).bind fun zl=>pF N R pa pb (a1,zl.1,zl.2) else (bif (e2.Kind==13) then bif (decide<|(e2.Kids.length:Int) > 1) then (R.Co e2.Kids (IntKind.wrap .i64<|a3+1) pa pb x6).bind fun vZ=>pF N R pa pb (a1,(IntKind.wrap .i64<|vZ.1+3),vZ.2) else ((ix e2.Kids 0).bind fun Qq=>(fO e2 0 a2).bind fun sJ=>(R.kJ Qq sJ a3 pa pb x6).bind fun oz=>pF N R pa pb (a1,(IntKind.wrap .i64<|oz.1+2),oz.2)) else (bif (e2.Kind==14) then (ix e2.Kids 0).bind fun e119=>(fO e2 0 a2).bind fun Cn=>(R.kJ e119 Cn a3 pa pb x6).bind fun oD=>(ix e2.Kids 1).bind fun e125=>(fO e2 1 a2).bind fun YJ=>(R.kJ e125 YJ (IntKind.wrap .i64<|oD.1+1) pa pb oD.2).bind fun yB=>(ix e2.Kids 2).bind fun YK=>(fO e2 2 a2).bind fun Dz=>(R.kJ YK Dz (IntKind.wrap .i64<|yB.1+1) pa pb yB.2).bind fun oF=>pF N R pa pb (a1,oF.1,oF.2) else (bif (e2.Kind==12) then (ix e2.Kids 0).bind fun e137=>(fO e2 0 a2).bind fun Lm=>(R.kJ e137 Lm a3 pa pb x6).bind fun ko=>bif (e2.Op !=99) then UR N R pa pb (a1,a2,e2,ko,(IntKind.wrap .i64<|ko.1+1)) else (UR N R pa pb (a1,a2,e2,ko,ko.1)) else (pF N R pa pb (a1,(IntKind.wrap .i64<|a3+1),x6)))))
def ME (N:Nat) (R:zF) (pa:LN) (pb:Bool):(Int×Int×aD×aF×(List aR)×Bool)->Option (Int×(List aR))
  | (a1,a3,e2,a2,x6,y80)=>bif y80 then (R.Co e2.Kids (IntKind.wrap .i64<|a3+2) pa pb x6).bind fun MF=>pF N R pa pb (a1,(IntKind.wrap .i64<|MF.1+1),MF.2) else (bif (e2.Kind==9) then (ix e2.Kids 0).bind fun sU=>(R.uT sU (⟨14,false,false,false,false⟩:aF) (IntKind.wrap .i64<|a3+1) pa pb x6).bind fun nV=>pF N R pa pb (a1,nV.1,nV.2) else (bif (e2.Kind==10) then (ix e2.Kids 0).bind fun YL=>(R.uT YL (⟨14,false,false,false,false⟩:aF) a3 pa pb x6).bind fun oQ=>pF N R pa pb (a1,(IntKind.wrap .i64<|oQ.1+1),oQ.2) else (bif (e2.Kind==15) then (ix e2.Kids 1).bind fun YM=>(fO e2 1 a2).bind fun Hl=>(ix e2.Kids 0).bind fun YN=>(R.uT YN (⟨14,false,false,false,false⟩:aF) a3 pa pb x6).bind fun Cg=>(R.kJ YM Hl (IntKind.wrap .i64<|Cg.1+1) pa pb Cg.2).bind fun sH=>pF N R pa pb (a1,sH.1,sH.2) else (bif (e2.Kind==6) then adz N R pa pb (a1,a3,e2,a2,x6,(e2.Kind==6)) else (adz N R pa pb (a1,a3,e2,a2,x6,(e2.Kind==11)))))))
def YO (N:Nat) (R:zF) (a1:Int) (a2:aF) (a3:Int) (pa:LN) (pb:Bool) (p1:List aR):Option (Int×(List aR)):=
  (ix pa a1).bind fun e2=>(ix p1 a1).bind fun e5=>(upd p1 a1 (⟨a3,e5.To⟩:aR)).bind fun x6=>bif (e2.Kind==5) then ME N R pa pb (a1,a3,e2,a2,x6,(e2.Kind==5)) else (bif (e2.Kind==7) then ME N R pa pb (a1,a3,e2,a2,x6,(e2.Kind==7)) else (ME N R pa pb (a1,a3,e2,a2,x6,(e2.Kind==8))))
def YP (N:Nat) (R:zF) (a1:Int) (a2:aF) (a3:Int) (pa:LN) (pb:Bool) (p1:List aR):Option (Int×(List aR)):=
  (ix pa a1).bind fun e9=>(Ua e9 a2).bind fun bF=>bif bF then (R.uT a1 a2 a3 pa pb p1).bind fun dz=>some (dz.1,dz.2) else (Option.bind qY fun eY=>(R.uT a1 eY (IntKind.wrap .i64<|a3+1) pa pb p1).bind fun r16=>some ((IntKind.wrap .i64<|r16.1+1),r16.2))
def gF:Nat->zF
  | 0=>⟨fun _ _ _ _ _=>none,fun _ _ _ _ _ _=>none,fun _ _ _ _ _ _=>none⟩
  | N+1=>⟨fun a1 a2 pa pb p1=>ahN N (gF N) a1 a2 pa pb p1,fun a1 a2 a3 pa pb p1=>YO N (gF N) a1 a2 a3 pa pb p1,fun a1 a2 a3 pa pb p1=>YP N (gF N) a1 a2 a3 pa pb p1⟩
def Co (N:Nat) (a1:List Int) (a2:Int) (pa:LN) (pb:Bool) (p1:List aR):Option (Int×(List aR)):=(gF N).Co a1 a2 pa pb p1
def uT (N:Nat) (a1:Int) (a2:aF) (a3:Int) (pa:LN) (pb:Bool) (p1:List aR):Option (Int×(List aR)):=(gF N).uT a1 a2 a3 pa pb p1
def kJ (N:Nat) (a1:Int) (a2:aF) (a3:Int) (pa:LN) (pb:Bool) (p1:List aR):Option (Int×(List aR)):=(gF N).kJ a1 a2 a3 pa pb p1
def Nt (N:Nat) (a0:LN) (a1:aF):Option (List aR):=
  ((Fp N a0).bind fun r9=>bif (!r9) then some true else ((He a1).bind fun bF=>some<|!bF)).bind fun y8=>bif y8 then some [] else ((mk 16 (⟨0,0⟩:aR) (a0.length:Int)).bind fun x12=>(kJ N (IntKind.wrap .i64<|(a0.length:Int) - 1) a1 0 a0 false x12).bind fun cZ=>some cZ.2)
def CW (N:Nat) (gJ:(Int×(List aR)×Int×Int)->Option Int):(Int×Int×(List aR)×Int)->Option Int
  | (a2,lS,r2,Fy)=>gJ (a2,r2,Fy,(IntKind.wrap .i64<|lS+1))
def yY (N:Nat):Nat->(Int×(List aR)×Int×Int)->Option Int
  | 0,_=>none
  | n1+1,(a2,r2,nE,lS)=>bif (decide<|lS < (r2.length:Int)) then ((ix r2 lS).bind fun ahQ=>bif (decide<|ahQ.From<=a2) then (ix r2 lS).bind fun ahR=>bif (decide<|a2 < ahR.To) then bif (decide<|nE < 0) then some true else ((ix r2 lS).bind fun e137=>(ix r2 lS).bind fun e138=>(ix r2 nE).bind fun ahS=>(ix r2 nE).bind fun ahT=>some<|decide<|(IntKind.wrap .i64<|e137.To - e138.From) < (IntKind.wrap .i64<|ahS.To - ahT.From)) else (some false) else (some false)).bind fun ahU=>bif ahU then CW N (yY N n1) (a2,lS,r2,lS) else (CW N (yY N n1) (a2,lS,r2,nE)) else (some nE)
def NA (N:Nat) (a0:LN) (a1:aF) (a2:Int):Option Int:=
  (Nt N a0 a1).bind fun r2=>yY N N (a2,r2,(-1),0)
def EB (N:Nat):Nat->((LN×aF×Int)×LT×(List aR)×Int)->Option Bool
  | 0,_=>none
  | n1+1,(r6,bF,r8,kT)=>bif (decide<|kT < (r8.length:Int)) then ((ix r8 kT).bind fun ahV=>bif (decide<|ahV.From < 0) then some true else ((ix r8 kT).bind fun ahW=>bif (decide<|ahW.To > (bF.length:Int)) then some true else ((ix r8 kT).bind fun ahX=>(ix r8 kT).bind fun ahY=>some<|decide<|ahX.From>=ahY.To))).bind fun ahZ=>bif ahZ then some false else ((ix r8 kT).bind fun aia=>(ix r8 kT).bind fun aib=>(cut bF aia.From aib.To).bind fun aic=>Option.bind qY fun aie=>(Gq N aic aie).bind fun UU=>(bif (decide<|(bF.length:Int) < 120) then bif (UU.2.2.Kind !=0) then some true else ((ix r8 kT).bind fun aif=>(ix r8 kT).bind fun aii=>bif (UU.2.1 !=(IntKind.wrap .i64<|aif.To - aii.From)) then some true else ((Ny N r6.1 kT).bind fun adB=>(Nz N UU.1 adB).bind fun apd=>some<|!apd)) else (some false)).bind fun aij=>bif aij then some false else ((EB N n1) (r6,bF,r8,(IntKind.wrap .i64<|kT+1)))) else ((Ae N r6.1 r6.2.1 r6.2.2).bind fun YQ=>((NA N r6.1 r6.2.1 r6.2.2).bind fun ape=>bif (YQ==ape) then bif (decide<|YQ < 0) then some true else ((ix r8 YQ).bind fun aik=>bif (decide<|aik.From<=r6.2.2) then (ix r8 YQ).bind fun ail=>some (decide<|r6.2.2 < ail.To) else (some false)) else (some false)).bind fun ain=>some ain)
def RJ (N:Nat) (a0:LU):Option Bool:=
  (acn a0).bind fun r4=>bif r4 then some true else ((NC N a0).bind fun r6=>(xV N r6.1 r6.2.1).bind fun r8=>(CX N r6.1 r6.2.1).bind fun bF=>((Fp N r6.1).bind fun dH=>bif (!dH) then some true else ((He r6.2.1).bind fun qI=>some<|!qI)).bind fun y21=>bif y21 then (bif ((r8.length:Int)==0) then (Ae N r6.1 r6.2.1 r6.2.2).bind fun dA=>some (dA==(-1)) else (some false)).bind fun y25=>some y25 else (bif ((r8.length:Int) !=(r6.1.length:Int)) then some false else (EB N N (r6,bF,r8,0))))
def mW (x:aD):Prop:=x.Text.length<=1048576/\x.Other.length<=1048576/\x.Kids.length<=1048576
end Go.Proofs.Tryz
