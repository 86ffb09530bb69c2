/-
  Models of the functions that this seat reaches.
-/
import Derived.Test.YtobpmdjghijneaaGreatDoorGTab
import Derived.Test.YtobpmdjghijneaaGreatDoorGCore6
namespace Go.Proofs.Tryz
open Go.Av
set_option maxRecDepth 100000
set_option maxHeartbeats 8000000
set_option linter.all false
def qX:List (List UInt8):=[[66,69,71,73,78],[69,78,68],[102,117,110,99,116,105,111,110],[105,102],[101,108,115,101],[119,104,105,108,101],[102,111,114],[100,111],[98,114,101,97,107],[99,111,110,116,105,110,117,101],[110,101,120,116],[101,120,105,116],[114,101,116,117,114,110],[100,101,108,101,116,101],[105,110],[112,114,105,110,116],[112,114,105,110,116,102]]
def yP:List (List UInt8):=[[123],[125],[40],[41],[91],[93],[44],[59],[43,61],[45,61],[42,61],[47,61],[37,61],[94,61],[124,124],[38,38],[33,126],[61,61],[60,61],[62,61],[33,61],[43,43],[45,45],[62,62],[61],[43],[45],[42],[47],[37],[94],[33],[62],[60],[124],[63],[58],[126],[36]]
def yQ:List (List UInt8):=[[97,116,97,110,50],[99,108,111,115,101],[99,111,115],[101,120,112],[103,115,117,98],[105,110,100,101,120],[105,110,116],[108,101,110,103,116,104],[108,111,103],[109,97,116,99,104],[114,97,110,100],[115,105,110],[115,112,108,105,116],[115,112,114,105,110,116,102],[115,113,114,116],[115,114,97,110,100],[115,117,98],[115,117,98,115,116,114],[115,121,115,116,101,109],[116,111,108,111,119,101,114],[116,111,117,112,112,101,114]]
def GG:Nat->Option (List V)
  | 0=>some (qX.map V.s)
  | 1=>some (yP.map V.s)
  | 2=>some (yQ.map V.s)
  | _=>none
def GS (l:List Nat) (g:Nat):Option (List V):=bif l.contains g then GG g else none
def dh {f:FuncId} {vs:List V} {H:Hp} {r:V} {H1:Hp} {l l1:List Nat} (h:AC Tryz.prog (GS l) f vs H r H1) (hs:(l.all fun g=>l1.contains g)=true):AC Tryz.prog (GS l1) f vs H r H1:=by
  refine Go.Av.AC.mono h fun g cs hg=>?_;unfold GS at hg ⊢;cases hc:l.contains g with
  | false=>rw [hc] at hg;cases hg
  | true=>
    rw [hc] at hg;have:=jR.1 hs g (FT.1 hc);rw [this];exact hg
def mix:Tryz.prog.follows .mixedOrders=true:=ak
def wR {G:Nat->Option (List V)} {ops:Array Oper} {draw:Bool} {T0:List V} {H0:Hp} {Q:St->Prop} (n q:Nat) {i:Nat} {T:List V} {H:Hp} {Es:List (Bool×Eff)} (k:W Tryz.prog G ops draw T0 H0 (i+n) (om D G ops n q i T H).T (om D G ops n q i T H).H (Es++(om D G ops n q i T H).Es) Q) (h:(AZ D G ops n q i T H).isSome=true:=by kernel_rfl):W Tryz.prog G ops draw T0 H0 i T H Es Q:=W.run Dk n q h k
def cU {G:Nat->Option (List V)} {L:Option Nat} (n q:Nat) (T':List V) (H':Hp) {id:Nat} {l:List Oper} {draw:Bool} {c:Code} {T:List V} {H:Hp} {Q:Exit->St->Prop} (k:CO L Tryz.prog G c ⟨T',H'⟩ Q) (h:Pb D G l.toArray draw n q T H T' H'=(true,T',some H'):=by kernel_rfl):CO L Tryz.prog G (.seq (.region id l.toArray draw) c) ⟨T,H⟩ Q:=cu Dk mix n q T' H' h k
def cE {G:Nat->Option (List V)} {L:Option Nat} (n q:Nat) (T':List V) (H':Hp) {id:Nat} {l:List Oper} {draw:Bool} {T:List V} {H:Hp} {Q:Exit->St->Prop} (hQ:∀ st,Weak st ⟨T',H'⟩->Q .normal st) (h:Pb D G l.toArray draw n q T H T' H'=(true,T',some H'):=by kernel_rfl):CO L Tryz.prog G (.region id l.toArray draw) ⟨T,H⟩ Q:=ce Dk mix n q T' H' h hQ
def cV {G:Nat->Option (List V)} {L:Option Nat} (q:Nat) {id:Nat} {l:List Oper} {draw:Bool} {c:Code} {T:List V} {H:Hp} {Q:Exit->St->Prop} (k:CO L Tryz.prog G c ⟨(om D G l.toArray l.toArray.size q 0 T H).T,(om D G l.toArray l.toArray.size q 0 T H).H⟩ Q) (h:Pf D G l.toArray draw q T H=true:=by kernel_rfl):CO L Tryz.prog G (.seq (.region id l.toArray draw) c) ⟨T,H⟩ Q:=cv Dk mix q k h
def cK {G:Nat->Option (List V)} {L:Option Nat} (q:Nat) {ι:Type} {J:ι->St} {R:ι->Prop} {id:Nat} {l:List Oper} {draw:Bool} {T:List V} {H:Hp} {Q:Exit->St->Prop} (hk:∀ i,R i->∀ st,Weak st (J i)->Q .normal st) (i:ι) (hi:R i) (m:Ren) (ks:List Nat) (h:Ph m ks (Pf D G l.toArray draw q T H) (om D G l.toArray l.toArray.size q 0 T H).T (om D G l.toArray l.toArray.size q 0 T H).H=(true,(J i).T,some (J i).H):=by kernel_rfl):CO L Tryz.prog G (.region id l.toArray draw) ⟨T,H⟩ Q:=ck Dk mix q hk i hi m ks h
def cC {G:Nat->Option (List V)} {L:Option Nat} (n q:Nat) {id:Nat} {l:List Oper} {draw:Bool} {c:Code} {T:List V} {H:Hp} {Q:Exit->St->Prop} {fid:FuncId} {vs:List V} {rc:V} (hA:AC Tryz.prog G fid vs [] rc []) (hcf:vD Tryz.prog fid) (k:CO L Tryz.prog G c ⟨(Lc D G l.toArray n q rc T H).T,(Lc D G l.toArray n q rc T H).H⟩ Q) (h:Yd D G l.toArray draw n q rc T H=(true,some (fid,vs,[]),rc):=by kernel_rfl):CO L Tryz.prog G (.seq (.region id l.toArray draw) c) ⟨T,H⟩ Q:=cc Dk mix n q hA hcf k h
def wD {G:Nat->Option (List V)} {ops:Array Oper} {draw:Bool} {T0:List V} {H0:Hp} {i:Nat} {T:List V} {H:Hp} {Es:List (Bool×Eff)} {Q:St->Prop} {fid:FuncId} {vs:List V} {Hc dN:Hp} {rc:V} (h:AC Tryz.prog G fid vs Hc rc dN) (hcf:vD Tryz.prog fid) (q m:Ren) {Z:List (Nat×List (List V))} (N:List Nat) (hZ:bK H Z) (k:W Tryz.prog G ops draw T0 H0 (i+1) (eB T (iG ops i)<|rc.rn m) (iY m dN++bV (Z.map (·.1)++q.map (·.1)) H) (Es++[(true,{v:=rc.rn m,C:=Z.map (·.1)++q.map (·.1),new:=iY m dN,N:=N})]) Q) (hn:(Cr q m (Z.map (·.1)) N&&zS dN)=true:=by kernel_rfl) (hc:FU G ops q Z i T H=some (fid,vs,Hc):=by kernel_rfl):W Tryz.prog G ops draw T0 H0 i T H Es Q:=W.call h hcf q m N hZ hn hc k
def wC {G:Nat->Option (List V)} {ops:Array Oper} {draw:Bool} {T0:List V} {H0:Hp} {i:Nat} {T:List V} {H:Hp} {Es:List (Bool×Eff)} {Q:St->Prop} {fid:FuncId} {vs:List V} {Hc dN:Hp} {rc:V} (h:AC Tryz.prog G fid vs Hc rc dN) (hcf:vD Tryz.prog fid) (q m:Ren) (N:List Nat) (k:W Tryz.prog G ops draw T0 H0 (i+1) (eB T (iG ops i)<|rc.rn m) (iY m dN++bV (([]:List (Nat×List (List V))).map (·.1)++q.map (·.1)) H) (Es++[(true,{v:=rc.rn m,C:=([]:List (Nat×List (List V))).map (·.1)++q.map (·.1),new:=iY m dN,N:=N})]) Q) (hn:(Cr q m (([]:List (Nat×List (List V))).map (·.1)) N&&zS dN)=true:=by kernel_rfl) (hc:FU G ops q [] i T H=some (fid,vs,Hc):=by kernel_rfl):W Tryz.prog G ops draw T0 H0 i T H Es Q:=W.call h hcf q m N (show bK _ [] from trivial) hn hc k
def w0 {G:Nat->Option (List V)} {ops:Array Oper} {draw:Bool} {T0:List V} {H0:Hp} {i:Nat} {T:List V} {H:Hp} {Es:List (Bool×Eff)} {Q:St->Prop} {fid:FuncId} {vs:List V} {rc:V} (h:AC Tryz.prog G fid vs [] rc []) (hcf:vD Tryz.prog fid) (k:W Tryz.prog G ops draw T0 H0 (i+1) (eB T (iG ops i) rc) H (Es++[(true,{v:=rc})]) Q) (hc:FU G ops [] [] i T H=some (fid,vs,[]):=by kernel_rfl) (hr:rc.rn []=rc:=by rfl):W Tryz.prog G ops draw T0 H0 i T H Es Q:=W.xJ h hcf hr hc k
def wN {G:Nat->Option (List V)} {ops:Array Oper} {draw:Bool} {T0:List V} {H0:Hp} {i:Nat} {T:List V} {H:Hp} {Es:List (Bool×Eff)} {Q:St->Prop} {α:Type} (enc:α->List V) (l:List α) (R:List Nat) (k:W Tryz.prog G ops draw T0 H0 (i+1) (eB T (iG ops i)<|aj l.length) H (Es++[(true,{v:=aj l.length,R:=R})]) Q) (h:abU G ops i T H=some (l.map enc,R):=by kernel_rfl) (hs:((mI ops i T).bind<|gX D H<|ev G T).isSome=true:=by kernel_rfl):W Tryz.prog G ops draw T0 H0 i T H Es Q:=W.len Dk enc l R h hs k
def wX {G:Nat->Option (List V)} {ops:Array Oper} {draw:Bool} {T0:List V} {H0:Hp} {i:Nat} {T:List V} {H:Hp} {Es:List (Bool×Eff)} {Q:St->Prop} {α:Type} (enc:α->List V) {l:List α} {n:Int} {x:α} (hx:ix l n=some x) (sz:Nat) (k:W Tryz.prog G ops draw T0 H0 (i+1) (eB T (iG ops i)<|.el<|enc x) H (Es++[(true,{v:=.el (enc x)})]) Q) (h:Ld D G ops i T=some (l.map enc,n,sz):=by kernel_rfl) (hs:(enc x).length=sz:=by kernel_rfl):W Tryz.prog G ops draw T0 H0 i T H Es Q:=W.Ld Dk enc hx sz h hs k
structure aD where
  Kind:Int
  Op:Int
  Text:List UInt8
  Other:List UInt8
  Kids:List Int
  deriving DecidableEq,Inhabited
def aG (b:Bool) (x:aD):List V:=[aj x.Kind,aj x.Op,V.s x.Text,V.s x.Other,.sl false b<|x.Kids.map bq]
def jl (b:Bool) (x:aD):sN (aG b x)=aG false x:=by
  simp only [aG,sN,V.share,aj,V.s,V.b,abV (enc:=bq) (enc':=bq) fun _=>rfl]
structure aL where
  Level:Int
  Ct:Bool
  aY:Bool
  bg:Bool
  jS:Bool
  deriving DecidableEq,Inhabited
structure aC where
  Kind:Int
  Text:List UInt8
  At:Int
  deriving DecidableEq,Inhabited
def aV (x:aC):List V:=[aj x.Kind,V.s x.Text,aj x.At]
structure bP where
  From:Int
  To:Int
  deriving DecidableEq,Inhabited
def gy (x:bP):List V:=[aj x.From,aj x.To]
structure av where
  kind:Int
  op:Int
  text:List UInt8
  other:List UInt8
  kids:List av
instance:Inhabited av:=⟨⟨0,0,[],[],[]⟩⟩
def av.lt (x:av) (y:av) (h:y∈x.kids):SizeOf.sizeOf y < SizeOf.sizeOf x:=by
  have:=List.sizeOf_lt_of_mem h;cases x;simp only [av.mk.sizeOf_spec] at*;omega
def aH (x:av):List V:=[aj x.kind,aj x.op,V.s x.text,V.s x.other,.sl false false<|x.kids.attach.map fun y=>aH y.1]
termination_by SizeOf.sizeOf x
decreasing_by exact av.lt x y.1 y.2
def vE (x:av):aH x=[aj x.kind,aj x.op,V.s x.text,V.s x.other,.sl false false<|x.kids.map aH]:=by
  rw [aH];simp only [List.attach_map_val (f:=aH),List.map_attach_eq_pmap,List.pmap_eq_map]
def xK (x:av):sN (aH x)=aH x:=by
  have hk:x.kids.map (sN∘aH)=x.kids.map aH:=yR fun y hy=>xK y;rw [vE];simp only [sN,V.share,Lf,aj,V.s,V.b,IY];rw [hk]
termination_by SizeOf.sizeOf x
decreasing_by exact av.lt x y hy
structure lS where
  op:Bool
  text:Bool
  other:Bool
  least:Int
  most:Int
  deriving DecidableEq,Inhabited
structure xL where
  Kind:Int
  At:Int
  deriving DecidableEq,Inhabited
structure bH where
  dw:Bool
  dA:Bool
  deriving DecidableEq,Inhabited
structure fq where
  tree:av
  target:Bool
  deriving Inhabited
abbrev LU:=List UInt8
abbrev aN:=List (List UInt8)
abbrev LT:=List aC
abbrev LN:=List aD
abbrev T1:=fq×Int×Bool×aN
abbrev LS:=List av
abbrev wr (x:Int):Int:=IntKind.wrap .i64 x
abbrev sL {α:Type} (f:α->List V) (x:List α):V:=.sl false false (x.map f)
abbrev gY (a:aL):List V:=[aj a.Level,V.b a.Ct,V.b a.aY,V.b a.bg,V.b a.jS]
abbrev gD (a:aD):List V:=[aj a.Kind,aj a.Op,V.s a.Text,V.s a.Other,sL bq a.Kids]
abbrev vX {α:Type} (t k:Nat) (f:α->List V) (x:List α):Ob:=.vec false t k (x.map f)
abbrev vN (x:aN):Ob:=.vec false 9 1 (x.map eH)
abbrev cP (t:Nat) (x:LT) (i:Int) (b:Bool) (k:Nat):Ob:=.cells t [.sl false false<|x.map aV,aj i,V.b b,.own k]
abbrev aP (x:fq):List V:=[aj x.tree.kind,aj x.tree.op,V.s x.tree.text,V.s x.tree.other,.sl false false<|x.tree.kids.map aH,V.b x.target]
abbrev aR:=AC Tryz.prog (GS [])
def lO {H:Hp}:bK H []:=trivial
def Ye (a0:LU):Option Bool:=
  some (decide<|(a0.length:Int) > 1048576)
def Lg (N:Nat):Nat->(LU×Int×Int)->Option (LU×Int×Int)
  | 0,_=>none
  | n1+1,(a0,y29,oO)=>(bif (decide<|oO < (a0.length:Int)) then some (decide<|oO < 4000) else (some false)).bind fun sO=>bif sO then (ix a0 oO).bind fun e44=>(Lg N n1) (a0,(bits .and .i64 (IntKind.wrap .i64<|(IntKind.wrap .i64<|(IntKind.wrap .i64<|y29*131)+(IntKind.wrap .i64 ((e44).toNat:Int)))+7) 1073741823),(IntKind.wrap .i64<|oO+1)) else (some (a0,0,y29))
def Yf (N:Nat) (a0:LU):Option (LU×Int×Int):=
  Lg N N (a0,(IntKind.wrap .i64<|10101+(a0.length:Int)),0)
def Pj (pa:LU):(Int×Int×Int)->Option (Int×Int×Int)
  | (pc,y3,y4)=>some (y3,y4,(IntKind.wrap .i64<|(IntKind.wrap .i64<|pc*6364136223846793005)+1442695040888963407))
def Cu (pa:LU) (pb:Int) (pc:Int):Option (Int×Int×Int):=
  bif (decide<|pb < (pa.length:Int)) then (ix pa pb).bind fun e6=>Pj pa (pc,(bits .and .i64 (IntKind.wrap .i64<|(bits .and .i64 (bits .xor .i64 (Int.fdiv (IntKind.wrap .i64<|(IntKind.wrap .i64<|pc*6364136223846793005)+1442695040888963407)<|2 ^ (min 33 64))<|Int.fdiv (IntKind.wrap .i64<|(IntKind.wrap .i64<|pc*6364136223846793005)+1442695040888963407)<|2 ^ (min 45 64)) 255)+(IntKind.wrap .i64 ((e6).toNat:Int))) 255),(IntKind.wrap .i64<|pb+1)) else (Pj pa (pc,(bits .and .i64 (bits .xor .i64 (Int.fdiv (IntKind.wrap .i64<|(IntKind.wrap .i64<|pc*6364136223846793005)+1442695040888963407)<|2 ^ (min 33 64))<|Int.fdiv (IntKind.wrap .i64<|(IntKind.wrap .i64<|pc*6364136223846793005)+1442695040888963407)<|2 ^ (min 45 64)) 255),pb))
def jD (a1:Int) (pa:LU) (pb:Int) (pc:Int):Option (Int×Int×Int):=
  bif (decide<|a1<=0) then some (0,pb,pc) else (bif (decide<|a1<=256) then (Cu pa pb pc).bind fun r7=>(IZ r7.1 a1).bind fun x8=>some (x8,r7.2.1,r7.2.2) else ((Cu pa pb pc).bind fun bF=>(Cu pa bF.2.1 bF.2.2).bind fun dG=>(Cu pa dG.2.1 dG.2.2).bind fun bM=>(Cu pa bM.2.1 bM.2.2).bind fun r16=>(IZ (IntKind.wrap .i64<|(IntKind.wrap .i64<|(IntKind.wrap .i64<|(IntKind.wrap .i64<|bF.1*16777216)+(IntKind.wrap .i64<|dG.1*65536))+(IntKind.wrap .i64<|bM.1*256))+r16.1) a1).bind fun x18=>some (x18,r16.2.1,r16.2.2)))
def yS (a1:Int) (pa:LU) (pb:Int) (pc:Int):Option (Bool×Int×Int):=
  (jD a1 pa pb pc).bind fun r2=>some ((r2.1==0),r2.2.1,r2.2.2)
def uq (a1:aN) (pa:LU) (pb:Int) (pc:Int):Option (LU×Int×Int):=
  (jD (a1.length:Int) pa pb pc).bind fun r3=>(ix a1 r3.1).bind fun e4=>some (e4,r3.2.1,r3.2.2)
def Yg (pa:LU) (pb:Int) (pc:Int):Option (LU×Int×Int):=
  (uq [[48],[49],[52,50],[51,46,53],[46,53],[55,46],[49,101,51],[50,69,45,52],[49,48,46,50,53,101,43,49]] pa pb pc).bind fun r2=>some (r2.1,r2.2.1,r2.2.2)
def Yh (pa:LU) (pb:Int) (pc:Int):Option (LU×Int×Int):=
  (uq [[34,34],[34,97,34],[34,120,32,121,34],[34,113,92,34,113,34],[34,92,110,34],[34,35,110,111,34],[34,47,34]] pa pb pc).bind fun r2=>some (r2.1,r2.2.1,r2.2.2)
def Yi (pa:LU) (pb:Int) (pc:Int):Option (LU×Int×Int):=
  (uq [[47,97,47],[47,94,120,43,36,47],[47,97,92,47,98,47],[47,61,47],[47,32,47],[47,91,48,45,57,93,47]] pa pb pc).bind fun r2=>some (r2.1,r2.2.1,r2.2.2)
def yT (pa:LU) (pb:Int) (pc:Int):Option (LU×Int×Int):=
  (uq [[120],[121],[110],[105],[97,114,114],[78,82],[70,83],[116,111,116,97,108],[97,49],[95,116],[99,111,117,110,116]] pa pb pc).bind fun r2=>some (r2.1,r2.2.1,r2.2.2)
def Tj (pa:LU):(Int×Int)->Option (LN×Int×Int)
  | (dH,lU)=>(yT pa dH lU).bind fun bM=>some ([(⟨1,0,bM.1,[],[]⟩:aD)],bM.2.1,bM.2.2)
def Pk (pa:LU) (pb:Int) (pc:Int):Option (LN×Int×Int):=
  (jD 7 pa pb pc).bind fun r16=>bif (r16.1==0) then (Yg pa r16.2.1 r16.2.2).bind fun gM=>some ([(⟨2,0,gM.1,[],[]⟩:aD)],gM.2.1,gM.2.2) else (bif (r16.1==1) then (Yh pa r16.2.1 r16.2.2).bind fun mJ=>some ([(⟨3,0,mJ.1,[],[]⟩:aD)],mJ.2.1,mJ.2.2) else (bif (r16.1==2) then (yS 2 pa r16.2.1 r16.2.2).bind fun lV=>bif lV.1 then (Yi pa lV.2.1 lV.2.2).bind fun jm=>some ([(⟨4,0,jm.1,[],[]⟩:aD)],jm.2.1,jm.2.2) else (Tj pa (lV.2.1,lV.2.2)) else (Tj pa (r16.2.1,r16.2.2))))
def Lh (N:Nat) (gF:(LN×Int×Int×LN)->Option LN):Nat->(LN×Int×Int×LN×aD×Int×(List Int))->Option LN
  | 0,_=>none
  | n2+1,(a0,a1,sP,yU,qY,Ja,Tm)=>(ix a0 sP).bind fun abW=>bif (decide<|Ja < (abW.Kids.length:Int)) then (ix a0 sP).bind fun ahF=>(ix ahF.Kids Ja).bind fun ahG=>(app 8 Tm [(IntKind.wrap .i64<|ahG+a1)]).bind fun Yj=>(Lh N gF n2) (a0,a1,sP,yU,qY,(IntKind.wrap .i64<|Ja+1),Yj) else ((app 72 yU [(⟨qY.Kind,qY.Op,qY.Text,qY.Other,Tm⟩:aD)]).bind fun Yk=>gF (a0,a1,(IntKind.wrap .i64<|sP+1),Yk))
def FV (N:Nat):Nat->(LN×Int×Int×LN)->Option LN
  | 0,_=>none
  | n1+1,(a0,a1,sP,yU)=>bif (decide<|sP < (a0.length:Int)) then (ix a0 sP).bind fun qY=>Lh N (FV N n1) N (a0,a1,sP,yU,qY,0,[]) else (some yU)
def Tp (N:Nat) (a0:LN) (a1:Int):Option LN:=
  FV N N (a0,a1,0,[])
def Jb (N:Nat):Nat->((List LN)×aD×Int×LN×(List Int))->Option LN
  | 0,_=>none
  | n1+1,(a1,a0,jX,iU,lW)=>bif (decide<|jX < (a1.length:Int)) then (ix a1 jX).bind fun abX=>(Tp N abX (iU.length:Int)).bind fun zT=>(app 72 iU zT).bind fun Pm=>(app 8 lW [(IntKind.wrap .i64<|(Pm.length:Int) - 1)]).bind fun Yl=>(Jb N n1) (a1,a0,(IntKind.wrap .i64<|jX+1),Pm,Yl) else ((app 72 iU [(⟨a0.Kind,a0.Op,a0.Text,a0.Other,lW⟩:aD)]).bind fun ahH=>some ahH)
def iH (N:Nat) (a0:aD) (a1:List LN):Option LN:=
  Jb N N (a1,a0,0,[],[])
def zU (a1:List Int) (pa:LU) (pb:Int) (pc:Int):Option (Int×Int×Int):=
  (jD (a1.length:Int) pa pb pc).bind fun r3=>(ix a1 r3.1).bind fun e4=>some (e4,r3.2.1,r3.2.2)
def Ym (pa:LU) (pb:Int) (pc:Int):Option (Int×Int×Int):=
  (zU [60,57,58,59,55,56,56,99,99,99,63,48,47,50,62,62,49,67,46,45,44] pa pb pc).bind fun r2=>some (r2.1,r2.2.1,r2.2.2)
structure Ef where
  vF:Int->Int->Int->LU->Int->Int->Option ((List LN)×Int×Int)
  xM:Int->LU->Int->Int->Option (LN×Int×Int)
  eP:Int->LU->Int->Int->Option (LN×Int×Int)
def Li (N:Nat) (R:Ef) (pa:LU):Nat->(Int×Int×Int×Int×(List LN))->Option ((List LN)×Int×Int)
  | 0,_=>none
  | n1+1,(a3,qZ,qy,kQ,nk)=>bif (decide<|qZ > 0) then (R.eP a3 pa qy kQ).bind fun bQ=>(app 24 nk [bQ.1]).bind fun FW=>(Li N R pa n1) (a3,(IntKind.wrap .i64<|qZ - 1),bQ.2.1,bQ.2.2,FW) else (some (nk,qy,kQ))
def Tq (N:Nat) (R:Ef) (a1:Int) (a2:Int) (a3:Int) (pa:LU) (pb:Int) (pc:Int):Option ((List LN)×Int×Int):=
  (jD (IntKind.wrap .i64<|(IntKind.wrap .i64<|a2 - a1)+1) pa pb pc).bind fun qz=>Li N R pa N (a3,(IntKind.wrap .i64<|a1+qz.1),qz.2.1,qz.2.2,[])
def Tt (N:Nat) (R:Ef) (a1:Int) (pa:LU) (pb:Int) (pc:Int):Option (LN×Int×Int):=
  (jD 4 pa pb pc).bind fun bM=>bif (bM.1==0) then (yT pa bM.2.1 bM.2.2).bind fun gM=>(R.eP (IntKind.wrap .i64<|a1 - 1) pa gM.2.1 gM.2.2).bind fun iI=>(iH N (⟨5,0,gM.1,[],[]⟩:aD) [iI.1]).bind fun mJ=>some (mJ,iI.2.1,iI.2.2) else (bif (bM.1==1) then (R.eP (IntKind.wrap .i64<|a1 - 2) pa bM.2.1 bM.2.2).bind fun ru=>(iH N (⟨6,0,[],[],[]⟩:aD) [ru.1]).bind fun jm=>some (jm,ru.2.1,ru.2.2) else ((yT pa bM.2.1 bM.2.2).bind fun gJ=>some ([(⟨1,0,gJ.1,[],[]⟩:aD)],gJ.2.1,gJ.2.2)))
def Pn (N:Nat) (R:Ef) (pa:LU):(Int×(Int×Int×Int)×Bool)->Option (LN×Int×Int)
  | (a1,bQ,y96)=>bif y96 then (zU [56,55,61] pa bQ.2.1 bQ.2.2).bind fun rA=>(R.eP (IntKind.wrap .i64<|a1 - 1) pa rA.2.1 rA.2.2).bind fun Po=>(iH N (⟨11,rA.1,[],[],[]⟩:aD) [Po.1]).bind fun Tv=>some (Tv,Po.2.1,Po.2.2) else (bif (bQ.1==9) then (yT pa bQ.2.1 bQ.2.2).bind fun oo=>(R.vF 1 2 (IntKind.wrap .i64<|a1 - 1) pa oo.2.1 oo.2.2).bind fun Pp=>(iH N (⟨13,0,oo.1,[],[]⟩:aD) Pp.1).bind fun uw=>some (uw,Pp.2.1,Pp.2.2) else (bif (bQ.1==10) then (R.eP (IntKind.wrap .i64<|a1 - 1) pa bQ.2.1 bQ.2.2).bind fun Jc=>(R.eP (IntKind.wrap .i64<|a1 - 1) pa Jc.2.1 Jc.2.2).bind fun wP=>(R.eP (IntKind.wrap .i64<|a1 - 1) pa wP.2.1 wP.2.2).bind fun Cv=>(iH N (⟨14,0,[],[],[]⟩:aD) [Jc.1,wP.1,Cv.1]).bind fun dD=>some (dD,Cv.2.1,Cv.2.2) else (bif (bQ.1==11) then (zU [54,38,43] pa bQ.2.1 bQ.2.2).bind fun vG=>(R.xM (IntKind.wrap .i64<|a1 - 1) pa vG.2.1 vG.2.2).bind fun qb=>(R.eP (IntKind.wrap .i64<|a1 - 1) pa qb.2.1 qb.2.2).bind fun Pq=>(iH N (⟨15,vG.1,[],[],[]⟩:aD) [qb.1,Pq.1]).bind fun gZ=>some (gZ,Pq.2.1,Pq.2.2) else ((Ym pa bQ.2.1 bQ.2.2).bind fun yV=>(R.eP (IntKind.wrap .i64<|a1 - 1) pa yV.2.1 yV.2.2).bind fun sQ=>(R.eP (IntKind.wrap .i64<|a1 - 1) pa sQ.2.1 sQ.2.2).bind fun Pt=>(iH N (⟨12,yV.1,[],[],[]⟩:aD) [sQ.1,Pt.1]).bind fun ahI=>some (ahI,Pt.2.1,Pt.2.2)))))
def Lj (N:Nat) (R:Ef) (a1:Int) (pa:LU) (pb:Int) (pc:Int):Option (LN×Int×Int):=
  bif (decide<|a1<=0) then (Pk pa pb pc).bind fun r4=>some (r4.1,r4.2.1,r4.2.2) else ((jD 2 pa pb pc).bind fun r6=>(jD 16 pa r6.2.1 r6.2.2).bind fun bQ=>bif (bQ.1==0) then (Pk pa bQ.2.1 bQ.2.2).bind fun Ll=>some (Ll.1,Ll.2.1,Ll.2.2) else (bif (bQ.1==1) then (R.xM a1 pa bQ.2.1 bQ.2.2).bind fun Yn=>some (Yn.1,Yn.2.1,Yn.2.2) else (bif (bQ.1==2) then (R.eP (IntKind.wrap .i64<|a1 - 1) pa bQ.2.1 bQ.2.2).bind fun kR=>(iH N (⟨6,0,[],[],[]⟩:aD) [kR.1]).bind fun r75=>some (r75,kR.2.1,kR.2.2) else (bif (bQ.1==3) then (yT pa bQ.2.1 bQ.2.2).bind fun uy=>(R.vF 0 3 (IntKind.wrap .i64<|a1 - 1) pa uy.2.1 uy.2.2).bind fun sS=>(iH N (⟨7,0,uy.1,[],[]⟩:aD) sS.1).bind fun FX=>some (FX,sS.2.1,sS.2.2) else (bif (bQ.1==4) then (uq [[108,101,110,103,116,104],[115,117,98,115,116,114],[105,110,100,101,120],[105,110,116],[116,111,117,112,112,101,114]] pa bQ.2.1 bQ.2.2).bind fun Lm=>(R.vF 0 3 (IntKind.wrap .i64<|a1 - 2) pa Lm.2.1 Lm.2.2).bind fun nH=>(iH N (⟨8,0,Lm.1,[],[]⟩:aD) nH.1).bind fun uz=>some (uz,nH.2.1,nH.2.2) else (bif (bQ.1==5) then (R.xM (IntKind.wrap .i64<|a1 - 1) pa bQ.2.1 bQ.2.2).bind fun rC=>(iH N (⟨9,(IntKind.wrap .i64<|51+r6.1),[],[],[]⟩:aD) [rC.1]).bind fun Tw=>some (Tw,rC.2.1,rC.2.2) else (bif (bQ.1==6) then (R.xM (IntKind.wrap .i64<|a1 - 1) pa bQ.2.1 bQ.2.2).bind fun rD=>(iH N (⟨10,(IntKind.wrap .i64<|51+r6.1),[],[],[]⟩:aD) [rD.1]).bind fun Ba=>some (Ba,rD.2.1,rD.2.2) else (bif (bQ.1==7) then Pn N R pa (a1,bQ,(bQ.1==7)) else (Pn N R pa (a1,bQ,(bQ.1==8)))))))))))
def qc:Nat->Ef
  | 0=>⟨fun _ _ _ _ _ _=>none,fun _ _ _ _=>none,fun _ _ _ _=>none⟩
  | N+1=>⟨fun a1 a2 a3 pa pb pc=>Tq N (qc N) a1 a2 a3 pa pb pc,fun a1 pa pb pc=>Tt N (qc N) a1 pa pb pc,fun a1 pa pb pc=>Lj N (qc N) a1 pa pb pc⟩
def vF (N:Nat) (a1:Int) (a2:Int) (a3:Int) (pa:LU) (pb:Int) (pc:Int):Option ((List LN)×Int×Int):=(qc N).vF a1 a2 a3 pa pb pc
def xM (N:Nat) (a1:Int) (pa:LU) (pb:Int) (pc:Int):Option (LN×Int×Int):=(qc N).xM a1 pa pb pc
def eP (N:Nat) (a1:Int) (pa:LU) (pb:Int) (pc:Int):Option (LN×Int×Int):=(qc N).eP a1 pa pb pc
def Lp (N:Nat) (pa:LU):Nat->(Int×Int)->Option (LN×Int×Int)
  | 0,_=>none
  | n1+1,(pb,pc)=>(jD 4 pa pb pc).bind fun r9=>(eP N (IntKind.wrap .i64<|1+r9.1) pa r9.2.1 r9.2.2).bind fun bF=>bif (decide<|(bF.1.length:Int)<=60) then some (bF.1,bF.2.1,bF.2.2) else ((Lp N pa n1) (bF.2.1,bF.2.2))
def Pv (N:Nat) (pa:LU) (pb:Int) (pc:Int):Option (LN×Int×Int):=
  Lp N pa N (pb,pc)
def Pw (N:Nat) (pa:LU):(Int×Int×Int)->Option (LN×Int×Int)
  | (a1,nk,xO)=>(eP N a1 pa nk xO).bind fun Bb=>(iH N (⟨20,0,[],[],[]⟩:aD) [Bb.1]).bind fun mK=>some (mK,Bb.2.1,Bb.2.2)
def Px (N:Nat) (pa:LU):((Int×Int×Int)×LU×(List LN)×Int×Int)->Option (LN×Int×Int)
  | (ig,kT,jK,jX,iU)=>(iH N (⟨21,ig.1,[],kT,[]⟩:aD) jK).bind fun kR=>some (kR,jX,iU)
def Py (N:Nat) (pa:LU):(Int×(Int×Int×Int)×Bool)->Option (LN×Int×Int)
  | (a1,gP,Bc)=>bif Bc then (jD 2 pa gP.2.1 gP.2.2).bind fun ig=>(vF N ig.1 3 a1 pa ig.2.1 ig.2.2).bind fun jY=>(yS 3 pa jY.2.1 jY.2.2).bind fun ou=>bif ou.1 then (uq [[62],[62,62],[124]] pa ou.2.1 ou.2.2).bind fun mM=>(eP N (IntKind.wrap .i64<|a1 - 1) pa mM.2.1 mM.2.2).bind fun FX=>(app 24 jY.1 [FX.1]).bind fun x82=>Px N pa (ig,mM.1,x82,FX.2.1,FX.2.2) else (Px N pa (ig,[],jY.1,ou.2.1,ou.2.2)) else (bif (gP.1==2) then (zU [22,25,26] pa gP.2.1 gP.2.2).bind fun Yo=>some ([(⟨Yo.1,0,[],[],[]⟩:aD)],Yo.2.1,Yo.2.2) else (bif (gP.1==3) then (zU [23,24] pa gP.2.1 gP.2.2).bind fun oP=>(vF N 0 1 a1 pa oP.2.1 oP.2.2).bind fun jT=>(iH N (⟨oP.1,0,[],[],[]⟩:aD) jT.1).bind fun rC=>some (rC,jT.2.1,jT.2.2) else (bif (gP.1==4) then (yT pa gP.2.1 gP.2.2).bind fun rD=>(vF N 0 2 (IntKind.wrap .i64<|a1 - 1) pa rD.2.1 rD.2.2).bind fun Ba=>(iH N (⟨27,0,rD.1,[],[]⟩:aD) Ba.1).bind fun nu=>some (nu,Ba.2.1,Ba.2.2) else (bif (gP.1==5) then (yS 2 pa gP.2.1 gP.2.2).bind fun lq=>bif lq.1 then (uq [[35],[35,32,110,111,116,101],[35,120,32,61,32,49]] pa lq.2.1 lq.2.2).bind fun rA=>some ([(⟨34,0,rA.1,[],[]⟩:aD)],rA.2.1,rA.2.2) else (Pw N pa (a1,lq.2.1,lq.2.2)) else (Pw N pa (a1,gP.2.1,gP.2.2))))))
def Tx (N:Nat) (a1:Int) (pa:LU) (pb:Int) (pc:Int):Option (LN×Int×Int):=
  (jD 9 pa pb pc).bind fun gP=>bif (gP.1==0) then Py N pa (a1,gP,(gP.1==0)) else (Py N pa (a1,gP,(gP.1==1)))
def Eh (N:Nat) (a1:Int) (pa:LU) (pb:Int) (pc:Int):Option (LN×Int×Int):=
  (yS 3 pa pb pc).bind fun r4=>bif r4.1 then some ([(⟨16,0,[],[],[]⟩:aD)],r4.2.1,r4.2.2) else ((eP N a1 pa r4.2.1 r4.2.2).bind fun r6=>some (r6.1,r6.2.1,r6.2.2))
structure Lr where
  iZ:Int->LU->Int->Int->Option (LN×Int×Int)
  Bd:Int->LU->Int->Int->Option (LN×Int×Int)
def Ls (N:Nat) (R:Lr) (pa:LU):Nat->(Int×Int×Int×Int×(List LN))->Option (LN×Int×Int)
  | 0,_=>none
  | n1+1,(a1,qZ,qy,kQ,nk)=>bif (decide<|qZ > 0) then (R.Bd a1 pa qy kQ).bind fun bQ=>(app 24 nk [bQ.1]).bind fun FW=>(Ls N R pa n1) (a1,(IntKind.wrap .i64<|qZ - 1),bQ.2.1,bQ.2.2,FW) else ((iH N (⟨33,0,[],[],[]⟩:aD) nk).bind fun jZ=>some (jZ,qy,kQ))
def Tz (N:Nat) (R:Lr) (a1:Int) (pa:LU) (pb:Int) (pc:Int):Option (LN×Int×Int):=
  (jD 3 pa pb pc).bind fun qz=>Ls N R pa N (a1,qz.1,qz.2.1,qz.2.2,[])
def Lu (N:Nat) (R:Lr) (a1:Int) (pa:LU) (pb:Int) (pc:Int):Option (LN×Int×Int):=
  (bif (decide<|a1<=0) then some (true,pb,pc) else ((yS 3 pa pb pc).bind fun dG=>some ((!dG.1),dG.2.1,dG.2.2))).bind fun (y9,fu,dH)=>bif y9 then (Tx N (if 2 < a1 then 2 else a1) pa fu dH).bind fun bM=>some (bM.1,bM.2.1,bM.2.2) else ((jD 6 pa fu dH).bind fun fF=>bif (fF.1==0) then (eP N 1 pa fF.2.1 fF.2.2).bind fun ig=>(R.iZ (IntKind.wrap .i64<|a1 - 1) pa ig.2.1 ig.2.2).bind fun iq=>(iH N (⟨28,0,[],[],[]⟩:aD) [ig.1,iq.1]).bind fun jY=>some (jY,iq.2.1,iq.2.2) else (bif (fF.1==1) then (eP N 1 pa fF.2.1 fF.2.2).bind fun nT=>(R.iZ (IntKind.wrap .i64<|a1 - 1) pa nT.2.1 nT.2.2).bind fun rE=>(R.iZ (IntKind.wrap .i64<|a1 - 1) pa rE.2.1 rE.2.2).bind fun bQ=>(iH N (⟨28,0,[],[],[]⟩:aD) [nT.1,rE.1,bQ.1]).bind fun sU=>some (sU,bQ.2.1,bQ.2.2) else (bif (fF.1==2) then (eP N 1 pa fF.2.1 fF.2.2).bind fun ow=>(R.iZ (IntKind.wrap .i64<|a1 - 1) pa ow.2.1 ow.2.2).bind fun zV=>(iH N (⟨29,0,[],[],[]⟩:aD) [ow.1,zV.1]).bind fun kR=>some (kR,zV.2.1,zV.2.2) else (bif (fF.1==3) then (R.iZ (IntKind.wrap .i64<|a1 - 1) pa fF.2.1 fF.2.2).bind fun mM=>(eP N 1 pa mM.2.1 mM.2.2).bind fun uy=>(iH N (⟨30,0,[],[],[]⟩:aD) [mM.1,uy.1]).bind fun sS=>some (sS,uy.2.1,uy.2.2) else (bif (fF.1==4) then (Eh N 2 pa fF.2.1 fF.2.2).bind fun nH=>(Eh N 1 pa nH.2.1 nH.2.2).bind fun uz=>(Eh N 1 pa uz.2.1 uz.2.2).bind fun oP=>(R.iZ (IntKind.wrap .i64<|a1 - 1) pa oP.2.1 oP.2.2).bind fun jT=>(iH N (⟨31,0,[],[],[]⟩:aD) [nH.1,uz.1,oP.1,jT.1]).bind fun rC=>some (rC,jT.2.1,jT.2.2) else ((yS 2 pa fF.2.1 fF.2.2).bind fun nu=>bif nu.1 then (R.iZ (IntKind.wrap .i64<|a1 - 1) pa nu.2.1 nu.2.2).bind fun lq=>some (lq.1,lq.2.1,lq.2.2) else ((yT pa nu.2.1 nu.2.2).bind fun Cw=>(yT pa Cw.2.1 Cw.2.2).bind fun rF=>(R.iZ (IntKind.wrap .i64<|a1 - 1) pa rF.2.1 rF.2.2).bind fun zT=>(iH N (⟨32,0,Cw.1,rF.1,[]⟩:aD) [zT.1]).bind fun oo=>some (oo,zT.2.1,zT.2.2))))))))
def qd:Nat->Lr
  | 0=>⟨fun _ _ _ _=>none,fun _ _ _ _=>none⟩
  | N+1=>⟨fun a1 pa pb pc=>Tz N (qd N) a1 pa pb pc,fun a1 pa pb pc=>Lu N (qd N) a1 pa pb pc⟩
def iZ (N:Nat) (a1:Int) (pa:LU) (pb:Int) (pc:Int):Option (LN×Int×Int):=(qd N).iZ a1 pa pb pc
def Bd (N:Nat) (a1:Int) (pa:LU) (pb:Int) (pc:Int):Option (LN×Int×Int):=(qd N).Bd a1 pa pb pc
def Lv (N:Nat) (pa:LU):Nat->((Int×Int×Int)×Int×Int×Int×(List LN))->Option (LN×Int×Int)
  | 0,_=>none
  | n1+1,(r2,Lx,LA,LB,TB)=>bif (decide<|Lx > 0) then (yT pa LA LB).bind fun Jd=>(app 24 TB [[(⟨1,0,Jd.1,[],[]⟩:aD)]]).bind fun Yp=>(Lv N pa n1) (r2,(IntKind.wrap .i64<|Lx - 1),Jd.2.1,Jd.2.2,Yp) else ((uq [[102],[103],[109,97,120]] pa LA LB).bind fun LC=>(iZ N (IntKind.wrap .i64<|1+r2.1) pa LC.2.1 LC.2.2).bind fun Yq=>(app 24 TB [Yq.1]).bind fun Yr=>(iH N (⟨44,0,LC.1,[],[]⟩:aD) Yr).bind fun ahK=>some (ahK,Yq.2.1,Yq.2.2))
def TF (N:Nat) (pa:LU) (pb:Int) (pc:Int):Option (LN×Int×Int):=
  (jD 2 pa pb pc).bind fun r2=>(jD 8 pa r2.2.1 r2.2.2).bind fun gZ=>bif (gZ.1==0) then (jD 2 pa gZ.2.1 gZ.2.2).bind fun zW=>(iZ N (IntKind.wrap .i64<|1+r2.1) pa zW.2.1 zW.2.2).bind fun yV=>(iH N (⟨(IntKind.wrap .i64<|40+zW.1),0,[],[],[]⟩:aD) [yV.1]).bind fun sQ=>some (sQ,yV.2.1,yV.2.2) else (bif (gZ.1==1) then (eP N (IntKind.wrap .i64<|1+r2.1) pa gZ.2.1 gZ.2.2).bind fun nI=>(iH N (⟨42,1,[],[],[]⟩:aD) [nI.1]).bind fun kg=>some (kg,nI.2.1,nI.2.2) else (bif (gZ.1==2) then (iZ N (IntKind.wrap .i64<|1+r2.1) pa gZ.2.1 gZ.2.2).bind fun PD=>(iH N (⟨42,2,[],[],[]⟩:aD) [PD.1]).bind fun TG=>some (TG,PD.2.1,PD.2.2) else (bif (gZ.1==3) then (eP N 1 pa gZ.2.1 gZ.2.2).bind fun zX=>(eP N 1 pa zX.2.1 zX.2.2).bind fun PE=>(iH N (⟨43,1,[],[],[]⟩:aD) [zX.1,PE.1]).bind fun ahL=>some (ahL,PE.2.1,PE.2.2) else (bif (gZ.1==4) then (eP N 1 pa gZ.2.1 gZ.2.2).bind fun Je=>(eP N 1 pa Je.2.1 Je.2.2).bind fun Jf=>(iZ N (IntKind.wrap .i64<|1+r2.1) pa Jf.2.1 Jf.2.2).bind fun PG=>(iH N (⟨43,3,[],[],[]⟩:aD) [Je.1,Jf.1,PG.1]).bind fun ahM=>some (ahM,PG.2.1,PG.2.2) else (bif (gZ.1==5) then (jD 3 pa gZ.2.1 gZ.2.2).bind fun Ei=>Lv N pa N (r2,Ei.1,Ei.2.1,Ei.2.2,[]) else (bif (gZ.1==6) then (uq [[35,32,116,111,112],[35]] pa gZ.2.1 gZ.2.2).bind fun Yt=>some ([(⟨34,0,Yt.1,[],[]⟩:aD)],Yt.2.1,Yt.2.2) else ((eP N (IntKind.wrap .i64<|1+r2.1) pa gZ.2.1 gZ.2.2).bind fun Jg=>(iZ N (IntKind.wrap .i64<|1+r2.1) pa Jg.2.1 Jg.2.2).bind fun PI=>(iH N (⟨42,3,[],[],[]⟩:aD) [Jg.1,PI.1]).bind fun ahN=>some (ahN,PI.2.1,PI.2.2))))))))
def LD (N:Nat) (pa:LU) (gF:(Int×Int)->Option (LN×Int×Int)):Nat->(Int×Int×Int×(List LN))->Option (LN×Int×Int)
  | 0,_=>none
  | n2+1,(LG,Bf,Jh,Ej)=>bif (decide<|LG > 0) then (TF N pa Bf Jh).bind fun Ji=>(app 24 Ej [Ji.1]).bind fun Yu=>(LD N pa gF n2) ((IntKind.wrap .i64<|LG - 1),Ji.2.1,Ji.2.2,Yu) else ((iH N (⟨45,0,[],[],[]⟩:aD) Ej).bind fun zX=>bif (decide<|(zX.length:Int)<=220) then some (zX,Bf,Jh) else (gF (Bf,Jh)))
def FY (N:Nat) (pa:LU):Nat->(Int×Int)->Option (LN×Int×Int)
  | 0,_=>none
  | n1+1,(pb,pc)=>(jD 4 pa pb pc).bind fun uw=>LD N pa (FY N pa n1) N (uw.1,uw.2.1,uw.2.2,[])
def TH (N:Nat) (pa:LU) (pb:Int) (pc:Int):Option (LN×Int×Int):=
  FY N pa N (pb,pc)
def PK (N:Nat) (pa:LU):((Int×Int×Int)×Bool)->Option (LN×Int×Int)
  | (r9,fu)=>bif fu then (Pv N pa r9.2.1 r9.2.2).bind fun dG=>some (dG.1,dG.2.1,dG.2.2) else (bif (r9.1==2) then (Bd N 2 pa r9.2.1 r9.2.2).bind fun bM=>some (bM.1,bM.2.1,bM.2.2) else ((TH N pa r9.2.1 r9.2.2).bind fun r16=>some (r16.1,r16.2.1,r16.2.2)))
def PL (N:Nat) (pa:LU) (pb:Int) (pc:Int):Option (LN×Int×Int):=
  (jD 5 pa pb pc).bind fun r9=>bif (r9.1==0) then PK N pa (r9,(r9.1==0)) else (PK N pa (r9,(r9.1==1)))
def LH (N:Nat) (pa:LU):(LN×Int×Int)->Option (LN×Int×Int)
  | (y31,y32,xP)=>some (y31,y32,xP)
def TI (N:Nat) (pa:LU) (pb:Int) (pc:Int):Option (LN×Int×Int):=
  (PL N pa pb pc).bind fun r2=>(jD (r2.1.length:Int) pa r2.2.1 r2.2.2).bind fun r4=>(jD 12 pa r4.2.1 r4.2.2).bind fun cZ=>bif (cZ.1==0) then (cut r2.1 0 r4.1).bind fun PN=>some (PN,cZ.2.1,cZ.2.2) else (bif (cZ.1==1) then (ix r2.1 r4.1).bind fun e39=>(zU [(-1),r4.1,0,99] pa cZ.2.1 cZ.2.2).bind fun PO=>(app 8 e39.Kids [PO.1]).bind fun Yv=>(upd r2.1 r4.1 (⟨e39.Kind,e39.Op,e39.Text,e39.Other,Yv⟩:aD)).bind fun TJ=>LH N pa (TJ,PO.2.1,PO.2.2) else (bif (cZ.1==2) then (ix r2.1 r4.1).bind fun e47=>bif (decide<|(e47.Kids.length:Int) > 0) then (ix r2.1 r4.1).bind fun e49=>(jD (IntKind.wrap .i64<|r4.1+1) pa cZ.2.1 cZ.2.2).bind fun mK=>(ix e49.Kids 0).bind fun e54=>(upd e49.Kids 0<|IntKind.wrap .i64<|mK.1 - 1).bind fun x55=>(upd r2.1 r4.1 (⟨e49.Kind,e49.Op,e49.Text,e49.Other,x55⟩:aD)).bind fun TK=>LH N pa (TK,mK.2.1,mK.2.2) else (LH N pa (r2.1,cZ.2.1,cZ.2.2)) else (bif (cZ.1==3) then (app 72 r2.1 r2.1).bind fun PS=>some (PS,cZ.2.1,cZ.2.2) else (LH N pa (r2.1,cZ.2.1,cZ.2.2)))))
def Jj (N:Nat) (pa:LU):(LN×Int×Int)->Option (LN×Int×Int)
  | (xP,y34,iJ)=>some (xP,y34,iJ)
def TL (N:Nat) (pa:LU) (pb:Int) (pc:Int):Option (LN×Int×Int):=
  (PL N pa pb pc).bind fun r2=>(jD (r2.1.length:Int) pa r2.2.1 r2.2.2).bind fun r4=>(jD 14 pa r4.2.1 r4.2.2).bind fun jo=>bif (jo.1==0) then (jD 47 pa jo.2.1 jo.2.2).bind fun oQ=>(ix r2.1 r4.1).bind fun e42=>(upd r2.1 r4.1 (⟨oQ.1,e42.Op,e42.Text,e42.Other,e42.Kids⟩:aD)).bind fun x43=>Jj N pa (x43,oQ.2.1,oQ.2.2) else (bif (jo.1==1) then (zU [0,1,56,99,54,51,(-1)] pa jo.2.1 jo.2.2).bind fun vH=>(ix r2.1 r4.1).bind fun e48=>(upd r2.1 r4.1 (⟨e48.Kind,vH.1,e48.Text,e48.Other,e48.Kids⟩:aD)).bind fun x49=>Jj N pa (x49,vH.2.1,vH.2.2) else (bif (jo.1==2) then (uq [[],[120],[105,102],[108,101,110,103,116,104],[49],[47]] pa jo.2.1 jo.2.2).bind fun mK=>(ix r2.1 r4.1).bind fun e54=>(upd r2.1 r4.1 (⟨e54.Kind,e54.Op,mK.1,e54.Other,e54.Kids⟩:aD)).bind fun x55=>Jj N pa (x55,mK.2.1,mK.2.2) else (bif (jo.1==3) then (uq [[],[62],[120]] pa jo.2.1 jo.2.2).bind fun iq=>(ix r2.1 r4.1).bind fun e60=>(upd r2.1 r4.1 (⟨e60.Kind,e60.Op,e60.Text,iq.1,e60.Kids⟩:aD)).bind fun x61=>Jj N pa (x61,iq.2.1,iq.2.2) else (bif (jo.1==4) then (TI N pa jo.2.1 jo.2.2).bind fun wQ=>some (wQ.1,wQ.2.1,wQ.2.2) else (Jj N pa (r2.1,jo.2.1,jo.2.2))))))
def TM (N:Nat) (pa:LU) (pb:Int) (pc:Int):Option (LN×Int×Int):=
  (yS 10 pa pb pc).bind fun r6=>bif r6.1 then (TL N pa r6.2.1 r6.2.2).bind fun r8=>some (r8.1,r8.2.1,r8.2.2) else ((Pv N pa r6.2.1 r6.2.2).bind fun bF=>some (bF.1,bF.2.1,bF.2.2))
def KZ (N:Nat) (a0:LU):Option LN:=
  (Yf N a0).bind fun r3=>(TM N r3.1 r3.2.1 r3.2.2).bind fun r4=>some r4.1
def Ee:Option aL:=
  some (⟨1,false,false,false,false⟩:aL)
def qA (a0:Int) (a1:Int) (a2:Int):Option Bool:=
  (bif (decide<|a0>=a1) then some (decide<|a0<=a2) else (some false)).bind fun y1=>some y1
def Jk (N:Nat) (gF:(LN×Int×(List Int))->Option ((List Int)×Bool)) (a0:LN) (lu:Int) (xQ:aD) (sV:List Int):List Int->Int->Option ((List Int)×Bool)
  | [],wT=>(ix sV lu).bind fun apM=>(upd sV lu<|IntKind.wrap .i64<|wT+1).bind fun Yw=>gF (a0,(IntKind.wrap .i64<|lu+1),Yw)
  | e339::ahO,wT=>(bif (decide<|wT < 0) then some true else (some<|e339 !=wT)).bind fun acd=>bif acd then some ([],false) else ((ix sV e339).bind fun TP=>(Jk N gF a0 lu xQ sV ahO)<|IntKind.wrap .i64<|TP - 1)
def FZ (N:Nat):Nat->(LN×Int×(List Int))->Option ((List Int)×Bool)
  | 0,_=>none
  | n1+1,(a0,lu,sV)=>bif (decide<|lu < (a0.length:Int)) then (ix a0 lu).bind fun xQ=>Jk N (FZ N n1) a0 lu xQ sV (xQ.Kids.reverse) (IntKind.wrap .i64<|lu - 1) else ((ix sV<|IntKind.wrap .i64<|(a0.length:Int) - 1).bind fun TQ=>some (sV,(TQ==0)))
def TR (N:Nat) (a0:LN):Option ((List Int)×Bool):=
  (qA (a0.length:Int) 1 400).bind fun r4=>bif (!r4) then some ([],false) else ((mk 8 0 (a0.length:Int)).bind fun x6=>FZ N N (a0,0,x6))
def TS (N:Nat) (a0:LN):Option Bool:=
  (TR N a0).bind fun r2=>some r2.2
def Cx (a0:Int):Option Bool:=
  (qA a0 1 15).bind fun r2=>some r2
def PU (a0:Int):Option Bool:=
  (bif (decide<|a0>=97) then bif (decide<|a0<=122) then some true else (bif (decide<|a0>=65) then bif (decide<|a0<=90) then some true else (some<|a0==95) else (some<|a0==95)) else (bif (decide<|a0>=65) then bif (decide<|a0<=90) then some true else (some<|a0==95) else (some<|a0==95))).bind fun y1=>some y1
def PV (a0:Int):Option Bool:=
  (bif (decide<|a0>=48) then some (decide<|a0<=57) else (some false)).bind fun y1=>some y1
def TT (a0:Int):Option Bool:=
  ((PU a0).bind fun r4=>bif r4 then some true else ((PV a0).bind fun r5=>some r5)).bind fun y3=>some y3
def LJ (N:Nat):Nat->(LU×Int)->Option Bool
  | 0,_=>none
  | n1+1,(a0,iJ)=>bif (decide<|iJ < (a0.length:Int)) then (ix a0 iJ).bind fun LK=>(TT<|IntKind.wrap .i64 ((LK).toNat:Int)).bind fun Bb=>bif (!Bb) then some false else ((LJ N n1) (a0,(IntKind.wrap .i64<|iJ+1))) else (((qA (a0.length:Int) 1 12).bind fun TU=>bif TU then (ix a0 0).bind fun LM=>(PU<|IntKind.wrap .i64 ((LM).toNat:Int)).bind fun iq=>some iq else (some false)).bind fun Bc=>some Bc)
def Yx (N:Nat) (a0:LU):Option Bool:=
  LJ N N (a0,0)
def Jl (N:Nat):Nat->(aN×LU×Int)->Option Int
  | 0,_=>none
  | n1+1,(a0,a1,fA)=>bif (decide<|fA < (a0.length:Int)) then (ix a0 fA).bind fun e28=>bif (a1==e28) then some fA else ((Jl N n1) (a0,a1,(IntKind.wrap .i64<|fA+1))) else (some<|-1)
def PW (N:Nat) (a0:aN) (a1:LU):Option Int:=
  Jl N N (a0,a1,0)
def TV (N:Nat) (a0:LU):Option Int:=
  (PW N qX a0).bind fun r2=>bif (decide<|r2 < 0) then some 0 else (some<|IntKind.wrap .i64<|10+r2)
def LP (N:Nat) (a0:aN) (a1:LU):Option Bool:=
  (PW N a0 a1).bind fun r2=>some (decide<|r2>=0)
def LQ (N:Nat) (a0:LU):Option Bool:=
  (LP N yQ a0).bind fun r2=>some r2
def Bg (N:Nat) (a0:LU):Option Bool:=
  ((Yx N a0).bind fun r5=>bif r5 then (TV N a0).bind fun r6=>bif (r6==0) then (LQ N a0).bind fun r7=>some (!r7) else (some false) else (some false)).bind fun y4=>some y4
def ace (a0:LU) (a1:Int):Option Int:=
  some (Go.Lib.indexByte a0 (Int.toNat a1).toUInt8)
def TW (a0:LU):Option Int:=
  bif (([10]:LU)==a0) then some 0 else ((ix ([10]:LU) 0).bind fun b7=>(ace a0 ((b7).toNat:Int)).bind fun r8=>some r8)
def Yy (a0:LU):Option Int:=
  (TW a0).bind fun r2=>some r2
def TY (a0:LU):Option Bool:=
  (Yy a0).bind fun r2=>some (decide<|r2>=0)
def El (a0:LU) (a1:Int):Option Int:=
  (qA a1 0<|IntKind.wrap .i64<|(a0.length:Int) - 1).bind fun r4=>bif (!r4) then some (-1) else ((ix a0 a1).bind fun b6=>some<|IntKind.wrap .i64 ((b6).toNat:Int))
def LV (N:Nat):Nat->(LU×Int)->Option Int
  | 0,_=>none
  | n1+1,(a0,a1)=>(El a0 a1).bind fun fG=>(PV fG).bind fun mO=>bif mO then (LV N n1) (a0,(IntKind.wrap .i64<|a1+1)) else (some a1)
def PX (N:Nat) (a0:LU) (a1:Int):Option Int:=
  LV N N (a0,a1)
def Ua (N:Nat):Int->Option Int
  | dH=>some dH
def PY (N:Nat):(LU×Int×Int)->Option Int
  | (a0,dH,y31)=>(PX N a0 y31).bind fun fG=>bif (decide<|fG > y31) then some fG else (Ua N dH)
def LW (N:Nat):(LU×Int×Int)->Option Int
  | (a0,dH,lU)=>bif (lU==0) then some (-1) else ((El a0 dH).bind fun gJ=>(bif (gJ==101) then some true else (some<|gJ==69)).bind fun y27=>bif y27 then (El a0<|IntKind.wrap .i64<|dH+1).bind fun cZ=>(bif (cZ==43) then some true else (some<|cZ==45)).bind fun LX=>bif LX then PY N (a0,dH,(IntKind.wrap .i64<|(IntKind.wrap .i64<|dH+1)+1)) else (PY N (a0,dH,(IntKind.wrap .i64<|dH+1))) else (Ua N dH))
def PZ (N:Nat) (a0:LU) (a1:Int):Option Int:=
  (qA a1 0<|IntKind.wrap .i64<|(a0.length:Int) - 1).bind fun r4=>bif (!r4) then some (-1) else ((PX N a0 a1).bind fun r6=>(El a0 r6).bind fun iw=>bif (iw==46) then (PX N a0<|IntKind.wrap .i64<|r6+1).bind fun ny=>LW N (a0,ny,(IntKind.wrap .i64<|(IntKind.wrap .i64<|r6 - a1)+(IntKind.wrap .i64<|(IntKind.wrap .i64<|ny - r6) - 1))) else (LW N (a0,r6,(IntKind.wrap .i64<|r6 - a1))))
def LY (N:Nat) (gF:(LU×Int×Int)->Option Int):(LU×Int×Int)->Option Int
  | (a0,a2,Jm)=>gF (a0,a2,(IntKind.wrap .i64<|Jm+1))
def Em (N:Nat):Nat->(LU×Int×Int)->Option Int
  | 0,_=>none
  | n1+1,(a0,a2,y91)=>(bif (decide<|y91 < (a0.length:Int)) then (ix a0 y91).bind fun ahP=>some (((ahP).toNat:Int) !=10) else (some false)).bind fun Bf=>bif Bf then (ix a0 y91).bind fun ahQ=>bif ((IntKind.wrap .i64 ((ahQ).toNat:Int))==a2) then some (IntKind.wrap .i64<|y91+1) else (((ix a0 y91).bind fun ahR=>bif (((ahR).toNat:Int)==92) then (El a0<|IntKind.wrap .i64<|y91+1).bind fun kg=>some (kg !=10) else (some false)).bind fun acf=>bif acf then LY N (Em N n1) (a0,a2,(IntKind.wrap .i64<|y91+1)) else (LY N (Em N n1) (a0,a2,y91))) else (some<|-1)
def Qa (N:Nat) (a0:LU) (a1:Int) (a2:Int):Option Int:=
  (El a0 a1).bind fun r4=>bif (r4 !=a2) then some (-1) else (Em N N (a0,a2,(IntKind.wrap .i64<|a1+1)))
def Qb (N:Nat) (a0:LU) (a1:Int):Option Int:=
  (Qa N a0 a1 34).bind fun r2=>some r2
def Qc (N:Nat) (a0:LU) (a1:Int):Option Int:=
  (Qa N a0 a1 47).bind fun r2=>bif (r2==(IntKind.wrap .i64<|a1+2)) then some (-1) else (some r2)
def Uc (a0:Int):Option Bool:=
  (qA a0 10 26).bind fun r2=>some r2
def Ud (a0:Int):Option Bool:=
  (qA a0 30 68).bind fun r2=>some r2
def LZ (a0:Int):Option LU:=
  bif (a0==1) then some [10] else ((Uc a0).bind fun bF=>bif bF then (ix qX<|IntKind.wrap .i64<|a0 - 10).bind fun e12=>some e12 else ((Ud a0).bind fun bM=>bif bM then (ix yP<|IntKind.wrap .i64<|a0 - 30).bind fun e16=>some e16 else (some [])))
def Qd (N:Nat):(aC×Bool)->Option Bool
  | (a0,y28)=>bif y28 then (Bg N a0.Text).bind fun oU=>some oU else (bif (a0.Kind==8) then (LQ N a0.Text).bind fun r32=>some r32 else ((LZ a0.Kind).bind fun mO=>some<|a0.Text==mO))
def Ma (N:Nat) (a0:aC):Option Bool:=
  bif (a0.Text==[]) then some false else (bif (a0.Kind==2) then ((ix a0.Text 0).bind fun b20=>bif (((b20).toNat:Int)==35) then (TY a0.Text).bind fun bY=>some (!bY) else (some false)).bind fun fA=>some fA else (bif (a0.Kind==3) then (PZ N a0.Text 0).bind fun ru=>some (ru==(a0.Text.length:Int)) else (bif (a0.Kind==4) then (Qb N a0.Text 0).bind fun Ga=>some (Ga==(a0.Text.length:Int)) else (bif (a0.Kind==5) then (Qc N a0.Text 0).bind fun sW=>some (sW==(a0.Text.length:Int)) else (bif (a0.Kind==6) then Qd N (a0,(a0.Kind==6)) else (Qd N (a0,(a0.Kind==7))))))))
def En (a0:Int):Option Bool:=
  (bif (a0==51) then some true else (some<|a0==52)).bind fun y1=>some y1
def Qe:(Int×Bool)->Option Int
  | (a0,y8)=>bif y8 then some 10 else (bif (a0==60) then some 12 else (some 0))
def Ue:(Int×Bool)->Option Int
  | (a0,y7)=>bif y7 then some 9 else (bif (a0==57) then Qe (a0,(a0==57)) else (bif (a0==58) then Qe (a0,(a0==58)) else (Qe (a0,(a0==59)))))
def Gb:(Int×Bool)->Option Int
  | (a0,y6)=>bif y6 then some 7 else (bif (a0==99) then some 8 else (bif (a0==55) then Ue (a0,(a0==55)) else (Ue (a0,(a0==56)))))
def Uf:(Int×Bool)->Option Int
  | (a0,y5)=>bif y5 then some 6 else (bif (a0==63) then Gb (a0,(a0==63)) else (bif (a0==48) then Gb (a0,(a0==48)) else (bif (a0==47) then Gb (a0,(a0==47)) else (bif (a0==50) then Gb (a0,(a0==50)) else (bif (a0==62) then Gb (a0,(a0==62)) else (Gb (a0,(a0==49))))))))
def Bh (a0:Int):Option Int:=
  bif (a0==44) then some 3 else (bif (a0==45) then some 4 else (bif (a0==67) then Uf (a0,(a0==67)) else (Uf (a0,(a0==46)))))
def Mc (a0:Int):Option Bool:=
  (bif (a0==54) then some true else ((qA a0 38 43).bind fun r3=>some r3)).bind fun y2=>some y2
def Ug (N:Nat):(aD×Bool)->Option lS
  | (a0,iJ)=>bif iJ then (En a0.Op).bind fun jo=>some (⟨jo,(a0.Text==[]),false,1,1⟩:lS) else (bif (a0.Kind==11) then (bif (a0.Op==55) then some true else (bif (a0.Op==56) then some true else (some<|a0.Op==61))).bind fun y38=>some (⟨y38,(a0.Text==[]),false,1,1⟩:lS) else (bif (a0.Kind==12) then (Bh a0.Op).bind fun ny=>some (⟨(ny !=0),(a0.Text==[]),false,2,2⟩:lS) else (bif (a0.Kind==14) then some (⟨(a0.Op==0),(a0.Text==[]),false,3,3⟩:lS) else ((Mc a0.Op).bind fun oV=>some (⟨oV,(a0.Text==[]),false,2,2⟩:lS)))))
def Uh (N:Nat):(aD×Bool)->Option lS
  | (a0,y28)=>bif y28 then (Bg N a0.Text).bind fun oU=>some (⟨(a0.Op==0),oU,false,1,6⟩:lS) else (bif (a0.Kind==6) then some (⟨(a0.Op==0),(a0.Text==[]),false,1,1⟩:lS) else (bif (a0.Kind==7) then (Bg N a0.Text).bind fun r32=>some (⟨(a0.Op==0),r32,false,0,6⟩:lS) else (bif (a0.Kind==8) then (LQ N a0.Text).bind fun mO=>some (⟨(a0.Op==0),mO,false,0,6⟩:lS) else (bif (a0.Kind==9) then Ug N (a0,(a0.Kind==9)) else (Ug N (a0,(a0.Kind==10)))))))
def Qf (N:Nat):(aD×Bool)->Option lS
  | (a0,y23)=>bif y23 then (ix [3,4,5]<|IntKind.wrap .i64<|a0.Kind - 2).bind fun e26=>(Ma N (⟨e26,a0.Text,0⟩:aC)).bind fun sW=>some (⟨(a0.Op==0),sW,false,0,0⟩:lS) else (bif (a0.Kind==5) then Uh N (a0,(a0.Kind==5)) else (Uh N (a0,(a0.Kind==13))))
def Yz (N:Nat) (a0:aD):Option lS:=
  bif (a0.Kind==1) then (Bg N a0.Text).bind fun lV=>some (⟨(a0.Op==0),lV,false,0,0⟩:lS) else (bif (a0.Kind==2) then Qf N (a0,(a0.Kind==2)) else (bif (a0.Kind==3) then Qf N (a0,(a0.Kind==3)) else (Qf N (a0,(a0.Kind==4)))))
def Jo (a0:Int):Option Bool:=
  (qA a0 20 34).bind fun r2=>some r2
def xR (N:Nat):(Bool×Bool×Bool×Int×Int)->Option lS
  | (jq,lC,rG,kI,yX)=>some (⟨jq,lC,rG,kI,yX⟩:lS)
def Ui (N:Nat):(aD×Bool)->Option lS
  | (a0,y25)=>bif y25 then xR N ((a0.Op==0),(a0.Text==[]),(a0.Other==[]),2,2) else (bif (a0.Kind==31) then xR N ((a0.Op==0),(a0.Text==[]),(a0.Other==[]),4,4) else (bif (a0.Kind==32) then (Bg N a0.Text).bind fun jE=>(Bg N a0.Other).bind fun vI=>xR N ((a0.Op==0),jE,vI,1,1) else (bif (a0.Kind==33) then xR N ((a0.Op==0),(a0.Text==[]),(a0.Other==[]),0,400) else (bif (a0.Kind==34) then (Ma N (⟨2,a0.Text,0⟩:aC)).bind fun uD=>xR N ((a0.Op==0),uD,(a0.Other==[]),0,0) else (xR N ((a0.Op==0),(a0.Text==[]),(a0.Other==[]),0,0))))))
def Uj (N:Nat):(aD×Bool)->Option lS
  | (a0,y22)=>bif y22 then xR N ((a0.Op==0),(a0.Text==[]),(a0.Other==[]),0,1) else (bif (a0.Kind==27) then (Bg N a0.Text).bind fun jm=>xR N ((a0.Op==0),jm,(a0.Other==[]),0,6) else (bif (a0.Kind==28) then xR N ((a0.Op==0),(a0.Text==[]),(a0.Other==[]),2,3) else (bif (a0.Kind==29) then Ui N (a0,(a0.Kind==29)) else (Ui N (a0,(a0.Kind==30))))))
def YA (N:Nat) (a0:aD):Option lS:=
  bif (a0.Kind==20) then xR N ((a0.Op==0),(a0.Text==[]),(a0.Other==[]),1,1) else (bif (a0.Kind==21) then (bif (a0.Op==0) then some true else (some<|a0.Op==1)).bind fun fA=>(LP N [[],[62],[62,62],[124]] a0.Other).bind fun bY=>bif (!(a0.Other==[])) then xR N (fA,(a0.Text==[]),bY,(IntKind.wrap .i64<|a0.Op+1),7) else (xR N (fA,(a0.Text==[]),bY,a0.Op,6)) else (bif (a0.Kind==23) then Uj N (a0,(a0.Kind==23)) else (Uj N (a0,(a0.Kind==24)))))
def Jp (N:Nat):(aD×Bool×Bool×Int×Int)->Option lS
  | (a0,y9,fu,dH,lU)=>some (⟨y9,fu,(a0.Other==[]),dH,lU⟩:lS)
def Uk (N:Nat):(Bool×aD×Int)->Option lS
  | (eU,a0,rG)=>Jp N (a0,eU,(a0.Text==[]),rG,rG)
def Ul (N:Nat):(Bool×aD×Int)->Option lS
  | (kI,a0,yX)=>Jp N (a0,kI,(a0.Text==[]),yX,yX)
def Um (N:Nat):(aD×Bool)->Option lS
  | (a0,y13)=>bif y13 then Jp N (a0,(a0.Op==0),(a0.Text==[]),1,1) else (bif (a0.Kind==42) then (qA a0.Op 1 3).bind fun eU=>bif (a0.Op==3) then Uk N (eU,a0,2) else (Uk N (eU,a0,1)) else (bif (a0.Kind==43) then (bif (a0.Op==1) then some true else (some<|a0.Op==3)).bind fun kI=>bif (a0.Op==3) then Ul N (kI,a0,3) else (Ul N (kI,a0,2)) else (bif (a0.Kind==44) then (Bg N a0.Text).bind fun mJ=>Jp N (a0,(a0.Op==0),mJ,1,7) else (Jp N (a0,(a0.Op==0),(a0.Text==[]),0,400)))))
def YB (N:Nat) (a0:aD):Option lS:=
  bif (a0.Kind==40) then Um N (a0,(a0.Kind==40)) else (Um N (a0,(a0.Kind==41)))
def Md (N:Nat):(aD×Bool×Bool×Bool×Int×Int)->Option Bool
  | (a0,y13,jq,lC,rG,kI)=>(bif y13 then bif jq then bif lC then (qA (a0.Kids.length:Int) rG kI).bind fun mJ=>some mJ else (some false) else (some false) else (some false)).bind fun fA=>some fA
def Qg (N:Nat) (a0:aD):Option Bool:=
  (Cx a0.Kind).bind fun lV=>bif lV then (Yz N a0).bind fun jm=>Md N (a0,jm.op,jm.text,(a0.Other==[]),jm.least,jm.most) else (bif (a0.Kind==16) then Md N (a0,(a0.Op==0),(a0.Text==[]),(a0.Other==[]),0,0) else ((Jo a0.Kind).bind fun gJ=>bif gJ then (YA N a0).bind fun jE=>Md N (a0,jE.op,jE.text,jE.other,jE.least,jE.most) else ((qA a0.Kind 40 45).bind fun oU=>bif oU then (YB N a0).bind fun r32=>Md N (a0,r32.op,r32.text,r32.other,r32.least,r32.most) else (some false))))
def Qh (a0:Int):Option Bool:=
  (bif (a0==1) then some true else (bif (a0==5) then some true else (some<|a0==6))).bind fun y1=>some y1
def YC (a0:Int):Option Bool:=
  (qA a0 40 44).bind fun r2=>some r2
def oW:(Int×Bool)->Option Bool
  | (a2,y22)=>bif y22 then some (a2==33) else ((Cx a2).bind fun jm=>some jm)
def yY:(Int×Int×aD×Bool)->Option Bool
  | (a2,a1,a0,y38)=>bif y38 then oW (a2,true) else (bif (a0.Kind==33) then (Jo a2).bind fun ny=>some ny else (bif (a0.Kind==42) then (bif (a1==(IntKind.wrap .i64<|(a0.Kids.length:Int) - 1)) then some (decide<|a0.Op>=2) else (some false)).bind fun YD=>oW (a2,YD) else (bif (a0.Kind==43) then (bif (a1==(IntKind.wrap .i64<|(a0.Kids.length:Int) - 1)) then some (a0.Op==3) else (some false)).bind fun Me=>oW (a2,Me) else (bif (a0.Kind==44) then bif (!(a1==(IntKind.wrap .i64<|(a0.Kids.length:Int) - 1))) then some (a2==1) else (oW (a2,true)) else (bif (a0.Kind==45) then ((YC a2).bind fun Jq=>bif Jq then some true else (some<|a2==34)).bind fun y44=>some y44 else (oW (a2,false)))))))
def vJ:(Int×Int×aD×Bool)->Option Bool
  | (a1,a2,a0,iJ)=>bif iJ then oW (a2,(decide<|a1 > 0)) else (bif (a0.Kind==31) then (bif (decide<|a1 < 3) then some (a2==16) else (some false)).bind fun kJ=>bif kJ then some true else (oW (a2,(a1==(IntKind.wrap .i64<|(a0.Kids.length:Int) - 1)))) else (bif (a0.Kind==30) then oW (a2,(a1==0)) else (bif (a0.Kind==32) then yY (a2,a1,a0,(a0.Kind==32)) else (bif (a0.Kind==40) then yY (a2,a1,a0,(a0.Kind==40)) else (yY (a2,a1,a0,(a0.Kind==41)))))))
def rH:(Int×Int×aD×Bool)->Option Bool
  | (a1,a2,a0,y25)=>bif y25 then (Qh a2).bind fun sW=>some sW else (bif (a0.Kind==15) then (bif (a1==0) then (Qh a2).bind fun r32=>bif r32 then some true else (bif (decide<|a1 > 0) then (Cx a2).bind fun fG=>some fG else (some false)) else (bif (decide<|a1 > 0) then (Cx a2).bind fun mO=>some mO else (some false))).bind fun y31=>some y31 else (bif (a0.Kind==28) then vJ (a1,a2,a0,(a0.Kind==28)) else (vJ (a1,a2,a0,(a0.Kind==29)))))
def rJ (a0:aD) (a1:Int) (a2:Int):Option Bool:=
  bif (a0.Kind==9) then rH (a1,a2,a0,(a0.Kind==9)) else (rH (a1,a2,a0,(a0.Kind==10)))
structure Un where
  Bj:LN->Int->Option av
def Jr (N:Nat) (R:Un):Nat->(LN×aD×Int×LS)->Option av
  | 0,_=>none
  | n1+1,(a0,e2,jL,kK)=>bif (decide<|jL < (e2.Kids.length:Int)) then (ix e2.Kids jL).bind fun e86=>(R.Bj a0 e86).bind fun jT=>(app 72 kK [jT]).bind fun x90=>(Jr N R n1) (a0,e2,(IntKind.wrap .i64<|jL+1),x90) else (some (⟨e2.Kind,e2.Op,e2.Text,e2.Other,kK⟩:av))
def Uo (N:Nat) (R:Un) (a0:LN) (a1:Int):Option av:=
  (ix a0 a1).bind fun e2=>Jr N R N (a0,e2,0,[])
def Gc:Nat->Un
  | 0=>⟨fun _ _=>none⟩
  | N+1=>⟨fun a0 a1=>Uo N (Gc N) a0 a1⟩
def Bj (N:Nat) (a0:LN) (a1:Int):Option av:=(Gc N).Bj a0 a1
def Js (N:Nat) (a0:LN):Option av:=
  (Bj N a0<|IntKind.wrap .i64<|(a0.length:Int) - 1).bind fun r2=>some r2
structure Uq where
  vK:av->Option Int
def Jt (N:Nat) (R:Uq):Nat->(av×Int×Int)->Option Int
  | 0,_=>none
  | n1+1,(a0,kJ,y38)=>bif (decide<|y38 < (a0.kids.length:Int)) then (ix a0.kids y38).bind fun e54=>(R.vK e54).bind fun oz=>(Jt N R n1) (a0,(if oz > kJ then oz else kJ),(IntKind.wrap .i64<|y38+1)) else (some<|IntKind.wrap .i64<|kJ+1)
def Ur (N:Nat) (R:Uq) (a0:av):Option Int:=
  Jt N R N (a0,0,0)
def Ju:Nat->Uq
  | 0=>⟨fun _=>none⟩
  | N+1=>⟨fun a0=>Ur N (Ju N) a0⟩
def vK (N:Nat) (a0:av):Option Int:=(Ju N).vK a0
def Mf (N:Nat) (gF:(LN×Int)->Option Bool):Nat->(LN×Int×aD×Int)->Option Bool
  | 0,_=>none
  | n2+1,(a0,xS,uE,Gf)=>bif (decide<|Gf < (uE.Kids.length:Int)) then (ix uE.Kids Gf).bind fun ahS=>(ix a0 ahS).bind fun aci=>(rJ uE Gf aci.Kind).bind fun ahT=>bif (!ahT) then some false else ((Mf N gF n2) (a0,xS,uE,(IntKind.wrap .i64<|Gf+1))) else (gF (a0,(IntKind.wrap .i64<|xS+1)))
def Eo (N:Nat):Nat->(LN×Int)->Option Bool
  | 0,_=>none
  | n1+1,(a0,xS)=>bif (decide<|xS < (a0.length:Int)) then (ix a0 xS).bind fun uE=>(Qg N uE).bind fun ahU=>bif (!ahU) then some false else (Mf N (Eo N n1) N (a0,xS,uE,0)) else ((Js N a0).bind fun acj=>(vK N acj).bind fun ahV=>some<|decide<|ahV<=40)
def Us (N:Nat) (a0:LN):Option Bool:=
  (TS N a0).bind fun r4=>bif (!r4) then some false else (Eo N N (a0,0))
def Ut (N:Nat) (a0:LN):Option Bool:=
  ((Us N a0).bind fun r5=>bif r5 then (ix a0<|IntKind.wrap .i64<|(a0.length:Int) - 1).bind fun e6=>(Cx e6.Kind).bind fun r7=>some r7 else (some false)).bind fun y4=>some y4
def Jv (a0:aL):Option Bool:=
  ((qA a0.Level 1 15).bind fun r3=>bif r3 then bif (!a0.Ct) then some true else (some<|a0.Level==14) else (some false)).bind fun y2=>some y2
def Mg (N:Nat):Nat->(av×Int×(List Int))->Option aD
  | 0,_=>none
  | n1+1,(a0,y25,lX)=>bif (decide<|y25 < (a0.kids.length:Int)) then (app 8 lX [y25]).bind fun YE=>(Mg N n1) (a0,(IntKind.wrap .i64<|y25+1),YE) else (some (⟨a0.kind,a0.op,a0.text,a0.other,lX⟩:aD))
def Uu (N:Nat) (a0:av):Option aD:=
  Mg N N (a0,0,[])
def Gg:Bool->Option Int
  | y8=>bif y8 then some 15 else (some 0)
def YF:(aD×Bool)->Option Int
  | (a0,y7)=>bif y7 then some 13 else (bif (a0.Kind==6) then some 14 else (bif (a0.Kind==1) then Gg (a0.Kind==1) else (bif (a0.Kind==2) then Gg (a0.Kind==2) else (bif (a0.Kind==3) then Gg (a0.Kind==3) else (bif (a0.Kind==4) then Gg (a0.Kind==4) else (bif (a0.Kind==5) then Gg (a0.Kind==5) else (bif (a0.Kind==7) then Gg (a0.Kind==7) else (Gg<|a0.Kind==8))))))))
def Mh (a0:aD):Option Int:=
  bif (a0.Kind==15) then some 1 else (bif (a0.Kind==14) then some 2 else (bif (a0.Kind==13) then some 5 else (bif (a0.Kind==12) then (Bh a0.Op).bind fun r6=>some r6 else (bif (a0.Kind==11) then some 11 else (bif (a0.Kind==9) then YF (a0,(a0.Kind==9)) else (YF (a0,(a0.Kind==10))))))))
def Uv (a0:aD) (a1:aL):Option Bool:=
  (Mh a0).bind fun r2=>((Jv a1).bind fun fT=>bif (!fT) then some true else (some<|r2==0)).bind fun fu=>bif fu then some false else ((bif a1.aY then some (a0.Kind==13) else (some false)).bind fun lU=>bif lU then some false else ((bif a1.bg then bif (a0.Kind==12) then some (a0.Op==62) else (some false) else (some false)).bind fun y13=>bif y13 then some false else ((bif a1.jS then bif (a0.Kind==11) then some true else (bif (a0.Kind==9) then some true else (some<|a0.Kind==4)) else (some false)).bind fun jq=>bif jq then some false else ((bif a1.Ct then bif (a0.Kind==9) then some true else (some<|decide<|r2>=a1.Level) else (some<|decide<|r2>=a1.Level)).bind fun lC=>some lC))))
def jM (a1:LT) (pc:Bool) (p1:LT) (p2:List bP):Option LT:=
  (app 32 p1 a1).bind fun x2=>some x2
def nJ (a0:Int):Option aC:=
  (LZ a0).bind fun r2=>some (⟨a0,r2,0⟩:aC)
def Cy:(Int×Int×Int)->Option Int
  | (a1,y3,y4)=>bif (a1==0) then some y3 else (some y4)
def Uw (a0:Int) (a1:Int):Option Int:=
  (Bh a0).bind fun r6=>bif (r6==3) then Cy (a1,3,4) else (bif (r6==4) then Cy (a1,4,5) else (bif (r6==6) then Cy (a1,7,7) else (bif (r6==7) then Cy (a1,8,8) else (bif (r6==8) then Cy (a1,8,9) else (bif (r6==9) then Cy (a1,9,10) else (bif (r6==10) then Cy (a1,10,11) else (Cy (a1,13,11))))))))
def YG (a0:aD) (a1:Int):Option Int:=
  bif (a0.Kind==15) then bif (decide<|a1 > 0) then some 1 else (some 14) else (bif (a0.Kind==14) then bif (decide<|a1 > 0) then some 2 else (some 3) else (bif (a0.Kind==13) then some 5 else (bif (a0.Kind==11) then some 11 else (bif (a0.Kind==12) then (Uw a0.Op a1).bind fun r4=>some r4 else (some 14)))))
def Ux:(Int×aD×aL×Bool)->Option aL
  | (gJ,a0,a2,y29)=>some (⟨gJ,(a0.Kind==6),a2.aY,a2.bg,y29⟩:aL)
def Mi:(Int×aD×aL×Int×Bool)->Option aL
  | (a1,a0,a2,gJ,oO)=>bif oO then Ux (gJ,a0,a2,false) else ((bif (a1==0) then bif a2.jS then some true else (bif (a1==1) then bif (a0.Kind==12) then some (a0.Op==99) else (some false) else (some false)) else (bif (a1==1) then bif (a0.Kind==12) then some (a0.Op==99) else (some false) else (some false))).bind fun y31=>Ux (gJ,a0,a2,y31))
def Qi (a0:aD) (a1:Int) (a2:aL):Option aL:=
  ((Jv a2).bind fun dG=>bif (!dG) then some true else ((qA a1 0<|IntKind.wrap .i64<|(a0.Kids.length:Int) - 1).bind fun rM=>bif (!rM) then some true else ((Mh a0).bind fun bM=>some<|bM==0))).bind fun dH=>bif dH then some (⟨0,false,false,false,false⟩:aL) else (((Mh a0).bind fun lV=>bif (lV==15) then some true else (bif (a0.Kind==13) then some (decide<|(a0.Kids.length:Int) > 1) else (some false))).bind fun y21=>bif y21 then Option.bind Ee fun jm=>some jm else ((YG a0 a1).bind fun gJ=>bif (a0.Kind==11) then Mi (a1,a0,a2,gJ,(a0.Kind==11)) else (bif (a0.Kind==9) then Mi (a1,a0,a2,gJ,(a0.Kind==9)) else (bif (a0.Kind==10) then Mi (a1,a0,a2,gJ,(a0.Kind==10)) else (Mi (a1,a0,a2,gJ,(a0.Kind==6)))))))
def Uy (a0:aD) (a1:Int):Option Bool:=
  (bif (a1==0) then bif (a0.Kind==9) then some true else (bif (a0.Kind==10) then some true else (some<|a0.Kind==15)) else (some false)).bind fun y1=>some y1
structure rO where
  Jw:av->aL->Bool->LT->(List bP)->Option (LT×(List bP))
  gq:av->Int->aL->Bool->LT->(List bP)->Option (LT×(List bP))
  wU:av->Int->Int->aL->Bool->LT->(List bP)->Option (LT×(List bP))
  zY:av->aL->Bool->LT->(List bP)->Option (LT×(List bP))
  zR:av->aL->Bool->LT->(List bP)->Option (LT×(List bP))
def Gh (N:Nat) (R:rO) (pc:Bool):(av×LT×(List bP))->Option (LT×(List bP))
  | (a1,y24,y25)=>(nJ 24).bind fun jE=>(jM [jE,(⟨6,a1.text,0⟩:aC)] pc y24 y25).bind fun vI=>some (vI,y25)
def yZ (N:Nat) (R:rO) (pc:Bool):(av×aL×(LT×(List bP))×LT)->Option (LT×(List bP))
  | (a1,a2,cB,Jy)=>(R.gq a1 1 a2 pc Jy cB.2).bind fun oz=>some (oz.1,oz.2)
def YH (N:Nat) (R:rO) (pc:Bool):(av×aL×LT×(List bP)×Bool)->Option (LT×(List bP))
  | (a1,a2,p1,p2,y1)=>bif y1 then (nJ a1.op).bind fun r4=>(jM [r4] pc p1 p2).bind fun r5=>(R.gq a1 0 a2 pc r5 p2).bind fun r7=>some (r7.1,r7.2) else (bif (a1.kind==6) then (nJ 68).bind fun bF=>(jM [bF] pc p1 p2).bind fun fT=>(R.gq a1 0 a2 pc fT p2).bind fun rM=>some (rM.1,rM.2) else (bif (a1.kind==10) then (R.gq a1 0 a2 pc p1 p2).bind fun eU=>(nJ a1.op).bind fun gM=>(jM [gM] pc eU.1 eU.2).bind fun iI=>some (iI,eU.2) else (bif (a1.kind==13) then bif (decide<|(a1.kids.length:Int) > 1) then (R.wU a1 32 33 a2 pc p1 p2).bind fun uD=>Gh N R pc (a1,uD.1,uD.2) else ((R.gq a1 0 a2 pc p1 p2).bind fun fG=>Gh N R pc (a1,fG.1,fG.2)) else (bif (a1.kind==14) then (R.gq a1 0 a2 pc p1 p2).bind fun cZ=>(nJ 65).bind fun iw=>(jM [iw] pc cZ.1 cZ.2).bind fun Gi=>(R.gq a1 1 a2 pc Gi cZ.2).bind fun oQ=>(nJ 66).bind fun nK=>(jM [nK] pc oQ.1 oQ.2).bind fun Jq=>(R.gq a1 2 a2 pc Jq oQ.2).bind fun vH=>some (vH.1,vH.2) else ((R.gq a1 0 a2 pc p1 p2).bind fun cB=>bif (a1.op !=99) then (nJ a1.op).bind fun iq=>(jM [iq] pc cB.1 cB.2).bind fun jY=>yZ N R pc (a1,a2,cB,jY) else (yZ N R pc (a1,a2,cB,cB.1)))))))
def Uz (N:Nat) (R:rO) (a1:av) (a2:aL) (pc:Bool) (p1:LT) (p2:List bP):Option (LT×(List bP)):=
  bif (a1.kind==9) then YH N R pc (a1,a2,p1,p2,(a1.kind==9)) else (YH N R pc (a1,a2,p1,p2,(a1.kind==11)))
def UA (N:Nat) (R:rO) (a1:av) (a2:Int) (a3:aL) (pc:Bool) (p1:LT) (p2:List bP):Option (LT×(List bP)):=
  (Uu N a1).bind fun r3=>(ix a1.kids a2).bind fun e4=>(Qi r3 a2 a3).bind fun r6=>(Uy r3 a2).bind fun dG=>bif dG then (R.zY e4 r6 pc p1 p2).bind fun bM=>some (bM.1,bM.2) else ((R.zR e4 r6 pc p1 p2).bind fun r16=>some (r16.1,r16.2))
def Qj (N:Nat) (R:rO) (pc:Bool) (gF:(Int×av×aL×Int×LT×(List bP))->Option (LT×(List bP))):(Int×Int×av×aL×(List bP)×LT)->Option (LT×(List bP))
  | (a3,jL,a1,a4,qg,oC)=>(R.gq a1 jL a4 pc oC qg).bind fun uw=>gF (a3,a1,a4,(IntKind.wrap .i64<|jL+1),uw.1,uw.2)
def Cz (N:Nat) (R:rO) (pc:Bool):Nat->(Int×av×aL×Int×LT×(List bP))->Option (LT×(List bP))
  | 0,_=>none
  | n1+1,(a3,a1,a4,jL,kK,qg)=>bif (decide<|jL < (a1.kids.length:Int)) then bif (decide<|jL > 0) then (nJ 36).bind fun YI=>(jM [YI] pc kK qg).bind fun Jz=>Qj N R pc (Cz N R pc n1) (a3,jL,a1,a4,qg,Jz) else (Qj N R pc (Cz N R pc n1) (a3,jL,a1,a4,qg,kK)) else ((nJ a3).bind fun Cv=>(jM [Cv] pc kK qg).bind fun dD=>some (dD,qg))
def UC (N:Nat) (R:rO) (a1:av) (a2:Int) (a3:Int) (a4:aL) (pc:Bool) (p1:LT) (p2:List bP):Option (LT×(List bP)):=
  (nJ a2).bind fun r3=>(jM [r3] pc p1 p2).bind fun r4=>Cz N R pc N (a3,a1,a4,0,r4,p2)
def xU (N:Nat) (R:rO) (pc:Bool):(LT×LT×(List bP))->Option (LT×(List bP))
  | (p1,y23,y24)=>(app 16 y24 [(⟨(p1.length:Int),(y23.length:Int)⟩:bP)]).bind fun x26=>some (y23,x26)
def YJ (N:Nat) (R:rO) (a1:av) (a2:aL) (pc:Bool) (p1:LT) (p2:List bP):Option (LT×(List bP)):=
  bif (a1.kind==1) then (jM [(⟨6,a1.text,0⟩:aC)] pc p1 p2).bind fun jE=>xU N R pc (p1,jE,p2) else (bif (a1.kind==2) then (jM [(⟨3,a1.text,0⟩:aC)] pc p1 p2).bind fun oU=>xU N R pc (p1,oU,p2) else (bif (a1.kind==3) then (jM [(⟨4,a1.text,0⟩:aC)] pc p1 p2).bind fun r32=>xU N R pc (p1,r32,p2) else (bif (a1.kind==4) then (jM [(⟨5,a1.text,0⟩:aC)] pc p1 p2).bind fun mO=>xU N R pc (p1,mO,p2) else (bif (a1.kind==5) then (jM [(⟨6,a1.text,0⟩:aC)] pc p1 p2).bind fun qz=>(R.wU a1 34 35 a2 pc qz p2).bind fun iw=>xU N R pc (p1,iw.1,iw.2) else (bif (a1.kind==7) then (jM [(⟨7,a1.text,0⟩:aC)] pc p1 p2).bind fun ny=>(R.wU a1 32 33 a2 pc ny p2).bind fun oV=>xU N R pc (p1,oV.1,oV.2) else (bif (a1.kind==8) then (jM [(⟨8,a1.text,0⟩:aC)] pc p1 p2).bind fun nK=>(R.wU a1 32 33 a2 pc nK p2).bind fun uF=>xU N R pc (p1,uF.1,uF.2) else ((R.Jw a1 a2 pc p1 p2).bind fun wV=>xU N R pc (p1,wV.1,wV.2))))))))
def Qk (N:Nat) (R:rO) (pc:Bool):(av×aL×LT×(List bP)×Bool)->Option (LT×(List bP))
  | (a1,a2,p1,p2,y8)=>bif (!y8) then (R.zY a1 a2 pc p1 p2).bind fun dG=>some (dG.1,dG.2) else ((nJ 32).bind fun eU=>(jM [eU] pc p1 p2).bind fun r16=>Option.bind Ee fun iI=>(R.zY a1 iI pc r16 p2).bind fun mJ=>(nJ 33).bind fun ru=>(jM [ru] pc mJ.1 mJ.2).bind fun jm=>some (jm,mJ.2))
def UD (N:Nat) (R:rO) (a1:av) (a2:aL) (pc:Bool) (p1:LT) (p2:List bP):Option (LT×(List bP)):=
  (Uu N a1).bind fun r2=>(Uv r2 a2).bind fun r4=>bif pc then ((Mh r2).bind fun sW=>bif (sW !=15) then some true else (some<|r2.Kind==4)).bind fun lX=>Qk N R pc (a1,a2,p1,p2,lX) else (Qk N R pc (a1,a2,p1,p2,(!r4)))
def dz:Nat->rO
  | 0=>⟨fun _ _ _ _ _=>none,fun _ _ _ _ _ _=>none,fun _ _ _ _ _ _ _=>none,fun _ _ _ _ _=>none,fun _ _ _ _ _=>none⟩
  | N+1=>⟨fun a1 a2 pc p1 p2=>Uz N (dz N) a1 a2 pc p1 p2,fun a1 a2 a3 pc p1 p2=>UA N (dz N) a1 a2 a3 pc p1 p2,fun a1 a2 a3 a4 pc p1 p2=>UC N (dz N) a1 a2 a3 a4 pc p1 p2,fun a1 a2 pc p1 p2=>YJ N (dz N) a1 a2 pc p1 p2,fun a1 a2 pc p1 p2=>UD N (dz N) a1 a2 pc p1 p2⟩
def Jw (N:Nat) (a1:av) (a2:aL) (pc:Bool) (p1:LT) (p2:List bP):Option (LT×(List bP)):=(dz N).Jw a1 a2 pc p1 p2
def gq (N:Nat) (a1:av) (a2:Int) (a3:aL) (pc:Bool) (p1:LT) (p2:List bP):Option (LT×(List bP)):=(dz N).gq a1 a2 a3 pc p1 p2
def wU (N:Nat) (a1:av) (a2:Int) (a3:Int) (a4:aL) (pc:Bool) (p1:LT) (p2:List bP):Option (LT×(List bP)):=(dz N).wU a1 a2 a3 a4 pc p1 p2
def zY (N:Nat) (a1:av) (a2:aL) (pc:Bool) (p1:LT) (p2:List bP):Option (LT×(List bP)):=(dz N).zY a1 a2 pc p1 p2
def zR (N:Nat) (a1:av) (a2:aL) (pc:Bool) (p1:LT) (p2:List bP):Option (LT×(List bP)):=(dz N).zR a1 a2 pc p1 p2
def AX (N:Nat) (a0:LN) (a1:aL) (a2:Bool):Option (LT×(List bP)):=
  ((Ut N a0).bind fun r9=>bif (!r9) then some true else ((Jv a1).bind fun bF=>some<|!bF)).bind fun y8=>bif y8 then some ([],[]) else ((Js N a0).bind fun uG=>(zR N uG a1 a2 [] []).bind fun gM=>some (gM.1,gM.2))
def Td (N:Nat) (a0:LN):Option LT:=
  Option.bind Ee fun r3=>(AX N a0 r3 true).bind fun r4=>some r4.1
def oD (a0:Int) (a1:Int) (a2:Int):Option Bool:=
  (bif (decide<|a0>=a1) then some (decide<|a0<=a2) else (some false)).bind fun y1=>some y1
def Mj (N:Nat) (gF:(LN×Int×(List Int))->Option ((List Int)×Bool)):Nat->(LN×Int×(List Int)×Int×Int)->Option ((List Int)×Bool)
  | 0,_=>none
  | n2+1,(a0,qB,wW,JA,Gj)=>bif (decide<|Gj>=0) then ((ix a0 qB).bind fun ahW=>(ix ahW.Kids Gj).bind fun ahX=>bif (ahX !=(IntKind.wrap .i64<|JA - 1)) then some true else (some<|JA==0)).bind fun aco=>bif aco then some ([],false) else ((ix wW<|IntKind.wrap .i64<|JA - 1).bind fun UE=>(Mj N gF n2) (a0,qB,wW,UE,(IntKind.wrap .i64<|Gj - 1))) else ((app 8 wW [JA]).bind fun YK=>gF (a0,(IntKind.wrap .i64<|qB+1),YK))
def JB (N:Nat):Nat->(LN×Int×(List Int))->Option ((List Int)×Bool)
  | 0,_=>none
  | n1+1,(a0,qB,wW)=>bif (decide<|qB < (a0.length:Int)) then (ix a0 qB).bind fun YL=>Mj N (JB N n1) N (a0,qB,wW,qB,(IntKind.wrap .i64<|(YL.Kids.length:Int) - 1)) else (some (wW,true))
def YM (N:Nat) (a0:LN):Option ((List Int)×Bool):=
  JB N N (a0,0,[])
def Ql (N:Nat) (a0:LN):Option Bool:=
  (oD (a0.length:Int) 1 400).bind fun r4=>bif (!r4) then some false else ((YM N a0).bind fun r6=>(bif r6.2 then (ix r6.1<|IntKind.wrap .i64<|(a0.length:Int) - 1).bind fun e9=>some (e9==0) else (some false)).bind fun y8=>some y8)
def JC (N:Nat) (gF:(LN×Int×(List Int))->Option Int):Nat->(LN×Int×(List Int)×Int×Int)->Option Int
  | 0,_=>none
  | n2+1,(a0,uH,xV,Ep,JD)=>(ix a0 uH).bind fun acp=>bif (decide<|JD < (acp.Kids.length:Int)) then (ix a0 uH).bind fun ahY=>(ix ahY.Kids JD).bind fun ahZ=>(ix xV ahZ).bind fun JE=>(JC N gF n2) (a0,uH,xV,(if (IntKind.wrap .i64<|1+JE) > Ep then (IntKind.wrap .i64<|1+JE) else Ep),(IntKind.wrap .i64<|JD+1)) else ((app 8 xV [Ep]).bind fun YN=>gF (a0,(IntKind.wrap .i64<|uH+1),YN))
def Gl (N:Nat):Nat->(LN×Int×(List Int))->Option Int
  | 0,_=>none
  | n1+1,(a0,uH,xV)=>bif (decide<|uH < (a0.length:Int)) then JC N (Gl N n1) N (a0,uH,xV,1,0) else ((ix xV<|IntKind.wrap .i64<|(a0.length:Int) - 1).bind fun acr=>some acr)
def UF (N:Nat) (a0:LN):Option Int:=
  (Ql N a0).bind fun r4=>bif (!r4) then some 0 else (Gl N N (a0,0,[]))
def Qm:(aD×Bool)->Option (Int×Int)
  | (a0,lU)=>bif lU then some (0,(a0.Kids.length:Int)) else (bif (a0.Kind==42) then some ((IntKind.wrap .i64<|1+(IntKind.wrap .i64<|Int.tdiv a0.Op 3)),(IntKind.wrap .i64<|1+(IntKind.wrap .i64<|Int.tdiv a0.Op 3))) else (bif (a0.Kind==43) then some ((IntKind.wrap .i64<|2+(IntKind.wrap .i64<|Int.tdiv a0.Op 3)),(IntKind.wrap .i64<|2+(IntKind.wrap .i64<|Int.tdiv a0.Op 3))) else (bif (a0.Kind==44) then some (1,7) else (some (0,0)))))
def Qn:(aD×Bool)->Option (Int×Int)
  | (a0,dH)=>bif dH then some (0,1) else (bif (a0.Kind==28) then some (2,3) else (bif (a0.Kind==31) then some (4,4) else (bif (a0.Kind==33) then Qm (a0,(a0.Kind==33)) else (Qm (a0,(a0.Kind==45))))))
def JF:(aD×Bool)->Option (Int×Int)
  | (a0,fu)=>bif fu then some (2,2) else (bif (a0.Kind==14) then some (3,3) else (bif (a0.Kind==21) then bif (!(a0.Other==[])) then some ((IntKind.wrap .i64<|a0.Op+1),7) else (some (a0.Op,6)) else (bif (a0.Kind==23) then Qn (a0,(a0.Kind==23)) else (Qn (a0,(a0.Kind==24))))))
def Bn:(aD×Bool)->Option (Int×Int)
  | (a0,y9)=>bif y9 then some (1,1) else (bif (a0.Kind==12) then JF (a0,(a0.Kind==12)) else (bif (a0.Kind==15) then JF (a0,(a0.Kind==15)) else (bif (a0.Kind==29) then JF (a0,(a0.Kind==29)) else (JF (a0,(a0.Kind==30))))))
def Mk:(aD×Bool)->Option (Int×Int)
  | (a0,y8)=>bif y8 then some (0,6) else (bif (a0.Kind==6) then Bn (a0,(a0.Kind==6)) else (bif (a0.Kind==9) then Bn (a0,(a0.Kind==9)) else (bif (a0.Kind==10) then Bn (a0,(a0.Kind==10)) else (bif (a0.Kind==11) then Bn (a0,(a0.Kind==11)) else (bif (a0.Kind==20) then Bn (a0,(a0.Kind==20)) else (bif (a0.Kind==32) then Bn (a0,(a0.Kind==32)) else (bif (a0.Kind==40) then Bn (a0,(a0.Kind==40)) else (Bn (a0,(a0.Kind==41))))))))))
def Qo:(aD×Bool)->Option (Int×Int)
  | (a0,y7)=>bif y7 then some (1,6) else (bif (a0.Kind==7) then Mk (a0,(a0.Kind==7)) else (bif (a0.Kind==8) then Mk (a0,(a0.Kind==8)) else (Mk (a0,(a0.Kind==27)))))
def Er (a0:aD):Option (Int×Int):=
  bif (a0.Kind==5) then Qo (a0,(a0.Kind==5)) else (Qo (a0,(a0.Kind==13)))
def rP:Bool->Option Bool
  | y2=>bif y2 then some true else (some false)
def Et (a0:Int):Option Bool:=
  bif (a0==60) then rP (a0==60) else (bif (a0==57) then rP (a0==57) else (bif (a0==58) then rP (a0==58) else (bif (a0==59) then rP (a0==59) else (bif (a0==55) then rP (a0==55) else (bif (a0==56) then rP (a0==56) else (bif (a0==99) then rP (a0==99) else (bif (a0==63) then rP (a0==63) else (bif (a0==48) then rP (a0==48) else (bif (a0==47) then rP (a0==47) else (bif (a0==50) then rP (a0==50) else (bif (a0==62) then rP (a0==62) else (bif (a0==49) then rP (a0==49) else (bif (a0==67) then rP (a0==67) else (bif (a0==46) then rP (a0==46) else (bif (a0==45) then rP (a0==45) else (rP<|a0==44))))))))))))))))
def Bo (a0:Int):Option Bool:=
  (bif (a0==54) then some true else ((oD a0 38 43).bind fun r3=>some r3)).bind fun y2=>some y2
def UG:(aD×Bool)->Option Bool
  | (a0,y13)=>bif y13 then (bif (a0.Op==51) then some true else (some<|a0.Op==52)).bind fun jq=>some jq else (bif (a0.Kind==11) then (bif (a0.Op==55) then some true else (bif (a0.Op==56) then some true else (some<|a0.Op==61))).bind fun lC=>some lC else (bif (a0.Kind==12) then (Et a0.Op).bind fun uG=>some uG else (bif (a0.Kind==15) then (Bo a0.Op).bind fun iI=>some iI else (bif (a0.Kind==21) then (oD a0.Op 0 1).bind fun bY=>some bY else (bif (a0.Kind==42) then (oD a0.Op 1 3).bind fun ru=>some ru else (bif (a0.Kind==43) then (bif (a0.Op==1) then some true else (some<|a0.Op==3)).bind fun y24=>some y24 else (some<|a0.Op==0)))))))
def CB (a0:aD):Option Bool:=
  bif (a0.Kind==9) then UG (a0,(a0.Kind==9)) else (UG (a0,(a0.Kind==10)))
def Qp (a0:Int):Option Bool:=
  ((oD a0 97 122).bind fun r4=>bif r4 then some true else ((oD a0 65 90).bind fun r5=>bif r5 then some true else (some<|a0==95))).bind fun y3=>some y3
def Qq (a0:Int):Option Bool:=
  (oD a0 48 57).bind fun r2=>some r2
def UH (a0:Int):Option Bool:=
  ((Qp a0).bind fun r4=>bif r4 then some true else ((Qq a0).bind fun r5=>some r5)).bind fun y3=>some y3
def JG (N:Nat):Nat->(LU×Int)->Option Bool
  | 0,_=>none
  | n1+1,(a0,iJ)=>bif (decide<|iJ < (a0.length:Int)) then (ix a0 iJ).bind fun LK=>(UH<|IntKind.wrap .i64 ((LK).toNat:Int)).bind fun Bb=>bif (!Bb) then some false else ((JG N n1) (a0,(IntKind.wrap .i64<|iJ+1))) else (((oD (a0.length:Int) 1 12).bind fun TU=>bif TU then (ix a0 0).bind fun LM=>(Qp<|IntKind.wrap .i64 ((LM).toNat:Int)).bind fun iq=>some iq else (some false)).bind fun Bc=>some Bc)
def UJ (N:Nat) (a0:LU):Option Bool:=
  JG N N (a0,0)
def UK:Option aN:=
  some [[66,69,71,73,78],[69,78,68],[102,117,110,99,116,105,111,110],[105,102],[101,108,115,101],[119,104,105,108,101],[102,111,114],[100,111],[98,114,101,97,107],[99,111,110,116,105,110,117,101],[110,101,120,116],[101,120,105,116],[114,101,116,117,114,110],[100,101,108,101,116,101],[105,110],[112,114,105,110,116],[112,114,105,110,116,102]]
def Ml (N:Nat):Nat->(aN×LU×Int)->Option Int
  | 0,_=>none
  | n1+1,(a0,a1,fA)=>bif (decide<|fA < (a0.length:Int)) then (ix a0 fA).bind fun e28=>bif (e28==a1) then some fA else ((Ml N n1) (a0,a1,(IntKind.wrap .i64<|fA+1))) else (some<|-1)
def UL (N:Nat) (a0:aN) (a1:LU):Option Int:=
  Ml N N (a0,a1,0)
def UM (N:Nat) (a0:LU):Option Int:=
  Option.bind UK fun r3=>(UL N r3 a0).bind fun r4=>bif (decide<|r4 < 0) then some 0 else (some<|IntKind.wrap .i64<|10+r4)
def YO:Option aN:=
  some [[97,116,97,110,50],[99,108,111,115,101],[99,111,115],[101,120,112],[103,115,117,98],[105,110,100,101,120],[105,110,116],[108,101,110,103,116,104],[108,111,103],[109,97,116,99,104],[114,97,110,100],[115,105,110],[115,112,108,105,116],[115,112,114,105,110,116,102],[115,113,114,116],[115,114,97,110,100],[115,117,98],[115,117,98,115,116,114],[115,121,115,116,101,109],[116,111,108,111,119,101,114],[116,111,117,112,112,101,114]]
def Gm (N:Nat) (a0:LU):Option Bool:=
  Option.bind YO fun r3=>(UL N r3 a0).bind fun r4=>some (decide<|r4>=0)
def CF (N:Nat) (a0:LU):Option Bool:=
  ((UJ N a0).bind fun r5=>bif r5 then (UM N a0).bind fun r6=>bif (r6==0) then (Gm N a0).bind fun r7=>some (!r7) else (some false) else (some false)).bind fun y4=>some y4
def Mq (N:Nat):Nat->(LU×Int)->Option Bool
  | 0,_=>none
  | n1+1,(a0,fA)=>bif (decide<|fA < (a0.length:Int)) then (ix a0 fA).bind fun b28=>bif (((b28).toNat:Int)==10) then some false else ((Mq N n1) (a0,(IntKind.wrap .i64<|fA+1))) else (some true)
def UN (N:Nat) (a0:LU):Option Bool:=
  Mq N N (a0,0)
def Bp (a0:LU) (a1:Int):Option Int:=
  (bif (decide<|a1 < 0) then some true else (some<|decide<|a1>=(a0.length:Int))).bind fun y2=>bif y2 then some (-1) else ((ix a0 a1).bind fun b4=>some<|IntKind.wrap .i64 ((b4).toNat:Int))
def Mr (N:Nat):Nat->(LU×Int)->Option Int
  | 0,_=>none
  | n1+1,(a0,a1)=>(Bp a0 a1).bind fun fG=>(Qq fG).bind fun mO=>bif mO then (Mr N n1) (a0,(IntKind.wrap .i64<|a1+1)) else (some a1)
def Ms (N:Nat) (a0:LU) (a1:Int):Option Int:=
  Mr N N (a0,a1)
def UO (N:Nat):Int->Option Int
  | y9=>some y9
def Qr (N:Nat):(LU×Int×Int)->Option Int
  | (a0,y9,sO)=>(Ms N a0 sO).bind fun oV=>bif (decide<|oV > sO) then (Ms N a0 sO).bind fun nK=>some nK else (UO N y9)
def Qs (N:Nat):(LU×Int×Int)->Option Int
  | (a0,a1,y9)=>bif (y9==a1) then some (-1) else (((Bp a0 y9).bind fun fG=>bif (fG==101) then some true else ((Bp a0 y9).bind fun mO=>some<|mO==69)).bind fun y32=>bif y32 then ((Bp a0<|IntKind.wrap .i64<|y9+1).bind fun wV=>bif (wV==43) then some true else ((Bp a0<|IntKind.wrap .i64<|y9+1).bind fun cB=>some<|cB==45)).bind fun kQ=>bif kQ then Qr N (a0,y9,(IntKind.wrap .i64<|(IntKind.wrap .i64<|y9+1)+1)) else (Qr N (a0,y9,(IntKind.wrap .i64<|y9+1))) else (UO N y9))
def Qt (N:Nat) (a0:LU) (a1:Int):Option Int:=
  bif (decide<|a1 < 0) then some (-1) else ((Ms N a0 a1).bind fun r2=>(Bp a0 r2).bind fun r51=>bif (r51==46) then (Ms N a0<|IntKind.wrap .i64<|r2+1).bind fun mK=>(bif (r2==a1) then some (mK==(IntKind.wrap .i64<|r2+1)) else (some false)).bind fun Qu=>bif Qu then some (-1) else (Qs N (a0,a1,mK)) else (Qs N (a0,a1,r2)))
def Qv (N:Nat) (gF:(LU×Int×Int)->Option Int):(LU×Int×Int)->Option Int
  | (a0,a2,Bq)=>gF (a0,a2,(IntKind.wrap .i64<|Bq+1))
def Gn (N:Nat):Nat->(LU×Int×Int)->Option Int
  | 0,_=>none
  | n1+1,(a0,a2,wY)=>bif (decide<|wY < (a0.length:Int)) then (ix a0 wY).bind fun YP=>bif ((IntKind.wrap .i64 ((YP).toNat:Int))==a2) then some (IntKind.wrap .i64<|wY+1) else (bif ((IntKind.wrap .i64 ((YP).toNat:Int))==10) then some (-1) else (bif ((IntKind.wrap .i64 ((YP).toNat:Int))==92) then (Bp a0<|IntKind.wrap .i64<|wY+1).bind fun zZ=>bif (zZ==10) then some (-1) else (Qv N (Gn N n1) (a0,a2,(IntKind.wrap .i64<|wY+1))) else (Qv N (Gn N n1) (a0,a2,wY)))) else (some<|-1)
def Qw (N:Nat) (a0:LU) (a1:Int) (a2:Int):Option Int:=
  (Bp a0 a1).bind fun r4=>bif (r4 !=a2) then some (-1) else (Gn N N (a0,a2,(IntKind.wrap .i64<|a1+1)))
def Mt (N:Nat) (a0:LU) (a1:Int):Option Int:=
  (Qw N a0 a1 34).bind fun r2=>some r2
def Mv (N:Nat) (a0:LU) (a1:Int):Option Int:=
  (Qw N a0 a1 47).bind fun r2=>bif (r2==(IntKind.wrap .i64<|a1+2)) then some (-1) else (some r2)
def YQ:Option aN:=
  some [[123],[125],[40],[41],[91],[93],[44],[59],[43,61],[45,61],[42,61],[47,61],[37,61],[94,61],[124,124],[38,38],[33,126],[61,61],[60,61],[62,61],[33,61],[43,43],[45,45],[62,62],[61],[43],[45],[42],[47],[37],[94],[33],[62],[60],[124],[63],[58],[126],[36]]
def CG (a0:Int):Option LU:=
  bif (a0==1) then some [10] else ((oD a0 10 26).bind fun bM=>bif bM then Option.bind UK fun uG=>(ix uG<|IntKind.wrap .i64<|a0 - 10).bind fun e18=>some e18 else ((oD a0 30 68).bind fun mJ=>bif mJ then Option.bind YQ fun ru=>(ix ru<|IntKind.wrap .i64<|a0 - 30).bind fun e24=>some e24 else (some [])))
def Aa (N:Nat):(aC×Bool)->Option Bool
  | (a0,oO)=>bif oO then (CF N a0.Text).bind fun r32=>some r32 else (bif (a0.Kind==8) then (Gm N a0.Text).bind fun mO=>some mO else ((bif (!(a0.Text==[])) then (CG a0.Kind).bind fun jo=>some (jo==a0.Text) else (some false)).bind fun LX=>some LX))
def sZ (N:Nat) (a0:aC):Option Bool:=
  bif (a0.Kind==2) then (bif (decide<|(a0.Text.length:Int) > 0) then (ix a0.Text 0).bind fun b21=>bif (((b21).toNat:Int)==35) then (UN N a0.Text).bind fun lV=>some lV else (some false) else (some false)).bind fun y20=>some y20 else (bif (a0.Kind==3) then (bif (decide<|(a0.Text.length:Int) > 0) then (Qt N a0.Text 0).bind fun Ga=>some (Ga==(a0.Text.length:Int)) else (some false)).bind fun y24=>some y24 else (bif (a0.Kind==4) then (Mt N a0.Text 0).bind fun sW=>some (sW==(a0.Text.length:Int)) else (bif (a0.Kind==5) then (Mv N a0.Text 0).bind fun vI=>some (vI==(a0.Text.length:Int)) else (bif (a0.Kind==6) then Aa N (a0,(a0.Kind==6)) else (Aa N (a0,(a0.Kind==7)))))))
def Eu (N:Nat):(aD×Bool)->Option Bool
  | (a0,lX)=>bif lX then ((CF N a0.Text).bind fun vI=>bif vI then some (a0.Other==[]) else (some false)).bind fun y28=>some y28 else (bif (a0.Kind==2) then ((sZ N (⟨3,a0.Text,0⟩:aC)).bind fun r32=>bif r32 then some (a0.Other==[]) else (some false)).bind fun y31=>some y31 else (bif (a0.Kind==3) then ((sZ N (⟨4,a0.Text,0⟩:aC)).bind fun cZ=>bif cZ then some (a0.Other==[]) else (some false)).bind fun y34=>some y34 else (bif (a0.Kind==4) then ((sZ N (⟨5,a0.Text,0⟩:aC)).bind fun iw=>bif iw then some (a0.Other==[]) else (some false)).bind fun kJ=>some kJ else (bif (a0.Kind==34) then ((sZ N (⟨2,a0.Text,0⟩:aC)).bind fun oQ=>bif oQ then some (a0.Other==[]) else (some false)).bind fun sO=>some sO else (bif (a0.Kind==8) then ((Gm N a0.Text).bind fun nK=>bif nK then some (a0.Other==[]) else (some false)).bind fun wY=>some wY else (bif (a0.Kind==32) then ((CF N a0.Text).bind fun wV=>bif wV then (CF N a0.Other).bind fun cB=>some cB else (some false)).bind fun kQ=>some kQ else (bif (a0.Kind==21) then (bif (a0.Text==[]) then bif (a0.Other==[]) then some true else (bif (a0.Other==[62]) then some true else (bif (a0.Other==[62,62]) then some true else (some<|a0.Other==[124]))) else (some false)).bind fun qh=>some qh else ((bif (a0.Text==[]) then some (a0.Other==[]) else (some false)).bind fun JH=>some JH))))))))
def UQ (N:Nat) (a0:aD):Option Bool:=
  bif (a0.Kind==1) then Eu N (a0,(a0.Kind==1)) else (bif (a0.Kind==5) then Eu N (a0,(a0.Kind==5)) else (bif (a0.Kind==7) then Eu N (a0,(a0.Kind==7)) else (bif (a0.Kind==13) then Eu N (a0,(a0.Kind==13)) else (bif (a0.Kind==27) then Eu N (a0,(a0.Kind==27)) else (Eu N (a0,(a0.Kind==44)))))))
def za (N:Nat) (a0:aD):Option Bool:=
  (Er a0).bind fun r2=>((oD a0.Kind 1 16).bind fun r7=>bif r7 then some true else ((oD a0.Kind 20 34).bind fun r8=>bif r8 then some true else ((oD a0.Kind 40 45).bind fun r9=>some r9))).bind fun y6=>(bif y6 then (CB a0).bind fun bM=>bif bM then (UQ N a0).bind fun eU=>bif eU then (oD (a0.Kids.length:Int) r2.1 r2.2).bind fun r16=>some r16 else (some false) else (some false) else (some false)).bind fun y13=>some y13
def JI (a0:Int):Option Bool:=
  (bif (a0==1) then some true else (bif (a0==5) then some true else (some<|a0==6))).bind fun y1=>some y1
def oF (a0:Int):Option Bool:=
  (oD a0 1 15).bind fun r2=>some r2
def UR (a0:Int):Option Bool:=
  (oD a0 20 34).bind fun r2=>some r2
def ze:(Int×Int×aD×Bool)->Option Bool
  | (a1,a2,a0,oG)=>bif oG then some (a2==33) else (bif (a0.Kind==33) then (UR a2).bind fun ou=>some ou else (bif (a0.Kind==42) then (bif (a0.Op==1) then (oF a2).bind fun uz=>bif uz then some true else (bif (a0.Op==2) then bif (a2==33) then some true else (bif (a0.Op==3) then bif (a1==(IntKind.wrap .i64<|(a0.Kids.length:Int) - 1)) then bif (a2==33) then some true else (bif (!(a1==(IntKind.wrap .i64<|(a0.Kids.length:Int) - 1))) then (oF a2).bind fun oP=>some oP else (some false)) else (bif (!(a1==(IntKind.wrap .i64<|(a0.Kids.length:Int) - 1))) then (oF a2).bind fun jT=>some jT else (some false)) else (some false)) else (bif (a0.Op==3) then bif (a1==(IntKind.wrap .i64<|(a0.Kids.length:Int) - 1)) then bif (a2==33) then some true else (bif (!(a1==(IntKind.wrap .i64<|(a0.Kids.length:Int) - 1))) then (oF a2).bind fun rC=>some rC else (some false)) else (bif (!(a1==(IntKind.wrap .i64<|(a0.Kids.length:Int) - 1))) then (oF a2).bind fun Tw=>some Tw else (some false)) else (some false))) else (bif (a0.Op==2) then bif (a2==33) then some true else (bif (a0.Op==3) then bif (a1==(IntKind.wrap .i64<|(a0.Kids.length:Int) - 1)) then bif (a2==33) then some true else (bif (!(a1==(IntKind.wrap .i64<|(a0.Kids.length:Int) - 1))) then (oF a2).bind fun JJ=>some JJ else (some false)) else (bif (!(a1==(IntKind.wrap .i64<|(a0.Kids.length:Int) - 1))) then (oF a2).bind fun Qx=>some Qx else (some false)) else (some false)) else (bif (a0.Op==3) then bif (a1==(IntKind.wrap .i64<|(a0.Kids.length:Int) - 1)) then bif (a2==33) then some true else (bif (!(a1==(IntKind.wrap .i64<|(a0.Kids.length:Int) - 1))) then (oF a2).bind fun rD=>some rD else (some false)) else (bif (!(a1==(IntKind.wrap .i64<|(a0.Kids.length:Int) - 1))) then (oF a2).bind fun Ba=>some Ba else (some false)) else (some false)))).bind fun lY=>some lY else (bif (a0.Kind==43) then (bif (decide<|a1 < 2) then (oF a2).bind fun lq=>bif lq then some true else (bif (a1==2) then some (a2==33) else (some false)) else (bif (a1==2) then some (a2==33) else (some false))).bind fun y97=>some y97 else (bif (a0.Kind==44) then (bif (a1==(IntKind.wrap .i64<|(a0.Kids.length:Int) - 1)) then bif (a2==33) then some true else (bif (!(a1==(IntKind.wrap .i64<|(a0.Kids.length:Int) - 1))) then some (a2==1) else (some false)) else (bif (!(a1==(IntKind.wrap .i64<|(a0.Kids.length:Int) - 1))) then some (a2==1) else (some false))).bind fun y99=>some y99 else (bif (a0.Kind==45) then ((oD a2 40 44).bind fun Tv=>bif Tv then some true else (some<|a2==34)).bind fun y101=>some y101 else ((oF a2).bind fun rF=>some rF))))))
def rQ:(Int×Int×aD×Bool)->Option Bool
  | (a1,a2,a0,Mw)=>bif Mw then (JI a2).bind fun fF=>some fF else (bif (a0.Kind==15) then ((oF a2).bind fun ig=>bif ig then bif (decide<|a1 > 0) then some true else ((JI a2).bind fun iq=>some iq) else (some false)).bind fun JK=>some JK else (bif (a0.Kind==28) then (bif (a1==0) then (oF a2).bind fun zZ=>bif zZ then some true else (bif (decide<|a1 > 0) then some (a2==33) else (some false)) else (bif (decide<|a1 > 0) then some (a2==33) else (some false))).bind fun oH=>some oH else (bif (a0.Kind==29) then (bif (a1==0) then (oF a2).bind fun nT=>bif nT then some true else (bif (a1==1) then some (a2==33) else (some false)) else (bif (a1==1) then some (a2==33) else (some false))).bind fun kK=>some kK else (bif (a0.Kind==30) then (bif (a1==0) then bif (a2==33) then some true else (bif (a1==1) then (oF a2).bind fun Ll=>some Ll else (some false)) else (bif (a1==1) then (oF a2).bind fun jZ=>some jZ else (some false))).bind fun y68=>some y68 else (bif (a0.Kind==31) then (bif (decide<|a1 < 3) then (oF a2).bind fun zV=>bif zV then some true else (bif (a2==16) then some true else (bif (a1==3) then some (a2==33) else (some false))) else (bif (a1==3) then some (a2==33) else (some false))).bind fun iU=>some iU else (bif (a0.Kind==32) then ze (a1,a2,a0,(a0.Kind==32)) else (bif (a0.Kind==40) then ze (a1,a2,a0,(a0.Kind==40)) else (ze (a1,a2,a0,(a0.Kind==41))))))))))
def nL (a0:aD) (a1:Int) (a2:Int):Option Bool:=
  bif (a0.Kind==9) then rQ (a1,a2,a0,(a0.Kind==9)) else (rQ (a1,a2,a0,(a0.Kind==10)))
def CJ (N:Nat) (gF:(LN×Int)->Option Bool):Nat->(LN×Int×Int)->Option Bool
  | 0,_=>none
  | n2+1,(a0,uI,Gp)=>(ix a0 uI).bind fun acv=>bif (decide<|Gp < (acv.Kids.length:Int)) then (ix a0 uI).bind fun acw=>(ix a0 uI).bind fun aie=>(ix aie.Kids Gp).bind fun aif=>(ix a0 aif).bind fun acy=>(nL acw Gp acy.Kind).bind fun aii=>bif (!aii) then some false else ((CJ N gF n2) (a0,uI,(IntKind.wrap .i64<|Gp+1))) else (gF (a0,(IntKind.wrap .i64<|uI+1)))
def xW (N:Nat):Nat->(LN×Int)->Option Bool
  | 0,_=>none
  | n1+1,(a0,uI)=>bif (decide<|uI < (a0.length:Int)) then (ix a0 uI).bind fun acz=>(za N acz).bind fun aij=>bif (!aij) then some false else (CJ N (xW N n1) N (a0,uI,0)) else (some true)
def xI (N:Nat) (a0:LN):Option Bool:=
  ((Ql N a0).bind fun r9=>bif (!r9) then some true else ((UF N a0).bind fun bF=>some<|decide<|bF > 40)).bind fun y8=>bif y8 then some false else (xW N N (a0,0))
def La (N:Nat) (a0:LN):Option Bool:=
  ((xI N a0).bind fun r5=>bif r5 then (ix a0<|IntKind.wrap .i64<|(a0.length:Int) - 1).bind fun e6=>(oF e6.Kind).bind fun r7=>some r7 else (some false)).bind fun y4=>some y4
def CK:Bool->Option Bool
  | y2=>bif y2 then some true else (some false)
def Mx (a0:Int):Option Bool:=
  bif (a0==3) then CK (a0==3) else (bif (a0==4) then CK (a0==4) else (bif (a0==5) then CK (a0==5) else (bif (a0==6) then CK (a0==6) else (bif (a0==8) then CK (a0==8) else (bif (a0==33) then CK (a0==33) else (bif (a0==35) then CK (a0==35) else (bif (a0==51) then CK (a0==51) else (CK<|a0==52))))))))
def UU (N:Nat) (gF:(LT×Int×Int)->Option Bool):(LT×Int×aC×Bool)->Option Bool
  | (a0,lD,iy,YR)=>bif YR then some false else (gF (a0,iy.Kind,(IntKind.wrap .i64<|lD+1)))
def JL (N:Nat) (gF:(LT×Int×Int)->Option Bool):(LT×Int×Int×aC×Int)->Option Bool
  | (a0,rR,lD,iy,MB)=>(Ma N iy).bind fun aik=>bif (!aik) then some false else ((bif (iy.Kind==7) then some (MB !=32) else (some false)).bind fun acA=>bif acA then some false else ((bif (iy.Kind==2) then bif (MB !=1) then some (MB !=0) else (some false) else (some false)).bind fun acB=>bif acB then some false else ((bif (iy.Kind==5) then (Mx rR).bind fun ail=>some ail else (some false)).bind fun UW=>bif UW then UU N gF (a0,lD,iy,UW) else ((bif (iy.Kind==58) then (Mx rR).bind fun ain=>some (!ain) else (bif (iy.Kind==41) then (Mx rR).bind fun aio=>some (!aio) else (some false))).bind fun YS=>UU N gF (a0,lD,iy,YS)))))
def xX (N:Nat):Nat->(LT×Int×Int)->Option Bool
  | 0,_=>none
  | n1+1,(a0,rR,lD)=>bif (decide<|lD < (a0.length:Int)) then (ix a0 lD).bind fun iy=>bif (decide<|(IntKind.wrap .i64<|lD+1) < (a0.length:Int)) then (ix a0<|IntKind.wrap .i64<|lD+1).bind fun acC=>JL N (xX N n1) (a0,rR,lD,iy,acC.Kind) else (JL N (xX N n1) (a0,rR,lD,iy,0)) else (some true)
def FP (N:Nat) (a0:LT):Option Bool:=
  bif (decide<|(a0.length:Int) > 3000) then some false else (xX N N (a0,0,0))
def Ev (a0:Int):Option Bool:=
  (bif (a0==32) then some true else (bif (a0==34) then some true else (some<|a0==30))).bind fun y1=>some y1
def Ew (a0:Int):Option Bool:=
  (bif (a0==33) then some true else (bif (a0==35) then some true else (some<|a0==31))).bind fun y1=>some y1
def MC (N:Nat) (gF:(LT×Int×Int)->Option Int):(Int×LT×Int)->Option Int
  | (iV,a0,Gq)=>bif (decide<|Gq > 40) then some iV else (gF (a0,Gq,(IntKind.wrap .i64<|iV+1)))
def CP (N:Nat):Nat->(LT×Int×Int)->Option Int
  | 0,_=>none
  | n1+1,(a0,y93,iV)=>bif (decide<|iV < (a0.length:Int)) then (ix a0 iV).bind fun UY=>(Ev UY.Kind).bind fun TG=>bif TG then MC N (CP N n1) (iV,a0,(IntKind.wrap .i64<|y93+1)) else ((Ew UY.Kind).bind fun aip=>bif aip then MC N (CP N n1) (iV,a0,(if 0 > (IntKind.wrap .i64<|y93 - 1) then 0 else (IntKind.wrap .i64<|y93 - 1))) else (MC N (CP N n1) (iV,a0,y93))) else (some<|-1)
def YT (N:Nat) (a0:LT):Option Int:=
  CP N N (a0,0,0)
def UZ (a0:LT) (a1:Int):Option Int:=
  bif (decide<|a1 < (a0.length:Int)) then (ix a0 a1).bind fun e4=>some e4.At else (bif ((a0.length:Int)==0) then some 0 else ((ix a0<|IntKind.wrap .i64<|(a0.length:Int) - 1).bind fun e7=>(ix a0<|IntKind.wrap .i64<|(a0.length:Int) - 1).bind fun e8=>some<|IntKind.wrap .i64<|e7.At+(e8.Text.length:Int)))
def Va (N:Nat) (a0:LT):Option xL:=
  (FP N a0).bind fun r4=>bif (!r4) then some (⟨2,0⟩:xL) else ((YT N a0).bind fun bF=>bif (decide<|bF>=0) then (UZ a0 bF).bind fun dG=>some (⟨4,dG⟩:xL) else (some (⟨0,0⟩:xL)))
def fH (pa:LT) (pb:Int) (pc:Bool) (p1:aN):Option Int:=
  bif (decide<|pb>=(pa.length:Int)) then some 0 else ((ix pa pb).bind fun e2=>some e2.Kind)
def Ey:Bool->Option Bool
  | y2=>bif y2 then some true else (some false)
def Qy (a0:Int):Option Bool:=
  bif (a0==3) then Ey (a0==3) else (bif (a0==4) then Ey (a0==4) else (bif (a0==6) then Ey (a0==6) else (bif (a0==7) then Ey (a0==7) else (bif (a0==8) then Ey (a0==8) else (bif (a0==32) then Ey (a0==32) else (Ey<|a0==68))))))
def Qz (pa:LT) (pb:Int) (pc:Bool) (p1:aN):Option (fq×Bool):=
  some ((⟨(⟨0,0,[],[],[]⟩:av),false⟩:fq),true)
def YU (N:Nat) (pa:LT) (pb:Int) (pc:Bool) (p1:aN):Unit->Option Bool
  | _=>some false
def Gr (N:Nat) (pa:LT) (pb:Int) (pc:Bool) (p1:aN) (YV:(LT×Int×Int)->Option Bool):(LT×Int×Int)->Option Bool
  | (nM,oC,Gt)=>bif (decide<|Gt<=0) then YU N pa pb pc p1 () else (YV (nM,Gt,(IntKind.wrap .i64<|oC+1)))
def zf (N:Nat) (pa:LT) (pb:Int) (pc:Bool) (p1:aN):Nat->(LT×Int×Int)->Option Bool
  | 0,_=>none
  | n2+1,(nM,CQ,oC)=>bif (decide<|oC < (nM.length:Int)) then (ix nM oC).bind fun QA=>(Ev QA.Kind).bind fun aiq=>bif aiq then Gr N pa pb pc p1 (zf N pa pb pc p1 n2) (nM,oC,(IntKind.wrap .i64<|CQ+1)) else ((Ew QA.Kind).bind fun air=>bif air then Gr N pa pb pc p1 (zf N pa pb pc p1 n2) (nM,oC,(IntKind.wrap .i64<|CQ - 1)) else ((bif (QA.Kind==36) then some (CQ==1) else (some false)).bind fun y160=>bif y160 then some true else (Gr N pa pb pc p1 (zf N pa pb pc p1 n2) (nM,oC,CQ)))) else (YU N pa pb pc p1 ())
def ME (N:Nat) (pa:LT) (pb:Int) (pc:Bool) (p1:aN):Option Bool:=
  (cut pa pb (pa.length:Int)).bind fun nM=>zf N pa pb pc p1 N (nM,0,0)
def Vb (N:Nat) (pa:LT) (pc:Bool) (gF:(Int×aN)->Option (Int×aN)):(Int×aN)->Option (Int×aN)
  | (jq,kJ)=>gF ((IntKind.wrap .i64<|jq+1),kJ)
def CS (N:Nat) (pa:LT) (pc:Bool):Nat->(Int×aN)->Option (Int×aN)
  | 0,_=>none
  | n1+1,(jq,lC)=>bif (!pc) then (fH pa jq pc lC).bind fun Gi=>bif (Gi==1) then Vb N pa pc (CS N pa pc n1) (jq,lC) else (bif (Gi==2) then (ix pa jq).bind fun e42=>(app 16 lC [e42.Text]).bind fun x43=>Vb N pa pc (CS N pa pc n1) (jq,x43) else (some (jq,lC))) else (some (jq,lC))
def MF (N:Nat) (pa:LT) (pb:Int) (pc:Bool) (p1:aN):Option (Int×aN):=
  CS N pa pc N (pb,p1)
def JM (a1:Int) (pa:LT) (pb:Int) (pc:Bool) (p1:aN):Option (Bool×Int×Bool):=
  (bif pc then some true else ((fH pa pb pc p1).bind fun r6=>some<|r6 !=a1)).bind fun y5=>bif y5 then some (false,pb,true) else (some (true,(IntKind.wrap .i64<|pb+1),pc))
def Ez (pa:LT) (pb:Int) (pc:Bool) (p1:aN):Option (LU×Int):=
  (ix pa pb).bind fun e2=>some (e2.Text,(IntKind.wrap .i64<|pb+1))
def EA (a0:Int) (a1:fq) (a2:fq):Option fq:=
  some (⟨(⟨12,a0,[],[],[a1.tree,a2.tree]⟩:av),false⟩:fq)
def JN (pa:LT) (pb:Int) (pc:Bool) (p1:aN):Option (LU×Int×Bool):=
  (bif pc then some true else ((fH pa pb pc p1).bind fun r6=>some<|r6 !=6)).bind fun y5=>bif y5 then some ([],pb,true) else ((Ez pa pb pc p1).bind fun r8=>some (r8.1,r8.2,pc))
structure eu where
  zh:LT->Int->Bool->aN->Option T1
  CU:LT->Int->Bool->aN->Option T1
  rT:LT->Int->Bool->aN->Option T1
  MG:LT->Int->Bool->aN->Option T1
  Ab:LT->Int->Bool->aN->Option T1
  Br:LT->Int->Bool->aN->Option T1
  Bt:bH->LT->Int->Bool->aN->Option T1
  rU:bH->LT->Int->Bool->aN->Option T1
  zi:bH->LT->Int->Bool->aN->Option T1
  zk:bH->LT->Int->Bool->aN->Option T1
  xY:bH->LT->Int->Bool->aN->Option T1
  xZ:bH->LT->Int->Bool->aN->Option T1
  Bu:bH->LT->Int->Bool->aN->Option T1
  MH:bH->LT->Int->Bool->aN->Option (LS×Int×Bool×aN)
  Ac:Int->LT->Int->Bool->aN->Option (LS×Int×Bool×aN)
  zl:bH->LT->Int->Bool->aN->Option T1
  zm:bH->LT->Int->Bool->aN->Option T1
  Bv:bH->LT->Int->Bool->aN->Option T1
  uJ:bH->LT->Int->Bool->aN->Option T1
  qC:bH->LT->Int->Bool->aN->Option T1
def YW (N:Nat) (R:eu) (pa:LT):((LU×Int)×Int×Int×Bool×LS×aN)->Option T1
  | (r2,y7,y8,y9,fu,dH)=>some ((⟨(⟨y7,0,r2.1,[],fu⟩:av),true⟩:fq),y8,y9,dH)
def MI (N:Nat) (R:eu) (pa:LT) (pb:Int) (pc:Bool) (p1:aN):Option T1:=
  (Ez pa pb pc p1).bind fun r2=>(fH pa r2.2 pc p1).bind fun rM=>bif (rM==34) then (R.Ac 35 pa (IntKind.wrap .i64<|r2.2+1) pc p1).bind fun eU=>YW N R pa (r2,5,eU.2.1,eU.2.2.1,eU.1,eU.2.2.2) else (YW N R pa (r2,1,r2.2,pc,[],p1))
def YX (N:Nat) (R:eu) (pa:LT):(Int×(LU×Int)×Int×Bool×LS×aN)->Option T1
  | (vL,cB,Bq,uK,wZ,oH)=>some ((⟨(⟨vL,0,cB.1,[],wZ⟩:av),false⟩:fq),Bq,uK,oH)
def QB (N:Nat) (R:eu) (pa:LT):((LU×Int)×Bool×aN×Int)->Option T1
  | (cB,pc,p1,vL)=>(JM 32 pa cB.2 pc p1).bind fun wQ=>bif wQ.1 then (R.Ac 33 pa wQ.2.1 wQ.2.2 p1).bind fun nT=>YX N R pa (vL,cB,nT.2.1,nT.2.2.1,nT.1,nT.2.2.2) else (YX N R pa (vL,cB,wQ.2.1,wQ.2.2,[],p1))
def EB (N:Nat) (R:eu) (pa:LT):(Int×Int×Bool×aN×Bool)->Option T1
  | (iw,pb,pc,p1,kQ)=>bif kQ then (Ez pa pb pc p1).bind fun cB=>bif (iw==8) then (bif (cB.1==[108,101,110,103,116,104]) then (fH pa cB.2 pc p1).bind fun sU=>some (sU !=32) else (some false)).bind fun y67=>bif y67 then some ((⟨(⟨8,0,cB.1,[],[]⟩:av),false⟩:fq),cB.2,pc,p1) else (QB N R pa (cB,pc,p1,8)) else (QB N R pa (cB,pc,p1,7)) else (bif (iw==32) then (R.qC (⟨false,false⟩:bH) pa (IntKind.wrap .i64<|pb+1) pc p1).bind fun jZ=>(JM 33 pa jZ.2.1 jZ.2.2.1 jZ.2.2.2).bind fun ow=>some ((⟨jZ.1.tree,false⟩:fq),ow.2.1,ow.2.2,jZ.2.2.2) else ((Qz pa pb pc p1).bind fun kR=>some (kR.1,pb,kR.2,p1)))
def vM (N:Nat) (R:eu) (pa:LT) (pb:Int) (pc:Bool) (p1:aN):Option T1:=
  bif pc then some ((⟨(⟨0,0,[],[],[]⟩:av),false⟩:fq),pb,pc,p1) else ((fH pa pb pc p1).bind fun iw=>bif (iw==3) then (Ez pa pb pc p1).bind fun ny=>some ((⟨(⟨2,0,ny.1,[],[]⟩:av),false⟩:fq),ny.2,pc,p1) else (bif (iw==4) then (Ez pa pb pc p1).bind fun oV=>some ((⟨(⟨3,0,oV.1,[],[]⟩:av),false⟩:fq),oV.2,pc,p1) else (bif (iw==5) then (Ez pa pb pc p1).bind fun nK=>some ((⟨(⟨4,0,nK.1,[],[]⟩:av),false⟩:fq),nK.2,pc,p1) else (bif (iw==6) then (R.zh pa pb pc p1).bind fun uF=>some (uF.1,uF.2.1,uF.2.2.1,uF.2.2.2) else (bif (iw==7) then EB N R pa (iw,pb,pc,p1,(iw==7)) else (EB N R pa (iw,pb,pc,p1,(iw==8))))))))
def YZ (N:Nat) (R:eu) (pa:LT):(Int×Int×LU×LU×LS×Bool×Int×Bool×aN)->Option T1
  | (fA,y20,y21,y22,y23,y24,y25,lX,y27)=>some ((⟨(⟨6,0,[],[],[(⟨fA,y20,y21,y22,y23⟩:av)]⟩:av),true⟩:fq),y25,lX,y27)
def CV (N:Nat) (R:eu) (pa:LT) (pb:Int) (pc:Bool) (p1:aN):Option T1:=
  (bif pc then some true else ((fH pa pb pc p1).bind fun r8=>some<|r8 !=68)).bind fun y7=>bif y7 then (R.CU pa pb pc p1).bind fun bF=>some (bF.1,bF.2.1,bF.2.2.1,bF.2.2.2) else ((fH pa (IntKind.wrap .i64<|pb+1) pc p1).bind fun oU=>(En oU).bind fun uD=>bif uD then (R.Ab pa (IntKind.wrap .i64<|pb+1) pc p1).bind fun fG=>YZ N R pa (fG.1.tree.kind,fG.1.tree.op,fG.1.tree.text,fG.1.tree.other,fG.1.tree.kids,fG.1.target,fG.2.1,fG.2.2.1,fG.2.2.2) else ((R.rT pa (IntKind.wrap .i64<|pb+1) pc p1).bind fun cZ=>YZ N R pa (cZ.1.tree.kind,cZ.1.tree.op,cZ.1.tree.text,cZ.1.tree.other,cZ.1.tree.kids,cZ.1.target,cZ.2.1,cZ.2.2.1,cZ.2.2.2)))
def Za (N:Nat) (R:eu) (pa:LT):(Int×Bool×aN)->Option T1
  | (pb,pc,p1)=>(Qz pa pb pc p1).bind fun bF=>some (bF.1,pb,bF.2,p1)
def Vd (N:Nat) (R:eu) (pa:LT) (pb:Int) (pc:Bool) (p1:aN):Option T1:=
  bif pc then Za N R pa (pb,pc,p1) else ((fH pa pb pc p1).bind fun dG=>bif (dG==68) then (R.rT pa pb pc p1).bind fun bM=>some (bM.1,bM.2.1,bM.2.2.1,bM.2.2.2) else ((fH pa pb pc p1).bind fun r16=>bif (r16==6) then (R.zh pa pb pc p1).bind fun gM=>some (gM.1,gM.2.1,gM.2.2.1,gM.2.2.2) else (Za N R pa (pb,pc,p1))))
def Ve (N:Nat) (R:eu) (pa:LT) (pb:Int) (pc:Bool) (p1:aN):Option T1:=
  (fH pa pb pc p1).bind fun r2=>(R.MG pa (IntKind.wrap .i64<|pb+1) pc p1).bind fun r4=>some ((⟨(⟨9,r2,[],[],[r4.1.tree]⟩:av),false⟩:fq),r4.2.1,r4.2.2.1,r4.2.2.2)
def Gu (N:Nat) (R:eu) (pa:LT) (pb:Int) (pc:Bool) (p1:aN):Option T1:=
  (bif (!pc) then (fH pa pb pc p1).bind fun fT=>(En fT).bind fun dG=>some dG else (some false)).bind fun fu=>bif fu then (R.Ab pa pb pc p1).bind fun bM=>some (bM.1,bM.2.1,bM.2.2.1,bM.2.2.2) else ((R.rT pa pb pc p1).bind fun r16=>(bif r16.2.2.1 then some true else (bif (!r16.1.target) then some true else ((fH pa r16.2.1 r16.2.2.1 r16.2.2.2).bind fun Ga=>(En Ga).bind fun gJ=>some<|!gJ))).bind fun y24=>bif y24 then some (r16.1,r16.2.1,r16.2.2.1,r16.2.2.2) else ((fH pa r16.2.1 r16.2.2.1 r16.2.2.2).bind fun jE=>some ((⟨(⟨10,jE,[],[],[r16.1.tree]⟩:av),false⟩:fq),(IntKind.wrap .i64<|r16.2.1+1),r16.2.2.1,r16.2.2.2)))
def MJ (N:Nat) (R:eu) (a1:bH) (pa:LT) (pb:Int) (pc:Bool) (p1:aN):Option T1:=
  (R.Br pa pb pc p1).bind fun r2=>(bif r2.2.2.1 then some true else ((fH pa r2.2.1 r2.2.2.1 r2.2.2.2).bind fun r8=>some<|r8 !=60)).bind fun y7=>bif y7 then some (r2.1,r2.2.1,r2.2.2.1,r2.2.2.2) else ((R.rU a1 pa (IntKind.wrap .i64<|r2.2.1+1) r2.2.2.1 r2.2.2.2).bind fun fT=>(EA 60 r2.1 fT.1).bind fun dG=>some (dG,fT.2.1,fT.2.2.1,fT.2.2.2))
def Gv (N:Nat) (R:eu) (a1:bH) (pa:LT) (pb:Int) (pc:Bool) (p1:aN):Option T1:=
  (fH pa pb pc p1).bind fun r2=>(bif pc then some true else (bif (r2 !=55) then bif (r2 !=56) then some (r2 !=61) else (some false) else (some false))).bind fun y6=>bif y6 then (R.Bt a1 pa pb pc p1).bind fun r8=>some (r8.1,r8.2.1,r8.2.2.1,r8.2.2.2) else ((R.rU a1 pa (IntKind.wrap .i64<|pb+1) pc p1).bind fun bF=>some ((⟨(⟨11,r2,[],[],[bF.1.tree]⟩:av),false⟩:fq),bF.2.1,bF.2.2.1,bF.2.2.2))
def Gw (N:Nat) (R:eu) (pa:LT):Nat->(bH×Int×Bool×Int×Int×LU×LU×LS×Bool×aN)->Option T1
  | 0,_=>none
  | n1+1,(a1,ko,lY,tq,tu,oZ,y90,y91,jc,y93)=>(bif (!lY) then (fH pa ko lY y93).bind fun MK=>(Bh MK).bind fun zW=>some (zW==10) else (some false)).bind fun EC=>bif EC then (fH pa ko lY y93).bind fun sQ=>(R.rU a1 pa (IntKind.wrap .i64<|ko+1) lY y93).bind fun nI=>(EA sQ (⟨(⟨tq,tu,oZ,y90,y91⟩:av),jc⟩:fq) nI.1).bind fun kg=>(Gw N R pa n1) (a1,nI.2.1,nI.2.2.1,kg.tree.kind,kg.tree.op,kg.tree.text,kg.tree.other,kg.tree.kids,kg.target,nI.2.2.2) else (some ((⟨(⟨tq,tu,oZ,y90,y91⟩:av),jc⟩:fq),ko,lY,y93))
def Vf (N:Nat) (R:eu) (a1:bH) (pa:LT) (pb:Int) (pc:Bool) (p1:aN):Option T1:=
  (R.rU a1 pa pb pc p1).bind fun r2=>Gw N R pa N (a1,r2.2.1,r2.2.2.1,r2.1.tree.kind,r2.1.tree.op,r2.1.tree.text,r2.1.tree.other,r2.1.tree.kids,r2.1.target,r2.2.2.2)
def Gx (N:Nat) (R:eu) (pa:LT):Nat->(bH×Int×Bool×Int×Int×LU×LU×LS×Bool×aN)->Option T1
  | 0,_=>none
  | n1+1,(a1,ko,lY,tq,tu,oZ,y90,y91,jc,y93)=>(bif (!lY) then (fH pa ko lY y93).bind fun MK=>(Bh MK).bind fun zW=>some (zW==9) else (some false)).bind fun EC=>bif EC then (fH pa ko lY y93).bind fun sQ=>(R.zi a1 pa (IntKind.wrap .i64<|ko+1) lY y93).bind fun nI=>(EA sQ (⟨(⟨tq,tu,oZ,y90,y91⟩:av),jc⟩:fq) nI.1).bind fun kg=>(Gx N R pa n1) (a1,nI.2.1,nI.2.2.1,kg.tree.kind,kg.tree.op,kg.tree.text,kg.tree.other,kg.tree.kids,kg.target,nI.2.2.2) else (some ((⟨(⟨tq,tu,oZ,y90,y91⟩:av),jc⟩:fq),ko,lY,y93))
def Vg (N:Nat) (R:eu) (a1:bH) (pa:LT) (pb:Int) (pc:Bool) (p1:aN):Option T1:=
  (R.zi a1 pa pb pc p1).bind fun r2=>Gx N R pa N (a1,r2.2.1,r2.2.2.1,r2.1.tree.kind,r2.1.tree.op,r2.1.tree.text,r2.1.tree.other,r2.1.tree.kids,r2.1.target,r2.2.2.2)
def Gy (N:Nat) (R:eu) (pa:LT):Nat->(bH×Int×Bool×Int×Int×LU×LU×LS×Bool×aN)->Option T1
  | 0,_=>none
  | n1+1,(a1,lZ,ED,Gz,GA,Bw,GD,GH,GI,ko)=>(bif (!ED) then (fH pa lZ ED ko).bind fun acE=>(Qy acE).bind fun ais=>some ais else (some false)).bind fun acF=>bif acF then (R.zk a1 pa lZ ED ko).bind fun vG=>(EA 99 (⟨(⟨Gz,GA,Bw,GD,GH⟩:av),GI⟩:fq) vG.1).bind fun qb=>(Gy N R pa n1) (a1,vG.2.1,vG.2.2.1,qb.tree.kind,qb.tree.op,qb.tree.text,qb.tree.other,qb.tree.kids,qb.target,vG.2.2.2) else (some ((⟨(⟨Gz,GA,Bw,GD,GH⟩:av),GI⟩:fq),lZ,ED,ko))
def Vh (N:Nat) (R:eu) (a1:bH) (pa:LT) (pb:Int) (pc:Bool) (p1:aN):Option T1:=
  (R.zk a1 pa pb pc p1).bind fun r2=>Gy N R pa N (a1,r2.2.1,r2.2.2.1,r2.1.tree.kind,r2.1.tree.op,r2.1.tree.text,r2.1.tree.other,r2.1.tree.kids,r2.1.target,r2.2.2.2)
def ML (N:Nat) (R:eu) (a1:bH) (pa:LT) (pb:Int) (pc:Bool) (p1:aN):Option T1:=
  (R.xY a1 pa pb pc p1).bind fun r2=>(bif r2.2.2.1 then some true else ((fH pa r2.2.1 r2.2.2.1 r2.2.2.2).bind fun bM=>(Bh bM).bind fun eU=>bif (eU !=7) then some true else (bif a1.dA then (fH pa r2.2.1 r2.2.2.1 r2.2.2.2).bind fun r16=>some (r16==62) else (some false)))).bind fun y13=>bif y13 then some (r2.1,r2.2.1,r2.2.2.1,r2.2.2.2) else ((fH pa r2.2.1 r2.2.2.1 r2.2.2.2).bind fun gM=>(R.xY a1 pa (IntKind.wrap .i64<|r2.2.1+1) r2.2.2.1 r2.2.2.2).bind fun bY=>(EA gM r2.1 bY.1).bind fun lV=>some (lV,bY.2.1,bY.2.2.1,bY.2.2.2))
def MN (N:Nat) (R:eu) (a1:bH) (pa:LT) (pb:Int) (pc:Bool) (p1:aN):Option T1:=
  (R.xZ a1 pa pb pc p1).bind fun r2=>(bif r2.2.2.1 then some true else ((fH pa r2.2.1 r2.2.2.1 r2.2.2.2).bind fun fT=>bif (fT !=67) then (fH pa r2.2.1 r2.2.2.1 r2.2.2.2).bind fun dG=>some (dG !=46) else (some false))).bind fun fu=>bif fu then some (r2.1,r2.2.1,r2.2.2.1,r2.2.2.2) else ((fH pa r2.2.1 r2.2.2.1 r2.2.2.2).bind fun bM=>(R.xZ a1 pa (IntKind.wrap .i64<|r2.2.1+1) r2.2.2.1 r2.2.2.2).bind fun uG=>(EA bM r2.1 uG.1).bind fun gM=>some (gM,uG.2.1,uG.2.2.1,uG.2.2.2))
def Vi (N:Nat) (R:eu) (pa:LT):(LS×Int×Bool×aN)->Option (LS×Int×Bool×aN)
  | (qZ,qy,kQ,nk)=>some (qZ,qy,kQ,nk)
def JO (N:Nat) (R:eu) (pa:LT):Nat->(bH×Int×Bool×LS×aN)->Option (LS×Int×Bool×aN)
  | 0,_=>none
  | n2+1,(a1,oH,JQ,jL,kK)=>bif (!JQ) then (R.qC a1 pa oH JQ kK).bind fun iK=>(app 72 jL [iK.1.tree]).bind fun x84=>(bif iK.2.2.1 then some true else ((fH pa iK.2.1 iK.2.2.1 iK.2.2.2).bind fun rC=>some<|rC !=36)).bind fun oZ=>bif oZ then Vi N R pa (x84,iK.2.1,iK.2.2.1,iK.2.2.2) else (bif ((x84.length:Int)==6) then Vi N R pa (x84,iK.2.1,true,iK.2.2.2) else ((MF N pa (IntKind.wrap .i64<|iK.2.1+1) iK.2.2.1 iK.2.2.2).bind fun JJ=>(JO N R pa n2) (a1,JJ.1,iK.2.2.1,x84,JJ.2))) else (Vi N R pa (jL,oH,JQ,kK))
def acG (N:Nat) (R:eu) (a1:bH) (pa:LT) (pb:Int) (pc:Bool) (p1:aN):Option (LS×Int×Bool×aN):=
  JO N R pa N (a1,pb,pc,[],p1)
def MO (N:Nat) (R:eu) (a1:Int) (pa:LT) (pb:Int) (pc:Bool) (p1:aN):Option (LS×Int×Bool×aN):=
  ((fH pa pb pc p1).bind fun r6=>bif (r6==a1) then some (a1==33) else (some false)).bind fun y5=>bif y5 then some ([],(IntKind.wrap .i64<|pb+1),pc,p1) else ((R.MH (⟨false,false⟩:bH) pa pb pc p1).bind fun r8=>(JM a1 pa r8.2.1 r8.2.2.1 r8.2.2.2).bind fun bF=>some (r8.1,bF.2.1,bF.2.2,r8.2.2.2))
def JR (N:Nat) (R:eu) (pa:LT):Nat->(bH×(LS×Int×Bool×aN)×Int×Bool×LU×LS)->Option T1
  | 0,_=>none
  | n1+1,(a1,bY,y91,jc,y93,iV)=>(bif (!jc) then (fH pa y91 jc bY.2.2.2).bind fun Jz=>bif (Jz==24) then some (!a1.dw) else (some false) else (some false)).bind fun acH=>bif acH then (JN pa (IntKind.wrap .i64<|y91+1) jc bY.2.2.2).bind fun wP=>(JR N R pa n1) (a1,bY,wP.2.1,wP.2.2,wP.1,[(⟨13,0,y93,[],iV⟩:av)]) else (some ((⟨(⟨13,0,y93,[],iV⟩:av),false⟩:fq),y91,jc,bY.2.2.2))
def JU (N:Nat) (R:eu) (pa:LT):Nat->(bH×T1×Int×Bool×LU×LS)->Option T1
  | 0,_=>none
  | n2+1,(a1,dD,zn,yg,uL,rV)=>(bif (!yg) then (fH pa zn yg dD.2.2.2).bind fun Ei=>bif (Ei==24) then some (!a1.dw) else (some false) else (some false)).bind fun acI=>bif acI then (JN pa (IntKind.wrap .i64<|zn+1) yg dD.2.2.2).bind fun MP=>(JU N R pa n2) (a1,dD,MP.2.1,MP.2.2,MP.1,[(⟨13,0,uL,[],rV⟩:av)]) else (some ((⟨(⟨13,0,uL,[],rV⟩:av),false⟩:fq),zn,yg,dD.2.2.2))
def GJ (N:Nat) (R:eu) (a1:bH) (pa:LT) (pb:Int) (pc:Bool) (p1:aN):Option T1:=
  (bif (!pc) then (fH pa pb pc p1).bind fun gM=>bif (gM==32) then bif (!a1.dw) then (ME N pa pb pc p1).bind fun iI=>some iI else (some false) else (some false) else (some false)).bind fun kI=>bif kI then (R.Ac 33 pa (IntKind.wrap .i64<|pb+1) pc p1).bind fun bY=>(bif (!bY.2.2.1) then (fH pa bY.2.1 bY.2.2.1 bY.2.2.2).bind fun jm=>some (jm !=24) else (some false)).bind fun y23=>bif y23 then (Qz pa bY.2.1 bY.2.2.1 bY.2.2.2).bind fun gJ=>some (gJ.1,bY.2.1,gJ.2,bY.2.2.2) else ((bif (!bY.2.2.1) then (fH pa bY.2.1 bY.2.2.1 bY.2.2.2).bind fun ou=>bif (ou==24) then some (!a1.dw) else (some false) else (some false)).bind fun pq=>bif pq then (neN bY.1).bind fun b80=>(JN pa (IntKind.wrap .i64<|bY.2.1+1) bY.2.2.1 bY.2.2.2).bind fun uM=>JR N R pa N (a1,bY,uM.2.1,uM.2.2,uM.1,bY.1) else (some ((⟨(⟨0,0,[],[],[]⟩:av),false⟩:fq),bY.2.1,bY.2.2.1,bY.2.2.2))) else ((R.Bu a1 pa pb pc p1).bind fun dD=>(bif (!dD.2.2.1) then (fH pa dD.2.1 dD.2.2.1 dD.2.2.2).bind fun ait=>bif (ait==24) then some (!a1.dw) else (some false) else (some false)).bind fun acK=>bif acK then (JN pa (IntKind.wrap .i64<|dD.2.1+1) dD.2.2.1 dD.2.2.2).bind fun EF=>JU N R pa N (a1,dD,EF.2.1,EF.2.2,EF.1,[dD.1.tree]) else (some (dD.1,dD.2.1,dD.2.2.1,dD.2.2.2)))
def GK (N:Nat) (R:eu) (pa:LT):Nat->(bH×Int×Bool×Int×Int×LU×LU×LS×Bool×aN)->Option T1
  | 0,_=>none
  | n1+1,(a1,kT,jK,jX,iU,lW,oG,pq,tC,lZ)=>(bif (!jK) then (fH pa kT jK lZ).bind fun rF=>some (rF==45) else (some false)).bind fun MQ=>bif MQ then (MF N pa (IntKind.wrap .i64<|kT+1) jK lZ).bind fun oo=>(R.zl a1 pa oo.1 jK oo.2).bind fun tF=>(EA 45 (⟨(⟨jX,iU,lW,oG,pq⟩:av),tC⟩:fq) tF.1).bind fun nA=>(GK N R pa n1) (a1,tF.2.1,tF.2.2.1,nA.tree.kind,nA.tree.op,nA.tree.text,nA.tree.other,nA.tree.kids,nA.target,tF.2.2.2) else (some ((⟨(⟨jX,iU,lW,oG,pq⟩:av),tC⟩:fq),kT,jK,lZ))
def Vj (N:Nat) (R:eu) (a1:bH) (pa:LT) (pb:Int) (pc:Bool) (p1:aN):Option T1:=
  (R.zl a1 pa pb pc p1).bind fun r2=>GK N R pa N (a1,r2.2.1,r2.2.2.1,r2.1.tree.kind,r2.1.tree.op,r2.1.tree.text,r2.1.tree.other,r2.1.tree.kids,r2.1.target,r2.2.2.2)
def GL (N:Nat) (R:eu) (pa:LT):Nat->(bH×Int×Bool×Int×Int×LU×LU×LS×Bool×aN)->Option T1
  | 0,_=>none
  | n1+1,(a1,kT,jK,jX,iU,lW,oG,pq,tC,lZ)=>(bif (!jK) then (fH pa kT jK lZ).bind fun rF=>some (rF==44) else (some false)).bind fun MQ=>bif MQ then (MF N pa (IntKind.wrap .i64<|kT+1) jK lZ).bind fun oo=>(R.zm a1 pa oo.1 jK oo.2).bind fun tF=>(EA 44 (⟨(⟨jX,iU,lW,oG,pq⟩:av),tC⟩:fq) tF.1).bind fun nA=>(GL N R pa n1) (a1,tF.2.1,tF.2.2.1,nA.tree.kind,nA.tree.op,nA.tree.text,nA.tree.other,nA.tree.kids,nA.target,tF.2.2.2) else (some ((⟨(⟨jX,iU,lW,oG,pq⟩:av),tC⟩:fq),kT,jK,lZ))
def Vk (N:Nat) (R:eu) (a1:bH) (pa:LT) (pb:Int) (pc:Bool) (p1:aN):Option T1:=
  (R.zm a1 pa pb pc p1).bind fun r2=>GL N R pa N (a1,r2.2.1,r2.2.2.1,r2.1.tree.kind,r2.1.tree.op,r2.1.tree.text,r2.1.tree.other,r2.1.tree.kids,r2.1.target,r2.2.2.2)
def MR (N:Nat) (R:eu) (a1:bH) (pa:LT) (pb:Int) (pc:Bool) (p1:aN):Option T1:=
  (R.Bv a1 pa pb pc p1).bind fun r2=>(bif r2.2.2.1 then some true else ((fH pa r2.2.1 r2.2.2.1 r2.2.2.2).bind fun r8=>some<|r8 !=65)).bind fun y7=>bif y7 then some (r2.1,r2.2.1,r2.2.2.1,r2.2.2.2) else ((R.uJ a1 pa (IntKind.wrap .i64<|r2.2.1+1) r2.2.2.1 r2.2.2.2).bind fun bF=>(JM 66 pa bF.2.1 bF.2.2.1 bF.2.2.2).bind fun dG=>bif dG.2.2 then some ((⟨(⟨0,0,[],[],[]⟩:av),false⟩:fq),dG.2.1,dG.2.2,bF.2.2.2) else ((R.uJ a1 pa dG.2.1 dG.2.2 bF.2.2.2).bind fun bM=>some ((⟨(⟨14,0,[],[],[r2.1.tree,bF.1.tree,bM.1.tree]⟩:av),false⟩:fq),bM.2.1,bM.2.2.1,bM.2.2.2)))
def MS (N:Nat) (R:eu) (a1:bH) (pa:LT) (pb:Int) (pc:Bool) (p1:aN):Option T1:=
  (R.uJ a1 pa pb pc p1).bind fun r2=>(bif r2.2.2.1 then some true else (bif (!r2.1.target) then some true else ((fH pa r2.2.1 r2.2.2.1 r2.2.2.2).bind fun fT=>(Mc fT).bind fun dG=>some<|!dG))).bind fun fu=>bif fu then some (r2.1,r2.2.1,r2.2.2.1,r2.2.2.2) else ((fH pa r2.2.1 r2.2.2.1 r2.2.2.2).bind fun bM=>(R.qC a1 pa (IntKind.wrap .i64<|r2.2.1+1) r2.2.2.1 r2.2.2.2).bind fun r16=>some ((⟨(⟨15,bM,[],[],[r2.1.tree,r16.1.tree]⟩:av),false⟩:fq),r16.2.1,r16.2.2.1,r16.2.2.2))
def aS:Nat->eu
  | 0=>⟨fun _ _ _ _=>none,fun _ _ _ _=>none,fun _ _ _ _=>none,fun _ _ _ _=>none,fun _ _ _ _=>none,fun _ _ _ _=>none,fun _ _ _ _ _=>none,fun _ _ _ _ _=>none,fun _ _ _ _ _=>none,fun _ _ _ _ _=>none,fun _ _ _ _ _=>none,fun _ _ _ _ _=>none,fun _ _ _ _ _=>none,fun _ _ _ _ _=>none,fun _ _ _ _ _=>none,fun _ _ _ _ _=>none,fun _ _ _ _ _=>none,fun _ _ _ _ _=>none,fun _ _ _ _ _=>none,fun _ _ _ _ _=>none⟩
  | N+1=>⟨fun pa pb pc p1=>MI N (aS N) pa pb pc p1,fun pa pb pc p1=>vM N (aS N) pa pb pc p1,fun pa pb pc p1=>CV N (aS N) pa pb pc p1,fun pa pb pc p1=>Vd N (aS N) pa pb pc p1,fun pa pb pc p1=>Ve N (aS N) pa pb pc p1,fun pa pb pc p1=>Gu N (aS N) pa pb pc p1,fun a1 pa pb pc p1=>MJ N (aS N) a1 pa pb pc p1,fun a1 pa pb pc p1=>Gv N (aS N) a1 pa pb pc p1,fun a1 pa pb pc p1=>Vf N (aS N) a1 pa pb pc p1,fun a1 pa pb pc p1=>Vg N (aS N) a1 pa pb pc p1,fun a1 pa pb pc p1=>Vh N (aS N) a1 pa pb pc p1,fun a1 pa pb pc p1=>ML N (aS N) a1 pa pb pc p1,fun a1 pa pb pc p1=>MN N (aS N) a1 pa pb pc p1,fun a1 pa pb pc p1=>acG N (aS N) a1 pa pb pc p1,fun a1 pa pb pc p1=>MO N (aS N) a1 pa pb pc p1,fun a1 pa pb pc p1=>GJ N (aS N) a1 pa pb pc p1,fun a1 pa pb pc p1=>Vj N (aS N) a1 pa pb pc p1,fun a1 pa pb pc p1=>Vk N (aS N) a1 pa pb pc p1,fun a1 pa pb pc p1=>MR N (aS N) a1 pa pb pc p1,fun a1 pa pb pc p1=>MS N (aS N) a1 pa pb pc p1⟩
def zh (N:Nat) (pa:LT) (pb:Int) (pc:Bool) (p1:aN):Option T1:=(aS N).zh pa pb pc p1
def CU (N:Nat) (pa:LT) (pb:Int) (pc:Bool) (p1:aN):Option T1:=(aS N).CU pa pb pc p1
def rT (N:Nat) (pa:LT) (pb:Int) (pc:Bool) (p1:aN):Option T1:=(aS N).rT pa pb pc p1
def MG (N:Nat) (pa:LT) (pb:Int) (pc:Bool) (p1:aN):Option T1:=(aS N).MG pa pb pc p1
def Ab (N:Nat) (pa:LT) (pb:Int) (pc:Bool) (p1:aN):Option T1:=(aS N).Ab pa pb pc p1
def Br (N:Nat) (pa:LT) (pb:Int) (pc:Bool) (p1:aN):Option T1:=(aS N).Br pa pb pc p1
def Bt (N:Nat) (a1:bH) (pa:LT) (pb:Int) (pc:Bool) (p1:aN):Option T1:=(aS N).Bt a1 pa pb pc p1
def rU (N:Nat) (a1:bH) (pa:LT) (pb:Int) (pc:Bool) (p1:aN):Option T1:=(aS N).rU a1 pa pb pc p1
def zi (N:Nat) (a1:bH) (pa:LT) (pb:Int) (pc:Bool) (p1:aN):Option T1:=(aS N).zi a1 pa pb pc p1
def zk (N:Nat) (a1:bH) (pa:LT) (pb:Int) (pc:Bool) (p1:aN):Option T1:=(aS N).zk a1 pa pb pc p1
def xY (N:Nat) (a1:bH) (pa:LT) (pb:Int) (pc:Bool) (p1:aN):Option T1:=(aS N).xY a1 pa pb pc p1
def xZ (N:Nat) (a1:bH) (pa:LT) (pb:Int) (pc:Bool) (p1:aN):Option T1:=(aS N).xZ a1 pa pb pc p1
def Bu (N:Nat) (a1:bH) (pa:LT) (pb:Int) (pc:Bool) (p1:aN):Option T1:=(aS N).Bu a1 pa pb pc p1
def MH (N:Nat) (a1:bH) (pa:LT) (pb:Int) (pc:Bool) (p1:aN):Option (LS×Int×Bool×aN):=(aS N).MH a1 pa pb pc p1
def Ac (N:Nat) (a1:Int) (pa:LT) (pb:Int) (pc:Bool) (p1:aN):Option (LS×Int×Bool×aN):=(aS N).Ac a1 pa pb pc p1
def zl (N:Nat) (a1:bH) (pa:LT) (pb:Int) (pc:Bool) (p1:aN):Option T1:=(aS N).zl a1 pa pb pc p1
def zm (N:Nat) (a1:bH) (pa:LT) (pb:Int) (pc:Bool) (p1:aN):Option T1:=(aS N).zm a1 pa pb pc p1
def Bv (N:Nat) (a1:bH) (pa:LT) (pb:Int) (pc:Bool) (p1:aN):Option T1:=(aS N).Bv a1 pa pb pc p1
def uJ (N:Nat) (a1:bH) (pa:LT) (pb:Int) (pc:Bool) (p1:aN):Option T1:=(aS N).uJ a1 pa pb pc p1
def qC (N:Nat) (a1:bH) (pa:LT) (pb:Int) (pc:Bool) (p1:aN):Option T1:=(aS N).qC a1 pa pb pc p1
def Vl (N:Nat) (a1:aL) (pa:LT) (pb:Int) (pc:Bool) (p1:aN):Option T1:=
  (bif a1.jS then (fH pa pb pc p1).bind fun fT=>(Qy fT).bind fun dG=>some (!dG) else (some false)).bind fun fu=>bif fu then (Qz pa pb pc p1).bind fun bM=>some (bM.1,pb,bM.2,p1) else (bif (a1.Level==1) then (qC N (⟨a1.aY,a1.bg⟩:bH) pa pb pc p1).bind fun ig=>some (ig.1,ig.2.1,ig.2.2.1,ig.2.2.2) else (bif (a1.Level==2) then (uJ N (⟨a1.aY,a1.bg⟩:bH) pa pb pc p1).bind fun jY=>some (jY.1,jY.2.1,jY.2.2.1,jY.2.2.2) else (bif (a1.Level==3) then (Bv N (⟨a1.aY,a1.bg⟩:bH) pa pb pc p1).bind fun zZ=>some (zZ.1,zZ.2.1,zZ.2.2.1,zZ.2.2.2) else (bif (a1.Level==4) then (zm N (⟨a1.aY,a1.bg⟩:bH) pa pb pc p1).bind fun r64=>some (r64.1,r64.2.1,r64.2.2.1,r64.2.2.2) else (bif (a1.Level==5) then (zl N (⟨a1.aY,a1.bg⟩:bH) pa pb pc p1).bind fun rE=>some (rE.1,rE.2.1,rE.2.2.1,rE.2.2.2) else (bif (a1.Level==6) then (Bu N (⟨a1.aY,a1.bg⟩:bH) pa pb pc p1).bind fun sU=>some (sU.1,sU.2.1,sU.2.2.1,sU.2.2.2) else (bif (a1.Level==7) then (xZ N (⟨a1.aY,a1.bg⟩:bH) pa pb pc p1).bind fun jZ=>some (jZ.1,jZ.2.1,jZ.2.2.1,jZ.2.2.2) else (bif (a1.Level==8) then (xY N (⟨a1.aY,a1.bg⟩:bH) pa pb pc p1).bind fun ow=>some (ow.1,ow.2.1,ow.2.2.1,ow.2.2.2) else (bif (a1.Level==9) then (zk N (⟨a1.aY,a1.bg⟩:bH) pa pb pc p1).bind fun kR=>some (kR.1,kR.2.1,kR.2.2.1,kR.2.2.2) else (bif (a1.Level==10) then (zi N (⟨a1.aY,a1.bg⟩:bH) pa pb pc p1).bind fun ou=>some (ou.1,ou.2.1,ou.2.2.1,ou.2.2.2) else (bif (a1.Level==11) then (rU N (⟨a1.aY,a1.bg⟩:bH) pa pb pc p1).bind fun mM=>some (mM.1,mM.2.1,mM.2.2.1,mM.2.2.2) else (bif (a1.Level==12) then (Bt N (⟨a1.aY,a1.bg⟩:bH) pa pb pc p1).bind fun sS=>some (sS.1,sS.2.1,sS.2.2.1,sS.2.2.2) else (bif (a1.Level==13) then (Br N pa pb pc p1).bind fun uM=>some (uM.1,uM.2.1,uM.2.2.1,uM.2.2.2) else (bif (a1.Level==14) then (bif a1.Ct then (fH pa pb pc p1).bind fun Qx=>(En Qx).bind fun rD=>some rD else (some false)).bind fun jc=>bif jc then (Ab N pa pb pc p1).bind fun nu=>some (nu.1,nu.2.1,nu.2.2.1,nu.2.2.2) else ((rT N pa pb pc p1).bind fun lq=>some (lq.1,lq.2.1,lq.2.2.1,lq.2.2.2)) else ((CU N pa pb pc p1).bind fun rA=>some (rA.1,rA.2.1,rA.2.2.1,rA.2.2.2))))))))))))))))
structure Vm where
  Ad:av->Option Int
def JV (N:Nat) (R:Vm):Nat->(av×Int×Int)->Option Int
  | 0,_=>none
  | n1+1,(a0,kJ,y38)=>bif (decide<|y38 < (a0.kids.length:Int)) then (ix a0.kids y38).bind fun e54=>(R.Ad e54).bind fun oz=>(JV N R n1) (a0,(IntKind.wrap .i64<|kJ+oz),(IntKind.wrap .i64<|y38+1)) else (some kJ)
def acL (N:Nat) (R:Vm) (a0:av):Option Int:=
  JV N R N (a0,1,0)
def MU:Nat->Vm
  | 0=>⟨fun _=>none⟩
  | N+1=>⟨fun a0=>acL N (MU N) a0⟩
def Ad (N:Nat) (a0:av):Option Int:=(MU N).Ad a0
def Vn (N:Nat) (a0:av):Option xL:=
  (Ad N a0).bind fun r6=>bif (decide<|r6 > 400) then some (⟨1,0⟩:xL) else ((vK N a0).bind fun r8=>bif (decide<|r8 > 40) then some (⟨4,0⟩:xL) else (some (⟨0,0⟩:xL)))
structure Vo where
  Bz:av->LN->Option LN
def JW (N:Nat) (R:Vo):Nat->(av×Int×LN×(List Int))->Option LN
  | 0,_=>none
  | n1+1,(a0,uK,wZ,oH)=>bif (decide<|uK < (a0.kids.length:Int)) then (ix a0.kids uK).bind fun Zb=>(R.Bz Zb wZ).bind fun nH=>(app 8 oH [(IntKind.wrap .i64<|(nH.length:Int) - 1)]).bind fun x88=>(JW N R n1) (a0,(IntKind.wrap .i64<|uK+1),nH,x88) else ((app 72 wZ [(⟨a0.kind,a0.op,a0.text,a0.other,oH⟩:aD)]).bind fun x90=>some x90)
def Vp (N:Nat) (R:Vo) (a0:av) (p0:LN):Option LN:=
  JW N R N (a0,0,p0,[])
def GQ:Nat->Vo
  | 0=>⟨fun _ _=>none⟩
  | N+1=>⟨fun a0 p0=>Vp N (GQ N) a0 p0⟩
def Bz (N:Nat) (a0:av) (p0:LN):Option LN:=(GQ N).Bz a0 p0
def QC (N:Nat) (a0:av):Option LN:=
  (Bz N a0 []).bind fun r2=>some r2
def Vq (N:Nat) (a0:LT) (a1:aL):Option (LN×Int×xL):=
  (Jv a1).bind fun r4=>bif (!r4) then some ([],0,(⟨3,0⟩:xL)) else ((Va N a0).bind fun r8=>bif (!((r8.Kind==0)&&((r8.At==0)&&true))) then some ([],0,r8) else ((Vl N a1 a0 0 false []).bind fun fT=>bif fT.2.2.1 then (UZ a0 fT.2.1).bind fun eU=>some ([],0,(⟨3,eU⟩:xL)) else ((Vn N fT.1.tree).bind fun iI=>bif (!((iI.Kind==0)&&((iI.At==0)&&true))) then some ([],0,iI) else ((QC N fT.1.tree).bind fun bY=>some (bY,fT.2.1,(⟨0,0⟩:xL))))))
def MV (a0:Int):Option Bool:=
  (bif (a0==33) then some true else (bif (a0==35) then some true else (some<|a0==31))).bind fun y1=>some y1
def MW (a0:Int):Option Bool:=
  (bif (a0==32) then some true else (bif (a0==34) then some true else (some<|a0==30))).bind fun y1=>some y1
def QD (N:Nat) (gF:(LT×Int×Int)->Option Int):(LT×Int×Int)->Option Int
  | (a0,y150,QE)=>bif (decide<|QE > 40) then some y150 else (gF (a0,QE,(IntKind.wrap .i64<|y150+1)))
def QF (N:Nat) (gF:(LT×Int×Int)->Option Int):(LT×Int×Int)->Option Int
  | (a0,y150,MX)=>(ix a0 y150).bind fun e219=>(MW e219.Kind).bind fun aiu=>bif aiu then QD N gF (a0,y150,(IntKind.wrap .i64<|MX+1)) else (QD N gF (a0,y150,MX))
def BA (N:Nat):Nat->(LT×Int×Int)->Option Int
  | 0,_=>none
  | n1+1,(a0,GR,y150)=>bif (decide<|y150 < (a0.length:Int)) then (ix a0 y150).bind fun e223=>(MV e223.Kind).bind fun aiv=>bif aiv then QF N (BA N n1) (a0,y150,(if (IntKind.wrap .i64<|GR - 1) > 0 then (IntKind.wrap .i64<|GR - 1) else 0)) else (QF N (BA N n1) (a0,y150,GR)) else (some<|-1)
def Zc (N:Nat) (a0:LT):Option Int:=
  BA N N (a0,0,0)
def MZ (N:Nat):Nat->((List Int)×(List Int)×Int)->Option Bool
  | 0,_=>none
  | n1+1,(a0,a1,iJ)=>bif (decide<|iJ < (a0.length:Int)) then (ix a0 iJ).bind fun e51=>(ix a1 iJ).bind fun e52=>bif (e51 !=e52) then some false else ((MZ N n1) (a0,a1,(IntKind.wrap .i64<|iJ+1))) else (some true)
def Vr (N:Nat) (a0:List Int) (a1:List Int):Option Bool:=
  bif ((a0.length:Int) !=(a1.length:Int)) then some false else (MZ N N (a0,a1,0))
def Na (N:Nat):Nat->(LN×LN×Int)->Option Bool
  | 0,_=>none
  | n1+1,(a0,a1,vO)=>bif (decide<|vO < (a0.length:Int)) then ((ix a0 vO).bind fun e270=>(ix a1 vO).bind fun e271=>bif (e270.Kind !=e271.Kind) then some true else ((ix a0 vO).bind fun e272=>(ix a1 vO).bind fun e273=>bif (e272.Op !=e273.Op) then some true else ((ix a0 vO).bind fun e274=>(ix a1 vO).bind fun e275=>bif (!(e274.Text==e275.Text)) then some true else ((ix a0 vO).bind fun aiw=>(ix a1 vO).bind fun aix=>bif (!(aiw.Other==aix.Other)) then some true else ((ix a0 vO).bind fun e278=>(ix a1 vO).bind fun e279=>(Vr N e278.Kids e279.Kids).bind fun aiy=>some<|!aiy))))).bind fun acM=>bif acM then some false else ((Na N n1) (a0,a1,(IntKind.wrap .i64<|vO+1))) else (some true)
def Lb (N:Nat) (a0:LN) (a1:LN):Option Bool:=
  bif ((a0.length:Int) !=(a1.length:Int)) then some false else (Na N N (a0,a1,0))
def Vs (a0:LT) (a1:Int):Option Bool:=
  (bif (decide<|a1 > 0) then (ix a0<|IntKind.wrap .i64<|a1 - 1).bind fun e4=>bif (e4.Kind==7) then some true else ((ix a0<|IntKind.wrap .i64<|a1 - 1).bind fun e5=>some<|e5.Kind==8) else (some false)).bind fun y3=>some y3
def QG (N:Nat) (gF:(LT×Int×Int)->Option Int):(LT×Int×Int)->Option Int
  | (a0,qh,kT)=>gF (a0,kT,(IntKind.wrap .i64<|qh+1))
def EG (N:Nat):Nat->(LT×Int×Int)->Option Int
  | 0,_=>none
  | n1+1,(a0,xO,qh)=>bif (decide<|qh < (a0.length:Int)) then (ix a0 qh).bind fun e71=>(bif (e71.Kind==32) then (Vs a0 qh).bind fun kR=>some (!kR) else (some false)).bind fun lW=>bif lW then QG N (EG N n1) (a0,qh,(IntKind.wrap .i64<|xO+1)) else (QG N (EG N n1) (a0,qh,xO)) else (some xO)
def FQ (N:Nat) (a0:LT):Option Int:=
  EG N N (a0,0,0)
def Te (N:Nat) (a0:LN) (a1:aL):Option LT:=
  (AX N a0 a1 false).bind fun r2=>some r2.1
def OZ (N:Nat) (a0:LU):Option Bool:=
  (Ye a0).bind fun r4=>bif r4 then some true else ((KZ N a0).bind fun r6=>(Td N r6).bind fun r8=>(La N r6).bind fun dG=>bif (!dG) then some ((r8.length:Int)==0) else (Option.bind Ee fun eU=>(Vq N r8 eU).bind fun r16=>bif (r16.2.2.Kind==4) then (Zc N r8).bind fun mJ=>some (decide<|mJ>=0) else ((bif (r16.2.2.Kind==0) then bif (r16.2.1==(r8.length:Int)) then (Lb N r6 r16.1).bind fun sW=>bif sW then (FQ N r8).bind fun jE=>Option.bind Ee fun vI=>(Te N r6 vI).bind fun oU=>(FQ N oU).bind fun uD=>some (decide<|jE>=uD) else (some false) else (some false) else (some false)).bind fun lX=>some lX)))
def QH:(Int×Bool)->Option Int
 | (a0,y8)=>bif y8 then some 10 else (bif (a0==60) then some 12 else (some 0))
def Vt:(Int×Bool)->Option Int
 | (a0,y7)=>bif y7 then some 9 else (bif (a0==57) then QH (a0,(a0==57)) else (bif (a0==58) then QH (a0,(a0==58)) else (QH (a0,(a0==59)))))
def GU:(Int×Bool)->Option Int
 | (a0,y6)=>bif y6 then some 7 else (bif (a0==99) then some 8 else (bif (a0==55) then Vt (a0,(a0==55)) else (Vt (a0,(a0==56)))))
def Vu:(Int×Bool)->Option Int
 | (a0,y5)=>bif y5 then some 6 else (bif (a0==63) then GU (a0,(a0==63)) else (bif (a0==48) then GU (a0,(a0==48)) else (bif (a0==47) then GU (a0,(a0==47)) else (bif (a0==50) then GU (a0,(a0==50)) else (bif (a0==62) then GU (a0,(a0==62)) else (GU (a0,(a0==49))))))))
def Nb (a0:Int):Option Int:=
 bif (a0==44) then some 3 else (bif (a0==45) then some 4 else (bif (a0==67) then Vu (a0,(a0==67)) else (Vu (a0,(a0==46)))))
def JX:Bool->Option Int
 | y8=>bif y8 then some 15 else (some 0)
def acN:(aD×Bool)->Option Int
 | (a0,y7)=>bif y7 then some 13 else (bif (a0.Kind==6) then some 14 else (bif (a0.Kind==1) then JX (a0.Kind==1) else (bif (a0.Kind==2) then JX (a0.Kind==2) else (bif (a0.Kind==3) then JX (a0.Kind==3) else (bif (a0.Kind==4) then JX (a0.Kind==4) else (bif (a0.Kind==5) then JX (a0.Kind==5) else (bif (a0.Kind==7) then JX (a0.Kind==7) else (JX<|a0.Kind==8))))))))
def aiA (a0:aD):Option Int:=
 bif (a0.Kind==15) then some 1 else (bif (a0.Kind==14) then some 2 else (bif (a0.Kind==13) then some 5 else (bif (a0.Kind==12) then (Nb a0.Op).bind fun r6=>some r6 else (bif (a0.Kind==11) then some 11 else (bif (a0.Kind==9) then acN (a0,(a0.Kind==9)) else (acN (a0,(a0.Kind==10))))))))
def CW:Bool->Option Bool
 | y2=>bif y2 then some true else (some false)
def yh (a0:Int):Option Bool:=
 bif (a0==3) then CW (a0==3) else (bif (a0==4) then CW (a0==4) else (bif (a0==5) then CW (a0==5) else (bif (a0==6) then CW (a0==6) else (bif (a0==8) then CW (a0==8) else (bif (a0==33) then CW (a0==33) else (bif (a0==35) then CW (a0==35) else (bif (a0==51) then CW (a0==51) else (CW<|a0==52))))))))
def QI (N:Nat) (gF:((List aC)×Int×Int)->Option Bool):((List aC)×Int×Int×Int)->Option Bool
 | (a0,JY,CX,acO)=>(ix a0 CX).bind fun GV=>((ix a0 CX).bind fun apO=>(sZ N apO).bind fun apP=>bif (!apP) then some true else (bif (GV.Kind==7) then bif (acO !=32) then some true else (bif (GV.Kind==2) then bif (acO !=1) then some (decide<|(IntKind.wrap .i64<|CX+1) < (a0.length:Int)) else (some false) else (some false)) else (bif (GV.Kind==2) then bif (acO !=1) then some (decide<|(IntKind.wrap .i64<|CX+1) < (a0.length:Int)) else (some false) else (some false)))).bind fun apQ=>bif apQ then some false else ((bif (GV.Kind==5) then (yh JY).bind fun acP=>bif acP then some true else (bif (GV.Kind==58) then (yh JY).bind fun acQ=>some (!acQ) else (bif (GV.Kind==41) then (yh JY).bind fun acR=>some (!acR) else (some false))) else (bif (GV.Kind==58) then (yh JY).bind fun acS=>some (!acS) else (bif (GV.Kind==41) then (yh JY).bind fun acT=>some (!acT) else (some false)))).bind fun apR=>bif apR then some false else (gF (a0,GV.Kind,(IntKind.wrap .i64<|CX+1))))
def EH (N:Nat):Nat->((List aC)×Int×Int)->Option Bool
 | 0,_=>none
 | n1+1,(a0,JY,CX)=>bif (decide<|CX < (a0.length:Int)) then bif (decide<|(IntKind.wrap .i64<|CX+1) < (a0.length:Int)) then (ix a0<|IntKind.wrap .i64<|CX+1).bind fun apS=>QI N (EH N n1) (a0,JY,CX,apS.Kind) else (QI N (EH N n1) (a0,JY,CX,0)) else (some true)
def Zd (N:Nat) (a0:List aC):Option Bool:=
 bif (decide<|(a0.length:Int) > 3000) then some false else (EH N N (a0,0,0))
def vC (x:aD):Prop:=x.Text.length<=1048576/\x.Other.length<=1048576/\x.Kids.length<=1048576
end Go.Proofs.Tryz
