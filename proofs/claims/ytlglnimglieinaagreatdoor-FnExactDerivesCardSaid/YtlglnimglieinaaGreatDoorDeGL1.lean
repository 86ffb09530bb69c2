/-
  Models of the functions that this seat reaches.
-/
import Derived.Test.YtlglnimglieinaaGreatDoorGTab
import Derived.Test.YtlglnimglieinaaGreatDoorGCore6
namespace Go.Proofs.Tryz
open Go.Av
set_option maxRecDepth 100000
set_option maxHeartbeats 8000000
set_option linter.all false
def yN:List (List UInt8):=[[97,116,97,110,50],[99,108,111,115,101],[99,111,115],[101,120,112],[103,115,117,98],[105,110,100,101,120],[105,110,116],[108,101,110,103,116,104],[108,111,103],[109,97,116,99,104],[114,97,110,100],[115,105,110],[115,112,108,105,116],[115,112,114,105,110,116,102],[115,113,114,116],[115,114,97,110,100],[115,117,98],[115,117,98,115,116,114],[115,121,115,116,101,109],[116,111,108,111,119,101,114],[116,111,117,112,112,101,114]]
def qK:List (List UInt8):=[[66,69,71,73,78],[69,78,68],[102,117,110,99,116,105,111,110],[105,102],[101,108,115,101],[119,104,105,108,101],[102,111,114],[100,111],[98,114,101,97,107],[99,111,110,116,105,110,117,101],[110,101,120,116],[101,120,105,116],[114,101,116,117,114,110],[100,101,108,101,116,101],[105,110],[112,114,105,110,116],[112,114,105,110,116,102]]
def yO:List (List UInt8):=[[123],[125],[40],[41],[91],[93],[44],[59],[43,61],[45,61],[42,61],[47,61],[37,61],[94,61],[124,124],[38,38],[33,126],[61,61],[60,61],[62,61],[33,61],[43,43],[45,45],[62,62],[61],[43],[45],[42],[47],[37],[94],[33],[62],[60],[124],[63],[58],[126],[36]]
def GG:Nat->Option (List V)
  | 0=>some (yN.map V.s)
  | 1=>some (qK.map V.s)
  | 2=>some (yO.map V.s)
  | _=>none
def GS (l:List Nat) (g:Nat):Option (List V):=bif l.contains g then GG g else none
def eD {f:FuncId} {vs:List V} {H:Hp} {r:V} {H1:Hp} {l l1:List Nat} (h:AC Tryz.prog (GS l) f vs H r H1) (hs:(l.all fun g=>l1.contains g)=true):AC Tryz.prog (GS l1) f vs H r H1:=by
  refine Go.Av.AC.mono h fun g cs hg=>?_;unfold GS at hg ⊢;cases hc:l.contains g with
  | false=>rw [hc] at hg;cases hg
  | true=>
    rw [hc] at hg;have:=kJ.1 hs g (FR.1 hc);rw [this];exact hg
def mix:Tryz.prog.follows .mixedOrders=true:=au
def wR {G:Nat->Option (List V)} {ops:Array Oper} {draw:Bool} {T0:List V} {H0:Hp} {Q:St->Prop} (n q:Nat) {i:Nat} {T:List V} {H:Hp} {Es:List (Bool×Eff)} (k:W Tryz.prog G ops draw T0 H0 (i+n) (nU D G ops n q i T H).T (nU D G ops n q i T H).H (Es++(nU D G ops n q i T H).Es) Q) (h:(Bh D G ops n q i T H).isSome=true:=by kernel_rfl):W Tryz.prog G ops draw T0 H0 i T H Es Q:=W.run Dk n q h k
def cU {G:Nat->Option (List V)} {L:Option Nat} (n q:Nat) (T':List V) (H':Hp) {id:Nat} {l:List Oper} {draw:Bool} {c:Code} {T:List V} {H:Hp} {Q:Exit->St->Prop} (k:CO L Tryz.prog G c ⟨T',H'⟩ Q) (h:PL D G l.toArray draw n q T H T' H'=(true,T',some H'):=by kernel_rfl):CO L Tryz.prog G (.seq (.region id l.toArray draw) c) ⟨T,H⟩ Q:=cu Dk mix n q T' H' h k
def cE {G:Nat->Option (List V)} {L:Option Nat} (n q:Nat) (T':List V) (H':Hp) {id:Nat} {l:List Oper} {draw:Bool} {T:List V} {H:Hp} {Q:Exit->St->Prop} (hQ:∀ st,Weak st ⟨T',H'⟩->Q .normal st) (h:PL D G l.toArray draw n q T H T' H'=(true,T',some H'):=by kernel_rfl):CO L Tryz.prog G (.region id l.toArray draw) ⟨T,H⟩ Q:=ce Dk mix n q T' H' h hQ
def cV {G:Nat->Option (List V)} {L:Option Nat} (q:Nat) {id:Nat} {l:List Oper} {draw:Bool} {c:Code} {T:List V} {H:Hp} {Q:Exit->St->Prop} (k:CO L Tryz.prog G c ⟨(nU D G l.toArray l.toArray.size q 0 T H).T,(nU D G l.toArray l.toArray.size q 0 T H).H⟩ Q) (h:PN D G l.toArray draw q T H=true:=by kernel_rfl):CO L Tryz.prog G (.seq (.region id l.toArray draw) c) ⟨T,H⟩ Q:=cv Dk mix q k h
def cK {G:Nat->Option (List V)} {L:Option Nat} (q:Nat) {ι:Type} {J:ι->St} {R:ι->Prop} {id:Nat} {l:List Oper} {draw:Bool} {T:List V} {H:Hp} {Q:Exit->St->Prop} (hk:∀ i,R i->∀ st,Weak st (J i)->Q .normal st) (i:ι) (hi:R i) (m:Ren) (ks:List Nat) (h:PO m ks (PN D G l.toArray draw q T H) (nU D G l.toArray l.toArray.size q 0 T H).T (nU D G l.toArray l.toArray.size q 0 T H).H=(true,(J i).T,some (J i).H):=by kernel_rfl):CO L Tryz.prog G (.region id l.toArray draw) ⟨T,H⟩ Q:=ck Dk mix q hk i hi m ks h
def cC {G:Nat->Option (List V)} {L:Option Nat} (n q:Nat) {id:Nat} {l:List Oper} {draw:Bool} {c:Code} {T:List V} {H:Hp} {Q:Exit->St->Prop} {fid:FuncId} {vs:List V} {rc:V} (hA:AC Tryz.prog G fid vs [] rc []) (hcf:vo Tryz.prog fid) (k:CO L Tryz.prog G c ⟨(LK D G l.toArray n q rc T H).T,(LK D G l.toArray n q rc T H).H⟩ Q) (h:Yp D G l.toArray draw n q rc T H=(true,some (fid,vs,[]),rc):=by kernel_rfl):CO L Tryz.prog G (.seq (.region id l.toArray draw) c) ⟨T,H⟩ Q:=cc Dk mix n q hA hcf k h
def wC {G:Nat->Option (List V)} {ops:Array Oper} {draw:Bool} {T0:List V} {H0:Hp} {i:Nat} {T:List V} {H:Hp} {Es:List (Bool×Eff)} {Q:St->Prop} {fid:FuncId} {vs:List V} {Hc eF:Hp} {rc:V} (h:AC Tryz.prog G fid vs Hc rc eF) (hcf:vo Tryz.prog fid) (q m:Ren) (N:List Nat) (k:W Tryz.prog G ops draw T0 H0 (i+1) (fQ T (ku ops i)<|rc.rn m) (jm m eF++dB (([]:List (Nat×List (List V))).map (·.1)++q.map (·.1)) H) (Es++[(true,{v:=rc.rn m,C:=([]:List (Nat×List (List V))).map (·.1)++q.map (·.1),new:=jm m eF,N:=N})]) Q) (hn:(Eh q m (([]:List (Nat×List (List V))).map (·.1)) N&&Bj eF)=true:=by kernel_rfl) (hc:IU G ops q [] i T H=some (fid,vs,Hc):=by kernel_rfl):W Tryz.prog G ops draw T0 H0 i T H Es Q:=W.call h hcf q m N (show gD _ [] from trivial) hn hc k
def w0 {G:Nat->Option (List V)} {ops:Array Oper} {draw:Bool} {T0:List V} {H0:Hp} {i:Nat} {T:List V} {H:Hp} {Es:List (Bool×Eff)} {Q:St->Prop} {fid:FuncId} {vs:List V} {rc:V} (h:AC Tryz.prog G fid vs [] rc []) (hcf:vo Tryz.prog fid) (k:W Tryz.prog G ops draw T0 H0 (i+1) (fQ T (ku ops i) rc) H (Es++[(true,{v:=rc})]) Q) (hc:IU G ops [] [] i T H=some (fid,vs,[]):=by kernel_rfl) (hr:rc.rn []=rc:=by rfl):W Tryz.prog G ops draw T0 H0 i T H Es Q:=W.jU h hcf hr hc k
def wN {G:Nat->Option (List V)} {ops:Array Oper} {draw:Bool} {T0:List V} {H0:Hp} {i:Nat} {T:List V} {H:Hp} {Es:List (Bool×Eff)} {Q:St->Prop} {α:Type} (enc:α->List V) (l:List α) (R:List Nat) (k:W Tryz.prog G ops draw T0 H0 (i+1) (fQ T (ku ops i)<|aj l.length) H (Es++[(true,{v:=aj l.length,R:=R})]) Q) (h:abN G ops i T H=some (l.map enc,R):=by kernel_rfl) (hs:((oH ops i T).bind<|iD D H<|ev G T).isSome=true:=by kernel_rfl):W Tryz.prog G ops draw T0 H0 i T H Es Q:=W.len Dk enc l R h hs k
def wX {G:Nat->Option (List V)} {ops:Array Oper} {draw:Bool} {T0:List V} {H0:Hp} {i:Nat} {T:List V} {H:Hp} {Es:List (Bool×Eff)} {Q:St->Prop} {α:Type} (enc:α->List V) {l:List α} {n:Int} {x:α} (hx:ix l n=some x) (sz:Nat) (k:W Tryz.prog G ops draw T0 H0 (i+1) (fQ T (ku ops i)<|.el<|enc x) H (Es++[(true,{v:=.el (enc x)})]) Q) (h:LM D G ops i T=some (l.map enc,n,sz):=by kernel_rfl) (hs:(enc x).length=sz:=by kernel_rfl):W Tryz.prog G ops draw T0 H0 i T H Es Q:=W.LM Dk enc hx sz h hs k
structure av where
  Kind:Int
  Text:List UInt8
  At:Int
  deriving DecidableEq,Inhabited
def aM (x:av):List V:=[aj x.Kind,V.s x.Text,aj x.At]
structure aG where
  Kind:Int
  Op:Int
  Text:List UInt8
  Other:List UInt8
  Kids:List Int
  deriving DecidableEq,Inhabited
def aS (b:Bool) (x:aG):List V:=[aj x.Kind,aj x.Op,V.s x.Text,V.s x.Other,.sl false b<|x.Kids.map aX]
def Tq (b:Bool) (x:aG):vv (aS b x)=aS false x:=by
  simp only [aS,vv,V.share,aj,V.s,V.b,aqk (enc:=aX) (enc':=aX) fun _=>rfl]
structure aI where
  Level:Int
  jo:Bool
  aV:Bool
  aW:Bool
  eZ:Bool
  deriving DecidableEq,Inhabited
def aql (x:aI):List V:=[aj x.Level,V.b x.jo,V.b x.aV,V.b x.aW,V.b x.eZ]
structure dx where
  l:List av
  x:List aG
  n:List Int
  deriving DecidableEq,Inhabited
structure aD where
  kind:Int
  op:Int
  text:List UInt8
  other:List UInt8
  kids:List aD
instance:Inhabited aD:=⟨⟨0,0,[],[],[]⟩⟩
def aD.lt (x:aD) (y:aD) (h:y∈x.kids):SizeOf.sizeOf y < SizeOf.sizeOf x:=by
  have:=List.sizeOf_lt_of_mem h;cases x;simp only [aD.mk.sizeOf_spec] at*;omega
def aL (x:aD):List V:=[aj x.kind,aj x.op,V.s x.text,V.s x.other,.sl false false<|x.kids.attach.map fun y=>aL y.1]
termination_by SizeOf.sizeOf x
decreasing_by exact aD.lt x y.1 y.2
def vB (x:aD):aL x=[aj x.kind,aj x.op,V.s x.text,V.s x.other,.sl false false<|x.kids.map aL]:=by
  rw [aL];simp only [List.attach_map_val (f:=aL),List.map_attach_eq_pmap,List.pmap_eq_map]
def wU (x:aD):vv (aL x)=aL x:=by
  have hk:x.kids.map (vv∘aL)=x.kids.map aL:=yP fun y hy=>wU y;rw [vB];simp only [vv,V.share,Tt,aj,V.s,V.b,IV];rw [hk]
termination_by SizeOf.sizeOf x
decreasing_by exact aD.lt x y hy
structure lD where
  op:Bool
  text:Bool
  other:Bool
  least:Int
  most:Int
  deriving DecidableEq,Inhabited
structure iU where
  Kind:Int
  At:Int
  deriving DecidableEq,Inhabited
structure bH where
  bS:Bool
  bX:Bool
  deriving DecidableEq,Inhabited
structure bQ where
  tree:aD
  target:Bool
  deriving Inhabited
abbrev LU:=List UInt8
abbrev aT:=List (List UInt8)
abbrev LT:=List av
abbrev LN:=List aG
abbrev T1:=bQ×Int×Bool×aT
abbrev LS:=List aD
abbrev wr (x:Int):Int:=IntKind.wrap .i64 x
abbrev sL {α:Type} (f:α->List V) (x:List α):V:=.sl false false (x.map f)
abbrev eP (a:aI):List V:=[aj a.Level,V.b a.jo,V.b a.aV,V.b a.aW,V.b a.eZ]
abbrev dH (a:aG):List V:=[aj a.Kind,aj a.Op,V.s a.Text,V.s a.Other,sL aX a.Kids]
abbrev vX {α:Type} (t k:Nat) (f:α->List V) (x:List α):Ob:=.vec false t k (x.map f)
abbrev vN (x:aT):Ob:=.vec false 9 1 (x.map kK)
abbrev cP (t:Nat) (x:LT) (i:Int) (b:Bool) (k:Nat):Ob:=.cells t [.sl false false<|x.map aM,aj i,V.b b,.own k]
abbrev aP (x:bQ):List V:=[aj x.tree.kind,aj x.tree.op,V.s x.tree.text,V.s x.tree.other,.sl false false<|x.tree.kids.map aL,V.b x.target]
abbrev aQ:=AC Tryz.prog (GS [])
def lO {H:Hp}:gD H []:=trivial
def IK (a0:av) (a1:Int):Option Int:=
  bif (decide<|(IntKind.wrap .i64<|a1 - (a0.Text.length:Int)) < 0) then some (-1) else (some<|IntKind.wrap .i64<|a1 - (a0.Text.length:Int))
def Lv (N:Nat):Nat->(LT×Int×Int)->Option Int
  | 0,_=>none
  | n1+1,(a0,gM,y38)=>bif (decide<|y38 < (a0.length:Int)) then (ix a0 y38).bind fun e55=>(IK e55 gM).bind fun mW=>bif (decide<|mW < 0) then some (-1) else ((Lv N n1) (a0,mW,(IntKind.wrap .i64<|y38+1))) else (some gM)
def Ti (N:Nat) (a0:LT) (a1:Int):Option Int:=
  bif (decide<|(IntKind.wrap .i64<|a1 - (a0.length:Int)) < 0) then some (-1) else (Lv N N (a0,(IntKind.wrap .i64<|a1 - (a0.length:Int)),0))
def Yo (a0:List Int) (a1:Int):Option Int:=
  bif (decide<|(IntKind.wrap .i64<|a1 - (a0.length:Int)) < 0) then some (-1) else (some<|IntKind.wrap .i64<|a1 - (a0.length:Int))
def IQ (a0:aG) (a1:Int):Option Int:=
  bif (decide<|(IntKind.wrap .i64<|a1 - (a0.Text.length:Int)) < 0) then some (-1) else (bif (decide<|(IntKind.wrap .i64<|(IntKind.wrap .i64<|a1 - (a0.Text.length:Int)) - (a0.Other.length:Int)) < 0) then some (-1) else ((Yo a0.Kids<|IntKind.wrap .i64<|(IntKind.wrap .i64<|a1 - (a0.Text.length:Int)) - (a0.Other.length:Int)).bind fun r2=>bif (decide<|r2 < 0) then some (-1) else (some r2)))
def LD (N:Nat):Nat->(LN×Int×Int)->Option Int
  | 0,_=>none
  | n1+1,(a0,gM,y38)=>bif (decide<|y38 < (a0.length:Int)) then (ix a0 y38).bind fun e55=>(IQ e55 gM).bind fun mW=>bif (decide<|mW < 0) then some (-1) else ((LD N n1) (a0,mW,(IntKind.wrap .i64<|y38+1))) else (some gM)
def Tm (N:Nat) (a0:LN) (a1:Int):Option Int:=
  bif (decide<|(IntKind.wrap .i64<|a1 - (a0.length:Int)) < 0) then some (-1) else (LD N N (a0,(IntKind.wrap .i64<|a1 - (a0.length:Int)),0))
def Pz (a0:av):Option av:=
  some a0
def LA (N:Nat):Nat->(LT×Int×LT)->Option LT
  | 0,_=>none
  | n1+1,(a0,gW,iL)=>bif (decide<|gW < (a0.length:Int)) then (ix a0 gW).bind fun LQ=>(Pz LQ).bind fun nV=>(ix iL gW).bind fun abO=>(upd iL gW nV).bind fun Bn=>(LA N n1) (a0,(IntKind.wrap .i64<|gW+1),Bn) else (some iL)
def Lx (N:Nat) (a0:LT):Option LT:=
  (mk 32 (⟨0,[],0⟩:av) (a0.length:Int)).bind fun x2=>LA N N (a0,0,x2)
def Lp (N:Nat):Nat->((List Int)×Int×(List Int))->Option (List Int)
  | 0,_=>none
  | n1+1,(a0,rM,yQ)=>bif (decide<|rM < (a0.length:Int)) then (ix a0 rM).bind fun Yq=>(ix yQ rM).bind fun e81=>(upd yQ rM Yq).bind fun x82=>(Lp N n1) (a0,(IntKind.wrap .i64<|rM+1),x82) else (some yQ)
def Te (N:Nat) (a0:List Int):Option (List Int):=
  (mk 8 0 (a0.length:Int)).bind fun x2=>Lp N N (a0,0,x2)
def PG (N:Nat) (a0:aG):Option aG:=
  (Te N a0.Kids).bind fun r2=>some (⟨a0.Kind,a0.Op,a0.Text,a0.Other,r2⟩:aG)
def LH (N:Nat):Nat->(LN×Int×LN)->Option LN
  | 0,_=>none
  | n1+1,(a0,gW,iL)=>bif (decide<|gW < (a0.length:Int)) then (ix a0 gW).bind fun LQ=>(PG N LQ).bind fun nV=>(ix iL gW).bind fun abO=>(upd iL gW nV).bind fun Bn=>(LH N n1) (a0,(IntKind.wrap .i64<|gW+1),Bn) else (some iL)
def LG (N:Nat) (a0:LN):Option LN:=
  (mk 72 (⟨0,0,[],[],[]⟩:aG) (a0.length:Int)).bind fun x2=>LH N N (a0,0,x2)
def Tv (a0:aI):Option aI:=
  some a0
def LW (N:Nat):Nat->(LU×Int)->Option Bool
  | 0,_=>none
  | n1+1,(a0,eH)=>bif (decide<|eH < (a0.length:Int)) then (ix a0 eH).bind fun b28=>bif (((b28).toNat:Int)==10) then some false else ((LW N n1) (a0,(IntKind.wrap .i64<|eH+1))) else (some true)
def Tw (N:Nat) (a0:LU):Option Bool:=
  LW N N (a0,0)
def Bo (a0:LU) (a1:Int):Option Int:=
  (bif (decide<|a1 < 0) then some true else (some<|decide<|a1>=(a0.length:Int))).bind fun y2=>bif y2 then some (-1) else ((ix a0 a1).bind fun b4=>some<|IntKind.wrap .i64 ((b4).toNat:Int))
def lS (a0:Int) (a1:Int) (a2:Int):Option Bool:=
  (bif (decide<|a0>=a1) then some (decide<|a0<=a2) else (some false)).bind fun y1=>some y1
def PU (a0:Int):Option Bool:=
  (lS a0 48 57).bind fun r2=>some r2
def LX (N:Nat):Nat->(LU×Int)->Option Int
  | 0,_=>none
  | n1+1,(a0,a1)=>(Bo a0 a1).bind fun fC=>(PU fC).bind fun jJ=>bif jJ then (LX N n1) (a0,(IntKind.wrap .i64<|a1+1)) else (some a1)
def LY (N:Nat) (a0:LU) (a1:Int):Option Int:=
  LX N N (a0,a1)
def Tx (N:Nat):Int->Option Int
  | y9=>some y9
def PV (N:Nat):(LU×Int×Int)->Option Int
  | (a0,y9,sV)=>(LY N a0 sV).bind fun pO=>bif (decide<|pO > sV) then (LY N a0 sV).bind fun sW=>some sW else (Tx N y9)
def PW (N:Nat):(LU×Int×Int)->Option Int
  | (a0,a1,y9)=>bif (y9==a1) then some (-1) else (((Bo a0 y9).bind fun fC=>bif (fC==101) then some true else ((Bo a0 y9).bind fun jJ=>some<|jJ==69)).bind fun y32=>bif y32 then ((Bo a0<|IntKind.wrap .i64<|y9+1).bind fun Bp=>bif (Bp==43) then some true else ((Bo a0<|IntKind.wrap .i64<|y9+1).bind fun fT=>some<|fT==45)).bind fun uE=>bif uE then PV N (a0,y9,(IntKind.wrap .i64<|(IntKind.wrap .i64<|y9+1)+1)) else (PV N (a0,y9,(IntKind.wrap .i64<|y9+1))) else (Tx N y9))
def PX (N:Nat) (a0:LU) (a1:Int):Option Int:=
  bif (decide<|a1 < 0) then some (-1) else ((LY N a0 a1).bind fun r2=>(Bo a0 r2).bind fun r51=>bif (r51==46) then (LY N a0<|IntKind.wrap .i64<|r2+1).bind fun Tz=>(bif (r2==a1) then some (Tz==(IntKind.wrap .i64<|r2+1)) else (some false)).bind fun rM=>bif rM then some (-1) else (PW N (a0,a1,Tz)) else (PW N (a0,a1,r2)))
def PY (N:Nat) (dJ:(LU×Int×Int)->Option Int):(LU×Int×Int)->Option Int
  | (a0,a2,oI)=>dJ (a0,a2,(IntKind.wrap .i64<|oI+1))
def FT (N:Nat):Nat->(LU×Int×Int)->Option Int
  | 0,_=>none
  | n1+1,(a0,a2,uF)=>bif (decide<|uF < (a0.length:Int)) then (ix a0 uF).bind fun Yr=>bif ((IntKind.wrap .i64 ((Yr).toNat:Int))==a2) then some (IntKind.wrap .i64<|uF+1) else (bif ((IntKind.wrap .i64 ((Yr).toNat:Int))==10) then some (-1) else (bif ((IntKind.wrap .i64 ((Yr).toNat:Int))==92) then (Bo a0<|IntKind.wrap .i64<|uF+1).bind fun pQ=>bif (pQ==10) then some (-1) else (PY N (FT N n1) (a0,a2,(IntKind.wrap .i64<|uF+1))) else (PY N (FT N n1) (a0,a2,uF)))) else (some<|-1)
def PZ (N:Nat) (a0:LU) (a1:Int) (a2:Int):Option Int:=
  (Bo a0 a1).bind fun r4=>bif (r4 !=a2) then some (-1) else (FT N N (a0,a2,(IntKind.wrap .i64<|a1+1)))
def LZ (N:Nat) (a0:LU) (a1:Int):Option Int:=
  (PZ N a0 a1 34).bind fun r2=>some r2
def Ma (N:Nat) (a0:LU) (a1:Int):Option Int:=
  (PZ N a0 a1 47).bind fun r2=>bif (r2==(IntKind.wrap .i64<|a1+2)) then some (-1) else (some r2)
def Qa (a0:Int):Option Bool:=
  ((lS a0 97 122).bind fun r4=>bif r4 then some true else ((lS a0 65 90).bind fun r5=>bif r5 then some true else (some<|a0==95))).bind fun y3=>some y3
def TB (a0:Int):Option Bool:=
  ((Qa a0).bind fun r4=>bif r4 then some true else ((PU a0).bind fun r5=>some r5)).bind fun y3=>some y3
def IW (N:Nat):Nat->(LU×Int)->Option Bool
  | 0,_=>none
  | n1+1,(a0,fq)=>bif (decide<|fq < (a0.length:Int)) then (ix a0 fq).bind fun Mc=>(TB<|IntKind.wrap .i64 ((Mc).toNat:Int)).bind fun IX=>bif (!IX) then some false else ((IW N n1) (a0,(IntKind.wrap .i64<|fq+1))) else (((lS (a0.length:Int) 1 12).bind fun FU=>bif FU then (ix a0 0).bind fun Md=>(Qa<|IntKind.wrap .i64 ((Md).toNat:Int)).bind fun nW=>some nW else (some false)).bind fun yQ=>some yQ)
def TF (N:Nat) (a0:LU):Option Bool:=
  IW N N (a0,0)
def TG:Option aT:=
  some [[66,69,71,73,78],[69,78,68],[102,117,110,99,116,105,111,110],[105,102],[101,108,115,101],[119,104,105,108,101],[102,111,114],[100,111],[98,114,101,97,107],[99,111,110,116,105,110,117,101],[110,101,120,116],[101,120,105,116],[114,101,116,117,114,110],[100,101,108,101,116,101],[105,110],[112,114,105,110,116],[112,114,105,110,116,102]]
def Me (N:Nat):Nat->(aT×LU×Int)->Option Int
  | 0,_=>none
  | n1+1,(a0,a1,eH)=>bif (decide<|eH < (a0.length:Int)) then (ix a0 eH).bind fun e28=>bif (e28==a1) then some eH else ((Me N n1) (a0,a1,(IntKind.wrap .i64<|eH+1))) else (some<|-1)
def TH (N:Nat) (a0:aT) (a1:LU):Option Int:=
  Me N N (a0,a1,0)
def TI (N:Nat) (a0:LU):Option Int:=
  Option.bind TG fun r3=>(TH N r3 a0).bind fun r4=>bif (decide<|r4 < 0) then some 0 else (some<|IntKind.wrap .i64<|10+r4)
def Yt:Option aT:=
  some [[97,116,97,110,50],[99,108,111,115,101],[99,111,115],[101,120,112],[103,115,117,98],[105,110,100,101,120],[105,110,116],[108,101,110,103,116,104],[108,111,103],[109,97,116,99,104],[114,97,110,100],[115,105,110],[115,112,108,105,116],[115,112,114,105,110,116,102],[115,113,114,116],[115,114,97,110,100],[115,117,98],[115,117,98,115,116,114],[115,121,115,116,101,109],[116,111,108,111,119,101,114],[116,111,117,112,112,101,114]]
def FV (N:Nat) (a0:LU):Option Bool:=
  Option.bind Yt fun r3=>(TH N r3 a0).bind fun r4=>some (decide<|r4>=0)
def Cx (N:Nat) (a0:LU):Option Bool:=
  ((TF N a0).bind fun r5=>bif r5 then (TI N a0).bind fun r6=>bif (r6==0) then (FV N a0).bind fun r7=>some (!r7) else (some false) else (some false)).bind fun y4=>some y4
def Yu:Option aT:=
  some [[123],[125],[40],[41],[91],[93],[44],[59],[43,61],[45,61],[42,61],[47,61],[37,61],[94,61],[124,124],[38,38],[33,126],[61,61],[60,61],[62,61],[33,61],[43,43],[45,45],[62,62],[61],[43],[45],[42],[47],[37],[94],[33],[62],[60],[124],[63],[58],[126],[36]]
def Cy (a0:Int):Option LU:=
  bif (a0==1) then some [10] else ((lS a0 10 26).bind fun bP=>bif bP then Option.bind TG fun qm=>(ix qm<|IntKind.wrap .i64<|a0 - 10).bind fun e18=>some e18 else ((lS a0 30 68).bind fun mX=>bif mX then Option.bind Yu fun IY=>(ix IY<|IntKind.wrap .i64<|a0 - 30).bind fun e24=>some e24 else (some [])))
def zU (N:Nat):(av×Bool)->Option Bool
  | (a0,yR)=>bif yR then (Cx N a0.Text).bind fun r32=>some r32 else (bif (a0.Kind==8) then (FV N a0.Text).bind fun jJ=>some jJ else ((bif (!(a0.Text==[])) then (Cy a0.Kind).bind fun zV=>some (zV==a0.Text) else (some false)).bind fun Mf=>some Mf))
def uG (N:Nat) (a0:av):Option Bool:=
  bif (a0.Kind==2) then (bif (decide<|(a0.Text.length:Int) > 0) then (ix a0.Text 0).bind fun b21=>bif (((b21).toNat:Int)==35) then (Tw N a0.Text).bind fun jq=>some jq else (some false) else (some false)).bind fun y20=>some y20 else (bif (a0.Kind==3) then (bif (decide<|(a0.Text.length:Int) > 0) then (PX N a0.Text 0).bind fun wV=>some (wV==(a0.Text.length:Int)) else (some false)).bind fun y24=>some y24 else (bif (a0.Kind==4) then (LZ N a0.Text 0).bind fun pR=>some (pR==(a0.Text.length:Int)) else (bif (a0.Kind==5) then (Ma N a0.Text 0).bind fun yS=>some (yS==(a0.Text.length:Int)) else (bif (a0.Kind==6) then zU N (a0,(a0.Kind==6)) else (zU N (a0,(a0.Kind==7)))))))
def Bq:Bool->Option Bool
  | y2=>bif y2 then some true else (some false)
def Ei (a0:Int):Option Bool:=
  bif (a0==3) then Bq (a0==3) else (bif (a0==4) then Bq (a0==4) else (bif (a0==5) then Bq (a0==5) else (bif (a0==6) then Bq (a0==6) else (bif (a0==8) then Bq (a0==8) else (bif (a0==33) then Bq (a0==33) else (bif (a0==35) then Bq (a0==35) else (bif (a0==51) then Bq (a0==51) else (Bq<|a0==52))))))))
def Qb (N:Nat) (dJ:(LT×Int×Int)->Option Bool):(LT×Int×Int×Int)->Option Bool
  | (a0,nX,oJ,Qc)=>(ix a0 oJ).bind fun sZ=>((ix a0 oJ).bind fun abP=>(uG N abP).bind fun ahA=>bif (!ahA) then some true else (bif (sZ.Kind==7) then bif (Qc !=32) then some true else (bif (sZ.Kind==2) then bif (Qc !=1) then some (decide<|(IntKind.wrap .i64<|oJ+1) < (a0.length:Int)) else (some false) else (some false)) else (bif (sZ.Kind==2) then bif (Qc !=1) then some (decide<|(IntKind.wrap .i64<|oJ+1) < (a0.length:Int)) else (some false) else (some false)))).bind fun abQ=>bif abQ then some false else ((bif (sZ.Kind==5) then (Ei nX).bind fun ahB=>bif ahB then some true else (bif (sZ.Kind==58) then (Ei nX).bind fun ahC=>some (!ahC) else (bif (sZ.Kind==41) then (Ei nX).bind fun ahD=>some (!ahD) else (some false))) else (bif (sZ.Kind==58) then (Ei nX).bind fun ahE=>some (!ahE) else (bif (sZ.Kind==41) then (Ei nX).bind fun ahF=>some (!ahF) else (some false)))).bind fun abR=>bif abR then some false else (dJ (a0,sZ.Kind,(IntKind.wrap .i64<|oJ+1))))
def Cz (N:Nat):Nat->(LT×Int×Int)->Option Bool
  | 0,_=>none
  | n1+1,(a0,nX,oJ)=>bif (decide<|oJ < (a0.length:Int)) then bif (decide<|(IntKind.wrap .i64<|oJ+1) < (a0.length:Int)) then (ix a0<|IntKind.wrap .i64<|oJ+1).bind fun abS=>Qb N (Cz N n1) (a0,nX,oJ,abS.Kind) else (Qb N (Cz N n1) (a0,nX,oJ,0)) else (some true)
def Qd (N:Nat) (a0:LT):Option Bool:=
  bif (decide<|(a0.length:Int) > 3000) then some false else (Cz N N (a0,0,0))
def Mg (N:Nat) (dJ:(LN×Int×(List Int))->Option ((List Int)×Bool)):Nat->(LN×Int×(List Int)×Int×Int)->Option ((List Int)×Bool)
  | 0,_=>none
  | n2+1,(a0,qo,vC,IZ,FW)=>bif (decide<|FW>=0) then ((ix a0 qo).bind fun ahG=>(ix ahG.Kids FW).bind fun ahH=>bif (ahH !=(IntKind.wrap .i64<|IZ - 1)) then some true else (some<|IZ==0)).bind fun abT=>bif abT then some ([],false) else ((ix vC<|IntKind.wrap .i64<|IZ - 1).bind fun TJ=>(Mg N dJ n2) (a0,qo,vC,TJ,(IntKind.wrap .i64<|FW - 1))) else ((app 8 vC [IZ]).bind fun Yv=>dJ (a0,(IntKind.wrap .i64<|qo+1),Yv))
def Ja (N:Nat):Nat->(LN×Int×(List Int))->Option ((List Int)×Bool)
  | 0,_=>none
  | n1+1,(a0,qo,vC)=>bif (decide<|qo < (a0.length:Int)) then (ix a0 qo).bind fun Yw=>Mg N (Ja N n1) N (a0,qo,vC,qo,(IntKind.wrap .i64<|(Yw.Kids.length:Int) - 1)) else (some (vC,true))
def Yx (N:Nat) (a0:LN):Option ((List Int)×Bool):=
  Ja N N (a0,0,[])
def Qe (N:Nat) (a0:LN):Option Bool:=
  (lS (a0.length:Int) 1 400).bind fun r4=>bif (!r4) then some false else ((Yx N a0).bind fun r6=>(bif r6.2 then (ix r6.1<|IntKind.wrap .i64<|(a0.length:Int) - 1).bind fun e9=>some (e9==0) else (some false)).bind fun y8=>some y8)
def Jb (N:Nat) (dJ:(LN×Int×(List Int))->Option Int):Nat->(LN×Int×(List Int)×Int×Int)->Option Int
  | 0,_=>none
  | n2+1,(a0,tq,wW,Ej,Jc)=>(ix a0 tq).bind fun abU=>bif (decide<|Jc < (abU.Kids.length:Int)) then (ix a0 tq).bind fun ahI=>(ix ahI.Kids Jc).bind fun ahJ=>(ix wW ahJ).bind fun Jd=>(Jb N dJ n2) (a0,tq,wW,(if (IntKind.wrap .i64<|1+Jd) > Ej then (IntKind.wrap .i64<|1+Jd) else Ej),(IntKind.wrap .i64<|Jc+1)) else ((app 8 wW [Ej]).bind fun Yy=>dJ (a0,(IntKind.wrap .i64<|tq+1),Yy))
def FX (N:Nat):Nat->(LN×Int×(List Int))->Option Int
  | 0,_=>none
  | n1+1,(a0,tq,wW)=>bif (decide<|tq < (a0.length:Int)) then Jb N (FX N n1) N (a0,tq,wW,1,0) else ((ix wW<|IntKind.wrap .i64<|(a0.length:Int) - 1).bind fun abV=>some abV)
def Qf (N:Nat) (a0:LN):Option Int:=
  (Qe N a0).bind fun r4=>bif (!r4) then some 0 else (FX N N (a0,0,[]))
def Qg:(aG×Bool)->Option (Int×Int)
  | (a0,jV)=>bif jV then some (0,(a0.Kids.length:Int)) else (bif (a0.Kind==42) then some ((IntKind.wrap .i64<|1+(IntKind.wrap .i64<|Int.tdiv a0.Op 3)),(IntKind.wrap .i64<|1+(IntKind.wrap .i64<|Int.tdiv a0.Op 3))) else (bif (a0.Kind==43) then some ((IntKind.wrap .i64<|2+(IntKind.wrap .i64<|Int.tdiv a0.Op 3)),(IntKind.wrap .i64<|2+(IntKind.wrap .i64<|Int.tdiv a0.Op 3))) else (bif (a0.Kind==44) then some (1,7) else (some (0,0)))))
def Qh:(aG×Bool)->Option (Int×Int)
  | (a0,dY)=>bif dY then some (0,1) else (bif (a0.Kind==28) then some (2,3) else (bif (a0.Kind==31) then some (4,4) else (bif (a0.Kind==33) then Qg (a0,(a0.Kind==33)) else (Qg (a0,(a0.Kind==45))))))
def Je:(aG×Bool)->Option (Int×Int)
  | (a0,iZ)=>bif iZ then some (2,2) else (bif (a0.Kind==14) then some (3,3) else (bif (a0.Kind==21) then bif (!(a0.Other==[])) then some ((IntKind.wrap .i64<|a0.Op+1),7) else (some (a0.Op,6)) else (bif (a0.Kind==23) then Qh (a0,(a0.Kind==23)) else (Qh (a0,(a0.Kind==24))))))
def Br:(aG×Bool)->Option (Int×Int)
  | (a0,y9)=>bif y9 then some (1,1) else (bif (a0.Kind==12) then Je (a0,(a0.Kind==12)) else (bif (a0.Kind==15) then Je (a0,(a0.Kind==15)) else (bif (a0.Kind==29) then Je (a0,(a0.Kind==29)) else (Je (a0,(a0.Kind==30))))))
def Mh:(aG×Bool)->Option (Int×Int)
  | (a0,y8)=>bif y8 then some (0,6) else (bif (a0.Kind==6) then Br (a0,(a0.Kind==6)) else (bif (a0.Kind==9) then Br (a0,(a0.Kind==9)) else (bif (a0.Kind==10) then Br (a0,(a0.Kind==10)) else (bif (a0.Kind==11) then Br (a0,(a0.Kind==11)) else (bif (a0.Kind==20) then Br (a0,(a0.Kind==20)) else (bif (a0.Kind==32) then Br (a0,(a0.Kind==32)) else (bif (a0.Kind==40) then Br (a0,(a0.Kind==40)) else (Br (a0,(a0.Kind==41))))))))))
def Qi:(aG×Bool)->Option (Int×Int)
  | (a0,y7)=>bif y7 then some (1,6) else (bif (a0.Kind==7) then Mh (a0,(a0.Kind==7)) else (bif (a0.Kind==8) then Mh (a0,(a0.Kind==8)) else (Mh (a0,(a0.Kind==27)))))
def El (a0:aG):Option (Int×Int):=
  bif (a0.Kind==5) then Qi (a0,(a0.Kind==5)) else (Qi (a0,(a0.Kind==13)))
def qL:Bool->Option Bool
  | y2=>bif y2 then some true else (some false)
def Em (a0:Int):Option Bool:=
  bif (a0==60) then qL (a0==60) else (bif (a0==57) then qL (a0==57) else (bif (a0==58) then qL (a0==58) else (bif (a0==59) then qL (a0==59) else (bif (a0==55) then qL (a0==55) else (bif (a0==56) then qL (a0==56) else (bif (a0==99) then qL (a0==99) else (bif (a0==63) then qL (a0==63) else (bif (a0==48) then qL (a0==48) else (bif (a0==47) then qL (a0==47) else (bif (a0==50) then qL (a0==50) else (bif (a0==62) then qL (a0==62) else (bif (a0==49) then qL (a0==49) else (bif (a0==67) then qL (a0==67) else (bif (a0==46) then qL (a0==46) else (bif (a0==45) then qL (a0==45) else (qL<|a0==44))))))))))))))))
def wY (a0:Int):Option Bool:=
  (bif (a0==54) then some true else ((lS a0 38 43).bind fun r3=>some r3)).bind fun y2=>some y2
def TK:(aG×Bool)->Option Bool
  | (a0,y13)=>bif y13 then (bif (a0.Op==51) then some true else (some<|a0.Op==52)).bind fun iE=>some iE else (bif (a0.Kind==11) then (bif (a0.Op==55) then some true else (bif (a0.Op==56) then some true else (some<|a0.Op==61))).bind fun fJ=>some fJ else (bif (a0.Kind==12) then (Em a0.Op).bind fun qm=>some qm else (bif (a0.Kind==15) then (wY a0.Op).bind fun kV=>some kV else (bif (a0.Kind==21) then (lS a0.Op 0 1).bind fun bT=>some bT else (bif (a0.Kind==42) then (lS a0.Op 1 3).bind fun IY=>some IY else (bif (a0.Kind==43) then (bif (a0.Op==1) then some true else (some<|a0.Op==3)).bind fun y24=>some y24 else (some<|a0.Op==0)))))))
def CB (a0:aG):Option Bool:=
  bif (a0.Kind==9) then TK (a0,(a0.Kind==9)) else (TK (a0,(a0.Kind==10)))
def En (N:Nat):(aG×Bool)->Option Bool
  | (a0,qM)=>bif qM then ((Cx N a0.Text).bind fun yS=>bif yS then some (a0.Other==[]) else (some false)).bind fun y28=>some y28 else (bif (a0.Kind==2) then ((uG N (⟨3,a0.Text,0⟩:av)).bind fun r32=>bif r32 then some (a0.Other==[]) else (some false)).bind fun y31=>some y31 else (bif (a0.Kind==3) then ((uG N (⟨4,a0.Text,0⟩:av)).bind fun jR=>bif jR then some (a0.Other==[]) else (some false)).bind fun y34=>some y34 else (bif (a0.Kind==4) then ((uG N (⟨5,a0.Text,0⟩:av)).bind fun kC=>bif kC then some (a0.Other==[]) else (some false)).bind fun gM=>some gM else (bif (a0.Kind==34) then ((uG N (⟨2,a0.Text,0⟩:av)).bind fun r41=>bif r41 then some (a0.Other==[]) else (some false)).bind fun sV=>some sV else (bif (a0.Kind==8) then ((FV N a0.Text).bind fun sW=>bif sW then some (a0.Other==[]) else (some false)).bind fun uF=>some uF else (bif (a0.Kind==32) then ((Cx N a0.Text).bind fun Bp=>bif Bp then (Cx N a0.Other).bind fun fT=>some fT else (some false)).bind fun uE=>some uE else (bif (a0.Kind==21) then (bif (a0.Text==[]) then bif (a0.Other==[]) then some true else (bif (a0.Other==[62]) then some true else (bif (a0.Other==[62,62]) then some true else (some<|a0.Other==[124]))) else (some false)).bind fun Qj=>some Qj else ((bif (a0.Text==[]) then some (a0.Other==[]) else (some false)).bind fun kD=>some kD))))))))
def TL (N:Nat) (a0:aG):Option Bool:=
  bif (a0.Kind==1) then En N (a0,(a0.Kind==1)) else (bif (a0.Kind==5) then En N (a0,(a0.Kind==5)) else (bif (a0.Kind==7) then En N (a0,(a0.Kind==7)) else (bif (a0.Kind==13) then En N (a0,(a0.Kind==13)) else (bif (a0.Kind==27) then En N (a0,(a0.Kind==27)) else (En N (a0,(a0.Kind==44)))))))
def yT (N:Nat) (a0:aG):Option Bool:=
  (El a0).bind fun r2=>((lS a0.Kind 1 16).bind fun r7=>bif r7 then some true else ((lS a0.Kind 20 34).bind fun r8=>bif r8 then some true else ((lS a0.Kind 40 45).bind fun r9=>some r9))).bind fun y6=>(bif y6 then (CB a0).bind fun bP=>bif bP then (TL N a0).bind fun fD=>bif fD then (lS (a0.Kids.length:Int) r2.1 r2.2).bind fun r16=>some r16 else (some false) else (some false) else (some false)).bind fun y13=>some y13
def FY (a0:Int):Option Bool:=
  (bif (a0==1) then some true else (bif (a0==5) then some true else (some<|a0==6))).bind fun y1=>some y1
def nY (a0:Int):Option Bool:=
  (lS a0 1 15).bind fun r2=>some r2
def TM (a0:Int):Option Bool:=
  (lS a0 20 34).bind fun r2=>some r2
def yU:(Int×Int×aG×Bool)->Option Bool
  | (a1,a2,a0,nZ)=>bif nZ then some (a2==33) else (bif (a0.Kind==33) then (TM a2).bind fun mE=>some mE else (bif (a0.Kind==42) then (bif (a0.Op==1) then (nY a2).bind fun r87=>bif r87 then some true else (bif (a0.Op==2) then bif (a2==33) then some true else (bif (a0.Op==3) then bif (a1==(IntKind.wrap .i64<|(a0.Kids.length:Int) - 1)) then bif (a2==33) then some true else (bif (!(a1==(IntKind.wrap .i64<|(a0.Kids.length:Int) - 1))) then (nY a2).bind fun r88=>some r88 else (some false)) else (bif (!(a1==(IntKind.wrap .i64<|(a0.Kids.length:Int) - 1))) then (nY a2).bind fun vD=>some vD else (some false)) else (some false)) else (bif (a0.Op==3) then bif (a1==(IntKind.wrap .i64<|(a0.Kids.length:Int) - 1)) then bif (a2==33) then some true else (bif (!(a1==(IntKind.wrap .i64<|(a0.Kids.length:Int) - 1))) then (nY a2).bind fun Jf=>some Jf else (some false)) else (bif (!(a1==(IntKind.wrap .i64<|(a0.Kids.length:Int) - 1))) then (nY a2).bind fun r91=>some r91 else (some false)) else (some false))) else (bif (a0.Op==2) then bif (a2==33) then some true else (bif (a0.Op==3) then bif (a1==(IntKind.wrap .i64<|(a0.Kids.length:Int) - 1)) then bif (a2==33) then some true else (bif (!(a1==(IntKind.wrap .i64<|(a0.Kids.length:Int) - 1))) then (nY a2).bind fun Jg=>some Jg else (some false)) else (bif (!(a1==(IntKind.wrap .i64<|(a0.Kids.length:Int) - 1))) then (nY a2).bind fun qN=>some qN else (some false)) else (some false)) else (bif (a0.Op==3) then bif (a1==(IntKind.wrap .i64<|(a0.Kids.length:Int) - 1)) then bif (a2==33) then some true else (bif (!(a1==(IntKind.wrap .i64<|(a0.Kids.length:Int) - 1))) then (nY a2).bind fun tC=>some tC else (some false)) else (bif (!(a1==(IntKind.wrap .i64<|(a0.Kids.length:Int) - 1))) then (nY a2).bind fun r95=>some r95 else (some false)) else (some false)))).bind fun jA=>some jA else (bif (a0.Kind==43) then (bif (decide<|a1 < 2) then (nY a2).bind fun tF=>bif tF then some true else (bif (a1==2) then some (a2==33) else (some false)) else (bif (a1==2) then some (a2==33) else (some false))).bind fun Jh=>some Jh else (bif (a0.Kind==44) then (bif (a1==(IntKind.wrap .i64<|(a0.Kids.length:Int) - 1)) then bif (a2==33) then some true else (bif (!(a1==(IntKind.wrap .i64<|(a0.Kids.length:Int) - 1))) then some (a2==1) else (some false)) else (bif (!(a1==(IntKind.wrap .i64<|(a0.Kids.length:Int) - 1))) then some (a2==1) else (some false))).bind fun y99=>some y99 else (bif (a0.Kind==45) then ((lS a2 40 44).bind fun ahP=>bif ahP then some true else (some<|a2==34)).bind fun y101=>some y101 else ((nY a2).bind fun nV=>some nV))))))
def qO:(Int×Int×aG×Bool)->Option Bool
  | (a1,a2,a0,Yz)=>bif Yz then (FY a2).bind fun r54=>some r54 else (bif (a0.Kind==15) then ((nY a2).bind fun qp=>bif qp then bif (decide<|a1 > 0) then some true else ((FY a2).bind fun nW=>some nW) else (some false)).bind fun TP=>some TP else (bif (a0.Kind==28) then (bif (a1==0) then (nY a2).bind fun pQ=>bif pQ then some true else (bif (decide<|a1 > 0) then some (a2==33) else (some false)) else (bif (decide<|a1 > 0) then some (a2==33) else (some false))).bind fun lT=>some lT else (bif (a0.Kind==29) then (bif (a1==0) then (nY a2).bind fun Bt=>bif Bt then some true else (bif (a1==1) then some (a2==33) else (some false)) else (bif (a1==1) then some (a2==33) else (some false))).bind fun iM=>some iM else (bif (a0.Kind==30) then (bif (a1==0) then bif (a2==33) then some true else (bif (a1==1) then (nY a2).bind fun Bu=>some Bu else (some false)) else (bif (a1==1) then (nY a2).bind fun jK=>some jK else (some false))).bind fun Mi=>some Mi else (bif (a0.Kind==31) then (bif (decide<|a1 < 3) then (nY a2).bind fun r73=>bif r73 then some true else (bif (a2==16) then some true else (bif (a1==3) then some (a2==33) else (some false))) else (bif (a1==3) then some (a2==33) else (some false))).bind fun iL=>some iL else (bif (a0.Kind==32) then yU (a1,a2,a0,(a0.Kind==32)) else (bif (a0.Kind==40) then yU (a1,a2,a0,(a0.Kind==40)) else (yU (a1,a2,a0,(a0.Kind==41))))))))))
def mY (a0:aG) (a1:Int) (a2:Int):Option Bool:=
  bif (a0.Kind==9) then qO (a1,a2,a0,(a0.Kind==9)) else (qO (a1,a2,a0,(a0.Kind==10)))
def CF (N:Nat) (dJ:(LN×Int)->Option Bool):Nat->(LN×Int×Int)->Option Bool
  | 0,_=>none
  | n2+1,(a0,tH,FZ)=>(ix a0 tH).bind fun abW=>bif (decide<|FZ < (abW.Kids.length:Int)) then (ix a0 tH).bind fun abX=>(ix a0 tH).bind fun ahS=>(ix ahS.Kids FZ).bind fun ahT=>(ix a0 ahT).bind fun abY=>(mY abX FZ abY.Kind).bind fun ahU=>bif (!ahU) then some false else ((CF N dJ n2) (a0,tH,(IntKind.wrap .i64<|FZ+1))) else (dJ (a0,(IntKind.wrap .i64<|tH+1)))
def wZ (N:Nat):Nat->(LN×Int)->Option Bool
  | 0,_=>none
  | n1+1,(a0,tH)=>bif (decide<|tH < (a0.length:Int)) then (ix a0 tH).bind fun abZ=>(yT N abZ).bind fun ahV=>bif (!ahV) then some false else (CF N (wZ N n1) N (a0,tH,0)) else (some true)
def yV (N:Nat) (a0:LN):Option Bool:=
  ((Qe N a0).bind fun r9=>bif (!r9) then some true else ((Qf N a0).bind fun bM=>some<|decide<|bM > 40)).bind fun y8=>bif y8 then some false else (wZ N N (a0,0))
def Qk (N:Nat) (a0:LN):Option Bool:=
  ((yV N a0).bind fun r5=>bif r5 then (ix a0<|IntKind.wrap .i64<|(a0.length:Int) - 1).bind fun e6=>(nY e6.Kind).bind fun r7=>some r7 else (some false)).bind fun y4=>some y4
def CG (a0:aI):Option Bool:=
  ((lS a0.Level 1 15).bind fun r3=>bif r3 then bif (!a0.jo) then some true else (some<|a0.Level==14) else (some false)).bind fun y2=>some y2
def zW (a0:Int):Option Bool:=
  (bif (a0==33) then some true else (bif (a0==35) then some true else (some<|a0==31))).bind fun y1=>some y1
def zX (a0:Int):Option Bool:=
  (bif (a0==32) then some true else (bif (a0==34) then some true else (some<|a0==30))).bind fun y1=>some y1
def Ji (N:Nat) (dJ:(LT×Int×Int)->Option Int):(LT×Int×Int)->Option Int
  | (a0,y150,nJ)=>bif (decide<|nJ > 40) then some y150 else (dJ (a0,nJ,(IntKind.wrap .i64<|y150+1)))
def Ga (N:Nat) (dJ:(LT×Int×Int)->Option Int):(LT×Int×Int)->Option Int
  | (a0,y150,xg)=>(ix a0 y150).bind fun e219=>(zX e219.Kind).bind fun TQ=>bif TQ then Ji N dJ (a0,y150,(IntKind.wrap .i64<|xg+1)) else (Ji N dJ (a0,y150,xg))
def xk (N:Nat):Nat->(LT×Int×Int)->Option Int
  | 0,_=>none
  | n1+1,(a0,tJ,y150)=>bif (decide<|y150 < (a0.length:Int)) then (ix a0 y150).bind fun e223=>(zW e223.Kind).bind fun TR=>bif TR then Ga N (xk N n1) (a0,y150,(if (IntKind.wrap .i64<|tJ - 1) > 0 then (IntKind.wrap .i64<|tJ - 1) else 0)) else (Ga N (xk N n1) (a0,y150,tJ)) else (some<|-1)
def Ql (N:Nat) (a0:LT):Option Int:=
  xk N N (a0,0,0)
def og (a0:aG):Option av:=
  bif (a0.Kind==1) then some (⟨6,a0.Text,0⟩:av) else (bif (a0.Kind==2) then some (⟨3,a0.Text,0⟩:av) else (bif (a0.Kind==3) then some (⟨4,a0.Text,0⟩:av) else (bif (a0.Kind==4) then some (⟨5,a0.Text,0⟩:av) else (some (⟨0,[],0⟩:av)))))
structure Jj where
  Bv:LN->Int->Option LT
def TS (N:Nat) (R:Jj) (xq:(LN×aG×av×Int×LT)->Option LT):LT->Option LT
  | Jh=>some Jh
def Qm (N:Nat) (R:Jj) (xq:(LN×aG×av×Int×LT)->Option LT):(av×LT)->Option LT
  | (r4,gI)=>bif (r4.Kind !=0) then (app 32 gI [r4]).bind fun x99=>TS N R xq x99 else (TS N R xq gI)
def Bw (N:Nat) (R:Jj):Nat->(LN×aG×av×Int×LT)->Option LT
  | 0,_=>none
  | n2+1,(a0,e2,r4,iM,Gb)=>bif (decide<|iM < (e2.Kids.length:Int)) then (ix e2.Kids iM).bind fun e89=>(R.Bv a0 e89).bind fun Jf=>(app 32 Gb Jf).bind fun x91=>(Bw N R n2) (a0,e2,r4,(IntKind.wrap .i64<|iM+1),x91) else (bif (e2.Kind==13) then (app 32 Gb [(⟨6,e2.Text,0⟩:av)]).bind fun x101=>Qm N R (Bw N R n2) (r4,x101) else (Qm N R (Bw N R n2) (r4,Gb)))
def Jk (N:Nat) (R:Jj):(LN×aG×av×LT)->Option LT
  | (a0,e2,r4,dY)=>Bw N R N (a0,e2,r4,0,dY)
def TT (N:Nat) (R:Jj) (a0:LN) (a1:Int):Option LT:=
  (ix a0 a1).bind fun e2=>(og e2).bind fun r4=>bif (e2.Kind==5) then (app 32 [] [(⟨6,e2.Text,0⟩:av)]).bind fun x103=>Jk N R (a0,e2,r4,x103) else (bif (e2.Kind==7) then (app 32 [] [(⟨7,e2.Text,0⟩:av)]).bind fun x105=>Jk N R (a0,e2,r4,x105) else (bif (e2.Kind==8) then (app 32 [] [(⟨8,e2.Text,0⟩:av)]).bind fun x107=>Jk N R (a0,e2,r4,x107) else (Jk N R (a0,e2,r4,[]))))
def Eo:Nat->Jj
  | 0=>⟨fun _ _=>none⟩
  | N+1=>⟨fun a0 a1=>TT N (Eo N) a0 a1⟩
def Bv (N:Nat) (a0:LN) (a1:Int):Option LT:=(Eo N).Bv a0 a1
def TU (a0:Int):Option Bool:=
  (lS a0 3 8).bind fun r2=>some r2
def Qn (N:Nat) (dJ:(LT×Int×Int)->Option Int):(LT×Int×Int)->Option Int
  | (a0,lU,oI)=>dJ (a0,oI,(IntKind.wrap .i64<|lU+1))
def Ep (N:Nat):Nat->(LT×Int×Int)->Option Int
  | 0,_=>none
  | n1+1,(a0,xu,lU)=>bif (decide<|lU < (a0.length:Int)) then (ix a0 lU).bind fun e61=>(TU e61.Kind).bind fun pQ=>bif pQ then Qn N (Ep N n1) (a0,lU,(IntKind.wrap .i64<|xu+1)) else (Qn N (Ep N n1) (a0,lU,xu)) else (some xu)
def YA (N:Nat) (a0:LT):Option Int:=
  Ep N N (a0,0,0)
def Qo (N:Nat) (dJ:(LT×Int×Int)->Option Bool):(LT×Int×Int)->Option Bool
  | (a0,y150,nJ)=>bif (decide<|nJ < 0) then some false else (dJ (a0,nJ,(IntKind.wrap .i64<|y150+1)))
def Qp (N:Nat) (dJ:(LT×Int×Int)->Option Bool):(LT×Int×Int)->Option Bool
  | (a0,y150,xg)=>(ix a0 y150).bind fun e219=>(zW e219.Kind).bind fun TQ=>bif TQ then Qo N dJ (a0,y150,(IntKind.wrap .i64<|xg - 1)) else (Qo N dJ (a0,y150,xg))
def CJ (N:Nat):Nat->(LT×Int×Int)->Option Bool
  | 0,_=>none
  | n1+1,(a0,tJ,y150)=>bif (decide<|y150 < (a0.length:Int)) then (ix a0 y150).bind fun e223=>(zX e223.Kind).bind fun TR=>bif TR then Qp N (CJ N n1) (a0,y150,(IntKind.wrap .i64<|tJ+1)) else (Qp N (CJ N n1) (a0,y150,tJ)) else (some<|tJ==0)
def YB (N:Nat) (a0:LT):Option Bool:=
  CJ N N (a0,0,0)
def Gc:Bool->Option Bool
  | y2=>bif y2 then some true else (some false)
def Er (a0:Int):Option Bool:=
  bif (a0==3) then Gc (a0==3) else (bif (a0==4) then Gc (a0==4) else (bif (a0==6) then Gc (a0==6) else (bif (a0==7) then Gc (a0==7) else (bif (a0==8) then Gc (a0==8) else (bif (a0==32) then Gc (a0==32) else (Gc<|a0==68))))))
def Jl (N:Nat) (dJ:(LT×Int×Int×Int)->Option Bool):(LT×Int×Int×Int)->Option Bool
  | (a0,a1,mZ,TV)=>dJ (a0,a1,TV,(IntKind.wrap .i64<|mZ+1))
def Qq (N:Nat) (dJ:(LT×Int×Int×Int)->Option Bool):(LT×Int×Int×Int)->Option Bool
  | (a0,a1,mZ,Gd)=>((ix a0 mZ).bind fun e234=>bif (e234.Kind==a1) then some (Gd==0) else (some false)).bind fun ace=>bif ace then some true else ((ix a0 mZ).bind fun e237=>(zX e237.Kind).bind fun ahW=>bif ahW then Jl N dJ (a0,a1,mZ,(IntKind.wrap .i64<|Gd+1)) else (Jl N dJ (a0,a1,mZ,Gd)))
def yX (N:Nat):Nat->(LT×Int×Int×Int)->Option Bool
  | 0,_=>none
  | n1+1,(a0,a1,CK,mZ)=>bif (decide<|mZ < (a0.length:Int)) then (ix a0 mZ).bind fun e241=>(zW e241.Kind).bind fun TW=>bif TW then Qq N (yX N n1) (a0,a1,mZ,(IntKind.wrap .i64<|CK - 1)) else (Qq N (yX N n1) (a0,a1,mZ,CK)) else (some false)
def Gf (N:Nat) (a0:LT) (a1:Int):Option Bool:=
  yX N N (a0,a1,0,0)
def Qr (N:Nat) (dJ:(LT×Int×Int)->Option Bool):(LT×Int×Int)->Option Bool
  | (a0,y168,Mj)=>(bif (Mj==0) then some (decide<|y168 < (IntKind.wrap .i64<|(a0.length:Int) - 1)) else (some false)).bind fun acf=>bif acf then some false else (dJ (a0,Mj,(IntKind.wrap .i64<|y168+1)))
def Qs (N:Nat) (dJ:(LT×Int×Int)->Option Bool):(LT×Int×Int)->Option Bool
  | (a0,y168,Mk)=>(ix a0 y168).bind fun e241=>(zW e241.Kind).bind fun TW=>bif TW then Qr N dJ (a0,y168,(IntKind.wrap .i64<|Mk - 1)) else (Qr N dJ (a0,y168,Mk))
def Bz (N:Nat):Nat->(LT×Int×Int)->Option Bool
  | 0,_=>none
  | n1+1,(a0,y167,y168)=>bif (decide<|y168 < (a0.length:Int)) then (ix a0 y168).bind fun e245=>(zX e245.Kind).bind fun ahX=>bif ahX then Qs N (Bz N n1) (a0,y168,(IntKind.wrap .i64<|y167+1)) else (Qs N (Bz N n1) (a0,y168,y167)) else (some true)
def Ml (N:Nat) (a0:LT):Option Bool:=
  (bif (decide<|(a0.length:Int) < 2) then some true else ((ix a0 0).bind fun e9=>bif (e9.Kind !=32) then some true else ((ix a0<|IntKind.wrap .i64<|(a0.length:Int) - 1).bind fun e10=>some<|e10.Kind !=33))).bind fun y8=>bif y8 then some false else (Bz N N (a0,0,0))
def yY:Option aI:=
  some (⟨1,false,false,false,false⟩:aI)
def Gg:(Int×Bool)->Option Int
  | (a0,y8)=>bif y8 then some 10 else (bif (a0==60) then some 12 else (some 0))
def Jm:(Int×Bool)->Option Int
  | (a0,y7)=>bif y7 then some 9 else (bif (a0==57) then Gg (a0,(a0==57)) else (bif (a0==58) then Gg (a0,(a0==58)) else (Gg (a0,(a0==59)))))
def BA:(Int×Bool)->Option Int
  | (a0,y6)=>bif y6 then some 7 else (bif (a0==99) then some 8 else (bif (a0==55) then Jm (a0,(a0==55)) else (Jm (a0,(a0==56)))))
def Jo:(Int×Bool)->Option Int
  | (a0,y5)=>bif y5 then some 6 else (bif (a0==63) then BA (a0,(a0==63)) else (bif (a0==48) then BA (a0,(a0==48)) else (bif (a0==47) then BA (a0,(a0==47)) else (bif (a0==50) then BA (a0,(a0==50)) else (bif (a0==62) then BA (a0,(a0==62)) else (BA (a0,(a0==49))))))))
def zY (a0:Int):Option Int:=
  bif (a0==44) then some 3 else (bif (a0==45) then some 4 else (bif (a0==67) then Jo (a0,(a0==67)) else (Jo (a0,(a0==46)))))
def Et:Bool->Option Int
  | y8=>bif y8 then some 15 else (some 0)
def TY:(aG×Bool)->Option Int
  | (a0,y7)=>bif y7 then some 13 else (bif (a0.Kind==6) then some 14 else (bif (a0.Kind==1) then Et (a0.Kind==1) else (bif (a0.Kind==2) then Et (a0.Kind==2) else (bif (a0.Kind==3) then Et (a0.Kind==3) else (bif (a0.Kind==4) then Et (a0.Kind==4) else (bif (a0.Kind==5) then Et (a0.Kind==5) else (bif (a0.Kind==7) then Et (a0.Kind==7) else (Et<|a0.Kind==8))))))))
def Mq (a0:aG):Option Int:=
  bif (a0.Kind==15) then some 1 else (bif (a0.Kind==14) then some 2 else (bif (a0.Kind==13) then some 5 else (bif (a0.Kind==12) then (zY a0.Op).bind fun r6=>some r6 else (bif (a0.Kind==11) then some 11 else (bif (a0.Kind==9) then TY (a0,(a0.Kind==9)) else (TY (a0,(a0.Kind==10))))))))
def Qt (a0:aG) (a1:aI):Option Bool:=
  ((CG a1).bind fun BD=>bif (!BD) then some true else ((Mq a0).bind fun bP=>some<|bP==0)).bind fun jV=>bif jV then some false else ((bif a1.aV then some (a0.Kind==13) else (some false)).bind fun fJ=>bif fJ then some false else ((bif a1.aW then bif (a0.Kind==12) then some (a0.Op==62) else (some false) else (some false)).bind fun oh=>bif oh then some false else ((bif a1.eZ then bif (a0.Kind==11) then some true else (bif (a0.Kind==9) then some true else (some<|a0.Kind==4)) else (some false)).bind fun jB=>bif jB then some false else ((bif a1.jo then some (a0.Kind==9) else (some false)).bind fun qP=>bif qP then some true else ((Mq a0).bind fun mX=>some<|decide<|mX>=a1.Level)))))
def Mr (N:Nat):Nat->(dx×Int)->Option Int
  | 0,_=>none
  | n1+1,(a0,y27)=>(bif (decide<|y27 < (a0.l.length:Int)) then (ix a0.l y27).bind fun e40=>some (e40.Kind==1) else (some false)).bind fun y39=>bif y39 then (Mr N n1) (a0,(IntKind.wrap .i64<|y27+1)) else (some y27)
def Ms (N:Nat) (a0:dx) (a1:Int):Option Int:=
  Mr N N (a0,a1)
def Qu (a0:Int):Option (Int×Int):=
  (zY a0).bind fun r4=>bif (r4==3) then some (3,4) else (bif (r4==4) then some (4,5) else (bif (r4==6) then some (7,7) else (bif (r4==7) then some (8,8) else (bif (r4==8) then some (8,9) else (bif (r4==9) then some (9,10) else (bif (r4==10) then some (10,11) else (some (13,11))))))))
def BF:(aI×Int×Bool×Bool)->Option aI
  | (a2,y25,qM,y27)=>some (⟨y25,qM,a2.aV,a2.aW,y27⟩:aI)
def Qv:(aG×aI×Bool×Bool)->Option aI
  | (a0,a2,fJ,y34)=>bif y34 then BF (a2,14,false,false) else (bif (a0.Kind==6) then BF (a2,14,true,false) else (Option.bind yY fun uH=>some uH))
def mF (a0:aG) (a1:Int) (a2:aI):Option aI:=
  ((CG a2).bind fun dG=>bif (!dG) then some true else ((lS a1 0<|IntKind.wrap .i64<|(a0.Kids.length:Int) - 1).bind fun BD=>bif (!BD) then some true else ((Mq a0).bind fun bP=>some<|bP==0))).bind fun dY=>bif dY then some (⟨0,false,false,false,false⟩:aI) else ((bif a2.eZ then some (a1==0) else (some false)).bind fun fJ=>bif (a0.Kind==15) then bif (decide<|a1 > 0) then BF (a2,1,false,fJ) else (BF (a2,14,false,fJ)) else (bif (a0.Kind==14) then bif (a1==0) then BF (a2,3,false,fJ) else (BF (a2,2,false,fJ)) else (bif (a0.Kind==13) then bif (decide<|(a0.Kids.length:Int) > 1) then Option.bind yY fun zZ=>some zZ else (BF (a2,5,false,fJ)) else (bif (a0.Kind==12) then (Qu a0.Op).bind fun fC=>bif (decide<|a1 > 0) then BF (a2,fC.2,false,(a0.Op==99)) else (BF (a2,fC.1,false,fJ)) else (bif (a0.Kind==11) then BF (a2,11,false,false) else (bif (a0.Kind==9) then Qv (a0,a2,fJ,(a0.Kind==9)) else (Qv (a0,a2,fJ,(a0.Kind==10)))))))))
structure nK where
  Gh:dx->Int->Int->Int->aI->Option Bool
  Jp:dx->aG->Int->Int->aI->Option Bool
  Jq:dx->aG->Int->Int->aI->Option Bool
  yZ:dx->Int->Int->Int->Option Bool
  BG:dx->(List Int)->Int->Int->Option Bool
  ze:dx->aG->Int->Int->Int->Int->Option Bool
  Jr:dx->Int->Int->Int->aI->Option Bool
  gX:dx->Int->Int->Int->aI->Option Bool
def Gi (N:Nat) (R:nK) (dJ:(Int×Int×dx×aI×aG×Int)->Option Bool):(Int×Int×Int×dx×aI×aG)->Option Bool
  | (a2,a3,iA,a0,a4,e2)=>dJ (a2,a3,a0,a4,e2,(IntKind.wrap .i64<|iA+1))
def Eu (N:Nat) (R:nK) (dJ:(Int×Int×dx×aI×aG×Int)->Option Bool):(Int×Int×Int×dx×aI×aG×Int)->Option Bool
  | (a2,a3,iA,a0,a4,e2,Qw)=>(bif (e2.Kind==15) then (ix e2.Kids 0).bind fun Ua=>(R.yZ a0 Ua a2 iA).bind fun r431=>bif r431 then some true else (bif (e2.Kind !=15) then (ix e2.Kids 0).bind fun Uc=>(mF e2 0 a4).bind fun Ud=>(R.gX a0 Uc a2 iA Ud).bind fun YC=>some YC else (some false)) else (bif (e2.Kind !=15) then (ix e2.Kids 0).bind fun Ue=>(mF e2 0 a4).bind fun Uf=>(R.gX a0 Ue a2 iA Uf).bind fun YD=>some YD else (some false))).bind fun acg=>(bif acg then (ix e2.Kids 1).bind fun sZ=>(mF e2 1 a4).bind fun ach=>(R.gX a0 sZ Qw a3 ach).bind fun ahY=>some ahY else (some false)).bind fun aci=>bif aci then some true else (Gi N R dJ (a2,a3,iA,a0,a4,e2))
def pU (N:Nat) (R:nK):Nat->(Int×Int×dx×aI×aG×Int)->Option Bool
  | 0,_=>none
  | n1+1,(a2,a3,a0,a4,e2,iA)=>bif (decide<|iA < a3) then (bif (e2.Kind==12) then some (e2.Op==99) else (some false)).bind fun acj=>bif acj then Eu N R (pU N R n1) (a2,a3,iA,a0,a4,e2,iA) else ((ix a0.l iA).bind fun ahZ=>bif (ahZ.Kind !=e2.Op) then Gi N R (pU N R n1) (a2,a3,iA,a0,a4,e2) else ((bif (e2.Op==45) then some true else (some<|e2.Op==44)).bind fun acn=>bif acn then (Ms N a0<|IntKind.wrap .i64<|iA+1).bind fun Js=>Eu N R (pU N R n1) (a2,a3,iA,a0,a4,e2,(if Js < a3 then Js else a3)) else (Eu N R (pU N R n1) (a2,a3,iA,a0,a4,e2,(IntKind.wrap .i64<|iA+1))))) else (some false)
def Ug (N:Nat) (R:nK) (a0:dx) (a1:Int) (a2:Int) (a3:Int) (a4:aI):Option Bool:=
  (ix a0.x a1).bind fun e2=>pU N R N (a2,a3,a0,a4,e2,(IntKind.wrap .i64<|a2+1))
def Qx (N:Nat) (R:nK) (dJ:(Int×Int×dx×aG×aI×Int)->Option Bool):(Int×Int×Int×dx×aG×aI)->Option Bool
  | (a2,a3,kL,a0,a1,a4)=>dJ (a2,a3,a0,a1,a4,(IntKind.wrap .i64<|kL+1))
def Jt (N:Nat) (R:nK) (dJ:(Int×Int×dx×aG×aI×Int)->Option Bool):Nat->(Int×Int×Int×dx×aG×aI×Int)->Option Bool
  | 0,_=>none
  | n3+1,(a2,a3,kL,a0,a1,a4,BH)=>bif (decide<|BH < a3) then ((ix a0.l BH).bind fun YE=>bif (YE.Kind==66) then (ix a1.Kids 1).bind fun Uh=>(mF a1 1 a4).bind fun Ui=>(R.gX a0 Uh (IntKind.wrap .i64<|kL+1) BH Ui).bind fun YF=>bif YF then (ix a1.Kids 2).bind fun Uj=>(mF a1 2 a4).bind fun Uk=>(R.gX a0 Uj (IntKind.wrap .i64<|BH+1) a3 Uk).bind fun YG=>some YG else (some false) else (some false)).bind fun aco=>bif aco then some true else ((Jt N R dJ n3) (a2,a3,kL,a0,a1,a4,(IntKind.wrap .i64<|BH+1))) else (Qx N R dJ (a2,a3,kL,a0,a1,a4))
def CP (N:Nat) (R:nK):Nat->(Int×Int×dx×aG×aI×Int)->Option Bool
  | 0,_=>none
  | n1+1,(a2,a3,a0,a1,a4,kL)=>bif (decide<|kL < a3) then ((ix a0.l kL).bind fun aia=>bif (aia.Kind !=65) then some true else ((ix a1.Kids 0).bind fun acp=>(mF a1 0 a4).bind fun acr=>(R.gX a0 acp a2 kL acr).bind fun aib=>some<|!aib)).bind fun y1228=>bif y1228 then Qx N R (CP N R n1) (a2,a3,kL,a0,a1,a4) else (Jt N R (CP N R n1) N (a2,a3,kL,a0,a1,a4,(IntKind.wrap .i64<|kL+2))) else (some false)
def Ul (N:Nat) (R:nK) (a0:dx) (a1:aG) (a2:Int) (a3:Int) (a4:aI):Option Bool:=
  CP N R N (a2,a3,a0,a1,a4,(IntKind.wrap .i64<|a2+1))
def Um (N:Nat) (R:nK) (a0:dx) (a1:aG) (a2:Int) (a3:Int) (a4:aI):Option Bool:=
  (bif (decide<|(IntKind.wrap .i64<|a3 - a2) < 3) then some true else ((ix a0.l<|IntKind.wrap .i64<|a3 - 1).bind fun e12=>bif (e12.Kind !=6) then some true else ((ix a0.l<|IntKind.wrap .i64<|a3 - 1).bind fun e13=>bif (!(e13.Text==a1.Text)) then some true else ((ix a0.l<|IntKind.wrap .i64<|a3 - 2).bind fun e14=>some<|e14.Kind !=24)))).bind fun dY=>bif dY then some false else (bif ((a1.Kids.length:Int)==1) then (ix a1.Kids 0).bind fun e24=>(mF a1 0 a4).bind fun wV=>(R.gX a0 e24 a2 (IntKind.wrap .i64<|a3 - 2) wV).bind fun jr=>some jr else (((cut a0.l a2<|IntKind.wrap .i64<|a3 - 2).bind fun l31=>(Ml N l31).bind fun r32=>bif r32 then (R.BG a0 a1.Kids (IntKind.wrap .i64<|a2+1)<|IntKind.wrap .i64<|a3 - 3).bind fun fC=>some fC else (some false)).bind fun yR=>some yR))
def Un (N:Nat) (R:nK) (a0:dx) (a1:Int) (a2:Int) (a3:Int):Option Bool:=
  (bif (decide<|a2 < a3) then (cut a0.l a2 a3).bind fun l5=>(Ml N l5).bind fun r6=>bif (!r6) then (R.gX a0 a1 a2 a3 (⟨14,false,false,false,false⟩:aI)).bind fun r7=>some r7 else (some false) else (some false)).bind fun y4=>some y4
def Mt (N:Nat) (R:nK):Nat->((List Int)×Int×Int×dx×Int)->Option Bool
  | 0,_=>none
  | n1+1,(a1,a2,a3,a0,xw)=>bif (decide<|xw < a3) then ((ix a0.l xw).bind fun e190=>bif (e190.Kind==36) then (ix a1 0).bind fun Uo=>Option.bind yY fun Uq=>(R.gX a0 Uo a2 xw Uq).bind fun YH=>bif YH then (cut a1 1 (a1.length:Int)).bind fun Ur=>(Ms N a0<|IntKind.wrap .i64<|xw+1).bind fun Ju=>(R.BG a0 Ur (if Ju < a3 then Ju else a3) a3).bind fun BI=>some BI else (some false) else (some false)).bind fun acu=>bif acu then some true else ((Mt N R n1) (a1,a2,a3,a0,(IntKind.wrap .i64<|xw+1))) else (some false)
def Us (N:Nat) (R:nK) (a0:dx) (a1:List Int) (a2:Int) (a3:Int):Option Bool:=
  bif ((a1.length:Int)==0) then some (a2==a3) else (bif ((a1.length:Int)==1) then (ix a1 0).bind fun e10=>Option.bind yY fun fM=>(R.gX a0 e10 a2 a3 fM).bind fun dG=>some dG else (Mt N R N (a1,a2,a3,a0,a2)))
def Ut (N:Nat) (R:nK) (a0:dx) (a1:aG) (a2:Int) (a3:Int) (a4:Int) (a5:Int):Option Bool:=
  (bif (a2==8) then some ((IntKind.wrap .i64<|a5 - a4)==1) else (some false)).bind fun y13=>bif y13 then (bif (a5==(a0.l.length:Int)) then bif (a1.Text==[108,101,110,103,116,104]) then bif ((a1.Kids.length:Int)==0) then (ix a0.l a4).bind fun e20=>bif (e20.Kind==a2) then (ix a0.l a4).bind fun e21=>some (e21.Text==a1.Text) else (some false) else (some false) else (some false) else ((ix a0.l a5).bind fun e22=>bif (e22.Kind !=32) then bif (a1.Text==[108,101,110,103,116,104]) then bif ((a1.Kids.length:Int)==0) then (ix a0.l a4).bind fun e23=>bif (e23.Kind==a2) then (ix a0.l a4).bind fun e24=>some (e24.Text==a1.Text) else (some false) else (some false) else (some false) else (some false))).bind fun eH=>some eH else ((bif (decide<|(IntKind.wrap .i64<|a5 - a4)>=3) then (ix a0.l a4).bind fun e31=>bif (e31.Kind==a2) then (ix a0.l a4).bind fun e32=>bif (e32.Text==a1.Text) then (ix a0.l<|IntKind.wrap .i64<|a4+1).bind fun e33=>bif (e33.Kind==a3) then (ix a0.l<|IntKind.wrap .i64<|a5 - 1).bind fun e34=>bif (e34.Kind==(IntKind.wrap .i64<|a3+1)) then (R.BG a0 a1.Kids (IntKind.wrap .i64<|a4+2)<|IntKind.wrap .i64<|a5 - 1).bind fun jR=>some jR else (some false) else (some false) else (some false) else (some false) else (some false)).bind fun yR=>some yR)
def Uu (N:Nat) (R:nK) (a0:dx) (a1:Int) (a2:Int) (a3:Int) (a4:aI):Option Bool:=
  (ix a0.x a1).bind fun e2=>(og e2).bind fun r4=>bif (r4.Kind !=0) then (bif ((IntKind.wrap .i64<|a3 - a2)==1) then (ix a0.l a2).bind fun e13=>bif (e13.Kind==r4.Kind) then (ix a0.l a2).bind fun e14=>some (e14.Text==r4.Text) else (some false) else (some false)).bind fun jV=>some jV else (bif (e2.Kind==5) then (R.ze a0 e2 6 34 a2 a3).bind fun qp=>some qp else (bif (e2.Kind==7) then (R.ze a0 e2 7 32 a2 a3).bind fun BJ=>some BJ else (bif (e2.Kind==8) then (R.ze a0 e2 8 32 a2 a3).bind fun pQ=>some pQ else (bif (e2.Kind==9) then ((ix a0.l a2).bind fun YI=>bif (YI.Kind==e2.Op) then (ix e2.Kids 0).bind fun Gj=>(R.yZ a0 Gj (IntKind.wrap .i64<|a2+1) a3).bind fun Bu=>some Bu else (some false)).bind fun Mv=>some Mv else (bif (e2.Kind==10) then ((ix a0.l<|IntKind.wrap .i64<|a3 - 1).bind fun vE=>bif (vE.Kind==e2.Op) then (ix e2.Kids 0).bind fun Aa=>(R.yZ a0 Aa a2<|IntKind.wrap .i64<|a3 - 1).bind fun mE=>some mE else (some false)).bind fun kM=>some kM else (bif (e2.Kind==6) then ((ix a0.l a2).bind fun YJ=>bif (YJ.Kind==68) then (ix e2.Kids 0).bind fun Uv=>(mF e2 0 a4).bind fun Jv=>(R.gX a0 Uv (IntKind.wrap .i64<|a2+1) a3 Jv).bind fun YK=>some YK else (some false)).bind fun xA=>some xA else (bif (e2.Kind==11) then ((ix a0.l a2).bind fun YL=>bif (YL.Kind==e2.Op) then (ix e2.Kids 0).bind fun Uw=>(mF e2 0 a4).bind fun qN=>(R.gX a0 Uw (IntKind.wrap .i64<|a2+1) a3 qN).bind fun tC=>some tC else (some false)).bind fun y90=>some y90 else (bif (e2.Kind==13) then (R.Jq a0 e2 a2 a3 a4).bind fun xB=>some xB else (bif (e2.Kind==14) then (R.Jp a0 e2 a2 a3 a4).bind fun tF=>some tF else ((R.Gh a0 a1 a2 a3 a4).bind fun tK=>some tK))))))))))
def Ux (N:Nat) (R:nK) (a0:dx) (a1:Int) (a2:Int) (a3:Int) (a4:aI):Option Bool:=
  (cut a0.l a2 a3).bind fun l2=>(bif ((l2.length:Int)==0) then some true else ((YA N l2).bind fun bP=>(ix a0.n a1).bind fun e15=>bif (bP !=e15) then some true else ((YB N l2).bind fun r16=>some<|!r16))).bind fun y13=>bif y13 then some false else ((bif a4.eZ then (ix l2 0).bind fun e43=>(Er e43.Kind).bind fun sW=>bif (!sW) then some true else (bif a4.aV then (Gf N l2 24).bind fun Uy=>bif Uy then some true else (bif a4.aW then (Gf N l2 62).bind fun xC=>some xC else (some false)) else (bif a4.aW then (Gf N l2 62).bind fun r47=>some r47 else (some false))) else (bif a4.aV then (Gf N l2 24).bind fun Bp=>bif Bp then some true else (bif a4.aW then (Gf N l2 62).bind fun fT=>some fT else (some false)) else (bif a4.aW then (Gf N l2 62).bind fun Uz=>some Uz else (some false)))).bind fun lU=>bif lU then some false else (((Ml N l2).bind fun pQ=>bif pQ then Option.bind yY fun zf=>(R.gX a0 a1 (IntKind.wrap .i64<|a2+1) (IntKind.wrap .i64<|a3 - 1) zf).bind fun r64=>some r64 else (some false)).bind fun lT=>bif lT then some true else (((ix a0.x a1).bind fun UA=>(Qt UA (⟨a4.Level,a4.jo,false,false,false⟩:aI)).bind fun jK=>bif jK then (R.Jr a0 a1 a2 a3 a4).bind fun YM=>some YM else (some false)).bind fun Mi=>some Mi)))
def dh:Nat->nK
  | 0=>⟨fun _ _ _ _ _=>none,fun _ _ _ _ _=>none,fun _ _ _ _ _=>none,fun _ _ _ _=>none,fun _ _ _ _=>none,fun _ _ _ _ _ _=>none,fun _ _ _ _ _=>none,fun _ _ _ _ _=>none⟩
  | N+1=>⟨fun a0 a1 a2 a3 a4=>Ug N (dh N) a0 a1 a2 a3 a4,fun a0 a1 a2 a3 a4=>Ul N (dh N) a0 a1 a2 a3 a4,fun a0 a1 a2 a3 a4=>Um N (dh N) a0 a1 a2 a3 a4,fun a0 a1 a2 a3=>Un N (dh N) a0 a1 a2 a3,fun a0 a1 a2 a3=>Us N (dh N) a0 a1 a2 a3,fun a0 a1 a2 a3 a4 a5=>Ut N (dh N) a0 a1 a2 a3 a4 a5,fun a0 a1 a2 a3 a4=>Uu N (dh N) a0 a1 a2 a3 a4,fun a0 a1 a2 a3 a4=>Ux N (dh N) a0 a1 a2 a3 a4⟩
def Gh (N:Nat) (a0:dx) (a1:Int) (a2:Int) (a3:Int) (a4:aI):Option Bool:=(dh N).Gh a0 a1 a2 a3 a4
def Jp (N:Nat) (a0:dx) (a1:aG) (a2:Int) (a3:Int) (a4:aI):Option Bool:=(dh N).Jp a0 a1 a2 a3 a4
def Jq (N:Nat) (a0:dx) (a1:aG) (a2:Int) (a3:Int) (a4:aI):Option Bool:=(dh N).Jq a0 a1 a2 a3 a4
def yZ (N:Nat) (a0:dx) (a1:Int) (a2:Int) (a3:Int):Option Bool:=(dh N).yZ a0 a1 a2 a3
def BG (N:Nat) (a0:dx) (a1:List Int) (a2:Int) (a3:Int):Option Bool:=(dh N).BG a0 a1 a2 a3
def ze (N:Nat) (a0:dx) (a1:aG) (a2:Int) (a3:Int) (a4:Int) (a5:Int):Option Bool:=(dh N).ze a0 a1 a2 a3 a4 a5
def Jr (N:Nat) (a0:dx) (a1:Int) (a2:Int) (a3:Int) (a4:aI):Option Bool:=(dh N).Jr a0 a1 a2 a3 a4
def gX (N:Nat) (a0:dx) (a1:Int) (a2:Int) (a3:Int) (a4:aI):Option Bool:=(dh N).gX a0 a1 a2 a3 a4
def Jw (N:Nat):Nat->(LT×LN×aI×Int×(List Int))->Option Bool
  | 0,_=>none
  | n1+1,(a0,a1,a2,nL,iM)=>bif (decide<|nL < (a1.length:Int)) then (Bv N a1 nL).bind fun r81=>(app 8 iM [(r81.length:Int)]).bind fun x82=>(Jw N n1) (a0,a1,a2,(IntKind.wrap .i64<|nL+1),x82) else ((gX N (⟨a0,a1,iM⟩:dx) (IntKind.wrap .i64<|(a1.length:Int) - 1) 0 (a0.length:Int) a2).bind fun Jv=>some Jv)
def UC (N:Nat) (a0:LT) (a1:LN) (a2:aI):Option Bool:=
  ((Qd N a0).bind fun fD=>bif (!fD) then some true else ((Qk N a1).bind fun r16=>bif (!r16) then some true else ((CG a2).bind fun qm=>bif (!qm) then some true else (bif (decide<|(a0.length:Int) > 400) then some true else ((Ql N a0).bind fun iq=>some<|decide<|iq>=0))))).bind fun iE=>bif iE then some false else (Jw N N (a0,a1,a2,0,[]))
def qQ (a0:Int) (a1:Int) (a2:Int):Option Bool:=
  (bif (decide<|a0>=a1) then some (decide<|a0<=a2) else (some false)).bind fun y1=>some y1
def Jy (N:Nat) (dJ:(LN×Int×(List Int))->Option ((List Int)×Bool)) (a0:LN) (kW:Int) (xD:aG) (rO:List Int):List Int->Int->Option ((List Int)×Bool)
  | [],vF=>(ix rO kW).bind fun aqn=>(upd rO kW<|IntKind.wrap .i64<|vF+1).bind fun YN=>dJ (a0,(IntKind.wrap .i64<|kW+1),YN)
  | e339::aie,vF=>(bif (decide<|vF < 0) then some true else (some<|e339 !=vF)).bind fun acw=>bif acw then some ([],false) else ((ix rO e339).bind fun UD=>(Jy N dJ a0 kW xD rO aie)<|IntKind.wrap .i64<|UD - 1)
def Gl (N:Nat):Nat->(LN×Int×(List Int))->Option ((List Int)×Bool)
  | 0,_=>none
  | n1+1,(a0,kW,rO)=>bif (decide<|kW < (a0.length:Int)) then (ix a0 kW).bind fun xD=>Jy N (Gl N n1) a0 kW xD rO (xD.Kids.reverse) (IntKind.wrap .i64<|kW - 1) else ((ix rO<|IntKind.wrap .i64<|(a0.length:Int) - 1).bind fun UE=>some (rO,(UE==0)))
def UF (N:Nat) (a0:LN):Option ((List Int)×Bool):=
  (qQ (a0.length:Int) 1 400).bind fun r4=>bif (!r4) then some ([],false) else ((mk 8 0 (a0.length:Int)).bind fun x6=>Gl N N (a0,0,x6))
def UG (N:Nat) (a0:LN):Option Bool:=
  (UF N a0).bind fun r2=>some r2.2
def CQ (a0:Int):Option Bool:=
  (qQ a0 1 15).bind fun r2=>some r2
def Qy (a0:Int):Option Bool:=
  (bif (decide<|a0>=97) then bif (decide<|a0<=122) then some true else (bif (decide<|a0>=65) then bif (decide<|a0<=90) then some true else (some<|a0==95) else (some<|a0==95)) else (bif (decide<|a0>=65) then bif (decide<|a0<=90) then some true else (some<|a0==95) else (some<|a0==95))).bind fun y1=>some y1
def Qz (a0:Int):Option Bool:=
  (bif (decide<|a0>=48) then some (decide<|a0<=57) else (some false)).bind fun y1=>some y1
def UH (a0:Int):Option Bool:=
  ((Qy a0).bind fun r4=>bif r4 then some true else ((Qz a0).bind fun r5=>some r5)).bind fun y3=>some y3
def Mw (N:Nat):Nat->(LU×Int)->Option Bool
  | 0,_=>none
  | n1+1,(a0,fq)=>bif (decide<|fq < (a0.length:Int)) then (ix a0 fq).bind fun Mc=>(UH<|IntKind.wrap .i64 ((Mc).toNat:Int)).bind fun IX=>bif (!IX) then some false else ((Mw N n1) (a0,(IntKind.wrap .i64<|fq+1))) else (((qQ (a0.length:Int) 1 12).bind fun FU=>bif FU then (ix a0 0).bind fun Md=>(Qy<|IntKind.wrap .i64 ((Md).toNat:Int)).bind fun nW=>some nW else (some false)).bind fun yQ=>some yQ)
def YO (N:Nat) (a0:LU):Option Bool:=
  Mw N N (a0,0)
def Jz (N:Nat):Nat->(aT×LU×Int)->Option Int
  | 0,_=>none
  | n1+1,(a0,a1,eH)=>bif (decide<|eH < (a0.length:Int)) then (ix a0 eH).bind fun e28=>bif (a1==e28) then some eH else ((Jz N n1) (a0,a1,(IntKind.wrap .i64<|eH+1))) else (some<|-1)
def QA (N:Nat) (a0:aT) (a1:LU):Option Int:=
  Jz N N (a0,a1,0)
def UJ (N:Nat) (a0:LU):Option Int:=
  (QA N qK a0).bind fun r2=>bif (decide<|r2 < 0) then some 0 else (some<|IntKind.wrap .i64<|10+r2)
def Mx (N:Nat) (a0:aT) (a1:LU):Option Bool:=
  (QA N a0 a1).bind fun r2=>some (decide<|r2>=0)
def MB (N:Nat) (a0:LU):Option Bool:=
  (Mx N yN a0).bind fun r2=>some r2
def BK (N:Nat) (a0:LU):Option Bool:=
  ((YO N a0).bind fun r5=>bif r5 then (UJ N a0).bind fun r6=>bif (r6==0) then (MB N a0).bind fun r7=>some (!r7) else (some false) else (some false)).bind fun y4=>some y4
def acy (a0:LU) (a1:Int):Option Int:=
  some (Go.Lib.indexByte a0 (Int.toNat a1).toUInt8)
def UK (a0:LU):Option Int:=
  bif (([10]:LU)==a0) then some 0 else ((ix ([10]:LU) 0).bind fun b7=>(acy a0 ((b7).toNat:Int)).bind fun r8=>some r8)
def YP (a0:LU):Option Int:=
  (UK a0).bind fun r2=>some r2
def UL (a0:LU):Option Bool:=
  (YP a0).bind fun r2=>some (decide<|r2>=0)
def Ev (a0:LU) (a1:Int):Option Int:=
  (qQ a1 0<|IntKind.wrap .i64<|(a0.length:Int) - 1).bind fun r4=>bif (!r4) then some (-1) else ((ix a0 a1).bind fun b6=>some<|IntKind.wrap .i64 ((b6).toNat:Int))
def MC (N:Nat):Nat->(LU×Int)->Option Int
  | 0,_=>none
  | n1+1,(a0,a1)=>(Ev a0 a1).bind fun fC=>(Qz fC).bind fun jJ=>bif jJ then (MC N n1) (a0,(IntKind.wrap .i64<|a1+1)) else (some a1)
def QB (N:Nat) (a0:LU) (a1:Int):Option Int:=
  MC N N (a0,a1)
def UM (N:Nat):Int->Option Int
  | dY=>some dY
def QC (N:Nat):(LU×Int×Int)->Option Int
  | (a0,dY,y31)=>(QB N a0 y31).bind fun fC=>bif (decide<|fC > y31) then some fC else (UM N dY)
def ME (N:Nat):(LU×Int×Int)->Option Int
  | (a0,dY,jV)=>bif (jV==0) then some (-1) else ((Ev a0 dY).bind fun jr=>(bif (jr==101) then some true else (some<|jr==69)).bind fun y27=>bif y27 then (Ev a0<|IntKind.wrap .i64<|dY+1).bind fun jR=>(bif (jR==43) then some true else (some<|jR==45)).bind fun Mf=>bif Mf then QC N (a0,dY,(IntKind.wrap .i64<|(IntKind.wrap .i64<|dY+1)+1)) else (QC N (a0,dY,(IntKind.wrap .i64<|dY+1))) else (UM N dY))
def QD (N:Nat) (a0:LU) (a1:Int):Option Int:=
  (qQ a1 0<|IntKind.wrap .i64<|(a0.length:Int) - 1).bind fun r4=>bif (!r4) then some (-1) else ((QB N a0 a1).bind fun r6=>(Ev a0 r6).bind fun kC=>bif (kC==46) then (QB N a0<|IntKind.wrap .i64<|r6+1).bind fun kN=>ME N (a0,kN,(IntKind.wrap .i64<|(IntKind.wrap .i64<|r6 - a1)+(IntKind.wrap .i64<|(IntKind.wrap .i64<|kN - r6) - 1))) else (ME N (a0,r6,(IntKind.wrap .i64<|r6 - a1))))
def MF (N:Nat) (dJ:(LU×Int×Int)->Option Int):(LU×Int×Int)->Option Int
  | (a0,a2,JA)=>dJ (a0,a2,(IntKind.wrap .i64<|JA+1))
def Ew (N:Nat):Nat->(LU×Int×Int)->Option Int
  | 0,_=>none
  | n1+1,(a0,a2,y91)=>(bif (decide<|y91 < (a0.length:Int)) then (ix a0 y91).bind fun aif=>some (((aif).toNat:Int) !=10) else (some false)).bind fun Ey=>bif Ey then (ix a0 y91).bind fun aii=>bif ((IntKind.wrap .i64 ((aii).toNat:Int))==a2) then some (IntKind.wrap .i64<|y91+1) else (((ix a0 y91).bind fun aij=>bif (((aij).toNat:Int)==92) then (Ev a0<|IntKind.wrap .i64<|y91+1).bind fun kX=>some (kX !=10) else (some false)).bind fun acz=>bif acz then MF N (Ew N n1) (a0,a2,(IntKind.wrap .i64<|y91+1)) else (MF N (Ew N n1) (a0,a2,y91))) else (some<|-1)
def QE (N:Nat) (a0:LU) (a1:Int) (a2:Int):Option Int:=
  (Ev a0 a1).bind fun r4=>bif (r4 !=a2) then some (-1) else (Ew N N (a0,a2,(IntKind.wrap .i64<|a1+1)))
def QF (N:Nat) (a0:LU) (a1:Int):Option Int:=
  (QE N a0 a1 34).bind fun r2=>some r2
def QG (N:Nat) (a0:LU) (a1:Int):Option Int:=
  (QE N a0 a1 47).bind fun r2=>bif (r2==(IntKind.wrap .i64<|a1+2)) then some (-1) else (some r2)
def UN (a0:Int):Option Bool:=
  (qQ a0 10 26).bind fun r2=>some r2
def UO (a0:Int):Option Bool:=
  (qQ a0 30 68).bind fun r2=>some r2
def UQ (a0:Int):Option LU:=
  bif (a0==1) then some [10] else ((UN a0).bind fun bM=>bif bM then (ix qK<|IntKind.wrap .i64<|a0 - 10).bind fun e12=>some e12 else ((UO a0).bind fun bP=>bif bP then (ix yO<|IntKind.wrap .i64<|a0 - 30).bind fun e16=>some e16 else (some [])))
def QH (N:Nat):(av×Bool)->Option Bool
  | (a0,y28)=>bif y28 then (BK N a0.Text).bind fun pV=>some pV else (bif (a0.Kind==8) then (MB N a0.Text).bind fun r32=>some r32 else ((UQ a0.Kind).bind fun jJ=>some<|a0.Text==jJ))
def MG (N:Nat) (a0:av):Option Bool:=
  bif (a0.Text==[]) then some false else (bif (a0.Kind==2) then ((ix a0.Text 0).bind fun b20=>bif (((b20).toNat:Int)==35) then (UL a0.Text).bind fun bT=>some (!bT) else (some false)).bind fun eH=>some eH else (bif (a0.Kind==3) then (QD N a0.Text 0).bind fun IY=>some (IY==(a0.Text.length:Int)) else (bif (a0.Kind==4) then (QF N a0.Text 0).bind fun wV=>some (wV==(a0.Text.length:Int)) else (bif (a0.Kind==5) then (QG N a0.Text 0).bind fun pR=>some (pR==(a0.Text.length:Int)) else (bif (a0.Kind==6) then QH N (a0,(a0.Kind==6)) else (QH N (a0,(a0.Kind==7))))))))
def xE (a0:Int):Option Bool:=
  (bif (a0==51) then some true else (some<|a0==52)).bind fun y1=>some y1
def QI:(Int×Bool)->Option Int
  | (a0,y8)=>bif y8 then some 10 else (bif (a0==60) then some 12 else (some 0))
def UR:(Int×Bool)->Option Int
  | (a0,y7)=>bif y7 then some 9 else (bif (a0==57) then QI (a0,(a0==57)) else (bif (a0==58) then QI (a0,(a0==58)) else (QI (a0,(a0==59)))))
def Gm:(Int×Bool)->Option Int
  | (a0,y6)=>bif y6 then some 7 else (bif (a0==99) then some 8 else (bif (a0==55) then UR (a0,(a0==55)) else (UR (a0,(a0==56)))))
def UU:(Int×Bool)->Option Int
  | (a0,y5)=>bif y5 then some 6 else (bif (a0==63) then Gm (a0,(a0==63)) else (bif (a0==48) then Gm (a0,(a0==48)) else (bif (a0==47) then Gm (a0,(a0==47)) else (bif (a0==50) then Gm (a0,(a0==50)) else (bif (a0==62) then Gm (a0,(a0==62)) else (Gm (a0,(a0==49))))))))
def CS (a0:Int):Option Int:=
  bif (a0==44) then some 3 else (bif (a0==45) then some 4 else (bif (a0==67) then UU (a0,(a0==67)) else (UU (a0,(a0==46)))))
def JB (a0:Int):Option Bool:=
  (bif (a0==54) then some true else ((qQ a0 38 43).bind fun r3=>some r3)).bind fun y2=>some y2
def UW (N:Nat):(aG×Bool)->Option lD
  | (a0,fq)=>bif fq then (xE a0.Op).bind fun zV=>some (⟨zV,(a0.Text==[]),false,1,1⟩:lD) else (bif (a0.Kind==11) then (bif (a0.Op==55) then some true else (bif (a0.Op==56) then some true else (some<|a0.Op==61))).bind fun y38=>some (⟨y38,(a0.Text==[]),false,1,1⟩:lD) else (bif (a0.Kind==12) then (CS a0.Op).bind fun kN=>some (⟨(kN !=0),(a0.Text==[]),false,2,2⟩:lD) else (bif (a0.Kind==14) then some (⟨(a0.Op==0),(a0.Text==[]),false,3,3⟩:lD) else ((JB a0.Op).bind fun pO=>some (⟨pO,(a0.Text==[]),false,2,2⟩:lD)))))
def UY (N:Nat):(aG×Bool)->Option lD
  | (a0,y28)=>bif y28 then (BK N a0.Text).bind fun pV=>some (⟨(a0.Op==0),pV,false,1,6⟩:lD) else (bif (a0.Kind==6) then some (⟨(a0.Op==0),(a0.Text==[]),false,1,1⟩:lD) else (bif (a0.Kind==7) then (BK N a0.Text).bind fun r32=>some (⟨(a0.Op==0),r32,false,0,6⟩:lD) else (bif (a0.Kind==8) then (MB N a0.Text).bind fun jJ=>some (⟨(a0.Op==0),jJ,false,0,6⟩:lD) else (bif (a0.Kind==9) then UW N (a0,(a0.Kind==9)) else (UW N (a0,(a0.Kind==10)))))))
def QJ (N:Nat):(aG×Bool)->Option lD
  | (a0,y23)=>bif y23 then (ix [3,4,5]<|IntKind.wrap .i64<|a0.Kind - 2).bind fun e26=>(MG N (⟨e26,a0.Text,0⟩:av)).bind fun pR=>some (⟨(a0.Op==0),pR,false,0,0⟩:lD) else (bif (a0.Kind==5) then UY N (a0,(a0.Kind==5)) else (UY N (a0,(a0.Kind==13))))
def YQ (N:Nat) (a0:aG):Option lD:=
  bif (a0.Kind==1) then (BK N a0.Text).bind fun jq=>some (⟨(a0.Op==0),jq,false,0,0⟩:lD) else (bif (a0.Kind==2) then QJ N (a0,(a0.Kind==2)) else (bif (a0.Kind==3) then QJ N (a0,(a0.Kind==3)) else (QJ N (a0,(a0.Kind==4)))))
def JC (a0:Int):Option Bool:=
  (qQ a0 20 34).bind fun r2=>some r2
def xG (N:Nat):(Bool×Bool×Bool×Int×Int)->Option lD
  | (iE,fJ,oh,jB,qP)=>some (⟨iE,fJ,oh,jB,qP⟩:lD)
def UZ (N:Nat):(aG×Bool)->Option lD
  | (a0,y25)=>bif y25 then xG N ((a0.Op==0),(a0.Text==[]),(a0.Other==[]),2,2) else (bif (a0.Kind==31) then xG N ((a0.Op==0),(a0.Text==[]),(a0.Other==[]),4,4) else (bif (a0.Kind==32) then (BK N a0.Text).bind fun jC=>(BK N a0.Other).bind fun yS=>xG N ((a0.Op==0),jC,yS,1,1) else (bif (a0.Kind==33) then xG N ((a0.Op==0),(a0.Text==[]),(a0.Other==[]),0,400) else (bif (a0.Kind==34) then (MG N (⟨2,a0.Text,0⟩:av)).bind fun zZ=>xG N ((a0.Op==0),zZ,(a0.Other==[]),0,0) else (xG N ((a0.Op==0),(a0.Text==[]),(a0.Other==[]),0,0))))))
def Va (N:Nat):(aG×Bool)->Option lD
  | (a0,y22)=>bif y22 then xG N ((a0.Op==0),(a0.Text==[]),(a0.Other==[]),0,1) else (bif (a0.Kind==27) then (BK N a0.Text).bind fun jL=>xG N ((a0.Op==0),jL,(a0.Other==[]),0,6) else (bif (a0.Kind==28) then xG N ((a0.Op==0),(a0.Text==[]),(a0.Other==[]),2,3) else (bif (a0.Kind==29) then UZ N (a0,(a0.Kind==29)) else (UZ N (a0,(a0.Kind==30))))))
def YR (N:Nat) (a0:aG):Option lD:=
  bif (a0.Kind==20) then xG N ((a0.Op==0),(a0.Text==[]),(a0.Other==[]),1,1) else (bif (a0.Kind==21) then (bif (a0.Op==0) then some true else (some<|a0.Op==1)).bind fun eH=>(Mx N [[],[62],[62,62],[124]] a0.Other).bind fun bT=>bif (!(a0.Other==[])) then xG N (eH,(a0.Text==[]),bT,(IntKind.wrap .i64<|a0.Op+1),7) else (xG N (eH,(a0.Text==[]),bT,a0.Op,6)) else (bif (a0.Kind==23) then Va N (a0,(a0.Kind==23)) else (Va N (a0,(a0.Kind==24)))))
def JD (N:Nat):(aG×Bool×Bool×Int×Int)->Option lD
  | (a0,y9,iZ,dY,jV)=>some (⟨y9,iZ,(a0.Other==[]),dY,jV⟩:lD)
def Vb (N:Nat):(Bool×aG×Int)->Option lD
  | (fD,a0,oh)=>JD N (a0,fD,(a0.Text==[]),oh,oh)
def Vd (N:Nat):(Bool×aG×Int)->Option lD
  | (jB,a0,qP)=>JD N (a0,jB,(a0.Text==[]),qP,qP)
def Ve (N:Nat):(aG×Bool)->Option lD
  | (a0,y13)=>bif y13 then JD N (a0,(a0.Op==0),(a0.Text==[]),1,1) else (bif (a0.Kind==42) then (qQ a0.Op 1 3).bind fun fD=>bif (a0.Op==3) then Vb N (fD,a0,2) else (Vb N (fD,a0,1)) else (bif (a0.Kind==43) then (bif (a0.Op==1) then some true else (some<|a0.Op==3)).bind fun jB=>bif (a0.Op==3) then Vd N (jB,a0,3) else (Vd N (jB,a0,2)) else (bif (a0.Kind==44) then (BK N a0.Text).bind fun mX=>JD N (a0,(a0.Op==0),mX,1,7) else (JD N (a0,(a0.Op==0),(a0.Text==[]),0,400)))))
def YS (N:Nat) (a0:aG):Option lD:=
  bif (a0.Kind==40) then Ve N (a0,(a0.Kind==40)) else (Ve N (a0,(a0.Kind==41)))
def MH (N:Nat):(aG×Bool×Bool×Bool×Int×Int)->Option Bool
  | (a0,y13,iE,fJ,oh,jB)=>(bif y13 then bif iE then bif fJ then (qQ (a0.Kids.length:Int) oh jB).bind fun mX=>some mX else (some false) else (some false) else (some false)).bind fun eH=>some eH
def QK (N:Nat) (a0:aG):Option Bool:=
  (CQ a0.Kind).bind fun jq=>bif jq then (YQ N a0).bind fun jL=>MH N (a0,jL.op,jL.text,(a0.Other==[]),jL.least,jL.most) else (bif (a0.Kind==16) then MH N (a0,(a0.Op==0),(a0.Text==[]),(a0.Other==[]),0,0) else ((JC a0.Kind).bind fun jr=>bif jr then (YR N a0).bind fun jC=>MH N (a0,jC.op,jC.text,jC.other,jC.least,jC.most) else ((qQ a0.Kind 40 45).bind fun pV=>bif pV then (YS N a0).bind fun r32=>MH N (a0,r32.op,r32.text,r32.other,r32.least,r32.most) else (some false))))
def QL (a0:Int):Option Bool:=
  (bif (a0==1) then some true else (bif (a0==5) then some true else (some<|a0==6))).bind fun y1=>some y1
def YT (a0:Int):Option Bool:=
  (qQ a0 40 44).bind fun r2=>some r2
def oK:(Int×Bool)->Option Bool
  | (a2,y22)=>bif y22 then some (a2==33) else ((CQ a2).bind fun jL=>some jL)
def zh:(Int×Int×aG×Bool)->Option Bool
  | (a2,a1,a0,y38)=>bif y38 then oK (a2,true) else (bif (a0.Kind==33) then (JC a2).bind fun kN=>some kN else (bif (a0.Kind==42) then (bif (a1==(IntKind.wrap .i64<|(a0.Kids.length:Int) - 1)) then some (decide<|a0.Op>=2) else (some false)).bind fun xu=>oK (a2,xu) else (bif (a0.Kind==43) then (bif (a1==(IntKind.wrap .i64<|(a0.Kids.length:Int) - 1)) then some (a0.Op==3) else (some false)).bind fun lU=>oK (a2,lU) else (bif (a0.Kind==44) then bif (!(a1==(IntKind.wrap .i64<|(a0.Kids.length:Int) - 1))) then some (a2==1) else (oK (a2,true)) else (bif (a0.Kind==45) then ((YT a2).bind fun Uy=>bif Uy then some true else (some<|a2==34)).bind fun Gn=>some Gn else (oK (a2,false)))))))
def uI:(Int×Int×aG×Bool)->Option Bool
  | (a1,a2,a0,fq)=>bif fq then oK (a2,(decide<|a1 > 0)) else (bif (a0.Kind==31) then (bif (decide<|a1 < 3) then some (a2==16) else (some false)).bind fun gM=>bif gM then some true else (oK (a2,(a1==(IntKind.wrap .i64<|(a0.Kids.length:Int) - 1)))) else (bif (a0.Kind==30) then oK (a2,(a1==0)) else (bif (a0.Kind==32) then zh (a2,a1,a0,(a0.Kind==32)) else (bif (a0.Kind==40) then zh (a2,a1,a0,(a0.Kind==40)) else (zh (a2,a1,a0,(a0.Kind==41)))))))
def qR:(Int×Int×aG×Bool)->Option Bool
  | (a1,a2,a0,y25)=>bif y25 then (QL a2).bind fun pR=>some pR else (bif (a0.Kind==15) then (bif (a1==0) then (QL a2).bind fun r32=>bif r32 then some true else (bif (decide<|a1 > 0) then (CQ a2).bind fun fC=>some fC else (some false)) else (bif (decide<|a1 > 0) then (CQ a2).bind fun jJ=>some jJ else (some false))).bind fun y31=>some y31 else (bif (a0.Kind==28) then uI (a1,a2,a0,(a0.Kind==28)) else (uI (a1,a2,a0,(a0.Kind==29)))))
def qU (a0:aG) (a1:Int) (a2:Int):Option Bool:=
  bif (a0.Kind==9) then qR (a1,a2,a0,(a0.Kind==9)) else (qR (a1,a2,a0,(a0.Kind==10)))
structure Vf where
  BL:LN->Int->Option aD
def JE (N:Nat) (R:Vf):Nat->(LN×aG×Int×LS)->Option aD
  | 0,_=>none
  | n1+1,(a0,e2,nL,iM)=>bif (decide<|nL < (e2.Kids.length:Int)) then (ix e2.Kids nL).bind fun e86=>(R.BL a0 e86).bind fun vD=>(app 72 iM [vD]).bind fun x90=>(JE N R n1) (a0,e2,(IntKind.wrap .i64<|nL+1),x90) else (some (⟨e2.Kind,e2.Op,e2.Text,e2.Other,iM⟩:aD))
def Vg (N:Nat) (R:Vf) (a0:LN) (a1:Int):Option aD:=
  (ix a0 a1).bind fun e2=>JE N R N (a0,e2,0,[])
def Gp:Nat->Vf
  | 0=>⟨fun _ _=>none⟩
  | N+1=>⟨fun a0 a1=>Vg N (Gp N) a0 a1⟩
def BL (N:Nat) (a0:LN) (a1:Int):Option aD:=(Gp N).BL a0 a1
def MI (N:Nat) (a0:LN):Option aD:=
  (BL N a0<|IntKind.wrap .i64<|(a0.length:Int) - 1).bind fun r2=>some r2
structure Vh where
  tL:aD->Option Int
def JF (N:Nat) (R:Vh):Nat->(aD×Int×Int)->Option Int
  | 0,_=>none
  | n1+1,(a0,gM,y38)=>bif (decide<|y38 < (a0.kids.length:Int)) then (ix a0.kids y38).bind fun e54=>(R.tL e54).bind fun mW=>(JF N R n1) (a0,(if mW > gM then mW else gM),(IntKind.wrap .i64<|y38+1)) else (some<|IntKind.wrap .i64<|gM+1)
def Vi (N:Nat) (R:Vh) (a0:aD):Option Int:=
  JF N R N (a0,0,0)
def JG:Nat->Vh
  | 0=>⟨fun _=>none⟩
  | N+1=>⟨fun a0=>Vi N (JG N) a0⟩
def tL (N:Nat) (a0:aD):Option Int:=(JG N).tL a0
def MJ (N:Nat) (dJ:(LN×Int)->Option Bool):Nat->(LN×Int×aG×Int)->Option Bool
  | 0,_=>none
  | n2+1,(a0,xH,tN,Gq)=>bif (decide<|Gq < (tN.Kids.length:Int)) then (ix tN.Kids Gq).bind fun aik=>(ix a0 aik).bind fun acB=>(qU tN Gq acB.Kind).bind fun ail=>bif (!ail) then some false else ((MJ N dJ n2) (a0,xH,tN,(IntKind.wrap .i64<|Gq+1))) else (dJ (a0,(IntKind.wrap .i64<|xH+1)))
def Ez (N:Nat):Nat->(LN×Int)->Option Bool
  | 0,_=>none
  | n1+1,(a0,xH)=>bif (decide<|xH < (a0.length:Int)) then (ix a0 xH).bind fun tN=>(QK N tN).bind fun ain=>bif (!ain) then some false else (MJ N (Ez N n1) N (a0,xH,tN,0)) else ((MI N a0).bind fun acC=>(tL N acC).bind fun aio=>some<|decide<|aio<=40)
def Vj (N:Nat) (a0:LN):Option Bool:=
  (UG N a0).bind fun r4=>bif (!r4) then some false else (Ez N N (a0,0))
def MK (N:Nat) (a0:LN):Option Bool:=
  ((Vj N a0).bind fun r5=>bif r5 then (ix a0<|IntKind.wrap .i64<|(a0.length:Int) - 1).bind fun e6=>(CQ e6.Kind).bind fun r7=>some r7 else (some false)).bind fun y4=>some y4
def Vk (a0:av):Option Bool:=
  some (a0.Kind==2)
def EA (N:Nat):Nat->(LT×Int)->Option Int
  | 0,_=>none
  | n1+1,(a0,fq)=>bif (decide<|fq < (a0.length:Int)) then (ix a0 fq).bind fun e51=>(Vk e51).bind fun IX=>bif IX then some fq else ((EA N n1) (a0,(IntKind.wrap .i64<|fq+1))) else (some<|-1)
def Vl (N:Nat) (a0:LT):Option Int:=
  EA N N (a0,0)
def ML (N:Nat) (a0:LT):Option Bool:=
  (Vl N a0).bind fun r2=>some (decide<|r2>=0)
def MN (a0:aI):Option Bool:=
  ((qQ a0.Level 1 15).bind fun r3=>bif r3 then bif (!a0.jo) then some true else (some<|a0.Level==14) else (some false)).bind fun y2=>some y2
def CU:Bool->Option Bool
  | y2=>bif y2 then some true else (some false)
def MO (a0:Int):Option Bool:=
  bif (a0==3) then CU (a0==3) else (bif (a0==4) then CU (a0==4) else (bif (a0==5) then CU (a0==5) else (bif (a0==6) then CU (a0==6) else (bif (a0==8) then CU (a0==8) else (bif (a0==33) then CU (a0==33) else (bif (a0==35) then CU (a0==35) else (bif (a0==51) then CU (a0==51) else (CU<|a0==52))))))))
def Vm (N:Nat) (dJ:(LT×Int×Int)->Option Bool):(LT×Int×av×Bool)->Option Bool
  | (a0,kY,iB,YU)=>bif YU then some false else (dJ (a0,iB.Kind,(IntKind.wrap .i64<|kY+1)))
def JH (N:Nat) (dJ:(LT×Int×Int)->Option Bool):(LT×Int×Int×av×Int)->Option Bool
  | (a0,qV,kY,iB,MP)=>(MG N iB).bind fun aip=>bif (!aip) then some false else ((bif (iB.Kind==7) then some (MP !=32) else (some false)).bind fun acD=>bif acD then some false else ((bif (iB.Kind==2) then bif (MP !=1) then some (MP !=0) else (some false) else (some false)).bind fun acE=>bif acE then some false else ((bif (iB.Kind==5) then (MO qV).bind fun aiq=>some aiq else (some false)).bind fun Vn=>bif Vn then Vm N dJ (a0,kY,iB,Vn) else ((bif (iB.Kind==58) then (MO qV).bind fun air=>some (!air) else (bif (iB.Kind==41) then (MO qV).bind fun ais=>some (!ais) else (some false))).bind fun YV=>Vm N dJ (a0,kY,iB,YV)))))
def xI (N:Nat):Nat->(LT×Int×Int)->Option Bool
  | 0,_=>none
  | n1+1,(a0,qV,kY)=>bif (decide<|kY < (a0.length:Int)) then (ix a0 kY).bind fun iB=>bif (decide<|(IntKind.wrap .i64<|kY+1) < (a0.length:Int)) then (ix a0<|IntKind.wrap .i64<|kY+1).bind fun acF=>JH N (xI N n1) (a0,qV,kY,iB,acF.Kind) else (JH N (xI N n1) (a0,qV,kY,iB,0)) else (some true)
def Gr (N:Nat) (a0:LT):Option Bool:=
  bif (decide<|(a0.length:Int) > 3000) then some false else (xI N N (a0,0,0))
def EB (a0:Int):Option Bool:=
  (bif (a0==32) then some true else (bif (a0==34) then some true else (some<|a0==30))).bind fun y1=>some y1
def EC (a0:Int):Option Bool:=
  (bif (a0==33) then some true else (bif (a0==35) then some true else (some<|a0==31))).bind fun y1=>some y1
def Gt (N:Nat) (dJ:(LT×Int×Int)->Option Int):(Int×LT×Int)->Option Int
  | (gI,a0,QM)=>bif (decide<|QM > 40) then some gI else (dJ (a0,QM,(IntKind.wrap .i64<|gI+1)))
def zi (N:Nat):Nat->(LT×Int×Int)->Option Int
  | 0,_=>none
  | n1+1,(a0,y93,gI)=>bif (decide<|gI < (a0.length:Int)) then (ix a0 gI).bind fun Vo=>(EB Vo.Kind).bind fun ait=>bif ait then Gt N (zi N n1) (gI,a0,(IntKind.wrap .i64<|y93+1)) else ((EC Vo.Kind).bind fun aiu=>bif aiu then Gt N (zi N n1) (gI,a0,(if 0 > (IntKind.wrap .i64<|y93 - 1) then 0 else (IntKind.wrap .i64<|y93 - 1))) else (Gt N (zi N n1) (gI,a0,y93))) else (some<|-1)
def Vp (N:Nat) (a0:LT):Option Int:=
  zi N N (a0,0,0)
def MQ (a0:LT) (a1:Int):Option Int:=
  bif (decide<|a1 < (a0.length:Int)) then (ix a0 a1).bind fun e4=>some e4.At else (bif ((a0.length:Int)==0) then some 0 else ((ix a0<|IntKind.wrap .i64<|(a0.length:Int) - 1).bind fun e7=>(ix a0<|IntKind.wrap .i64<|(a0.length:Int) - 1).bind fun e8=>some<|IntKind.wrap .i64<|e7.At+(e8.Text.length:Int)))
def MR (N:Nat) (a0:LT):Option iU:=
  (Gr N a0).bind fun r4=>bif (!r4) then some (⟨2,0⟩:iU) else ((Vp N a0).bind fun bM=>bif (decide<|bM>=0) then (MQ a0 bM).bind fun dG=>some (⟨4,dG⟩:iU) else (some (⟨0,0⟩:iU)))
def dS (pa:LT) (pb:Int) (pc:Bool) (p1:aT):Option Int:=
  bif (decide<|pb>=(pa.length:Int)) then some 0 else ((ix pa pb).bind fun e2=>some e2.Kind)
def ED:Bool->Option Bool
  | y2=>bif y2 then some true else (some false)
def Gu (a0:Int):Option Bool:=
  bif (a0==3) then ED (a0==3) else (bif (a0==4) then ED (a0==4) else (bif (a0==6) then ED (a0==6) else (bif (a0==7) then ED (a0==7) else (bif (a0==8) then ED (a0==8) else (bif (a0==32) then ED (a0==32) else (ED<|a0==68))))))
def Gv (pa:LT) (pb:Int) (pc:Bool) (p1:aT):Option (bQ×Bool):=
  some ((⟨(⟨0,0,[],[],[]⟩:aD),false⟩:bQ),true)
def YW (N:Nat) (pa:LT) (pb:Int) (pc:Bool) (p1:aT):Unit->Option Bool
  | _=>some false
def xJ (N:Nat) (pa:LT) (pb:Int) (pc:Bool) (p1:aT) (xq:(LT×Int×Int)->Option Bool):(LT×Int×Int)->Option Bool
  | (ng,tO,Gw)=>bif (decide<|Gw<=0) then YW N pa pb pc p1 () else (xq (ng,Gw,(IntKind.wrap .i64<|tO+1)))
def oL (N:Nat) (pa:LT) (pb:Int) (pc:Bool) (p1:aT):Nat->(LT×Int×Int)->Option Bool
  | 0,_=>none
  | n2+1,(ng,CV,tO)=>bif (decide<|tO < (ng.length:Int)) then (ix ng tO).bind fun QN=>(EB QN.Kind).bind fun aiv=>bif aiv then xJ N pa pb pc p1 (oL N pa pb pc p1 n2) (ng,tO,(IntKind.wrap .i64<|CV+1)) else ((EC QN.Kind).bind fun aiw=>bif aiw then xJ N pa pb pc p1 (oL N pa pb pc p1 n2) (ng,tO,(IntKind.wrap .i64<|CV - 1)) else ((bif (QN.Kind==36) then some (CV==1) else (some false)).bind fun y160=>bif y160 then some true else (xJ N pa pb pc p1 (oL N pa pb pc p1 n2) (ng,tO,CV)))) else (YW N pa pb pc p1 ())
def Ab (N:Nat) (pa:LT) (pb:Int) (pc:Bool) (p1:aT):Option Bool:=
  (cut pa pb (pa.length:Int)).bind fun ng=>oL N pa pb pc p1 N (ng,0,0)
def JI (N:Nat) (pa:LT) (pc:Bool) (dJ:(Int×aT)->Option (Int×aT)):(Int×aT)->Option (Int×aT)
  | (iE,gM)=>dJ ((IntKind.wrap .i64<|iE+1),gM)
def xK (N:Nat) (pa:LT) (pc:Bool):Nat->(Int×aT)->Option (Int×aT)
  | 0,_=>none
  | n1+1,(iE,fJ)=>bif (!pc) then (dS pa iE pc fJ).bind fun r39=>bif (r39==1) then JI N pa pc (xK N pa pc n1) (iE,fJ) else (bif (r39==2) then (ix pa iE).bind fun e42=>(app 16 fJ [e42.Text]).bind fun x43=>JI N pa pc (xK N pa pc n1) (iE,x43) else (some (iE,fJ))) else (some (iE,fJ))
def Gx (N:Nat) (pa:LT) (pb:Int) (pc:Bool) (p1:aT):Option (Int×aT):=
  xK N pa pc N (pb,p1)
def uJ (a1:Int) (pa:LT) (pb:Int) (pc:Bool) (p1:aT):Option (Bool×Int×Bool):=
  (bif pc then some true else ((dS pa pb pc p1).bind fun r6=>some<|r6 !=a1)).bind fun y5=>bif y5 then some (false,pb,true) else (some (true,(IntKind.wrap .i64<|pb+1),pc))
def xL (pa:LT) (pb:Int) (pc:Bool) (p1:aT):Option (LU×Int):=
  (ix pa pb).bind fun e2=>some (e2.Text,(IntKind.wrap .i64<|pb+1))
def vG (a0:Int) (a1:bQ) (a2:bQ):Option bQ:=
  some (⟨(⟨12,a0,[],[],[a1.tree,a2.tree]⟩:aD),false⟩:bQ)
def vH (pa:LT) (pb:Int) (pc:Bool) (p1:aT):Option (LU×Int×Bool):=
  (bif pc then some true else ((dS pa pb pc p1).bind fun r6=>some<|r6 !=6)).bind fun y5=>bif y5 then some ([],pb,true) else ((xL pa pb pc p1).bind fun r8=>some (r8.1,r8.2,pc))
structure eX where
  vI:LT->Int->Bool->aT->Option T1
  zk:LT->Int->Bool->aT->Option T1
  lV:LT->Int->Bool->aT->Option T1
  BM:LT->Int->Bool->aT->Option T1
  tQ:LT->Int->Bool->aT->Option T1
  xM:LT->Int->Bool->aT->Option T1
  xO:bH->LT->Int->Bool->aT->Option T1
  om:bH->LT->Int->Bool->aT->Option T1
  vJ:bH->LT->Int->Bool->aT->Option T1
  vK:bH->LT->Int->Bool->aT->Option T1
  uK:bH->LT->Int->Bool->aT->Option T1
  uL:bH->LT->Int->Bool->aT->Option T1
  xP:bH->LT->Int->Bool->aT->Option T1
  EF:bH->LT->Int->Bool->aT->Option (LS×Int×Bool×aT)
  xQ:Int->LT->Int->Bool->aT->Option (LS×Int×Bool×aT)
  vL:bH->LT->Int->Bool->aT->Option T1
  vM:bH->LT->Int->Bool->aT->Option T1
  xR:bH->LT->Int->Bool->aT->Option T1
  oM:bH->LT->Int->Bool->aT->Option T1
  ou:bH->LT->Int->Bool->aT->Option T1
def QO (N:Nat) (R:eX) (pa:LT):((LU×Int)×Int×Int×Bool×LS×aT)->Option T1
  | (r2,y7,y8,y9,iZ,dY)=>some ((⟨(⟨y7,0,r2.1,[],iZ⟩:aD),true⟩:bQ),y8,y9,dY)
def CW (N:Nat) (R:eX) (pa:LT) (pb:Int) (pc:Bool) (p1:aT):Option T1:=
  (xL pa pb pc p1).bind fun r2=>(dS pa r2.2 pc p1).bind fun BD=>bif (BD==34) then (R.xQ 35 pa (IntKind.wrap .i64<|r2.2+1) pc p1).bind fun fD=>QO N R pa (r2,5,fD.2.1,fD.2.2.1,fD.1,fD.2.2.2) else (QO N R pa (r2,1,r2.2,pc,[],p1))
def QS (N:Nat) (R:eX) (pa:LT):(Int×(LU×Int)×Int×Bool×LS×aT)->Option T1
  | (qW,fT,oI,xS,vO,lT)=>some ((⟨(⟨qW,0,fT.1,[],vO⟩:aD),false⟩:bQ),oI,xS,lT)
def EG (N:Nat) (R:eX) (pa:LT):((LU×Int)×Bool×aT×Int)->Option T1
  | (fT,pc,p1,qW)=>(uJ 32 pa fT.2 pc p1).bind fun zf=>bif zf.1 then (R.xQ 33 pa zf.2.1 zf.2.2 p1).bind fun Bt=>QS N R pa (qW,fT,Bt.2.1,Bt.2.2.1,Bt.1,Bt.2.2.2) else (QS N R pa (qW,fT,zf.2.1,zf.2.2,[],p1))
def Ac (N:Nat) (R:eX) (pa:LT):(Int×Int×Bool×aT×Bool)->Option T1
  | (kC,pb,pc,p1,uE)=>bif uE then (xL pa pb pc p1).bind fun fT=>bif (kC==8) then (bif (fT.1==[108,101,110,103,116,104]) then (dS pa fT.2 pc p1).bind fun zl=>some (zl !=32) else (some false)).bind fun JJ=>bif JJ then some ((⟨(⟨8,0,fT.1,[],[]⟩:aD),false⟩:bQ),fT.2,pc,p1) else (EG N R pa (fT,pc,p1,8)) else (EG N R pa (fT,pc,p1,7)) else (bif (kC==32) then (R.ou (⟨false,false⟩:bH) pa (IntKind.wrap .i64<|pb+1) pc p1).bind fun jK=>(uJ 33 pa jK.2.1 jK.2.2.1 jK.2.2.2).bind fun CX=>some ((⟨jK.1.tree,false⟩:bQ),CX.2.1,CX.2.2,jK.2.2.2) else ((Gv pa pb pc p1).bind fun Ad=>some (Ad.1,pb,Ad.2,p1)))
def oN (N:Nat) (R:eX) (pa:LT) (pb:Int) (pc:Bool) (p1:aT):Option T1:=
  bif pc then some ((⟨(⟨0,0,[],[],[]⟩:aD),false⟩:bQ),pb,pc,p1) else ((dS pa pb pc p1).bind fun kC=>bif (kC==3) then (xL pa pb pc p1).bind fun kN=>some ((⟨(⟨2,0,kN.1,[],[]⟩:aD),false⟩:bQ),kN.2,pc,p1) else (bif (kC==4) then (xL pa pb pc p1).bind fun pO=>some ((⟨(⟨3,0,pO.1,[],[]⟩:aD),false⟩:bQ),pO.2,pc,p1) else (bif (kC==5) then (xL pa pb pc p1).bind fun sW=>some ((⟨(⟨4,0,sW.1,[],[]⟩:aD),false⟩:bQ),sW.2,pc,p1) else (bif (kC==6) then (R.vI pa pb pc p1).bind fun xC=>some (xC.1,xC.2.1,xC.2.2.1,xC.2.2.2) else (bif (kC==7) then Ac N R pa (kC,pb,pc,p1,(kC==7)) else (Ac N R pa (kC,pb,pc,p1,(kC==8))))))))
def JK (N:Nat) (R:eX) (pa:LT):(Int×Int×LU×LU×LS×Bool×Int×Bool×aT)->Option T1
  | (eH,y20,y21,y22,y23,y24,y25,qM,y27)=>some ((⟨(⟨6,0,[],[],[(⟨eH,y20,y21,y22,y23⟩:aD)]⟩:aD),true⟩:bQ),y25,qM,y27)
def rP (N:Nat) (R:eX) (pa:LT) (pb:Int) (pc:Bool) (p1:aT):Option T1:=
  (bif pc then some true else ((dS pa pb pc p1).bind fun r8=>some<|r8 !=68)).bind fun y7=>bif y7 then (R.zk pa pb pc p1).bind fun bM=>some (bM.1,bM.2.1,bM.2.2.1,bM.2.2.2) else ((dS pa (IntKind.wrap .i64<|pb+1) pc p1).bind fun pV=>(xE pV).bind fun zZ=>bif zZ then (R.tQ pa (IntKind.wrap .i64<|pb+1) pc p1).bind fun fC=>JK N R pa (fC.1.tree.kind,fC.1.tree.op,fC.1.tree.text,fC.1.tree.other,fC.1.tree.kids,fC.1.target,fC.2.1,fC.2.2.1,fC.2.2.2) else ((R.lV pa (IntKind.wrap .i64<|pb+1) pc p1).bind fun jR=>JK N R pa (jR.1.tree.kind,jR.1.tree.op,jR.1.tree.text,jR.1.tree.other,jR.1.tree.kids,jR.1.target,jR.2.1,jR.2.2.1,jR.2.2.2)))
def Vq (N:Nat) (R:eX) (pa:LT):(Int×Bool×aT)->Option T1
  | (pb,pc,p1)=>(Gv pa pb pc p1).bind fun bM=>some (bM.1,pb,bM.2,p1)
def Ae (N:Nat) (R:eX) (pa:LT) (pb:Int) (pc:Bool) (p1:aT):Option T1:=
  bif pc then Vq N R pa (pb,pc,p1) else ((dS pa pb pc p1).bind fun dG=>bif (dG==68) then (R.lV pa pb pc p1).bind fun bP=>some (bP.1,bP.2.1,bP.2.2.1,bP.2.2.2) else ((dS pa pb pc p1).bind fun r16=>bif (r16==6) then (R.vI pa pb pc p1).bind fun iq=>some (iq.1,iq.2.1,iq.2.2.1,iq.2.2.2) else (Vq N R pa (pb,pc,p1))))
def Gy (N:Nat) (R:eX) (pa:LT) (pb:Int) (pc:Bool) (p1:aT):Option T1:=
  (dS pa pb pc p1).bind fun r2=>(R.BM pa (IntKind.wrap .i64<|pb+1) pc p1).bind fun r4=>some ((⟨(⟨9,r2,[],[],[r4.1.tree]⟩:aD),false⟩:bQ),r4.2.1,r4.2.2.1,r4.2.2.2)
def Af (N:Nat) (R:eX) (pa:LT) (pb:Int) (pc:Bool) (p1:aT):Option T1:=
  (bif (!pc) then (dS pa pb pc p1).bind fun fM=>(xE fM).bind fun dG=>some dG else (some false)).bind fun iZ=>bif iZ then (R.tQ pa pb pc p1).bind fun bP=>some (bP.1,bP.2.1,bP.2.2.1,bP.2.2.2) else ((R.lV pa pb pc p1).bind fun r16=>(bif r16.2.2.1 then some true else (bif (!r16.1.target) then some true else ((dS pa r16.2.1 r16.2.2.1 r16.2.2.2).bind fun wV=>(xE wV).bind fun jr=>some<|!jr))).bind fun y24=>bif y24 then some (r16.1,r16.2.1,r16.2.2.1,r16.2.2.2) else ((dS pa r16.2.1 r16.2.2.1 r16.2.2.2).bind fun jC=>some ((⟨(⟨10,jC,[],[],[r16.1.tree]⟩:aD),false⟩:bQ),(IntKind.wrap .i64<|r16.2.1+1),r16.2.2.1,r16.2.2.2)))
def CY (N:Nat) (R:eX) (a1:bH) (pa:LT) (pb:Int) (pc:Bool) (p1:aT):Option T1:=
  (R.xM pa pb pc p1).bind fun r2=>(bif r2.2.2.1 then some true else ((dS pa r2.2.1 r2.2.2.1 r2.2.2.2).bind fun r8=>some<|r8 !=60)).bind fun y7=>bif y7 then some (r2.1,r2.2.1,r2.2.2.1,r2.2.2.2) else ((R.om a1 pa (IntKind.wrap .i64<|r2.2.1+1) r2.2.2.1 r2.2.2.2).bind fun fM=>(vG 60 r2.1 fM.1).bind fun dG=>some (dG,fM.2.1,fM.2.2.1,fM.2.2.2))
def Ag (N:Nat) (R:eX) (a1:bH) (pa:LT) (pb:Int) (pc:Bool) (p1:aT):Option T1:=
  (dS pa pb pc p1).bind fun r2=>(bif pc then some true else (bif (r2 !=55) then bif (r2 !=56) then some (r2 !=61) else (some false) else (some false))).bind fun y6=>bif y6 then (R.xO a1 pa pb pc p1).bind fun r8=>some (r8.1,r8.2.1,r8.2.2.1,r8.2.2.2) else ((R.om a1 pa (IntKind.wrap .i64<|pb+1) pc p1).bind fun bM=>some ((⟨(⟨11,r2,[],[],[bM.1.tree]⟩:aD),false⟩:bQ),bM.2.1,bM.2.2.1,bM.2.2.2))
def vP (N:Nat) (R:eX) (pa:LT):Nat->(bH×Int×Bool×Int×Int×LU×LU×LS×Bool×aT)->Option T1
  | 0,_=>none
  | n1+1,(a1,jg,jA,pW,pX,ni,y90,y91,iN,y93)=>(bif (!jA) then (dS pa jg jA y93).bind fun CZ=>(CS CZ).bind fun Vr=>some (Vr==10) else (some false)).bind fun EH=>bif EH then (dS pa jg jA y93).bind fun MS=>(R.om a1 pa (IntKind.wrap .i64<|jg+1) jA y93).bind fun nM=>(vG MS (⟨(⟨pW,pX,ni,y90,y91⟩:aD),iN⟩:bQ) nM.1).bind fun kX=>(vP N R pa n1) (a1,nM.2.1,nM.2.2.1,kX.tree.kind,kX.tree.op,kX.tree.text,kX.tree.other,kX.tree.kids,kX.target,nM.2.2.2) else (some ((⟨(⟨pW,pX,ni,y90,y91⟩:aD),iN⟩:bQ),jg,jA,y93))
def MU (N:Nat) (R:eX) (a1:bH) (pa:LT) (pb:Int) (pc:Bool) (p1:aT):Option T1:=
  (R.om a1 pa pb pc p1).bind fun r2=>vP N R pa N (a1,r2.2.1,r2.2.2.1,r2.1.tree.kind,r2.1.tree.op,r2.1.tree.text,r2.1.tree.other,r2.1.tree.kids,r2.1.target,r2.2.2.2)
def vQ (N:Nat) (R:eX) (pa:LT):Nat->(bH×Int×Bool×Int×Int×LU×LU×LS×Bool×aT)->Option T1
  | 0,_=>none
  | n1+1,(a1,jg,jA,pW,pX,ni,y90,y91,iN,y93)=>(bif (!jA) then (dS pa jg jA y93).bind fun CZ=>(CS CZ).bind fun Vr=>some (Vr==9) else (some false)).bind fun EH=>bif EH then (dS pa jg jA y93).bind fun MS=>(R.vJ a1 pa (IntKind.wrap .i64<|jg+1) jA y93).bind fun nM=>(vG MS (⟨(⟨pW,pX,ni,y90,y91⟩:aD),iN⟩:bQ) nM.1).bind fun kX=>(vQ N R pa n1) (a1,nM.2.1,nM.2.2.1,kX.tree.kind,kX.tree.op,kX.tree.text,kX.tree.other,kX.tree.kids,kX.target,nM.2.2.2) else (some ((⟨(⟨pW,pX,ni,y90,y91⟩:aD),iN⟩:bQ),jg,jA,y93))
def MV (N:Nat) (R:eX) (a1:bH) (pa:LT) (pb:Int) (pc:Bool) (p1:aT):Option T1:=
  (R.vJ a1 pa pb pc p1).bind fun r2=>vQ N R pa N (a1,r2.2.1,r2.2.2.1,r2.1.tree.kind,r2.1.tree.op,r2.1.tree.text,r2.1.tree.other,r2.1.tree.kids,r2.1.target,r2.2.2.2)
def vR (N:Nat) (R:eX) (pa:LT):Nat->(bH×Int×Bool×Int×Int×LU×LU×LS×Bool×aT)->Option T1
  | 0,_=>none
  | n1+1,(a1,lF,EI,Gz,GA,xA,GD,Ah,zm,jg)=>(bif (!EI) then (dS pa lF EI jg).bind fun Vs=>(Gu Vs).bind fun aix=>some aix else (some false)).bind fun acH=>bif acH then (R.vK a1 pa lF EI jg).bind fun BN=>(vG 99 (⟨(⟨Gz,GA,xA,GD,Ah⟩:aD),zm⟩:bQ) BN.1).bind fun vS=>(vR N R pa n1) (a1,BN.2.1,BN.2.2.1,vS.tree.kind,vS.tree.op,vS.tree.text,vS.tree.other,vS.tree.kids,vS.target,BN.2.2.2) else (some ((⟨(⟨Gz,GA,xA,GD,Ah⟩:aD),zm⟩:bQ),lF,EI,jg))
def MW (N:Nat) (R:eX) (a1:bH) (pa:LT) (pb:Int) (pc:Bool) (p1:aT):Option T1:=
  (R.vK a1 pa pb pc p1).bind fun r2=>vR N R pa N (a1,r2.2.1,r2.2.2.1,r2.1.tree.kind,r2.1.tree.op,r2.1.tree.text,r2.1.tree.other,r2.1.tree.kids,r2.1.target,r2.2.2.2)
def GH (N:Nat) (R:eX) (a1:bH) (pa:LT) (pb:Int) (pc:Bool) (p1:aT):Option T1:=
  (R.uK a1 pa pb pc p1).bind fun r2=>(bif r2.2.2.1 then some true else ((dS pa r2.2.1 r2.2.2.1 r2.2.2.2).bind fun bP=>(CS bP).bind fun fD=>bif (fD !=7) then some true else (bif a1.bX then (dS pa r2.2.1 r2.2.2.1 r2.2.2.2).bind fun r16=>some (r16==62) else (some false)))).bind fun y13=>bif y13 then some (r2.1,r2.2.1,r2.2.2.1,r2.2.2.2) else ((dS pa r2.2.1 r2.2.2.1 r2.2.2.2).bind fun iq=>(R.uK a1 pa (IntKind.wrap .i64<|r2.2.1+1) r2.2.2.1 r2.2.2.2).bind fun bT=>(vG iq r2.1 bT.1).bind fun jq=>some (jq,bT.2.1,bT.2.2.1,bT.2.2.2))
def GI (N:Nat) (R:eX) (a1:bH) (pa:LT) (pb:Int) (pc:Bool) (p1:aT):Option T1:=
  (R.uL a1 pa pb pc p1).bind fun r2=>(bif r2.2.2.1 then some true else ((dS pa r2.2.1 r2.2.2.1 r2.2.2.2).bind fun fM=>bif (fM !=67) then (dS pa r2.2.1 r2.2.2.1 r2.2.2.2).bind fun dG=>some (dG !=46) else (some false))).bind fun iZ=>bif iZ then some (r2.1,r2.2.1,r2.2.2.1,r2.2.2.2) else ((dS pa r2.2.1 r2.2.2.1 r2.2.2.2).bind fun bP=>(R.uL a1 pa (IntKind.wrap .i64<|r2.2.1+1) r2.2.2.1 r2.2.2.2).bind fun qm=>(vG bP r2.1 qm.1).bind fun iq=>some (iq,qm.2.1,qm.2.2.1,qm.2.2.2))
def Vt (N:Nat) (R:eX) (pa:LT):(LS×Int×Bool×aT)->Option (LS×Int×Bool×aT)
  | (YX,YZ,uE,Za)=>some (YX,YZ,uE,Za)
def BO (N:Nat) (R:eX) (pa:LT):Nat->(bH×Int×Bool×LS×aT)->Option (LS×Int×Bool×aT)
  | 0,_=>none
  | n2+1,(a1,lT,Da,nL,iM)=>bif (!Da) then (R.ou a1 pa lT Da iM).bind fun iO=>(app 72 nL [iO.1.tree]).bind fun x84=>(bif iO.2.2.1 then some true else ((dS pa iO.2.1 iO.2.2.1 iO.2.2.2).bind fun Jf=>some<|Jf !=36)).bind fun ni=>bif ni then Vt N R pa (x84,iO.2.1,iO.2.2.1,iO.2.2.2) else (bif ((x84.length:Int)==6) then Vt N R pa (x84,iO.2.1,true,iO.2.2.2) else ((Gx N pa (IntKind.wrap .i64<|iO.2.1+1) iO.2.2.1 iO.2.2.2).bind fun Jg=>(BO N R pa n2) (a1,Jg.1,iO.2.2.1,x84,Jg.2))) else (Vt N R pa (nL,lT,Da,iM))
def Zb (N:Nat) (R:eX) (a1:bH) (pa:LT) (pb:Int) (pc:Bool) (p1:aT):Option (LS×Int×Bool×aT):=
  BO N R pa N (a1,pb,pc,[],p1)
def Db (N:Nat) (R:eX) (a1:Int) (pa:LT) (pb:Int) (pc:Bool) (p1:aT):Option (LS×Int×Bool×aT):=
  ((dS pa pb pc p1).bind fun r6=>bif (r6==a1) then some (a1==33) else (some false)).bind fun y5=>bif y5 then some ([],(IntKind.wrap .i64<|pb+1),pc,p1) else ((R.EF (⟨false,false⟩:bH) pa pb pc p1).bind fun r8=>(uJ a1 pa r8.2.1 r8.2.2.1 r8.2.2.2).bind fun bM=>some (r8.1,bM.2.1,bM.2.2,r8.2.2.2))
def rQ (N:Nat) (R:eX) (pa:LT):Nat->(bH×(LS×Int×Bool×aT)×Int×Bool×LU×LS)->Option T1
  | 0,_=>none
  | n1+1,(a1,bT,y91,iN,y93,gI)=>(bif (!iN) then (dS pa y91 iN bT.2.2.2).bind fun rR=>bif (rR==24) then some (!a1.bS) else (some false) else (some false)).bind fun acI=>bif acI then (vH pa (IntKind.wrap .i64<|y91+1) iN bT.2.2.2).bind fun MX=>(rQ N R pa n1) (a1,bT,MX.2.1,MX.2.2,MX.1,[(⟨13,0,y93,[],gI⟩:aD)]) else (some ((⟨(⟨13,0,y93,[],gI⟩:aD),false⟩:bQ),y91,iN,bT.2.2.2))
def tT (N:Nat) (R:eX) (pa:LT):Nat->(bH×T1×Int×Bool×LU×LS)->Option T1
  | 0,_=>none
  | n2+1,(a1,dM,zn,xU,tV,qX)=>(bif (!xU) then (dS pa zn xU dM.2.2.2).bind fun aiy=>bif (aiy==24) then some (!a1.bS) else (some false) else (some false)).bind fun acJ=>bif acJ then (vH pa (IntKind.wrap .i64<|zn+1) xU dM.2.2.2).bind fun BI=>(tT N R pa n2) (a1,dM,BI.2.1,BI.2.2,BI.1,[(⟨13,0,tV,[],qX⟩:aD)]) else (some ((⟨(⟨13,0,tV,[],qX⟩:aD),false⟩:bQ),zn,xU,dM.2.2.2))
def Ai (N:Nat) (R:eX) (a1:bH) (pa:LT) (pb:Int) (pc:Bool) (p1:aT):Option T1:=
  (bif (!pc) then (dS pa pb pc p1).bind fun iq=>bif (iq==32) then bif (!a1.bS) then (Ab N pa pb pc p1).bind fun kV=>some kV else (some false) else (some false) else (some false)).bind fun jB=>bif jB then (R.xQ 33 pa (IntKind.wrap .i64<|pb+1) pc p1).bind fun bT=>(bif (!bT.2.2.1) then (dS pa bT.2.1 bT.2.2.1 bT.2.2.2).bind fun jL=>some (jL !=24) else (some false)).bind fun y23=>bif y23 then (Gv pa bT.2.1 bT.2.2.1 bT.2.2.2).bind fun jr=>some (jr.1,bT.2.1,jr.2,bT.2.2.2) else ((bif (!bT.2.2.1) then (dS pa bT.2.1 bT.2.2.1 bT.2.2.2).bind fun mE=>bif (mE==24) then some (!a1.bS) else (some false) else (some false)).bind fun oO=>bif oO then (Zc bT.1).bind fun b80=>(vH pa (IntKind.wrap .i64<|bT.2.1+1) bT.2.2.1 bT.2.2.2).bind fun tX=>rQ N R pa N (a1,bT,tX.2.1,tX.2.2,tX.1,bT.1) else (some ((⟨(⟨0,0,[],[],[]⟩:aD),false⟩:bQ),bT.2.1,bT.2.2.1,bT.2.2.2))) else ((R.xP a1 pa pb pc p1).bind fun dM=>(bif (!dM.2.2.1) then (dS pa dM.2.1 dM.2.2.1 dM.2.2.2).bind fun aiz=>bif (aiz==24) then some (!a1.bS) else (some false) else (some false)).bind fun CK=>bif CK then (vH pa (IntKind.wrap .i64<|dM.2.1+1) dM.2.2.1 dM.2.2.2).bind fun EJ=>tT N R pa N (a1,dM,EJ.2.1,EJ.2.2,EJ.1,[dM.1.tree]) else (some (dM.1,dM.2.1,dM.2.2.1,dM.2.2.2)))
def vT (N:Nat) (R:eX) (pa:LT):Nat->(bH×Int×Bool×Int×Int×LU×LU×LS×Bool×aT)->Option T1
  | 0,_=>none
  | n1+1,(a1,rT,nN,gW,iL,kM,nZ,oO,rU,lF)=>(bif (!nN) then (dS pa rT nN lF).bind fun nV=>some (nV==45) else (some false)).bind fun MZ=>bif MZ then (Gx N pa (IntKind.wrap .i64<|rT+1) nN lF).bind fun Dc=>(R.vL a1 pa Dc.1 nN Dc.2).bind fun qw=>(vG 45 (⟨(⟨gW,iL,kM,nZ,oO⟩:aD),rU⟩:bQ) qw.1).bind fun mG=>(vT N R pa n1) (a1,qw.2.1,qw.2.2.1,mG.tree.kind,mG.tree.op,mG.tree.text,mG.tree.other,mG.tree.kids,mG.target,qw.2.2.2) else (some ((⟨(⟨gW,iL,kM,nZ,oO⟩:aD),rU⟩:bQ),rT,nN,lF))
def Na (N:Nat) (R:eX) (a1:bH) (pa:LT) (pb:Int) (pc:Bool) (p1:aT):Option T1:=
  (R.vL a1 pa pb pc p1).bind fun r2=>vT N R pa N (a1,r2.2.1,r2.2.2.1,r2.1.tree.kind,r2.1.tree.op,r2.1.tree.text,r2.1.tree.other,r2.1.tree.kids,r2.1.target,r2.2.2.2)
def vU (N:Nat) (R:eX) (pa:LT):Nat->(bH×Int×Bool×Int×Int×LU×LU×LS×Bool×aT)->Option T1
  | 0,_=>none
  | n1+1,(a1,rT,nN,gW,iL,kM,nZ,oO,rU,lF)=>(bif (!nN) then (dS pa rT nN lF).bind fun nV=>some (nV==44) else (some false)).bind fun MZ=>bif MZ then (Gx N pa (IntKind.wrap .i64<|rT+1) nN lF).bind fun Dc=>(R.vM a1 pa Dc.1 nN Dc.2).bind fun qw=>(vG 44 (⟨(⟨gW,iL,kM,nZ,oO⟩:aD),rU⟩:bQ) qw.1).bind fun mG=>(vU N R pa n1) (a1,qw.2.1,qw.2.2.1,mG.tree.kind,mG.tree.op,mG.tree.text,mG.tree.other,mG.tree.kids,mG.target,qw.2.2.2) else (some ((⟨(⟨gW,iL,kM,nZ,oO⟩:aD),rU⟩:bQ),rT,nN,lF))
def Nb (N:Nat) (R:eX) (a1:bH) (pa:LT) (pb:Int) (pc:Bool) (p1:aT):Option T1:=
  (R.vM a1 pa pb pc p1).bind fun r2=>vU N R pa N (a1,r2.2.1,r2.2.2.1,r2.1.tree.kind,r2.1.tree.op,r2.1.tree.text,r2.1.tree.other,r2.1.tree.kids,r2.1.target,r2.2.2.2)
def Df (N:Nat) (R:eX) (a1:bH) (pa:LT) (pb:Int) (pc:Bool) (p1:aT):Option T1:=
  (R.xR a1 pa pb pc p1).bind fun r2=>(bif r2.2.2.1 then some true else ((dS pa r2.2.1 r2.2.2.1 r2.2.2.2).bind fun r8=>some<|r8 !=65)).bind fun y7=>bif y7 then some (r2.1,r2.2.1,r2.2.2.1,r2.2.2.2) else ((R.oM a1 pa (IntKind.wrap .i64<|r2.2.1+1) r2.2.2.1 r2.2.2.2).bind fun bM=>(uJ 66 pa bM.2.1 bM.2.2.1 bM.2.2.2).bind fun dG=>bif dG.2.2 then some ((⟨(⟨0,0,[],[],[]⟩:aD),false⟩:bQ),dG.2.1,dG.2.2,bM.2.2.2) else ((R.oM a1 pa dG.2.1 dG.2.2 bM.2.2.2).bind fun bP=>some ((⟨(⟨14,0,[],[],[r2.1.tree,bM.1.tree,bP.1.tree]⟩:aD),false⟩:bQ),bP.2.1,bP.2.2.1,bP.2.2.2)))
def Dh (N:Nat) (R:eX) (a1:bH) (pa:LT) (pb:Int) (pc:Bool) (p1:aT):Option T1:=
  (R.oM a1 pa pb pc p1).bind fun r2=>(bif r2.2.2.1 then some true else (bif (!r2.1.target) then some true else ((dS pa r2.2.1 r2.2.2.1 r2.2.2.2).bind fun fM=>(JB fM).bind fun dG=>some<|!dG))).bind fun iZ=>bif iZ then some (r2.1,r2.2.1,r2.2.2.1,r2.2.2.2) else ((dS pa r2.2.1 r2.2.2.1 r2.2.2.2).bind fun bP=>(R.ou a1 pa (IntKind.wrap .i64<|r2.2.1+1) r2.2.2.1 r2.2.2.2).bind fun r16=>some ((⟨(⟨15,bP,[],[],[r2.1.tree,r16.1.tree]⟩:aD),false⟩:bQ),r16.2.1,r16.2.2.1,r16.2.2.2))
def aJ:Nat->eX
  | 0=>⟨fun _ _ _ _=>none,fun _ _ _ _=>none,fun _ _ _ _=>none,fun _ _ _ _=>none,fun _ _ _ _=>none,fun _ _ _ _=>none,fun _ _ _ _ _=>none,fun _ _ _ _ _=>none,fun _ _ _ _ _=>none,fun _ _ _ _ _=>none,fun _ _ _ _ _=>none,fun _ _ _ _ _=>none,fun _ _ _ _ _=>none,fun _ _ _ _ _=>none,fun _ _ _ _ _=>none,fun _ _ _ _ _=>none,fun _ _ _ _ _=>none,fun _ _ _ _ _=>none,fun _ _ _ _ _=>none,fun _ _ _ _ _=>none⟩
  | N+1=>⟨fun pa pb pc p1=>CW N (aJ N) pa pb pc p1,fun pa pb pc p1=>oN N (aJ N) pa pb pc p1,fun pa pb pc p1=>rP N (aJ N) pa pb pc p1,fun pa pb pc p1=>Ae N (aJ N) pa pb pc p1,fun pa pb pc p1=>Gy N (aJ N) pa pb pc p1,fun pa pb pc p1=>Af N (aJ N) pa pb pc p1,fun a1 pa pb pc p1=>CY N (aJ N) a1 pa pb pc p1,fun a1 pa pb pc p1=>Ag N (aJ N) a1 pa pb pc p1,fun a1 pa pb pc p1=>MU N (aJ N) a1 pa pb pc p1,fun a1 pa pb pc p1=>MV N (aJ N) a1 pa pb pc p1,fun a1 pa pb pc p1=>MW N (aJ N) a1 pa pb pc p1,fun a1 pa pb pc p1=>GH N (aJ N) a1 pa pb pc p1,fun a1 pa pb pc p1=>GI N (aJ N) a1 pa pb pc p1,fun a1 pa pb pc p1=>Zb N (aJ N) a1 pa pb pc p1,fun a1 pa pb pc p1=>Db N (aJ N) a1 pa pb pc p1,fun a1 pa pb pc p1=>Ai N (aJ N) a1 pa pb pc p1,fun a1 pa pb pc p1=>Na N (aJ N) a1 pa pb pc p1,fun a1 pa pb pc p1=>Nb N (aJ N) a1 pa pb pc p1,fun a1 pa pb pc p1=>Df N (aJ N) a1 pa pb pc p1,fun a1 pa pb pc p1=>Dh N (aJ N) a1 pa pb pc p1⟩
def vI (N:Nat) (pa:LT) (pb:Int) (pc:Bool) (p1:aT):Option T1:=(aJ N).vI pa pb pc p1
def zk (N:Nat) (pa:LT) (pb:Int) (pc:Bool) (p1:aT):Option T1:=(aJ N).zk pa pb pc p1
def lV (N:Nat) (pa:LT) (pb:Int) (pc:Bool) (p1:aT):Option T1:=(aJ N).lV pa pb pc p1
def BM (N:Nat) (pa:LT) (pb:Int) (pc:Bool) (p1:aT):Option T1:=(aJ N).BM pa pb pc p1
def tQ (N:Nat) (pa:LT) (pb:Int) (pc:Bool) (p1:aT):Option T1:=(aJ N).tQ pa pb pc p1
def xM (N:Nat) (pa:LT) (pb:Int) (pc:Bool) (p1:aT):Option T1:=(aJ N).xM pa pb pc p1
def xO (N:Nat) (a1:bH) (pa:LT) (pb:Int) (pc:Bool) (p1:aT):Option T1:=(aJ N).xO a1 pa pb pc p1
def om (N:Nat) (a1:bH) (pa:LT) (pb:Int) (pc:Bool) (p1:aT):Option T1:=(aJ N).om a1 pa pb pc p1
def vJ (N:Nat) (a1:bH) (pa:LT) (pb:Int) (pc:Bool) (p1:aT):Option T1:=(aJ N).vJ a1 pa pb pc p1
def vK (N:Nat) (a1:bH) (pa:LT) (pb:Int) (pc:Bool) (p1:aT):Option T1:=(aJ N).vK a1 pa pb pc p1
def uK (N:Nat) (a1:bH) (pa:LT) (pb:Int) (pc:Bool) (p1:aT):Option T1:=(aJ N).uK a1 pa pb pc p1
def uL (N:Nat) (a1:bH) (pa:LT) (pb:Int) (pc:Bool) (p1:aT):Option T1:=(aJ N).uL a1 pa pb pc p1
def xP (N:Nat) (a1:bH) (pa:LT) (pb:Int) (pc:Bool) (p1:aT):Option T1:=(aJ N).xP a1 pa pb pc p1
def EF (N:Nat) (a1:bH) (pa:LT) (pb:Int) (pc:Bool) (p1:aT):Option (LS×Int×Bool×aT):=(aJ N).EF a1 pa pb pc p1
def xQ (N:Nat) (a1:Int) (pa:LT) (pb:Int) (pc:Bool) (p1:aT):Option (LS×Int×Bool×aT):=(aJ N).xQ a1 pa pb pc p1
def vL (N:Nat) (a1:bH) (pa:LT) (pb:Int) (pc:Bool) (p1:aT):Option T1:=(aJ N).vL a1 pa pb pc p1
def vM (N:Nat) (a1:bH) (pa:LT) (pb:Int) (pc:Bool) (p1:aT):Option T1:=(aJ N).vM a1 pa pb pc p1
def xR (N:Nat) (a1:bH) (pa:LT) (pb:Int) (pc:Bool) (p1:aT):Option T1:=(aJ N).xR a1 pa pb pc p1
def oM (N:Nat) (a1:bH) (pa:LT) (pb:Int) (pc:Bool) (p1:aT):Option T1:=(aJ N).oM a1 pa pb pc p1
def ou (N:Nat) (a1:bH) (pa:LT) (pb:Int) (pc:Bool) (p1:aT):Option T1:=(aJ N).ou a1 pa pb pc p1
def zo (N:Nat) (a1:aI) (pa:LT) (pb:Int) (pc:Bool) (p1:aT):Option T1:=
  (bif a1.eZ then (dS pa pb pc p1).bind fun fM=>(Gu fM).bind fun dG=>some (!dG) else (some false)).bind fun iZ=>bif iZ then (Gv pa pb pc p1).bind fun bP=>some (bP.1,pb,bP.2,p1) else (bif (a1.Level==1) then (ou N (⟨a1.aV,a1.aW⟩:bH) pa pb pc p1).bind fun qp=>some (qp.1,qp.2.1,qp.2.2.1,qp.2.2.2) else (bif (a1.Level==2) then (oM N (⟨a1.aV,a1.aW⟩:bH) pa pb pc p1).bind fun BJ=>some (BJ.1,BJ.2.1,BJ.2.2.1,BJ.2.2.2) else (bif (a1.Level==3) then (xR N (⟨a1.aV,a1.aW⟩:bH) pa pb pc p1).bind fun pQ=>some (pQ.1,pQ.2.1,pQ.2.2.1,pQ.2.2.2) else (bif (a1.Level==4) then (vM N (⟨a1.aV,a1.aW⟩:bH) pa pb pc p1).bind fun r64=>some (r64.1,r64.2.1,r64.2.2.1,r64.2.2.2) else (bif (a1.Level==5) then (vL N (⟨a1.aV,a1.aW⟩:bH) pa pb pc p1).bind fun Nc=>some (Nc.1,Nc.2.1,Nc.2.2.1,Nc.2.2.2) else (bif (a1.Level==6) then (xP N (⟨a1.aV,a1.aW⟩:bH) pa pb pc p1).bind fun zl=>some (zl.1,zl.2.1,zl.2.2.1,zl.2.2.2) else (bif (a1.Level==7) then (uL N (⟨a1.aV,a1.aW⟩:bH) pa pb pc p1).bind fun jK=>some (jK.1,jK.2.1,jK.2.2.1,jK.2.2.2) else (bif (a1.Level==8) then (uK N (⟨a1.aV,a1.aW⟩:bH) pa pb pc p1).bind fun CX=>some (CX.1,CX.2.1,CX.2.2.1,CX.2.2.2) else (bif (a1.Level==9) then (vK N (⟨a1.aV,a1.aW⟩:bH) pa pb pc p1).bind fun Ad=>some (Ad.1,Ad.2.1,Ad.2.2.1,Ad.2.2.2) else (bif (a1.Level==10) then (vJ N (⟨a1.aV,a1.aW⟩:bH) pa pb pc p1).bind fun mE=>some (mE.1,mE.2.1,mE.2.2.1,mE.2.2.2) else (bif (a1.Level==11) then (om N (⟨a1.aV,a1.aW⟩:bH) pa pb pc p1).bind fun Nf=>some (Nf.1,Nf.2.1,Nf.2.2.1,Nf.2.2.2) else (bif (a1.Level==12) then (xO N (⟨a1.aV,a1.aW⟩:bH) pa pb pc p1).bind fun Ng=>some (Ng.1,Ng.2.1,Ng.2.2.1,Ng.2.2.2) else (bif (a1.Level==13) then (xM N pa pb pc p1).bind fun tX=>some (tX.1,tX.2.1,tX.2.2.1,tX.2.2.2) else (bif (a1.Level==14) then (bif a1.jo then (dS pa pb pc p1).bind fun qN=>(xE qN).bind fun tC=>some tC else (some false)).bind fun iN=>bif iN then (tQ N pa pb pc p1).bind fun xB=>some (xB.1,xB.2.1,xB.2.2.1,xB.2.2.2) else ((lV N pa pb pc p1).bind fun tF=>some (tF.1,tF.2.1,tF.2.2.1,tF.2.2.2)) else ((zk N pa pb pc p1).bind fun tK=>some (tK.1,tK.2.1,tK.2.2.1,tK.2.2.2))))))))))))))))
structure Vu where
  zq:aD->Option Int
def JL (N:Nat) (R:Vu):Nat->(aD×Int×Int)->Option Int
  | 0,_=>none
  | n1+1,(a0,gM,y38)=>bif (decide<|y38 < (a0.kids.length:Int)) then (ix a0.kids y38).bind fun e54=>(R.zq e54).bind fun mW=>(JL N R n1) (a0,(IntKind.wrap .i64<|gM+mW),(IntKind.wrap .i64<|y38+1)) else (some gM)
def acK (N:Nat) (R:Vu) (a0:aD):Option Int:=
  JL N R N (a0,1,0)
def Nh:Nat->Vu
  | 0=>⟨fun _=>none⟩
  | N+1=>⟨fun a0=>acK N (Nh N) a0⟩
def zq (N:Nat) (a0:aD):Option Int:=(Nh N).zq a0
def QT (N:Nat) (a0:aD):Option iU:=
  (zq N a0).bind fun r6=>bif (decide<|r6 > 400) then some (⟨1,0⟩:iU) else ((tL N a0).bind fun r8=>bif (decide<|r8 > 40) then some (⟨4,0⟩:iU) else (some (⟨0,0⟩:iU)))
structure Vv where
  BP:aD->LN->Option LN
def JM (N:Nat) (R:Vv):Nat->(aD×Int×LN×(List Int))->Option LN
  | 0,_=>none
  | n1+1,(a0,xS,vO,lT)=>bif (decide<|xS < (a0.kids.length:Int)) then (ix a0.kids xS).bind fun Zd=>(R.BP Zd vO).bind fun QU=>(app 8 lT [(IntKind.wrap .i64<|(QU.length:Int) - 1)]).bind fun x88=>(JM N R n1) (a0,(IntKind.wrap .i64<|xS+1),QU,x88) else ((app 72 vO [(⟨a0.kind,a0.op,a0.text,a0.other,lT⟩:aG)]).bind fun x90=>some x90)
def Vw (N:Nat) (R:Vv) (a0:aD) (p0:LN):Option LN:=
  JM N R N (a0,0,p0,[])
def GJ:Nat->Vv
  | 0=>⟨fun _ _=>none⟩
  | N+1=>⟨fun a0 p0=>Vw N (GJ N) a0 p0⟩
def BP (N:Nat) (a0:aD) (p0:LN):Option LN:=(GJ N).BP a0 p0
def Ni (N:Nat) (a0:aD):Option LN:=
  (BP N a0 []).bind fun r2=>some r2
def BQ (N:Nat) (a0:LT) (a1:aI):Option (LN×Int×iU):=
  (MN a1).bind fun r4=>bif (!r4) then some ([],0,(⟨3,0⟩:iU)) else ((MR N a0).bind fun r8=>bif (!((r8.Kind==0)&&((r8.At==0)&&true))) then some ([],0,r8) else ((zo N a1 a0 0 false []).bind fun fM=>bif fM.2.2.1 then (MQ a0 fM.2.1).bind fun fD=>some ([],0,(⟨3,fD⟩:iU)) else ((QT N fM.1.tree).bind fun kV=>bif (!((kV.Kind==0)&&((kV.At==0)&&true))) then some ([],0,kV) else ((Ni N fM.1.tree).bind fun bT=>some (bT,fM.2.1,(⟨0,0⟩:iU))))))
def Nj (N:Nat) (a0:LT) (a1:aI):Option (LN×Bool):=
  (BQ N a0 a1).bind fun r2=>(bif ((r2.2.2.Kind==0)&&((r2.2.2.At==0)&&true)) then some (r2.2.1==(a0.length:Int)) else (some false)).bind fun y3=>some (r2.1,y3)
def JN (N:Nat):Nat->((List Int)×(List Int)×Int)->Option Bool
  | 0,_=>none
  | n1+1,(a0,a1,fq)=>bif (decide<|fq < (a0.length:Int)) then (ix a0 fq).bind fun e51=>(ix a1 fq).bind fun e52=>bif (e51 !=e52) then some false else ((JN N n1) (a0,a1,(IntKind.wrap .i64<|fq+1))) else (some true)
def Vx (N:Nat) (a0:List Int) (a1:List Int):Option Bool:=
  bif ((a0.length:Int) !=(a1.length:Int)) then some false else (JN N N (a0,a1,0))
def Ze (N:Nat) (a0:aG) (a1:aG):Option Bool:=
  (bif (a0.Kind==a1.Kind) then bif (a0.Op==a1.Op) then bif (a0.Text==a1.Text) then bif (a0.Other==a1.Other) then (Vx N a0.Kids a1.Kids).bind fun r3=>some r3 else (some false) else (some false) else (some false) else (some false)).bind fun y2=>some y2
def JO (N:Nat):Nat->(LN×LN×Int)->Option Bool
  | 0,_=>none
  | n1+1,(a1,a0,kD)=>bif (decide<|kD < (a0.length:Int)) then (ix a0 kD).bind fun Vy=>(ix a1 kD).bind fun vE=>(Ze N Vy vE).bind fun mE=>bif (!mE) then some false else ((JO N n1) (a1,a0,(IntKind.wrap .i64<|kD+1))) else (some true)
def Zf (N:Nat) (a0:LN) (a1:LN):Option Bool:=
  bif ((a0.length:Int) !=(a1.length:Int)) then some false else (JO N N (a1,a0,0))
def QV (N:Nat) (a0:LN) (a1:LN):Option Bool:=
  (Zf N a0 a1).bind fun r2=>some r2
def JQ (N:Nat) (a0:LT) (a1:LN) (a2:aI):Option Bool:=
  ((MK N a1).bind fun r9=>bif (!r9) then some true else (bif (decide<|(a0.length:Int) > 400) then some true else ((ML N a0).bind fun bM=>some bM))).bind fun y8=>bif y8 then some false else ((Nj N a0 a2).bind fun dG=>(bif dG.2 then (QV N dG.1 a1).bind fun fD=>some fD else (some false)).bind fun iE=>some iE)
def PE (a0:av) (a1:av):Option Bool:=
  bif (a0.Kind !=a1.Kind) then some false else (bif (!(a0.Text==a1.Text)) then some false else (bif (a0.At !=a1.At) then some false else (some true)))
def LB (N:Nat):Nat->(LT×LT×Int)->Option Bool
  | 0,_=>none
  | n1+1,(a0,a1,kD)=>bif (decide<|kD < (a0.length:Int)) then (ix a0 kD).bind fun vE=>(ix a1 kD).bind fun Aa=>(PE vE Aa).bind fun mE=>bif (!mE) then some false else ((LB N n1) (a0,a1,(IntKind.wrap .i64<|kD+1))) else (some true)
def Tj (N:Nat) (a0:LT) (a1:LT):Option Bool:=
  bif ((a0.length:Int) !=(a1.length:Int)) then some false else (LB N N (a0,a1,0))
def Lr (N:Nat):Nat->((List Int)×(List Int)×Int)->Option Bool
  | 0,_=>none
  | n1+1,(a0,a1,fq)=>bif (decide<|fq < (a0.length:Int)) then (ix a0 fq).bind fun e51=>(ix a1 fq).bind fun e52=>bif (e51 !=e52) then some false else ((Lr N n1) (a0,a1,(IntKind.wrap .i64<|fq+1))) else (some true)
def Tf (N:Nat) (a0:List Int) (a1:List Int):Option Bool:=
  bif ((a0.length:Int) !=(a1.length:Int)) then some false else (Lr N N (a0,a1,0))
def PK (N:Nat) (a0:aG) (a1:aG):Option Bool:=
  bif (a0.Kind !=a1.Kind) then some false else (bif (a0.Op !=a1.Op) then some false else (bif (!(a0.Text==a1.Text)) then some false else (bif (!(a0.Other==a1.Other)) then some false else ((Tf N a0.Kids a1.Kids).bind fun r4=>bif (!r4) then some false else (some true)))))
def LJ (N:Nat):Nat->(LN×LN×Int)->Option Bool
  | 0,_=>none
  | n1+1,(a0,a1,kD)=>bif (decide<|kD < (a0.length:Int)) then (ix a0 kD).bind fun vE=>(ix a1 kD).bind fun Aa=>(PK N vE Aa).bind fun mE=>bif (!mE) then some false else ((LJ N n1) (a0,a1,(IntKind.wrap .i64<|kD+1))) else (some true)
def Tp (N:Nat) (a0:LN) (a1:LN):Option Bool:=
  bif ((a0.length:Int) !=(a1.length:Int)) then some false else (LJ N N (a0,a1,0))
def Zg (N:Nat) (a0:LT) (a1:LN) (a2:aI):Option Bool:=
  (Ti N a0 1048576).bind fun r2=>bif (decide<|r2 < 0) then some true else ((Tm N a1 r2).bind fun r4=>bif (decide<|r4 < 0) then some true else ((Lx N a0).bind fun r9=>(LG N a1).bind fun bM=>(Tv a2).bind fun fM=>(UC N r9 bM fM).bind fun dG=>(Lx N a0).bind fun bP=>(LG N a1).bind fun r16=>(Tv a2).bind fun kV=>(JQ N bP r16 kV).bind fun mX=>bif (!(mX==dG)) then some false else ((Lx N a0).bind fun pR=>(Tj N bP pR).bind fun jC=>bif (!jC) then some false else ((LG N a1).bind fun jR=>(Tp N r16 jR).bind fun uH=>bif (!uH) then some false else (some true)))))
structure cZ where
 l:List aG
 held:Bool
 deriving DecidableEq,Inhabited
def QW (N:Nat) (dJ:((List aG)×Int×Int×(List aG))->Option (List aG)):Nat->((List aG)×Int×Int×(List aG)×aG×Int×(List Int))->Option (List aG)
 | 0,_=>none
 | n2+1,(a0,a1,JR,Vz,Nk,acL,aiA)=>(ix a0 JR).bind fun aqp=>bif (decide<|acL < (aqp.Kids.length:Int)) then (ix a0 JR).bind fun aqr=>(ix aqr.Kids acL).bind fun aqs=>(app 8 aiA [(IntKind.wrap .i64<|aqs+a1)]).bind fun aqt=>(QW N dJ n2) (a0,a1,JR,Vz,Nk,(IntKind.wrap .i64<|acL+1),aqt) else ((app 72 Vz [(⟨Nk.Kind,Nk.Op,Nk.Text,Nk.Other,aiA⟩:aG)]).bind fun aqu=>dJ (a0,a1,(IntKind.wrap .i64<|JR+1),aqu))
def JU (N:Nat):Nat->((List aG)×Int×Int×(List aG))->Option (List aG)
 | 0,_=>none
 | n1+1,(a0,a1,JR,Vz)=>bif (decide<|JR < (a0.length:Int)) then (ix a0 JR).bind fun Nk=>QW N (JU N n1) N (a0,a1,JR,Vz,Nk,0,[]) else (some Vz)
def Zh (N:Nat) (a0:List aG) (a1:Int):Option (List aG):=
 JU N N (a0,a1,0,[])
def Nl (N:Nat):Nat->((List<|List aG)×aG×Int×(List aG)×(List Int))->Option (List aG)
 | 0,_=>none
 | n1+1,(a1,a0,gW,iL,kM)=>bif (decide<|gW < (a1.length:Int)) then (ix a1 gW).bind fun aqv=>(Zh N aqv (iL.length:Int)).bind fun aqw=>(app 72 iL aqw).bind fun Bn=>(app 8 kM [(IntKind.wrap .i64<|(Bn.length:Int) - 1)]).bind fun aqx=>(Nl N n1) (a1,a0,(IntKind.wrap .i64<|gW+1),Bn,aqx) else ((app 72 iL [(⟨a0.Kind,a0.Op,a0.Text,a0.Other,kM⟩:aG)]).bind fun aqy=>some aqy)
def vV (N:Nat) (a0:aG) (a1:List (List aG)):Option (List aG):=
 Nl N N (a1,a0,0,[],[])
def VA (a0:List av) (a1:Int) (a2:Int):Option iU:=
 bif (decide<|a1 < (a0.length:Int)) then (ix a0 a1).bind fun e4=>some (⟨a2,e4.At⟩:iU) else (bif ((a0.length:Int)==0) then some (⟨a2,0⟩:iU) else ((ix a0<|IntKind.wrap .i64<|(a0.length:Int) - 1).bind fun e6=>some (⟨a2,(IntKind.wrap .i64<|e6.At+(e6.Text.length:Int))⟩:iU)))
def kP (aO:List av) (bD:Int) (bg:Bool) (p1:List av):Option Int:=
 bif (decide<|bD>=(aO.length:Int)) then some 0 else ((ix aO bD).bind fun e2=>some e2.Kind)
def Nn (a0:Int):Option Bool:=
 (bif (a0==51) then some true else (some<|a0==52)).bind fun y1=>some y1
def kQ (a1:Int) (aO:List av) (bD:Int) (bg:Bool) (p1:List av):Option (av×Int×Bool):=
 (bif bg then some true else ((kP aO bD bg p1).bind fun r6=>some<|r6 !=a1)).bind fun y5=>bif y5 then some ((⟨0,[],0⟩:av),bD,true) else ((ix aO bD).bind fun e8=>some (e8,(IntKind.wrap .i64<|bD+1),bg))
def oP (a0:aI) (a1:Int):Option aI:=
 some (⟨a1,false,a0.aV,a0.aW,false⟩:aI)
def acM (a0:cZ):Option aG:=
 bif ((a0.l.length:Int)==0) then some (⟨0,0,[],[],[]⟩:aG) else ((ix a0.l<|IntKind.wrap .i64<|(a0.l.length:Int) - 1).bind fun e2=>some e2)
def QX (a0:cZ):Option Bool:=
 (bif (!a0.held) then (acM a0).bind fun r4=>(FY r4.Kind).bind fun r5=>some r5 else (some false)).bind fun y3=>some y3
def rV (N:Nat) (a0:aG) (a1:List (List aG)):Option cZ:=
 (vV N a0 a1).bind fun r2=>some (⟨r2,false⟩:cZ)
def QY (N:Nat) (aO:List av) (bD:Int) (bg:Bool) (p1:List av) (dJ:(Int×Int)->Option Bool):(Int×Int)->Option Bool
 | (Di,acN)=>bif (acN==0) then some false else ((bif (acN==1) then (ix aO Di).bind fun e258=>some (e258.Kind==36) else (some false)).bind fun aqz=>bif aqz then some true else (dJ (acN,(IntKind.wrap .i64<|Di+1))))
def VB (N:Nat) (aO:List av) (bD:Int) (bg:Bool) (p1:List av) (dJ:(Int×Int)->Option Bool):(Int×Int)->Option Bool
 | (Di,aiB)=>(ix aO Di).bind fun e261=>(zW e261.Kind).bind fun aqA=>bif aqA then QY N aO bD bg p1 dJ (Di,(IntKind.wrap .i64<|aiB - 1)) else (QY N aO bD bg p1 dJ (Di,aiB))
def Np (N:Nat) (aO:List av) (bD:Int) (bg:Bool) (p1:List av):Nat->(Int×Int)->Option Bool
 | 0,_=>none
 | n1+1,(aiC,Di)=>bif (decide<|Di < (aO.length:Int)) then (ix aO Di).bind fun aqB=>(zX aqB.Kind).bind fun aqC=>bif aqC then VB N aO bD bg p1 (Np N aO bD bg p1 n1) (Di,(IntKind.wrap .i64<|aiC+1)) else (VB N aO bD bg p1 (Np N aO bD bg p1 n1) (Di,aiC)) else (some false)
def VD (N:Nat) (aO:List av) (bD:Int) (bg:Bool) (p1:List av):Option Bool:=
 (bif bg then some true else ((kP aO bD bg p1).bind fun r6=>some<|r6 !=32)).bind fun y5=>bif y5 then some false else (Np N aO bD bg p1 N (0,bD))
def Zi (N:Nat) (aO:List av) (bg:Bool) (dJ:(Int×(List av))->Option (Int×(List av))):(Int×(List av))->Option (Int×(List av))
 | (y24,JJ)=>dJ ((IntKind.wrap .i64<|y24+1),JJ)
def QZ (N:Nat) (aO:List av) (bg:Bool):Nat->(Int×(List av))->Option (Int×(List av))
 | 0,_=>none
 | n1+1,(y24,y25)=>(bif (!bg) then (kP aO y24 bg y25).bind fun nW=>bif (nW==1) then some true else ((kP aO y24 bg y25).bind fun BJ=>some<|BJ==2) else (some false)).bind fun oI=>bif oI then (kP aO y24 bg y25).bind fun Bu=>bif (Bu==2) then (ix aO y24).bind fun Vy=>(app 32 y25 [Vy]).bind fun x73=>Zi N aO bg (QZ N aO bg n1) (y24,x73) else (Zi N aO bg (QZ N aO bg n1) (y24,y25)) else (some (y24,y25))
def Ra (N:Nat) (aO:List av) (bD:Int) (bg:Bool) (p1:List av):Option (Int×(List av)):=
 QZ N aO bg N (bD,p1)
def aqE (a0:Int):Option Int:=
 (ix [0,0,0,44,45,0,67,63,99,55,57] a0).bind fun e2=>some e2
def Zj (a1:Int) (a2:aI) (aO:List av) (bD:Int) (bg:Bool) (p1:List av):Option Bool:=
 (kP aO bD bg p1).bind fun r2=>(bif bg then some true else (some<|a1==8)).bind fun y7=>bif y7 then (bif (!bg) then (Er r2).bind fun bM=>some bM else (some false)).bind fun y9=>some y9 else ((bif (r2 !=0) then bif (r2 !=99) then (zY r2).bind fun BD=>bif (BD==a1) then bif (r2 !=62) then some true else (some<|!a2.aW) else (some false) else (some false) else (some false)).bind fun jV=>some jV)
def VE (a1:Int) (aO:List av) (bD:Int) (bg:Bool) (p1:List av):Option (cZ×Int×Bool):=
 (ix aO bD).bind fun e3=>(kQ e3.Kind aO bD bg p1).bind fun r4=>some ((⟨[(⟨a1,0,r4.1.Text,[],[]⟩:aG)],false⟩:cZ),r4.2.1,r4.2.2)
structure jD where
 Zk:Int->(List av)->Int->Bool->(List av)->Option (cZ×Int×Bool×(List av))
 Zl:(List av)->Int->Bool->(List av)->Option (cZ×Int×Bool×(List av))
 Rb:(List av)->Int->Bool->(List av)->Option (cZ×Int×Bool×(List av))
 Zm:aI->(List av)->Int->Bool->(List av)->Option (cZ×Int×Bool×(List av))
 Zn:aI->(List av)->Int->Bool->(List av)->Option (cZ×Int×Bool×(List av))
 Rc:aI->(List av)->Int->Bool->(List av)->Option (cZ×Int×Bool×(List av))
 Zo:aI->(List av)->Int->Bool->(List av)->Option (cZ×Int×Bool×(List av))
 Zp:aI->Int->Int->(List av)->Int->Bool->(List av)->Option (cZ×Int×Bool×(List av))
 JV:Int->Int->(List av)->Int->Bool->(List av)->Option ((List<|List aG)×Int×Bool×(List av))
 Zq:aI->(List av)->Int->Bool->(List av)->Option (cZ×Int×Bool×(List av))
 Zt:aI->(List av)->Int->Bool->(List av)->Option (cZ×Int×Bool×(List av))
 Zu:aI->(List av)->Int->Bool->(List av)->Option (cZ×Int×Bool×(List av))
 jv:aI->(List av)->Int->Bool->(List av)->Option (cZ×Int×Bool×(List av))
 JW:aI->(List av)->Int->Bool->(List av)->Option (cZ×Int×Bool×(List av))
def VF (N:Nat) (R:jD) (a1:Int) (aO:List av) (bD:Int) (bg:Bool) (p1:List av):Option (cZ×Int×Bool×(List av)):=
 (kP aO bD bg p1).bind fun r3=>(kQ r3 aO bD bg p1).bind fun r4=>(bif (a1==8) then (kP aO r4.2.1 r4.2.2 p1).bind fun bM=>bif (bM !=32) then some (r4.1.Text==[108,101,110,103,116,104]) else (some false) else (some false)).bind fun y9=>bif y9 then some ((⟨[(⟨a1,0,r4.1.Text,[],[]⟩:aG)],false⟩:cZ),r4.2.1,r4.2.2,p1) else ((kQ 32 aO r4.2.1 r4.2.2 p1).bind fun dG=>(R.JV 33 0 aO dG.2.1 dG.2.2 p1).bind fun fD=>(vV N (⟨a1,0,r4.1.Text,[],[]⟩:aG) fD.1).bind fun r16=>some ((⟨r16,false⟩:cZ),fD.2.1,fD.2.2.1,fD.2.2.2))
def acO (N:Nat) (R:jD) (aO:List av) (bD:Int) (bg:Bool) (p1:List av):Option (cZ×Int×Bool×(List av)):=
 (kQ 6 aO bD bg p1).bind fun r2=>(kP aO r2.2.1 r2.2.2 p1).bind fun r6=>bif (r6 !=34) then some ((⟨[(⟨1,0,r2.1.Text,[],[]⟩:aG)],false⟩:cZ),r2.2.1,r2.2.2,p1) else ((kQ 34 aO r2.2.1 r2.2.2 p1).bind fun r8=>(R.JV 35 1 aO r8.2.1 r8.2.2 p1).bind fun fM=>(vV N (⟨5,0,r2.1.Text,[],[]⟩:aG) fM.1).bind fun dG=>some ((⟨dG,false⟩:cZ),fM.2.1,fM.2.2.1,fM.2.2.2))
def acP (N:Nat) (R:jD) (aO:List av) (bD:Int) (bg:Bool) (p1:List av):Option (cZ×Int×Bool×(List av)):=
 bif bg then some ((⟨[],false⟩:cZ),bD,bg,p1) else ((kP aO bD bg p1).bind fun r16=>bif (r16==3) then (VE 2 aO bD bg p1).bind fun iq=>some (iq.1,iq.2.1,iq.2.2,p1) else (bif (r16==4) then (VE 3 aO bD bg p1).bind fun mX=>some (mX.1,mX.2.1,mX.2.2,p1) else (bif (r16==5) then (VE 4 aO bD bg p1).bind fun jq=>some (jq.1,jq.2.1,jq.2.2,p1) else (bif (r16==6) then (R.Zl aO bD bg p1).bind fun jL=>some (jL.1,jL.2.1,jL.2.2.1,jL.2.2.2) else (bif (r16==7) then (R.Zk 7 aO bD bg p1).bind fun jr=>some (jr.1,jr.2.1,jr.2.2.1,jr.2.2.2) else (bif (r16==8) then (R.Zk 8 aO bD bg p1).bind fun jC=>some (jC.1,jC.2.1,jC.2.2.1,jC.2.2.2) else ((kQ 32 aO bD bg p1).bind fun pV=>Option.bind yY fun fC=>(R.jv fC aO pV.2.1 pV.2.2 p1).bind fun jJ=>(kQ 33 aO jJ.2.1 jJ.2.2.1 jJ.2.2.2).bind fun uH=>some ((⟨jJ.1.l,true⟩:cZ),uH.2.1,uH.2.2,jJ.2.2.2))))))))
def Zv (N:Nat) (R:jD) (aO:List av):(Bool×Int×Bool×(List aG)×(List av))->Option (cZ×Int×Bool×(List av))
 | (y21,y22,y23,y24,y25)=>(rV N (⟨6,0,[],[],[]⟩:aG) [y24]).bind fun pR=>some (pR,y22,y23,y25)
def acQ (N:Nat) (R:jD) (a1:aI) (aO:List av) (bD:Int) (bg:Bool) (p1:List av):Option (cZ×Int×Bool×(List av)):=
 (kP aO bD bg p1).bind fun r6=>bif (r6 !=68) then (R.Rb aO bD bg p1).bind fun r8=>some (r8.1,r8.2.1,r8.2.2.1,r8.2.2.2) else ((kQ 68 aO bD bg p1).bind fun bM=>(kP aO bM.2.1 bM.2.2 p1).bind fun pV=>(Nn pV).bind fun zZ=>bif zZ then (R.JW a1 aO bM.2.1 bM.2.2 p1).bind fun fC=>Zv N R aO (fC.1.held,fC.2.1,fC.2.2.1,fC.1.l,fC.2.2.2) else ((oP a1 14).bind fun uH=>(R.jv uH aO bM.2.1 bM.2.2 p1).bind fun zV=>Zv N R aO (zV.1.held,zV.2.1,zV.2.2.1,zV.1.l,zV.2.2.2)))
def acR (N:Nat) (R:jD) (a1:aI) (aO:List av) (bD:Int) (bg:Bool) (p1:List av):Option (cZ×Int×Bool×(List av)):=
 (kP aO bD bg p1).bind fun r9=>(Nn r9).bind fun bM=>bif bM then (R.JW a1 aO bD bg p1).bind fun dG=>some (dG.1,dG.2.1,dG.2.2.1,dG.2.2.2) else ((oP a1 14).bind fun fD=>(R.jv fD aO bD bg p1).bind fun r16=>(kP aO r16.2.1 r16.2.2.1 r16.2.2.2).bind fun iq=>(bif r16.2.2.1 then some true else ((Nn iq).bind fun pR=>bif (!pR) then some true else ((QX r16.1).bind fun jC=>some<|!jC))).bind fun qM=>bif qM then some (r16.1,r16.2.1,r16.2.2.1,r16.2.2.2) else ((kQ iq aO r16.2.1 r16.2.2.1 r16.2.2.2).bind fun pV=>(rV N (⟨10,iq,[],[],[]⟩:aG) [r16.1.l]).bind fun r32=>some (r32,pV.2.1,pV.2.2,r16.2.2.2)))
def acS (N:Nat) (R:jD) (a1:aI) (aO:List av) (bD:Int) (bg:Bool) (p1:List av):Option (cZ×Int×Bool×(List av)):=
 (oP a1 13).bind fun r3=>(R.jv r3 aO bD bg p1).bind fun r4=>(bif r4.2.2.1 then some true else ((kP aO r4.2.1 r4.2.2.1 r4.2.2.2).bind fun bM=>some<|bM !=60)).bind fun y9=>bif y9 then some (r4.1,r4.2.1,r4.2.2.1,r4.2.2.2) else ((kQ 60 aO r4.2.1 r4.2.2.1 r4.2.2.2).bind fun dG=>(oP a1 11).bind fun fD=>(R.jv fD aO dG.2.1 dG.2.2 r4.2.2.2).bind fun r16=>(rV N (⟨12,60,[],[],[]⟩:aG) [r4.1.l,r16.1.l]).bind fun iq=>some (iq,r16.2.1,r16.2.2.1,r16.2.2.2))
def acT (N:Nat) (R:jD) (a1:aI) (aO:List av) (bD:Int) (bg:Bool) (p1:List av):Option (cZ×Int×Bool×(List av)):=
 (kP aO bD bg p1).bind fun r2=>(bif (r2==56) then some true else (bif (r2==55) then some true else (some<|r2==61))).bind fun jV=>bif jV then (kQ r2 aO bD bg p1).bind fun bP=>(oP a1 11).bind fun qm=>(R.jv qm aO bP.2.1 bP.2.2 p1).bind fun iq=>(rV N (⟨11,r2,[],[],[]⟩:aG) [iq.1.l]).bind fun mX=>some (mX,iq.2.1,iq.2.2.1,iq.2.2.2) else ((R.Rc a1 aO bD bg p1).bind fun jq=>some (jq.1,jq.2.1,jq.2.2.1,jq.2.2.2))
def Zw (N:Nat) (R:jD) (aO:List av) (xq:(Int×Int×(Int×Int)×aI×Int×Int×Bool×Bool×(List av)×(List aG))->Option (cZ×Int×Bool×(List av))):(Int×Int×(Int×Int)×Int×Int×Bool×aI×Bool×(List aG)×Int×(List av))->Option (cZ×Int×Bool×(List av))
 | (a2,a3,r4,JX,Zx,nJ,a1,Nq,JY,aqF,aqG)=>(oP a1 r4.2).bind fun aqH=>(R.jv aqH aO aqF nJ aqG).bind fun Zy=>(rV N (⟨12,Zx,[],[],[]⟩:aG) [JY,Zy.1.l]).bind fun aiD=>xq (a2,a3,r4,a1,(IntKind.wrap .i64<|JX+1),Zy.2.1,Zy.2.2.1,aiD.held,Zy.2.2.2,aiD.l)
def Zz (N:Nat) (R:jD) (aO:List av) (xq:(Int×Int×(Int×Int)×aI×Int×Int×Bool×Bool×(List av)×(List aG))->Option (cZ×Int×Bool×(List av))):(Int×Int×(Int×Int)×Int×Bool×aI×Bool×(List av)×(List aG)×Int×Int)->Option (cZ×Int×Bool×(List av))
 | (a2,a3,r4,JX,nJ,a1,Nq,JZ,JY,Zx,aiE)=>(bif (a2==3) then some true else (some<|a2==4)).bind fun nX=>bif nX then (Ra N aO aiE nJ JZ).bind fun aiF=>Zw N R aO xq (a2,a3,r4,JX,Zx,nJ,a1,Nq,JY,aiF.1,aiF.2) else (Zw N R aO xq (a2,a3,r4,JX,Zx,nJ,a1,Nq,JY,aiE,JZ))
def qx (N:Nat) (R:jD) (aO:List av):Nat->(Int×Int×(Int×Int)×aI×Int×Int×Bool×Bool×(List av)×(List aG))->Option (cZ×Int×Bool×(List av))
 | 0,_=>none
 | n2+1,(a2,a3,r4,a1,JX,VG,nJ,Nq,JZ,JY)=>(bif (decide<|JX < a3) then (Zj a2 a1 aO VG nJ JZ).bind fun aqI=>some aqI else (some false)).bind fun aqJ=>bif aqJ then bif (a2 !=8) then (kP aO VG nJ JZ).bind fun aqK=>Zz N R aO (qx N R aO n2) (a2,a3,r4,JX,nJ,a1,Nq,JZ,JY,aqK,(IntKind.wrap .i64<|VG+1)) else (Zz N R aO (qx N R aO n2) (a2,a3,r4,JX,nJ,a1,Nq,JZ,JY,99,VG)) else (some ((⟨JY,Nq⟩:cZ),VG,nJ,JZ))
def aiG (N:Nat) (R:jD) (aO:List av):(Int×Int×(Int×Int)×Int×Bool×aI×(List av)×Int)->Option (cZ×Int×Bool×(List av))
 | (a2,a3,r4,bD,bg,a1,p1,y5)=>(oP a1 y5).bind fun r8=>(R.jv r8 aO bD bg p1).bind fun r9=>qx N R aO N (a2,a3,r4,a1,0,r9.2.1,r9.2.2.1,r9.1.held,r9.2.2.2,r9.1.l)
def aqL (N:Nat) (R:jD) (a1:aI) (a2:Int) (a3:Int) (aO:List av) (bD:Int) (bg:Bool) (p1:List av):Option (cZ×Int×Bool×(List av)):=
 (aqE a2).bind fun r3=>(Qu r3).bind fun r4=>bif (decide<|a3 > 1) then aiG N R aO (a2,a3,r4,bD,bg,a1,p1,(IntKind.wrap .i64<|a2+1)) else (aiG N R aO (a2,a3,r4,bD,bg,a1,p1,r4.1))
def Ka (N:Nat) (R:jD) (aO:List av):(Int×Int×Bool×(List<|List aG)×(List av))->Option ((List<|List aG)×Int×Bool×(List av))
 | (a1,iM,Gb,Mv,JJ)=>(kQ a1 aO iM Gb JJ).bind fun Bu=>some (Mv,Bu.2.1,Bu.2.2,JJ)
def VH (N:Nat) (R:jD) (aO:List av) (xq:(Int×Int×Bool×(List<|List aG)×(List av))->Option ((List<|List aG)×Int×Bool×(List av))):(Int×(cZ×Int×Bool×(List av))×(List<|List aG)×Bool)->Option ((List<|List aG)×Int×Bool×(List av))
 | (a1,rR,x113,Ey)=>(kQ 36 aO rR.2.1 Ey rR.2.2.2).bind fun acU=>(Ra N aO acU.2.1 acU.2.2 rR.2.2.2).bind fun vS=>xq (a1,vS.1,acU.2.2,x113,vS.2)
def Kc (N:Nat) (R:jD) (aO:List av):Nat->(Int×Int×Bool×(List<|List aG)×(List av))->Option ((List<|List aG)×Int×Bool×(List av))
 | 0,_=>none
 | n2+1,(a1,jg,jA,pW,pX)=>bif (!jA) then Option.bind yY fun ZA=>(R.jv ZA aO jg jA pX).bind fun rR=>(app 24 pW [rR.1.l]).bind fun x113=>(kP aO rR.2.1 rR.2.2.1 rR.2.2.2).bind fun Vs=>bif (Vs !=36) then Ka N R aO (a1,rR.2.1,rR.2.2.1,x113,rR.2.2.2) else (bif ((x113.length:Int)==6) then VH N R aO (Kc N R aO n2) (a1,rR,x113,true) else (VH N R aO (Kc N R aO n2) (a1,rR,x113,rR.2.2.1))) else (Ka N R aO (a1,jg,jA,pW,pX))
def VI (N:Nat) (R:jD) (a1:Int) (a2:Int) (aO:List av) (bD:Int) (bg:Bool) (p1:List av):Option ((List<|List aG)×Int×Bool×(List av)):=
 (bif (a2==0) then (kP aO bD bg p1).bind fun r8=>some (r8==a1) else (some false)).bind fun y7=>bif y7 then (kQ a1 aO bD bg p1).bind fun bM=>some ([],bM.2.1,bM.2.2,p1) else (Kc N R aO N (a1,bD,bg,[],p1))
def EK (N:Nat) (R:jD) (aO:List av):Nat->(aI×(List av)×Int×Bool×Bool×(List aG))->Option (cZ×Int×Bool×(List av))
 | 0,_=>none
 | n2+1,(a1,y21,Ah,zm,jg,jA)=>(bif (!zm) then bif (!a1.aV) then (kP aO Ah zm y21).bind fun qw=>some (qw==24) else (some false) else (some false)).bind fun aqM=>bif aqM then (kQ 24 aO Ah zm y21).bind fun ZA=>(kQ 6 aO ZA.2.1 ZA.2.2 y21).bind fun acV=>(rV N (⟨13,0,acV.1.Text,[],[]⟩:aG) [jA]).bind fun dM=>(EK N R aO n2) (a1,y21,acV.2.1,acV.2.2,dM.held,dM.l) else (some ((⟨jA,jg⟩:cZ),Ah,zm,y21))
def Rf (N:Nat) (R:jD) (aO:List av):(aI×Int×Bool×Bool×(List av)×(List aG))->Option (cZ×Int×Bool×(List av))
 | (a1,qP,eH,y20,y21,y22)=>EK N R aO N (a1,y21,qP,eH,y20,y22)
def acW (N:Nat) (R:jD) (a1:aI) (aO:List av) (bD:Int) (bg:Bool) (p1:List av):Option (cZ×Int×Bool×(List av)):=
 (bif (!a1.aV) then (VD N aO bD bg p1).bind fun acX=>some acX else (some false)).bind fun Ey=>bif Ey then (kQ 32 aO bD bg p1).bind fun BN=>(R.JV 33 1 aO BN.2.1 BN.2.2 p1).bind fun Rh=>(kQ 24 aO Rh.2.1 Rh.2.2.1 Rh.2.2.2).bind fun aiH=>(kQ 6 aO aiH.2.1 aiH.2.2 Rh.2.2.2).bind fun CZ=>(vV N (⟨13,0,CZ.1.Text,[],[]⟩:aG) Rh.1).bind fun acY=>Rf N R aO (a1,CZ.2.1,CZ.2.2,false,Rh.2.2.2,acY) else ((oP a1 6).bind fun aqN=>(R.jv aqN aO bD bg p1).bind fun nM=>Rf N R aO (a1,nM.2.1,nM.2.2.1,nM.1.held,nM.2.2.2,nM.1.l))
def acZ (N:Nat) (R:jD) (a1:aI) (aO:List av) (bD:Int) (bg:Bool) (p1:List av):Option (cZ×Int×Bool×(List av)):=
 (oP a1 3).bind fun r3=>(R.jv r3 aO bD bg p1).bind fun r4=>(bif r4.2.2.1 then some true else ((kP aO r4.2.1 r4.2.2.1 r4.2.2.2).bind fun bM=>some<|bM !=65)).bind fun y9=>bif y9 then some (r4.1,r4.2.1,r4.2.2.1,r4.2.2.2) else ((kQ 65 aO r4.2.1 r4.2.2.1 r4.2.2.2).bind fun dG=>(oP a1 2).bind fun fD=>(R.jv fD aO dG.2.1 dG.2.2 r4.2.2.2).bind fun r16=>(kQ 66 aO r16.2.1 r16.2.2.1 r16.2.2.2).bind fun iq=>(oP a1 2).bind fun bT=>(R.jv bT aO iq.2.1 iq.2.2 r16.2.2.2).bind fun jq=>(rV N (⟨14,0,[],[],[]⟩:aG) [r4.1.l,r16.1.l,jq.1.l]).bind fun jL=>some (jL,jq.2.1,jq.2.2.1,jq.2.2.2))
def ada (N:Nat) (R:jD) (a1:aI) (aO:List av) (bD:Int) (bg:Bool) (p1:List av):Option (cZ×Int×Bool×(List av)):=
 (oP a1 2).bind fun r3=>(R.jv r3 aO bD bg p1).bind fun r4=>(bif r4.2.2.1 then some true else ((QX r4.1).bind fun r16=>bif (!r16) then some true else ((kP aO r4.2.1 r4.2.2.1 r4.2.2.2).bind fun qm=>(wY qm).bind fun iq=>some<|!iq))).bind fun fJ=>bif fJ then some (r4.1,r4.2.1,r4.2.2.1,r4.2.2.2) else ((kP aO r4.2.1 r4.2.2.1 r4.2.2.2).bind fun mX=>(kQ mX aO r4.2.1 r4.2.2.1 r4.2.2.2).bind fun jq=>(oP a1 1).bind fun wV=>(R.jv wV aO jq.2.1 jq.2.2 r4.2.2.2).bind fun jr=>(rV N (⟨15,mX,[],[],[]⟩:aG) [r4.1.l,jr.1.l]).bind fun jC=>some (jC,jr.2.1,jr.2.2.1,jr.2.2.2))
def Nr (N:Nat) (R:jD) (aO:List av):(aI×Int×Bool×(List av)×Bool)->Option (cZ×Int×Bool×(List av))
 | (a1,bD,bg,p1,yR)=>bif yR then (R.Zp a1 a1.Level 3000 aO bD bg p1).bind fun r32=>some (r32.1,r32.2.1,r32.2.2.1,r32.2.2.2) else (bif (a1.Level==11) then (R.Zo a1 aO bD bg p1).bind fun jJ=>some (jJ.1,jJ.2.1,jJ.2.2.1,jJ.2.2.2) else (bif (a1.Level==12) then (R.Rc a1 aO bD bg p1).bind fun uH=>some (uH.1,uH.2.1,uH.2.2.1,uH.2.2.2) else (bif (a1.Level==13) then (R.Zn a1 aO bD bg p1).bind fun kC=>some (kC.1,kC.2.1,kC.2.2.1,kC.2.2.2) else (bif (a1.Level==14) then (R.Zm a1 aO bD bg p1).bind fun kN=>some (kN.1,kN.2.1,kN.2.2.1,kN.2.2.2) else ((R.Rb aO bD bg p1).bind fun pO=>some (pO.1,pO.2.1,pO.2.2.1,pO.2.2.2))))))
def ZB (N:Nat) (R:jD) (aO:List av):(aI×Int×Bool×(List av)×Bool)->Option (cZ×Int×Bool×(List av))
 | (a1,bD,bg,p1,y27)=>bif y27 then (R.Zp a1 a1.Level 1 aO bD bg p1).bind fun yS=>some (yS.1,yS.2.1,yS.2.2.1,yS.2.2.2) else (bif (a1.Level==3) then Nr N R aO (a1,bD,bg,p1,(a1.Level==3)) else (bif (a1.Level==4) then Nr N R aO (a1,bD,bg,p1,(a1.Level==4)) else (bif (a1.Level==8) then Nr N R aO (a1,bD,bg,p1,(a1.Level==8)) else (bif (a1.Level==9) then Nr N R aO (a1,bD,bg,p1,(a1.Level==9)) else (Nr N R aO (a1,bD,bg,p1,(a1.Level==10)))))))
def VJ (N:Nat) (R:jD) (a1:aI) (aO:List av) (bD:Int) (bg:Bool) (p1:List av):Option (cZ×Int×Bool×(List av)):=
 bif bg then some ((⟨[],false⟩:cZ),bD,bg,p1) else (bif (a1.Level==1) then (R.Zu a1 aO bD bg p1).bind fun jq=>some (jq.1,jq.2.1,jq.2.2.1,jq.2.2.2) else (bif (a1.Level==2) then (R.Zt a1 aO bD bg p1).bind fun jL=>some (jL.1,jL.2.1,jL.2.2.1,jL.2.2.2) else (bif (a1.Level==5) then (R.Zq a1 aO bD bg p1).bind fun jr=>some (jr.1,jr.2.1,jr.2.2.1,jr.2.2.2) else (bif (a1.Level==6) then ZB N R aO (a1,bD,bg,p1,(a1.Level==6)) else (ZB N R aO (a1,bD,bg,p1,(a1.Level==7)))))))
def ZC (N:Nat) (R:jD) (aO:List av):(Int×(av×Int×Bool)×aI×(List av)×Bool)->Option (cZ×Int×Bool×(List av))
 | (r2,r4,a1,p1,iZ)=>(oP a1 14).bind fun BD=>(R.jv BD aO r4.2.1 iZ p1).bind fun bP=>(rV N (⟨9,r2,[],[],[]⟩:aG) [bP.1.l]).bind fun r16=>some (r16,bP.2.1,bP.2.2.1,bP.2.2.2)
def adb (N:Nat) (R:jD) (a1:aI) (aO:List av) (bD:Int) (bg:Bool) (p1:List av):Option (cZ×Int×Bool×(List av)):=
 (kP aO bD bg p1).bind fun r2=>(kQ r2 aO bD bg p1).bind fun r4=>((kP aO r4.2.1 r4.2.2 p1).bind fun mX=>bif (mX !=6) then (kP aO r4.2.1 r4.2.2 p1).bind fun bT=>some (bT !=68) else (some false)).bind fun eH=>bif eH then ZC N R aO (r2,r4,a1,p1,true) else (ZC N R aO (r2,r4,a1,p1,r4.2.2))
def bW:Nat->jD
 | 0=>⟨fun _ _ _ _ _=>none,fun _ _ _ _=>none,fun _ _ _ _=>none,fun _ _ _ _ _=>none,fun _ _ _ _ _=>none,fun _ _ _ _ _=>none,fun _ _ _ _ _=>none,fun _ _ _ _ _ _ _=>none,fun _ _ _ _ _ _=>none,fun _ _ _ _ _=>none,fun _ _ _ _ _=>none,fun _ _ _ _ _=>none,fun _ _ _ _ _=>none,fun _ _ _ _ _=>none⟩
 | N+1=>⟨fun a1 aO bD bg p1=>VF N (bW N) a1 aO bD bg p1,fun aO bD bg p1=>acO N (bW N) aO bD bg p1,fun aO bD bg p1=>acP N (bW N) aO bD bg p1,fun a1 aO bD bg p1=>acQ N (bW N) a1 aO bD bg p1,fun a1 aO bD bg p1=>acR N (bW N) a1 aO bD bg p1,fun a1 aO bD bg p1=>acS N (bW N) a1 aO bD bg p1,fun a1 aO bD bg p1=>acT N (bW N) a1 aO bD bg p1,fun a1 a2 a3 aO bD bg p1=>aqL N (bW N) a1 a2 a3 aO bD bg p1,fun a1 a2 aO bD bg p1=>VI N (bW N) a1 a2 aO bD bg p1,fun a1 aO bD bg p1=>acW N (bW N) a1 aO bD bg p1,fun a1 aO bD bg p1=>acZ N (bW N) a1 aO bD bg p1,fun a1 aO bD bg p1=>ada N (bW N) a1 aO bD bg p1,fun a1 aO bD bg p1=>VJ N (bW N) a1 aO bD bg p1,fun a1 aO bD bg p1=>adb N (bW N) a1 aO bD bg p1⟩
def Zk (N:Nat) (a1:Int) (aO:List av) (bD:Int) (bg:Bool) (p1:List av):Option (cZ×Int×Bool×(List av)):=(bW N).Zk a1 aO bD bg p1
def Zl (N:Nat) (aO:List av) (bD:Int) (bg:Bool) (p1:List av):Option (cZ×Int×Bool×(List av)):=(bW N).Zl aO bD bg p1
def Rb (N:Nat) (aO:List av) (bD:Int) (bg:Bool) (p1:List av):Option (cZ×Int×Bool×(List av)):=(bW N).Rb aO bD bg p1
def Zm (N:Nat) (a1:aI) (aO:List av) (bD:Int) (bg:Bool) (p1:List av):Option (cZ×Int×Bool×(List av)):=(bW N).Zm a1 aO bD bg p1
def Zn (N:Nat) (a1:aI) (aO:List av) (bD:Int) (bg:Bool) (p1:List av):Option (cZ×Int×Bool×(List av)):=(bW N).Zn a1 aO bD bg p1
def Rc (N:Nat) (a1:aI) (aO:List av) (bD:Int) (bg:Bool) (p1:List av):Option (cZ×Int×Bool×(List av)):=(bW N).Rc a1 aO bD bg p1
def Zo (N:Nat) (a1:aI) (aO:List av) (bD:Int) (bg:Bool) (p1:List av):Option (cZ×Int×Bool×(List av)):=(bW N).Zo a1 aO bD bg p1
def Zp (N:Nat) (a1:aI) (a2:Int) (a3:Int) (aO:List av) (bD:Int) (bg:Bool) (p1:List av):Option (cZ×Int×Bool×(List av)):=(bW N).Zp a1 a2 a3 aO bD bg p1
def JV (N:Nat) (a1:Int) (a2:Int) (aO:List av) (bD:Int) (bg:Bool) (p1:List av):Option ((List<|List aG)×Int×Bool×(List av)):=(bW N).JV a1 a2 aO bD bg p1
def Zq (N:Nat) (a1:aI) (aO:List av) (bD:Int) (bg:Bool) (p1:List av):Option (cZ×Int×Bool×(List av)):=(bW N).Zq a1 aO bD bg p1
def Zt (N:Nat) (a1:aI) (aO:List av) (bD:Int) (bg:Bool) (p1:List av):Option (cZ×Int×Bool×(List av)):=(bW N).Zt a1 aO bD bg p1
def Zu (N:Nat) (a1:aI) (aO:List av) (bD:Int) (bg:Bool) (p1:List av):Option (cZ×Int×Bool×(List av)):=(bW N).Zu a1 aO bD bg p1
def jv (N:Nat) (a1:aI) (aO:List av) (bD:Int) (bg:Bool) (p1:List av):Option (cZ×Int×Bool×(List av)):=(bW N).jv a1 aO bD bg p1
def JW (N:Nat) (a1:aI) (aO:List av) (bD:Int) (bg:Bool) (p1:List av):Option (cZ×Int×Bool×(List av)):=(bW N).JW a1 aO bD bg p1
def aiI (N:Nat) (a0:List aG):Option iU:=
 bif (decide<|(a0.length:Int) > 400) then some (⟨1,0⟩:iU) else ((Qf N a0).bind fun r4=>bif (decide<|r4 > 40) then some (⟨4,0⟩:iU) else (some (⟨0,0⟩:iU)))
def Ri (N:Nat):((List av)×Int×Bool×Bool×(List av)×(List aG))->Option ((List aG)×Int×iU)
 | (a0,sV,xu,lU,uF,Gn)=>bif xu then (VA a0 sV 3).bind fun Bp=>some ([],0,Bp) else ((aiI N Gn).bind fun Uz=>bif (Uz.Kind !=0) then some ([],0,Uz) else (some (Gn,sV,(⟨0,0⟩:iU))))
def aiJ (N:Nat) (a0:List av) (a1:aI):Option ((List aG)×Int×iU):=
 (CG a1).bind fun r4=>bif (!r4) then some ([],0,(⟨3,0⟩:iU)) else ((Qd N a0).bind fun r8=>bif (!r8) then some ([],0,(⟨2,0⟩:iU)) else ((Ql N a0).bind fun bM=>bif (decide<|bM>=0) then (VA a0 bM 4).bind fun bP=>some ([],0,bP) else ((bif a1.eZ then bif ((a0.length:Int)==0) then some true else ((ix a0 0).bind fun e25=>(Er e25.Kind).bind fun jr=>some<|!jr) else (some false)).bind fun y24=>bif y24 then (VA a0 0 3).bind fun jC=>some ([],0,jC) else ((bif a1.jo then (kP a0 0 false []).bind fun mW=>(Nn mW).bind fun FU=>some FU else (some false)).bind fun rM=>bif rM then (JW N a1 a0 0 false []).bind fun nW=>Ri N (a0,nW.2.1,nW.2.2.1,nW.1.held,nW.2.2.2,nW.1.l) else ((jv N a1 a0 0 false []).bind fun Dj=>Ri N (a0,Dj.2.1,Dj.2.2.1,Dj.1.held,Dj.2.2.2,Dj.1.l))))))
def Ns (N:Nat):Nat->((List Int)×(List Int)×Int)->Option Bool
 | 0,_=>none
 | n1+1,(a0,a1,fq)=>bif (decide<|fq < (a0.length:Int)) then (ix a0 fq).bind fun e51=>(ix a1 fq).bind fun e52=>bif (e51 !=e52) then some false else ((Ns N n1) (a0,a1,(IntKind.wrap .i64<|fq+1))) else (some true)
def Rj (N:Nat) (a0:List Int) (a1:List Int):Option Bool:=
 bif ((a0.length:Int) !=(a1.length:Int)) then some false else (Ns N N (a0,a1,0))
def Nt (N:Nat):Nat->((List aG)×(List aG)×Int)->Option Bool
 | 0,_=>none
 | n1+1,(a0,a1,BR)=>bif (decide<|BR < (a0.length:Int)) then ((ix a0 BR).bind fun e270=>(ix a1 BR).bind fun e271=>bif (e270.Kind !=e271.Kind) then some true else ((ix a0 BR).bind fun e272=>(ix a1 BR).bind fun e273=>bif (e272.Op !=e273.Op) then some true else ((ix a0 BR).bind fun e274=>(ix a1 BR).bind fun e275=>bif (!(e274.Text==e275.Text)) then some true else ((ix a0 BR).bind fun aqO=>(ix a1 BR).bind fun aqP=>bif (!(aqO.Other==aqP.Other)) then some true else ((ix a0 BR).bind fun e278=>(ix a1 BR).bind fun e279=>(Rj N e278.Kids e279.Kids).bind fun aqQ=>some<|!aqQ))))).bind fun aqR=>bif aqR then some false else ((Nt N n1) (a0,a1,(IntKind.wrap .i64<|BR+1))) else (some true)
def VK (N:Nat) (a0:List aG) (a1:List aG):Option Bool:=
 bif ((a0.length:Int) !=(a1.length:Int)) then some false else (Nt N N (a0,a1,0))
def apS (N:Nat) (a:List Int) (hN:a.length < N) (hl:a.length<=1048576):Te N a=some a:=by
 have hloop:∀ n s,Lp N n s=FP some n s:=by
  intro n;induction n with
  | zero=>intro s;rfl
  | succ n ih=>intro ⟨a,i,y⟩;rw [Lp,FP];simp only [ih,ak]
 unfold Te;rw [Ym ah (by simp only [maxLen];omega),ak,hloop];exact abK some a (fun _ _=>rfl) (by simp only [maxLen];omega) N 0 _ ah ah aF aF
def apT (N:Nat) (a:List Int) (hN:a.length < N) (hl:a.length<=maxLen):Tf N a a=some true:=by
 have hloop:∀ n s,Lr N n s=FQ (fun x y=>some<|x==y) n s:=by
  intro n;induction n with
  | zero=>intro s;rfl
  | succ n ih=>intro ⟨a,b,i⟩;rw [Lr,FQ];simp only [ih,ak,bne]
 unfold Tf;simp only [bne_self_eq_false,aA,hloop];exact abL _ a (fun x _=>aF) hl N 0 ah ah
def Lu (x:av):Nat:=x.Text.length
def abM (x:av):Prop:=x.Text.length<=maxLen
def apU (x:av) (hx:abM x):Sz (IK x) (Lu x):=by
 intro b h0 h1;have Yn:=hx;unfold abM at Yn;simp only [maxLen] at Yn;unfold IK Lu;rw [wrap64 (n:=b - (x.Text.length:Int)) ah ah];by_cases g0:b - (x.Text.length:Int) < 0
 .exact ⟨-1,by simp [g0],.inl ⟨ah,ah⟩⟩
 exact ⟨b - (x.Text.length:Int),by simp [g0],.inr ⟨ah,ah⟩⟩
def apV (N:Nat) (a:List av) (hN:a.length < N) (hl:a.length<=maxLen) (ha:∀ x,x∈a->abM x):Sz (Ti N a) (a.length+yM Lu a):=by
 have hloop:∀ n s,Lv N n s=Ef IK n s:=by
  intro n;induction n with
  | zero=>intro s;rfl
  | succ n ih=>intro ⟨a,b,i⟩;rw [Lv,Ef];simp only [ih]
 intro b h0 h1;have:=ahu (f:=IK) (sz:=Lu) (fun x hx=>apU x<|ha x hx) hl (g:=fun n b=>bif decide (IntKind.wrap .i64 (b - (a.length:Int)) < 0) then some (-1) else Ef IK n (a,IntKind.wrap .i64<|b - (a.length:Int),0)) hN (fun b=>rfl) b h0 h1;unfold Ti;simpa only [hloop] using this
def Py (x:av):Prop:=x.Text.length<=1048576
def apW (a:List av) (h:a.length+yM Lu a<=1048576):∀ x,x∈a->Py x:=by
 intro x hx;have:=ahv (sz:=Lu) hx;have e:Lu x=x.Text.length:=rfl;rw [e] at this;unfold Py;omega
def apX (x:av) (hx:Py x):Pz x=some x:=by
 unfold Pz;rfl
def apY (N:Nat) (a:List av) (hN:1048576 < N) (hl:a.length<=1048576) (ha:∀ x,x∈a->Py x):Lx N a=some a:=by
 have hloop:∀ n s,LA N n s=FP Pz n s:=by
  intro n;induction n with
  | zero=>intro s;rfl
  | succ n ih=>intro ⟨a,i,y⟩;rw [LA,FP];simp only [ih]
 unfold Lx;rw [Ym ah (by simp only [maxLen];omega),ak,hloop];exact abK _ a (fun x hx=>apX x<|ha x hx) (by simp only [maxLen];omega) N 0 _ ah ah aF aF
def apZ (x:av) (hx:Py x):PE x x=some true:=by
 unfold PE;simp
def aqa (N:Nat) (a:List av) (hN:1048576 < N) (hl:a.length<=1048576) (ha:∀ x,x∈a->Py x):Tj N a a=some true:=by
 have hloop:∀ n s,LB N n s=FQ (PE) n s:=by
  intro n;induction n with
  | zero=>intro s;rfl
  | succ n ih=>intro ⟨a,b,i⟩;rw [LB,FQ];simp only [ih]
 unfold Tj;simp only [bne_self_eq_false,aA,hloop];exact abL _ a (fun x hx=>apZ x<|ha x hx) (by simp only [maxLen];omega) N 0 ah ah
def LC (x:aG):Nat:=x.Text.length+x.Other.length+x.Kids.length
def ahw (x:aG):Prop:=x.Text.length<=maxLen/\x.Other.length<=maxLen/\x.Kids.length<=maxLen
def aqb (x:aG) (hx:ahw x):Sz (IQ x) (LC x):=by
 intro b h0 h1;obtain ⟨Yn,aqc,aqd⟩:=hx;simp only [maxLen] at Yn aqc aqd;unfold IQ LC;unfold Yo;rw [wrap64 (n:=b - (x.Text.length:Int)) ah ah];by_cases g0:b - (x.Text.length:Int) < 0
 .exact ⟨-1,by simp [g0],.inl ⟨ah,ah⟩⟩
 rw [wrap64 (n:=b - (x.Text.length:Int) - (x.Other.length:Int)) ah ah];by_cases g1:b - (x.Text.length:Int) - (x.Other.length:Int) < 0
 .exact ⟨-1,by simp [g0,g1],.inl ⟨ah,ah⟩⟩
 rw [wrap64 (n:=b - (x.Text.length:Int) - (x.Other.length:Int) - (x.Kids.length:Int)) ah ah];by_cases g2:b - (x.Text.length:Int) - (x.Other.length:Int) - (x.Kids.length:Int) < 0
 .exact ⟨-1,by simp [g0,g1,g2],.inl ⟨ah,ah⟩⟩
 exact ⟨b - (x.Text.length:Int) - (x.Other.length:Int) - (x.Kids.length:Int),by simp [g0,g1,g2],.inr ⟨ah,ah⟩⟩
def aqe (N:Nat) (a:List aG) (hN:a.length < N) (hl:a.length<=maxLen) (ha:∀ x,x∈a->ahw x):Sz (Tm N a) (a.length+yM LC a):=by
 have hloop:∀ n s,LD N n s=Ef IQ n s:=by
  intro n;induction n with
  | zero=>intro s;rfl
  | succ n ih=>intro ⟨a,b,i⟩;rw [LD,Ef];simp only [ih]
 intro b h0 h1;have:=ahu (f:=IQ) (sz:=LC) (fun x hx=>aqb x<|ha x hx) hl (g:=fun n b=>bif decide (IntKind.wrap .i64 (b - (a.length:Int)) < 0) then some (-1) else Ef IQ n (a,IntKind.wrap .i64<|b - (a.length:Int),0)) hN (fun b=>rfl) b h0 h1;unfold Tm;simpa only [hloop] using this
def mD (x:aG):Prop:=x.Text.length<=1048576/\x.Other.length<=1048576/\x.Kids.length<=1048576
def aqf (a:List aG) (h:a.length+yM LC a<=1048576):∀ x,x∈a->mD x:=by
 intro x hx;have:=ahv (sz:=LC) hx;have e:LC x=x.Text.length+x.Other.length+x.Kids.length:=rfl;rw [e] at this;unfold mD;omega
def aqg (N:Nat) (x:aG) (hN:1048576 < N) (hx:mD x):PG N x=some x:=by
 unfold PG;unfold mD at hx;rw [apS N _ ah ah];rfl
def aqh (N:Nat) (a:List aG) (hN:1048576 < N) (hl:a.length<=1048576) (ha:∀ x,x∈a->mD x):LG N a=some a:=by
 have hloop:∀ n s,LH N n s=FP (PG N) n s:=by
  intro n;induction n with
  | zero=>intro s;rfl
  | succ n ih=>intro ⟨a,i,y⟩;rw [LH,FP];simp only [ih]
 unfold LG;rw [Ym ah (by simp only [maxLen];omega),ak,hloop];exact abK _ a (fun x hx=>aqg N x hN<|ha x hx) (by simp only [maxLen];omega) N 0 _ ah ah aF aF
def aqi (N:Nat) (x:aG) (hN:1048576 < N) (hx:mD x):PK N x x=some true:=by
 unfold PK;unfold mD at hx;rw [apT N _ ah<|by simp only [maxLen];omega];simp
def aqj (N:Nat) (a:List aG) (hN:1048576 < N) (hl:a.length<=1048576) (ha:∀ x,x∈a->mD x):Tp N a a=some true:=by
 have hloop:∀ n s,LJ N n s=FQ (PK N) n s:=by
  intro n;induction n with
  | zero=>intro s;rfl
  | succ n ih=>intro ⟨a,b,i⟩;rw [LJ,FQ];simp only [ih]
 unfold Tp;simp only [bne_self_eq_false,aA,hloop];exact abL _ a (fun x hx=>aqi N x hN<|ha x hx) (by simp only [maxLen];omega) N 0 ah ah
end Go.Proofs.Tryz
