/-
  Models of the functions that this seat reaches.
-/
import Derived.Test.YtgdlfplnfjnbdaaGreatDoorGTab
import Derived.Test.YtgdlfplnfjnbdaaGreatDoorGCore6
namespace Go.Proofs.Tryz
open Go.Av
set_option maxRecDepth 100000
set_option maxHeartbeats 8000000
set_option linter.all false
def rA:List (List UInt8):=[[97,116,97,110,50],[99,108,111,115,101],[99,111,115],[101,120,112],[103,115,117,98],[105,110,100,101,120],[105,110,116],[108,101,110,103,116,104],[108,111,103],[109,97,116,99,104],[114,97,110,100],[115,105,110],[115,112,108,105,116],[115,112,114,105,110,116,102],[115,113,114,116],[115,114,97,110,100],[115,117,98],[115,117,98,115,116,114],[115,121,115,116,101,109],[116,111,108,111,119,101,114],[116,111,117,112,112,101,114]]
def oC:List (List UInt8):=[[66,69,71,73,78],[69,78,68],[102,117,110,99,116,105,111,110],[105,102],[101,108,115,101],[119,104,105,108,101],[102,111,114],[100,111],[98,114,101,97,107],[99,111,110,116,105,110,117,101],[110,101,120,116],[101,120,105,116],[114,101,116,117,114,110],[100,101,108,101,116,101],[105,110],[112,114,105,110,116],[112,114,105,110,116,102]]
def vK:List (List UInt8):=[[123],[125],[40],[41],[91],[93],[44],[59],[43,61],[45,61],[42,61],[47,61],[37,61],[94,61],[124,124],[38,38],[33,126],[61,61],[60,61],[62,61],[33,61],[43,43],[45,45],[62,62],[61],[43],[45],[42],[47],[37],[94],[33],[62],[60],[124],[63],[58],[126],[36]]
def GG [EV]:Nat->Option (List V)
  | 0=>some (rA.map aG)
  | 1=>some (oC.map aG)
  | 2=>some (vK.map aG)
  | 6=>some (Lib.pow10Tab.map<|rC .u64)
  | 3=>some [.c xB]
  | _=>none
def GS [EV] (l:List Nat) (g:Nat):Option (List V):=bif l.contains g then GG g else none
abbrev aR [EV]:=AC Tryz.prog (GS [])
def bV [EV] {f:FuncId} {vs:List V} {H:Hp} {r:V} {H1:Hp} {l l1:List Nat} (h:AC Tryz.prog (GS l) f vs H r H1) (hs:(l.all fun g=>l1.contains g)=true):AC Tryz.prog (GS l1) f vs H r H1:=by
  refine Go.Av.AC.mono h fun g cs hg=>?_;unfold GS at hg ⊢;cases hc:l.contains g with
  | false=>rw [hc] at hg;cases hg
  | true=>
    rw [hc] at hg;have:=gZ.1 hs g (yX.1 hc);rw [this];exact hg
def mix:Tryz.prog.follows .mixedOrders=true:=ak
def wR {G:Nat->Option (List V)} {ops:Array Oper} {draw:Bool} {T0:List V} {H0:Hp} {Q:St->Prop} (n q:Nat) {i:Nat} {T:List V} {H:Hp} {Es:List (Bool×Eff)} (k:W Tryz.prog G ops draw T0 H0 (i+n) (jR D G ops n q i T H).T (jR D G ops n q i T H).H (Es++(jR D G ops n q i T H).Es) Q) (h:(uj D G ops n q i T H).isSome=true:=by kernel_rfl):W Tryz.prog G ops draw T0 H0 i T H Es Q:=W.run Dk n q h k
def cU {G:Nat->Option (List V)} {L:Option Nat} (n q:Nat) (T':List V) (H':Hp) {id:Nat} {l:List Oper} {draw:Bool} {c:Code} {T:List V} {H:Hp} {Q:Exit->St->Prop} (k:CO L Tryz.prog G c ⟨T',H'⟩ Q) (h:Gg D G l.toArray draw n q T H T' H'=(true,T',some H'):=by kernel_rfl):CO L Tryz.prog G (.seq (.region id l.toArray draw) c) ⟨T,H⟩ Q:=cu Dk mix n q T' H' h k
def cE {G:Nat->Option (List V)} {L:Option Nat} (n q:Nat) (T':List V) (H':Hp) {id:Nat} {l:List Oper} {draw:Bool} {T:List V} {H:Hp} {Q:Exit->St->Prop} (hQ:∀ st,Weak st ⟨T',H'⟩->Q .normal st) (h:Gg D G l.toArray draw n q T H T' H'=(true,T',some H'):=by kernel_rfl):CO L Tryz.prog G (.region id l.toArray draw) ⟨T,H⟩ Q:=ce Dk mix n q T' H' h hQ
def cV {G:Nat->Option (List V)} {L:Option Nat} (q:Nat) {id:Nat} {l:List Oper} {draw:Bool} {c:Code} {T:List V} {H:Hp} {Q:Exit->St->Prop} (k:CO L Tryz.prog G c ⟨(jR D G l.toArray l.toArray.size q 0 T H).T,(jR D G l.toArray l.toArray.size q 0 T H).H⟩ Q) (h:Gh D G l.toArray draw q T H=true:=by kernel_rfl):CO L Tryz.prog G (.seq (.region id l.toArray draw) c) ⟨T,H⟩ Q:=cv Dk mix q k h
def cK {G:Nat->Option (List V)} {L:Option Nat} (q:Nat) {ι:Type} {J:ι->St} {R:ι->Prop} {id:Nat} {l:List Oper} {draw:Bool} {T:List V} {H:Hp} {Q:Exit->St->Prop} (hk:∀ i,R i->∀ st,Weak st (J i)->Q .normal st) (i:ι) (hi:R i) (m:Ren) (ks:List Nat) (h:Gi m ks (Gh D G l.toArray draw q T H) (jR D G l.toArray l.toArray.size q 0 T H).T (jR D G l.toArray l.toArray.size q 0 T H).H=(true,(J i).T,some (J i).H):=by kernel_rfl):CO L Tryz.prog G (.region id l.toArray draw) ⟨T,H⟩ Q:=ck Dk mix q hk i hi m ks h
def cC {G:Nat->Option (List V)} {L:Option Nat} (n q:Nat) {id:Nat} {l:List Oper} {draw:Bool} {c:Code} {T:List V} {H:Hp} {Q:Exit->St->Prop} {fid:FuncId} {vs:List V} {rc:V} (hA:AC Tryz.prog G fid vs [] rc []) (hcf:oD Tryz.prog fid) (k:CO L Tryz.prog G c ⟨(CW D G l.toArray n q rc T H).T,(CW D G l.toArray n q rc T H).H⟩ Q) (h:OJ D G l.toArray draw n q rc T H=(true,some (fid,vs,[]),rc):=by kernel_rfl):CO L Tryz.prog G (.seq (.region id l.toArray draw) c) ⟨T,H⟩ Q:=cc Dk mix n q hA hcf k h
def wD {G:Nat->Option (List V)} {ops:Array Oper} {draw:Bool} {T0:List V} {H0:Hp} {i:Nat} {T:List V} {H:Hp} {Es:List (Bool×Eff)} {Q:St->Prop} {fid:FuncId} {vs:List V} {Hc bP:Hp} {rc:V} (h:AC Tryz.prog G fid vs Hc rc bP) (hcf:oD Tryz.prog fid) (q m:Ren) {Z:List (Nat×List (List V))} (N:List Nat) (hZ:bq H Z) (k:W Tryz.prog G ops draw T0 H0 (i+1) (cZ T (fD ops i)<|rc.rn m) (fV m bP++bf (Z.map (·.1)++q.map (·.1)) H) (Es++[(true,{v:=rc.rn m,C:=Z.map (·.1)++q.map (·.1),new:=fV m bP,N:=N})]) Q) (hn:(vL q m (Z.map (·.1)) N&&vM bP)=true:=by kernel_rfl) (hc:yY G ops q Z i T H=some (fid,vs,Hc):=by kernel_rfl):W Tryz.prog G ops draw T0 H0 i T H Es Q:=W.call h hcf q m N hZ hn hc k
def wC {G:Nat->Option (List V)} {ops:Array Oper} {draw:Bool} {T0:List V} {H0:Hp} {i:Nat} {T:List V} {H:Hp} {Es:List (Bool×Eff)} {Q:St->Prop} {fid:FuncId} {vs:List V} {Hc bP:Hp} {rc:V} (h:AC Tryz.prog G fid vs Hc rc bP) (hcf:oD Tryz.prog fid) (q m:Ren) (N:List Nat) (k:W Tryz.prog G ops draw T0 H0 (i+1) (cZ T (fD ops i)<|rc.rn m) (fV m bP++bf (([]:List (Nat×List (List V))).map (·.1)++q.map (·.1)) H) (Es++[(true,{v:=rc.rn m,C:=([]:List (Nat×List (List V))).map (·.1)++q.map (·.1),new:=fV m bP,N:=N})]) Q) (hn:(vL q m (([]:List (Nat×List (List V))).map (·.1)) N&&vM bP)=true:=by kernel_rfl) (hc:yY G ops q [] i T H=some (fid,vs,Hc):=by kernel_rfl):W Tryz.prog G ops draw T0 H0 i T H Es Q:=W.call h hcf q m N (show bq _ [] from trivial) hn hc k
def w0 {G:Nat->Option (List V)} {ops:Array Oper} {draw:Bool} {T0:List V} {H0:Hp} {i:Nat} {T:List V} {H:Hp} {Es:List (Bool×Eff)} {Q:St->Prop} {fid:FuncId} {vs:List V} {rc:V} (h:AC Tryz.prog G fid vs [] rc []) (hcf:oD Tryz.prog fid) (k:W Tryz.prog G ops draw T0 H0 (i+1) (cZ T (fD ops i) rc) H (Es++[(true,{v:=rc})]) Q) (hc:yY G ops [] [] i T H=some (fid,vs,[]):=by kernel_rfl) (hr:rc.rn []=rc:=by rfl):W Tryz.prog G ops draw T0 H0 i T H Es Q:=XR h hcf hr hc k
def wN {G:Nat->Option (List V)} {ops:Array Oper} {draw:Bool} {T0:List V} {H0:Hp} {i:Nat} {T:List V} {H:Hp} {Es:List (Bool×Eff)} {Q:St->Prop} {α:Type} (enc:α->List V) (l:List α) (R:List Nat) (k:W Tryz.prog G ops draw T0 H0 (i+1) (cZ T (fD ops i)<|aj l.length) H (Es++[(true,{v:=aj l.length,R:=R})]) Q) (h:Sy G ops i T H=some (l.map enc,R):=by kernel_rfl) (hs:((jg ops i T).bind<|eY D H<|ev G T).isSome=true:=by kernel_rfl):W Tryz.prog G ops draw T0 H0 i T H Es Q:=W.len Dk enc l R h hs k
def wX {G:Nat->Option (List V)} {ops:Array Oper} {draw:Bool} {T0:List V} {H0:Hp} {i:Nat} {T:List V} {H:Hp} {Es:List (Bool×Eff)} {Q:St->Prop} {α:Type} (enc:α->List V) {l:List α} {n:Int} {x:α} (hx:ix l n=some x) (sz:Nat) (k:W Tryz.prog G ops draw T0 H0 (i+1) (cZ T (fD ops i)<|.el<|enc x) H (Es++[(true,{v:=.el (enc x)})]) Q) (h:CX D G ops i T=some (l.map enc,n,sz):=by kernel_rfl) (hs:(enc x).length=sz:=by kernel_rfl):W Tryz.prog G ops draw T0 H0 i T H Es Q:=W.CX Dk enc hx sz h hs k
structure aB where
  Kind:Int
  Op:Int
  Text:List UInt8
  Other:List UInt8
  Kids:List Int
  deriving DecidableEq,Inhabited
def aA (b:Bool) (x:aB):List V:=[aj x.Kind,aj x.Op,aG x.Text,aG x.Other,.sl false b<|x.Kids.map aO]
def dO (b:Bool) (x:aB):mP (aA b x)=aA false x:=by
  simp only [aA,mP,V.share,aj,aG,av,Sz (enc:=aO) (enc':=aO) fun _=>rfl]
structure lq where
  Kind:Int
  Text:List UInt8
  At:Int
  deriving DecidableEq,Inhabited
structure aC where
  kind:Int
  op:Int
  text:List UInt8
  other:List UInt8
  kids:List aC
instance:Inhabited aC:=⟨⟨0,0,[],[],[]⟩⟩
def aC.lt (x:aC) (y:aC) (h:y∈x.kids):SizeOf.sizeOf y < SizeOf.sizeOf x:=by
  have:=List.sizeOf_lt_of_mem h;cases x;simp only [aC.mk.sizeOf_spec] at*;omega
def bS (x:aC):List V:=[aj x.kind,aj x.op,aG x.text,aG x.other,.sl false false<|x.kids.attach.map fun y=>bS y.1]
termination_by SizeOf.sizeOf x
decreasing_by exact aC.lt x y.1 y.2
def rD (x:aC):bS x=[aj x.kind,aj x.op,aG x.text,aG x.other,.sl false false<|x.kids.map bS]:=by
  rw [bS];simp only [List.attach_map_val (f:=bS),List.map_attach_eq_pmap,List.pmap_eq_map]
def SA (x:aC):mP (bS x)=bS x:=by
  have hk:x.kids.map (mP∘bS)=x.kids.map bS:=qx fun y hy=>SA y;rw [rD];simp only [mP,V.share,CY,aj,aG,av,Az];rw [hk]
termination_by SizeOf.sizeOf x
decreasing_by exact aC.lt x y hy
structure iO where
  op:Bool
  text:Bool
  other:Bool
  least:Int
  most:Int
  deriving DecidableEq,Inhabited
structure fE where
  Name:List UInt8
  Val:Int
  deriving DecidableEq,Inhabited
def qy (x:fE):List V:=[aG x.Name,aj x.Val]
abbrev LU:=List UInt8
abbrev gN:=List (List UInt8)
abbrev LN:=List aB
abbrev LS:=List aC
abbrev wr (x:Int):Int:=IntKind.wrap .i64 x
abbrev sL {α:Type} (f:α->List V) (x:List α):V:=.sl false false (x.map f)
abbrev gF (a:aB):List V:=[aj a.Kind,aj a.Op,aG a.Text,aG a.Other,sL aO a.Kids]
abbrev vX {α:Type} (t k:Nat) (f:α->List V) (x:List α):Ob:=.vec false t k (x.map f)
abbrev vN (x:gN):Ob:=.vec false 9 1 (x.map bX)
def lO {H:Hp}:bq H []:=trivial
def OL (a0:LU):Option Bool:=
  some (decide<|(a0.length:Int) > 1048576)
def CZ (N:Nat):Nat->(LU×Int×Int)->Option (LU×Int×Int)
  | 0,_=>none
  | n1+1,(a0,y29,qz)=>(bif (decide<|qz < (a0.length:Int)) then some (decide<|qz < 4000) else (some false)).bind fun pV=>bif pV then (ix a0 qz).bind fun e44=>(CZ N n1) (a0,(bits .and .i64 (IntKind.wrap .i64<|(IntKind.wrap .i64<|(IntKind.wrap .i64<|y29*131)+(IntKind.wrap .i64 ((e44).toNat:Int)))+7) 1073741823),(IntKind.wrap .i64<|qz+1)) else (some (a0,0,y29))
def OM (N:Nat) (a0:LU):Option (LU×Int×Int):=
  CZ N N (a0,(IntKind.wrap .i64<|10101+(a0.length:Int)),0)
def Gj (pa:LU):(Int×Int×Int)->Option (Int×Int×Int)
  | (pc,y3,y4)=>some (y3,y4,(IntKind.wrap .i64<|(IntKind.wrap .i64<|pc*6364136223846793005)+1442695040888963407))
def vO (pa:LU) (pb:Int) (pc:Int):Option (Int×Int×Int):=
  bif (decide<|pb < (pa.length:Int)) then (ix pa pb).bind fun e6=>Gj pa (pc,(bits .and .i64 (IntKind.wrap .i64<|(bits .and .i64 (bits .xor .i64 (Int.fdiv (IntKind.wrap .i64<|(IntKind.wrap .i64<|pc*6364136223846793005)+1442695040888963407)<|2 ^ (min 33 64))<|Int.fdiv (IntKind.wrap .i64<|(IntKind.wrap .i64<|pc*6364136223846793005)+1442695040888963407)<|2 ^ (min 45 64)) 255)+(IntKind.wrap .i64 ((e6).toNat:Int))) 255),(IntKind.wrap .i64<|pb+1)) else (Gj pa (pc,(bits .and .i64 (bits .xor .i64 (Int.fdiv (IntKind.wrap .i64<|(IntKind.wrap .i64<|pc*6364136223846793005)+1442695040888963407)<|2 ^ (min 33 64))<|Int.fdiv (IntKind.wrap .i64<|(IntKind.wrap .i64<|pc*6364136223846793005)+1442695040888963407)<|2 ^ (min 45 64)) 255),pb))
def fO (a1:Int) (pa:LU) (pb:Int) (pc:Int):Option (Int×Int×Int):=
  bif (decide<|a1<=0) then some (0,pb,pc) else (bif (decide<|a1<=256) then (vO pa pb pc).bind fun r7=>(xC r7.1 a1).bind fun x8=>some (x8,r7.2.1,r7.2.2) else ((vO pa pb pc).bind fun bT=>(vO pa bT.2.1 bT.2.2).bind fun lX=>(vO pa lX.2.1 lX.2.2).bind fun dP=>(vO pa dP.2.1 dP.2.2).bind fun r16=>(xC (IntKind.wrap .i64<|(IntKind.wrap .i64<|(IntKind.wrap .i64<|(IntKind.wrap .i64<|bT.1*16777216)+(IntKind.wrap .i64<|lX.1*65536))+(IntKind.wrap .i64<|dP.1*256))+r16.1) a1).bind fun x18=>some (x18,r16.2.1,r16.2.2)))
def qA (a1:Int) (pa:LU) (pb:Int) (pc:Int):Option (Bool×Int×Int):=
  (fO a1 pa pb pc).bind fun r2=>some ((r2.1==0),r2.2.1,r2.2.2)
def lY (a1:gN) (pa:LU) (pb:Int) (pc:Int):Option (LU×Int×Int):=
  (fO (a1.length:Int) pa pb pc).bind fun r3=>(ix a1 r3.1).bind fun e4=>some (e4,r3.2.1,r3.2.2)
def OO (pa:LU) (pb:Int) (pc:Int):Option (LU×Int×Int):=
  (lY [[48],[49],[52,50],[51,46,53],[46,53],[55,46],[49,101,51],[50,69,45,52],[49,48,46,50,53,101,43,49]] pa pb pc).bind fun r2=>some (r2.1,r2.2.1,r2.2.2)
def OP (pa:LU) (pb:Int) (pc:Int):Option (LU×Int×Int):=
  (lY [[34,34],[34,97,34],[34,120,32,121,34],[34,113,92,34,113,34],[34,92,110,34],[34,35,110,111,34],[34,47,34]] pa pb pc).bind fun r2=>some (r2.1,r2.2.1,r2.2.2)
def OQ (pa:LU) (pb:Int) (pc:Int):Option (LU×Int×Int):=
  (lY [[47,97,47],[47,94,120,43,36,47],[47,97,92,47,98,47],[47,61,47],[47,32,47],[47,91,48,45,57,93,47]] pa pb pc).bind fun r2=>some (r2.1,r2.2.1,r2.2.2)
def rE (pa:LU) (pb:Int) (pc:Int):Option (LU×Int×Int):=
  (lY [[120],[121],[110],[105],[97,114,114],[78,82],[70,83],[116,111,116,97,108],[97,49],[95,116],[99,111,117,110,116]] pa pb pc).bind fun r2=>some (r2.1,r2.2.1,r2.2.2)
def Kj (pa:LU):(Int×Int)->Option (LN×Int×Int)
  | (bY,jH)=>(rE pa bY jH).bind fun dP=>some ([(⟨1,0,dP.1,[],[]⟩:aB)],dP.2.1,dP.2.2)
def Gl (pa:LU) (pb:Int) (pc:Int):Option (LN×Int×Int):=
  (fO 7 pa pb pc).bind fun r16=>bif (r16.1==0) then (OO pa r16.2.1 r16.2.2).bind fun jh=>some ([(⟨2,0,jh.1,[],[]⟩:aB)],jh.2.1,jh.2.2) else (bif (r16.1==1) then (OP pa r16.2.1 r16.2.2).bind fun ji=>some ([(⟨3,0,ji.1,[],[]⟩:aB)],ji.2.1,ji.2.2) else (bif (r16.1==2) then (qA 2 pa r16.2.1 r16.2.2).bind fun ig=>bif ig.1 then (OQ pa ig.2.1 ig.2.2).bind fun fZ=>some ([(⟨4,0,fZ.1,[],[]⟩:aB)],fZ.2.1,fZ.2.2) else (Kj pa (ig.2.1,ig.2.2)) else (Kj pa (r16.2.1,r16.2.2))))
def Da (N:Nat) (jk:(LN×Int×Int×LN)->Option LN):Nat->(LN×Int×Int×LN×aB×Int×(List Int))->Option LN
  | 0,_=>none
  | n2+1,(a0,a1,mQ,rF,lZ,AA,Kk)=>(ix a0 mQ).bind fun SB=>bif (decide<|AA < (SB.Kids.length:Int)) then (ix a0 mQ).bind fun XT=>(ix XT.Kids AA).bind fun XU=>(app 8 Kk [(IntKind.wrap .i64<|XU+a1)]).bind fun OT=>(Da N jk n2) (a0,a1,mQ,rF,lZ,(IntKind.wrap .i64<|AA+1),OT) else ((app 72 rF [(⟨lZ.Kind,lZ.Op,lZ.Text,lZ.Other,Kk⟩:aB)]).bind fun OU=>jk (a0,a1,(IntKind.wrap .i64<|mQ+1),OU))
def yZ (N:Nat):Nat->(LN×Int×Int×LN)->Option LN
  | 0,_=>none
  | n1+1,(a0,a1,mQ,rF)=>bif (decide<|mQ < (a0.length:Int)) then (ix a0 mQ).bind fun lZ=>Da N (yZ N n1) N (a0,a1,mQ,rF,lZ,0,[]) else (some rF)
def AB (N:Nat) (a0:LN) (a1:Int):Option LN:=
  yZ N N (a0,a1,0,[])
def AJ (N:Nat):Nat->((List LN)×aB×Int×LN×(List Int))->Option LN
  | 0,_=>none
  | n1+1,(a1,a0,sM,oF,Kl)=>bif (decide<|sM < (a1.length:Int)) then (ix a1 sM).bind fun SC=>(AB N SC (oF.length:Int)).bind fun sN=>(app 72 oF sN).bind fun Gm=>(app 8 Kl [(IntKind.wrap .i64<|(Gm.length:Int) - 1)]).bind fun OV=>(AJ N n1) (a1,a0,(IntKind.wrap .i64<|sM+1),Gm,OV) else ((app 72 oF [(⟨a0.Kind,a0.Op,a0.Text,a0.Other,Kl⟩:aB)]).bind fun XV=>some XV)
def dQ (N:Nat) (a0:aB) (a1:List LN):Option LN:=
  AJ N N (a1,a0,0,[],[])
def qB (a1:List Int) (pa:LU) (pb:Int) (pc:Int):Option (Int×Int×Int):=
  (fO (a1.length:Int) pa pb pc).bind fun r3=>(ix a1 r3.1).bind fun e4=>some (e4,r3.2.1,r3.2.2)
def Gn (pa:LU) (pb:Int) (pc:Int):Option (Int×Int×Int):=
  (qB [60,57,58,59,55,56,56,99,99,99,63,48,47,50,62,62,49,67,46,45,44] pa pb pc).bind fun r2=>some (r2.1,r2.2.1,r2.2.2)
structure xD where
  oG:Int->Int->Int->LU->Int->Int->Option ((List LN)×Int×Int)
  qC:Int->LU->Int->Int->Option (LN×Int×Int)
  dh:Int->LU->Int->Int->Option (LN×Int×Int)
def Db (N:Nat) (R:xD) (pa:LU):Nat->(Int×Int×Int×Int×(List LN))->Option ((List LN)×Int×Int)
  | 0,_=>none
  | n1+1,(a3,nL,sO,lu,kQ)=>bif (decide<|nL > 0) then (R.dh a3 pa sO lu).bind fun aZ=>(app 24 kQ [aZ.1]).bind fun za=>(Db N R pa n1) (a3,(IntKind.wrap .i64<|nL - 1),aZ.2.1,aZ.2.2,za) else (some (kQ,sO,lu))
def Km (N:Nat) (R:xD) (a1:Int) (a2:Int) (a3:Int) (pa:LU) (pb:Int) (pc:Int):Option ((List LN)×Int×Int):=
  (fO (IntKind.wrap .i64<|(IntKind.wrap .i64<|a2 - a1)+1) pa pb pc).bind fun jI=>Db N R pa N (a3,(IntKind.wrap .i64<|a1+jI.1),jI.2.1,jI.2.2,[])
def Kn (N:Nat) (R:xD) (a1:Int) (pa:LU) (pb:Int) (pc:Int):Option (LN×Int×Int):=
  (fO 4 pa pb pc).bind fun dP=>bif (dP.1==0) then (rE pa dP.2.1 dP.2.2).bind fun jh=>(R.dh (IntKind.wrap .i64<|a1 - 1) pa jh.2.1 jh.2.2).bind fun um=>(dQ N (⟨5,0,jh.1,[],[]⟩:aB) [um.1]).bind fun ji=>some (ji,um.2.1,um.2.2) else (bif (dP.1==1) then (R.dh (IntKind.wrap .i64<|a1 - 2) pa dP.2.1 dP.2.2).bind fun mR=>(dQ N (⟨6,0,[],[],[]⟩:aB) [mR.1]).bind fun fZ=>some (fZ,mR.2.1,mR.2.2) else ((rE pa dP.2.1 dP.2.2).bind fun mU=>some ([(⟨1,0,mU.1,[],[]⟩:aB)],mU.2.1,mU.2.2)))
def Gp (N:Nat) (R:xD) (pa:LU):(Int×(Int×Int×Int)×Bool)->Option (LN×Int×Int)
  | (a1,aZ,y96)=>bif y96 then (qB [56,55,61] pa aZ.2.1 aZ.2.2).bind fun uo=>(R.dh (IntKind.wrap .i64<|a1 - 1) pa uo.2.1 uo.2.2).bind fun Gq=>(dQ N (⟨11,uo.1,[],[],[]⟩:aB) [Gq.1]).bind fun Ko=>some (Ko,Gq.2.1,Gq.2.2) else (bif (aZ.1==9) then (rE pa aZ.2.1 aZ.2.2).bind fun uq=>(R.oG 1 2 (IntKind.wrap .i64<|a1 - 1) pa uq.2.1 uq.2.2).bind fun Gr=>(dQ N (⟨13,0,uq.1,[],[]⟩:aB) Gr.1).bind fun xE=>some (xE,Gr.2.1,Gr.2.2) else (bif (aZ.1==10) then (R.dh (IntKind.wrap .i64<|a1 - 1) pa aZ.2.1 aZ.2.2).bind fun AL=>(R.dh (IntKind.wrap .i64<|a1 - 1) pa AL.2.1 AL.2.2).bind fun AO=>(R.dh (IntKind.wrap .i64<|a1 - 1) pa AO.2.1 AO.2.2).bind fun Gt=>(dQ N (⟨14,0,[],[],[]⟩:aB) [AL.1,AO.1,Gt.1]).bind fun XW=>some (XW,Gt.2.1,Gt.2.2) else (bif (aZ.1==11) then (qB [54,38,43] pa aZ.2.1 aZ.2.2).bind fun Dc=>(R.qC (IntKind.wrap .i64<|a1 - 1) pa Dc.2.1 Dc.2.2).bind fun AP=>(R.dh (IntKind.wrap .i64<|a1 - 1) pa AP.2.1 AP.2.2).bind fun Gu=>(dQ N (⟨15,Dc.1,[],[],[]⟩:aB) [AP.1,Gu.1]).bind fun eZ=>some (eZ,Gu.2.1,Gu.2.2) else ((Gn pa aZ.2.1 aZ.2.2).bind fun rG=>(R.dh (IntKind.wrap .i64<|a1 - 1) pa rG.2.1 rG.2.2).bind fun vP=>(R.dh (IntKind.wrap .i64<|a1 - 1) pa vP.2.1 vP.2.2).bind fun Gv=>(dQ N (⟨12,rG.1,[],[],[]⟩:aB) [vP.1,Gv.1]).bind fun XY=>some (XY,Gv.2.1,Gv.2.2)))))
def Df (N:Nat) (R:xD) (a1:Int) (pa:LU) (pb:Int) (pc:Int):Option (LN×Int×Int):=
  bif (decide<|a1<=0) then (Gl pa pb pc).bind fun r4=>some (r4.1,r4.2.1,r4.2.2) else ((fO 2 pa pb pc).bind fun r6=>(fO 16 pa r6.2.1 r6.2.2).bind fun aZ=>bif (aZ.1==0) then (Gl pa aZ.2.1 aZ.2.2).bind fun Dh=>some (Dh.1,Dh.2.1,Dh.2.2) else (bif (aZ.1==1) then (R.qC a1 pa aZ.2.1 aZ.2.2).bind fun OW=>some (OW.1,OW.2.1,OW.2.2) else (bif (aZ.1==2) then (R.dh (IntKind.wrap .i64<|a1 - 1) pa aZ.2.1 aZ.2.2).bind fun rH=>(dQ N (⟨6,0,[],[],[]⟩:aB) [rH.1]).bind fun XZ=>some (XZ,rH.2.1,rH.2.2) else (bif (aZ.1==3) then (rE pa aZ.2.1 aZ.2.2).bind fun nM=>(R.oG 0 3 (IntKind.wrap .i64<|a1 - 1) pa nM.2.1 nM.2.2).bind fun vQ=>(dQ N (⟨7,0,nM.1,[],[]⟩:aB) vQ.1).bind fun ze=>some (ze,vQ.2.1,vQ.2.2) else (bif (aZ.1==4) then (lY [[108,101,110,103,116,104],[115,117,98,115,116,114],[105,110,100,101,120],[105,110,116],[116,111,117,112,112,101,114]] pa aZ.2.1 aZ.2.2).bind fun Di=>(R.oG 0 3 (IntKind.wrap .i64<|a1 - 2) pa Di.2.1 Di.2.2).bind fun jv=>(dQ N (⟨8,0,Di.1,[],[]⟩:aB) jv.1).bind fun nN=>some (nN,jv.2.1,jv.2.2) else (bif (aZ.1==5) then (R.qC (IntKind.wrap .i64<|a1 - 1) pa aZ.2.1 aZ.2.2).bind fun oH=>(dQ N (⟨9,(IntKind.wrap .i64<|51+r6.1),[],[],[]⟩:aB) [oH.1]).bind fun Kq=>some (Kq,oH.2.1,oH.2.2) else (bif (aZ.1==6) then (R.qC (IntKind.wrap .i64<|a1 - 1) pa aZ.2.1 aZ.2.2).bind fun oI=>(dQ N (⟨10,(IntKind.wrap .i64<|51+r6.1),[],[],[]⟩:aB) [oI.1]).bind fun uw=>some (uw,oI.2.1,oI.2.2) else (bif (aZ.1==7) then Gp N R pa (a1,aZ,(aZ.1==7)) else (Gp N R pa (a1,aZ,(aZ.1==8)))))))))))
def kR:Nat->xD
  | 0=>⟨fun _ _ _ _ _ _=>none,fun _ _ _ _=>none,fun _ _ _ _=>none⟩
  | N+1=>⟨fun a1 a2 a3 pa pb pc=>Km N (kR N) a1 a2 a3 pa pb pc,fun a1 pa pb pc=>Kn N (kR N) a1 pa pb pc,fun a1 pa pb pc=>Df N (kR N) a1 pa pb pc⟩
def oG (N:Nat) (a1:Int) (a2:Int) (a3:Int) (pa:LU) (pb:Int) (pc:Int):Option ((List LN)×Int×Int):=(kR N).oG a1 a2 a3 pa pb pc
def qC (N:Nat) (a1:Int) (pa:LU) (pb:Int) (pc:Int):Option (LN×Int×Int):=(kR N).qC a1 pa pb pc
def dh (N:Nat) (a1:Int) (pa:LU) (pb:Int) (pc:Int):Option (LN×Int×Int):=(kR N).dh a1 pa pb pc
def Dj (N:Nat) (pa:LU):Nat->(Int×Int)->Option (LN×Int×Int)
  | 0,_=>none
  | n1+1,(pb,pc)=>(fO 4 pa pb pc).bind fun r9=>(dh N (IntKind.wrap .i64<|1+r9.1) pa r9.2.1 r9.2.2).bind fun bT=>bif (decide<|(bT.1.length:Int)<=60) then some (bT.1,bT.2.1,bT.2.2) else ((Dj N pa n1) (bT.2.1,bT.2.2))
def Gw (N:Nat) (pa:LU) (pb:Int) (pc:Int):Option (LN×Int×Int):=
  Dj N pa N (pb,pc)
def Gx (N:Nat) (pa:LU):(Int×Int×Int)->Option (LN×Int×Int)
  | (a1,kQ,Kr)=>(dh N a1 pa kQ Kr).bind fun kr=>(dQ N (⟨20,0,[],[],[]⟩:aB) [kr.1]).bind fun iy=>some (iy,kr.2.1,kr.2.2)
def Gy (N:Nat) (pa:LU):((Int×Int×Int)×LU×(List LN)×Int×Int)->Option (LN×Int×Int)
  | (gP,Kt,Gz,sM,oF)=>(dQ N (⟨21,gP.1,[],Kt,[]⟩:aB) Gz).bind fun rH=>some (rH,sM,oF)
def GA (N:Nat) (pa:LU):(Int×(Int×Int×Int)×Bool)->Option (LN×Int×Int)
  | (a1,dB,uy)=>bif uy then (fO 2 pa dB.2.1 dB.2.2).bind fun gP=>(oG N gP.1 3 a1 pa gP.2.1 gP.2.2).bind fun sP=>(qA 3 pa sP.2.1 sP.2.2).bind fun sQ=>bif sQ.1 then (lY [[62],[62,62],[124]] pa sQ.2.1 sQ.2.2).bind fun ku=>(dh N (IntKind.wrap .i64<|a1 - 1) pa ku.2.1 ku.2.2).bind fun ze=>(app 24 sP.1 [ze.1]).bind fun x82=>Gy N pa (gP,ku.1,x82,ze.2.1,ze.2.2) else (Gy N pa (gP,[],sP.1,sQ.2.1,sQ.2.2)) else (bif (dB.1==2) then (qB [22,25,26] pa dB.2.1 dB.2.2).bind fun OX=>some ([(⟨OX.1,0,[],[],[]⟩:aB)],OX.2.1,OX.2.2) else (bif (dB.1==3) then (qB [23,24] pa dB.2.1 dB.2.2).bind fun kC=>(oG N 0 1 a1 pa kC.2.1 kC.2.2).bind fun gK=>(dQ N (⟨kC.1,0,[],[],[]⟩:aB) gK.1).bind fun oH=>some (oH,gK.2.1,gK.2.2) else (bif (dB.1==4) then (rE pa dB.2.1 dB.2.2).bind fun oI=>(oG N 0 2 (IntKind.wrap .i64<|a1 - 1) pa oI.2.1 oI.2.2).bind fun uw=>(dQ N (⟨27,0,oI.1,[],[]⟩:aB) uw.1).bind fun mV=>some (mV,uw.2.1,uw.2.2) else (bif (dB.1==5) then (qA 2 pa dB.2.1 dB.2.2).bind fun kT=>bif kT.1 then (lY [[35],[35,32,110,111,116,101],[35,120,32,61,32,49]] pa kT.2.1 kT.2.2).bind fun uo=>some ([(⟨34,0,uo.1,[],[]⟩:aB)],uo.2.1,uo.2.2) else (Gx N pa (a1,kT.2.1,kT.2.2)) else (Gx N pa (a1,dB.2.1,dB.2.2))))))
def Ku (N:Nat) (a1:Int) (pa:LU) (pb:Int) (pc:Int):Option (LN×Int×Int):=
  (fO 9 pa pb pc).bind fun dB=>bif (dB.1==0) then GA N pa (a1,dB,(dB.1==0)) else (GA N pa (a1,dB,(dB.1==1)))
def xG (N:Nat) (a1:Int) (pa:LU) (pb:Int) (pc:Int):Option (LN×Int×Int):=
  (qA 3 pa pb pc).bind fun r4=>bif r4.1 then some ([(⟨16,0,[],[],[]⟩:aB)],r4.2.1,r4.2.2) else ((dh N a1 pa r4.2.1 r4.2.2).bind fun r6=>some (r6.1,r6.2.1,r6.2.2))
structure Dl where
  fG:Int->LU->Int->Int->Option (LN×Int×Int)
  uz:Int->LU->Int->Int->Option (LN×Int×Int)
def Dm (N:Nat) (R:Dl) (pa:LU):Nat->(Int×Int×Int×Int×(List LN))->Option (LN×Int×Int)
  | 0,_=>none
  | n1+1,(a1,nL,sO,lu,kQ)=>bif (decide<|nL > 0) then (R.uz a1 pa sO lu).bind fun aZ=>(app 24 kQ [aZ.1]).bind fun za=>(Dm N R pa n1) (a1,(IntKind.wrap .i64<|nL - 1),aZ.2.1,aZ.2.2,za) else ((dQ N (⟨33,0,[],[],[]⟩:aB) kQ).bind fun vR=>some (vR,sO,lu))
def Kv (N:Nat) (R:Dl) (a1:Int) (pa:LU) (pb:Int) (pc:Int):Option (LN×Int×Int):=
  (fO 3 pa pb pc).bind fun jI=>Dm N R pa N (a1,jI.1,jI.2.1,jI.2.2,[])
def Dn (N:Nat) (R:Dl) (a1:Int) (pa:LU) (pb:Int) (pc:Int):Option (LN×Int×Int):=
  (bif (decide<|a1<=0) then some (true,pb,pc) else ((qA 3 pa pb pc).bind fun lX=>some ((!lX.1),lX.2.1,lX.2.2))).bind fun (y9,kD,bY)=>bif y9 then (Ku N (if 2 < a1 then 2 else a1) pa kD bY).bind fun dP=>some (dP.1,dP.2.1,dP.2.2) else ((fO 6 pa kD bY).bind fun dD=>bif (dD.1==0) then (dh N 1 pa dD.2.1 dD.2.2).bind fun gP=>(R.fG (IntKind.wrap .i64<|a1 - 1) pa gP.2.1 gP.2.2).bind fun iW=>(dQ N (⟨28,0,[],[],[]⟩:aB) [gP.1,iW.1]).bind fun sP=>some (sP,iW.2.1,iW.2.2) else (bif (dD.1==1) then (dh N 1 pa dD.2.1 dD.2.2).bind fun qD=>(R.fG (IntKind.wrap .i64<|a1 - 1) pa qD.2.1 qD.2.2).bind fun uD=>(R.fG (IntKind.wrap .i64<|a1 - 1) pa uD.2.1 uD.2.2).bind fun aZ=>(dQ N (⟨28,0,[],[],[]⟩:aB) [qD.1,uD.1,aZ.1]).bind fun xH=>some (xH,aZ.2.1,aZ.2.2) else (bif (dD.1==2) then (dh N 1 pa dD.2.1 dD.2.2).bind fun uE=>(R.fG (IntKind.wrap .i64<|a1 - 1) pa uE.2.1 uE.2.2).bind fun sS=>(dQ N (⟨29,0,[],[],[]⟩:aB) [uE.1,sS.1]).bind fun rH=>some (rH,sS.2.1,sS.2.2) else (bif (dD.1==3) then (R.fG (IntKind.wrap .i64<|a1 - 1) pa dD.2.1 dD.2.2).bind fun ku=>(dh N 1 pa ku.2.1 ku.2.2).bind fun nM=>(dQ N (⟨30,0,[],[],[]⟩:aB) [ku.1,nM.1]).bind fun vQ=>some (vQ,nM.2.1,nM.2.2) else (bif (dD.1==4) then (xG N 2 pa dD.2.1 dD.2.2).bind fun jv=>(xG N 1 pa jv.2.1 jv.2.2).bind fun nN=>(xG N 1 pa nN.2.1 nN.2.2).bind fun kC=>(R.fG (IntKind.wrap .i64<|a1 - 1) pa kC.2.1 kC.2.2).bind fun gK=>(dQ N (⟨31,0,[],[],[]⟩:aB) [jv.1,nN.1,kC.1,gK.1]).bind fun oH=>some (oH,gK.2.1,gK.2.2) else ((qA 2 pa dD.2.1 dD.2.2).bind fun mV=>bif mV.1 then (R.fG (IntKind.wrap .i64<|a1 - 1) pa mV.2.1 mV.2.2).bind fun kT=>some (kT.1,kT.2.1,kT.2.2) else ((rE pa mV.2.1 mV.2.2).bind fun vS=>(rE pa vS.2.1 vS.2.2).bind fun rJ=>(R.fG (IntKind.wrap .i64<|a1 - 1) pa rJ.2.1 rJ.2.2).bind fun sN=>(dQ N (⟨32,0,vS.1,rJ.1,[]⟩:aB) [sN.1]).bind fun uq=>some (uq,sN.2.1,sN.2.2))))))))
def kU:Nat->Dl
  | 0=>⟨fun _ _ _ _=>none,fun _ _ _ _=>none⟩
  | N+1=>⟨fun a1 pa pb pc=>Kv N (kU N) a1 pa pb pc,fun a1 pa pb pc=>Dn N (kU N) a1 pa pb pc⟩
def fG (N:Nat) (a1:Int) (pa:LU) (pb:Int) (pc:Int):Option (LN×Int×Int):=(kU N).fG a1 pa pb pc
def uz (N:Nat) (a1:Int) (pa:LU) (pb:Int) (pc:Int):Option (LN×Int×Int):=(kU N).uz a1 pa pb pc
def Dp (N:Nat) (pa:LU):Nat->((Int×Int×Int)×Int×Int×Int×(List LN))->Option (LN×Int×Int)
  | 0,_=>none
  | n1+1,(r2,Dq,Dt,Du,Kw)=>bif (decide<|Dq > 0) then (rE pa Dt Du).bind fun AQ=>(app 24 Kw [[(⟨1,0,AQ.1,[],[]⟩:aB)]]).bind fun OY=>(Dp N pa n1) (r2,(IntKind.wrap .i64<|Dq - 1),AQ.2.1,AQ.2.2,OY) else ((lY [[102],[103],[109,97,120]] pa Dt Du).bind fun Dv=>(fG N (IntKind.wrap .i64<|1+r2.1) pa Dv.2.1 Dv.2.2).bind fun OZ=>(app 24 Kw [OZ.1]).bind fun Pb=>(dQ N (⟨44,0,Dv.1,[],[]⟩:aB) Pb).bind fun Ya=>some (Ya,OZ.2.1,OZ.2.2))
def Ky (N:Nat) (pa:LU) (pb:Int) (pc:Int):Option (LN×Int×Int):=
  (fO 2 pa pb pc).bind fun r2=>(fO 8 pa r2.2.1 r2.2.2).bind fun eZ=>bif (eZ.1==0) then (fO 2 pa eZ.2.1 eZ.2.2).bind fun Dw=>(fG N (IntKind.wrap .i64<|1+r2.1) pa Dw.2.1 Dw.2.2).bind fun rG=>(dQ N (⟨(IntKind.wrap .i64<|40+Dw.1),0,[],[],[]⟩:aB) [rG.1]).bind fun vP=>some (vP,rG.2.1,rG.2.2) else (bif (eZ.1==1) then (dh N (IntKind.wrap .i64<|1+r2.1) pa eZ.2.1 eZ.2.2).bind fun GD=>(dQ N (⟨42,1,[],[],[]⟩:aB) [GD.1]).bind fun Kz=>some (Kz,GD.2.1,GD.2.2) else (bif (eZ.1==2) then (fG N (IntKind.wrap .i64<|1+r2.1) pa eZ.2.1 eZ.2.2).bind fun GH=>(dQ N (⟨42,2,[],[],[]⟩:aB) [GH.1]).bind fun Yb=>some (Yb,GH.2.1,GH.2.2) else (bif (eZ.1==3) then (dh N 1 pa eZ.2.1 eZ.2.2).bind fun sU=>(dh N 1 pa sU.2.1 sU.2.2).bind fun GI=>(dQ N (⟨43,1,[],[],[]⟩:aB) [sU.1,GI.1]).bind fun Yc=>some (Yc,GI.2.1,GI.2.2) else (bif (eZ.1==4) then (dh N 1 pa eZ.2.1 eZ.2.2).bind fun AU=>(dh N 1 pa AU.2.1 AU.2.2).bind fun AV=>(fG N (IntKind.wrap .i64<|1+r2.1) pa AV.2.1 AV.2.2).bind fun GJ=>(dQ N (⟨43,3,[],[],[]⟩:aB) [AU.1,AV.1,GJ.1]).bind fun Yd=>some (Yd,GJ.2.1,GJ.2.2) else (bif (eZ.1==5) then (fO 3 pa eZ.2.1 eZ.2.2).bind fun Dx=>Dp N pa N (r2,Dx.1,Dx.2.1,Dx.2.2,[]) else (bif (eZ.1==6) then (lY [[35,32,116,111,112],[35]] pa eZ.2.1 eZ.2.2).bind fun Pf=>some ([(⟨34,0,Pf.1,[],[]⟩:aB)],Pf.2.1,Pf.2.2) else ((dh N (IntKind.wrap .i64<|1+r2.1) pa eZ.2.1 eZ.2.2).bind fun AX=>(fG N (IntKind.wrap .i64<|1+r2.1) pa AX.2.1 AX.2.2).bind fun GK=>(dQ N (⟨42,3,[],[],[]⟩:aB) [AX.1,GK.1]).bind fun Ye=>some (Ye,GK.2.1,GK.2.2))))))))
def Dy (N:Nat) (pa:LU) (jk:(Int×Int)->Option (LN×Int×Int)):Nat->(Int×Int×Int×(List LN))->Option (LN×Int×Int)
  | 0,_=>none
  | n2+1,(xI,uF,AY,Dz)=>bif (decide<|xI > 0) then (Ky N pa uF AY).bind fun AZ=>(app 24 Dz [AZ.1]).bind fun Ph=>(Dy N pa jk n2) ((IntKind.wrap .i64<|xI - 1),AZ.2.1,AZ.2.2,Ph) else ((dQ N (⟨45,0,[],[],[]⟩:aB) Dz).bind fun sU=>bif (decide<|(sU.length:Int)<=220) then some (sU,uF,AY) else (jk (uF,AY)))
def zf (N:Nat) (pa:LU):Nat->(Int×Int)->Option (LN×Int×Int)
  | 0,_=>none
  | n1+1,(pb,pc)=>(fO 4 pa pb pc).bind fun xE=>Dy N pa (zf N pa n1) N (xE.1,xE.2.1,xE.2.2,[])
def KC (N:Nat) (pa:LU) (pb:Int) (pc:Int):Option (LN×Int×Int):=
  zf N pa N (pb,pc)
def GL (N:Nat) (pa:LU):((Int×Int×Int)×Bool)->Option (LN×Int×Int)
  | (r9,kD)=>bif kD then (Gw N pa r9.2.1 r9.2.2).bind fun lX=>some (lX.1,lX.2.1,lX.2.2) else (bif (r9.1==2) then (uz N 2 pa r9.2.1 r9.2.2).bind fun dP=>some (dP.1,dP.2.1,dP.2.2) else ((KC N pa r9.2.1 r9.2.2).bind fun r16=>some (r16.1,r16.2.1,r16.2.2)))
def GN (N:Nat) (pa:LU) (pb:Int) (pc:Int):Option (LN×Int×Int):=
  (fO 5 pa pb pc).bind fun r9=>bif (r9.1==0) then GL N pa (r9,(r9.1==0)) else (GL N pa (r9,(r9.1==1)))
def DC (N:Nat) (pa:LU):(LN×Int×Int)->Option (LN×Int×Int)
  | (y31,y32,qE)=>some (y31,y32,qE)
def KD (N:Nat) (pa:LU) (pb:Int) (pc:Int):Option (LN×Int×Int):=
  (GN N pa pb pc).bind fun r2=>(fO (r2.1.length:Int) pa r2.2.1 r2.2.2).bind fun r4=>(fO 12 pa r4.2.1 r4.2.2).bind fun bQ=>bif (bQ.1==0) then (cut r2.1 0 r4.1).bind fun GQ=>some (GQ,bQ.2.1,bQ.2.2) else (bif (bQ.1==1) then (ix r2.1 r4.1).bind fun e39=>(qB [(-1),r4.1,0,99] pa bQ.2.1 bQ.2.2).bind fun lC=>(app 8 e39.Kids [lC.1]).bind fun Pj=>(upd r2.1 r4.1 (⟨e39.Kind,e39.Op,e39.Text,e39.Other,Pj⟩:aB)).bind fun KE=>DC N pa (KE,lC.2.1,lC.2.2) else (bif (bQ.1==2) then (ix r2.1 r4.1).bind fun e47=>bif (decide<|(e47.Kids.length:Int) > 0) then (ix r2.1 r4.1).bind fun e49=>(fO (IntKind.wrap .i64<|r4.1+1) pa bQ.2.1 bQ.2.2).bind fun iy=>(ix e49.Kids 0).bind fun e54=>(upd e49.Kids 0<|IntKind.wrap .i64<|iy.1 - 1).bind fun x55=>(upd r2.1 r4.1 (⟨e49.Kind,e49.Op,e49.Text,e49.Other,x55⟩:aB)).bind fun KF=>DC N pa (KF,iy.2.1,iy.2.2) else (DC N pa (r2.1,bQ.2.1,bQ.2.2)) else (bif (bQ.1==3) then (app 72 r2.1 r2.1).bind fun GR=>some (GR,bQ.2.1,bQ.2.2) else (DC N pa (r2.1,bQ.2.1,bQ.2.2)))))
def Ba (N:Nat) (pa:LU):(LN×Int×Int)->Option (LN×Int×Int)
  | (qE,y34,eD)=>some (qE,y34,eD)
def KG (N:Nat) (pa:LU) (pb:Int) (pc:Int):Option (LN×Int×Int):=
  (GN N pa pb pc).bind fun r2=>(fO (r2.1.length:Int) pa r2.2.1 r2.2.2).bind fun r4=>(fO 14 pa r4.2.1 r4.2.2).bind fun dR=>bif (dR.1==0) then (fO 47 pa dR.2.1 dR.2.2).bind fun rM=>(ix r2.1 r4.1).bind fun e42=>(upd r2.1 r4.1 (⟨rM.1,e42.Op,e42.Text,e42.Other,e42.Kids⟩:aB)).bind fun x43=>Ba N pa (x43,rM.2.1,rM.2.2) else (bif (dR.1==1) then (qB [0,1,56,99,54,51,(-1)] pa dR.2.1 dR.2.2).bind fun jJ=>(ix r2.1 r4.1).bind fun e48=>(upd r2.1 r4.1 (⟨e48.Kind,jJ.1,e48.Text,e48.Other,e48.Kids⟩:aB)).bind fun SE=>Ba N pa (SE,jJ.2.1,jJ.2.2) else (bif (dR.1==2) then (lY [[],[120],[105,102],[108,101,110,103,116,104],[49],[47]] pa dR.2.1 dR.2.2).bind fun iy=>(ix r2.1 r4.1).bind fun e54=>(upd r2.1 r4.1 (⟨e54.Kind,e54.Op,iy.1,e54.Other,e54.Kids⟩:aB)).bind fun x55=>Ba N pa (x55,iy.2.1,iy.2.2) else (bif (dR.1==3) then (lY [[],[62],[120]] pa dR.2.1 dR.2.2).bind fun iW=>(ix r2.1 r4.1).bind fun e60=>(upd r2.1 r4.1 (⟨e60.Kind,e60.Op,e60.Text,iW.1,e60.Kids⟩:aB)).bind fun SF=>Ba N pa (SF,iW.2.1,iW.2.2) else (bif (dR.1==4) then (KD N pa dR.2.1 dR.2.2).bind fun KH=>some (KH.1,KH.2.1,KH.2.2) else (Ba N pa (r2.1,dR.2.1,dR.2.2))))))
def KI (N:Nat) (pa:LU) (pb:Int) (pc:Int):Option (LN×Int×Int):=
  (qA 10 pa pb pc).bind fun r6=>bif r6.1 then (KG N pa r6.2.1 r6.2.2).bind fun r8=>some (r8.1,r8.2.1,r8.2.2) else ((Gw N pa r6.2.1 r6.2.2).bind fun bT=>some (bT.1,bT.2.1,bT.2.2))
structure GU where
  jS:Int->LU->Int->Int->Option (LN×Int×Int)
def KJ (N:Nat) (R:GU) (pa:LU):(Int×Int×Int×Int×Bool)->Option (LN×Int×Int)
  | (a1,y5,y6,y7,y29)=>bif y29 then (lY [[48],[49],[50],[55],[49,48],[57,57,57,57,57,57,57,57,57],[51,46,53]] pa y6 y7).bind fun uG=>some ([(⟨2,0,uG.1,[],[]⟩:aB)],uG.2.1,uG.2.2) else (bif (y5==3) then (qB [56,61,55] pa y6 y7).bind fun bQ=>(R.jS (IntKind.wrap .i64<|a1 - 1) pa bQ.2.1 bQ.2.2).bind fun jI=>(dQ N (⟨11,bQ.1,[],[],[]⟩:aB) [jI.1]).bind fun dR=>some (dR,jI.2.1,jI.2.2) else (bif (y5==4) then (R.jS (IntKind.wrap .i64<|a1 - 1) pa y6 y7).bind fun pW=>(R.jS (IntKind.wrap .i64<|a1 - 1) pa pW.2.1 pW.2.2).bind fun lC=>(R.jS (IntKind.wrap .i64<|a1 - 1) pa lC.2.1 lC.2.2).bind fun uH=>(dQ N (⟨14,0,[],[],[]⟩:aB) [pW.1,lC.1,uH.1]).bind fun KL=>some (KL,uH.2.1,uH.2.2) else ((qB [55,56,57,59,63,47,49,45,44,55,50,62,48,58] pa y6 y7).bind fun jJ=>(R.jS (IntKind.wrap .i64<|a1 - 1) pa jJ.2.1 jJ.2.2).bind fun vT=>(R.jS (IntKind.wrap .i64<|a1 - 1) pa vT.2.1 vT.2.2).bind fun kr=>(dQ N (⟨12,jJ.1,[],[],[]⟩:aB) [vT.1,kr.1]).bind fun iy=>some (iy,kr.2.1,kr.2.2))))
def GV (N:Nat) (R:GU) (pa:LU):(Int×Int×Int×Int)->Option (LN×Int×Int)
  | (a1,y5,y6,y7)=>bif (y5==0) then (lY [[120],[121],[110]] pa y6 y7).bind fun iX=>some ([(⟨1,0,iX.1,[],[]⟩:aB)],iX.2.1,iX.2.2) else (bif (y5==1) then KJ N R pa (a1,y5,y6,y7,(y5==1)) else (KJ N R pa (a1,y5,y6,y7,(y5==2))))
def DF (N:Nat) (R:GU) (a1:Int) (pa:LU) (pb:Int) (pc:Int):Option (LN×Int×Int):=
  (fO 10 pa pb pc).bind fun r2=>bif (decide<|a1<=0) then (fO 3 pa r2.2.1 r2.2.2).bind fun dB=>GV N R pa (a1,dB.1,dB.2.1,dB.2.2) else (GV N R pa (a1,r2.1,r2.2.1,r2.2.2))
def zh:Nat->GU
  | 0=>⟨fun _ _ _ _=>none⟩
  | N+1=>⟨fun a1 pa pb pc=>DF N (zh N) a1 pa pb pc⟩
def jS (N:Nat) (a1:Int) (pa:LU) (pb:Int) (pc:Int):Option (LN×Int×Int):=(zh N).jS a1 pa pb pc
def KM (N:Nat) (a0:LU):Option LN:=
  (OM N a0).bind fun r2=>(qA 5 r2.1 r2.2.1 r2.2.2).bind fun r8=>bif r8.1 then (KI N r2.1 r8.2.1 r8.2.2).bind fun bT=>some bT.1 else ((Gn r2.1 r8.2.1 r8.2.2).bind fun kE=>(jS N 2 r2.1 kE.2.1 kE.2.2).bind fun r16=>(jS N 2 r2.1 r16.2.1 r16.2.2).bind fun sV=>(dQ N (⟨12,kE.1,[],[],[]⟩:aB) [r16.1,sV.1]).bind fun jh=>some jh)
def lD (a0:Int) (a1:Int) (a2:Int):Option Bool:=
  (bif (decide<|a0>=a1) then some (decide<|a0<=a2) else (some false)).bind fun y1=>some y1
def Bb (N:Nat) (jk:(LN×Int×(List Int))->Option ((List Int)×Bool)) (a0:LN) (iI:Int) (qF:aB) (mW:List Int):List Int->Int->Option ((List Int)×Bool)
  | [],pX=>(ix mW iI).bind fun afh=>(upd mW iI<|IntKind.wrap .i64<|pX+1).bind fun Pk=>jk (a0,(IntKind.wrap .i64<|iI+1),Pk)
  | e339::Yf,pX=>(bif (decide<|pX < 0) then some true else (some<|e339 !=pX)).bind fun SG=>bif SG then some ([],false) else ((ix mW e339).bind fun KN=>(Bb N jk a0 iI qF mW Yf)<|IntKind.wrap .i64<|KN - 1)
def zi (N:Nat):Nat->(LN×Int×(List Int))->Option ((List Int)×Bool)
  | 0,_=>none
  | n1+1,(a0,iI,mW)=>bif (decide<|iI < (a0.length:Int)) then (ix a0 iI).bind fun qF=>Bb N (zi N n1) a0 iI qF mW (qF.Kids.reverse) (IntKind.wrap .i64<|iI - 1) else ((ix mW<|IntKind.wrap .i64<|(a0.length:Int) - 1).bind fun KO=>some (mW,(KO==0)))
def KP (N:Nat) (a0:LN):Option ((List Int)×Bool):=
  (lD (a0.length:Int) 1 400).bind fun r4=>bif (!r4) then some ([],false) else ((mk 8 0 (a0.length:Int)).bind fun x6=>zi N N (a0,0,x6))
def KQ (N:Nat) (a0:LN):Option Bool:=
  (KP N a0).bind fun r2=>some r2.2
def vU (a0:Int):Option Bool:=
  (lD a0 1 15).bind fun r2=>some r2
def GX (a0:Int):Option Bool:=
  (bif (decide<|a0>=97) then bif (decide<|a0<=122) then some true else (bif (decide<|a0>=65) then bif (decide<|a0<=90) then some true else (some<|a0==95) else (some<|a0==95)) else (bif (decide<|a0>=65) then bif (decide<|a0<=90) then some true else (some<|a0==95) else (some<|a0==95))).bind fun y1=>some y1
def GY (a0:Int):Option Bool:=
  (bif (decide<|a0>=48) then some (decide<|a0<=57) else (some false)).bind fun y1=>some y1
def KR (a0:Int):Option Bool:=
  ((GX a0).bind fun r4=>bif r4 then some true else ((GY a0).bind fun r5=>some r5)).bind fun y3=>some y3
def DI (N:Nat):Nat->(LU×Int)->Option Bool
  | 0,_=>none
  | n1+1,(a0,eD)=>bif (decide<|eD < (a0.length:Int)) then (ix a0 eD).bind fun DJ=>(KR<|IntKind.wrap .i64 ((DJ).toNat:Int)).bind fun kr=>bif (!kr) then some false else ((DI N n1) (a0,(IntKind.wrap .i64<|eD+1))) else (((lD (a0.length:Int) 1 12).bind fun KS=>bif KS then (ix a0 0).bind fun DK=>(GX<|IntKind.wrap .i64 ((DK).toNat:Int)).bind fun iW=>some iW else (some false)).bind fun uy=>some uy)
def Pm (N:Nat) (a0:LU):Option Bool:=
  DI N N (a0,0)
def Bc (N:Nat):Nat->(gN×LU×Int)->Option Int
  | 0,_=>none
  | n1+1,(a0,a1,dN)=>bif (decide<|dN < (a0.length:Int)) then (ix a0 dN).bind fun e28=>bif (a1==e28) then some dN else ((Bc N n1) (a0,a1,(IntKind.wrap .i64<|dN+1))) else (some<|-1)
def GZ (N:Nat) (a0:gN) (a1:LU):Option Int:=
  Bc N N (a0,a1,0)
def KT (N:Nat) (a0:LU):Option Int:=
  (GZ N oC a0).bind fun r2=>bif (decide<|r2 < 0) then some 0 else (some<|IntKind.wrap .i64<|10+r2)
def DL (N:Nat) (a0:gN) (a1:LU):Option Bool:=
  (GZ N a0 a1).bind fun r2=>some (decide<|r2>=0)
def DN (N:Nat) (a0:LU):Option Bool:=
  (DL N rA a0).bind fun r2=>some r2
def uI (N:Nat) (a0:LU):Option Bool:=
  ((Pm N a0).bind fun r5=>bif r5 then (KT N a0).bind fun r6=>bif (r6==0) then (DN N a0).bind fun r7=>some (!r7) else (some false) else (some false)).bind fun y4=>some y4
def SH (a0:LU) (a1:Int):Option Int:=
  some (Go.Lib.indexByte a0 (Int.toNat a1).toUInt8)
def KU (a0:LU):Option Int:=
  bif (([10]:LU)==a0) then some 0 else ((ix ([10]:LU) 0).bind fun b7=>(SH a0 ((b7).toNat:Int)).bind fun r8=>some r8)
def Pn (a0:LU):Option Int:=
  (KU a0).bind fun r2=>some r2
def KV (a0:LU):Option Bool:=
  (Pn a0).bind fun r2=>some (decide<|r2>=0)
def xJ (a0:LU) (a1:Int):Option Int:=
  (lD a1 0<|IntKind.wrap .i64<|(a0.length:Int) - 1).bind fun r4=>bif (!r4) then some (-1) else ((ix a0 a1).bind fun b6=>some<|IntKind.wrap .i64 ((b6).toNat:Int))
def DR (N:Nat):Nat->(LU×Int)->Option Int
  | 0,_=>none
  | n1+1,(a0,a1)=>(xJ a0 a1).bind fun kF=>(GY kF).bind fun jT=>bif jT then (DR N n1) (a0,(IntKind.wrap .i64<|a1+1)) else (some a1)
def He (N:Nat) (a0:LU) (a1:Int):Option Int:=
  DR N N (a0,a1)
def KW (N:Nat):Int->Option Int
  | bY=>some bY
def Hf (N:Nat):(LU×Int×Int)->Option Int
  | (a0,bY,y31)=>(He N a0 y31).bind fun kF=>bif (decide<|kF > y31) then some kF else (KW N bY)
def DT (N:Nat):(LU×Int×Int)->Option Int
  | (a0,bY,jH)=>bif (jH==0) then some (-1) else ((xJ a0 bY).bind fun mU=>(bif (mU==101) then some true else (some<|mU==69)).bind fun y27=>bif y27 then (xJ a0<|IntKind.wrap .i64<|bY+1).bind fun bQ=>(bif (bQ==43) then some true else (some<|bQ==45)).bind fun DU=>bif DU then Hf N (a0,bY,(IntKind.wrap .i64<|(IntKind.wrap .i64<|bY+1)+1)) else (Hf N (a0,bY,(IntKind.wrap .i64<|bY+1))) else (KW N bY))
def Hg (N:Nat) (a0:LU) (a1:Int):Option Int:=
  (lD a1 0<|IntKind.wrap .i64<|(a0.length:Int) - 1).bind fun r4=>bif (!r4) then some (-1) else ((He N a0 a1).bind fun r6=>(xJ a0 r6).bind fun KX=>bif (KX==46) then (He N a0<|IntKind.wrap .i64<|r6+1).bind fun sW=>DT N (a0,sW,(IntKind.wrap .i64<|(IntKind.wrap .i64<|r6 - a1)+(IntKind.wrap .i64<|(IntKind.wrap .i64<|sW - r6) - 1))) else (DT N (a0,r6,(IntKind.wrap .i64<|r6 - a1))))
def DV (N:Nat) (jk:(LU×Int×Int)->Option Int):(LU×Int×Int)->Option Int
  | (a0,a2,Bd)=>jk (a0,a2,(IntKind.wrap .i64<|Bd+1))
def xK (N:Nat):Nat->(LU×Int×Int)->Option Int
  | 0,_=>none
  | n1+1,(a0,a2,y91)=>(bif (decide<|y91 < (a0.length:Int)) then (ix a0 y91).bind fun Yg=>some (((Yg).toNat:Int) !=10) else (some false)).bind fun uF=>bif uF then (ix a0 y91).bind fun Yh=>bif ((IntKind.wrap .i64 ((Yh).toNat:Int))==a2) then some (IntKind.wrap .i64<|y91+1) else (((ix a0 y91).bind fun Yi=>bif (((Yi).toNat:Int)==92) then (xJ a0<|IntKind.wrap .i64<|y91+1).bind fun Kz=>some (Kz !=10) else (some false)).bind fun SI=>bif SI then DV N (xK N n1) (a0,a2,(IntKind.wrap .i64<|y91+1)) else (DV N (xK N n1) (a0,a2,y91))) else (some<|-1)
def Hl (N:Nat) (a0:LU) (a1:Int) (a2:Int):Option Int:=
  (xJ a0 a1).bind fun r4=>bif (r4 !=a2) then some (-1) else (xK N N (a0,a2,(IntKind.wrap .i64<|a1+1)))
def Ho (N:Nat) (a0:LU) (a1:Int):Option Int:=
  (Hl N a0 a1 34).bind fun r2=>some r2
def Hq (N:Nat) (a0:LU) (a1:Int):Option Int:=
  (Hl N a0 a1 47).bind fun r2=>bif (r2==(IntKind.wrap .i64<|a1+2)) then some (-1) else (some r2)
def KY (a0:Int):Option Bool:=
  (lD a0 10 26).bind fun r2=>some r2
def KZ (a0:Int):Option Bool:=
  (lD a0 30 68).bind fun r2=>some r2
def La (a0:Int):Option LU:=
  bif (a0==1) then some [10] else ((KY a0).bind fun bT=>bif bT then (ix oC<|IntKind.wrap .i64<|a0 - 10).bind fun e12=>some e12 else ((KZ a0).bind fun dP=>bif dP then (ix vK<|IntKind.wrap .i64<|a0 - 30).bind fun e16=>some e16 else (some [])))
def Hr (N:Nat):(lq×Bool)->Option Bool
  | (a0,y28)=>bif y28 then (uI N a0.Text).bind fun qG=>some qG else (bif (a0.Kind==8) then (DN N a0.Text).bind fun r32=>some r32 else ((La a0.Kind).bind fun jT=>some<|a0.Text==jT))
def Ht (N:Nat) (a0:lq):Option Bool:=
  bif (a0.Text==[]) then some false else (bif (a0.Kind==2) then ((ix a0.Text 0).bind fun b20=>bif (((b20).toNat:Int)==35) then (KV a0.Text).bind fun mX=>some (!mX) else (some false)).bind fun dN=>some dN else (bif (a0.Kind==3) then (Hg N a0.Text 0).bind fun mR=>some (mR==(a0.Text.length:Int)) else (bif (a0.Kind==4) then (Ho N a0.Text 0).bind fun zk=>some (zk==(a0.Text.length:Int)) else (bif (a0.Kind==5) then (Hq N a0.Text 0).bind fun oJ=>some (oJ==(a0.Text.length:Int)) else (bif (a0.Kind==6) then Hr N (a0,(a0.Kind==6)) else (Hr N (a0,(a0.Kind==7))))))))
def Po (a0:Int):Option Bool:=
  (bif (a0==51) then some true else (some<|a0==52)).bind fun y1=>some y1
def Hu:(Int×Bool)->Option Int
  | (a0,y8)=>bif y8 then some 10 else (bif (a0==60) then some 12 else (some 0))
def Lb:(Int×Bool)->Option Int
  | (a0,y7)=>bif y7 then some 9 else (bif (a0==57) then Hu (a0,(a0==57)) else (bif (a0==58) then Hu (a0,(a0==58)) else (Hu (a0,(a0==59)))))
def zl:(Int×Bool)->Option Int
  | (a0,y6)=>bif y6 then some 7 else (bif (a0==99) then some 8 else (bif (a0==55) then Lb (a0,(a0==55)) else (Lb (a0,(a0==56)))))
def Lc:(Int×Bool)->Option Int
  | (a0,y5)=>bif y5 then some 6 else (bif (a0==63) then zl (a0,(a0==63)) else (bif (a0==48) then zl (a0,(a0==48)) else (bif (a0==47) then zl (a0,(a0==47)) else (bif (a0==50) then zl (a0,(a0==50)) else (bif (a0==62) then zl (a0,(a0==62)) else (zl (a0,(a0==49))))))))
def Ld (a0:Int):Option Int:=
  bif (a0==44) then some 3 else (bif (a0==45) then some 4 else (bif (a0==67) then Lc (a0,(a0==67)) else (Lc (a0,(a0==46)))))
def Pp (a0:Int):Option Bool:=
  (bif (a0==54) then some true else ((lD a0 38 43).bind fun r3=>some r3)).bind fun y2=>some y2
def Lf (N:Nat):(aB×Bool)->Option iO
  | (a0,eD)=>bif eD then (Po a0.Op).bind fun dR=>some (⟨dR,(a0.Text==[]),false,1,1⟩:iO) else (bif (a0.Kind==11) then (bif (a0.Op==55) then some true else (bif (a0.Op==56) then some true else (some<|a0.Op==61))).bind fun y38=>some (⟨y38,(a0.Text==[]),false,1,1⟩:iO) else (bif (a0.Kind==12) then (Ld a0.Op).bind fun sW=>some (⟨(sW !=0),(a0.Text==[]),false,2,2⟩:iO) else (bif (a0.Kind==14) then some (⟨(a0.Op==0),(a0.Text==[]),false,3,3⟩:iO) else ((Pp a0.Op).bind fun pW=>some (⟨pW,(a0.Text==[]),false,2,2⟩:iO)))))
def Lg (N:Nat):(aB×Bool)->Option iO
  | (a0,y28)=>bif y28 then (uI N a0.Text).bind fun qG=>some (⟨(a0.Op==0),qG,false,1,6⟩:iO) else (bif (a0.Kind==6) then some (⟨(a0.Op==0),(a0.Text==[]),false,1,1⟩:iO) else (bif (a0.Kind==7) then (uI N a0.Text).bind fun r32=>some (⟨(a0.Op==0),r32,false,0,6⟩:iO) else (bif (a0.Kind==8) then (DN N a0.Text).bind fun jT=>some (⟨(a0.Op==0),jT,false,0,6⟩:iO) else (bif (a0.Kind==9) then Lf N (a0,(a0.Kind==9)) else (Lf N (a0,(a0.Kind==10)))))))
def Hw (N:Nat):(aB×Bool)->Option iO
  | (a0,y23)=>bif y23 then (ix [3,4,5]<|IntKind.wrap .i64<|a0.Kind - 2).bind fun e26=>(Ht N (⟨e26,a0.Text,0⟩:lq)).bind fun oJ=>some (⟨(a0.Op==0),oJ,false,0,0⟩:iO) else (bif (a0.Kind==5) then Lg N (a0,(a0.Kind==5)) else (Lg N (a0,(a0.Kind==13))))
def Pq (N:Nat) (a0:aB):Option iO:=
  bif (a0.Kind==1) then (uI N a0.Text).bind fun ig=>some (⟨(a0.Op==0),ig,false,0,0⟩:iO) else (bif (a0.Kind==2) then Hw N (a0,(a0.Kind==2)) else (bif (a0.Kind==3) then Hw N (a0,(a0.Kind==3)) else (Hw N (a0,(a0.Kind==4)))))
def Bf (a0:Int):Option Bool:=
  (lD a0 20 34).bind fun r2=>some r2
def qH (N:Nat):(Bool×Bool×Bool×Int×Int)->Option iO
  | (nO,jl,iY,iq,rO)=>some (⟨nO,jl,iY,iq,rO⟩:iO)
def Lh (N:Nat):(aB×Bool)->Option iO
  | (a0,y25)=>bif y25 then qH N ((a0.Op==0),(a0.Text==[]),(a0.Other==[]),2,2) else (bif (a0.Kind==31) then qH N ((a0.Op==0),(a0.Text==[]),(a0.Other==[]),4,4) else (bif (a0.Kind==32) then (uI N a0.Text).bind fun iX=>(uI N a0.Other).bind fun pY=>qH N ((a0.Op==0),iX,pY,1,1) else (bif (a0.Kind==33) then qH N ((a0.Op==0),(a0.Text==[]),(a0.Other==[]),0,400) else (bif (a0.Kind==34) then (Ht N (⟨2,a0.Text,0⟩:lq)).bind fun uG=>qH N ((a0.Op==0),uG,(a0.Other==[]),0,0) else (qH N ((a0.Op==0),(a0.Text==[]),(a0.Other==[]),0,0))))))
def Li (N:Nat):(aB×Bool)->Option iO
  | (a0,y22)=>bif y22 then qH N ((a0.Op==0),(a0.Text==[]),(a0.Other==[]),0,1) else (bif (a0.Kind==27) then (uI N a0.Text).bind fun fZ=>qH N ((a0.Op==0),fZ,(a0.Other==[]),0,6) else (bif (a0.Kind==28) then qH N ((a0.Op==0),(a0.Text==[]),(a0.Other==[]),2,3) else (bif (a0.Kind==29) then Lh N (a0,(a0.Kind==29)) else (Lh N (a0,(a0.Kind==30))))))
def Pt (N:Nat) (a0:aB):Option iO:=
  bif (a0.Kind==20) then qH N ((a0.Op==0),(a0.Text==[]),(a0.Other==[]),1,1) else (bif (a0.Kind==21) then (bif (a0.Op==0) then some true else (some<|a0.Op==1)).bind fun dN=>(DL N [[],[62],[62,62],[124]] a0.Other).bind fun mX=>bif (!(a0.Other==[])) then qH N (dN,(a0.Text==[]),mX,(IntKind.wrap .i64<|a0.Op+1),7) else (qH N (dN,(a0.Text==[]),mX,a0.Op,6)) else (bif (a0.Kind==23) then Li N (a0,(a0.Kind==23)) else (Li N (a0,(a0.Kind==24)))))
def Bg (N:Nat):(aB×Bool×Bool×Int×Int)->Option iO
  | (a0,y9,kD,bY,jH)=>some (⟨y9,kD,(a0.Other==[]),bY,jH⟩:iO)
def Lj (N:Nat):(Bool×aB×Int)->Option iO
  | (kE,a0,iY)=>Bg N (a0,kE,(a0.Text==[]),iY,iY)
def Ll (N:Nat):(Bool×aB×Int)->Option iO
  | (iq,a0,rO)=>Bg N (a0,iq,(a0.Text==[]),rO,rO)
def Lm (N:Nat):(aB×Bool)->Option iO
  | (a0,y13)=>bif y13 then Bg N (a0,(a0.Op==0),(a0.Text==[]),1,1) else (bif (a0.Kind==42) then (lD a0.Op 1 3).bind fun kE=>bif (a0.Op==3) then Lj N (kE,a0,2) else (Lj N (kE,a0,1)) else (bif (a0.Kind==43) then (bif (a0.Op==1) then some true else (some<|a0.Op==3)).bind fun iq=>bif (a0.Op==3) then Ll N (iq,a0,3) else (Ll N (iq,a0,2)) else (bif (a0.Kind==44) then (uI N a0.Text).bind fun ji=>Bg N (a0,(a0.Op==0),ji,1,7) else (Bg N (a0,(a0.Op==0),(a0.Text==[]),0,400)))))
def Pv (N:Nat) (a0:aB):Option iO:=
  bif (a0.Kind==40) then Lm N (a0,(a0.Kind==40)) else (Lm N (a0,(a0.Kind==41)))
def DW (N:Nat):(aB×Bool×Bool×Bool×Int×Int)->Option Bool
  | (a0,y13,nO,jl,iY,iq)=>(bif y13 then bif nO then bif jl then (lD (a0.Kids.length:Int) iY iq).bind fun ji=>some ji else (some false) else (some false) else (some false)).bind fun dN=>some dN
def Hy (N:Nat) (a0:aB):Option Bool:=
  (vU a0.Kind).bind fun ig=>bif ig then (Pq N a0).bind fun fZ=>DW N (a0,fZ.op,fZ.text,(a0.Other==[]),fZ.least,fZ.most) else (bif (a0.Kind==16) then DW N (a0,(a0.Op==0),(a0.Text==[]),(a0.Other==[]),0,0) else ((Bf a0.Kind).bind fun mU=>bif mU then (Pt N a0).bind fun iX=>DW N (a0,iX.op,iX.text,iX.other,iX.least,iX.most) else ((lD a0.Kind 40 45).bind fun qG=>bif qG then (Pv N a0).bind fun r32=>DW N (a0,r32.op,r32.text,r32.other,r32.least,r32.most) else (some false))))
def Hz (a0:Int):Option Bool:=
  (bif (a0==1) then some true else (bif (a0==5) then some true else (some<|a0==6))).bind fun y1=>some y1
def Pw (a0:Int):Option Bool:=
  (lD a0 40 44).bind fun r2=>some r2
def kG:(Int×Bool)->Option Bool
  | (a2,y22)=>bif y22 then some (a2==33) else ((vU a2).bind fun fZ=>some fZ)
def rP:(Int×Int×aB×Bool)->Option Bool
  | (a2,a1,a0,y38)=>bif y38 then kG (a2,true) else (bif (a0.Kind==33) then (Bf a2).bind fun sW=>some sW else (bif (a0.Kind==42) then (bif (a1==(IntKind.wrap .i64<|(a0.Kids.length:Int) - 1)) then some (decide<|a0.Op>=2) else (some false)).bind fun DX=>kG (a2,DX) else (bif (a0.Kind==43) then (bif (a1==(IntKind.wrap .i64<|(a0.Kids.length:Int) - 1)) then some (a0.Op==3) else (some false)).bind fun Px=>kG (a2,Px) else (bif (a0.Kind==44) then bif (!(a1==(IntKind.wrap .i64<|(a0.Kids.length:Int) - 1))) then some (a2==1) else (kG (a2,true)) else (bif (a0.Kind==45) then ((Pw a2).bind fun KL=>bif KL then some true else (some<|a2==34)).bind fun SK=>some SK else (kG (a2,false)))))))
def oK:(Int×Int×aB×Bool)->Option Bool
  | (a1,a2,a0,eD)=>bif eD then kG (a2,(decide<|a1 > 0)) else (bif (a0.Kind==31) then (bif (decide<|a1 < 3) then some (a2==16) else (some false)).bind fun nP=>bif nP then some true else (kG (a2,(a1==(IntKind.wrap .i64<|(a0.Kids.length:Int) - 1)))) else (bif (a0.Kind==30) then kG (a2,(a1==0)) else (bif (a0.Kind==32) then rP (a2,a1,a0,(a0.Kind==32)) else (bif (a0.Kind==40) then rP (a2,a1,a0,(a0.Kind==40)) else (rP (a2,a1,a0,(a0.Kind==41)))))))
def mg:(Int×Int×aB×Bool)->Option Bool
  | (a1,a2,a0,y25)=>bif y25 then (Hz a2).bind fun oJ=>some oJ else (bif (a0.Kind==15) then (bif (a1==0) then (Hz a2).bind fun r32=>bif r32 then some true else (bif (decide<|a1 > 0) then (vU a2).bind fun kF=>some kF else (some false)) else (bif (decide<|a1 > 0) then (vU a2).bind fun jT=>some jT else (some false))).bind fun y31=>some y31 else (bif (a0.Kind==28) then oK (a1,a2,a0,(a0.Kind==28)) else (oK (a1,a2,a0,(a0.Kind==29)))))
def mh (a0:aB) (a1:Int) (a2:Int):Option Bool:=
  bif (a0.Kind==9) then mg (a1,a2,a0,(a0.Kind==9)) else (mg (a1,a2,a0,(a0.Kind==10)))
structure Lp where
  uJ:LN->Int->Option aC
def Bh (N:Nat) (R:Lp):Nat->(LN×aB×Int×LS)->Option aC
  | 0,_=>none
  | n1+1,(a0,e2,Bj,rQ)=>bif (decide<|Bj < (e2.Kids.length:Int)) then (ix e2.Kids Bj).bind fun SL=>(R.uJ a0 SL).bind fun gK=>(app 72 rQ [gK]).bind fun x90=>(Bh N R n1) (a0,e2,(IntKind.wrap .i64<|Bj+1),x90) else (some (⟨e2.Kind,e2.Op,e2.Text,e2.Other,rQ⟩:aC))
def Lr (N:Nat) (R:Lp) (a0:LN) (a1:Int):Option aC:=
  (ix a0 a1).bind fun e2=>Bh N R N (a0,e2,0,[])
def zm:Nat->Lp
  | 0=>⟨fun _ _=>none⟩
  | N+1=>⟨fun a0 a1=>Lr N (zm N) a0 a1⟩
def uJ (N:Nat) (a0:LN) (a1:Int):Option aC:=(zm N).uJ a0 a1
def zn (N:Nat) (a0:LN):Option aC:=
  (uJ N a0<|IntKind.wrap .i64<|(a0.length:Int) - 1).bind fun r2=>some r2
structure Lu where
  rR:aC->Option Int
def Bl (N:Nat) (R:Lu):Nat->(aC×Int×Int)->Option Int
  | 0,_=>none
  | n1+1,(a0,nP,y38)=>bif (decide<|y38 < (a0.kids.length:Int)) then (ix a0.kids y38).bind fun e54=>(R.rR e54).bind fun vV=>(Bl N R n1) (a0,(if vV > nP then vV else nP),(IntKind.wrap .i64<|y38+1)) else (some<|IntKind.wrap .i64<|nP+1)
def Lv (N:Nat) (R:Lu) (a0:aC):Option Int:=
  Bl N R N (a0,0,0)
def Bn:Nat->Lu
  | 0=>⟨fun _=>none⟩
  | N+1=>⟨fun a0=>Lv N (Bn N) a0⟩
def rR (N:Nat) (a0:aC):Option Int:=(Bn N).rR a0
def DY (N:Nat) (jk:(LN×Int)->Option Bool):Nat->(LN×Int×aB×Int)->Option Bool
  | 0,_=>none
  | n2+1,(a0,qI,nQ,zo)=>bif (decide<|zo < (nQ.Kids.length:Int)) then (ix nQ.Kids zo).bind fun Yj=>(ix a0 Yj).bind fun SN=>(mh nQ zo SN.Kind).bind fun Yk=>bif (!Yk) then some false else ((DY N jk n2) (a0,qI,nQ,(IntKind.wrap .i64<|zo+1))) else (jk (a0,(IntKind.wrap .i64<|qI+1)))
def xL (N:Nat):Nat->(LN×Int)->Option Bool
  | 0,_=>none
  | n1+1,(a0,qI)=>bif (decide<|qI < (a0.length:Int)) then (ix a0 qI).bind fun nQ=>(Hy N nQ).bind fun Yl=>bif (!Yl) then some false else (DY N (xL N n1) N (a0,qI,nQ,0)) else ((zn N a0).bind fun SQ=>(rR N SQ).bind fun Ym=>some<|decide<|Ym<=40)
def Lx (N:Nat) (a0:LN):Option Bool:=
  (KQ N a0).bind fun r4=>bif (!r4) then some false else (xL N N (a0,0))
def xM (N:Nat) (a0:LN):Option Bool:=
  ((Lx N a0).bind fun r5=>bif r5 then (ix a0<|IntKind.wrap .i64<|(a0.length:Int) - 1).bind fun e6=>(vU e6.Kind).bind fun r7=>some r7 else (some false)).bind fun y4=>some y4
def LA (a0:List Int):Option (List Int):=
  (app 8 [] a0).bind fun x2=>some x2
def DZ (N:Nat):Nat->(LN×Int×LN)->Option LN
  | 0,_=>none
  | n1+1,(a0,Bo,LB)=>bif (decide<|Bo < (a0.length:Int)) then (ix a0 Bo).bind fun Ea=>(LA Ea.Kids).bind fun ku=>(app 72 LB [(⟨Ea.Kind,Ea.Op,Ea.Text,Ea.Other,ku⟩:aB)]).bind fun x80=>(DZ N n1) (a0,(IntKind.wrap .i64<|Bo+1),x80) else (some LB)
def LC (N:Nat) (a0:LN):Option LN:=
  DZ N N (a0,0,[])
def Bp:(Int×Bool)->Option Int
  | (a0,y2)=>bif y2 then some a0 else (some 0)
def zq (a0:Int):Option Int:=
  bif (a0==63) then some 62 else (bif (a0==62) then some 63 else (bif (a0==48) then some 49 else (bif (a0==49) then some 48 else (bif (a0==47) then Bp (a0,(a0==47)) else (bif (a0==50) then Bp (a0,(a0==50)) else (bif (a0==55) then Bp (a0,(a0==55)) else (Bp (a0,(a0==57)))))))))
structure LD where
  uK:aC->LN->Option LN
def Bq (N:Nat) (R:LD):Nat->(aC×Int×LN×(List Int))->Option LN
  | 0,_=>none
  | n1+1,(a0,Br,HV,zu)=>bif (decide<|Br < (a0.kids.length:Int)) then (ix a0.kids Br).bind fun Py=>(R.uK Py HV).bind fun jv=>(app 8 zu [(IntKind.wrap .i64<|(jv.length:Int) - 1)]).bind fun x88=>(Bq N R n1) (a0,(IntKind.wrap .i64<|Br+1),jv,x88) else ((app 72 HV [(⟨a0.kind,a0.op,a0.text,a0.other,zu⟩:aB)]).bind fun x90=>some x90)
def LG (N:Nat) (R:LD) (a0:aC) (p0:LN):Option LN:=
  Bq N R N (a0,0,p0,[])
def zw:Nat->LD
  | 0=>⟨fun _ _=>none⟩
  | N+1=>⟨fun a0 p0=>LG N (zw N) a0 p0⟩
def uK (N:Nat) (a0:aC) (p0:LN):Option LN:=(zw N).uK a0 p0
def LH (N:Nat) (a0:aC):Option LN:=
  (uK N a0 []).bind fun r2=>some r2
def Bt (N:Nat) (a0:LN):Option (LN×Bool):=
  (xM N a0).bind fun r6=>bif (!r6) then (LC N a0).bind fun r8=>some (r8,false) else ((zn N a0).bind fun bT=>(bif (bT.kind !=12) then some true else ((zq bT.op).bind fun jh=>some<|jh==0)).bind fun iq=>bif iq then (LC N a0).bind fun ji=>some (ji,false) else ((zq bT.op).bind fun fZ=>(ix bT.kids 1).bind fun e25=>(ix bT.kids 0).bind fun e26=>(LH N (⟨bT.kind,fZ,bT.text,bT.other,[e25,e26]⟩:aC)).bind fun iX=>some (iX,true)))
def jU (a0:Int) (a1:Int) (a2:Int):Option Bool:=
  (bif (decide<|a0>=a1) then some (decide<|a0<=a2) else (some false)).bind fun y1=>some y1
def Eb (N:Nat) (jk:(LN×Int×(List Int))->Option ((List Int)×Bool)):Nat->(LN×Int×(List Int)×Int×Int)->Option ((List Int)×Bool)
  | 0,_=>none
  | n2+1,(a0,lF,qb,Bu,zx)=>bif (decide<|zx>=0) then ((ix a0 lF).bind fun Yn=>(ix Yn.Kids zx).bind fun Yo=>bif (Yo !=(IntKind.wrap .i64<|Bu - 1)) then some true else (some<|Bu==0)).bind fun SV=>bif SV then some ([],false) else ((ix qb<|IntKind.wrap .i64<|Bu - 1).bind fun LJ=>(Eb N jk n2) (a0,lF,qb,LJ,(IntKind.wrap .i64<|zx - 1))) else ((app 8 qb [Bu]).bind fun Pz=>jk (a0,(IntKind.wrap .i64<|lF+1),Pz))
def Bv (N:Nat):Nat->(LN×Int×(List Int))->Option ((List Int)×Bool)
  | 0,_=>none
  | n1+1,(a0,lF,qb)=>bif (decide<|lF < (a0.length:Int)) then (ix a0 lF).bind fun PD=>Eb N (Bv N n1) N (a0,lF,qb,lF,(IntKind.wrap .i64<|(PD.Kids.length:Int) - 1)) else (some (qb,true))
def LK (N:Nat) (a0:LN):Option ((List Int)×Bool):=
  Bv N N (a0,0,[])
def HY (N:Nat) (a0:LN):Option Bool:=
  (jU (a0.length:Int) 1 400).bind fun r4=>bif (!r4) then some false else ((LK N a0).bind fun r6=>(bif r6.2 then (ix r6.1<|IntKind.wrap .i64<|(a0.length:Int) - 1).bind fun e9=>some (e9==0) else (some false)).bind fun y8=>some y8)
def Bw (N:Nat) (jk:(LN×Int×(List Int))->Option Int):Nat->(LN×Int×(List Int)×Int×Int)->Option Int
  | 0,_=>none
  | n2+1,(a0,nR,qJ,xO,Bz)=>(ix a0 nR).bind fun SX=>bif (decide<|Bz < (SX.Kids.length:Int)) then (ix a0 nR).bind fun Yp=>(ix Yp.Kids Bz).bind fun Yq=>(ix qJ Yq).bind fun BA=>(Bw N jk n2) (a0,nR,qJ,(if (IntKind.wrap .i64<|1+BA) > xO then (IntKind.wrap .i64<|1+BA) else xO),(IntKind.wrap .i64<|Bz+1)) else ((app 8 qJ [xO]).bind fun PE=>jk (a0,(IntKind.wrap .i64<|nR+1),PE))
def zy (N:Nat):Nat->(LN×Int×(List Int))->Option Int
  | 0,_=>none
  | n1+1,(a0,nR,qJ)=>bif (decide<|nR < (a0.length:Int)) then Bw N (zy N n1) N (a0,nR,qJ,1,0) else ((ix qJ<|IntKind.wrap .i64<|(a0.length:Int) - 1).bind fun SY=>some SY)
def LM (N:Nat) (a0:LN):Option Int:=
  (HY N a0).bind fun r4=>bif (!r4) then some 0 else (zy N N (a0,0,[]))
def Ec:(aB×Bool)->Option (Int×Int)
  | (a0,jH)=>bif jH then some (0,(a0.Kids.length:Int)) else (bif (a0.Kind==42) then some ((IntKind.wrap .i64<|1+(IntKind.wrap .i64<|Int.tdiv a0.Op 3)),(IntKind.wrap .i64<|1+(IntKind.wrap .i64<|Int.tdiv a0.Op 3))) else (bif (a0.Kind==43) then some ((IntKind.wrap .i64<|2+(IntKind.wrap .i64<|Int.tdiv a0.Op 3)),(IntKind.wrap .i64<|2+(IntKind.wrap .i64<|Int.tdiv a0.Op 3))) else (bif (a0.Kind==44) then some (1,7) else (some (0,0)))))
def Ed:(aB×Bool)->Option (Int×Int)
  | (a0,bY)=>bif bY then some (0,1) else (bif (a0.Kind==28) then some (2,3) else (bif (a0.Kind==31) then some (4,4) else (bif (a0.Kind==33) then Ec (a0,(a0.Kind==33)) else (Ec (a0,(a0.Kind==45))))))
def zA:(aB×Bool)->Option (Int×Int)
  | (a0,kD)=>bif kD then some (2,2) else (bif (a0.Kind==14) then some (3,3) else (bif (a0.Kind==21) then bif (!(a0.Other==[])) then some ((IntKind.wrap .i64<|a0.Op+1),7) else (some (a0.Op,6)) else (bif (a0.Kind==23) then Ed (a0,(a0.Kind==23)) else (Ed (a0,(a0.Kind==24))))))
def sZ:(aB×Bool)->Option (Int×Int)
  | (a0,y9)=>bif y9 then some (1,1) else (bif (a0.Kind==12) then zA (a0,(a0.Kind==12)) else (bif (a0.Kind==15) then zA (a0,(a0.Kind==15)) else (bif (a0.Kind==29) then zA (a0,(a0.Kind==29)) else (zA (a0,(a0.Kind==30))))))
def BD:(aB×Bool)->Option (Int×Int)
  | (a0,y8)=>bif y8 then some (0,6) else (bif (a0.Kind==6) then sZ (a0,(a0.Kind==6)) else (bif (a0.Kind==9) then sZ (a0,(a0.Kind==9)) else (bif (a0.Kind==10) then sZ (a0,(a0.Kind==10)) else (bif (a0.Kind==11) then sZ (a0,(a0.Kind==11)) else (bif (a0.Kind==20) then sZ (a0,(a0.Kind==20)) else (bif (a0.Kind==32) then sZ (a0,(a0.Kind==32)) else (bif (a0.Kind==40) then sZ (a0,(a0.Kind==40)) else (sZ (a0,(a0.Kind==41))))))))))
def Ee:(aB×Bool)->Option (Int×Int)
  | (a0,y7)=>bif y7 then some (1,6) else (bif (a0.Kind==7) then BD (a0,(a0.Kind==7)) else (bif (a0.Kind==8) then BD (a0,(a0.Kind==8)) else (BD (a0,(a0.Kind==27)))))
def Ef (a0:aB):Option (Int×Int):=
  bif (a0.Kind==5) then Ee (a0,(a0.Kind==5)) else (Ee (a0,(a0.Kind==13)))
def mY:Bool->Option Bool
  | y2=>bif y2 then some true else (some false)
def LP (a0:Int):Option Bool:=
  bif (a0==60) then mY (a0==60) else (bif (a0==57) then mY (a0==57) else (bif (a0==58) then mY (a0==58) else (bif (a0==59) then mY (a0==59) else (bif (a0==55) then mY (a0==55) else (bif (a0==56) then mY (a0==56) else (bif (a0==99) then mY (a0==99) else (bif (a0==63) then mY (a0==63) else (bif (a0==48) then mY (a0==48) else (bif (a0==47) then mY (a0==47) else (bif (a0==50) then mY (a0==50) else (bif (a0==62) then mY (a0==62) else (bif (a0==49) then mY (a0==49) else (bif (a0==67) then mY (a0==67) else (bif (a0==46) then mY (a0==46) else (bif (a0==45) then mY (a0==45) else (mY<|a0==44))))))))))))))))
def PG (a0:Int):Option Bool:=
  (bif (a0==54) then some true else ((jU a0 38 43).bind fun r3=>some r3)).bind fun y2=>some y2
def HZ:(aB×Bool)->Option Bool
  | (a0,y13)=>bif y13 then (bif (a0.Op==51) then some true else (some<|a0.Op==52)).bind fun nO=>some nO else (bif (a0.Kind==11) then (bif (a0.Op==55) then some true else (bif (a0.Op==56) then some true else (some<|a0.Op==61))).bind fun jl=>some jl else (bif (a0.Kind==12) then (LP a0.Op).bind fun sV=>some sV else (bif (a0.Kind==15) then (PG a0.Op).bind fun um=>some um else (bif (a0.Kind==21) then (jU a0.Op 0 1).bind fun mX=>some mX else (bif (a0.Kind==42) then (jU a0.Op 1 3).bind fun mR=>some mR else (bif (a0.Kind==43) then (bif (a0.Op==1) then some true else (some<|a0.Op==3)).bind fun y24=>some y24 else (some<|a0.Op==0)))))))
def Ia (a0:aB):Option Bool:=
  bif (a0.Kind==9) then HZ (a0,(a0.Kind==9)) else (HZ (a0,(a0.Kind==10)))
def Ib (a0:Int):Option Bool:=
  ((jU a0 97 122).bind fun r4=>bif r4 then some true else ((jU a0 65 90).bind fun r5=>bif r5 then some true else (some<|a0==95))).bind fun y3=>some y3
def Ic (a0:Int):Option Bool:=
  (jU a0 48 57).bind fun r2=>some r2
def LQ (a0:Int):Option Bool:=
  ((Ib a0).bind fun r4=>bif r4 then some true else ((Ic a0).bind fun r5=>some r5)).bind fun y3=>some y3
def BF (N:Nat):Nat->(LU×Int)->Option Bool
  | 0,_=>none
  | n1+1,(a0,eD)=>bif (decide<|eD < (a0.length:Int)) then (ix a0 eD).bind fun DJ=>(LQ<|IntKind.wrap .i64 ((DJ).toNat:Int)).bind fun kr=>bif (!kr) then some false else ((BF N n1) (a0,(IntKind.wrap .i64<|eD+1))) else (((jU (a0.length:Int) 1 12).bind fun KS=>bif KS then (ix a0 0).bind fun DK=>(Ib<|IntKind.wrap .i64 ((DK).toNat:Int)).bind fun iW=>some iW else (some false)).bind fun uy=>some uy)
def LV (N:Nat) (a0:LU):Option Bool:=
  BF N N (a0,0)
def LW:Option gN:=
  some [[66,69,71,73,78],[69,78,68],[102,117,110,99,116,105,111,110],[105,102],[101,108,115,101],[119,104,105,108,101],[102,111,114],[100,111],[98,114,101,97,107],[99,111,110,116,105,110,117,101],[110,101,120,116],[101,120,105,116],[114,101,116,117,114,110],[100,101,108,101,116,101],[105,110],[112,114,105,110,116],[112,114,105,110,116,102]]
def Eh (N:Nat):Nat->(gN×LU×Int)->Option Int
  | 0,_=>none
  | n1+1,(a0,a1,dN)=>bif (decide<|dN < (a0.length:Int)) then (ix a0 dN).bind fun e28=>bif (e28==a1) then some dN else ((Eh N n1) (a0,a1,(IntKind.wrap .i64<|dN+1))) else (some<|-1)
def LX (N:Nat) (a0:gN) (a1:LU):Option Int:=
  Eh N N (a0,a1,0)
def LY (N:Nat) (a0:LU):Option Int:=
  Option.bind LW fun r3=>(LX N r3 a0).bind fun r4=>bif (decide<|r4 < 0) then some 0 else (some<|IntKind.wrap .i64<|10+r4)
def PI:Option gN:=
  some [[97,116,97,110,50],[99,108,111,115,101],[99,111,115],[101,120,112],[103,115,117,98],[105,110,100,101,120],[105,110,116],[108,101,110,103,116,104],[108,111,103],[109,97,116,99,104],[114,97,110,100],[115,105,110],[115,112,108,105,116],[115,112,114,105,110,116,102],[115,113,114,116],[115,114,97,110,100],[115,117,98],[115,117,98,115,116,114],[115,121,115,116,101,109],[116,111,108,111,119,101,114],[116,111,117,112,112,101,114]]
def Ei (N:Nat) (a0:LU):Option Bool:=
  Option.bind PI fun r3=>(LX N r3 a0).bind fun r4=>some (decide<|r4>=0)
def BG (N:Nat) (a0:LU):Option Bool:=
  ((LV N a0).bind fun r5=>bif r5 then (LY N a0).bind fun r6=>bif (r6==0) then (Ei N a0).bind fun r7=>some (!r7) else (some false) else (some false)).bind fun y4=>some y4
def Ej (N:Nat):Nat->(LU×Int)->Option Bool
  | 0,_=>none
  | n1+1,(a0,dN)=>bif (decide<|dN < (a0.length:Int)) then (ix a0 dN).bind fun Yr=>bif (((Yr).toNat:Int)==10) then some false else ((Ej N n1) (a0,(IntKind.wrap .i64<|dN+1))) else (some true)
def LZ (N:Nat) (a0:LU):Option Bool:=
  Ej N N (a0,0)
def uL (a0:LU) (a1:Int):Option Int:=
  (bif (decide<|a1 < 0) then some true else (some<|decide<|a1>=(a0.length:Int))).bind fun y2=>bif y2 then some (-1) else ((ix a0 a1).bind fun b4=>some<|IntKind.wrap .i64 ((b4).toNat:Int))
def El (N:Nat):Nat->(LU×Int)->Option Int
  | 0,_=>none
  | n1+1,(a0,a1)=>(uL a0 a1).bind fun kF=>(Ic kF).bind fun jT=>bif jT then (El N n1) (a0,(IntKind.wrap .i64<|a1+1)) else (some a1)
def Em (N:Nat) (a0:LU) (a1:Int):Option Int:=
  El N N (a0,a1)
def Ma (N:Nat):Int->Option Int
  | y9=>some y9
def Ie (N:Nat):(LU×Int×Int)->Option Int
  | (a0,y9,pV)=>(Em N a0 pV).bind fun pW=>bif (decide<|pW > pV) then (Em N a0 pV).bind fun uH=>some uH else (Ma N y9)
def Ig (N:Nat):(LU×Int×Int)->Option Int
  | (a0,a1,y9)=>bif (y9==a1) then some (-1) else (((uL a0 y9).bind fun kF=>bif (kF==101) then some true else ((uL a0 y9).bind fun jT=>some<|jT==69)).bind fun y32=>bif y32 then ((uL a0<|IntKind.wrap .i64<|y9+1).bind fun En=>bif (En==43) then some true else ((uL a0<|IntKind.wrap .i64<|y9+1).bind fun Eo=>some<|Eo==45)).bind fun lu=>bif lu then Ie N (a0,y9,(IntKind.wrap .i64<|(IntKind.wrap .i64<|y9+1)+1)) else (Ie N (a0,y9,(IntKind.wrap .i64<|y9+1))) else (Ma N y9))
def Ih (N:Nat) (a0:LU) (a1:Int):Option Int:=
  bif (decide<|a1 < 0) then some (-1) else ((Em N a0 a1).bind fun r2=>(uL a0 r2).bind fun vT=>bif (vT==46) then (Em N a0<|IntKind.wrap .i64<|r2+1).bind fun iy=>(bif (r2==a1) then some (iy==(IntKind.wrap .i64<|r2+1)) else (some false)).bind fun Ta=>bif Ta then some (-1) else (Ig N (a0,a1,iy)) else (Ig N (a0,a1,r2)))
def Ii (N:Nat) (jk:(LU×Int×Int)->Option Int):(LU×Int×Int)->Option Int
  | (a0,a2,BH)=>jk (a0,a2,(IntKind.wrap .i64<|BH+1))
def zB (N:Nat):Nat->(LU×Int×Int)->Option Int
  | 0,_=>none
  | n1+1,(a0,a2,mZ)=>bif (decide<|mZ < (a0.length:Int)) then (ix a0 mZ).bind fun PK=>bif ((IntKind.wrap .i64 ((PK).toNat:Int))==a2) then some (IntKind.wrap .i64<|mZ+1) else (bif ((IntKind.wrap .i64 ((PK).toNat:Int))==10) then some (-1) else (bif ((IntKind.wrap .i64 ((PK).toNat:Int))==92) then (uL a0<|IntKind.wrap .i64<|mZ+1).bind fun Mc=>bif (Mc==10) then some (-1) else (Ii N (zB N n1) (a0,a2,(IntKind.wrap .i64<|mZ+1))) else (Ii N (zB N n1) (a0,a2,mZ)))) else (some<|-1)
def Ij (N:Nat) (a0:LU) (a1:Int) (a2:Int):Option Int:=
  (uL a0 a1).bind fun r4=>bif (r4 !=a2) then some (-1) else (zB N N (a0,a2,(IntKind.wrap .i64<|a1+1)))
def Ep (N:Nat) (a0:LU) (a1:Int):Option Int:=
  (Ij N a0 a1 34).bind fun r2=>some r2
def Er (N:Nat) (a0:LU) (a1:Int):Option Int:=
  (Ij N a0 a1 47).bind fun r2=>bif (r2==(IntKind.wrap .i64<|a1+2)) then some (-1) else (some r2)
def PL:Option gN:=
  some [[123],[125],[40],[41],[91],[93],[44],[59],[43,61],[45,61],[42,61],[47,61],[37,61],[94,61],[124,124],[38,38],[33,126],[61,61],[60,61],[62,61],[33,61],[43,43],[45,45],[62,62],[61],[43],[45],[42],[47],[37],[94],[33],[62],[60],[124],[63],[58],[126],[36]]
def Md (a0:Int):Option LU:=
  bif (a0==1) then some [10] else ((jU a0 10 26).bind fun dP=>bif dP then Option.bind LW fun sV=>(ix sV<|IntKind.wrap .i64<|a0 - 10).bind fun e18=>some e18 else ((jU a0 30 68).bind fun ji=>bif ji then Option.bind PL fun mR=>(ix mR<|IntKind.wrap .i64<|a0 - 30).bind fun e24=>some e24 else (some [])))
def BI (N:Nat):(lq×Bool)->Option Bool
  | (a0,qz)=>bif qz then (BG N a0.Text).bind fun r32=>some r32 else (bif (a0.Kind==8) then (Ei N a0.Text).bind fun jT=>some jT else ((bif (!(a0.Text==[])) then (Md a0.Kind).bind fun dR=>some (dR==a0.Text) else (some false)).bind fun DU=>some DU))
def BJ (N:Nat) (a0:lq):Option Bool:=
  bif (a0.Kind==2) then (bif (decide<|(a0.Text.length:Int) > 0) then (ix a0.Text 0).bind fun Yt=>bif (((Yt).toNat:Int)==35) then (LZ N a0.Text).bind fun ig=>some ig else (some false) else (some false)).bind fun y20=>some y20 else (bif (a0.Kind==3) then (bif (decide<|(a0.Text.length:Int) > 0) then (Ih N a0.Text 0).bind fun zk=>some (zk==(a0.Text.length:Int)) else (some false)).bind fun y24=>some y24 else (bif (a0.Kind==4) then (Ep N a0.Text 0).bind fun oJ=>some (oJ==(a0.Text.length:Int)) else (bif (a0.Kind==5) then (Er N a0.Text 0).bind fun pY=>some (pY==(a0.Text.length:Int)) else (bif (a0.Kind==6) then BI N (a0,(a0.Kind==6)) else (BI N (a0,(a0.Kind==7)))))))
def xP (N:Nat):(aB×Bool)->Option Bool
  | (a0,PN)=>bif PN then ((BG N a0.Text).bind fun pY=>bif pY then some (a0.Other==[]) else (some false)).bind fun y28=>some y28 else (bif (a0.Kind==2) then ((BJ N (⟨3,a0.Text,0⟩:lq)).bind fun r32=>bif r32 then some (a0.Other==[]) else (some false)).bind fun y31=>some y31 else (bif (a0.Kind==3) then ((BJ N (⟨4,a0.Text,0⟩:lq)).bind fun bQ=>bif bQ then some (a0.Other==[]) else (some false)).bind fun y34=>some y34 else (bif (a0.Kind==4) then ((BJ N (⟨5,a0.Text,0⟩:lq)).bind fun KX=>bif KX then some (a0.Other==[]) else (some false)).bind fun nP=>some nP else (bif (a0.Kind==34) then ((BJ N (⟨2,a0.Text,0⟩:lq)).bind fun rM=>bif rM then some (a0.Other==[]) else (some false)).bind fun pV=>some pV else (bif (a0.Kind==8) then ((Ei N a0.Text).bind fun uH=>bif uH then some (a0.Other==[]) else (some false)).bind fun mZ=>some mZ else (bif (a0.Kind==32) then ((BG N a0.Text).bind fun En=>bif En then (BG N a0.Other).bind fun Eo=>some Eo else (some false)).bind fun lu=>some lu else (bif (a0.Kind==21) then (bif (a0.Text==[]) then bif (a0.Other==[]) then some true else (bif (a0.Other==[62]) then some true else (bif (a0.Other==[62,62]) then some true else (some<|a0.Other==[124]))) else (some false)).bind fun uM=>some uM else ((bif (a0.Text==[]) then some (a0.Other==[]) else (some false)).bind fun Td=>some Td))))))))
def Me (N:Nat) (a0:aB):Option Bool:=
  bif (a0.Kind==1) then xP N (a0,(a0.Kind==1)) else (bif (a0.Kind==5) then xP N (a0,(a0.Kind==5)) else (bif (a0.Kind==7) then xP N (a0,(a0.Kind==7)) else (bif (a0.Kind==13) then xP N (a0,(a0.Kind==13)) else (bif (a0.Kind==27) then xP N (a0,(a0.Kind==27)) else (xP N (a0,(a0.Kind==44)))))))
def qK (N:Nat) (a0:aB):Option Bool:=
  (Ef a0).bind fun r2=>((jU a0.Kind 1 16).bind fun r7=>bif r7 then some true else ((jU a0.Kind 20 34).bind fun r8=>bif r8 then some true else ((jU a0.Kind 40 45).bind fun r9=>some r9))).bind fun y6=>(bif y6 then (Ia a0).bind fun dP=>bif dP then (Me N a0).bind fun kE=>bif kE then (jU (a0.Kids.length:Int) r2.1 r2.2).bind fun r16=>some r16 else (some false) else (some false) else (some false)).bind fun y13=>some y13
def Ik (a0:Int):Option Bool:=
  (bif (a0==1) then some true else (bif (a0==5) then some true else (some<|a0==6))).bind fun y1=>some y1
def jw (a0:Int):Option Bool:=
  (jU a0 1 15).bind fun r2=>some r2
def Mf (a0:Int):Option Bool:=
  (jU a0 20 34).bind fun r2=>some r2
def qL:(Int×Int×aB×Bool)->Option Bool
  | (a1,a2,a0,PO)=>bif PO then some (a2==33) else (bif (a0.Kind==33) then (Mf a2).bind fun sQ=>some sQ else (bif (a0.Kind==42) then (bif (a0.Op==1) then (jw a2).bind fun nN=>bif nN then some true else (bif (a0.Op==2) then bif (a2==33) then some true else (bif (a0.Op==3) then bif (a1==(IntKind.wrap .i64<|(a0.Kids.length:Int) - 1)) then bif (a2==33) then some true else (bif (!(a1==(IntKind.wrap .i64<|(a0.Kids.length:Int) - 1))) then (jw a2).bind fun kC=>some kC else (some false)) else (bif (!(a1==(IntKind.wrap .i64<|(a0.Kids.length:Int) - 1))) then (jw a2).bind fun gK=>some gK else (some false)) else (some false)) else (bif (a0.Op==3) then bif (a1==(IntKind.wrap .i64<|(a0.Kids.length:Int) - 1)) then bif (a2==33) then some true else (bif (!(a1==(IntKind.wrap .i64<|(a0.Kids.length:Int) - 1))) then (jw a2).bind fun oH=>some oH else (some false)) else (bif (!(a1==(IntKind.wrap .i64<|(a0.Kids.length:Int) - 1))) then (jw a2).bind fun Kq=>some Kq else (some false)) else (some false))) else (bif (a0.Op==2) then bif (a2==33) then some true else (bif (a0.Op==3) then bif (a1==(IntKind.wrap .i64<|(a0.Kids.length:Int) - 1)) then bif (a2==33) then some true else (bif (!(a1==(IntKind.wrap .i64<|(a0.Kids.length:Int) - 1))) then (jw a2).bind fun Yu=>some Yu else (some false)) else (bif (!(a1==(IntKind.wrap .i64<|(a0.Kids.length:Int) - 1))) then (jw a2).bind fun Yv=>some Yv else (some false)) else (some false)) else (bif (a0.Op==3) then bif (a1==(IntKind.wrap .i64<|(a0.Kids.length:Int) - 1)) then bif (a2==33) then some true else (bif (!(a1==(IntKind.wrap .i64<|(a0.Kids.length:Int) - 1))) then (jw a2).bind fun oI=>some oI else (some false)) else (bif (!(a1==(IntKind.wrap .i64<|(a0.Kids.length:Int) - 1))) then (jw a2).bind fun uw=>some uw else (some false)) else (some false)))).bind fun Te=>some Te else (bif (a0.Kind==43) then (bif (decide<|a1 < 2) then (jw a2).bind fun kT=>bif kT then some true else (bif (a1==2) then some (a2==33) else (some false)) else (bif (a1==2) then some (a2==33) else (some false))).bind fun Tf=>some Tf else (bif (a0.Kind==44) then (bif (a1==(IntKind.wrap .i64<|(a0.Kids.length:Int) - 1)) then bif (a2==33) then some true else (bif (!(a1==(IntKind.wrap .i64<|(a0.Kids.length:Int) - 1))) then some (a2==1) else (some false)) else (bif (!(a1==(IntKind.wrap .i64<|(a0.Kids.length:Int) - 1))) then some (a2==1) else (some false))).bind fun y99=>some y99 else (bif (a0.Kind==45) then ((jU a2 40 44).bind fun Ko=>bif Ko then some true else (some<|a2==34)).bind fun y101=>some y101 else ((jw a2).bind fun rJ=>some rJ))))))
def lG:(Int×Int×aB×Bool)->Option Bool
  | (a1,a2,a0,PS)=>bif PS then (Ik a2).bind fun dD=>some dD else (bif (a0.Kind==15) then ((jw a2).bind fun gP=>bif gP then bif (decide<|a1 > 0) then some true else ((Ik a2).bind fun iW=>some iW) else (some false)).bind fun Ti=>some Ti else (bif (a0.Kind==28) then (bif (a1==0) then (jw a2).bind fun Mc=>bif Mc then some true else (bif (decide<|a1 > 0) then some (a2==33) else (some false)) else (bif (decide<|a1 > 0) then some (a2==33) else (some false))).bind fun zu=>some zu else (bif (a0.Kind==29) then (bif (a1==0) then (jw a2).bind fun qD=>bif qD then some true else (bif (a1==1) then some (a2==33) else (some false)) else (bif (a1==1) then some (a2==33) else (some false))).bind fun rQ=>some rQ else (bif (a0.Kind==30) then (bif (a1==0) then bif (a2==33) then some true else (bif (a1==1) then (jw a2).bind fun Dh=>some Dh else (some false)) else (bif (a1==1) then (jw a2).bind fun vR=>some vR else (some false))).bind fun Tj=>some Tj else (bif (a0.Kind==31) then (bif (decide<|a1 < 3) then (jw a2).bind fun sS=>bif sS then some true else (bif (a2==16) then some true else (bif (a1==3) then some (a2==33) else (some false))) else (bif (a1==3) then some (a2==33) else (some false))).bind fun oF=>some oF else (bif (a0.Kind==32) then qL (a1,a2,a0,(a0.Kind==32)) else (bif (a0.Kind==40) then qL (a1,a2,a0,(a0.Kind==40)) else (qL (a1,a2,a0,(a0.Kind==41))))))))))
def iA (a0:aB) (a1:Int) (a2:Int):Option Bool:=
  bif (a0.Kind==9) then lG (a1,a2,a0,(a0.Kind==9)) else (lG (a1,a2,a0,(a0.Kind==10)))
def tq (N:Nat) (jk:(LN×Int)->Option Bool):Nat->(LN×Int×Int)->Option Bool
  | 0,_=>none
  | n2+1,(a0,nS,zC)=>(ix a0 nS).bind fun Tm=>bif (decide<|zC < (Tm.Kids.length:Int)) then (ix a0 nS).bind fun Tp=>(ix a0 nS).bind fun Yw=>(ix Yw.Kids zC).bind fun Yx=>(ix a0 Yx).bind fun Tq=>(iA Tp zC Tq.Kind).bind fun Yy=>bif (!Yy) then some false else ((tq N jk n2) (a0,nS,(IntKind.wrap .i64<|zC+1))) else (jk (a0,(IntKind.wrap .i64<|nS+1)))
def oL (N:Nat):Nat->(LN×Int)->Option Bool
  | 0,_=>none
  | n1+1,(a0,nS)=>bif (decide<|nS < (a0.length:Int)) then (ix a0 nS).bind fun Tt=>(qK N Tt).bind fun Yz=>bif (!Yz) then some false else (tq N (oL N n1) N (a0,nS,0)) else (some true)
def rT (N:Nat) (a0:LN):Option Bool:=
  ((HY N a0).bind fun r9=>bif (!r9) then some true else ((LM N a0).bind fun bT=>some<|decide<|bT > 40)).bind fun y8=>bif y8 then some false else (oL N N (a0,0))
def uN (N:Nat) (a0:LN):Option Bool:=
  ((rT N a0).bind fun r5=>bif r5 then (ix a0<|IntKind.wrap .i64<|(a0.length:Int) - 1).bind fun e6=>(jw e6.Kind).bind fun r7=>some r7 else (some false)).bind fun y4=>some y4
def Et:(Int×Bool)->Option Int
  | (a0,y2)=>bif y2 then some a0 else (some 0)
def Eu (a0:Int):Option Int:=
  bif (a0==63) then some 62 else (bif (a0==62) then some 63 else (bif (a0==48) then some 49 else (bif (a0==49) then some 48 else (bif (a0==47) then Et (a0,(a0==47)) else (bif (a0==50) then Et (a0,(a0==50)) else (bif (a0==55) then Et (a0,(a0==55)) else (Et (a0,(a0==57)))))))))
def Mg (N:Nat) (a0:LN):Option LN:=
  (AB N a0 0).bind fun r2=>some r2
def Il (N:Nat) (a0:LN) (a1:Int):Option LN:=
  (LK N a0).bind fun r2=>(ix r2.1 a1).bind fun e7=>(cut a0 e7<|IntKind.wrap .i64<|a1+1).bind fun l8=>(ix r2.1 a1).bind fun e9=>(AB N l8<|IntKind.wrap .i64<|0 - e9).bind fun bT=>some bT
def Mh (N:Nat) (a0:LN):Option (LN×Bool):=
  ((uN N a0).bind fun sV=>bif (!sV) then some true else ((ix a0<|IntKind.wrap .i64<|(a0.length:Int) - 1).bind fun e18=>bif (e18.Kind !=12) then some true else ((ix a0<|IntKind.wrap .i64<|(a0.length:Int) - 1).bind fun e19=>(Eu e19.Op).bind fun ji=>some<|ji==0))).bind fun iY=>bif iY then (Mg N a0).bind fun ig=>some (ig,false) else ((ix a0<|IntKind.wrap .i64<|(a0.length:Int) - 1).bind fun e24=>(ix e24.Kids 0).bind fun e27=>(Il N a0 e27).bind fun iX=>(ix e24.Kids 1).bind fun e31=>(Il N a0 e31).bind fun r32=>(Eu e24.Op).bind fun bQ=>(dQ N (⟨12,bQ,[],[],[]⟩:aB) [r32,iX]).bind fun jI=>some (jI,true))
def Ev (N:Nat):Nat->((List Int)×(List Int)×Int)->Option Bool
  | 0,_=>none
  | n1+1,(a0,a1,eD)=>bif (decide<|eD < (a0.length:Int)) then (ix a0 eD).bind fun e51=>(ix a1 eD).bind fun e52=>bif (e51 !=e52) then some false else ((Ev N n1) (a0,a1,(IntKind.wrap .i64<|eD+1))) else (some true)
def Mi (N:Nat) (a0:List Int) (a1:List Int):Option Bool:=
  bif ((a0.length:Int) !=(a1.length:Int)) then some false else (Ev N N (a0,a1,0))
def Ew (N:Nat):Nat->(LN×LN×Int)->Option Bool
  | 0,_=>none
  | n1+1,(a0,a1,oM)=>bif (decide<|oM < (a0.length:Int)) then ((ix a0 oM).bind fun e270=>(ix a1 oM).bind fun e271=>bif (e270.Kind !=e271.Kind) then some true else ((ix a0 oM).bind fun e272=>(ix a1 oM).bind fun e273=>bif (e272.Op !=e273.Op) then some true else ((ix a0 oM).bind fun e274=>(ix a1 oM).bind fun e275=>bif (!(e274.Text==e275.Text)) then some true else ((ix a0 oM).bind fun YA=>(ix a1 oM).bind fun YB=>bif (!(YA.Other==YB.Other)) then some true else ((ix a0 oM).bind fun e278=>(ix a1 oM).bind fun e279=>(Mi N e278.Kids e279.Kids).bind fun YC=>some<|!YC))))).bind fun Tv=>bif Tv then some false else ((Ew N n1) (a0,a1,(IntKind.wrap .i64<|oM+1))) else (some true)
def BK (N:Nat) (a0:LN) (a1:LN):Option Bool:=
  bif ((a0.length:Int) !=(a1.length:Int)) then some false else (Ew N N (a0,a1,0))
def xQ (a0:LU) (a1:Int):Option Int:=
  bif (decide<|a1 < (a0.length:Int)) then (ix a0 a1).bind fun e4=>some (IntKind.wrap .i64 ((e4).toNat:Int)) else (some<|Int.tmod (IntKind.wrap .i64<|(IntKind.wrap .i64<|a1*37)+(IntKind.wrap .i64<|(a0.length:Int)*11)) 256)
def Ey (N:Nat):Nat->(LU×(List fE)×Int)->Option Int
  | 0,_=>none
  | n1+1,(a1,a0,dN)=>bif (decide<|dN < (a0.length:Int)) then (ix a0 dN).bind fun e28=>bif (e28.Name==a1) then some e28.Val else ((Ey N n1) (a1,a0,(IntKind.wrap .i64<|dN+1))) else (some 0)
def PU (N:Nat) (a0:List fE) (a1:LU):Option Int:=
  Ey N N (a1,a0,0)
def Tw (a0:LU):Option (Int×Bool):=
  PV a0
def Mj (a0:LU):Option (Int×Bool):=
  (Tw a0).bind fun r2=>(bif (!r2.2) then some true else (some<|decide<|r2.1 < 0)).bind fun y4=>bif y4 then some (0,false) else (some (r2.1,true))
def oN (a0:Bool):Option Int:=
  bif a0 then some 1 else (some 0)
def nT:Int->Option (Int×Bool)
  | jl=>(lD jl (-1000000000) 1000000000).bind fun um=>bif (!um) then some (0,false) else (some (jl,true))
def xR (a0:Int) (a1:Int) (a2:Int):Option (Int×Bool):=
  bif (a0==55) then nT (IntKind.wrap .i64<|a1+a2) else (bif (a0==56) then nT (IntKind.wrap .i64<|a1 - a2) else (bif (a0==57) then nT (IntKind.wrap .i64<|a1*a2) else (bif (a0==59) then bif (a2==0) then some (0,false) else ((xC a1 a2).bind fun x21=>nT x21) else (bif (a0==63) then (oN<|decide<|a1 < a2).bind fun mR=>nT mR else (bif (a0==48) then (oN<|decide<|a1<=a2).bind fun zk=>nT zk else (bif (a0==47) then (oN<|a1==a2).bind fun oJ=>nT oJ else (bif (a0==50) then (oN<|a1 !=a2).bind fun pY=>nT pY else (bif (a0==62) then (oN<|decide<|a1 > a2).bind fun uG=>nT uG else (bif (a0==49) then (oN<|decide<|a1>=a2).bind fun kF=>nT kF else (some (0,false)))))))))))
structure Ez where
  zD:aC->(List fE)->Option (Int×Bool)
  iP:aC->(List fE)->Option (Int×Bool)
def Mk (N:Nat) (R:Ez) (a0:aC) (a1:List fE):Option (Int×Bool):=
  (ix a0.kids 0).bind fun e3=>(R.iP e3 a1).bind fun r4=>bif (!r4.2) then some (0,false) else ((bif (a0.op==45) then some true else (some<|a0.op==44)).bind fun iY=>bif iY then bif ((r4.1 !=0)==(a0.op==44)) then (oN<|r4.1 !=0).bind fun ji=>some (ji,true) else ((ix a0.kids 1).bind fun e23=>(R.iP e23 a1).bind fun fZ=>bif (!fZ.2) then some (0,false) else ((oN<|fZ.1 !=0).bind fun mU=>some (mU,true))) else ((ix a0.kids 1).bind fun e29=>(R.iP e29 a1).bind fun qG=>bif (!qG.2) then some (0,false) else ((xR a0.op r4.1 qG.1).bind fun r32=>some (r32.1,r32.2))))
def Im (N:Nat) (R:Ez):Int->Option (Int×Bool)
  | uM=>some (uM,true)
def Ml (N:Nat) (R:Ez) (a0:aC) (a1:List fE):Option (Int×Bool):=
  bif (a0.kind==1) then (PU N a1 a0.text).bind fun dR=>(lD dR (-1000000000) 1000000000).bind fun rM=>bif (!rM) then some (0,false) else (some (dR,true)) else (bif (a0.kind==2) then (Mj a0.text).bind fun lC=>some (lC.1,lC.2) else (bif (a0.kind==11) then (ix a0.kids 0).bind fun e46=>(R.iP e46 a1).bind fun jJ=>bif (!jJ.2) then some (0,false) else (bif (a0.op==56) then Im N R (IntKind.wrap .i64<|0 - jJ.1) else (bif (a0.op==61) then (oN<|jJ.1==0).bind fun kr=>Im N R kr else (Im N R jJ.1))) else (bif (a0.kind==14) then (ix a0.kids 0).bind fun e55=>(R.iP e55 a1).bind fun vV=>bif (!vV.2) then some (0,false) else (bif (vV.1 !=0) then (ix a0.kids 1).bind fun e63=>(R.iP e63 a1).bind fun r64=>some (r64.1,r64.2) else ((ix a0.kids 2).bind fun PW=>(R.iP PW a1).bind fun xH=>some (xH.1,xH.2))) else (bif (a0.kind==12) then (R.zD a0 a1).bind fun vR=>some (vR.1,vR.2) else (some (0,false))))))
def mo:Nat->Ez
  | 0=>⟨fun _ _=>none,fun _ _=>none⟩
  | N+1=>⟨fun a0 a1=>Mk N (mo N) a0 a1,fun a0 a1=>Ml N (mo N) a0 a1⟩
def zD (N:Nat) (a0:aC) (a1:List fE):Option (Int×Bool):=(mo N).zD a0 a1
def iP (N:Nat) (a0:aC) (a1:List fE):Option (Int×Bool):=(mo N).iP a0 a1
def uO (N:Nat) (a0:LN) (a1:List fE):Option (Int×Bool):=
  (xM N a0).bind fun r4=>bif (!r4) then some (0,false) else ((zn N a0).bind fun r7=>(iP N r7 a1).bind fun r8=>some (r8.1,r8.2))
def Io (N:Nat) (a0:LU):Option Bool:=
  (OL a0).bind fun r4=>bif r4 then some true else ((KM N a0).bind fun r6=>(Bt N r6).bind fun r8=>(Mh N r6).bind fun bT=>(bif (!(r8.2==bT.2)) then some true else (bif (!r8.2) then (BK N r8.1 r6).bind fun r16=>some (!r16) else (some false))).bind fun jl=>bif jl then some false else (bif (!r8.2) then some true else ((Bt N r8.1).bind fun jh=>(xQ a0 0).bind fun mX=>(xQ a0 1).bind fun ig=>(uO N r6 [(⟨[120],mX⟩:fE),(⟨[121],(IntKind.wrap .i64<|ig - 99)⟩:fE)]).bind fun fZ=>(uO N r8.1 [(⟨[120],mX⟩:fE),(⟨[121],(IntKind.wrap .i64<|ig - 99)⟩:fE)]).bind fun mU=>(bif jh.2 then (BK N jh.1 r6).bind fun pY=>bif pY then bif (fZ.1==mU.1) then bif (fZ.2==mU.2) then some ((r8.1.length:Int)==(r6.length:Int)) else (some false) else (some false) else (some false) else (some false)).bind fun y28=>some y28)))
def jG (x:aB):Prop:=x.Text.length<=1048576/\x.Other.length<=1048576/\x.Kids.length<=1048576
end Go.Proofs.Tryz
