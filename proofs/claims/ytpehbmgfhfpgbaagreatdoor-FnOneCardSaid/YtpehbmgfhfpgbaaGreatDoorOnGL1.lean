/-
  Models of the functions that this seat reaches.
-/
import Derived.Test.YtpehbmgfhfpgbaaGreatDoorGTab
import Derived.Test.YtpehbmgfhfpgbaaGreatDoorGCore6
namespace Go.Proofs.Tryz
open Go.Av
set_option maxRecDepth 100000
set_option maxHeartbeats 8000000
set_option linter.all false
def rR:List (List UInt8):=[[66,69,71,73,78],[69,78,68],[102,117,110,99,116,105,111,110],[105,102],[101,108,115,101],[119,104,105,108,101],[102,111,114],[100,111],[98,114,101,97,107],[99,111,110,116,105,110,117,101],[110,101,120,116],[101,120,105,116],[114,101,116,117,114,110],[100,101,108,101,116,101],[105,110],[112,114,105,110,116],[112,114,105,110,116,102]]
def zo:List (List UInt8):=[[123],[125],[40],[41],[91],[93],[44],[59],[43,61],[45,61],[42,61],[47,61],[37,61],[94,61],[124,124],[38,38],[33,126],[61,61],[60,61],[62,61],[33,61],[43,43],[45,45],[62,62],[61],[43],[45],[42],[47],[37],[94],[33],[62],[60],[124],[63],[58],[126],[36]]
def zq:List (List UInt8):=[[97,116,97,110,50],[99,108,111,115,101],[99,111,115],[101,120,112],[103,115,117,98],[105,110,100,101,120],[105,110,116],[108,101,110,103,116,104],[108,111,103],[109,97,116,99,104],[114,97,110,100],[115,105,110],[115,112,108,105,116],[115,112,114,105,110,116,102],[115,113,114,116],[115,114,97,110,100],[115,117,98],[115,117,98,115,116,114],[115,121,115,116,101,109],[116,111,108,111,119,101,114],[116,111,117,112,112,101,114]]
def GG:Nat->Option (List V)
  | 0=>some (rR.map V.s)
  | 1=>some (zo.map V.s)
  | 2=>some (zq.map V.s)
  | _=>none
def GS (l:List Nat) (g:Nat):Option (List V):=bif l.contains g then GG g else none
def dn {f:FuncId} {vs:List V} {H:Hp} {r:V} {H1:Hp} {l l1:List Nat} (h:AC Tryz.prog (GS l) f vs H r H1) (hs:(l.all fun g=>l1.contains g)=true):AC Tryz.prog (GS l1) f vs H r H1:=by
  refine Go.Av.AC.mono h fun g cs hg=>?_;unfold GS at hg ⊢;cases hc:l.contains g with
  | false=>rw [hc] at hg;cases hg
  | true=>
    rw [hc] at hg;have:=ku.1 hs g (Gl.1 hc);rw [this];exact hg
def mix:Tryz.prog.follows .mixedOrders=true:=ak
def wR {G:Nat->Option (List V)} {ops:Array Oper} {draw:Bool} {T0:List V} {H0:Hp} {Q:St->Prop} (n q:Nat) {i:Nat} {T:List V} {H:Hp} {Es:List (Bool×Eff)} (k:W Tryz.prog G ops draw T0 H0 (i+n) (pq D G ops n q i T H).T (pq D G ops n q i T H).H (Es++(pq D G ops n q i T H).Es) Q) (h:(BL D G ops n q i T H).isSome=true:=by kernel_rfl):W Tryz.prog G ops draw T0 H0 i T H Es Q:=W.run Dk n q h k
def cU {G:Nat->Option (List V)} {L:Option Nat} (n q:Nat) (T':List V) (H':Hp) {id:Nat} {l:List Oper} {draw:Bool} {c:Code} {T:List V} {H:Hp} {Q:Exit->St->Prop} (k:CO L Tryz.prog G c ⟨T',H'⟩ Q) (h:QF D G l.toArray draw n q T H T' H'=(true,T',some H'):=by kernel_rfl):CO L Tryz.prog G (.seq (.region id l.toArray draw) c) ⟨T,H⟩ Q:=cu Dk mix n q T' H' h k
def cE {G:Nat->Option (List V)} {L:Option Nat} (n q:Nat) (T':List V) (H':Hp) {id:Nat} {l:List Oper} {draw:Bool} {T:List V} {H:Hp} {Q:Exit->St->Prop} (hQ:∀ st,Weak st ⟨T',H'⟩->Q .normal st) (h:QF D G l.toArray draw n q T H T' H'=(true,T',some H'):=by kernel_rfl):CO L Tryz.prog G (.region id l.toArray draw) ⟨T,H⟩ Q:=ce Dk mix n q T' H' h hQ
def cV {G:Nat->Option (List V)} {L:Option Nat} (q:Nat) {id:Nat} {l:List Oper} {draw:Bool} {c:Code} {T:List V} {H:Hp} {Q:Exit->St->Prop} (k:CO L Tryz.prog G c ⟨(pq D G l.toArray l.toArray.size q 0 T H).T,(pq D G l.toArray l.toArray.size q 0 T H).H⟩ Q) (h:QG D G l.toArray draw q T H=true:=by kernel_rfl):CO L Tryz.prog G (.seq (.region id l.toArray draw) c) ⟨T,H⟩ Q:=cv Dk mix q k h
def cK {G:Nat->Option (List V)} {L:Option Nat} (q:Nat) {ι:Type} {J:ι->St} {R:ι->Prop} {id:Nat} {l:List Oper} {draw:Bool} {T:List V} {H:Hp} {Q:Exit->St->Prop} (hk:∀ i,R i->∀ st,Weak st (J i)->Q .normal st) (i:ι) (hi:R i) (m:Ren) (ks:List Nat) (h:QH m ks (QG D G l.toArray draw q T H) (pq D G l.toArray l.toArray.size q 0 T H).T (pq D G l.toArray l.toArray.size q 0 T H).H=(true,(J i).T,some (J i).H):=by kernel_rfl):CO L Tryz.prog G (.region id l.toArray draw) ⟨T,H⟩ Q:=ck Dk mix q hk i hi m ks h
def cC {G:Nat->Option (List V)} {L:Option Nat} (n q:Nat) {id:Nat} {l:List Oper} {draw:Bool} {c:Code} {T:List V} {H:Hp} {Q:Exit->St->Prop} {fid:FuncId} {vs:List V} {rc:V} (hA:AC Tryz.prog G fid vs [] rc []) (hcf:uQ Tryz.prog fid) (k:CO L Tryz.prog G c ⟨(ME D G l.toArray n q rc T H).T,(ME D G l.toArray n q rc T H).H⟩ Q) (h:ZV D G l.toArray draw n q rc T H=(true,some (fid,vs,[]),rc):=by kernel_rfl):CO L Tryz.prog G (.seq (.region id l.toArray draw) c) ⟨T,H⟩ Q:=cc Dk mix n q hA hcf k h
def wD {G:Nat->Option (List V)} {ops:Array Oper} {draw:Bool} {T0:List V} {H0:Hp} {i:Nat} {T:List V} {H:Hp} {Es:List (Bool×Eff)} {Q:St->Prop} {fid:FuncId} {vs:List V} {Hc dQ:Hp} {rc:V} (h:AC Tryz.prog G fid vs Hc rc dQ) (hcf:uQ Tryz.prog fid) (q m:Ren) {Z:List (Nat×List (List V))} (N:List Nat) (hZ:bL H Z) (k:W Tryz.prog G ops draw T0 H0 (i+1) (eU T (iX ops i)<|rc.rn m) (jr m dQ++bS (Z.map (·.1)++q.map (·.1)) H) (Es++[(true,{v:=rc.rn m,C:=Z.map (·.1)++q.map (·.1),new:=jr m dQ,N:=N})]) Q) (hn:(Di q m (Z.map (·.1)) N&&AA dQ)=true:=by kernel_rfl) (hc:GD G ops q Z i T H=some (fid,vs,Hc):=by kernel_rfl):W Tryz.prog G ops draw T0 H0 i T H Es Q:=W.call h hcf q m N hZ hn hc k
def wC {G:Nat->Option (List V)} {ops:Array Oper} {draw:Bool} {T0:List V} {H0:Hp} {i:Nat} {T:List V} {H:Hp} {Es:List (Bool×Eff)} {Q:St->Prop} {fid:FuncId} {vs:List V} {Hc dQ:Hp} {rc:V} (h:AC Tryz.prog G fid vs Hc rc dQ) (hcf:uQ Tryz.prog fid) (q m:Ren) (N:List Nat) (k:W Tryz.prog G ops draw T0 H0 (i+1) (eU T (iX ops i)<|rc.rn m) (jr m dQ++bS (([]:List (Nat×List (List V))).map (·.1)++q.map (·.1)) H) (Es++[(true,{v:=rc.rn m,C:=([]:List (Nat×List (List V))).map (·.1)++q.map (·.1),new:=jr m dQ,N:=N})]) Q) (hn:(Di q m (([]:List (Nat×List (List V))).map (·.1)) N&&AA dQ)=true:=by kernel_rfl) (hc:GD G ops q [] i T H=some (fid,vs,Hc):=by kernel_rfl):W Tryz.prog G ops draw T0 H0 i T H Es Q:=W.call h hcf q m N (show bL _ [] from trivial) hn hc k
def w0 {G:Nat->Option (List V)} {ops:Array Oper} {draw:Bool} {T0:List V} {H0:Hp} {i:Nat} {T:List V} {H:Hp} {Es:List (Bool×Eff)} {Q:St->Prop} {fid:FuncId} {vs:List V} {rc:V} (h:AC Tryz.prog G fid vs [] rc []) (hcf:uQ Tryz.prog fid) (k:W Tryz.prog G ops draw T0 H0 (i+1) (eU T (iX ops i) rc) H (Es++[(true,{v:=rc})]) Q) (hc:GD G ops [] [] i T H=some (fid,vs,[]):=by kernel_rfl) (hr:rc.rn []=rc:=by rfl):W Tryz.prog G ops draw T0 H0 i T H Es Q:=W.uT h hcf hr hc k
def wN {G:Nat->Option (List V)} {ops:Array Oper} {draw:Bool} {T0:List V} {H0:Hp} {i:Nat} {T:List V} {H:Hp} {Es:List (Bool×Eff)} {Q:St->Prop} {α:Type} (enc:α->List V) (l:List α) (R:List Nat) (k:W Tryz.prog G ops draw T0 H0 (i+1) (eU T (iX ops i)<|aj l.length) H (Es++[(true,{v:=aj l.length,R:=R})]) Q) (h:ael G ops i T H=some (l.map enc,R):=by kernel_rfl) (hs:((nk ops i T).bind<|iI D H<|ev G T).isSome=true:=by kernel_rfl):W Tryz.prog G ops draw T0 H0 i T H Es Q:=W.len Dk enc l R h hs k
def wX {G:Nat->Option (List V)} {ops:Array Oper} {draw:Bool} {T0:List V} {H0:Hp} {i:Nat} {T:List V} {H:Hp} {Es:List (Bool×Eff)} {Q:St->Prop} {α:Type} (enc:α->List V) {l:List α} {n:Int} {x:α} (hx:ix l n=some x) (sz:Nat) (k:W Tryz.prog G ops draw T0 H0 (i+1) (eU T (iX ops i)<|.el<|enc x) H (Es++[(true,{v:=.el (enc x)})]) Q) (h:Mt D G ops i T=some (l.map enc,n,sz):=by kernel_rfl) (hs:(enc x).length=sz:=by kernel_rfl):W Tryz.prog G ops draw T0 H0 i T H Es Q:=W.Mt Dk enc hx sz h hs k
structure aC where
  Kind:Int
  Op:Int
  Text:List UInt8
  Other:List UInt8
  Kids:List Int
  deriving DecidableEq,Inhabited
def aD (b:Bool) (x:aC):List V:=[aj x.Kind,aj x.Op,V.s x.Text,V.s x.Other,.sl false b<|x.Kids.map bf]
def jC (b:Bool) (x:aC):tH (aD b x)=aD false x:=by
  simp only [aD,tH,V.share,aj,V.s,V.b,aeu (enc:=bf) (enc':=bf) fun _=>rfl]
structure aK where
  Level:Int
  uV:Bool
  aY:Bool
  bg:Bool
  jk:Bool
  deriving DecidableEq,Inhabited
structure aG where
  Kind:Int
  Text:List UInt8
  At:Int
  deriving DecidableEq,Inhabited
def aX (x:aG):List V:=[aj x.Kind,V.s x.Text,aj x.At]
structure bT where
  From:Int
  To:Int
  deriving DecidableEq,Inhabited
def gX (x:bT):List V:=[aj x.From,aj x.To]
structure av where
  kind:Int
  op:Int
  text:List UInt8
  other:List UInt8
  kids:List av
instance:Inhabited av:=⟨⟨0,0,[],[],[]⟩⟩
def av.lt (x:av) (y:av) (h:y∈x.kids):SizeOf.sizeOf y < SizeOf.sizeOf x:=by
  have:=List.sizeOf_lt_of_mem h;cases x;simp only [av.mk.sizeOf_spec] at*;omega
def aH (x:av):List V:=[aj x.kind,aj x.op,V.s x.text,V.s x.other,.sl false false<|x.kids.attach.map fun y=>aH y.1]
termination_by SizeOf.sizeOf x
decreasing_by exact av.lt x y.1 y.2
def wI (x:av):aH x=[aj x.kind,aj x.op,V.s x.text,V.s x.other,.sl false false<|x.kids.map aH]:=by
  rw [aH];simp only [List.attach_map_val (f:=aH),List.map_attach_eq_pmap,List.pmap_eq_map]
def yC (x:av):tH (aH x)=aH x:=by
  have hk:x.kids.map (tH∘aH)=x.kids.map aH:=zu fun y hy=>yC y;rw [wI];simp only [tH,V.share,Mh,aj,V.s,V.b,Jt];rw [hk]
termination_by SizeOf.sizeOf x
decreasing_by exact av.lt x y hy
structure mQ where
  op:Bool
  text:Bool
  other:Bool
  least:Int
  most:Int
  deriving DecidableEq,Inhabited
structure yD where
  Kind:Int
  At:Int
  deriving DecidableEq,Inhabited
structure bJ where
  dz:Bool
  dF:Bool
  deriving DecidableEq,Inhabited
structure fu where
  tree:av
  target:Bool
  deriving Inhabited
abbrev LU:=List UInt8
abbrev aO:=List (List UInt8)
abbrev LT:=List aG
abbrev LN:=List aC
abbrev T1:=fu×Int×Bool×aO
abbrev LS:=List av
abbrev wr (x:Int):Int:=IntKind.wrap .i64 x
abbrev sL {α:Type} (f:α->List V) (x:List α):V:=.sl false false (x.map f)
abbrev gY (a:aK):List V:=[aj a.Level,V.b a.uV,V.b a.aY,V.b a.bg,V.b a.jk]
abbrev gJ (a:aC):List V:=[aj a.Kind,aj a.Op,V.s a.Text,V.s a.Other,sL bf a.Kids]
abbrev vX {α:Type} (t k:Nat) (f:α->List V) (x:List α):Ob:=.vec false t k (x.map f)
abbrev vN (x:aO):Ob:=.vec false 9 1 (x.map fq)
abbrev cP (t:Nat) (x:LT) (i:Int) (b:Bool) (k:Nat):Ob:=.cells t [.sl false false<|x.map aX,aj i,V.b b,.own k]
abbrev aP (x:fu):List V:=[aj x.tree.kind,aj x.tree.op,V.s x.tree.text,V.s x.tree.other,.sl false false<|x.tree.kids.map aH,V.b x.target]
abbrev aR:=AC Tryz.prog (GS [])
def lO {H:Hp}:bL H []:=trivial
def aad (a0:LU):Option Bool:=
  some (decide<|(a0.length:Int) > 1048576)
def MG (N:Nat):Nat->(LU×Int×Int)->Option (LU×Int×Int)
  | 0,_=>none
  | n1+1,(a0,y29,qg)=>(bif (decide<|qg < (a0.length:Int)) then some (decide<|qg < 4000) else (some false)).bind fun tO=>bif tO then (ix a0 qg).bind fun e44=>(MG N n1) (a0,(bits .and .i64 (IntKind.wrap .i64<|(IntKind.wrap .i64<|(IntKind.wrap .i64<|y29*131)+(IntKind.wrap .i64 ((e44).toNat:Int)))+7) 1073741823),(IntKind.wrap .i64<|qg+1)) else (some (a0,0,y29))
def aae (N:Nat) (a0:LU):Option (LU×Int×Int):=
  MG N N (a0,(IntKind.wrap .i64<|10101+(a0.length:Int)),0)
def QT (pa:LU):(Int×Int×Int)->Option (Int×Int×Int)
  | (pc,y3,y4)=>some (y3,y4,(IntKind.wrap .i64<|(IntKind.wrap .i64<|pc*6364136223846793005)+1442695040888963407))
def Dq (pa:LU) (pb:Int) (pc:Int):Option (Int×Int×Int):=
  bif (decide<|pb < (pa.length:Int)) then (ix pa pb).bind fun e6=>QT pa (pc,(bits .and .i64 (IntKind.wrap .i64<|(bits .and .i64 (bits .xor .i64 (Int.fdiv (IntKind.wrap .i64<|(IntKind.wrap .i64<|pc*6364136223846793005)+1442695040888963407)<|2 ^ (min 33 64))<|Int.fdiv (IntKind.wrap .i64<|(IntKind.wrap .i64<|pc*6364136223846793005)+1442695040888963407)<|2 ^ (min 45 64)) 255)+(IntKind.wrap .i64 ((e6).toNat:Int))) 255),(IntKind.wrap .i64<|pb+1)) else (QT pa (pc,(bits .and .i64 (bits .xor .i64 (Int.fdiv (IntKind.wrap .i64<|(IntKind.wrap .i64<|pc*6364136223846793005)+1442695040888963407)<|2 ^ (min 33 64))<|Int.fdiv (IntKind.wrap .i64<|(IntKind.wrap .i64<|pc*6364136223846793005)+1442695040888963407)<|2 ^ (min 45 64)) 255),pb))
def jD (a1:Int) (pa:LU) (pb:Int) (pc:Int):Option (Int×Int×Int):=
  bif (decide<|a1<=0) then some (0,pb,pc) else (bif (decide<|a1<=256) then (Dq pa pb pc).bind fun r7=>(JG r7.1 a1).bind fun x8=>some (x8,r7.2.1,r7.2.2) else ((Dq pa pb pc).bind fun bE=>(Dq pa bE.2.1 bE.2.2).bind fun bZ=>(Dq pa bZ.2.1 bZ.2.2).bind fun bM=>(Dq pa bM.2.1 bM.2.2).bind fun r16=>(JG (IntKind.wrap .i64<|(IntKind.wrap .i64<|(IntKind.wrap .i64<|(IntKind.wrap .i64<|bE.1*16777216)+(IntKind.wrap .i64<|bZ.1*65536))+(IntKind.wrap .i64<|bM.1*256))+r16.1) a1).bind fun x18=>some (x18,r16.2.1,r16.2.2)))
def wL (a1:Int) (pa:LU) (pb:Int) (pc:Int):Option (Bool×Int×Int):=
  (jD a1 pa pb pc).bind fun r2=>some ((r2.1==0),r2.2.1,r2.2.2)
def uW (a1:aO) (pa:LU) (pb:Int) (pc:Int):Option (LU×Int×Int):=
  (jD (a1.length:Int) pa pb pc).bind fun r3=>(ix a1 r3.1).bind fun e4=>some (e4,r3.2.1,r3.2.2)
def aaf (pa:LU) (pb:Int) (pc:Int):Option (LU×Int×Int):=
  (uW [[48],[49],[52,50],[51,46,53],[46,53],[55,46],[49,101,51],[50,69,45,52],[49,48,46,50,53,101,43,49]] pa pb pc).bind fun r2=>some (r2.1,r2.2.1,r2.2.2)
def aag (pa:LU) (pb:Int) (pc:Int):Option (LU×Int×Int):=
  (uW [[34,34],[34,97,34],[34,120,32,121,34],[34,113,92,34,113,34],[34,92,110,34],[34,35,110,111,34],[34,47,34]] pa pb pc).bind fun r2=>some (r2.1,r2.2.1,r2.2.2)
def aah (pa:LU) (pb:Int) (pc:Int):Option (LU×Int×Int):=
  (uW [[47,97,47],[47,94,120,43,36,47],[47,97,92,47,98,47],[47,61,47],[47,32,47],[47,91,48,45,57,93,47]] pa pb pc).bind fun r2=>some (r2.1,r2.2.1,r2.2.2)
def zK (pa:LU) (pb:Int) (pc:Int):Option (LU×Int×Int):=
  (uW [[120],[121],[110],[105],[97,114,114],[78,82],[70,83],[116,111,116,97,108],[97,49],[95,116],[99,111,117,110,116]] pa pb pc).bind fun r2=>some (r2.1,r2.2.1,r2.2.2)
def UQ (pa:LU):(Int×Int)->Option (LN×Int×Int)
  | (dK,mO)=>(zK pa dK mO).bind fun bM=>some ([(⟨1,0,bM.1,[],[]⟩:aC)],bM.2.1,bM.2.2)
def QU (pa:LU) (pb:Int) (pc:Int):Option (LN×Int×Int):=
  (jD 7 pa pb pc).bind fun r16=>bif (r16.1==0) then (aaf pa r16.2.1 r16.2.2).bind fun iC=>some ([(⟨2,0,iC.1,[],[]⟩:aC)],iC.2.1,iC.2.2) else (bif (r16.1==1) then (aag pa r16.2.1 r16.2.2).bind fun oI=>some ([(⟨3,0,oI.1,[],[]⟩:aC)],oI.2.1,oI.2.2) else (bif (r16.1==2) then (wL 2 pa r16.2.1 r16.2.2).bind fun lg=>bif lg.1 then (aah pa lg.2.1 lg.2.2).bind fun jE=>some ([(⟨4,0,jE.1,[],[]⟩:aC)],jE.2.1,jE.2.2) else (UQ pa (lg.2.1,lg.2.2)) else (UQ pa (r16.2.1,r16.2.2))))
def MH (N:Nat) (jl:(LN×Int×Int×LN)->Option LN):Nat->(LN×Int×Int×LN×aC×Int×(List Int))->Option LN
  | 0,_=>none
  | n2+1,(a0,a1,tQ,zL,rX,JI,UR)=>(ix a0 tQ).bind fun aeT=>bif (decide<|JI < (aeT.Kids.length:Int)) then (ix a0 tQ).bind fun akX=>(ix akX.Kids JI).bind fun akY=>(app 8 UR [(IntKind.wrap .i64<|akY+a1)]).bind fun aai=>(MH N jl n2) (a0,a1,tQ,zL,rX,(IntKind.wrap .i64<|JI+1),aai) else ((app 72 zL [(⟨rX.Kind,rX.Op,rX.Text,rX.Other,UR⟩:aC)]).bind fun aaj=>jl (a0,a1,(IntKind.wrap .i64<|tQ+1),aaj))
def GL (N:Nat):Nat->(LN×Int×Int×LN)->Option LN
  | 0,_=>none
  | n1+1,(a0,a1,tQ,zL)=>bif (decide<|tQ < (a0.length:Int)) then (ix a0 tQ).bind fun rX=>MH N (GL N n1) N (a0,a1,tQ,zL,rX,0,[]) else (some zL)
def UU (N:Nat) (a0:LN) (a1:Int):Option LN:=
  GL N N (a0,a1,0,[])
def JJ (N:Nat):Nat->((List LN)×aC×Int×LN×(List Int))->Option LN
  | 0,_=>none
  | n1+1,(a1,a0,kK,ji,oJ)=>bif (decide<|kK < (a1.length:Int)) then (ix a1 kK).bind fun aeU=>(UU N aeU (ji.length:Int)).bind fun AP=>(app 72 ji AP).bind fun QV=>(app 8 oJ [(IntKind.wrap .i64<|(QV.length:Int) - 1)]).bind fun aak=>(JJ N n1) (a1,a0,(IntKind.wrap .i64<|kK+1),QV,aak) else ((app 72 ji [(⟨a0.Kind,a0.Op,a0.Text,a0.Other,oJ⟩:aC)]).bind fun akZ=>some akZ)
def iZ (N:Nat) (a0:aC) (a1:List LN):Option LN:=
  JJ N N (a1,a0,0,[],[])
def zM (a1:List Int) (pa:LU) (pb:Int) (pc:Int):Option (Int×Int×Int):=
  (jD (a1.length:Int) pa pb pc).bind fun r3=>(ix a1 r3.1).bind fun e4=>some (e4,r3.2.1,r3.2.2)
def aal (pa:LU) (pb:Int) (pc:Int):Option (Int×Int×Int):=
  (zM [60,57,58,59,55,56,56,99,99,99,63,48,47,50,62,62,49,67,46,45,44] pa pb pc).bind fun r2=>some (r2.1,r2.2.1,r2.2.2)
structure EX where
  wM:Int->Int->Int->LU->Int->Int->Option ((List LN)×Int×Int)
  yE:Int->LU->Int->Int->Option (LN×Int×Int)
  fA:Int->LU->Int->Int->Option (LN×Int×Int)
def MI (N:Nat) (R:EX) (pa:LU):Nat->(Int×Int×Int×Int×(List LN))->Option ((List LN)×Int×Int)
  | 0,_=>none
  | n1+1,(a3,kC,nu,lH,pJ)=>bif (decide<|kC > 0) then (R.fA a3 pa nu lH).bind fun bV=>(app 24 pJ [bV.1]).bind fun zN=>(MI N R pa n1) (a3,(IntKind.wrap .i64<|kC - 1),bV.2.1,bV.2.2,zN) else (some (pJ,nu,lH))
def UW (N:Nat) (R:EX) (a1:Int) (a2:Int) (a3:Int) (pa:LU) (pb:Int) (pc:Int):Option ((List LN)×Int×Int):=
  (jD (IntKind.wrap .i64<|(IntKind.wrap .i64<|a2 - a1)+1) pa pb pc).bind fun rA=>MI N R pa N (a3,(IntKind.wrap .i64<|a1+rA.1),rA.2.1,rA.2.2,[])
def UY (N:Nat) (R:EX) (a1:Int) (pa:LU) (pb:Int) (pc:Int):Option (LN×Int×Int):=
  (jD 4 pa pb pc).bind fun bM=>bif (bM.1==0) then (zK pa bM.2.1 bM.2.2).bind fun iC=>(R.fA (IntKind.wrap .i64<|a1 - 1) pa iC.2.1 iC.2.2).bind fun cZ=>(iZ N (⟨5,0,iC.1,[],[]⟩:aC) [cZ.1]).bind fun oI=>some (oI,cZ.2.1,cZ.2.2) else (bif (bM.1==1) then (R.fA (IntKind.wrap .i64<|a1 - 2) pa bM.2.1 bM.2.2).bind fun rY=>(iZ N (⟨6,0,[],[],[]⟩:aC) [rY.1]).bind fun jE=>some (jE,rY.2.1,rY.2.2) else ((zK pa bM.2.1 bM.2.2).bind fun iy=>some ([(⟨1,0,iy.1,[],[]⟩:aC)],iy.2.1,iy.2.2)))
def QW (N:Nat) (R:EX) (pa:LU):(Int×(Int×Int×Int)×Bool)->Option (LN×Int×Int)
  | (a1,bV,y96)=>bif y96 then (zM [56,55,61] pa bV.2.1 bV.2.2).bind fun rZ=>(R.fA (IntKind.wrap .i64<|a1 - 1) pa rZ.2.1 rZ.2.2).bind fun QX=>(iZ N (⟨11,rZ.1,[],[],[]⟩:aC) [QX.1]).bind fun UZ=>some (UZ,QX.2.1,QX.2.2) else (bif (bV.1==9) then (zK pa bV.2.1 bV.2.2).bind fun pK=>(R.wM 1 2 (IntKind.wrap .i64<|a1 - 1) pa pK.2.1 pK.2.2).bind fun QY=>(iZ N (⟨13,0,pK.1,[],[]⟩:aC) QY.1).bind fun uX=>some (uX,QY.2.1,QY.2.2) else (bif (bV.1==10) then (R.fA (IntKind.wrap .i64<|a1 - 1) pa bV.2.1 bV.2.2).bind fun JK=>(R.fA (IntKind.wrap .i64<|a1 - 1) pa JK.2.1 JK.2.2).bind fun xI=>(R.fA (IntKind.wrap .i64<|a1 - 1) pa xI.2.1 xI.2.2).bind fun Dt=>(iZ N (⟨14,0,[],[],[]⟩:aC) [JK.1,xI.1,Dt.1]).bind fun dH=>some (dH,Dt.2.1,Dt.2.2) else (bif (bV.1==11) then (zM [54,38,43] pa bV.2.1 bV.2.2).bind fun wO=>(R.yE (IntKind.wrap .i64<|a1 - 1) pa wO.2.1 wO.2.2).bind fun qH=>(R.fA (IntKind.wrap .i64<|a1 - 1) pa qH.2.1 qH.2.2).bind fun QZ=>(iZ N (⟨15,wO.1,[],[],[]⟩:aC) [qH.1,QZ.1]).bind fun iK=>some (iK,QZ.2.1,QZ.2.2) else ((aal pa bV.2.1 bV.2.2).bind fun zO=>(R.fA (IntKind.wrap .i64<|a1 - 1) pa zO.2.1 zO.2.2).bind fun tT=>(R.fA (IntKind.wrap .i64<|a1 - 1) pa tT.2.1 tT.2.2).bind fun Ra=>(iZ N (⟨12,zO.1,[],[],[]⟩:aC) [tT.1,Ra.1]).bind fun ala=>some (ala,Ra.2.1,Ra.2.2)))))
def MJ (N:Nat) (R:EX) (a1:Int) (pa:LU) (pb:Int) (pc:Int):Option (LN×Int×Int):=
  bif (decide<|a1<=0) then (QU pa pb pc).bind fun r4=>some (r4.1,r4.2.1,r4.2.2) else ((jD 2 pa pb pc).bind fun r6=>(jD 16 pa r6.2.1 r6.2.2).bind fun bV=>bif (bV.1==0) then (QU pa bV.2.1 bV.2.2).bind fun MK=>some (MK.1,MK.2.1,MK.2.2) else (bif (bV.1==1) then (R.yE a1 pa bV.2.1 bV.2.2).bind fun r71=>some (r71.1,r71.2.1,r71.2.2) else (bif (bV.1==2) then (R.fA (IntKind.wrap .i64<|a1 - 1) pa bV.2.1 bV.2.2).bind fun ny=>(iZ N (⟨6,0,[],[],[]⟩:aC) [ny.1]).bind fun r75=>some (r75,ny.2.1,ny.2.2) else (bif (bV.1==3) then (zK pa bV.2.1 bV.2.2).bind fun uY=>(R.wM 0 3 (IntKind.wrap .i64<|a1 - 1) pa uY.2.1 uY.2.2).bind fun tV=>(iZ N (⟨7,0,uY.1,[],[]⟩:aC) tV.1).bind fun GQ=>some (GQ,tV.2.1,tV.2.2) else (bif (bV.1==4) then (uW [[108,101,110,103,116,104],[115,117,98,115,116,114],[105,110,100,101,120],[105,110,116],[116,111,117,112,112,101,114]] pa bV.2.1 bV.2.2).bind fun ML=>(R.wM 0 3 (IntKind.wrap .i64<|a1 - 2) pa ML.2.1 ML.2.2).bind fun nZ=>(iZ N (⟨8,0,ML.1,[],[]⟩:aC) nZ.1).bind fun uZ=>some (uZ,nZ.2.1,nZ.2.2) else (bif (bV.1==5) then (R.yE (IntKind.wrap .i64<|a1 - 1) pa bV.2.1 bV.2.2).bind fun sj=>(iZ N (⟨9,(IntKind.wrap .i64<|51+r6.1),[],[],[]⟩:aC) [sj.1]).bind fun Va=>some (Va,sj.2.1,sj.2.2) else (bif (bV.1==6) then (R.yE (IntKind.wrap .i64<|a1 - 1) pa bV.2.1 bV.2.2).bind fun og=>(iZ N (⟨10,(IntKind.wrap .i64<|51+r6.1),[],[],[]⟩:aC) [og.1]).bind fun BQ=>some (BQ,og.2.1,og.2.2) else (bif (bV.1==7) then QW N R pa (a1,bV,(bV.1==7)) else (QW N R pa (a1,bV,(bV.1==8)))))))))))
def qI:Nat->EX
  | 0=>⟨fun _ _ _ _ _ _=>none,fun _ _ _ _=>none,fun _ _ _ _=>none⟩
  | N+1=>⟨fun a1 a2 a3 pa pb pc=>UW N (qI N) a1 a2 a3 pa pb pc,fun a1 pa pb pc=>UY N (qI N) a1 pa pb pc,fun a1 pa pb pc=>MJ N (qI N) a1 pa pb pc⟩
def wM (N:Nat) (a1:Int) (a2:Int) (a3:Int) (pa:LU) (pb:Int) (pc:Int):Option ((List LN)×Int×Int):=(qI N).wM a1 a2 a3 pa pb pc
def yE (N:Nat) (a1:Int) (pa:LU) (pb:Int) (pc:Int):Option (LN×Int×Int):=(qI N).yE a1 pa pb pc
def fA (N:Nat) (a1:Int) (pa:LU) (pb:Int) (pc:Int):Option (LN×Int×Int):=(qI N).fA a1 pa pb pc
def MN (N:Nat) (pa:LU):Nat->(Int×Int)->Option (LN×Int×Int)
  | 0,_=>none
  | n1+1,(pb,pc)=>(jD 4 pa pb pc).bind fun r9=>(fA N (IntKind.wrap .i64<|1+r9.1) pa r9.2.1 r9.2.2).bind fun bE=>bif (decide<|(bE.1.length:Int)<=60) then some (bE.1,bE.2.1,bE.2.2) else ((MN N pa n1) (bE.2.1,bE.2.2))
def Rb (N:Nat) (pa:LU) (pb:Int) (pc:Int):Option (LN×Int×Int):=
  MN N pa N (pb,pc)
def Rc (N:Nat) (pa:LU):(Int×Int×Int)->Option (LN×Int×Int)
  | (a1,pJ,Vb)=>(fA N a1 pa pJ Vb).bind fun yF=>(iZ N (⟨20,0,[],[],[]⟩:aC) [yF.1]).bind fun nA=>some (nA,yF.2.1,yF.2.2)
def Rf (N:Nat) (pa:LU):((Int×Int×Int)×LU×(List LN)×Int×Int)->Option (LN×Int×Int)
  | (iL,oK,lq,kK,ji)=>(iZ N (⟨21,iL.1,[],oK,[]⟩:aC) lq).bind fun ny=>some (ny,kK,ji)
def Rh (N:Nat) (pa:LU):(Int×(Int×Int×Int)×Bool)->Option (LN×Int×Int)
  | (a1,iF,yA)=>bif yA then (jD 2 pa iF.2.1 iF.2.2).bind fun iL=>(wM N iL.1 3 a1 pa iL.2.1 iL.2.2).bind fun kL=>(wL 3 pa kL.2.1 kL.2.2).bind fun nN=>bif nN.1 then (uW [[62],[62,62],[124]] pa nN.2.1 nN.2.2).bind fun nC=>(fA N (IntKind.wrap .i64<|a1 - 1) pa nC.2.1 nC.2.2).bind fun GQ=>(app 24 kL.1 [GQ.1]).bind fun x82=>Rf N pa (iL,nC.1,x82,GQ.2.1,GQ.2.2) else (Rf N pa (iL,[],kL.1,nN.2.1,nN.2.2)) else (bif (iF.1==2) then (zM [22,25,26] pa iF.2.1 iF.2.2).bind fun r84=>some ([(⟨r84.1,0,[],[],[]⟩:aC)],r84.2.1,r84.2.2) else (bif (iF.1==3) then (zM [23,24] pa iF.2.1 iF.2.2).bind fun qh=>(wM N 0 1 a1 pa qh.2.1 qh.2.2).bind fun kD=>(iZ N (⟨qh.1,0,[],[],[]⟩:aC) kD.1).bind fun sj=>some (sj,kD.2.1,kD.2.2) else (bif (iF.1==4) then (zK pa iF.2.1 iF.2.2).bind fun og=>(wM N 0 2 (IntKind.wrap .i64<|a1 - 1) pa og.2.1 og.2.2).bind fun BQ=>(iZ N (⟨27,0,og.1,[],[]⟩:aC) BQ.1).bind fun nO=>some (nO,BQ.2.1,BQ.2.2) else (bif (iF.1==5) then (wL 2 pa iF.2.1 iF.2.2).bind fun lZ=>bif lZ.1 then (uW [[35],[35,32,110,111,116,101],[35,120,32,61,32,49]] pa lZ.2.1 lZ.2.2).bind fun rZ=>some ([(⟨34,0,rZ.1,[],[]⟩:aC)],rZ.2.1,rZ.2.2) else (Rc N pa (a1,lZ.2.1,lZ.2.2)) else (Rc N pa (a1,iF.2.1,iF.2.2))))))
def Vd (N:Nat) (a1:Int) (pa:LU) (pb:Int) (pc:Int):Option (LN×Int×Int):=
  (jD 9 pa pb pc).bind fun iF=>bif (iF.1==0) then Rh N pa (a1,iF,(iF.1==0)) else (Rh N pa (a1,iF,(iF.1==1)))
def EY (N:Nat) (a1:Int) (pa:LU) (pb:Int) (pc:Int):Option (LN×Int×Int):=
  (wL 3 pa pb pc).bind fun r4=>bif r4.1 then some ([(⟨16,0,[],[],[]⟩:aC)],r4.2.1,r4.2.2) else ((fA N a1 pa r4.2.1 r4.2.2).bind fun r6=>some (r6.1,r6.2.1,r6.2.2))
structure MO where
  jv:Int->LU->Int->Int->Option (LN×Int×Int)
  BR:Int->LU->Int->Int->Option (LN×Int×Int)
def MP (N:Nat) (R:MO) (pa:LU):Nat->(Int×Int×Int×Int×(List LN))->Option (LN×Int×Int)
  | 0,_=>none
  | n1+1,(a1,kC,nu,lH,pJ)=>bif (decide<|kC > 0) then (R.BR a1 pa nu lH).bind fun bV=>(app 24 pJ [bV.1]).bind fun zN=>(MP N R pa n1) (a1,(IntKind.wrap .i64<|kC - 1),bV.2.1,bV.2.2,zN) else ((iZ N (⟨33,0,[],[],[]⟩:aC) pJ).bind fun kM=>some (kM,nu,lH))
def Ve (N:Nat) (R:MO) (a1:Int) (pa:LU) (pb:Int) (pc:Int):Option (LN×Int×Int):=
  (jD 3 pa pb pc).bind fun rA=>MP N R pa N (a1,rA.1,rA.2.1,rA.2.2,[])
def MQ (N:Nat) (R:MO) (a1:Int) (pa:LU) (pb:Int) (pc:Int):Option (LN×Int×Int):=
  (bif (decide<|a1<=0) then some (true,pb,pc) else ((wL 3 pa pb pc).bind fun bZ=>some ((!bZ.1),bZ.2.1,bZ.2.2))).bind fun (y9,fP,dK)=>bif y9 then (Vd N (if 2 < a1 then 2 else a1) pa fP dK).bind fun bM=>some (bM.1,bM.2.1,bM.2.2) else ((jD 6 pa fP dK).bind fun fV=>bif (fV.1==0) then (fA N 1 pa fV.2.1 fV.2.2).bind fun iL=>(R.jv (IntKind.wrap .i64<|a1 - 1) pa iL.2.1 iL.2.2).bind fun iM=>(iZ N (⟨28,0,[],[],[]⟩:aC) [iL.1,iM.1]).bind fun kL=>some (kL,iM.2.1,iM.2.2) else (bif (fV.1==1) then (fA N 1 pa fV.2.1 fV.2.2).bind fun oN=>(R.jv (IntKind.wrap .i64<|a1 - 1) pa oN.2.1 oN.2.2).bind fun su=>(R.jv (IntKind.wrap .i64<|a1 - 1) pa su.2.1 su.2.2).bind fun bV=>(iZ N (⟨28,0,[],[],[]⟩:aC) [oN.1,su.1,bV.1]).bind fun tX=>some (tX,bV.2.1,bV.2.2) else (bif (fV.1==2) then (fA N 1 pa fV.2.1 fV.2.2).bind fun pO=>(R.jv (IntKind.wrap .i64<|a1 - 1) pa pO.2.1 pO.2.2).bind fun AQ=>(iZ N (⟨29,0,[],[],[]⟩:aC) [pO.1,AQ.1]).bind fun ny=>some (ny,AQ.2.1,AQ.2.2) else (bif (fV.1==3) then (R.jv (IntKind.wrap .i64<|a1 - 1) pa fV.2.1 fV.2.2).bind fun nC=>(fA N 1 pa nC.2.1 nC.2.2).bind fun uY=>(iZ N (⟨30,0,[],[],[]⟩:aC) [nC.1,uY.1]).bind fun tV=>some (tV,uY.2.1,uY.2.2) else (bif (fV.1==4) then (EY N 2 pa fV.2.1 fV.2.2).bind fun nZ=>(EY N 1 pa nZ.2.1 nZ.2.2).bind fun uZ=>(EY N 1 pa uZ.2.1 uZ.2.2).bind fun qh=>(R.jv (IntKind.wrap .i64<|a1 - 1) pa qh.2.1 qh.2.2).bind fun kD=>(iZ N (⟨31,0,[],[],[]⟩:aC) [nZ.1,uZ.1,qh.1,kD.1]).bind fun sj=>some (sj,kD.2.1,kD.2.2) else ((wL 2 pa fV.2.1 fV.2.2).bind fun nO=>bif nO.1 then (R.jv (IntKind.wrap .i64<|a1 - 1) pa nO.2.1 nO.2.2).bind fun lZ=>some (lZ.1,lZ.2.1,lZ.2.2) else ((zK pa nO.2.1 nO.2.2).bind fun Du=>(zK pa Du.2.1 Du.2.2).bind fun sw=>(R.jv (IntKind.wrap .i64<|a1 - 1) pa sw.2.1 sw.2.2).bind fun AP=>(iZ N (⟨32,0,Du.1,sw.1,[]⟩:aC) [AP.1]).bind fun pK=>some (pK,AP.2.1,AP.2.2))))))))
def qJ:Nat->MO
  | 0=>⟨fun _ _ _ _=>none,fun _ _ _ _=>none⟩
  | N+1=>⟨fun a1 pa pb pc=>Ve N (qJ N) a1 pa pb pc,fun a1 pa pb pc=>MQ N (qJ N) a1 pa pb pc⟩
def jv (N:Nat) (a1:Int) (pa:LU) (pb:Int) (pc:Int):Option (LN×Int×Int):=(qJ N).jv a1 pa pb pc
def BR (N:Nat) (a1:Int) (pa:LU) (pb:Int) (pc:Int):Option (LN×Int×Int):=(qJ N).BR a1 pa pb pc
def MR (N:Nat) (pa:LU):Nat->((Int×Int×Int)×Int×Int×Int×(List LN))->Option (LN×Int×Int)
  | 0,_=>none
  | n1+1,(r2,MS,MU,MV,Vf)=>bif (decide<|MS > 0) then (zK pa MU MV).bind fun JL=>(app 24 Vf [[(⟨1,0,JL.1,[],[]⟩:aC)]]).bind fun aao=>(MR N pa n1) (r2,(IntKind.wrap .i64<|MS - 1),JL.2.1,JL.2.2,aao) else ((uW [[102],[103],[109,97,120]] pa MU MV).bind fun MW=>(jv N (IntKind.wrap .i64<|1+r2.1) pa MW.2.1 MW.2.2).bind fun aap=>(app 24 Vf [aap.1]).bind fun aaq=>(iZ N (⟨44,0,MW.1,[],[]⟩:aC) aaq).bind fun alc=>some (alc,aap.2.1,aap.2.2))
def Vg (N:Nat) (pa:LU) (pb:Int) (pc:Int):Option (LN×Int×Int):=
  (jD 2 pa pb pc).bind fun r2=>(jD 8 pa r2.2.1 r2.2.2).bind fun iK=>bif (iK.1==0) then (jD 2 pa iK.2.1 iK.2.2).bind fun AU=>(jv N (IntKind.wrap .i64<|1+r2.1) pa AU.2.1 AU.2.2).bind fun zO=>(iZ N (⟨(IntKind.wrap .i64<|40+AU.1),0,[],[],[]⟩:aC) [zO.1]).bind fun tT=>some (tT,zO.2.1,zO.2.2) else (bif (iK.1==1) then (fA N (IntKind.wrap .i64<|1+r2.1) pa iK.2.1 iK.2.2).bind fun oh=>(iZ N (⟨42,1,[],[],[]⟩:aC) [oh.1]).bind fun kN=>some (kN,oh.2.1,oh.2.2) else (bif (iK.1==2) then (jv N (IntKind.wrap .i64<|1+r2.1) pa iK.2.1 iK.2.2).bind fun Ri=>(iZ N (⟨42,2,[],[],[]⟩:aC) [Ri.1]).bind fun Vh=>some (Vh,Ri.2.1,Ri.2.2) else (bif (iK.1==3) then (fA N 1 pa iK.2.1 iK.2.2).bind fun AV=>(fA N 1 pa AV.2.1 AV.2.2).bind fun Rj=>(iZ N (⟨43,1,[],[],[]⟩:aC) [AV.1,Rj.1]).bind fun ald=>some (ald,Rj.2.1,Rj.2.2) else (bif (iK.1==4) then (fA N 1 pa iK.2.1 iK.2.2).bind fun JM=>(fA N 1 pa JM.2.1 JM.2.2).bind fun JN=>(jv N (IntKind.wrap .i64<|1+r2.1) pa JN.2.1 JN.2.2).bind fun Rk=>(iZ N (⟨43,3,[],[],[]⟩:aC) [JM.1,JN.1,Rk.1]).bind fun ale=>some (ale,Rk.2.1,Rk.2.2) else (bif (iK.1==5) then (jD 3 pa iK.2.1 iK.2.2).bind fun EZ=>MR N pa N (r2,EZ.1,EZ.2.1,EZ.2.2,[]) else (bif (iK.1==6) then (uW [[35,32,116,111,112],[35]] pa iK.2.1 iK.2.2).bind fun aar=>some ([(⟨34,0,aar.1,[],[]⟩:aC)],aar.2.1,aar.2.2) else ((fA N (IntKind.wrap .i64<|1+r2.1) pa iK.2.1 iK.2.2).bind fun JO=>(jv N (IntKind.wrap .i64<|1+r2.1) pa JO.2.1 JO.2.2).bind fun Rl=>(iZ N (⟨42,3,[],[],[]⟩:aC) [JO.1,Rl.1]).bind fun alf=>some (alf,Rl.2.1,Rl.2.2))))))))
def MX (N:Nat) (pa:LU) (jl:(Int×Int)->Option (LN×Int×Int)):Nat->(Int×Int×Int×(List LN))->Option (LN×Int×Int)
  | 0,_=>none
  | n2+1,(MZ,BU,JQ,Na)=>bif (decide<|MZ > 0) then (Vg N pa BU JQ).bind fun JR=>(app 24 Na [JR.1]).bind fun aas=>(MX N pa jl n2) ((IntKind.wrap .i64<|MZ - 1),JR.2.1,JR.2.2,aas) else ((iZ N (⟨45,0,[],[],[]⟩:aC) Na).bind fun AV=>bif (decide<|(AV.length:Int)<=220) then some (AV,BU,JQ) else (jl (BU,JQ)))
def GR (N:Nat) (pa:LU):Nat->(Int×Int)->Option (LN×Int×Int)
  | 0,_=>none
  | n1+1,(pb,pc)=>(jD 4 pa pb pc).bind fun uX=>MX N pa (GR N pa n1) N (uX.1,uX.2.1,uX.2.2,[])
def Vi (N:Nat) (pa:LU) (pb:Int) (pc:Int):Option (LN×Int×Int):=
  GR N pa N (pb,pc)
def Rm (N:Nat) (pa:LU):((Int×Int×Int)×Bool)->Option (LN×Int×Int)
  | (r9,fP)=>bif fP then (Rb N pa r9.2.1 r9.2.2).bind fun bZ=>some (bZ.1,bZ.2.1,bZ.2.2) else (bif (r9.1==2) then (BR N 2 pa r9.2.1 r9.2.2).bind fun bM=>some (bM.1,bM.2.1,bM.2.2) else ((Vi N pa r9.2.1 r9.2.2).bind fun r16=>some (r16.1,r16.2.1,r16.2.2)))
def Rn (N:Nat) (pa:LU) (pb:Int) (pc:Int):Option (LN×Int×Int):=
  (jD 5 pa pb pc).bind fun r9=>bif (r9.1==0) then Rm N pa (r9,(r9.1==0)) else (Rm N pa (r9,(r9.1==1)))
def Nb (N:Nat) (pa:LU):(LN×Int×Int)->Option (LN×Int×Int)
  | (y31,y32,yG)=>some (y31,y32,yG)
def Vj (N:Nat) (pa:LU) (pb:Int) (pc:Int):Option (LN×Int×Int):=
  (Rn N pa pb pc).bind fun r2=>(jD (r2.1.length:Int) pa r2.2.1 r2.2.2).bind fun r4=>(jD 12 pa r4.2.1 r4.2.2).bind fun dh=>bif (dh.1==0) then (cut r2.1 0 r4.1).bind fun Ro=>some (Ro,dh.2.1,dh.2.2) else (bif (dh.1==1) then (ix r2.1 r4.1).bind fun e39=>(zM [(-1),r4.1,0,99] pa dh.2.1 dh.2.2).bind fun Rp=>(app 8 e39.Kids [Rp.1]).bind fun x44=>(upd r2.1 r4.1 (⟨e39.Kind,e39.Op,e39.Text,e39.Other,x44⟩:aC)).bind fun Vk=>Nb N pa (Vk,Rp.2.1,Rp.2.2) else (bif (dh.1==2) then (ix r2.1 r4.1).bind fun e47=>bif (decide<|(e47.Kids.length:Int) > 0) then (ix r2.1 r4.1).bind fun e49=>(jD (IntKind.wrap .i64<|r4.1+1) pa dh.2.1 dh.2.2).bind fun nA=>(ix e49.Kids 0).bind fun e54=>(upd e49.Kids 0<|IntKind.wrap .i64<|nA.1 - 1).bind fun x55=>(upd r2.1 r4.1 (⟨e49.Kind,e49.Op,e49.Text,e49.Other,x55⟩:aC)).bind fun Vl=>Nb N pa (Vl,nA.2.1,nA.2.2) else (Nb N pa (r2.1,dh.2.1,dh.2.2)) else (bif (dh.1==3) then (app 72 r2.1 r2.1).bind fun Rq=>some (Rq,dh.2.1,dh.2.2) else (Nb N pa (r2.1,dh.2.1,dh.2.2)))))
def JU (N:Nat) (pa:LU):(LN×Int×Int)->Option (LN×Int×Int)
  | (yG,y34,eF)=>some (yG,y34,eF)
def Vm (N:Nat) (pa:LU) (pb:Int) (pc:Int):Option (LN×Int×Int):=
  (Rn N pa pb pc).bind fun r2=>(jD (r2.1.length:Int) pa r2.2.1 r2.2.2).bind fun r4=>(jD 14 pa r4.2.1 r4.2.2).bind fun jF=>bif (jF.1==0) then (jD 47 pa jF.2.1 jF.2.2).bind fun qj=>(ix r2.1 r4.1).bind fun e42=>(upd r2.1 r4.1 (⟨qj.1,e42.Op,e42.Text,e42.Other,e42.Kids⟩:aC)).bind fun x43=>JU N pa (x43,qj.2.1,qj.2.2) else (bif (jF.1==1) then (zM [0,1,56,99,54,51,(-1)] pa jF.2.1 jF.2.2).bind fun wP=>(ix r2.1 r4.1).bind fun e48=>(upd r2.1 r4.1 (⟨e48.Kind,wP.1,e48.Text,e48.Other,e48.Kids⟩:aC)).bind fun x49=>JU N pa (x49,wP.2.1,wP.2.2) else (bif (jF.1==2) then (uW [[],[120],[105,102],[108,101,110,103,116,104],[49],[47]] pa jF.2.1 jF.2.2).bind fun nA=>(ix r2.1 r4.1).bind fun e54=>(upd r2.1 r4.1 (⟨e54.Kind,e54.Op,nA.1,e54.Other,e54.Kids⟩:aC)).bind fun x55=>JU N pa (x55,nA.2.1,nA.2.2) else (bif (jF.1==3) then (uW [[],[62],[120]] pa jF.2.1 jF.2.2).bind fun iM=>(ix r2.1 r4.1).bind fun e60=>(upd r2.1 r4.1 (⟨e60.Kind,e60.Op,e60.Text,iM.1,e60.Kids⟩:aC)).bind fun x61=>JU N pa (x61,iM.2.1,iM.2.2) else (bif (jF.1==4) then (Vj N pa jF.2.1 jF.2.2).bind fun xJ=>some (xJ.1,xJ.2.1,xJ.2.2) else (JU N pa (r2.1,jF.2.1,jF.2.2))))))
def Vn (N:Nat) (pa:LU) (pb:Int) (pc:Int):Option (LN×Int×Int):=
  (wL 10 pa pb pc).bind fun r6=>bif r6.1 then (Vm N pa r6.2.1 r6.2.2).bind fun r8=>some (r8.1,r8.2.1,r8.2.2) else ((Rb N pa r6.2.1 r6.2.2).bind fun bE=>some (bE.1,bE.2.1,bE.2.2))
def JV (pa:LU):((Bool×Int×Int)×(Bool×Int×Int)×(Bool×Int×Int)×Int×Bool×Int×Int)->Option (aK×Int×Int)
  | (r6,r7,r8,gK,jO,oO,jN)=>some ((⟨gK,jO,r6.1,r7.1,r8.1⟩:aK),oO,jN)
def Nc (pa:LU):((Int×Int×Int)×(Bool×Int×Int)×(Bool×Int×Int)×(Bool×Int×Int)×(Int×Int×Int)×Bool)->Option (aK×Int×Int)
  | (r5,r6,r7,r8,cZ,y22)=>bif y22 then JV pa (r6,r7,r8,1,false,cZ.2.1,cZ.2.2) else (JV pa (r6,r7,r8,(IntKind.wrap .i64<|1+r5.1),false,cZ.2.1,cZ.2.2))
def Vo (pa:LU) (pb:Int) (pc:Int):Option (aK×Int×Int):=
  (jD 15 pa pb pc).bind fun r5=>(wL 4 pa r5.2.1 r5.2.2).bind fun r6=>(wL 4 pa r6.2.1 r6.2.2).bind fun r7=>(wL 4 pa r7.2.1 r7.2.2).bind fun r8=>(jD 12 pa r8.2.1 r8.2.2).bind fun cZ=>bif (cZ.1==0) then (zM [0,16,(-1)] pa cZ.2.1 cZ.2.2).bind fun bW=>JV pa (r6,r7,r8,bW.1,false,bW.2.1,bW.2.2) else (bif (cZ.1==1) then JV pa (r6,r7,r8,(IntKind.wrap .i64<|1+r5.1),true,cZ.2.1,cZ.2.2) else (bif (cZ.1==2) then JV pa (r6,r7,r8,14,true,cZ.2.1,cZ.2.2) else (bif (cZ.1==3) then Nc pa (r5,r6,r7,r8,cZ,(cZ.1==3)) else (bif (cZ.1==4) then Nc pa (r5,r6,r7,r8,cZ,(cZ.1==4)) else (Nc pa (r5,r6,r7,r8,cZ,(cZ.1==5)))))))
def Jh (N:Nat) (a0:LU):Option (LN×aK):=
  (aae N a0).bind fun r2=>(Vn N r2.1 r2.2.1 r2.2.2).bind fun r5=>(Vo r2.1 r5.2.1 r5.2.2).bind fun r6=>some (r5.1,r6.1)
def Nf (N:Nat):Nat->(LU×Int×Int×LU)->Option LU
  | 0,_=>none
  | n1+1,(a0,a1,kC,nu)=>(bif (decide<|kC < (a0.length:Int)) then some (decide<|kC < 600) else (some false)).bind fun sF=>bif sF then (ix a0 kC).bind fun e67=>(app 1 nu [(JE<|IntKind.wrap .i64<|(IntKind.wrap .i64<|(IntKind.wrap .i64 ((e67).toNat:Int))*3)+(IntKind.wrap .i64<|a1*(IntKind.wrap .i64<|(Int.tmod kC 7)+1)))]).bind fun zN=>(Nf N n1) (a0,a1,(IntKind.wrap .i64<|kC+1),zN) else (some nu)
def aav (N:Nat) (a0:LU) (a1:Int):Option LU:=
  Nf N N (a0,a1,0,[(JE a1)])
def rC (a0:Int) (a1:Int) (a2:Int):Option Bool:=
  (bif (decide<|a0>=a1) then some (decide<|a0<=a2) else (some false)).bind fun y1=>some y1
def JW (N:Nat) (jl:(LN×Int×(List Int))->Option ((List Int)×Bool)) (a0:LN) (mg:Int) (yH:aC) (tY:List Int):List Int->Int->Option ((List Int)×Bool)
  | [],xK=>(ix tY mg).bind fun auR=>(upd tY mg<|IntKind.wrap .i64<|xK+1).bind fun aaw=>jl (a0,(IntKind.wrap .i64<|mg+1),aaw)
  | e339::alg,xK=>(bif (decide<|xK < 0) then some true else (some<|e339 !=xK)).bind fun aeX=>bif aeX then some ([],false) else ((ix tY e339).bind fun Vp=>(JW N jl a0 mg yH tY alg)<|IntKind.wrap .i64<|Vp - 1)
def GU (N:Nat):Nat->(LN×Int×(List Int))->Option ((List Int)×Bool)
  | 0,_=>none
  | n1+1,(a0,mg,tY)=>bif (decide<|mg < (a0.length:Int)) then (ix a0 mg).bind fun yH=>JW N (GU N n1) a0 mg yH tY (yH.Kids.reverse) (IntKind.wrap .i64<|mg - 1) else ((ix tY<|IntKind.wrap .i64<|(a0.length:Int) - 1).bind fun Vq=>some (tY,(Vq==0)))
def Vr (N:Nat) (a0:LN):Option ((List Int)×Bool):=
  (rC (a0.length:Int) 1 400).bind fun r4=>bif (!r4) then some ([],false) else ((mk 8 0 (a0.length:Int)).bind fun x6=>GU N N (a0,0,x6))
def Vs (N:Nat) (a0:LN):Option Bool:=
  (Vr N a0).bind fun r2=>some r2.2
def Dv (a0:Int):Option Bool:=
  (rC a0 1 15).bind fun r2=>some r2
def Rs (a0:Int):Option Bool:=
  (bif (decide<|a0>=97) then bif (decide<|a0<=122) then some true else (bif (decide<|a0>=65) then bif (decide<|a0<=90) then some true else (some<|a0==95) else (some<|a0==95)) else (bif (decide<|a0>=65) then bif (decide<|a0<=90) then some true else (some<|a0==95) else (some<|a0==95))).bind fun y1=>some y1
def Rt (a0:Int):Option Bool:=
  (bif (decide<|a0>=48) then some (decide<|a0<=57) else (some false)).bind fun y1=>some y1
def Vt (a0:Int):Option Bool:=
  ((Rs a0).bind fun r4=>bif r4 then some true else ((Rt a0).bind fun r5=>some r5)).bind fun y3=>some y3
def Ng (N:Nat):Nat->(LU×Int)->Option Bool
  | 0,_=>none
  | n1+1,(a0,eF)=>bif (decide<|eF < (a0.length:Int)) then (ix a0 eF).bind fun Nh=>(Vt<|IntKind.wrap .i64 ((Nh).toNat:Int)).bind fun yF=>bif (!yF) then some false else ((Ng N n1) (a0,(IntKind.wrap .i64<|eF+1))) else (((rC (a0.length:Int) 1 12).bind fun Vu=>bif Vu then (ix a0 0).bind fun Ni=>(Rs<|IntKind.wrap .i64 ((Ni).toNat:Int)).bind fun iM=>some iM else (some false)).bind fun yA=>some yA)
def aax (N:Nat) (a0:LU):Option Bool:=
  Ng N N (a0,0)
def JX (N:Nat):Nat->(aO×LU×Int)->Option Int
  | 0,_=>none
  | n1+1,(a0,a1,fQ)=>bif (decide<|fQ < (a0.length:Int)) then (ix a0 fQ).bind fun e28=>bif (a1==e28) then some fQ else ((JX N n1) (a0,a1,(IntKind.wrap .i64<|fQ+1))) else (some<|-1)
def Ru (N:Nat) (a0:aO) (a1:LU):Option Int:=
  JX N N (a0,a1,0)
def Vv (N:Nat) (a0:LU):Option Int:=
  (Ru N rR a0).bind fun r2=>bif (decide<|r2 < 0) then some 0 else (some<|IntKind.wrap .i64<|10+r2)
def Nj (N:Nat) (a0:aO) (a1:LU):Option Bool:=
  (Ru N a0 a1).bind fun r2=>some (decide<|r2>=0)
def Nk (N:Nat) (a0:LU):Option Bool:=
  (Nj N zq a0).bind fun r2=>some r2
def BX (N:Nat) (a0:LU):Option Bool:=
  ((aax N a0).bind fun r5=>bif r5 then (Vv N a0).bind fun r6=>bif (r6==0) then (Nk N a0).bind fun r7=>some (!r7) else (some false) else (some false)).bind fun y4=>some y4
def aeY (a0:LU) (a1:Int):Option Int:=
  some (Go.Lib.indexByte a0 (Int.toNat a1).toUInt8)
def Vw (a0:LU):Option Int:=
  bif (([10]:LU)==a0) then some 0 else ((ix ([10]:LU) 0).bind fun b7=>(aeY a0 ((b7).toNat:Int)).bind fun r8=>some r8)
def aay (a0:LU):Option Int:=
  (Vw a0).bind fun r2=>some r2
def Vx (a0:LU):Option Bool:=
  (aay a0).bind fun r2=>some (decide<|r2>=0)
def Fa (a0:LU) (a1:Int):Option Int:=
  (rC a1 0<|IntKind.wrap .i64<|(a0.length:Int) - 1).bind fun r4=>bif (!r4) then some (-1) else ((ix a0 a1).bind fun b6=>some<|IntKind.wrap .i64 ((b6).toNat:Int))
def Nl (N:Nat):Nat->(LU×Int)->Option Int
  | 0,_=>none
  | n1+1,(a0,a1)=>(Fa a0 a1).bind fun fZ=>(Rt fZ).bind fun nD=>bif nD then (Nl N n1) (a0,(IntKind.wrap .i64<|a1+1)) else (some a1)
def Rv (N:Nat) (a0:LU) (a1:Int):Option Int:=
  Nl N N (a0,a1)
def Vy (N:Nat):Int->Option Int
  | dK=>some dK
def Rw (N:Nat):(LU×Int×Int)->Option Int
  | (a0,dK,y31)=>(Rv N a0 y31).bind fun fZ=>bif (decide<|fZ > y31) then some fZ else (Vy N dK)
def Nn (N:Nat):(LU×Int×Int)->Option Int
  | (a0,dK,mO)=>bif (mO==0) then some (-1) else ((Fa a0 dK).bind fun iy=>(bif (iy==101) then some true else (some<|iy==69)).bind fun y27=>bif y27 then (Fa a0<|IntKind.wrap .i64<|dK+1).bind fun dh=>(bif (dh==43) then some true else (some<|dh==45)).bind fun EW=>bif EW then Rw N (a0,dK,(IntKind.wrap .i64<|(IntKind.wrap .i64<|dK+1)+1)) else (Rw N (a0,dK,(IntKind.wrap .i64<|dK+1))) else (Vy N dK))
def Rx (N:Nat) (a0:LU) (a1:Int):Option Int:=
  (rC a1 0<|IntKind.wrap .i64<|(a0.length:Int) - 1).bind fun r4=>bif (!r4) then some (-1) else ((Rv N a0 a1).bind fun r6=>(Fa a0 r6).bind fun iN=>bif (iN==46) then (Rv N a0<|IntKind.wrap .i64<|r6+1).bind fun nP=>Nn N (a0,nP,(IntKind.wrap .i64<|(IntKind.wrap .i64<|r6 - a1)+(IntKind.wrap .i64<|(IntKind.wrap .i64<|nP - r6) - 1))) else (Nn N (a0,r6,(IntKind.wrap .i64<|r6 - a1))))
def Np (N:Nat) (jl:(LU×Int×Int)->Option Int):(LU×Int×Int)->Option Int
  | (a0,a2,JH)=>jl (a0,a2,(IntKind.wrap .i64<|JH+1))
def Fb (N:Nat):Nat->(LU×Int×Int)->Option Int
  | 0,_=>none
  | n1+1,(a0,a2,y91)=>(bif (decide<|y91 < (a0.length:Int)) then (ix a0 y91).bind fun alh=>some (((alh).toNat:Int) !=10) else (some false)).bind fun BU=>bif BU then (ix a0 y91).bind fun ali=>bif ((IntKind.wrap .i64 ((ali).toNat:Int))==a2) then some (IntKind.wrap .i64<|y91+1) else (((ix a0 y91).bind fun alj=>bif (((alj).toNat:Int)==92) then (Fa a0<|IntKind.wrap .i64<|y91+1).bind fun kN=>some (kN !=10) else (some false)).bind fun aeZ=>bif aeZ then Np N (Fb N n1) (a0,a2,(IntKind.wrap .i64<|y91+1)) else (Np N (Fb N n1) (a0,a2,y91))) else (some<|-1)
def Ry (N:Nat) (a0:LU) (a1:Int) (a2:Int):Option Int:=
  (Fa a0 a1).bind fun r4=>bif (r4 !=a2) then some (-1) else (Fb N N (a0,a2,(IntKind.wrap .i64<|a1+1)))
def Rz (N:Nat) (a0:LU) (a1:Int):Option Int:=
  (Ry N a0 a1 34).bind fun r2=>some r2
def RA (N:Nat) (a0:LU) (a1:Int):Option Int:=
  (Ry N a0 a1 47).bind fun r2=>bif (r2==(IntKind.wrap .i64<|a1+2)) then some (-1) else (some r2)
def Vz (a0:Int):Option Bool:=
  (rC a0 10 26).bind fun r2=>some r2
def VA (a0:Int):Option Bool:=
  (rC a0 30 68).bind fun r2=>some r2
def Nq (a0:Int):Option LU:=
  bif (a0==1) then some [10] else ((Vz a0).bind fun bE=>bif bE then (ix rR<|IntKind.wrap .i64<|a0 - 10).bind fun e12=>some e12 else ((VA a0).bind fun bM=>bif bM then (ix zo<|IntKind.wrap .i64<|a0 - 30).bind fun e16=>some e16 else (some [])))
def RB (N:Nat):(aG×Bool)->Option Bool
  | (a0,y28)=>bif y28 then (BX N a0.Text).bind fun vg=>some vg else (bif (a0.Kind==8) then (Nk N a0.Text).bind fun r32=>some r32 else ((Nq a0.Kind).bind fun nD=>some<|a0.Text==nD))
def Nr (N:Nat) (a0:aG):Option Bool:=
  bif (a0.Text==[]) then some false else (bif (a0.Kind==2) then ((ix a0.Text 0).bind fun b20=>bif (((b20).toNat:Int)==35) then (Vx a0.Text).bind fun bW=>some (!bW) else (some false)).bind fun fQ=>some fQ else (bif (a0.Kind==3) then (Rx N a0.Text 0).bind fun rY=>some (rY==(a0.Text.length:Int)) else (bif (a0.Kind==4) then (Rz N a0.Text 0).bind fun GV=>some (GV==(a0.Text.length:Int)) else (bif (a0.Kind==5) then (RA N a0.Text 0).bind fun tZ=>some (tZ==(a0.Text.length:Int)) else (bif (a0.Kind==6) then RB N (a0,(a0.Kind==6)) else (RB N (a0,(a0.Kind==7))))))))
def AX (a0:Int):Option Bool:=
  (bif (a0==51) then some true else (some<|a0==52)).bind fun y1=>some y1
def RF:(Int×Bool)->Option Int
  | (a0,y8)=>bif y8 then some 10 else (bif (a0==60) then some 12 else (some 0))
def VB:(Int×Bool)->Option Int
  | (a0,y7)=>bif y7 then some 9 else (bif (a0==57) then RF (a0,(a0==57)) else (bif (a0==58) then RF (a0,(a0==58)) else (RF (a0,(a0==59)))))
def GX:(Int×Bool)->Option Int
  | (a0,y6)=>bif y6 then some 7 else (bif (a0==99) then some 8 else (bif (a0==55) then VB (a0,(a0==55)) else (VB (a0,(a0==56)))))
def VD:(Int×Bool)->Option Int
  | (a0,y5)=>bif y5 then some 6 else (bif (a0==63) then GX (a0,(a0==63)) else (bif (a0==48) then GX (a0,(a0==48)) else (bif (a0==47) then GX (a0,(a0==47)) else (bif (a0==50) then GX (a0,(a0==50)) else (bif (a0==62) then GX (a0,(a0==62)) else (GX (a0,(a0==49))))))))
def BZ (a0:Int):Option Int:=
  bif (a0==44) then some 3 else (bif (a0==45) then some 4 else (bif (a0==67) then VD (a0,(a0==67)) else (VD (a0,(a0==46)))))
def Ns (a0:Int):Option Bool:=
  (bif (a0==54) then some true else ((rC a0 38 43).bind fun r3=>some r3)).bind fun y2=>some y2
def VE (N:Nat):(aC×Bool)->Option mQ
  | (a0,eF)=>bif eF then (AX a0.Op).bind fun jF=>some (⟨jF,(a0.Text==[]),false,1,1⟩:mQ) else (bif (a0.Kind==11) then (bif (a0.Op==55) then some true else (bif (a0.Op==56) then some true else (some<|a0.Op==61))).bind fun y38=>some (⟨y38,(a0.Text==[]),false,1,1⟩:mQ) else (bif (a0.Kind==12) then (BZ a0.Op).bind fun nP=>some (⟨(nP !=0),(a0.Text==[]),false,2,2⟩:mQ) else (bif (a0.Kind==14) then some (⟨(a0.Op==0),(a0.Text==[]),false,3,3⟩:mQ) else ((Ns a0.Op).bind fun ql=>some (⟨ql,(a0.Text==[]),false,2,2⟩:mQ)))))
def VF (N:Nat):(aC×Bool)->Option mQ
  | (a0,y28)=>bif y28 then (BX N a0.Text).bind fun vg=>some (⟨(a0.Op==0),vg,false,1,6⟩:mQ) else (bif (a0.Kind==6) then some (⟨(a0.Op==0),(a0.Text==[]),false,1,1⟩:mQ) else (bif (a0.Kind==7) then (BX N a0.Text).bind fun r32=>some (⟨(a0.Op==0),r32,false,0,6⟩:mQ) else (bif (a0.Kind==8) then (Nk N a0.Text).bind fun nD=>some (⟨(a0.Op==0),nD,false,0,6⟩:mQ) else (bif (a0.Kind==9) then VE N (a0,(a0.Kind==9)) else (VE N (a0,(a0.Kind==10)))))))
def RG (N:Nat):(aC×Bool)->Option mQ
  | (a0,y23)=>bif y23 then (ix [3,4,5]<|IntKind.wrap .i64<|a0.Kind - 2).bind fun e26=>(Nr N (⟨e26,a0.Text,0⟩:aG)).bind fun tZ=>some (⟨(a0.Op==0),tZ,false,0,0⟩:mQ) else (bif (a0.Kind==5) then VF N (a0,(a0.Kind==5)) else (VF N (a0,(a0.Kind==13))))
def aaz (N:Nat) (a0:aC):Option mQ:=
  bif (a0.Kind==1) then (BX N a0.Text).bind fun lg=>some (⟨(a0.Op==0),lg,false,0,0⟩:mQ) else (bif (a0.Kind==2) then RG N (a0,(a0.Kind==2)) else (bif (a0.Kind==3) then RG N (a0,(a0.Kind==3)) else (RG N (a0,(a0.Kind==4)))))
def JY (a0:Int):Option Bool:=
  (rC a0 20 34).bind fun r2=>some r2
def yI (N:Nat):(Bool×Bool×Bool×Int×Int)->Option mQ
  | (gK,jO,oO,jN,zP)=>some (⟨gK,jO,oO,jN,zP⟩:mQ)
def VG (N:Nat):(aC×Bool)->Option mQ
  | (a0,y25)=>bif y25 then yI N ((a0.Op==0),(a0.Text==[]),(a0.Other==[]),2,2) else (bif (a0.Kind==31) then yI N ((a0.Op==0),(a0.Text==[]),(a0.Other==[]),4,4) else (bif (a0.Kind==32) then (BX N a0.Text).bind fun jT=>(BX N a0.Other).bind fun xL=>yI N ((a0.Op==0),jT,xL,1,1) else (bif (a0.Kind==33) then yI N ((a0.Op==0),(a0.Text==[]),(a0.Other==[]),0,400) else (bif (a0.Kind==34) then (Nr N (⟨2,a0.Text,0⟩:aG)).bind fun yJ=>yI N ((a0.Op==0),yJ,(a0.Other==[]),0,0) else (yI N ((a0.Op==0),(a0.Text==[]),(a0.Other==[]),0,0))))))
def VH (N:Nat):(aC×Bool)->Option mQ
  | (a0,y22)=>bif y22 then yI N ((a0.Op==0),(a0.Text==[]),(a0.Other==[]),0,1) else (bif (a0.Kind==27) then (BX N a0.Text).bind fun jE=>yI N ((a0.Op==0),jE,(a0.Other==[]),0,6) else (bif (a0.Kind==28) then yI N ((a0.Op==0),(a0.Text==[]),(a0.Other==[]),2,3) else (bif (a0.Kind==29) then VG N (a0,(a0.Kind==29)) else (VG N (a0,(a0.Kind==30))))))
def aaA (N:Nat) (a0:aC):Option mQ:=
  bif (a0.Kind==20) then yI N ((a0.Op==0),(a0.Text==[]),(a0.Other==[]),1,1) else (bif (a0.Kind==21) then (bif (a0.Op==0) then some true else (some<|a0.Op==1)).bind fun fQ=>(Nj N [[],[62],[62,62],[124]] a0.Other).bind fun bW=>bif (!(a0.Other==[])) then yI N (fQ,(a0.Text==[]),bW,(IntKind.wrap .i64<|a0.Op+1),7) else (yI N (fQ,(a0.Text==[]),bW,a0.Op,6)) else (bif (a0.Kind==23) then VH N (a0,(a0.Kind==23)) else (VH N (a0,(a0.Kind==24)))))
def JZ (N:Nat):(aC×Bool×Bool×Int×Int)->Option mQ
  | (a0,y9,fP,dK,mO)=>some (⟨y9,fP,(a0.Other==[]),dK,mO⟩:mQ)
def VI (N:Nat):(Bool×aC×Int)->Option mQ
  | (fG,a0,oO)=>JZ N (a0,fG,(a0.Text==[]),oO,oO)
def VJ (N:Nat):(Bool×aC×Int)->Option mQ
  | (jN,a0,zP)=>JZ N (a0,jN,(a0.Text==[]),zP,zP)
def VK (N:Nat):(aC×Bool)->Option mQ
  | (a0,y13)=>bif y13 then JZ N (a0,(a0.Op==0),(a0.Text==[]),1,1) else (bif (a0.Kind==42) then (rC a0.Op 1 3).bind fun fG=>bif (a0.Op==3) then VI N (fG,a0,2) else (VI N (fG,a0,1)) else (bif (a0.Kind==43) then (bif (a0.Op==1) then some true else (some<|a0.Op==3)).bind fun jN=>bif (a0.Op==3) then VJ N (jN,a0,3) else (VJ N (jN,a0,2)) else (bif (a0.Kind==44) then (BX N a0.Text).bind fun oI=>JZ N (a0,(a0.Op==0),oI,1,7) else (JZ N (a0,(a0.Op==0),(a0.Text==[]),0,400)))))
def aaB (N:Nat) (a0:aC):Option mQ:=
  bif (a0.Kind==40) then VK N (a0,(a0.Kind==40)) else (VK N (a0,(a0.Kind==41)))
def Nt (N:Nat):(aC×Bool×Bool×Bool×Int×Int)->Option Bool
  | (a0,y13,gK,jO,oO,jN)=>(bif y13 then bif gK then bif jO then (rC (a0.Kids.length:Int) oO jN).bind fun oI=>some oI else (some false) else (some false) else (some false)).bind fun fQ=>some fQ
def RH (N:Nat) (a0:aC):Option Bool:=
  (Dv a0.Kind).bind fun lg=>bif lg then (aaz N a0).bind fun jE=>Nt N (a0,jE.op,jE.text,(a0.Other==[]),jE.least,jE.most) else (bif (a0.Kind==16) then Nt N (a0,(a0.Op==0),(a0.Text==[]),(a0.Other==[]),0,0) else ((JY a0.Kind).bind fun iy=>bif iy then (aaA N a0).bind fun jT=>Nt N (a0,jT.op,jT.text,jT.other,jT.least,jT.most) else ((rC a0.Kind 40 45).bind fun vg=>bif vg then (aaB N a0).bind fun r32=>Nt N (a0,r32.op,r32.text,r32.other,r32.least,r32.most) else (some false))))
def RI (a0:Int):Option Bool:=
  (bif (a0==1) then some true else (bif (a0==5) then some true else (some<|a0==6))).bind fun y1=>some y1
def aaC (a0:Int):Option Bool:=
  (rC a0 40 44).bind fun r2=>some r2
def qm:(Int×Bool)->Option Bool
  | (a2,y22)=>bif y22 then some (a2==33) else ((Dv a2).bind fun jE=>some jE)
def zQ:(Int×Int×aC×Bool)->Option Bool
  | (a2,a1,a0,y38)=>bif y38 then qm (a2,true) else (bif (a0.Kind==33) then (JY a2).bind fun nP=>some nP else (bif (a0.Kind==42) then (bif (a1==(IntKind.wrap .i64<|(a0.Kids.length:Int) - 1)) then some (decide<|a0.Op>=2) else (some false)).bind fun y41=>qm (a2,y41) else (bif (a0.Kind==43) then (bif (a1==(IntKind.wrap .i64<|(a0.Kids.length:Int) - 1)) then some (a0.Op==3) else (some false)).bind fun y42=>qm (a2,y42) else (bif (a0.Kind==44) then bif (!(a1==(IntKind.wrap .i64<|(a0.Kids.length:Int) - 1))) then some (a2==1) else (qm (a2,true)) else (bif (a0.Kind==45) then ((aaC a2).bind fun Ka=>bif Ka then some true else (some<|a2==34)).bind fun QL=>some QL else (qm (a2,false)))))))
def wQ:(Int×Int×aC×Bool)->Option Bool
  | (a1,a2,a0,eF)=>bif eF then qm (a2,(decide<|a1 > 0)) else (bif (a0.Kind==31) then (bif (decide<|a1 < 3) then some (a2==16) else (some false)).bind fun lu=>bif lu then some true else (qm (a2,(a1==(IntKind.wrap .i64<|(a0.Kids.length:Int) - 1)))) else (bif (a0.Kind==30) then qm (a2,(a1==0)) else (bif (a0.Kind==32) then zQ (a2,a1,a0,(a0.Kind==32)) else (bif (a0.Kind==40) then zQ (a2,a1,a0,(a0.Kind==40)) else (zQ (a2,a1,a0,(a0.Kind==41)))))))
def sG:(Int×Int×aC×Bool)->Option Bool
  | (a1,a2,a0,y25)=>bif y25 then (RI a2).bind fun tZ=>some tZ else (bif (a0.Kind==15) then (bif (a1==0) then (RI a2).bind fun r32=>bif r32 then some true else (bif (decide<|a1 > 0) then (Dv a2).bind fun fZ=>some fZ else (some false)) else (bif (decide<|a1 > 0) then (Dv a2).bind fun nD=>some nD else (some false))).bind fun y31=>some y31 else (bif (a0.Kind==28) then wQ (a1,a2,a0,(a0.Kind==28)) else (wQ (a1,a2,a0,(a0.Kind==29)))))
def sH (a0:aC) (a1:Int) (a2:Int):Option Bool:=
  bif (a0.Kind==9) then sG (a1,a2,a0,(a0.Kind==9)) else (sG (a1,a2,a0,(a0.Kind==10)))
structure VL where
  Ca:LN->Int->Option av
def Kc (N:Nat) (R:VL):Nat->(LN×aC×Int×LS)->Option av
  | 0,_=>none
  | n1+1,(a0,e2,jB,lC)=>bif (decide<|jB < (e2.Kids.length:Int)) then (ix e2.Kids jB).bind fun e86=>(R.Ca a0 e86).bind fun kD=>(app 72 lC [kD]).bind fun x90=>(Kc N R n1) (a0,e2,(IntKind.wrap .i64<|jB+1),x90) else (some (⟨e2.Kind,e2.Op,e2.Text,e2.Other,lC⟩:av))
def VN (N:Nat) (R:VL) (a0:LN) (a1:Int):Option av:=
  (ix a0 a1).bind fun e2=>Kc N R N (a0,e2,0,[])
def GY:Nat->VL
  | 0=>⟨fun _ _=>none⟩
  | N+1=>⟨fun a0 a1=>VN N (GY N) a0 a1⟩
def Ca (N:Nat) (a0:LN) (a1:Int):Option av:=(GY N).Ca a0 a1
def Ke (N:Nat) (a0:LN):Option av:=
  (Ca N a0<|IntKind.wrap .i64<|(a0.length:Int) - 1).bind fun r2=>some r2
structure VO where
  wT:av->Option Int
def Kg (N:Nat) (R:VO):Nat->(av×Int×Int)->Option Int
  | 0,_=>none
  | n1+1,(a0,lu,y38)=>bif (decide<|y38 < (a0.kids.length:Int)) then (ix a0.kids y38).bind fun e54=>(R.wT e54).bind fun pQ=>(Kg N R n1) (a0,(if pQ > lu then pQ else lu),(IntKind.wrap .i64<|y38+1)) else (some<|IntKind.wrap .i64<|lu+1)
def VP (N:Nat) (R:VO) (a0:av):Option Int:=
  Kg N R N (a0,0,0)
def Kh:Nat->VO
  | 0=>⟨fun _=>none⟩
  | N+1=>⟨fun a0=>VP N (Kh N) a0⟩
def wT (N:Nat) (a0:av):Option Int:=(Kh N).wT a0
def Nu (N:Nat) (jl:(LN×Int)->Option Bool):Nat->(LN×Int×aC×Int)->Option Bool
  | 0,_=>none
  | n2+1,(a0,yK,vk,GZ)=>bif (decide<|GZ < (vk.Kids.length:Int)) then (ix vk.Kids GZ).bind fun alk=>(ix a0 alk).bind fun afb=>(sH vk GZ afb.Kind).bind fun alm=>bif (!alm) then some false else ((Nu N jl n2) (a0,yK,vk,(IntKind.wrap .i64<|GZ+1))) else (jl (a0,(IntKind.wrap .i64<|yK+1)))
def Fe (N:Nat):Nat->(LN×Int)->Option Bool
  | 0,_=>none
  | n1+1,(a0,yK)=>bif (decide<|yK < (a0.length:Int)) then (ix a0 yK).bind fun vk=>(RH N vk).bind fun aln=>bif (!aln) then some false else (Nu N (Fe N n1) N (a0,yK,vk,0)) else ((Ke N a0).bind fun afc=>(wT N afc).bind fun alo=>some<|decide<|alo<=40)
def VQ (N:Nat) (a0:LN):Option Bool:=
  (Vs N a0).bind fun r4=>bif (!r4) then some false else (Fe N N (a0,0))
def Nv (N:Nat) (a0:LN):Option Bool:=
  ((VQ N a0).bind fun r5=>bif r5 then (ix a0<|IntKind.wrap .i64<|(a0.length:Int) - 1).bind fun e6=>(Dv e6.Kind).bind fun r7=>some r7 else (some false)).bind fun y4=>some y4
def Ki (a0:aK):Option Bool:=
  ((rC a0.Level 1 15).bind fun r3=>bif r3 then bif (!a0.uV) then some true else (some<|a0.Level==14) else (some false)).bind fun y2=>some y2
def Nw (N:Nat):Nat->(av×Int×(List Int))->Option aC
  | 0,_=>none
  | n1+1,(a0,y25,mP)=>bif (decide<|y25 < (a0.kids.length:Int)) then (app 8 mP [y25]).bind fun x36=>(Nw N n1) (a0,(IntKind.wrap .i64<|y25+1),x36) else (some (⟨a0.kind,a0.op,a0.text,a0.other,mP⟩:aC))
def VR (N:Nat) (a0:av):Option aC:=
  Nw N N (a0,0,[])
def He:Bool->Option Int
  | y8=>bif y8 then some 15 else (some 0)
def aaG:(aC×Bool)->Option Int
  | (a0,y7)=>bif y7 then some 13 else (bif (a0.Kind==6) then some 14 else (bif (a0.Kind==1) then He (a0.Kind==1) else (bif (a0.Kind==2) then He (a0.Kind==2) else (bif (a0.Kind==3) then He (a0.Kind==3) else (bif (a0.Kind==4) then He (a0.Kind==4) else (bif (a0.Kind==5) then He (a0.Kind==5) else (bif (a0.Kind==7) then He (a0.Kind==7) else (He<|a0.Kind==8))))))))
def Ny (a0:aC):Option Int:=
  bif (a0.Kind==15) then some 1 else (bif (a0.Kind==14) then some 2 else (bif (a0.Kind==13) then some 5 else (bif (a0.Kind==12) then (BZ a0.Op).bind fun r6=>some r6 else (bif (a0.Kind==11) then some 11 else (bif (a0.Kind==9) then aaG (a0,(a0.Kind==9)) else (aaG (a0,(a0.Kind==10))))))))
def VT (a0:aC) (a1:aK):Option Bool:=
  (Ny a0).bind fun r2=>((Ki a1).bind fun gq=>bif (!gq) then some true else (some<|r2==0)).bind fun fP=>bif fP then some false else ((bif a1.aY then some (a0.Kind==13) else (some false)).bind fun mO=>bif mO then some false else ((bif a1.bg then bif (a0.Kind==12) then some (a0.Op==62) else (some false) else (some false)).bind fun y13=>bif y13 then some false else ((bif a1.jk then bif (a0.Kind==11) then some true else (bif (a0.Kind==9) then some true else (some<|a0.Kind==4)) else (some false)).bind fun gK=>bif gK then some false else ((bif a1.uV then bif (a0.Kind==9) then some true else (some<|decide<|r2>=a1.Level) else (some<|decide<|r2>=a1.Level)).bind fun jO=>some jO))))
def kg (a1:LT) (pc:Bool) (p1:LT) (p2:List bT):Option LT:=
  (app 32 p1 a1).bind fun x2=>some x2
def om (a0:Int):Option aG:=
  (Nq a0).bind fun r2=>some (⟨a0,r2,0⟩:aG)
def VU:Option aK:=
  some (⟨1,false,false,false,false⟩:aK)
def Dw:(Int×Int×Int)->Option Int
  | (a1,y3,y4)=>bif (a1==0) then some y3 else (some y4)
def VW (a0:Int) (a1:Int):Option Int:=
  (BZ a0).bind fun r6=>bif (r6==3) then Dw (a1,3,4) else (bif (r6==4) then Dw (a1,4,5) else (bif (r6==6) then Dw (a1,7,7) else (bif (r6==7) then Dw (a1,8,8) else (bif (r6==8) then Dw (a1,8,9) else (bif (r6==9) then Dw (a1,9,10) else (bif (r6==10) then Dw (a1,10,11) else (Dw (a1,13,11))))))))
def aaH (a0:aC) (a1:Int):Option Int:=
  bif (a0.Kind==15) then bif (decide<|a1 > 0) then some 1 else (some 14) else (bif (a0.Kind==14) then bif (decide<|a1 > 0) then some 2 else (some 3) else (bif (a0.Kind==13) then some 5 else (bif (a0.Kind==11) then some 11 else (bif (a0.Kind==12) then (VW a0.Op a1).bind fun r4=>some r4 else (some 14)))))
def VX:(Int×aC×aK×Bool)->Option aK
  | (iy,a0,a2,y29)=>some (⟨iy,(a0.Kind==6),a2.aY,a2.bg,y29⟩:aK)
def Nz:(Int×aC×aK×Int×Bool)->Option aK
  | (a1,a0,a2,iy,qg)=>bif qg then VX (iy,a0,a2,false) else ((bif (a1==0) then bif a2.jk then some true else (bif (a1==1) then bif (a0.Kind==12) then some (a0.Op==99) else (some false) else (some false)) else (bif (a1==1) then bif (a0.Kind==12) then some (a0.Op==99) else (some false) else (some false))).bind fun y31=>VX (iy,a0,a2,y31))
def RJ (a0:aC) (a1:Int) (a2:aK):Option aK:=
  ((Ki a2).bind fun bZ=>bif (!bZ) then some true else ((rC a1 0<|IntKind.wrap .i64<|(a0.Kids.length:Int) - 1).bind fun sJ=>bif (!sJ) then some true else ((Ny a0).bind fun bM=>some<|bM==0))).bind fun dK=>bif dK then some (⟨0,false,false,false,false⟩:aK) else (((Ny a0).bind fun lg=>bif (lg==15) then some true else (bif (a0.Kind==13) then some (decide<|(a0.Kids.length:Int) > 1) else (some false))).bind fun y21=>bif y21 then Option.bind VU fun jE=>some jE else ((aaH a0 a1).bind fun iy=>bif (a0.Kind==11) then Nz (a1,a0,a2,iy,(a0.Kind==11)) else (bif (a0.Kind==9) then Nz (a1,a0,a2,iy,(a0.Kind==9)) else (bif (a0.Kind==10) then Nz (a1,a0,a2,iy,(a0.Kind==10)) else (Nz (a1,a0,a2,iy,(a0.Kind==6)))))))
def VY (a0:aC) (a1:Int):Option Bool:=
  (bif (a1==0) then bif (a0.Kind==9) then some true else (bif (a0.Kind==10) then some true else (some<|a0.Kind==15)) else (some false)).bind fun y1=>some y1
structure sM where
  Kj:av->aK->Bool->LT->(List bT)->Option (LT×(List bT))
  gP:av->Int->aK->Bool->LT->(List bT)->Option (LT×(List bT))
  xM:av->Int->Int->aK->Bool->LT->(List bT)->Option (LT×(List bT))
  AY:av->aK->Bool->LT->(List bT)->Option (LT×(List bT))
  Ao:av->aK->Bool->LT->(List bT)->Option (LT×(List bT))
def Hf (N:Nat) (R:sM) (pc:Bool):(av×LT×(List bT))->Option (LT×(List bT))
  | (a1,y24,y25)=>(om 24).bind fun jT=>(kg [jT,(⟨6,a1.text,0⟩:aG)] pc y24 y25).bind fun xL=>some (xL,y25)
def zR (N:Nat) (R:sM) (pc:Bool):(av×aK×(LT×(List bT))×LT)->Option (LT×(List bT))
  | (a1,a2,cB,VZ)=>(R.gP a1 1 a2 pc VZ cB.2).bind fun pQ=>some (pQ.1,pQ.2)
def aaI (N:Nat) (R:sM) (pc:Bool):(av×aK×LT×(List bT)×Bool)->Option (LT×(List bT))
  | (a1,a2,p1,p2,y1)=>bif y1 then (om a1.op).bind fun r4=>(kg [r4] pc p1 p2).bind fun r5=>(R.gP a1 0 a2 pc r5 p2).bind fun r7=>some (r7.1,r7.2) else (bif (a1.kind==6) then (om 68).bind fun bE=>(kg [bE] pc p1 p2).bind fun gq=>(R.gP a1 0 a2 pc gq p2).bind fun sJ=>some (sJ.1,sJ.2) else (bif (a1.kind==10) then (R.gP a1 0 a2 pc p1 p2).bind fun fG=>(om a1.op).bind fun iC=>(kg [iC] pc fG.1 fG.2).bind fun cZ=>some (cZ,fG.2) else (bif (a1.kind==13) then bif (decide<|(a1.kids.length:Int) > 1) then (R.xM a1 32 33 a2 pc p1 p2).bind fun yJ=>Hf N R pc (a1,yJ.1,yJ.2) else ((R.gP a1 0 a2 pc p1 p2).bind fun fZ=>Hf N R pc (a1,fZ.1,fZ.2)) else (bif (a1.kind==14) then (R.gP a1 0 a2 pc p1 p2).bind fun dh=>(om 65).bind fun iN=>(kg [iN] pc dh.1 dh.2).bind fun Hg=>(R.gP a1 1 a2 pc Hg dh.2).bind fun qj=>(om 66).bind fun oo=>(kg [oo] pc qj.1 qj.2).bind fun Ka=>(R.gP a1 2 a2 pc Ka qj.2).bind fun wP=>some (wP.1,wP.2) else ((R.gP a1 0 a2 pc p1 p2).bind fun cB=>bif (a1.op !=99) then (om a1.op).bind fun iM=>(kg [iM] pc cB.1 cB.2).bind fun kL=>zR N R pc (a1,a2,cB,kL) else (zR N R pc (a1,a2,cB,cB.1)))))))
def Wd (N:Nat) (R:sM) (a1:av) (a2:aK) (pc:Bool) (p1:LT) (p2:List bT):Option (LT×(List bT)):=
  bif (a1.kind==9) then aaI N R pc (a1,a2,p1,p2,(a1.kind==9)) else (aaI N R pc (a1,a2,p1,p2,(a1.kind==11)))
def Wh (N:Nat) (R:sM) (a1:av) (a2:Int) (a3:aK) (pc:Bool) (p1:LT) (p2:List bT):Option (LT×(List bT)):=
  (VR N a1).bind fun r3=>(ix a1.kids a2).bind fun e4=>(RJ r3 a2 a3).bind fun r6=>(VY r3 a2).bind fun bZ=>bif bZ then (R.AY e4 r6 pc p1 p2).bind fun bM=>some (bM.1,bM.2) else ((R.Ao e4 r6 pc p1 p2).bind fun r16=>some (r16.1,r16.2))
def RL (N:Nat) (R:sM) (pc:Bool) (jl:(Int×av×aK×Int×LT×(List bT))->Option (LT×(List bT))):(Int×Int×av×aK×(List bT)×LT)->Option (LT×(List bT))
  | (a3,jB,a1,a4,qF,pR)=>(R.gP a1 jB a4 pc pR qF).bind fun uX=>jl (a3,a1,a4,(IntKind.wrap .i64<|jB+1),uX.1,uX.2)
def Dx (N:Nat) (R:sM) (pc:Bool):Nat->(Int×av×aK×Int×LT×(List bT))->Option (LT×(List bT))
  | 0,_=>none
  | n1+1,(a3,a1,a4,jB,lC,qF)=>bif (decide<|jB < (a1.kids.length:Int)) then bif (decide<|jB > 0) then (om 36).bind fun aaJ=>(kg [aaJ] pc lC qF).bind fun Kk=>RL N R pc (Dx N R pc n1) (a3,jB,a1,a4,qF,Kk) else (RL N R pc (Dx N R pc n1) (a3,jB,a1,a4,qF,lC)) else ((om a3).bind fun Dt=>(kg [Dt] pc lC qF).bind fun dH=>some (dH,qF))
def Wi (N:Nat) (R:sM) (a1:av) (a2:Int) (a3:Int) (a4:aK) (pc:Bool) (p1:LT) (p2:List bT):Option (LT×(List bT)):=
  (om a2).bind fun r3=>(kg [r3] pc p1 p2).bind fun r4=>Dx N R pc N (a3,a1,a4,0,r4,p2)
def yL (N:Nat) (R:sM) (pc:Bool):(LT×LT×(List bT))->Option (LT×(List bT))
  | (p1,y23,y24)=>(app 16 y24 [(⟨(p1.length:Int),(y23.length:Int)⟩:bT)]).bind fun x26=>some (y23,x26)
def aaK (N:Nat) (R:sM) (a1:av) (a2:aK) (pc:Bool) (p1:LT) (p2:List bT):Option (LT×(List bT)):=
  bif (a1.kind==1) then (kg [(⟨6,a1.text,0⟩:aG)] pc p1 p2).bind fun jT=>yL N R pc (p1,jT,p2) else (bif (a1.kind==2) then (kg [(⟨3,a1.text,0⟩:aG)] pc p1 p2).bind fun vg=>yL N R pc (p1,vg,p2) else (bif (a1.kind==3) then (kg [(⟨4,a1.text,0⟩:aG)] pc p1 p2).bind fun r32=>yL N R pc (p1,r32,p2) else (bif (a1.kind==4) then (kg [(⟨5,a1.text,0⟩:aG)] pc p1 p2).bind fun nD=>yL N R pc (p1,nD,p2) else (bif (a1.kind==5) then (kg [(⟨6,a1.text,0⟩:aG)] pc p1 p2).bind fun rA=>(R.xM a1 34 35 a2 pc rA p2).bind fun iN=>yL N R pc (p1,iN.1,iN.2) else (bif (a1.kind==7) then (kg [(⟨7,a1.text,0⟩:aG)] pc p1 p2).bind fun nP=>(R.xM a1 32 33 a2 pc nP p2).bind fun ql=>yL N R pc (p1,ql.1,ql.2) else (bif (a1.kind==8) then (kg [(⟨8,a1.text,0⟩:aG)] pc p1 p2).bind fun oo=>(R.xM a1 32 33 a2 pc oo p2).bind fun vo=>yL N R pc (p1,vo.1,vo.2) else ((R.Kj a1 a2 pc p1 p2).bind fun xO=>yL N R pc (p1,xO.1,xO.2))))))))
def RN (N:Nat) (R:sM) (pc:Bool):(av×aK×LT×(List bT)×Bool)->Option (LT×(List bT))
  | (a1,a2,p1,p2,y8)=>bif (!y8) then (R.AY a1 a2 pc p1 p2).bind fun bZ=>some (bZ.1,bZ.2) else ((om 32).bind fun fG=>(kg [fG] pc p1 p2).bind fun r16=>Option.bind VU fun cZ=>(R.AY a1 cZ pc r16 p2).bind fun oI=>(om 33).bind fun rY=>(kg [rY] pc oI.1 oI.2).bind fun jE=>some (jE,oI.2))
def Wj (N:Nat) (R:sM) (a1:av) (a2:aK) (pc:Bool) (p1:LT) (p2:List bT):Option (LT×(List bT)):=
  (VR N a1).bind fun r2=>(VT r2 a2).bind fun r4=>bif pc then ((Ny r2).bind fun tZ=>bif (tZ !=15) then some true else (some<|r2.Kind==4)).bind fun mP=>RN N R pc (a1,a2,p1,p2,mP) else (RN N R pc (a1,a2,p1,p2,(!r4)))
def dB:Nat->sM
  | 0=>⟨fun _ _ _ _ _=>none,fun _ _ _ _ _ _=>none,fun _ _ _ _ _ _ _=>none,fun _ _ _ _ _=>none,fun _ _ _ _ _=>none⟩
  | N+1=>⟨fun a1 a2 pc p1 p2=>Wd N (dB N) a1 a2 pc p1 p2,fun a1 a2 a3 pc p1 p2=>Wh N (dB N) a1 a2 a3 pc p1 p2,fun a1 a2 a3 a4 pc p1 p2=>Wi N (dB N) a1 a2 a3 a4 pc p1 p2,fun a1 a2 pc p1 p2=>aaK N (dB N) a1 a2 pc p1 p2,fun a1 a2 pc p1 p2=>Wj N (dB N) a1 a2 pc p1 p2⟩
def Kj (N:Nat) (a1:av) (a2:aK) (pc:Bool) (p1:LT) (p2:List bT):Option (LT×(List bT)):=(dB N).Kj a1 a2 pc p1 p2
def gP (N:Nat) (a1:av) (a2:Int) (a3:aK) (pc:Bool) (p1:LT) (p2:List bT):Option (LT×(List bT)):=(dB N).gP a1 a2 a3 pc p1 p2
def xM (N:Nat) (a1:av) (a2:Int) (a3:Int) (a4:aK) (pc:Bool) (p1:LT) (p2:List bT):Option (LT×(List bT)):=(dB N).xM a1 a2 a3 a4 pc p1 p2
def AY (N:Nat) (a1:av) (a2:aK) (pc:Bool) (p1:LT) (p2:List bT):Option (LT×(List bT)):=(dB N).AY a1 a2 pc p1 p2
def Ao (N:Nat) (a1:av) (a2:aK) (pc:Bool) (p1:LT) (p2:List bT):Option (LT×(List bT)):=(dB N).Ao a1 a2 pc p1 p2
def CU (N:Nat) (a0:LN) (a1:aK) (a2:Bool):Option (LT×(List bT)):=
  ((Nv N a0).bind fun r9=>bif (!r9) then some true else ((Ki a1).bind fun bE=>some<|!bE)).bind fun y8=>bif y8 then some ([],[]) else ((Ke N a0).bind fun vv=>(Ao N vv a1 a2 [] []).bind fun iC=>some (iC.1,iC.2))
def TV (N:Nat) (a0:LN) (a1:aK):Option LT:=
  (CU N a0 a1 false).bind fun r2=>some r2.1
def oP (a0:Int) (a1:Int) (a2:Int):Option Bool:=
  (bif (decide<|a0>=a1) then some (decide<|a0<=a2) else (some false)).bind fun y1=>some y1
def NA (N:Nat) (jl:(LN×Int×(List Int))->Option ((List Int)×Bool)):Nat->(LN×Int×(List Int)×Int×Int)->Option ((List Int)×Bool)
  | 0,_=>none
  | n2+1,(a0,rD,xP,Kl,Hl)=>bif (decide<|Hl>=0) then ((ix a0 rD).bind fun alp=>(ix alp.Kids Hl).bind fun alq=>bif (alq !=(IntKind.wrap .i64<|Kl - 1)) then some true else (some<|Kl==0)).bind fun afe=>bif afe then some ([],false) else ((ix xP<|IntKind.wrap .i64<|Kl - 1).bind fun Wm=>(NA N jl n2) (a0,rD,xP,Wm,(IntKind.wrap .i64<|Hl - 1))) else ((app 8 xP [Kl]).bind fun aaL=>jl (a0,(IntKind.wrap .i64<|rD+1),aaL))
def Km (N:Nat):Nat->(LN×Int×(List Int))->Option ((List Int)×Bool)
  | 0,_=>none
  | n1+1,(a0,rD,xP)=>bif (decide<|rD < (a0.length:Int)) then (ix a0 rD).bind fun aaM=>NA N (Km N n1) N (a0,rD,xP,rD,(IntKind.wrap .i64<|(aaM.Kids.length:Int) - 1)) else (some (xP,true))
def aaN (N:Nat) (a0:LN):Option ((List Int)×Bool):=
  Km N N (a0,0,[])
def RO (N:Nat) (a0:LN):Option Bool:=
  (oP (a0.length:Int) 1 400).bind fun r4=>bif (!r4) then some false else ((aaN N a0).bind fun r6=>(bif r6.2 then (ix r6.1<|IntKind.wrap .i64<|(a0.length:Int) - 1).bind fun e9=>some (e9==0) else (some false)).bind fun y8=>some y8)
def Kn (N:Nat) (jl:(LN×Int×(List Int))->Option Int):Nat->(LN×Int×(List Int)×Int×Int)->Option Int
  | 0,_=>none
  | n2+1,(a0,vB,yM,Fg,Ko)=>(ix a0 vB).bind fun aff=>bif (decide<|Ko < (aff.Kids.length:Int)) then (ix a0 vB).bind fun alr=>(ix alr.Kids Ko).bind fun als=>(ix yM als).bind fun Kq=>(Kn N jl n2) (a0,vB,yM,(if (IntKind.wrap .i64<|1+Kq) > Fg then (IntKind.wrap .i64<|1+Kq) else Fg),(IntKind.wrap .i64<|Ko+1)) else ((app 8 yM [Fg]).bind fun aaO=>jl (a0,(IntKind.wrap .i64<|vB+1),aaO))
def Ho (N:Nat):Nat->(LN×Int×(List Int))->Option Int
  | 0,_=>none
  | n1+1,(a0,vB,yM)=>bif (decide<|vB < (a0.length:Int)) then Kn N (Ho N n1) N (a0,vB,yM,1,0) else ((ix yM<|IntKind.wrap .i64<|(a0.length:Int) - 1).bind fun afg=>some afg)
def Wn (N:Nat) (a0:LN):Option Int:=
  (RO N a0).bind fun r4=>bif (!r4) then some 0 else (Ho N N (a0,0,[]))
def RP:(aC×Bool)->Option (Int×Int)
  | (a0,mO)=>bif mO then some (0,(a0.Kids.length:Int)) else (bif (a0.Kind==42) then some ((IntKind.wrap .i64<|1+(IntKind.wrap .i64<|Int.tdiv a0.Op 3)),(IntKind.wrap .i64<|1+(IntKind.wrap .i64<|Int.tdiv a0.Op 3))) else (bif (a0.Kind==43) then some ((IntKind.wrap .i64<|2+(IntKind.wrap .i64<|Int.tdiv a0.Op 3)),(IntKind.wrap .i64<|2+(IntKind.wrap .i64<|Int.tdiv a0.Op 3))) else (bif (a0.Kind==44) then some (1,7) else (some (0,0)))))
def RQ:(aC×Bool)->Option (Int×Int)
  | (a0,dK)=>bif dK then some (0,1) else (bif (a0.Kind==28) then some (2,3) else (bif (a0.Kind==31) then some (4,4) else (bif (a0.Kind==33) then RP (a0,(a0.Kind==33)) else (RP (a0,(a0.Kind==45))))))
def Kr:(aC×Bool)->Option (Int×Int)
  | (a0,fP)=>bif fP then some (2,2) else (bif (a0.Kind==14) then some (3,3) else (bif (a0.Kind==21) then bif (!(a0.Other==[])) then some ((IntKind.wrap .i64<|a0.Op+1),7) else (some (a0.Op,6)) else (bif (a0.Kind==23) then RQ (a0,(a0.Kind==23)) else (RQ (a0,(a0.Kind==24))))))
def Cb:(aC×Bool)->Option (Int×Int)
  | (a0,y9)=>bif y9 then some (1,1) else (bif (a0.Kind==12) then Kr (a0,(a0.Kind==12)) else (bif (a0.Kind==15) then Kr (a0,(a0.Kind==15)) else (bif (a0.Kind==29) then Kr (a0,(a0.Kind==29)) else (Kr (a0,(a0.Kind==30))))))
def NC:(aC×Bool)->Option (Int×Int)
  | (a0,y8)=>bif y8 then some (0,6) else (bif (a0.Kind==6) then Cb (a0,(a0.Kind==6)) else (bif (a0.Kind==9) then Cb (a0,(a0.Kind==9)) else (bif (a0.Kind==10) then Cb (a0,(a0.Kind==10)) else (bif (a0.Kind==11) then Cb (a0,(a0.Kind==11)) else (bif (a0.Kind==20) then Cb (a0,(a0.Kind==20)) else (bif (a0.Kind==32) then Cb (a0,(a0.Kind==32)) else (bif (a0.Kind==40) then Cb (a0,(a0.Kind==40)) else (Cb (a0,(a0.Kind==41))))))))))
def RS:(aC×Bool)->Option (Int×Int)
  | (a0,y7)=>bif y7 then some (1,6) else (bif (a0.Kind==7) then NC (a0,(a0.Kind==7)) else (bif (a0.Kind==8) then NC (a0,(a0.Kind==8)) else (NC (a0,(a0.Kind==27)))))
def Fh (a0:aC):Option (Int×Int):=
  bif (a0.Kind==5) then RS (a0,(a0.Kind==5)) else (RS (a0,(a0.Kind==13)))
def sN:Bool->Option Bool
  | y2=>bif y2 then some true else (some false)
def Fp (a0:Int):Option Bool:=
  bif (a0==60) then sN (a0==60) else (bif (a0==57) then sN (a0==57) else (bif (a0==58) then sN (a0==58) else (bif (a0==59) then sN (a0==59) else (bif (a0==55) then sN (a0==55) else (bif (a0==56) then sN (a0==56) else (bif (a0==99) then sN (a0==99) else (bif (a0==63) then sN (a0==63) else (bif (a0==48) then sN (a0==48) else (bif (a0==47) then sN (a0==47) else (bif (a0==50) then sN (a0==50) else (bif (a0==62) then sN (a0==62) else (bif (a0==49) then sN (a0==49) else (bif (a0==67) then sN (a0==67) else (bif (a0==46) then sN (a0==46) else (bif (a0==45) then sN (a0==45) else (sN<|a0==44))))))))))))))))
def Cc (a0:Int):Option Bool:=
  (bif (a0==54) then some true else ((oP a0 38 43).bind fun r3=>some r3)).bind fun y2=>some y2
def Wo:(aC×Bool)->Option Bool
  | (a0,y13)=>bif y13 then (bif (a0.Op==51) then some true else (some<|a0.Op==52)).bind fun gK=>some gK else (bif (a0.Kind==11) then (bif (a0.Op==55) then some true else (bif (a0.Op==56) then some true else (some<|a0.Op==61))).bind fun jO=>some jO else (bif (a0.Kind==12) then (Fp a0.Op).bind fun vv=>some vv else (bif (a0.Kind==15) then (Cc a0.Op).bind fun cZ=>some cZ else (bif (a0.Kind==21) then (oP a0.Op 0 1).bind fun bW=>some bW else (bif (a0.Kind==42) then (oP a0.Op 1 3).bind fun rY=>some rY else (bif (a0.Kind==43) then (bif (a0.Op==1) then some true else (some<|a0.Op==3)).bind fun y24=>some y24 else (some<|a0.Op==0)))))))
def Dy (a0:aC):Option Bool:=
  bif (a0.Kind==9) then Wo (a0,(a0.Kind==9)) else (Wo (a0,(a0.Kind==10)))
def RU (a0:Int):Option Bool:=
  ((oP a0 97 122).bind fun r4=>bif r4 then some true else ((oP a0 65 90).bind fun r5=>bif r5 then some true else (some<|a0==95))).bind fun y3=>some y3
def RX (a0:Int):Option Bool:=
  (oP a0 48 57).bind fun r2=>some r2
def Wp (a0:Int):Option Bool:=
  ((RU a0).bind fun r4=>bif r4 then some true else ((RX a0).bind fun r5=>some r5)).bind fun y3=>some y3
def Kt (N:Nat):Nat->(LU×Int)->Option Bool
  | 0,_=>none
  | n1+1,(a0,eF)=>bif (decide<|eF < (a0.length:Int)) then (ix a0 eF).bind fun Nh=>(Wp<|IntKind.wrap .i64 ((Nh).toNat:Int)).bind fun yF=>bif (!yF) then some false else ((Kt N n1) (a0,(IntKind.wrap .i64<|eF+1))) else (((oP (a0.length:Int) 1 12).bind fun Vu=>bif Vu then (ix a0 0).bind fun Ni=>(RU<|IntKind.wrap .i64 ((Ni).toNat:Int)).bind fun iM=>some iM else (some false)).bind fun yA=>some yA)
def Wq (N:Nat) (a0:LU):Option Bool:=
  Kt N N (a0,0)
def Ws:Option aO:=
  some [[66,69,71,73,78],[69,78,68],[102,117,110,99,116,105,111,110],[105,102],[101,108,115,101],[119,104,105,108,101],[102,111,114],[100,111],[98,114,101,97,107],[99,111,110,116,105,110,117,101],[110,101,120,116],[101,120,105,116],[114,101,116,117,114,110],[100,101,108,101,116,101],[105,110],[112,114,105,110,116],[112,114,105,110,116,102]]
def ND (N:Nat):Nat->(aO×LU×Int)->Option Int
  | 0,_=>none
  | n1+1,(a0,a1,fQ)=>bif (decide<|fQ < (a0.length:Int)) then (ix a0 fQ).bind fun e28=>bif (e28==a1) then some fQ else ((ND N n1) (a0,a1,(IntKind.wrap .i64<|fQ+1))) else (some<|-1)
def Wt (N:Nat) (a0:aO) (a1:LU):Option Int:=
  ND N N (a0,a1,0)
def Wu (N:Nat) (a0:LU):Option Int:=
  Option.bind Ws fun r3=>(Wt N r3 a0).bind fun r4=>bif (decide<|r4 < 0) then some 0 else (some<|IntKind.wrap .i64<|10+r4)
def aaP:Option aO:=
  some [[97,116,97,110,50],[99,108,111,115,101],[99,111,115],[101,120,112],[103,115,117,98],[105,110,100,101,120],[105,110,116],[108,101,110,103,116,104],[108,111,103],[109,97,116,99,104],[114,97,110,100],[115,105,110],[115,112,108,105,116],[115,112,114,105,110,116,102],[115,113,114,116],[115,114,97,110,100],[115,117,98],[115,117,98,115,116,114],[115,121,115,116,101,109],[116,111,108,111,119,101,114],[116,111,117,112,112,101,114]]
def Hq (N:Nat) (a0:LU):Option Bool:=
  Option.bind aaP fun r3=>(Wt N r3 a0).bind fun r4=>some (decide<|r4>=0)
def Dz (N:Nat) (a0:LU):Option Bool:=
  ((Wq N a0).bind fun r5=>bif r5 then (Wu N a0).bind fun r6=>bif (r6==0) then (Hq N a0).bind fun r7=>some (!r7) else (some false) else (some false)).bind fun y4=>some y4
def NG (N:Nat):Nat->(LU×Int)->Option Bool
  | 0,_=>none
  | n1+1,(a0,fQ)=>bif (decide<|fQ < (a0.length:Int)) then (ix a0 fQ).bind fun b28=>bif (((b28).toNat:Int)==10) then some false else ((NG N n1) (a0,(IntKind.wrap .i64<|fQ+1))) else (some true)
def Wv (N:Nat) (a0:LU):Option Bool:=
  NG N N (a0,0)
def Ce (a0:LU) (a1:Int):Option Int:=
  (bif (decide<|a1 < 0) then some true else (some<|decide<|a1>=(a0.length:Int))).bind fun y2=>bif y2 then some (-1) else ((ix a0 a1).bind fun b4=>some<|IntKind.wrap .i64 ((b4).toNat:Int))
def NH (N:Nat):Nat->(LU×Int)->Option Int
  | 0,_=>none
  | n1+1,(a0,a1)=>(Ce a0 a1).bind fun fZ=>(RX fZ).bind fun nD=>bif nD then (NH N n1) (a0,(IntKind.wrap .i64<|a1+1)) else (some a1)
def NI (N:Nat) (a0:LU) (a1:Int):Option Int:=
  NH N N (a0,a1)
def Ww (N:Nat):Int->Option Int
  | y9=>some y9
def RY (N:Nat):(LU×Int×Int)->Option Int
  | (a0,y9,tO)=>(NI N a0 tO).bind fun ql=>bif (decide<|ql > tO) then (NI N a0 tO).bind fun oo=>some oo else (Ww N y9)
def RZ (N:Nat):(LU×Int×Int)->Option Int
  | (a0,a1,y9)=>bif (y9==a1) then some (-1) else (((Ce a0 y9).bind fun fZ=>bif (fZ==101) then some true else ((Ce a0 y9).bind fun nD=>some<|nD==69)).bind fun y32=>bif y32 then ((Ce a0<|IntKind.wrap .i64<|y9+1).bind fun xO=>bif (xO==43) then some true else ((Ce a0<|IntKind.wrap .i64<|y9+1).bind fun cB=>some<|cB==45)).bind fun lH=>bif lH then RY N (a0,y9,(IntKind.wrap .i64<|(IntKind.wrap .i64<|y9+1)+1)) else (RY N (a0,y9,(IntKind.wrap .i64<|y9+1))) else (Ww N y9))
def Sb (N:Nat) (a0:LU) (a1:Int):Option Int:=
  bif (decide<|a1 < 0) then some (-1) else ((NI N a0 a1).bind fun r2=>(Ce a0 r2).bind fun r51=>bif (r51==46) then (NI N a0<|IntKind.wrap .i64<|r2+1).bind fun nA=>(bif (r2==a1) then some (nA==(IntKind.wrap .i64<|r2+1)) else (some false)).bind fun y55=>bif y55 then some (-1) else (RZ N (a0,a1,nA)) else (RZ N (a0,a1,r2)))
def Sc (N:Nat) (jl:(LU×Int×Int)->Option Int):(LU×Int×Int)->Option Int
  | (a0,a2,Cg)=>jl (a0,a2,(IntKind.wrap .i64<|Cg+1))
def Hr (N:Nat):Nat->(LU×Int×Int)->Option Int
  | 0,_=>none
  | n1+1,(a0,a2,xQ)=>bif (decide<|xQ < (a0.length:Int)) then (ix a0 xQ).bind fun b60=>bif ((IntKind.wrap .i64 ((b60).toNat:Int))==a2) then some (IntKind.wrap .i64<|xQ+1) else (bif ((IntKind.wrap .i64 ((b60).toNat:Int))==10) then some (-1) else (bif ((IntKind.wrap .i64 ((b60).toNat:Int))==92) then (Ce a0<|IntKind.wrap .i64<|xQ+1).bind fun AZ=>bif (AZ==10) then some (-1) else (Sc N (Hr N n1) (a0,a2,(IntKind.wrap .i64<|xQ+1))) else (Sc N (Hr N n1) (a0,a2,xQ)))) else (some<|-1)
def Sd (N:Nat) (a0:LU) (a1:Int) (a2:Int):Option Int:=
  (Ce a0 a1).bind fun r4=>bif (r4 !=a2) then some (-1) else (Hr N N (a0,a2,(IntKind.wrap .i64<|a1+1)))
def NJ (N:Nat) (a0:LU) (a1:Int):Option Int:=
  (Sd N a0 a1 34).bind fun r2=>some r2
def NK (N:Nat) (a0:LU) (a1:Int):Option Int:=
  (Sd N a0 a1 47).bind fun r2=>bif (r2==(IntKind.wrap .i64<|a1+2)) then some (-1) else (some r2)
def aaR:Option aO:=
  some [[123],[125],[40],[41],[91],[93],[44],[59],[43,61],[45,61],[42,61],[47,61],[37,61],[94,61],[124,124],[38,38],[33,126],[61,61],[60,61],[62,61],[33,61],[43,43],[45,45],[62,62],[61],[43],[45],[42],[47],[37],[94],[33],[62],[60],[124],[63],[58],[126],[36]]
def DC (a0:Int):Option LU:=
  bif (a0==1) then some [10] else ((oP a0 10 26).bind fun bM=>bif bM then Option.bind Ws fun vv=>(ix vv<|IntKind.wrap .i64<|a0 - 10).bind fun e18=>some e18 else ((oP a0 30 68).bind fun oI=>bif oI then Option.bind aaR fun rY=>(ix rY<|IntKind.wrap .i64<|a0 - 30).bind fun e24=>some e24 else (some [])))
def Ba (N:Nat):(aG×Bool)->Option Bool
  | (a0,qg)=>bif qg then (Dz N a0.Text).bind fun r32=>some r32 else (bif (a0.Kind==8) then (Hq N a0.Text).bind fun nD=>some nD else ((bif (!(a0.Text==[])) then (DC a0.Kind).bind fun jF=>some (jF==a0.Text) else (some false)).bind fun EW=>some EW))
def uf (N:Nat) (a0:aG):Option Bool:=
  bif (a0.Kind==2) then (bif (decide<|(a0.Text.length:Int) > 0) then (ix a0.Text 0).bind fun b21=>bif (((b21).toNat:Int)==35) then (Wv N a0.Text).bind fun lg=>some lg else (some false) else (some false)).bind fun y20=>some y20 else (bif (a0.Kind==3) then (bif (decide<|(a0.Text.length:Int) > 0) then (Sb N a0.Text 0).bind fun GV=>some (GV==(a0.Text.length:Int)) else (some false)).bind fun y24=>some y24 else (bif (a0.Kind==4) then (NJ N a0.Text 0).bind fun tZ=>some (tZ==(a0.Text.length:Int)) else (bif (a0.Kind==5) then (NK N a0.Text 0).bind fun xL=>some (xL==(a0.Text.length:Int)) else (bif (a0.Kind==6) then Ba N (a0,(a0.Kind==6)) else (Ba N (a0,(a0.Kind==7)))))))
def Fq (N:Nat):(aC×Bool)->Option Bool
  | (a0,mP)=>bif mP then ((Dz N a0.Text).bind fun xL=>bif xL then some (a0.Other==[]) else (some false)).bind fun y28=>some y28 else (bif (a0.Kind==2) then ((uf N (⟨3,a0.Text,0⟩:aG)).bind fun r32=>bif r32 then some (a0.Other==[]) else (some false)).bind fun y31=>some y31 else (bif (a0.Kind==3) then ((uf N (⟨4,a0.Text,0⟩:aG)).bind fun dh=>bif dh then some (a0.Other==[]) else (some false)).bind fun y34=>some y34 else (bif (a0.Kind==4) then ((uf N (⟨5,a0.Text,0⟩:aG)).bind fun iN=>bif iN then some (a0.Other==[]) else (some false)).bind fun lu=>some lu else (bif (a0.Kind==34) then ((uf N (⟨2,a0.Text,0⟩:aG)).bind fun qj=>bif qj then some (a0.Other==[]) else (some false)).bind fun tO=>some tO else (bif (a0.Kind==8) then ((Hq N a0.Text).bind fun oo=>bif oo then some (a0.Other==[]) else (some false)).bind fun xQ=>some xQ else (bif (a0.Kind==32) then ((Dz N a0.Text).bind fun xO=>bif xO then (Dz N a0.Other).bind fun cB=>some cB else (some false)).bind fun lH=>some lH else (bif (a0.Kind==21) then (bif (a0.Text==[]) then bif (a0.Other==[]) then some true else (bif (a0.Other==[62]) then some true else (bif (a0.Other==[62,62]) then some true else (some<|a0.Other==[124]))) else (some false)).bind fun QM=>some QM else ((bif (a0.Text==[]) then some (a0.Other==[]) else (some false)).bind fun wH=>some wH))))))))
def Wx (N:Nat) (a0:aC):Option Bool:=
  bif (a0.Kind==1) then Fq N (a0,(a0.Kind==1)) else (bif (a0.Kind==5) then Fq N (a0,(a0.Kind==5)) else (bif (a0.Kind==7) then Fq N (a0,(a0.Kind==7)) else (bif (a0.Kind==13) then Fq N (a0,(a0.Kind==13)) else (bif (a0.Kind==27) then Fq N (a0,(a0.Kind==27)) else (Fq N (a0,(a0.Kind==44)))))))
def zS (N:Nat) (a0:aC):Option Bool:=
  (Fh a0).bind fun r2=>((oP a0.Kind 1 16).bind fun r7=>bif r7 then some true else ((oP a0.Kind 20 34).bind fun r8=>bif r8 then some true else ((oP a0.Kind 40 45).bind fun r9=>some r9))).bind fun y6=>(bif y6 then (Dy a0).bind fun bM=>bif bM then (Wx N a0).bind fun fG=>bif fG then (oP (a0.Kids.length:Int) r2.1 r2.2).bind fun r16=>some r16 else (some false) else (some false) else (some false)).bind fun y13=>some y13
def Ku (a0:Int):Option Bool:=
  (bif (a0==1) then some true else (bif (a0==5) then some true else (some<|a0==6))).bind fun y1=>some y1
def pU (a0:Int):Option Bool:=
  (oP a0 1 15).bind fun r2=>some r2
def Wy (a0:Int):Option Bool:=
  (oP a0 20 34).bind fun r2=>some r2
def zT:(Int×Int×aC×Bool)->Option Bool
  | (a1,a2,a0,pV)=>bif pV then some (a2==33) else (bif (a0.Kind==33) then (Wy a2).bind fun nN=>some nN else (bif (a0.Kind==42) then (bif (a0.Op==1) then (pU a2).bind fun uZ=>bif uZ then some true else (bif (a0.Op==2) then bif (a2==33) then some true else (bif (a0.Op==3) then bif (a1==(IntKind.wrap .i64<|(a0.Kids.length:Int) - 1)) then bif (a2==33) then some true else (bif (!(a1==(IntKind.wrap .i64<|(a0.Kids.length:Int) - 1))) then (pU a2).bind fun qh=>some qh else (some false)) else (bif (!(a1==(IntKind.wrap .i64<|(a0.Kids.length:Int) - 1))) then (pU a2).bind fun kD=>some kD else (some false)) else (some false)) else (bif (a0.Op==3) then bif (a1==(IntKind.wrap .i64<|(a0.Kids.length:Int) - 1)) then bif (a2==33) then some true else (bif (!(a1==(IntKind.wrap .i64<|(a0.Kids.length:Int) - 1))) then (pU a2).bind fun sj=>some sj else (some false)) else (bif (!(a1==(IntKind.wrap .i64<|(a0.Kids.length:Int) - 1))) then (pU a2).bind fun Va=>some Va else (some false)) else (some false))) else (bif (a0.Op==2) then bif (a2==33) then some true else (bif (a0.Op==3) then bif (a1==(IntKind.wrap .i64<|(a0.Kids.length:Int) - 1)) then bif (a2==33) then some true else (bif (!(a1==(IntKind.wrap .i64<|(a0.Kids.length:Int) - 1))) then (pU a2).bind fun Kv=>some Kv else (some false)) else (bif (!(a1==(IntKind.wrap .i64<|(a0.Kids.length:Int) - 1))) then (pU a2).bind fun Ci=>some Ci else (some false)) else (some false)) else (bif (a0.Op==3) then bif (a1==(IntKind.wrap .i64<|(a0.Kids.length:Int) - 1)) then bif (a2==33) then some true else (bif (!(a1==(IntKind.wrap .i64<|(a0.Kids.length:Int) - 1))) then (pU a2).bind fun og=>some og else (some false)) else (bif (!(a1==(IntKind.wrap .i64<|(a0.Kids.length:Int) - 1))) then (pU a2).bind fun BQ=>some BQ else (some false)) else (some false)))).bind fun mR=>some mR else (bif (a0.Kind==43) then (bif (decide<|a1 < 2) then (pU a2).bind fun lZ=>bif lZ then some true else (bif (a1==2) then some (a2==33) else (some false)) else (bif (a1==2) then some (a2==33) else (some false))).bind fun QN=>some QN else (bif (a0.Kind==44) then (bif (a1==(IntKind.wrap .i64<|(a0.Kids.length:Int) - 1)) then bif (a2==33) then some true else (bif (!(a1==(IntKind.wrap .i64<|(a0.Kids.length:Int) - 1))) then some (a2==1) else (some false)) else (bif (!(a1==(IntKind.wrap .i64<|(a0.Kids.length:Int) - 1))) then some (a2==1) else (some false))).bind fun y99=>some y99 else (bif (a0.Kind==45) then ((oP a2 40 44).bind fun UZ=>bif UZ then some true else (some<|a2==34)).bind fun y101=>some y101 else ((pU a2).bind fun sw=>some sw))))))
def sO:(Int×Int×aC×Bool)->Option Bool
  | (a1,a2,a0,y52)=>bif y52 then (Ku a2).bind fun fV=>some fV else (bif (a0.Kind==15) then ((pU a2).bind fun iL=>bif iL then bif (decide<|a1 > 0) then some true else ((Ku a2).bind fun iM=>some iM) else (some false)).bind fun Wz=>some Wz else (bif (a0.Kind==28) then (bif (a1==0) then (pU a2).bind fun AZ=>bif AZ then some true else (bif (decide<|a1 > 0) then some (a2==33) else (some false)) else (bif (decide<|a1 > 0) then some (a2==33) else (some false))).bind fun nM=>some nM else (bif (a0.Kind==29) then (bif (a1==0) then (pU a2).bind fun oN=>bif oN then some true else (bif (a1==1) then some (a2==33) else (some false)) else (bif (a1==1) then some (a2==33) else (some false))).bind fun lC=>some lC else (bif (a0.Kind==30) then (bif (a1==0) then bif (a2==33) then some true else (bif (a1==1) then (pU a2).bind fun MK=>some MK else (some false)) else (bif (a1==1) then (pU a2).bind fun kM=>some kM else (some false))).bind fun y68=>some y68 else (bif (a0.Kind==31) then (bif (decide<|a1 < 3) then (pU a2).bind fun AQ=>bif AQ then some true else (bif (a2==16) then some true else (bif (a1==3) then some (a2==33) else (some false))) else (bif (a1==3) then some (a2==33) else (some false))).bind fun ji=>some ji else (bif (a0.Kind==32) then zT (a1,a2,a0,(a0.Kind==32)) else (bif (a0.Kind==40) then zT (a1,a2,a0,(a0.Kind==40)) else (zT (a1,a2,a0,(a0.Kind==41))))))))))
def ou (a0:aC) (a1:Int) (a2:Int):Option Bool:=
  bif (a0.Kind==9) then sO (a1,a2,a0,(a0.Kind==9)) else (sO (a1,a2,a0,(a0.Kind==10)))
def DF (N:Nat) (jl:(LN×Int)->Option Bool):Nat->(LN×Int×Int)->Option Bool
  | 0,_=>none
  | n2+1,(a0,vC,Ht)=>(ix a0 vC).bind fun afj=>bif (decide<|Ht < (afj.Kids.length:Int)) then (ix a0 vC).bind fun afk=>(ix a0 vC).bind fun aly=>(ix aly.Kids Ht).bind fun alz=>(ix a0 alz).bind fun afl=>(ou afk Ht afl.Kind).bind fun alA=>bif (!alA) then some false else ((DF N jl n2) (a0,vC,(IntKind.wrap .i64<|Ht+1))) else (jl (a0,(IntKind.wrap .i64<|vC+1)))
def yN (N:Nat):Nat->(LN×Int)->Option Bool
  | 0,_=>none
  | n1+1,(a0,vC)=>bif (decide<|vC < (a0.length:Int)) then (ix a0 vC).bind fun afm=>(zS N afm).bind fun alB=>bif (!alB) then some false else (DF N (yN N n1) N (a0,vC,0)) else (some true)
def yh (N:Nat) (a0:LN):Option Bool:=
  ((RO N a0).bind fun r9=>bif (!r9) then some true else ((Wn N a0).bind fun bE=>some<|decide<|bE > 40)).bind fun y8=>bif y8 then some false else (yN N N (a0,0))
def LG (N:Nat) (a0:LN):Option Bool:=
  ((yh N a0).bind fun r5=>bif r5 then (ix a0<|IntKind.wrap .i64<|(a0.length:Int) - 1).bind fun e6=>(pU e6.Kind).bind fun r7=>some r7 else (some false)).bind fun y4=>some y4
def WA (a0:aK):Option Bool:=
  ((oP a0.Level 1 15).bind fun r3=>bif r3 then bif (!a0.uV) then some true else (some<|a0.Level==14) else (some false)).bind fun y2=>some y2
def aaT (a0:aG):Option Bool:=
  some (a0.Kind==2)
def Kw (N:Nat):Nat->(LT×Int)->Option Int
  | 0,_=>none
  | n1+1,(a0,eF)=>bif (decide<|eF < (a0.length:Int)) then (ix a0 eF).bind fun e51=>(aaT e51).bind fun yF=>bif yF then some eF else ((Kw N n1) (a0,(IntKind.wrap .i64<|eF+1))) else (some<|-1)
def aaU (N:Nat) (a0:LT):Option Int:=
  Kw N N (a0,0)
def WB (N:Nat) (a0:LT):Option Bool:=
  (aaU N a0).bind fun r2=>some (decide<|r2>=0)
def DI:Bool->Option Bool
  | y2=>bif y2 then some true else (some false)
def NM (a0:Int):Option Bool:=
  bif (a0==3) then DI (a0==3) else (bif (a0==4) then DI (a0==4) else (bif (a0==5) then DI (a0==5) else (bif (a0==6) then DI (a0==6) else (bif (a0==8) then DI (a0==8) else (bif (a0==33) then DI (a0==33) else (bif (a0==35) then DI (a0==35) else (bif (a0==51) then DI (a0==51) else (DI<|a0==52))))))))
def WC (N:Nat) (jl:(LT×Int×Int)->Option Bool):(LT×Int×aG×Bool)->Option Bool
  | (a0,mh,iO,aaV)=>bif aaV then some false else (jl (a0,iO.Kind,(IntKind.wrap .i64<|mh+1)))
def Ky (N:Nat) (jl:(LT×Int×Int)->Option Bool):(LT×Int×Int×aG×Int)->Option Bool
  | (a0,sP,mh,iO,NP)=>(Nr N iO).bind fun alC=>bif (!alC) then some false else ((bif (iO.Kind==7) then some (NP !=32) else (some false)).bind fun afn=>bif afn then some false else ((bif (iO.Kind==2) then bif (NP !=1) then some (NP !=0) else (some false) else (some false)).bind fun afo=>bif afo then some false else ((bif (iO.Kind==5) then (NM sP).bind fun alD=>some alD else (some false)).bind fun WE=>bif WE then WC N jl (a0,mh,iO,WE) else ((bif (iO.Kind==58) then (NM sP).bind fun alE=>some (!alE) else (bif (iO.Kind==41) then (NM sP).bind fun alF=>some (!alF) else (some false))).bind fun aaW=>WC N jl (a0,mh,iO,aaW)))))
def yO (N:Nat):Nat->(LT×Int×Int)->Option Bool
  | 0,_=>none
  | n1+1,(a0,sP,mh)=>bif (decide<|mh < (a0.length:Int)) then (ix a0 mh).bind fun iO=>bif (decide<|(IntKind.wrap .i64<|mh+1) < (a0.length:Int)) then (ix a0<|IntKind.wrap .i64<|mh+1).bind fun afp=>Ky N (yO N n1) (a0,sP,mh,iO,afp.Kind) else (Ky N (yO N n1) (a0,sP,mh,iO,0)) else (some true)
def Ey (N:Nat) (a0:LT):Option Bool:=
  bif (decide<|(a0.length:Int) > 3000) then some false else (yO N N (a0,0,0))
def Kz (a0:Int):Option Bool:=
  (bif (a0==32) then some true else (bif (a0==34) then some true else (some<|a0==30))).bind fun y1=>some y1
def KC (a0:Int):Option Bool:=
  (bif (a0==33) then some true else (bif (a0==35) then some true else (some<|a0==31))).bind fun y1=>some y1
def NQ (N:Nat) (jl:(LT×Int×Int)->Option Int):(Int×LT×Int)->Option Int
  | (jm,a0,GK)=>bif (decide<|GK > 40) then some jm else (jl (a0,GK,(IntKind.wrap .i64<|jm+1)))
def DJ (N:Nat):Nat->(LT×Int×Int)->Option Int
  | 0,_=>none
  | n1+1,(a0,y93,jm)=>bif (decide<|jm < (a0.length:Int)) then (ix a0 jm).bind fun WG=>(Kz WG.Kind).bind fun Vh=>bif Vh then NQ N (DJ N n1) (jm,a0,(IntKind.wrap .i64<|y93+1)) else ((KC WG.Kind).bind fun alG=>bif alG then NQ N (DJ N n1) (jm,a0,(if 0 > (IntKind.wrap .i64<|y93 - 1) then 0 else (IntKind.wrap .i64<|y93 - 1))) else (NQ N (DJ N n1) (jm,a0,y93))) else (some<|-1)
def aaX (N:Nat) (a0:LT):Option Int:=
  DJ N N (a0,0,0)
def WH (a0:LT) (a1:Int):Option Int:=
  bif (decide<|a1 < (a0.length:Int)) then (ix a0 a1).bind fun e4=>some e4.At else (bif ((a0.length:Int)==0) then some 0 else ((ix a0<|IntKind.wrap .i64<|(a0.length:Int) - 1).bind fun e7=>(ix a0<|IntKind.wrap .i64<|(a0.length:Int) - 1).bind fun e8=>some<|IntKind.wrap .i64<|e7.At+(e8.Text.length:Int)))
def WI (N:Nat) (a0:LT):Option yD:=
  (Ey N a0).bind fun r4=>bif (!r4) then some (⟨2,0⟩:yD) else ((aaX N a0).bind fun bE=>bif (decide<|bE>=0) then (WH a0 bE).bind fun bZ=>some (⟨4,bZ⟩:yD) else (some (⟨0,0⟩:yD)))
def dY (pa:LT) (pb:Int) (pc:Bool) (p1:aO):Option Int:=
  bif (decide<|pb>=(pa.length:Int)) then some 0 else ((ix pa pb).bind fun e2=>some e2.Kind)
def Fu:Bool->Option Bool
  | y2=>bif y2 then some true else (some false)
def NR (a0:Int):Option Bool:=
  bif (a0==3) then Fu (a0==3) else (bif (a0==4) then Fu (a0==4) else (bif (a0==6) then Fu (a0==6) else (bif (a0==7) then Fu (a0==7) else (bif (a0==8) then Fu (a0==8) else (bif (a0==32) then Fu (a0==32) else (Fu<|a0==68))))))
def Si (pa:LT) (pb:Int) (pc:Bool) (p1:aO):Option (fu×Bool):=
  some ((⟨(⟨0,0,[],[],[]⟩:av),false⟩:fu),true)
def aaY (N:Nat) (pa:LT) (pb:Int) (pc:Bool) (p1:aO):Unit->Option Bool
  | _=>some false
def Hu (N:Nat) (pa:LT) (pb:Int) (pc:Bool) (p1:aO) (kb2:(LT×Int×Int)->Option Bool):(LT×Int×Int)->Option Bool
  | (ow,pR,Sj)=>bif (decide<|Sj<=0) then aaY N pa pb pc p1 () else (kb2 (ow,Sj,(IntKind.wrap .i64<|pR+1)))
def zU (N:Nat) (pa:LT) (pb:Int) (pc:Bool) (p1:aO):Nat->(LT×Int×Int)->Option Bool
  | 0,_=>none
  | n2+1,(ow,zJ,pR)=>bif (decide<|pR < (ow.length:Int)) then (ix ow pR).bind fun Sk=>(Kz Sk.Kind).bind fun alH=>bif alH then Hu N pa pb pc p1 (zU N pa pb pc p1 n2) (ow,pR,(IntKind.wrap .i64<|zJ+1)) else ((KC Sk.Kind).bind fun alI=>bif alI then Hu N pa pb pc p1 (zU N pa pb pc p1 n2) (ow,pR,(IntKind.wrap .i64<|zJ - 1)) else ((bif (Sk.Kind==36) then some (zJ==1) else (some false)).bind fun y160=>bif y160 then some true else (Hu N pa pb pc p1 (zU N pa pb pc p1 n2) (ow,pR,zJ)))) else (aaY N pa pb pc p1 ())
def NS (N:Nat) (pa:LT) (pb:Int) (pc:Bool) (p1:aO):Option Bool:=
  (cut pa pb (pa.length:Int)).bind fun ow=>zU N pa pb pc p1 N (ow,0,0)
def WJ (N:Nat) (pa:LT) (pc:Bool) (jl:(Int×aO)->Option (Int×aO)):(Int×aO)->Option (Int×aO)
  | (gK,lu)=>jl ((IntKind.wrap .i64<|gK+1),lu)
def DK (N:Nat) (pa:LT) (pc:Bool):Nat->(Int×aO)->Option (Int×aO)
  | 0,_=>none
  | n1+1,(gK,jO)=>bif (!pc) then (dY pa gK pc jO).bind fun Hg=>bif (Hg==1) then WJ N pa pc (DK N pa pc n1) (gK,jO) else (bif (Hg==2) then (ix pa gK).bind fun e42=>(app 16 jO [e42.Text]).bind fun x43=>WJ N pa pc (DK N pa pc n1) (gK,x43) else (some (gK,jO))) else (some (gK,jO))
def NT (N:Nat) (pa:LT) (pb:Int) (pc:Bool) (p1:aO):Option (Int×aO):=
  DK N pa pc N (pb,p1)
def KD (a1:Int) (pa:LT) (pb:Int) (pc:Bool) (p1:aO):Option (Bool×Int×Bool):=
  (bif pc then some true else ((dY pa pb pc p1).bind fun r6=>some<|r6 !=a1)).bind fun y5=>bif y5 then some (false,pb,true) else (some (true,(IntKind.wrap .i64<|pb+1),pc))
def Fv (pa:LT) (pb:Int) (pc:Bool) (p1:aO):Option (LU×Int):=
  (ix pa pb).bind fun e2=>some (e2.Text,(IntKind.wrap .i64<|pb+1))
def Fw (a0:Int) (a1:fu) (a2:fu):Option fu:=
  some (⟨(⟨12,a0,[],[],[a1.tree,a2.tree]⟩:av),false⟩:fu)
def KE (pa:LT) (pb:Int) (pc:Bool) (p1:aO):Option (LU×Int×Bool):=
  (bif pc then some true else ((dY pa pb pc p1).bind fun r6=>some<|r6 !=6)).bind fun y5=>bif y5 then some ([],pb,true) else ((Fv pa pb pc p1).bind fun r8=>some (r8.1,r8.2,pc))
structure eH where
  zV:LT->Int->Bool->aO->Option T1
  DL:LT->Int->Bool->aO->Option T1
  sQ:LT->Int->Bool->aO->Option T1
  NU:LT->Int->Bool->aO->Option T1
  zW:LT->Int->Bool->aO->Option T1
  Cj:LT->Int->Bool->aO->Option T1
  Ck:bJ->LT->Int->Bool->aO->Option T1
  sS:bJ->LT->Int->Bool->aO->Option T1
  zX:bJ->LT->Int->Bool->aO->Option T1
  zY:bJ->LT->Int->Bool->aO->Option T1
  yP:bJ->LT->Int->Bool->aO->Option T1
  yQ:bJ->LT->Int->Bool->aO->Option T1
  Cm:bJ->LT->Int->Bool->aO->Option T1
  NV:bJ->LT->Int->Bool->aO->Option (LS×Int×Bool×aO)
  Bb:Int->LT->Int->Bool->aO->Option (LS×Int×Bool×aO)
  zZ:bJ->LT->Int->Bool->aO->Option T1
  Aa:bJ->LT->Int->Bool->aO->Option T1
  Cn:bJ->LT->Int->Bool->aO->Option T1
  vD:bJ->LT->Int->Bool->aO->Option T1
  ug:bJ->LT->Int->Bool->aO->Option T1
def abb (N:Nat) (R:eH) (pa:LT):((LU×Int)×Int×Int×Bool×LS×aO)->Option T1
  | (r2,y7,y8,y9,fP,dK)=>some ((⟨(⟨y7,0,r2.1,[],fP⟩:av),true⟩:fu),y8,y9,dK)
def NW (N:Nat) (R:eH) (pa:LT) (pb:Int) (pc:Bool) (p1:aO):Option T1:=
  (Fv pa pb pc p1).bind fun r2=>(dY pa r2.2 pc p1).bind fun sJ=>bif (sJ==34) then (R.Bb 35 pa (IntKind.wrap .i64<|r2.2+1) pc p1).bind fun fG=>abb N R pa (r2,5,fG.2.1,fG.2.2.1,fG.1,fG.2.2.2) else (abb N R pa (r2,1,r2.2,pc,[],p1))
def abd (N:Nat) (R:eH) (pa:LT):(Int×(LU×Int)×Int×Bool×LS×aO)->Option T1
  | (wU,cB,Cg,yR,sF,nM)=>some ((⟨(⟨wU,0,cB.1,[],sF⟩:av),false⟩:fu),Cg,yR,nM)
def Sl (N:Nat) (R:eH) (pa:LT):((LU×Int)×Bool×aO×Int)->Option T1
  | (cB,pc,p1,wU)=>(KD 32 pa cB.2 pc p1).bind fun xJ=>bif xJ.1 then (R.Bb 33 pa xJ.2.1 xJ.2.2 p1).bind fun oN=>abd N R pa (wU,cB,oN.2.1,oN.2.2.1,oN.1,oN.2.2.2) else (abd N R pa (wU,cB,xJ.2.1,xJ.2.2,[],p1))
def Fy (N:Nat) (R:eH) (pa:LT):(Int×Int×Bool×aO×Bool)->Option T1
  | (iN,pb,pc,p1,lH)=>bif lH then (Fv pa pb pc p1).bind fun cB=>bif (iN==8) then (bif (cB.1==[108,101,110,103,116,104]) then (dY pa cB.2 pc p1).bind fun tX=>some (tX !=32) else (some false)).bind fun y67=>bif y67 then some ((⟨(⟨8,0,cB.1,[],[]⟩:av),false⟩:fu),cB.2,pc,p1) else (Sl N R pa (cB,pc,p1,8)) else (Sl N R pa (cB,pc,p1,7)) else (bif (iN==32) then (R.ug (⟨false,false⟩:bJ) pa (IntKind.wrap .i64<|pb+1) pc p1).bind fun kM=>(KD 33 pa kM.2.1 kM.2.2.1 kM.2.2.2).bind fun pO=>some ((⟨kM.1.tree,false⟩:fu),pO.2.1,pO.2.2,kM.2.2.2) else ((Si pa pb pc p1).bind fun ny=>some (ny.1,pb,ny.2,p1)))
def wV (N:Nat) (R:eH) (pa:LT) (pb:Int) (pc:Bool) (p1:aO):Option T1:=
  bif pc then some ((⟨(⟨0,0,[],[],[]⟩:av),false⟩:fu),pb,pc,p1) else ((dY pa pb pc p1).bind fun iN=>bif (iN==3) then (Fv pa pb pc p1).bind fun nP=>some ((⟨(⟨2,0,nP.1,[],[]⟩:av),false⟩:fu),nP.2,pc,p1) else (bif (iN==4) then (Fv pa pb pc p1).bind fun ql=>some ((⟨(⟨3,0,ql.1,[],[]⟩:av),false⟩:fu),ql.2,pc,p1) else (bif (iN==5) then (Fv pa pb pc p1).bind fun oo=>some ((⟨(⟨4,0,oo.1,[],[]⟩:av),false⟩:fu),oo.2,pc,p1) else (bif (iN==6) then (R.zV pa pb pc p1).bind fun vo=>some (vo.1,vo.2.1,vo.2.2.1,vo.2.2.2) else (bif (iN==7) then Fy N R pa (iN,pb,pc,p1,(iN==7)) else (Fy N R pa (iN,pb,pc,p1,(iN==8))))))))
def abe (N:Nat) (R:eH) (pa:LT):(Int×Int×LU×LU×LS×Bool×Int×Bool×aO)->Option T1
  | (fQ,y20,y21,y22,y23,y24,y25,mP,y27)=>some ((⟨(⟨6,0,[],[],[(⟨fQ,y20,y21,y22,y23⟩:av)]⟩:av),true⟩:fu),y25,mP,y27)
def DN (N:Nat) (R:eH) (pa:LT) (pb:Int) (pc:Bool) (p1:aO):Option T1:=
  (bif pc then some true else ((dY pa pb pc p1).bind fun r8=>some<|r8 !=68)).bind fun y7=>bif y7 then (R.DL pa pb pc p1).bind fun bE=>some (bE.1,bE.2.1,bE.2.2.1,bE.2.2.2) else ((dY pa (IntKind.wrap .i64<|pb+1) pc p1).bind fun vg=>(AX vg).bind fun yJ=>bif yJ then (R.zW pa (IntKind.wrap .i64<|pb+1) pc p1).bind fun fZ=>abe N R pa (fZ.1.tree.kind,fZ.1.tree.op,fZ.1.tree.text,fZ.1.tree.other,fZ.1.tree.kids,fZ.1.target,fZ.2.1,fZ.2.2.1,fZ.2.2.2) else ((R.sQ pa (IntKind.wrap .i64<|pb+1) pc p1).bind fun dh=>abe N R pa (dh.1.tree.kind,dh.1.tree.op,dh.1.tree.text,dh.1.tree.other,dh.1.tree.kids,dh.1.target,dh.2.1,dh.2.2.1,dh.2.2.2)))
def abf (N:Nat) (R:eH) (pa:LT):(Int×Bool×aO)->Option T1
  | (pb,pc,p1)=>(Si pa pb pc p1).bind fun bE=>some (bE.1,pb,bE.2,p1)
def WK (N:Nat) (R:eH) (pa:LT) (pb:Int) (pc:Bool) (p1:aO):Option T1:=
  bif pc then abf N R pa (pb,pc,p1) else ((dY pa pb pc p1).bind fun bZ=>bif (bZ==68) then (R.sQ pa pb pc p1).bind fun bM=>some (bM.1,bM.2.1,bM.2.2.1,bM.2.2.2) else ((dY pa pb pc p1).bind fun r16=>bif (r16==6) then (R.zV pa pb pc p1).bind fun iC=>some (iC.1,iC.2.1,iC.2.2.1,iC.2.2.2) else (abf N R pa (pb,pc,p1))))
def WL (N:Nat) (R:eH) (pa:LT) (pb:Int) (pc:Bool) (p1:aO):Option T1:=
  (dY pa pb pc p1).bind fun r2=>(R.NU pa (IntKind.wrap .i64<|pb+1) pc p1).bind fun r4=>some ((⟨(⟨9,r2,[],[],[r4.1.tree]⟩:av),false⟩:fu),r4.2.1,r4.2.2.1,r4.2.2.2)
def Hw (N:Nat) (R:eH) (pa:LT) (pb:Int) (pc:Bool) (p1:aO):Option T1:=
  (bif (!pc) then (dY pa pb pc p1).bind fun gq=>(AX gq).bind fun bZ=>some bZ else (some false)).bind fun fP=>bif fP then (R.zW pa pb pc p1).bind fun bM=>some (bM.1,bM.2.1,bM.2.2.1,bM.2.2.2) else ((R.sQ pa pb pc p1).bind fun r16=>(bif r16.2.2.1 then some true else (bif (!r16.1.target) then some true else ((dY pa r16.2.1 r16.2.2.1 r16.2.2.2).bind fun GV=>(AX GV).bind fun iy=>some<|!iy))).bind fun y24=>bif y24 then some (r16.1,r16.2.1,r16.2.2.1,r16.2.2.2) else ((dY pa r16.2.1 r16.2.2.1 r16.2.2.2).bind fun jT=>some ((⟨(⟨10,jT,[],[],[r16.1.tree]⟩:av),false⟩:fu),(IntKind.wrap .i64<|r16.2.1+1),r16.2.2.1,r16.2.2.2)))
def NY (N:Nat) (R:eH) (a1:bJ) (pa:LT) (pb:Int) (pc:Bool) (p1:aO):Option T1:=
  (R.Cj pa pb pc p1).bind fun r2=>(bif r2.2.2.1 then some true else ((dY pa r2.2.1 r2.2.2.1 r2.2.2.2).bind fun r8=>some<|r8 !=60)).bind fun y7=>bif y7 then some (r2.1,r2.2.1,r2.2.2.1,r2.2.2.2) else ((R.sS a1 pa (IntKind.wrap .i64<|r2.2.1+1) r2.2.2.1 r2.2.2.2).bind fun gq=>(Fw 60 r2.1 gq.1).bind fun bZ=>some (bZ,gq.2.1,gq.2.2.1,gq.2.2.2))
def Hy (N:Nat) (R:eH) (a1:bJ) (pa:LT) (pb:Int) (pc:Bool) (p1:aO):Option T1:=
  (dY pa pb pc p1).bind fun r2=>(bif pc then some true else (bif (r2 !=55) then bif (r2 !=56) then some (r2 !=61) else (some false) else (some false))).bind fun y6=>bif y6 then (R.Ck a1 pa pb pc p1).bind fun r8=>some (r8.1,r8.2.1,r8.2.2.1,r8.2.2.2) else ((R.sS a1 pa (IntKind.wrap .i64<|pb+1) pc p1).bind fun bE=>some ((⟨(⟨11,r2,[],[],[bE.1.tree]⟩:av),false⟩:fu),bE.2.1,bE.2.2.1,bE.2.2.2))
def Hz (N:Nat) (R:eH) (pa:LT):Nat->(bJ×Int×Bool×Int×Int×LU×LU×LS×Bool×aO)->Option T1
  | 0,_=>none
  | n1+1,(a1,kP,mR,uh,uj,qo,y90,y91,jw,y93)=>(bif (!mR) then (dY pa kP mR y93).bind fun NZ=>(BZ NZ).bind fun AU=>some (AU==10) else (some false)).bind fun Oa=>bif Oa then (dY pa kP mR y93).bind fun tT=>(R.sS a1 pa (IntKind.wrap .i64<|kP+1) mR y93).bind fun oh=>(Fw tT (⟨(⟨uh,uj,qo,y90,y91⟩:av),jw⟩:fu) oh.1).bind fun kN=>(Hz N R pa n1) (a1,oh.2.1,oh.2.2.1,kN.tree.kind,kN.tree.op,kN.tree.text,kN.tree.other,kN.tree.kids,kN.target,oh.2.2.2) else (some ((⟨(⟨uh,uj,qo,y90,y91⟩:av),jw⟩:fu),kP,mR,y93))
def WM (N:Nat) (R:eH) (a1:bJ) (pa:LT) (pb:Int) (pc:Bool) (p1:aO):Option T1:=
  (R.sS a1 pa pb pc p1).bind fun r2=>Hz N R pa N (a1,r2.2.1,r2.2.2.1,r2.1.tree.kind,r2.1.tree.op,r2.1.tree.text,r2.1.tree.other,r2.1.tree.kids,r2.1.target,r2.2.2.2)
def HV (N:Nat) (R:eH) (pa:LT):Nat->(bJ×Int×Bool×Int×Int×LU×LU×LS×Bool×aO)->Option T1
  | 0,_=>none
  | n1+1,(a1,kP,mR,uh,uj,qo,y90,y91,jw,y93)=>(bif (!mR) then (dY pa kP mR y93).bind fun NZ=>(BZ NZ).bind fun AU=>some (AU==9) else (some false)).bind fun Oa=>bif Oa then (dY pa kP mR y93).bind fun tT=>(R.zX a1 pa (IntKind.wrap .i64<|kP+1) mR y93).bind fun oh=>(Fw tT (⟨(⟨uh,uj,qo,y90,y91⟩:av),jw⟩:fu) oh.1).bind fun kN=>(HV N R pa n1) (a1,oh.2.1,oh.2.2.1,kN.tree.kind,kN.tree.op,kN.tree.text,kN.tree.other,kN.tree.kids,kN.target,oh.2.2.2) else (some ((⟨(⟨uh,uj,qo,y90,y91⟩:av),jw⟩:fu),kP,mR,y93))
def WO (N:Nat) (R:eH) (a1:bJ) (pa:LT) (pb:Int) (pc:Bool) (p1:aO):Option T1:=
  (R.zX a1 pa pb pc p1).bind fun r2=>HV N R pa N (a1,r2.2.1,r2.2.2.1,r2.1.tree.kind,r2.1.tree.op,r2.1.tree.text,r2.1.tree.other,r2.1.tree.kids,r2.1.target,r2.2.2.2)
def HY (N:Nat) (R:eH) (pa:LT):Nat->(bJ×Int×Bool×Int×Int×LU×LU×LS×Bool×aO)->Option T1
  | 0,_=>none
  | n1+1,(a1,mU,AO,HZ,Ia,BP,Ib,Ic,Ie,kP)=>(bif (!AO) then (dY pa mU AO kP).bind fun afr=>(NR afr).bind fun alJ=>some alJ else (some false)).bind fun QO=>bif QO then (R.zY a1 pa mU AO kP).bind fun wO=>(Fw 99 (⟨(⟨HZ,Ia,BP,Ib,Ic⟩:av),Ie⟩:fu) wO.1).bind fun qH=>(HY N R pa n1) (a1,wO.2.1,wO.2.2.1,qH.tree.kind,qH.tree.op,qH.tree.text,qH.tree.other,qH.tree.kids,qH.target,wO.2.2.2) else (some ((⟨(⟨HZ,Ia,BP,Ib,Ic⟩:av),Ie⟩:fu),mU,AO,kP))
def WQ (N:Nat) (R:eH) (a1:bJ) (pa:LT) (pb:Int) (pc:Bool) (p1:aO):Option T1:=
  (R.zY a1 pa pb pc p1).bind fun r2=>HY N R pa N (a1,r2.2.1,r2.2.2.1,r2.1.tree.kind,r2.1.tree.op,r2.1.tree.text,r2.1.tree.other,r2.1.tree.kids,r2.1.target,r2.2.2.2)
def Oc (N:Nat) (R:eH) (a1:bJ) (pa:LT) (pb:Int) (pc:Bool) (p1:aO):Option T1:=
  (R.yP a1 pa pb pc p1).bind fun r2=>(bif r2.2.2.1 then some true else ((dY pa r2.2.1 r2.2.2.1 r2.2.2.2).bind fun bM=>(BZ bM).bind fun fG=>bif (fG !=7) then some true else (bif a1.dF then (dY pa r2.2.1 r2.2.2.1 r2.2.2.2).bind fun r16=>some (r16==62) else (some false)))).bind fun y13=>bif y13 then some (r2.1,r2.2.1,r2.2.2.1,r2.2.2.2) else ((dY pa r2.2.1 r2.2.2.1 r2.2.2.2).bind fun iC=>(R.yP a1 pa (IntKind.wrap .i64<|r2.2.1+1) r2.2.2.1 r2.2.2.2).bind fun bW=>(Fw iC r2.1 bW.1).bind fun lg=>some (lg,bW.2.1,bW.2.2.1,bW.2.2.2))
def Od (N:Nat) (R:eH) (a1:bJ) (pa:LT) (pb:Int) (pc:Bool) (p1:aO):Option T1:=
  (R.yQ a1 pa pb pc p1).bind fun r2=>(bif r2.2.2.1 then some true else ((dY pa r2.2.1 r2.2.2.1 r2.2.2.2).bind fun gq=>bif (gq !=67) then (dY pa r2.2.1 r2.2.2.1 r2.2.2.2).bind fun bZ=>some (bZ !=46) else (some false))).bind fun fP=>bif fP then some (r2.1,r2.2.1,r2.2.2.1,r2.2.2.2) else ((dY pa r2.2.1 r2.2.2.1 r2.2.2.2).bind fun bM=>(R.yQ a1 pa (IntKind.wrap .i64<|r2.2.1+1) r2.2.2.1 r2.2.2.2).bind fun vv=>(Fw bM r2.1 vv.1).bind fun iC=>some (iC,vv.2.1,vv.2.2.1,vv.2.2.2))
def WR (N:Nat) (R:eH) (pa:LT):(LS×Int×Bool×aO)->Option (LS×Int×Bool×aO)
  | (kC,nu,lH,pJ)=>some (kC,nu,lH,pJ)
def KF (N:Nat) (R:eH) (pa:LT):Nat->(bJ×Int×Bool×LS×aO)->Option (LS×Int×Bool×aO)
  | 0,_=>none
  | n2+1,(a1,nM,KG,jB,lC)=>bif (!KG) then (R.ug a1 pa nM KG lC).bind fun jc=>(app 72 jB [jc.1.tree]).bind fun x84=>(bif jc.2.2.1 then some true else ((dY pa jc.2.1 jc.2.2.1 jc.2.2.2).bind fun sj=>some<|sj !=36)).bind fun qo=>bif qo then WR N R pa (x84,jc.2.1,jc.2.2.1,jc.2.2.2) else (bif ((x84.length:Int)==6) then WR N R pa (x84,jc.2.1,true,jc.2.2.2) else ((NT N pa (IntKind.wrap .i64<|jc.2.1+1) jc.2.2.1 jc.2.2.2).bind fun Kv=>(KF N R pa n2) (a1,Kv.1,jc.2.2.1,x84,Kv.2))) else (WR N R pa (jB,nM,KG,lC))
def afs (N:Nat) (R:eH) (a1:bJ) (pa:LT) (pb:Int) (pc:Bool) (p1:aO):Option (LS×Int×Bool×aO):=
  KF N R pa N (a1,pb,pc,[],p1)
def Oe (N:Nat) (R:eH) (a1:Int) (pa:LT) (pb:Int) (pc:Bool) (p1:aO):Option (LS×Int×Bool×aO):=
  ((dY pa pb pc p1).bind fun r6=>bif (r6==a1) then some (a1==33) else (some false)).bind fun y5=>bif y5 then some ([],(IntKind.wrap .i64<|pb+1),pc,p1) else ((R.NV (⟨false,false⟩:bJ) pa pb pc p1).bind fun r8=>(KD a1 pa r8.2.1 r8.2.2.1 r8.2.2.2).bind fun bE=>some (r8.1,bE.2.1,bE.2.2,r8.2.2.2))
def KH (N:Nat) (R:eH) (pa:LT):Nat->(bJ×(LS×Int×Bool×aO)×Int×Bool×LU×LS)->Option T1
  | 0,_=>none
  | n1+1,(a1,bW,y91,jw,y93,jm)=>(bif (!jw) then (dY pa y91 jw bW.2.2.2).bind fun Kk=>bif (Kk==24) then some (!a1.dz) else (some false) else (some false)).bind fun aft=>bif aft then (KE pa (IntKind.wrap .i64<|y91+1) jw bW.2.2.2).bind fun xI=>(KH N R pa n1) (a1,bW,xI.2.1,xI.2.2,xI.1,[(⟨13,0,y93,[],jm⟩:av)]) else (some ((⟨(⟨13,0,y93,[],jm⟩:av),false⟩:fu),y91,jw,bW.2.2.2))
def KI (N:Nat) (R:eH) (pa:LT):Nat->(bJ×T1×Int×Bool×LU×LS)->Option T1
  | 0,_=>none
  | n2+1,(a1,dH,Ab,yS,vE,sU)=>(bif (!yS) then (dY pa Ab yS dH.2.2.2).bind fun EZ=>bif (EZ==24) then some (!a1.dz) else (some false) else (some false)).bind fun afu=>bif afu then (KE pa (IntKind.wrap .i64<|Ab+1) yS dH.2.2.2).bind fun Og=>(KI N R pa n2) (a1,dH,Og.2.1,Og.2.2,Og.1,[(⟨13,0,vE,[],sU⟩:av)]) else (some ((⟨(⟨13,0,vE,[],sU⟩:av),false⟩:fu),Ab,yS,dH.2.2.2))
def Ig (N:Nat) (R:eH) (a1:bJ) (pa:LT) (pb:Int) (pc:Bool) (p1:aO):Option T1:=
  (bif (!pc) then (dY pa pb pc p1).bind fun iC=>bif (iC==32) then bif (!a1.dz) then (NS N pa pb pc p1).bind fun cZ=>some cZ else (some false) else (some false) else (some false)).bind fun jN=>bif jN then (R.Bb 33 pa (IntKind.wrap .i64<|pb+1) pc p1).bind fun bW=>(bif (!bW.2.2.1) then (dY pa bW.2.1 bW.2.2.1 bW.2.2.2).bind fun jE=>some (jE !=24) else (some false)).bind fun y23=>bif y23 then (Si pa bW.2.1 bW.2.2.1 bW.2.2.2).bind fun iy=>some (iy.1,bW.2.1,iy.2,bW.2.2.2) else ((bif (!bW.2.2.1) then (dY pa bW.2.1 bW.2.2.1 bW.2.2.2).bind fun nN=>bif (nN==24) then some (!a1.dz) else (some false) else (some false)).bind fun qp=>bif qp then (neN bW.1).bind fun b80=>(KE pa (IntKind.wrap .i64<|bW.2.1+1) bW.2.2.1 bW.2.2.2).bind fun vF=>KH N R pa N (a1,bW,vF.2.1,vF.2.2,vF.1,bW.1) else (some ((⟨(⟨0,0,[],[],[]⟩:av),false⟩:fu),bW.2.1,bW.2.2.1,bW.2.2.2))) else ((R.Cm a1 pa pb pc p1).bind fun dH=>(bif (!dH.2.2.1) then (dY pa dH.2.1 dH.2.2.1 dH.2.2.2).bind fun alK=>bif (alK==24) then some (!a1.dz) else (some false) else (some false)).bind fun QS=>bif QS then (KE pa (IntKind.wrap .i64<|dH.2.1+1) dH.2.2.1 dH.2.2.2).bind fun Fz=>KI N R pa N (a1,dH,Fz.2.1,Fz.2.2,Fz.1,[dH.1.tree]) else (some (dH.1,dH.2.1,dH.2.2.1,dH.2.2.2)))
def Ih (N:Nat) (R:eH) (pa:LT):Nat->(bJ×Int×Bool×Int×Int×LU×LU×LS×Bool×aO)->Option T1
  | 0,_=>none
  | n1+1,(a1,oK,lq,kK,ji,oJ,pV,qp,qG,mU)=>(bif (!lq) then (dY pa oK lq mU).bind fun sw=>some (sw==45) else (some false)).bind fun Oh=>bif Oh then (NT N pa (IntKind.wrap .i64<|oK+1) lq mU).bind fun pK=>(R.zZ a1 pa pK.1 lq pK.2).bind fun um=>(Fw 45 (⟨(⟨kK,ji,oJ,pV,qp⟩:av),qG⟩:fu) um.1).bind fun nQ=>(Ih N R pa n1) (a1,um.2.1,um.2.2.1,nQ.tree.kind,nQ.tree.op,nQ.tree.text,nQ.tree.other,nQ.tree.kids,nQ.target,um.2.2.2) else (some ((⟨(⟨kK,ji,oJ,pV,qp⟩:av),qG⟩:fu),oK,lq,mU))
def WS (N:Nat) (R:eH) (a1:bJ) (pa:LT) (pb:Int) (pc:Bool) (p1:aO):Option T1:=
  (R.zZ a1 pa pb pc p1).bind fun r2=>Ih N R pa N (a1,r2.2.1,r2.2.2.1,r2.1.tree.kind,r2.1.tree.op,r2.1.tree.text,r2.1.tree.other,r2.1.tree.kids,r2.1.target,r2.2.2.2)
def Ii (N:Nat) (R:eH) (pa:LT):Nat->(bJ×Int×Bool×Int×Int×LU×LU×LS×Bool×aO)->Option T1
  | 0,_=>none
  | n1+1,(a1,oK,lq,kK,ji,oJ,pV,qp,qG,mU)=>(bif (!lq) then (dY pa oK lq mU).bind fun sw=>some (sw==44) else (some false)).bind fun Oh=>bif Oh then (NT N pa (IntKind.wrap .i64<|oK+1) lq mU).bind fun pK=>(R.Aa a1 pa pK.1 lq pK.2).bind fun um=>(Fw 44 (⟨(⟨kK,ji,oJ,pV,qp⟩:av),qG⟩:fu) um.1).bind fun nQ=>(Ii N R pa n1) (a1,um.2.1,um.2.2.1,nQ.tree.kind,nQ.tree.op,nQ.tree.text,nQ.tree.other,nQ.tree.kids,nQ.target,um.2.2.2) else (some ((⟨(⟨kK,ji,oJ,pV,qp⟩:av),qG⟩:fu),oK,lq,mU))
def WT (N:Nat) (R:eH) (a1:bJ) (pa:LT) (pb:Int) (pc:Bool) (p1:aO):Option T1:=
  (R.Aa a1 pa pb pc p1).bind fun r2=>Ii N R pa N (a1,r2.2.1,r2.2.2.1,r2.1.tree.kind,r2.1.tree.op,r2.1.tree.text,r2.1.tree.other,r2.1.tree.kids,r2.1.target,r2.2.2.2)
def Oi (N:Nat) (R:eH) (a1:bJ) (pa:LT) (pb:Int) (pc:Bool) (p1:aO):Option T1:=
  (R.Cn a1 pa pb pc p1).bind fun r2=>(bif r2.2.2.1 then some true else ((dY pa r2.2.1 r2.2.2.1 r2.2.2.2).bind fun r8=>some<|r8 !=65)).bind fun y7=>bif y7 then some (r2.1,r2.2.1,r2.2.2.1,r2.2.2.2) else ((R.vD a1 pa (IntKind.wrap .i64<|r2.2.1+1) r2.2.2.1 r2.2.2.2).bind fun bE=>(KD 66 pa bE.2.1 bE.2.2.1 bE.2.2.2).bind fun bZ=>bif bZ.2.2 then some ((⟨(⟨0,0,[],[],[]⟩:av),false⟩:fu),bZ.2.1,bZ.2.2,bE.2.2.2) else ((R.vD a1 pa bZ.2.1 bZ.2.2 bE.2.2.2).bind fun bM=>some ((⟨(⟨14,0,[],[],[r2.1.tree,bE.1.tree,bM.1.tree]⟩:av),false⟩:fu),bM.2.1,bM.2.2.1,bM.2.2.2)))
def Oj (N:Nat) (R:eH) (a1:bJ) (pa:LT) (pb:Int) (pc:Bool) (p1:aO):Option T1:=
  (R.vD a1 pa pb pc p1).bind fun r2=>(bif r2.2.2.1 then some true else (bif (!r2.1.target) then some true else ((dY pa r2.2.1 r2.2.2.1 r2.2.2.2).bind fun gq=>(Ns gq).bind fun bZ=>some<|!bZ))).bind fun fP=>bif fP then some (r2.1,r2.2.1,r2.2.2.1,r2.2.2.2) else ((dY pa r2.2.1 r2.2.2.1 r2.2.2.2).bind fun bM=>(R.ug a1 pa (IntKind.wrap .i64<|r2.2.1+1) r2.2.2.1 r2.2.2.2).bind fun r16=>some ((⟨(⟨15,bM,[],[],[r2.1.tree,r16.1.tree]⟩:av),false⟩:fu),r16.2.1,r16.2.2.1,r16.2.2.2))
def aU:Nat->eH
  | 0=>⟨fun _ _ _ _=>none,fun _ _ _ _=>none,fun _ _ _ _=>none,fun _ _ _ _=>none,fun _ _ _ _=>none,fun _ _ _ _=>none,fun _ _ _ _ _=>none,fun _ _ _ _ _=>none,fun _ _ _ _ _=>none,fun _ _ _ _ _=>none,fun _ _ _ _ _=>none,fun _ _ _ _ _=>none,fun _ _ _ _ _=>none,fun _ _ _ _ _=>none,fun _ _ _ _ _=>none,fun _ _ _ _ _=>none,fun _ _ _ _ _=>none,fun _ _ _ _ _=>none,fun _ _ _ _ _=>none,fun _ _ _ _ _=>none⟩
  | N+1=>⟨fun pa pb pc p1=>NW N (aU N) pa pb pc p1,fun pa pb pc p1=>wV N (aU N) pa pb pc p1,fun pa pb pc p1=>DN N (aU N) pa pb pc p1,fun pa pb pc p1=>WK N (aU N) pa pb pc p1,fun pa pb pc p1=>WL N (aU N) pa pb pc p1,fun pa pb pc p1=>Hw N (aU N) pa pb pc p1,fun a1 pa pb pc p1=>NY N (aU N) a1 pa pb pc p1,fun a1 pa pb pc p1=>Hy N (aU N) a1 pa pb pc p1,fun a1 pa pb pc p1=>WM N (aU N) a1 pa pb pc p1,fun a1 pa pb pc p1=>WO N (aU N) a1 pa pb pc p1,fun a1 pa pb pc p1=>WQ N (aU N) a1 pa pb pc p1,fun a1 pa pb pc p1=>Oc N (aU N) a1 pa pb pc p1,fun a1 pa pb pc p1=>Od N (aU N) a1 pa pb pc p1,fun a1 pa pb pc p1=>afs N (aU N) a1 pa pb pc p1,fun a1 pa pb pc p1=>Oe N (aU N) a1 pa pb pc p1,fun a1 pa pb pc p1=>Ig N (aU N) a1 pa pb pc p1,fun a1 pa pb pc p1=>WS N (aU N) a1 pa pb pc p1,fun a1 pa pb pc p1=>WT N (aU N) a1 pa pb pc p1,fun a1 pa pb pc p1=>Oi N (aU N) a1 pa pb pc p1,fun a1 pa pb pc p1=>Oj N (aU N) a1 pa pb pc p1⟩
def zV (N:Nat) (pa:LT) (pb:Int) (pc:Bool) (p1:aO):Option T1:=(aU N).zV pa pb pc p1
def DL (N:Nat) (pa:LT) (pb:Int) (pc:Bool) (p1:aO):Option T1:=(aU N).DL pa pb pc p1
def sQ (N:Nat) (pa:LT) (pb:Int) (pc:Bool) (p1:aO):Option T1:=(aU N).sQ pa pb pc p1
def NU (N:Nat) (pa:LT) (pb:Int) (pc:Bool) (p1:aO):Option T1:=(aU N).NU pa pb pc p1
def zW (N:Nat) (pa:LT) (pb:Int) (pc:Bool) (p1:aO):Option T1:=(aU N).zW pa pb pc p1
def Cj (N:Nat) (pa:LT) (pb:Int) (pc:Bool) (p1:aO):Option T1:=(aU N).Cj pa pb pc p1
def Ck (N:Nat) (a1:bJ) (pa:LT) (pb:Int) (pc:Bool) (p1:aO):Option T1:=(aU N).Ck a1 pa pb pc p1
def sS (N:Nat) (a1:bJ) (pa:LT) (pb:Int) (pc:Bool) (p1:aO):Option T1:=(aU N).sS a1 pa pb pc p1
def zX (N:Nat) (a1:bJ) (pa:LT) (pb:Int) (pc:Bool) (p1:aO):Option T1:=(aU N).zX a1 pa pb pc p1
def zY (N:Nat) (a1:bJ) (pa:LT) (pb:Int) (pc:Bool) (p1:aO):Option T1:=(aU N).zY a1 pa pb pc p1
def yP (N:Nat) (a1:bJ) (pa:LT) (pb:Int) (pc:Bool) (p1:aO):Option T1:=(aU N).yP a1 pa pb pc p1
def yQ (N:Nat) (a1:bJ) (pa:LT) (pb:Int) (pc:Bool) (p1:aO):Option T1:=(aU N).yQ a1 pa pb pc p1
def Cm (N:Nat) (a1:bJ) (pa:LT) (pb:Int) (pc:Bool) (p1:aO):Option T1:=(aU N).Cm a1 pa pb pc p1
def NV (N:Nat) (a1:bJ) (pa:LT) (pb:Int) (pc:Bool) (p1:aO):Option (LS×Int×Bool×aO):=(aU N).NV a1 pa pb pc p1
def Bb (N:Nat) (a1:Int) (pa:LT) (pb:Int) (pc:Bool) (p1:aO):Option (LS×Int×Bool×aO):=(aU N).Bb a1 pa pb pc p1
def zZ (N:Nat) (a1:bJ) (pa:LT) (pb:Int) (pc:Bool) (p1:aO):Option T1:=(aU N).zZ a1 pa pb pc p1
def Aa (N:Nat) (a1:bJ) (pa:LT) (pb:Int) (pc:Bool) (p1:aO):Option T1:=(aU N).Aa a1 pa pb pc p1
def Cn (N:Nat) (a1:bJ) (pa:LT) (pb:Int) (pc:Bool) (p1:aO):Option T1:=(aU N).Cn a1 pa pb pc p1
def vD (N:Nat) (a1:bJ) (pa:LT) (pb:Int) (pc:Bool) (p1:aO):Option T1:=(aU N).vD a1 pa pb pc p1
def ug (N:Nat) (a1:bJ) (pa:LT) (pb:Int) (pc:Bool) (p1:aO):Option T1:=(aU N).ug a1 pa pb pc p1
def WU (N:Nat) (a1:aK) (pa:LT) (pb:Int) (pc:Bool) (p1:aO):Option T1:=
  (bif a1.jk then (dY pa pb pc p1).bind fun gq=>(NR gq).bind fun bZ=>some (!bZ) else (some false)).bind fun fP=>bif fP then (Si pa pb pc p1).bind fun bM=>some (bM.1,pb,bM.2,p1) else (bif (a1.Level==1) then (ug N (⟨a1.aY,a1.bg⟩:bJ) pa pb pc p1).bind fun iL=>some (iL.1,iL.2.1,iL.2.2.1,iL.2.2.2) else (bif (a1.Level==2) then (vD N (⟨a1.aY,a1.bg⟩:bJ) pa pb pc p1).bind fun kL=>some (kL.1,kL.2.1,kL.2.2.1,kL.2.2.2) else (bif (a1.Level==3) then (Cn N (⟨a1.aY,a1.bg⟩:bJ) pa pb pc p1).bind fun AZ=>some (AZ.1,AZ.2.1,AZ.2.2.1,AZ.2.2.2) else (bif (a1.Level==4) then (Aa N (⟨a1.aY,a1.bg⟩:bJ) pa pb pc p1).bind fun r64=>some (r64.1,r64.2.1,r64.2.2.1,r64.2.2.2) else (bif (a1.Level==5) then (zZ N (⟨a1.aY,a1.bg⟩:bJ) pa pb pc p1).bind fun su=>some (su.1,su.2.1,su.2.2.1,su.2.2.2) else (bif (a1.Level==6) then (Cm N (⟨a1.aY,a1.bg⟩:bJ) pa pb pc p1).bind fun tX=>some (tX.1,tX.2.1,tX.2.2.1,tX.2.2.2) else (bif (a1.Level==7) then (yQ N (⟨a1.aY,a1.bg⟩:bJ) pa pb pc p1).bind fun kM=>some (kM.1,kM.2.1,kM.2.2.1,kM.2.2.2) else (bif (a1.Level==8) then (yP N (⟨a1.aY,a1.bg⟩:bJ) pa pb pc p1).bind fun pO=>some (pO.1,pO.2.1,pO.2.2.1,pO.2.2.2) else (bif (a1.Level==9) then (zY N (⟨a1.aY,a1.bg⟩:bJ) pa pb pc p1).bind fun ny=>some (ny.1,ny.2.1,ny.2.2.1,ny.2.2.2) else (bif (a1.Level==10) then (zX N (⟨a1.aY,a1.bg⟩:bJ) pa pb pc p1).bind fun nN=>some (nN.1,nN.2.1,nN.2.2.1,nN.2.2.2) else (bif (a1.Level==11) then (sS N (⟨a1.aY,a1.bg⟩:bJ) pa pb pc p1).bind fun nC=>some (nC.1,nC.2.1,nC.2.2.1,nC.2.2.2) else (bif (a1.Level==12) then (Ck N (⟨a1.aY,a1.bg⟩:bJ) pa pb pc p1).bind fun tV=>some (tV.1,tV.2.1,tV.2.2.1,tV.2.2.2) else (bif (a1.Level==13) then (Cj N pa pb pc p1).bind fun vF=>some (vF.1,vF.2.1,vF.2.2.1,vF.2.2.2) else (bif (a1.Level==14) then (bif a1.uV then (dY pa pb pc p1).bind fun Ci=>(AX Ci).bind fun og=>some og else (some false)).bind fun jw=>bif jw then (zW N pa pb pc p1).bind fun nO=>some (nO.1,nO.2.1,nO.2.2.1,nO.2.2.2) else ((sQ N pa pb pc p1).bind fun lZ=>some (lZ.1,lZ.2.1,lZ.2.2.1,lZ.2.2.2)) else ((DL N pa pb pc p1).bind fun rZ=>some (rZ.1,rZ.2.1,rZ.2.2.1,rZ.2.2.2))))))))))))))))
structure WV where
  Bc:av->Option Int
def KJ (N:Nat) (R:WV):Nat->(av×Int×Int)->Option Int
  | 0,_=>none
  | n1+1,(a0,lu,y38)=>bif (decide<|y38 < (a0.kids.length:Int)) then (ix a0.kids y38).bind fun e54=>(R.Bc e54).bind fun pQ=>(KJ N R n1) (a0,(IntKind.wrap .i64<|lu+pQ),(IntKind.wrap .i64<|y38+1)) else (some lu)
def afv (N:Nat) (R:WV) (a0:av):Option Int:=
  KJ N R N (a0,1,0)
def Ol:Nat->WV
  | 0=>⟨fun _=>none⟩
  | N+1=>⟨fun a0=>afv N (Ol N) a0⟩
def Bc (N:Nat) (a0:av):Option Int:=(Ol N).Bc a0
def WW (N:Nat) (a0:av):Option yD:=
  (Bc N a0).bind fun r6=>bif (decide<|r6 > 400) then some (⟨1,0⟩:yD) else ((wT N a0).bind fun r8=>bif (decide<|r8 > 40) then some (⟨4,0⟩:yD) else (some (⟨0,0⟩:yD)))
structure WX where
  Co:av->LN->Option LN
def KL (N:Nat) (R:WX):Nat->(av×Int×LN×(List Int))->Option LN
  | 0,_=>none
  | n1+1,(a0,yR,sF,nM)=>bif (decide<|yR < (a0.kids.length:Int)) then (ix a0.kids yR).bind fun e84=>(R.Co e84 sF).bind fun nZ=>(app 8 nM [(IntKind.wrap .i64<|(nZ.length:Int) - 1)]).bind fun x88=>(KL N R n1) (a0,(IntKind.wrap .i64<|yR+1),nZ,x88) else ((app 72 sF [(⟨a0.kind,a0.op,a0.text,a0.other,nM⟩:aC)]).bind fun x90=>some x90)
def WY (N:Nat) (R:WX) (a0:av) (p0:LN):Option LN:=
  KL N R N (a0,0,p0,[])
def Ij:Nat->WX
  | 0=>⟨fun _ _=>none⟩
  | N+1=>⟨fun a0 p0=>WY N (Ij N) a0 p0⟩
def Co (N:Nat) (a0:av) (p0:LN):Option LN:=(Ij N).Co a0 p0
def Sn (N:Nat) (a0:av):Option LN:=
  (Co N a0 []).bind fun r2=>some r2
def WZ (N:Nat) (a0:LT) (a1:aK):Option (LN×Int×yD):=
  (Ki a1).bind fun r4=>bif (!r4) then some ([],0,(⟨3,0⟩:yD)) else ((WI N a0).bind fun r8=>bif (!((r8.Kind==0)&&((r8.At==0)&&true))) then some ([],0,r8) else ((WU N a1 a0 0 false []).bind fun gq=>bif gq.2.2.1 then (WH a0 gq.2.1).bind fun fG=>some ([],0,(⟨3,fG⟩:yD)) else ((WW N gq.1.tree).bind fun cZ=>bif (!((cZ.Kind==0)&&((cZ.At==0)&&true))) then some ([],0,cZ) else ((Sn N gq.1.tree).bind fun bW=>some (bW,gq.2.1,(⟨0,0⟩:yD))))))
def abh (N:Nat) (a0:LT) (a1:aK):Option (LN×Bool):=
  (WZ N a0 a1).bind fun r2=>(bif ((r2.2.2.Kind==0)&&((r2.2.2.At==0)&&true)) then some (r2.2.1==(a0.length:Int)) else (some false)).bind fun y3=>some (r2.1,y3)
def KM (N:Nat):Nat->((List Int)×(List Int)×Int)->Option Bool
  | 0,_=>none
  | n1+1,(a0,a1,eF)=>bif (decide<|eF < (a0.length:Int)) then (ix a0 eF).bind fun e51=>(ix a1 eF).bind fun e52=>bif (e51 !=e52) then some false else ((KM N n1) (a0,a1,(IntKind.wrap .i64<|eF+1))) else (some true)
def Xa (N:Nat) (a0:List Int) (a1:List Int):Option Bool:=
  bif ((a0.length:Int) !=(a1.length:Int)) then some false else (KM N N (a0,a1,0))
def abj (N:Nat) (a0:aC) (a1:aC):Option Bool:=
  (bif (a0.Kind==a1.Kind) then bif (a0.Op==a1.Op) then bif (a0.Text==a1.Text) then bif (a0.Other==a1.Other) then (Xa N a0.Kids a1.Kids).bind fun r3=>some r3 else (some false) else (some false) else (some false) else (some false)).bind fun y2=>some y2
def KN (N:Nat):Nat->(LN×LN×Int)->Option Bool
  | 0,_=>none
  | n1+1,(a1,a0,wH)=>bif (decide<|wH < (a0.length:Int)) then (ix a0 wH).bind fun e72=>(ix a1 wH).bind fun e74=>(abj N e72 e74).bind fun nN=>bif (!nN) then some false else ((KN N n1) (a1,a0,(IntKind.wrap .i64<|wH+1))) else (some true)
def abk (N:Nat) (a0:LN) (a1:LN):Option Bool:=
  bif ((a0.length:Int) !=(a1.length:Int)) then some false else (KN N N (a1,a0,0))
def Xb (N:Nat) (a0:LN) (a1:LN):Option Bool:=
  (abk N a0 a1).bind fun r2=>some r2
def Sq (N:Nat) (a0:LT) (a1:LN) (a2:aK):Option Bool:=
  ((Nv N a1).bind fun r9=>bif (!r9) then some true else (bif (decide<|(a0.length:Int) > 400) then some true else ((WB N a0).bind fun bE=>some bE))).bind fun y8=>bif y8 then some false else ((abh N a0 a2).bind fun bZ=>(bif bZ.2 then (Xb N bZ.1 a1).bind fun fG=>some fG else (some false)).bind fun gK=>some gK)
def FB (N:Nat):Nat->((List Int)×(List Int)×Int)->Option Bool
  | 0,_=>none
  | n1+1,(a0,a1,eF)=>bif (decide<|eF < (a0.length:Int)) then (ix a0 eF).bind fun e51=>(ix a1 eF).bind fun e52=>bif (e51 !=e52) then some false else ((FB N n1) (a0,a1,(IntKind.wrap .i64<|eF+1))) else (some true)
def KO (N:Nat) (a0:List Int) (a1:List Int):Option Bool:=
  bif ((a0.length:Int) !=(a1.length:Int)) then some false else (FB N N (a0,a1,0))
def FC (N:Nat):Nat->(LN×LN×Int)->Option Bool
  | 0,_=>none
  | n1+1,(a0,a1,wW)=>bif (decide<|wW < (a0.length:Int)) then ((ix a0 wW).bind fun e270=>(ix a1 wW).bind fun e271=>bif (e270.Kind !=e271.Kind) then some true else ((ix a0 wW).bind fun e272=>(ix a1 wW).bind fun e273=>bif (e272.Op !=e273.Op) then some true else ((ix a0 wW).bind fun e274=>(ix a1 wW).bind fun e275=>bif (!(e274.Text==e275.Text)) then some true else ((ix a0 wW).bind fun alL=>(ix a1 wW).bind fun alM=>bif (!(alL.Other==alM.Other)) then some true else ((ix a0 wW).bind fun e278=>(ix a1 wW).bind fun e279=>(KO N e278.Kids e279.Kids).bind fun alN=>some<|!alN))))).bind fun afy=>bif afy then some false else ((FC N n1) (a0,a1,(IntKind.wrap .i64<|wW+1))) else (some true)
def KP (N:Nat) (a0:LN) (a1:LN):Option Bool:=
  bif ((a0.length:Int) !=(a1.length:Int)) then some false else (FC N N (a0,a1,0))
def PU (N:Nat) (a0:LU):Option Bool:=
  (aad a0).bind fun r4=>bif r4 then some true else ((Jh N a0).bind fun r6=>(aav N a0 3).bind fun r9=>(Jh N r9).bind fun bE=>(TV N r6.1 r6.2).bind fun bZ=>((LG N r6.1).bind fun bW=>bif (!bW) then some true else ((WA r6.2).bind fun lg=>some<|!lg)).bind fun y20=>bif y20 then some ((bZ.length:Int)==0) else ((bif (decide<|(bZ.length:Int) > 300) then some true else ((Sq N bZ r6.1 r6.2).bind fun tZ=>bif tZ then (KP N r6.1 bE.1).bind fun jT=>bif jT then some true else ((Sq N bZ bE.1 r6.2).bind fun xL=>some<|!xL) else (some false))).bind fun mP=>some mP))
def Sr:(Int×Bool)->Option Int
 | (a0,y8)=>bif y8 then some 10 else (bif (a0==60) then some 12 else (some 0))
def Xc:(Int×Bool)->Option Int
 | (a0,y7)=>bif y7 then some 9 else (bif (a0==57) then Sr (a0,(a0==57)) else (bif (a0==58) then Sr (a0,(a0==58)) else (Sr (a0,(a0==59)))))
def Ik:(Int×Bool)->Option Int
 | (a0,y6)=>bif y6 then some 7 else (bif (a0==99) then some 8 else (bif (a0==55) then Xc (a0,(a0==55)) else (Xc (a0,(a0==56)))))
def Xd:(Int×Bool)->Option Int
 | (a0,y5)=>bif y5 then some 6 else (bif (a0==63) then Ik (a0,(a0==63)) else (bif (a0==48) then Ik (a0,(a0==48)) else (bif (a0==47) then Ik (a0,(a0==47)) else (bif (a0==50) then Ik (a0,(a0==50)) else (bif (a0==62) then Ik (a0,(a0==62)) else (Ik (a0,(a0==49))))))))
def Om (a0:Int):Option Int:=
 bif (a0==44) then some 3 else (bif (a0==45) then some 4 else (bif (a0==67) then Xd (a0,(a0==67)) else (Xd (a0,(a0==46)))))
def KQ:Bool->Option Int
 | y8=>bif y8 then some 15 else (some 0)
def afz:(aC×Bool)->Option Int
 | (a0,y7)=>bif y7 then some 13 else (bif (a0.Kind==6) then some 14 else (bif (a0.Kind==1) then KQ (a0.Kind==1) else (bif (a0.Kind==2) then KQ (a0.Kind==2) else (bif (a0.Kind==3) then KQ (a0.Kind==3) else (bif (a0.Kind==4) then KQ (a0.Kind==4) else (bif (a0.Kind==5) then KQ (a0.Kind==5) else (bif (a0.Kind==7) then KQ (a0.Kind==7) else (KQ<|a0.Kind==8))))))))
def alO (a0:aC):Option Int:=
 bif (a0.Kind==15) then some 1 else (bif (a0.Kind==14) then some 2 else (bif (a0.Kind==13) then some 5 else (bif (a0.Kind==12) then (Om a0.Op).bind fun r6=>some r6 else (bif (a0.Kind==11) then some 11 else (bif (a0.Kind==9) then afz (a0,(a0.Kind==9)) else (afz (a0,(a0.Kind==10))))))))
def DR:Bool->Option Bool
 | y2=>bif y2 then some true else (some false)
def yT (a0:Int):Option Bool:=
 bif (a0==3) then DR (a0==3) else (bif (a0==4) then DR (a0==4) else (bif (a0==5) then DR (a0==5) else (bif (a0==6) then DR (a0==6) else (bif (a0==8) then DR (a0==8) else (bif (a0==33) then DR (a0==33) else (bif (a0==35) then DR (a0==35) else (bif (a0==51) then DR (a0==51) else (DR<|a0==52))))))))
def Sv (N:Nat) (jl:((List aG)×Int×Int)->Option Bool):((List aG)×Int×Int×Int)->Option Bool
 | (a0,KR,DT,afA)=>(ix a0 DT).bind fun Il=>((ix a0 DT).bind fun auT=>(uf N auT).bind fun auU=>bif (!auU) then some true else (bif (Il.Kind==7) then bif (afA !=32) then some true else (bif (Il.Kind==2) then bif (afA !=1) then some (decide<|(IntKind.wrap .i64<|DT+1) < (a0.length:Int)) else (some false) else (some false)) else (bif (Il.Kind==2) then bif (afA !=1) then some (decide<|(IntKind.wrap .i64<|DT+1) < (a0.length:Int)) else (some false) else (some false)))).bind fun auV=>bif auV then some false else ((bif (Il.Kind==5) then (yT KR).bind fun afB=>bif afB then some true else (bif (Il.Kind==58) then (yT KR).bind fun afC=>some (!afC) else (bif (Il.Kind==41) then (yT KR).bind fun afD=>some (!afD) else (some false))) else (bif (Il.Kind==58) then (yT KR).bind fun afE=>some (!afE) else (bif (Il.Kind==41) then (yT KR).bind fun afF=>some (!afF) else (some false)))).bind fun auW=>bif auW then some false else (jl (a0,Il.Kind,(IntKind.wrap .i64<|DT+1))))
def FD (N:Nat):Nat->((List aG)×Int×Int)->Option Bool
 | 0,_=>none
 | n1+1,(a0,KR,DT)=>bif (decide<|DT < (a0.length:Int)) then bif (decide<|(IntKind.wrap .i64<|DT+1) < (a0.length:Int)) then (ix a0<|IntKind.wrap .i64<|DT+1).bind fun auX=>Sv N (FD N n1) (a0,KR,DT,auX.Kind) else (Sv N (FD N n1) (a0,KR,DT,0)) else (some true)
def abl (N:Nat) (a0:List aG):Option Bool:=
 bif (decide<|(a0.length:Int) > 3000) then some false else (FD N N (a0,0,0))
def yB (x:aC):Prop:=x.Text.length<=1048576/\x.Other.length<=1048576/\x.Kids.length<=1048576
end Go.Proofs.Tryz
