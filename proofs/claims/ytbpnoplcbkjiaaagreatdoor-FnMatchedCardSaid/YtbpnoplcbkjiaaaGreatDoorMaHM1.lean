/-
  Models of the functions that this seat reaches.
-/
import Derived.Test.YtbpnoplcbkjiaaaGreatDoorHTab
import Derived.Test.YtbpnoplcbkjiaaaGreatDoorHCore5
namespace Go.Proofs.Tryz
open Go.Av
set_option maxRecDepth 100000
set_option maxHeartbeats 8000000
set_option linter.unusedSimpArgs false
set_option linter.unusedVariables false
def pJ:List (List UInt8):=[[97,116,97,110,50],[99,108,111,115,101],[99,111,115],[101,120,112],[103,115,117,98],[105,110,100,101,120],[105,110,116],[108,101,110,103,116,104],[108,111,103],[109,97,116,99,104],[114,97,110,100],[115,105,110],[115,112,108,105,116],[115,112,114,105,110,116,102],[115,113,114,116],[115,114,97,110,100],[115,117,98],[115,117,98,115,116,114],[115,121,115,116,101,109],[116,111,108,111,119,101,114],[116,111,117,112,112,101,114]]
def mK:List (List UInt8):=[[66,69,71,73,78],[69,78,68],[102,117,110,99,116,105,111,110],[105,102],[101,108,115,101],[119,104,105,108,101],[102,111,114],[100,111],[98,114,101,97,107],[99,111,110,116,105,110,117,101],[110,101,120,116],[101,120,105,116],[114,101,116,117,114,110],[100,101,108,101,116,101],[105,110],[112,114,105,110,116],[112,114,105,110,116,102]]
def sQ:List (List UInt8):=[[123],[125],[40],[41],[91],[93],[44],[59],[43,61],[45,61],[42,61],[47,61],[37,61],[94,61],[124,124],[38,38],[33,126],[61,61],[60,61],[62,61],[33,61],[43,43],[45,45],[62,62],[61],[43],[45],[42],[47],[37],[94],[33],[62],[60],[124],[63],[58],[126],[36]]
def GG:Nat→Option (List V)
  | 0=>some (pJ.map V.s)
  | 1=>some (mK.map V.s)
  | 2=>some (sQ.map V.s)
  | _=>none
def GS (l:List Nat) (g:Nat):Option (List V):=bif l.contains g then GG g else none
theorem AC.gs {f:FuncId} {vs:List V} {H:Hp} {r:V} {H1:Hp} {l l1:List Nat} (h:AC Tryz.prog (GS l) f vs H r H1) (hs:(l.all fun g=>l1.contains g)=true):AC Tryz.prog (GS l1) f vs H r H1:=by
  refine Go.Av.AC.mono h fun g cs hg=>?_
  unfold GS at hg ⊢
  cases hc:l.contains g with
  | false=>rw [hc] at hg;cases hg
  | true=>
    rw [hc] at hg
    have:=List.all_eq_true.1 hs g (List.contains_iff_mem.1 hc)
    rw [this]
    exact hg
theorem mix:Tryz.prog.follows .mixedOrders=true:=by kernel_rfl
theorem wR {G:Nat→Option (List V)} {ops:Array Oper} {draw:Bool} {T0:List V} {H0:Hp} {Q:St→Prop} (n q:Nat) {i:Nat} {T:List V} {H:Hp} {Es:List (Bool×Eff)} (k:W Tryz.prog G ops draw T0 H0 (i+n) (iX D G ops n q i T H).T (iX D G ops n q i T H).H (Es++(iX D G ops n q i T H).Es) Q) (h:(rJ D G ops n q i T H).isSome=true:=by kernel_rfl):W Tryz.prog G ops draw T0 H0 i T H Es Q:=W.run Dk n q h k
theorem cU {G:Nat→Option (List V)} {L:Option Nat} (n q:Nat) (T':List V) (H':Hp) {id:Nat} {l:List Oper} {draw:Bool} {c:Code} {T:List V} {H:Hp} {Q:Exit→St→Prop} (k:CO L Tryz.prog G c ⟨T',H'⟩ Q) (h:ET D G l.toArray draw n q T H T' H'=(true,T',some H'):=by kernel_rfl):CO L Tryz.prog G (.seq (.region id l.toArray draw) c) ⟨T,H⟩ Q:=cu Dk mix n q T' H' h k
theorem cE {G:Nat→Option (List V)} {L:Option Nat} (n q:Nat) (T':List V) (H':Hp) {id:Nat} {l:List Oper} {draw:Bool} {T:List V} {H:Hp} {Q:Exit→St→Prop} (hQ:∀ st,Weak st ⟨T',H'⟩→Q .normal st) (h:ET D G l.toArray draw n q T H T' H'=(true,T',some H'):=by kernel_rfl):CO L Tryz.prog G (.region id l.toArray draw) ⟨T,H⟩ Q:=ce Dk mix n q T' H' h hQ
theorem cV {G:Nat→Option (List V)} {L:Option Nat} (q:Nat) {id:Nat} {l:List Oper} {draw:Bool} {c:Code} {T:List V} {H:Hp} {Q:Exit→St→Prop} (k:CO L Tryz.prog G c ⟨(iX D G l.toArray l.toArray.size q 0 T H).T,(iX D G l.toArray l.toArray.size q 0 T H).H⟩ Q) (h:EU D G l.toArray draw q T H=true:=by kernel_rfl):CO L Tryz.prog G (.seq (.region id l.toArray draw) c) ⟨T,H⟩ Q:=cv Dk mix q k h
theorem cK {G:Nat→Option (List V)} {L:Option Nat} (q:Nat) {ι:Type} {J:ι→St} {R:ι→Prop} {id:Nat} {l:List Oper} {draw:Bool} {T:List V} {H:Hp} {Q:Exit→St→Prop} (hk:∀ i,R i→∀ st,Weak st (J i)→Q .normal st) (i:ι) (hi:R i) (m:Ren) (ks:List Nat) (h:EW m ks (EU D G l.toArray draw q T H) (iX D G l.toArray l.toArray.size q 0 T H).T (iX D G l.toArray l.toArray.size q 0 T H).H=(true,(J i).T,some (J i).H):=by kernel_rfl):CO L Tryz.prog G (.region id l.toArray draw) ⟨T,H⟩ Q:=ck Dk mix q hk i hi m ks h
theorem cC {G:Nat→Option (List V)} {L:Option Nat} (n q:Nat) {id:Nat} {l:List Oper} {draw:Bool} {c:Code} {T:List V} {H:Hp} {Q:Exit→St→Prop} {fid:FuncId} {vs:List V} {rc:V} (hA:AC Tryz.prog G fid vs [] rc []) (hcf:aG Tryz.prog fid) (k:CO L Tryz.prog G c ⟨(Bl D G l.toArray n q rc T H).T,(Bl D G l.toArray n q rc T H).H⟩ Q) (h:NP D G l.toArray draw n q rc T H=(true,some (fid,vs,[]),rc):=by kernel_rfl):CO L Tryz.prog G (.seq (.region id l.toArray draw) c) ⟨T,H⟩ Q:=cc Dk mix n q hA hcf k h
theorem wD {G:Nat→Option (List V)} {ops:Array Oper} {draw:Bool} {T0:List V} {H0:Hp} {i:Nat} {T:List V} {H:Hp} {Es:List (Bool×Eff)} {Q:St→Prop} {fid:FuncId} {vs:List V} {Hc aZ:Hp} {rc:V} (h:AC Tryz.prog G fid vs Hc rc aZ) (hcf:aG Tryz.prog fid) (q m:Ren) {Z:List (Nat×List (List V))} (N:List Nat) (hZ:aK H Z) (k:W Tryz.prog G ops draw T0 H0 (i+1) (bQ T (fO ops i) (rc.rn m)) (fu m aZ++aR (Z.map (·.1)++q.map (·.1)) H) (Es++[(true,{v:=rc.rn m,C:=Z.map (·.1)++q.map (·.1),new:=fu m aZ,N:=N})]) Q) (hn:(tF q m (Z.map (·.1)) N&&tu aZ)=true:=by kernel_rfl) (hc:wh G ops q Z i T H=some (fid,vs,Hc):=by kernel_rfl):W Tryz.prog G ops draw T0 H0 i T H Es Q:=W.call h hcf q m N hZ hn hc k
theorem wC {G:Nat→Option (List V)} {ops:Array Oper} {draw:Bool} {T0:List V} {H0:Hp} {i:Nat} {T:List V} {H:Hp} {Es:List (Bool×Eff)} {Q:St→Prop} {fid:FuncId} {vs:List V} {Hc aZ:Hp} {rc:V} (h:AC Tryz.prog G fid vs Hc rc aZ) (hcf:aG Tryz.prog fid) (q m:Ren) (N:List Nat) (k:W Tryz.prog G ops draw T0 H0 (i+1) (bQ T (fO ops i) (rc.rn m)) (fu m aZ++aR (([]:List (Nat×List (List V))).map (·.1)++q.map (·.1)) H) (Es++[(true,{v:=rc.rn m,C:=([]:List (Nat×List (List V))).map (·.1)++q.map (·.1),new:=fu m aZ,N:=N})]) Q) (hn:(tF q m (([]:List (Nat×List (List V))).map (·.1)) N&&tu aZ)=true:=by kernel_rfl) (hc:wh G ops q [] i T H=some (fid,vs,Hc):=by kernel_rfl):W Tryz.prog G ops draw T0 H0 i T H Es Q:=W.call h hcf q m N (show aK _ [] from trivial) hn hc k
theorem w0 {G:Nat→Option (List V)} {ops:Array Oper} {draw:Bool} {T0:List V} {H0:Hp} {i:Nat} {T:List V} {H:Hp} {Es:List (Bool×Eff)} {Q:St→Prop} {fid:FuncId} {vs:List V} {rc:V} (h:AC Tryz.prog G fid vs [] rc []) (hcf:aG Tryz.prog fid) (k:W Tryz.prog G ops draw T0 H0 (i+1) (bQ T (fO ops i) rc) H (Es++[(true,{v:=rc})]) Q) (hc:wh G ops [] [] i T H=some (fid,vs,[]):=by kernel_rfl) (hr:rc.rn []=rc:=by rfl):W Tryz.prog G ops draw T0 H0 i T H Es Q:=W.Ye h hcf hr hc k
theorem wN {G:Nat→Option (List V)} {ops:Array Oper} {draw:Bool} {T0:List V} {H0:Hp} {i:Nat} {T:List V} {H:Hp} {Es:List (Bool×Eff)} {Q:St→Prop} {α:Type} (enc:α→List V) (l:List α) (R:List Nat) (k:W Tryz.prog G ops draw T0 H0 (i+1) (bQ T (fO ops i) (V.i l.length)) H (Es++[(true,{v:=V.i l.length,R:=R})]) Q) (h:RL G ops i T H=some (l.map enc,R):=by kernel_rfl) (hs:((jc ops i T).bind (dS D H (ev G T))).isSome=true:=by kernel_rfl):W Tryz.prog G ops draw T0 H0 i T H Es Q:=W.len Dk enc l R h hs k
theorem wX {G:Nat→Option (List V)} {ops:Array Oper} {draw:Bool} {T0:List V} {H0:Hp} {i:Nat} {T:List V} {H:Hp} {Es:List (Bool×Eff)} {Q:St→Prop} {α:Type} (enc:α→List V) {l:List α} {n:Int} {x:α} (hx:ix l n=some x) (sz:Nat) (k:W Tryz.prog G ops draw T0 H0 (i+1) (bQ T (fO ops i) (.el (enc x))) H (Es++[(true,{v:=.el (enc x)})]) Q) (h:Bf D G ops i T=some (l.map enc,n,sz):=by kernel_rfl) (hs:(enc x).length=sz:=by kernel_rfl):W Tryz.prog G ops draw T0 H0 i T H Es Q:=W.Bf Dk enc hx sz h hs k
structure ak where
  Kind:Int
  Op:Int
  Text:List UInt8
  Other:List UInt8
  Kids:List Int
  deriving DecidableEq,Inhabited
def ah (b:Bool) (x:ak):List V:=[V.i x.Kind,V.i x.Op,V.s x.Text,V.s x.Other,.sl false b (x.Kids.map aA)]
theorem bJ (b:Bool) (x:ak):V.jg (ah b x)=ah false x:=by
  simp only [ah,V.jg,V.share,V.i,V.s,V.b,NA (enc:=aA) (enc':=aA) (fun _=>rfl)]
structure fA where
  Name:List UInt8
  Part:List ak
  deriving DecidableEq,Inhabited
def bF (b:Bool) (x:fA):List V:=[V.s x.Name,.sl false b (x.Part.map (ah b))]
theorem aiZ (b:Bool) (x:fA):V.jg (bF b x)=bF false x:=by
  simp only [bF,V.jg,V.share,V.i,V.s,V.b,NA (enc:=(ah b)) (enc':=(ah false)) (bJ _)]
structure jJ where
  Kind:Int
  Text:List UInt8
  At:Int
  deriving DecidableEq,Inhabited
structure aj where
  kind:Int
  op:Int
  text:List UInt8
  other:List UInt8
  kids:List aj
instance:Inhabited aj:=⟨⟨0,0,[],[],[]⟩⟩
theorem aj.lt (x:aj) (y:aj) (h:y∈x.kids):SizeOf.sizeOf y < SizeOf.sizeOf x:=by
  have:=List.sizeOf_lt_of_mem h
  cases x
  simp only [aj.mk.sizeOf_spec] at*
  omega
def aC (x:aj):List V:=[V.i x.kind,V.i x.op,V.s x.text,V.s x.other,.sl false false (x.kids.attach.map fun y=>aC y.1)]
termination_by SizeOf.sizeOf x
decreasing_by exact aj.lt x y.1 y.2
theorem oC (x:aj):aC x=[V.i x.kind,V.i x.op,V.s x.text,V.s x.other,.sl false false (x.kids.map aC)]:=by
  rw [aC]
  simp only [List.attach_map_val (f:=aC),List.map_attach_eq_pmap,List.pmap_eq_map]
theorem Fa (x:aj):V.jg (aC x)=aC x:=by
  have hk:x.kids.map (V.jg∘aC)=x.kids.map aC:=List.map_congr_left fun y hy=>Fa y
  rw [oC]
  simp only [V.jg,V.share,V.Ij,V.i,V.s,V.b,List.map_map]
  rw [hk]
termination_by SizeOf.sizeOf x
decreasing_by exact aj.lt x y hy
structure gI where
  op:Bool
  text:Bool
  other:Bool
  least:Int
  most:Int
  deriving DecidableEq,Inhabited
structure aM where
  name:List UInt8
  tree:aj
  deriving Inhabited
def dZ (x:aM):List V:=[V.s x.name,V.i x.tree.kind,V.i x.tree.op,V.s x.tree.text,V.s x.tree.other,.sl false false (x.tree.kids.map aC)]
theorem Zo (x:aM):V.jg (dZ x)=dZ x:=by
  simp only [dZ,V.jg,V.share,V.i,V.s,V.b,NA (enc:=aC) (enc':=aC) (Fa)]
abbrev LU:=List UInt8
abbrev aV:=List (List UInt8)
abbrev LN:=List ak
abbrev LS:=List aj
abbrev LH:=List fA
abbrev wr (x:Int):Int:=IntKind.wrap .i64 x
abbrev sL {α:Type} (f:α→List V) (x:List α):V:=.sl false false (x.map f)
abbrev vX {α:Type} (t k:Nat) (f:α→List V) (x:List α):Ob:=.vec false t k (x.map f)
abbrev vN (x:aV):Ob:=.vec false 9 1 (x.map aO)
theorem lO {H:Hp}:aK H []:=trivial
def NQ (a0:LU):Option Bool:=
  some (decide ((a0.length:Int) > 1048576))
def Bo (N:Nat):Nat→(LU×Int×Int)→Option (LU×Int×Int)
  | 0,_=>none
  | n1+1,(a0,y29,oD)=>(bif (decide (oD < (a0.length:Int))) then some (decide (oD < 4000)) else (some false)).bind fun nJ=>bif nJ then (ix a0 oD).bind fun e44=>(Bo N n1) (a0,(bits .and .i64 (IntKind.wrap .i64 ((IntKind.wrap .i64 ((IntKind.wrap .i64 (y29*131))+(IntKind.wrap .i64 ((e44).toNat:Int))))+7)) 1073741823),(IntKind.wrap .i64 (oD+1))) else (some (a0,0,y29))
def IL (N:Nat) (a0:LU):Option (LU×Int×Int):=
  Bo N N (a0,(IntKind.wrap .i64 (10101+(a0.length:Int))),0)
def Fb (pa:LU):(Int×Int×Int)→Option (Int×Int×Int)
  | (pc,y3,y4)=>some (y3,y4,(IntKind.wrap .i64 ((IntKind.wrap .i64 (pc*6364136223846793005))+1442695040888963407)))
def tT (pa:LU) (pb:Int) (pc:Int):Option (Int×Int×Int):=
  bif (decide (pb < (pa.length:Int))) then (ix pa pb).bind fun e6=>Fb pa (pc,(bits .and .i64 (IntKind.wrap .i64 ((bits .and .i64 (bits .xor .i64 (Int.fdiv (IntKind.wrap .i64 ((IntKind.wrap .i64 (pc*6364136223846793005))+1442695040888963407)) (2 ^ (min 33 64))) (Int.fdiv (IntKind.wrap .i64 ((IntKind.wrap .i64 (pc*6364136223846793005))+1442695040888963407)) (2 ^ (min 45 64)))) 255)+(IntKind.wrap .i64 ((e6).toNat:Int)))) 255),(IntKind.wrap .i64 (pb+1))) else (Fb pa (pc,(bits .and .i64 (bits .xor .i64 (Int.fdiv (IntKind.wrap .i64 ((IntKind.wrap .i64 (pc*6364136223846793005))+1442695040888963407)) (2 ^ (min 33 64))) (Int.fdiv (IntKind.wrap .i64 ((IntKind.wrap .i64 (pc*6364136223846793005))+1442695040888963407)) (2 ^ (min 45 64)))) 255),pb))
def jK (a1:Int) (pa:LU) (pb:Int) (pc:Int):Option (Int×Int×Int):=
  bif (decide (a1≤0)) then some (0,pb,pc) else (bif (decide (a1≤256)) then (tT pa pb pc).bind fun r7=>(yG r7.1 a1).bind fun x8=>some (x8,r7.2.1,r7.2.2) else ((tT pa pb pc).bind fun dP=>(tT pa dP.2.1 dP.2.2).bind fun bS=>(tT pa bS.2.1 bS.2.2).bind fun bV=>(tT pa bV.2.1 bV.2.2).bind fun r16=>(yG (IntKind.wrap .i64 ((IntKind.wrap .i64 ((IntKind.wrap .i64 ((IntKind.wrap .i64 (dP.1*16777216))+(IntKind.wrap .i64 (bS.1*65536))))+(IntKind.wrap .i64 (bV.1*256))))+r16.1)) a1).bind fun x18=>some (x18,r16.2.1,r16.2.2)))
def tV (a1:Int) (pa:LU) (pb:Int) (pc:Int):Option (Bool×Int×Int):=
  (jK a1 pa pb pc).bind fun r2=>some ((r2.1==0),r2.2.1,r2.2.2)
def pQ (a1:aV) (pa:LU) (pb:Int) (pc:Int):Option (LU×Int×Int):=
  (jK (a1.length:Int) pa pb pc).bind fun r3=>(ix a1 r3.1).bind fun e4=>some (e4,r3.2.1,r3.2.2)
def Bp (N:Nat) (fD:(LN×Int×Int×LN)→Option LN):Nat→(LN×Int×Int×LN×ak×Int×(List Int))→Option LN
  | 0,_=>none
  | n2+1,(a0,a1,kU,pR,ko,yL,IQ)=>(ix a0 kU).bind fun Sy=>bif (decide (yL < (Sy.Kids.length:Int))) then (ix a0 kU).bind fun Zp=>(ix Zp.Kids yL).bind fun Zq=>(app 8 IQ [(IntKind.wrap .i64 (Zq+a1))]).bind fun NR=>(Bp N fD n2) (a0,a1,kU,pR,ko,(IntKind.wrap .i64 (yL+1)),NR) else ((app 72 pR [(⟨ko.Kind,ko.Op,ko.Text,ko.Other,IQ⟩:ak)]).bind fun NS=>fD (a0,a1,(IntKind.wrap .i64 (kU+1)),NS))
def wB (N:Nat):Nat→(LN×Int×Int×LN)→Option LN
  | 0,_=>none
  | n1+1,(a0,a1,kU,pR)=>bif (decide (kU < (a0.length:Int))) then (ix a0 kU).bind fun ko=>Bp N (wB N n1) N (a0,a1,kU,pR,ko,0,[]) else (some pR)
def yM (N:Nat) (a0:LN) (a1:Int):Option LN:=
  wB N N (a0,a1,0,[])
def yN (N:Nat):Nat→((List LN)×ak×Int×LN×(List Int))→Option LN
  | 0,_=>none
  | n1+1,(a1,a0,yO,ow,pU)=>bif (decide (yO < (a1.length:Int))) then (ix a1 yO).bind fun Sz=>(yM N Sz (ow.length:Int)).bind fun Zt=>(app 72 ow Zt).bind fun Fe=>(app 8 pU [(IntKind.wrap .i64 ((Fe.length:Int) - 1))]).bind fun NT=>(yN N n1) (a1,a0,(IntKind.wrap .i64 (yO+1)),Fe,NT) else ((app 72 ow [(⟨a0.Kind,a0.Op,a0.Text,a0.Other,pU⟩:ak)]).bind fun Zu=>some Zu)
def iw (N:Nat) (a0:ak) (a1:List LN):Option LN:=
  yN N N (a1,a0,0,[],[])
def uR (a1:List Int) (pa:LU) (pb:Int) (pc:Int):Option (Int×Int×Int):=
  (jK (a1.length:Int) pa pb pc).bind fun r3=>(ix a1 r3.1).bind fun e4=>some (e4,r3.2.1,r3.2.2)
structure NU where
  mR:Int→LU→Int→Int→Option (LN×Int×Int)
def Bq (N:Nat) (R:NU) (a1:Int) (pa:LU) (pb:Int) (pc:Int):Option (LN×Int×Int):=
  (bif (decide (a1≤0)) then some (true,pb,pc) else ((tV 3 pa pb pc).bind fun bS=>some (bS.1,bS.2.1,bS.2.2))).bind fun (y9,jr,bH)=>bif y9 then (pQ [[97],[98],[120],[121],[78,82],[105]] pa jr bH).bind fun bV=>some ([(⟨1,0,bV.1,[],[]⟩:ak)],bV.2.1,bV.2.2) else ((jK 5 pa jr bH).bind fun bW=>bif (bW.1==0) then (R.mR (IntKind.wrap .i64 (a1 - 1)) pa bW.2.1 bW.2.2).bind fun bq=>(iw N (⟨11,61,[],[],[]⟩:ak) [bq.1]).bind fun gV=>some (gV,bq.2.1,bq.2.2) else (bif (bW.1==1) then (pQ [[48],[49]] pa bW.2.1 bW.2.2).bind fun dQ=>some ([(⟨2,0,dQ.1,[],[]⟩:ak)],dQ.2.1,dQ.2.2) else ((uR [55,47,57,45] pa bW.2.1 bW.2.2).bind fun pV=>(R.mR (IntKind.wrap .i64 (a1 - 1)) pa pV.2.1 pV.2.2).bind fun kr=>(R.mR (IntKind.wrap .i64 (a1 - 1)) pa kr.2.1 kr.2.2).bind fun pW=>(iw N (⟨12,pV.1,[],[],[]⟩:ak) [kr.1,pW.1]).bind fun tX=>some (tX,pW.2.1,pW.2.2))))
def Br:Nat→NU
  | 0=>⟨fun _ _ _ _=>none⟩
  | N+1=>⟨fun a1 pa pb pc=>Bq N (Br N) a1 pa pb pc⟩
def mR (N:Nat) (a1:Int) (pa:LU) (pb:Int) (pc:Int):Option (LN×Int×Int):=(Br N).mR a1 pa pb pc
def NV (pa:LU) (pb:Int) (pc:Int):Option (LU×Int×Int):=
  (pQ [[48],[49],[52,50],[51,46,53],[46,53],[55,46],[49,101,51],[50,69,45,52],[49,48,46,50,53,101,43,49]] pa pb pc).bind fun r2=>some (r2.1,r2.2.1,r2.2.2)
def NW (pa:LU) (pb:Int) (pc:Int):Option (LU×Int×Int):=
  (pQ [[34,34],[34,97,34],[34,120,32,121,34],[34,113,92,34,113,34],[34,92,110,34],[34,35,110,111,34],[34,47,34]] pa pb pc).bind fun r2=>some (r2.1,r2.2.1,r2.2.2)
def NY (pa:LU) (pb:Int) (pc:Int):Option (LU×Int×Int):=
  (pQ [[47,97,47],[47,94,120,43,36,47],[47,97,92,47,98,47],[47,61,47],[47,32,47],[47,91,48,45,57,93,47]] pa pb pc).bind fun r2=>some (r2.1,r2.2.1,r2.2.2)
def yP (pa:LU) (pb:Int) (pc:Int):Option (LU×Int×Int):=
  (pQ [[120],[121],[110],[105],[97,114,114],[78,82],[70,83],[116,111,116,97,108],[97,49],[95,116],[99,111,117,110,116]] pa pb pc).bind fun r2=>some (r2.1,r2.2.1,r2.2.2)
def IU (pa:LU):(Int×Int)→Option (LN×Int×Int)
  | (bH,iP)=>(yP pa bH iP).bind fun bV=>some ([(⟨1,0,bV.1,[],[]⟩:ak)],bV.2.1,bV.2.2)
def yQ (pa:LU) (pb:Int) (pc:Int):Option (LN×Int×Int):=
  (jK 7 pa pb pc).bind fun r16=>bif (r16.1==0) then (NV pa r16.2.1 r16.2.2).bind fun kV=>some ([(⟨2,0,kV.1,[],[]⟩:ak)],kV.2.1,kV.2.2) else (bif (r16.1==1) then (NW pa r16.2.1 r16.2.2).bind fun fU=>some ([(⟨3,0,fU.1,[],[]⟩:ak)],fU.2.1,fU.2.2) else (bif (r16.1==2) then (tV 2 pa r16.2.1 r16.2.2).bind fun eB=>bif eB.1 then (NY pa eB.2.1 eB.2.2).bind fun bW=>some ([(⟨4,0,bW.1,[],[]⟩:ak)],bW.2.1,bW.2.2) else (IU pa (eB.2.1,eB.2.2)) else (IU pa (r16.2.1,r16.2.2))))
def Fg (pa:LU) (pb:Int) (pc:Int):Option (Int×Int×Int):=
  (uR [60,57,58,59,55,56,56,99,99,99,63,48,47,50,62,62,49,67,46,45,44] pa pb pc).bind fun r2=>some (r2.1,r2.2.1,r2.2.2)
structure uS where
  tY:Int→Int→Int→LU→Int→Int→Option ((List LN)×Int×Int)
  oF:Int→LU→Int→Int→Option (LN×Int×Int)
  eD:Int→LU→Int→Int→Option (LN×Int×Int)
def Bt (N:Nat) (R:uS) (pa:LU):Nat→(Int×Int×Int×Int×(List LN))→Option ((List LN)×Int×Int)
  | 0,_=>none
  | n1+1,(a3,Bu,Fh,pX,IV)=>bif (decide (Bu > 0)) then (R.eD a3 pa Fh pX).bind fun aS=>(app 24 IV [aS.1]).bind fun NZ=>(Bt N R pa n1) (a3,(IntKind.wrap .i64 (Bu - 1)),aS.2.1,aS.2.2,NZ) else (some (IV,Fh,pX))
def IW (N:Nat) (R:uS) (a1:Int) (a2:Int) (a3:Int) (pa:LU) (pb:Int) (pc:Int):Option ((List LN)×Int×Int):=
  (jK (IntKind.wrap .i64 ((IntKind.wrap .i64 (a2 - a1))+1)) pa pb pc).bind fun kr=>Bt N R pa N (a3,(IntKind.wrap .i64 (a1+kr.1)),kr.2.1,kr.2.2,[])
def IX (N:Nat) (R:uS) (a1:Int) (pa:LU) (pb:Int) (pc:Int):Option (LN×Int×Int):=
  (jK 4 pa pb pc).bind fun bV=>bif (bV.1==0) then (yP pa bV.2.1 bV.2.2).bind fun kV=>(R.eD (IntKind.wrap .i64 (a1 - 1)) pa kV.2.1 kV.2.2).bind fun wE=>(iw N (⟨5,0,kV.1,[],[]⟩:ak) [wE.1]).bind fun fU=>some (fU,wE.2.1,wE.2.2) else (bif (bV.1==1) then (R.eD (IntKind.wrap .i64 (a1 - 2)) pa bV.2.1 bV.2.2).bind fun aJ=>(iw N (⟨6,0,[],[],[]⟩:ak) [aJ.1]).bind fun bW=>some (bW,aJ.2.1,aJ.2.2) else ((yP pa bV.2.1 bV.2.2).bind fun gB=>some ([(⟨1,0,gB.1,[],[]⟩:ak)],gB.2.1,gB.2.2)))
def Fp (N:Nat) (R:uS) (pa:LU):(Int×(Int×Int×Int)×Bool)→Option (LN×Int×Int)
  | (a1,aS,y96)=>bif y96 then (uR [56,55,61] pa aS.2.1 aS.2.2).bind fun Bv=>(R.eD (IntKind.wrap .i64 (a1 - 1)) pa Bv.2.1 Bv.2.2).bind fun Fq=>(iw N (⟨11,Bv.1,[],[],[]⟩:ak) [Fq.1]).bind fun IY=>some (IY,Fq.2.1,Fq.2.2) else (bif (aS.1==9) then (yP pa aS.2.1 aS.2.2).bind fun Bw=>(R.tY 1 2 (IntKind.wrap .i64 (a1 - 1)) pa Bw.2.1 Bw.2.2).bind fun tZ=>(iw N (⟨13,0,Bw.1,[],[]⟩:ak) tZ.1).bind fun IZ=>some (IZ,tZ.2.1,tZ.2.2) else (bif (aS.1==10) then (R.eD (IntKind.wrap .i64 (a1 - 1)) pa aS.2.1 aS.2.2).bind fun yR=>(R.eD (IntKind.wrap .i64 (a1 - 1)) pa yR.2.1 yR.2.2).bind fun kW=>(R.eD (IntKind.wrap .i64 (a1 - 1)) pa kW.2.1 kW.2.2).bind fun Fu=>(iw N (⟨14,0,[],[],[]⟩:ak) [yR.1,kW.1,Fu.1]).bind fun Zv=>some (Zv,Fu.2.1,Fu.2.2) else (bif (aS.1==11) then (uR [54,38,43] pa aS.2.1 aS.2.2).bind fun Bz=>(R.oF (IntKind.wrap .i64 (a1 - 1)) pa Bz.2.1 Bz.2.2).bind fun yS=>(R.eD (IntKind.wrap .i64 (a1 - 1)) pa yS.2.1 yS.2.2).bind fun Fv=>(iw N (⟨15,Bz.1,[],[],[]⟩:ak) [yS.1,Fv.1]).bind fun Ja=>some (Ja,Fv.2.1,Fv.2.2) else ((Fg pa aS.2.1 aS.2.2).bind fun BA=>(R.eD (IntKind.wrap .i64 (a1 - 1)) pa BA.2.1 BA.2.2).bind fun yT=>(R.eD (IntKind.wrap .i64 (a1 - 1)) pa yT.2.1 yT.2.2).bind fun Fw=>(iw N (⟨12,BA.1,[],[],[]⟩:ak) [yT.1,Fw.1]).bind fun Zw=>some (Zw,Fw.2.1,Fw.2.2)))))
def BD (N:Nat) (R:uS) (a1:Int) (pa:LU) (pb:Int) (pc:Int):Option (LN×Int×Int):=
  bif (decide (a1≤0)) then (yQ pa pb pc).bind fun r4=>some (r4.1,r4.2.1,r4.2.2) else ((jK 2 pa pb pc).bind fun r6=>(jK 16 pa r6.2.1 r6.2.2).bind fun aS=>bif (aS.1==0) then (yQ pa aS.2.1 aS.2.2).bind fun BF=>some (BF.1,BF.2.1,BF.2.2) else (bif (aS.1==1) then (R.oF a1 pa aS.2.1 aS.2.2).bind fun Oa=>some (Oa.1,Oa.2.1,Oa.2.2) else (bif (aS.1==2) then (R.eD (IntKind.wrap .i64 (a1 - 1)) pa aS.2.1 aS.2.2).bind fun Fy=>(iw N (⟨6,0,[],[],[]⟩:ak) [Fy.1]).bind fun Zx=>some (Zx,Fy.2.1,Fy.2.2) else (bif (aS.1==3) then (yP pa aS.2.1 aS.2.2).bind fun BG=>(R.tY 0 3 (IntKind.wrap .i64 (a1 - 1)) pa BG.2.1 BG.2.2).bind fun Fz=>(iw N (⟨7,0,BG.1,[],[]⟩:ak) Fz.1).bind fun Zy=>some (Zy,Fz.2.1,Fz.2.2) else (bif (aS.1==4) then (pQ [[108,101,110,103,116,104],[115,117,98,115,116,114],[105,110,100,101,120],[105,110,116],[116,111,117,112,112,101,114]] pa aS.2.1 aS.2.2).bind fun BH=>(R.tY 0 3 (IntKind.wrap .i64 (a1 - 2)) pa BH.2.1 BH.2.2).bind fun qP=>(iw N (⟨8,0,BH.1,[],[]⟩:ak) qP.1).bind fun Jb=>some (Jb,qP.2.1,qP.2.2) else (bif (aS.1==5) then (R.oF (IntKind.wrap .i64 (a1 - 1)) pa aS.2.1 aS.2.2).bind fun wG=>(iw N (⟨9,(IntKind.wrap .i64 (51+r6.1)),[],[],[]⟩:ak) [wG.1]).bind fun Jc=>some (Jc,wG.2.1,wG.2.2) else (bif (aS.1==6) then (R.oF (IntKind.wrap .i64 (a1 - 1)) pa aS.2.1 aS.2.2).bind fun wH=>(iw N (⟨10,(IntKind.wrap .i64 (51+r6.1)),[],[],[]⟩:ak) [wH.1]).bind fun yU=>some (yU,wH.2.1,wH.2.2) else (bif (aS.1==7) then Fp N R pa (a1,aS,(aS.1==7)) else (Fp N R pa (a1,aS,(aS.1==8)))))))))))
def jv:Nat→uS
  | 0=>⟨fun _ _ _ _ _ _=>none,fun _ _ _ _=>none,fun _ _ _ _=>none⟩
  | N+1=>⟨fun a1 a2 a3 pa pb pc=>IW N (jv N) a1 a2 a3 pa pb pc,fun a1 pa pb pc=>IX N (jv N) a1 pa pb pc,fun a1 pa pb pc=>BD N (jv N) a1 pa pb pc⟩
def tY (N:Nat) (a1:Int) (a2:Int) (a3:Int) (pa:LU) (pb:Int) (pc:Int):Option ((List LN)×Int×Int):=(jv N).tY a1 a2 a3 pa pb pc
def oF (N:Nat) (a1:Int) (pa:LU) (pb:Int) (pc:Int):Option (LN×Int×Int):=(jv N).oF a1 pa pb pc
def eD (N:Nat) (a1:Int) (pa:LU) (pb:Int) (pc:Int):Option (LN×Int×Int):=(jv N).eD a1 pa pb pc
def gW (a0:Int) (a1:Int) (a2:Int):Option Bool:=
  (bif (decide (a0≥a1)) then some (decide (a0≤a2)) else (some false)).bind fun y1=>some y1
def BI (a0:ak):Option Bool:=
  (bif (a0.Kind==1) then bif ((a0.Text.length:Int)==1) then (ix a0.Text 0).bind fun b4=>(gW (IntKind.wrap .i64 ((b4).toNat:Int)) 97 122).bind fun r5=>some r5 else (some false) else (some false)).bind fun y3=>some y3
def BJ (N:Nat) (p0:LH):Nat→(LU×Int)→Option (LN×Bool)
  | 0,_=>none
  | n1+1,(a1,bC)=>bif (decide (bC < (p0.length:Int))) then (ix p0 bC).bind fun e50=>bif (e50.Name==a1) then (ix p0 bC).bind fun e52=>some (e52.Part,true) else ((BJ N p0 n1) (a1,(IntKind.wrap .i64 (bC+1)))) else (some ([],false))
def Jd (N:Nat) (a1:LU) (p0:LH):Option (LN×Bool):=
  BJ N p0 N (a1,0)
def vR (N:Nat) (a0:LN):Option LN:=
  (yM N a0 0).bind fun r2=>some r2
structure FB where
  lW:LN→Int→LH→Option LN
def yV (N:Nat) (R:FB) (p0:LH):Nat→(LN×Int×Int×(List LN))→Option LN
  | 0,_=>none
  | n2+1,(a0,a1,y96,uf)=>(ix a0 a1).bind fun SA=>bif (decide (y96 < (SA.Kids.length:Int))) then (ix a0 a1).bind fun ug=>(ix ug.Kids y96).bind fun e137=>(R.lW a0 e137 p0).bind fun lX=>(app 24 uf [lX]).bind fun Oc=>(yV N R p0 n2) (a0,a1,(IntKind.wrap .i64 (y96+1)),Oc) else ((ix a0 a1).bind fun SB=>(iw N SB uf).bind fun BK=>some BK)
def Je (N:Nat) (R:FB) (p0:LH):(LN×Int)→Option LN
  | (a0,a1)=>yV N R p0 N (a0,a1,0,[])
def Jf (N:Nat) (R:FB) (a0:LN) (a1:Int) (p0:LH):Option LN:=
  (ix a0 a1).bind fun SC=>(BI SC).bind fun lY=>bif lY then (ix a0 a1).bind fun FC=>(Jd N FC.Text p0).bind fun uT=>(bif uT.2 then some (decide ((uT.1.length:Int) > 0)) else (some false)).bind fun y152=>bif y152 then (vR N uT.1).bind fun Jg=>some Jg else (Je N R p0 (a0,a1)) else (Je N R p0 (a0,a1))
def yX:Nat→FB
  | 0=>⟨fun _ _ _=>none⟩
  | N+1=>⟨fun a0 a1 p0=>Jf N (yX N) a0 a1 p0⟩
def lW (N:Nat) (a0:LN) (a1:Int) (p0:LH):Option LN:=(yX N).lW a0 a1 p0
def BL (N:Nat) (pa:LU):Nat→(Int×Int)→Option (LN×Int×Int)
  | 0,_=>none
  | n1+1,(pb,pc)=>(jK 4 pa pb pc).bind fun r9=>(eD N (IntKind.wrap .i64 (1+r9.1)) pa r9.2.1 r9.2.2).bind fun dP=>bif (decide ((dP.1.length:Int)≤60)) then some (dP.1,dP.2.1,dP.2.2) else ((BL N pa n1) (dP.2.1,dP.2.2))
def Jh (N:Nat) (pa:LU) (pb:Int) (pc:Int):Option (LN×Int×Int):=
  BL N pa N (pb,pc)
def FD (N:Nat) (pa:LU) (fD:(LN×Int×Int×Int×LH)→Option (LN×Int×Int)):(Int×Int×LN)→Option (LN×Int×Int)
  | (Ji,Jj,tQ)=>(tV 5 pa Ji Jj).bind fun lX=>bif lX.1 then (Jh N pa lX.2.1 lX.2.2).bind fun BM=>some (BM.1,BM.2.1,BM.2.2) else (some (tQ,lX.2.1,lX.2.2))
def FE (N:Nat) (pa:LU) (fD:(LN×Int×Int×Int×LH)→Option (LN×Int×Int)):(Int×Int×LN)→Option (LN×Int×Int)
  | (yJ,yK,oz)=>(tV 2 pa yJ yK).bind fun iF=>bif iF.1 then (Fg pa iF.2.1 iF.2.2).bind fun uU=>(eD N 1 pa uU.2.1 uU.2.2).bind fun lY=>(iw N (⟨12,uU.1,[],[],[]⟩:ak) [oz,lY.1]).bind fun yY=>FD N pa fD (lY.2.1,lY.2.2,yY) else (FD N pa fD (iF.2.1,iF.2.2,oz))
def qQ (N:Nat) (pa:LU):Nat→(LN×Int×Int×Int×LH)→Option (LN×Int×Int)
  | 0,_=>none
  | n1+1,(a1,pU,rR,BN,uV)=>bif (decide (pU < 4)) then (ix [[97],[98],[120],[121]] pU).bind fun e109=>(jK 3 pa rR BN).bind fun BO=>(eD N BO.1 pa BO.2.1 BO.2.2).bind fun rT=>(app 40 uV [(⟨e109,rT.1⟩:fA)]).bind fun x112=>(qQ N pa n1) (a1,(IntKind.wrap .i64 (pU+1)),rT.2.1,rT.2.2,x112) else ((lW N a1 (IntKind.wrap .i64 ((a1.length:Int) - 1)) uV).bind fun kW=>(tV 2 pa rR BN).bind fun qR=>bif qR.1 then (iw N (⟨11,61,[],[],[]⟩:ak) [kW]).bind fun lZ=>FE N pa (qQ N pa n1) (qR.2.1,qR.2.2,lZ) else (FE N pa (qQ N pa n1) (qR.2.1,qR.2.2,kW)))
def Jk (N:Nat) (a1:LN) (pa:LU) (pb:Int) (pc:Int):Option (LN×Int×Int):=
  qQ N pa N (a1,0,pb,pc,[])
def Od (N:Nat):((LN×Int×Int)×LN)→Option (LN×LN)
  | (r4,iQ)=>some (r4.1,iQ)
def Jl (N:Nat) (a0:LU):Option (LN×LN):=
  (IL N a0).bind fun r2=>(mR N 2 r2.1 r2.2.1 r2.2.2).bind fun r4=>(Jk N r4.1 r2.1 r4.2.1 r4.2.2).bind fun r7=>(tV 2 r2.1 r7.2.1 r7.2.2).bind fun kV=>bif kV.1 then (yQ r2.1 kV.2.1 kV.2.2).bind fun eB=>(eD N 1 r2.1 eB.2.1 eB.2.2).bind fun aJ=>(lW N r4.1 (IntKind.wrap .i64 ((r4.1.length:Int) - 1)) [(⟨[97],eB.1⟩:fA),(⟨[98],aJ.1⟩:fA)]).bind fun bW=>Od N (r4,bW) else (Od N (r4,r7.1))
def ku (a0:Int) (a1:Int) (a2:Int):Option Bool:=
  (bif (decide (a0≥a1)) then some (decide (a0≤a2)) else (some false)).bind fun y1=>some y1
def yZ (N:Nat) (fD:(LN×Int×(List Int))→Option ((List Int)×Bool)) (a0:LN) (gD:Int) (oG:ak) (kX:List Int):List Int→Int→Option ((List Int)×Bool)
  | [],nK=>(ix kX gD).bind fun aja=>(upd kX gD (IntKind.wrap .i64 (nK+1))).bind fun Oe=>fD (a0,(IntKind.wrap .i64 (gD+1)),Oe)
  | e339::Zz,nK=>(bif (decide (nK < 0)) then some true else (some (e339 !=nK))).bind fun SE=>bif SE then some ([],false) else ((ix kX e339).bind fun Jm=>(yZ N fD a0 gD oG kX Zz) (IntKind.wrap .i64 (Jm - 1)))
def wI (N:Nat):Nat→(LN×Int×(List Int))→Option ((List Int)×Bool)
  | 0,_=>none
  | n1+1,(a0,gD,kX)=>bif (decide (gD < (a0.length:Int))) then (ix a0 gD).bind fun oG=>yZ N (wI N n1) a0 gD oG kX (oG.Kids.reverse) (IntKind.wrap .i64 (gD - 1)) else ((ix kX (IntKind.wrap .i64 ((a0.length:Int) - 1))).bind fun Jo=>some (kX,(Jo==0)))
def Jp (N:Nat) (a0:LN):Option ((List Int)×Bool):=
  (ku (a0.length:Int) 1 400).bind fun r4=>bif (!r4) then some ([],false) else ((mk 8 0 (a0.length:Int)).bind fun x6=>wI N N (a0,0,x6))
def FH (N:Nat) (a0:LN):Option Bool:=
  (Jp N a0).bind fun r2=>some r2.2
def qU (a0:Int):Option Bool:=
  (ku a0 1 15).bind fun r2=>some r2
def FI (a0:Int):Option Bool:=
  (bif (decide (a0≥97)) then bif (decide (a0≤122)) then some true else (bif (decide (a0≥65)) then bif (decide (a0≤90)) then some true else (some (a0==95)) else (some (a0==95))) else (bif (decide (a0≥65)) then bif (decide (a0≤90)) then some true else (some (a0==95)) else (some (a0==95)))).bind fun y1=>some y1
def FJ (a0:Int):Option Bool:=
  (bif (decide (a0≥48)) then some (decide (a0≤57)) else (some false)).bind fun y1=>some y1
def Jq (a0:Int):Option Bool:=
  ((FI a0).bind fun r4=>bif r4 then some true else ((FJ a0).bind fun r5=>some r5)).bind fun y3=>some y3
def BP (N:Nat):Nat→(LU×Int)→Option Bool
  | 0,_=>none
  | n1+1,(a0,bC)=>bif (decide (bC < (a0.length:Int))) then (ix a0 bC).bind fun BQ=>(Jq (IntKind.wrap .i64 ((BQ).toNat:Int))).bind fun za=>bif (!za) then some false else ((BP N n1) (a0,(IntKind.wrap .i64 (bC+1)))) else (((ku (a0.length:Int) 1 12).bind fun Jr=>bif Jr then (ix a0 0).bind fun BR=>(FI (IntKind.wrap .i64 ((BR).toNat:Int))).bind fun ze=>some ze else (some false)).bind fun BS=>some BS)
def Og (N:Nat) (a0:LU):Option Bool:=
  BP N N (a0,0)
def uW (N:Nat):Nat→(aV×LU×Int)→Option Int
  | 0,_=>none
  | n1+1,(a0,a1,bP)=>bif (decide (bP < (a0.length:Int))) then (ix a0 bP).bind fun e28=>bif (a1==e28) then some bP else ((uW N n1) (a0,a1,(IntKind.wrap .i64 (bP+1)))) else (some (-1))
def BU (N:Nat) (a0:aV) (a1:LU):Option Int:=
  uW N N (a0,a1,0)
def Js (N:Nat) (a0:LU):Option Int:=
  (BU N mK a0).bind fun r2=>bif (decide (r2 < 0)) then some 0 else (some (IntKind.wrap .i64 (10+r2)))
def uh (N:Nat) (a0:aV) (a1:LU):Option Bool:=
  (BU N a0 a1).bind fun r2=>some (decide (r2≥0))
def BX (N:Nat) (a0:LU):Option Bool:=
  (uh N pJ a0).bind fun r2=>some r2
def rU (N:Nat) (a0:LU):Option Bool:=
  ((Og N a0).bind fun r5=>bif r5 then (Js N a0).bind fun r6=>bif (r6==0) then (BX N a0).bind fun r7=>some (!r7) else (some false) else (some false)).bind fun y4=>some y4
def SF (a0:LU) (a1:Int):Option Int:=
  some (Go.Lib.indexByte a0 (Int.toNat a1).toUInt8)
def Jt (a0:LU):Option Int:=
  bif (([10]:LU)==a0) then some 0 else ((ix ([10]:LU) 0).bind fun b7=>(SF a0 ((b7).toNat:Int)).bind fun r8=>some r8)
def Oh (a0:LU):Option Int:=
  (Jt a0).bind fun r2=>some r2
def Ju (a0:LU):Option Bool:=
  (Oh a0).bind fun r2=>some (decide (r2≥0))
def uX (a0:LU) (a1:Int):Option Int:=
  (ku a1 0 (IntKind.wrap .i64 ((a0.length:Int) - 1))).bind fun r4=>bif (!r4) then some (-1) else ((ix a0 a1).bind fun b6=>some (IntKind.wrap .i64 ((b6).toNat:Int)))
def BZ (N:Nat):Nat→(LU×Int)→Option Int
  | 0,_=>none
  | n1+1,(a0,a1)=>(uX a0 a1).bind fun kY=>(FJ kY).bind fun iy=>bif iy then (BZ N n1) (a0,(IntKind.wrap .i64 (a1+1))) else (some a1)
def FL (N:Nat) (a0:LU) (a1:Int):Option Int:=
  BZ N N (a0,a1)
def Jv (N:Nat):Int→Option Int
  | bH=>some bH
def FM (N:Nat):(LU×Int×Int)→Option Int
  | (a0,bH,y31)=>(FL N a0 y31).bind fun kY=>bif (decide (kY > y31)) then some kY else (Jv N bH)
def Ca (N:Nat):(LU×Int×Int)→Option Int
  | (a0,bH,iP)=>bif (iP==0) then some (-1) else ((uX a0 bH).bind fun gB=>(bif (gB==101) then some true else (some (gB==69))).bind fun y27=>bif y27 then (uX a0 (IntKind.wrap .i64 (bH+1))).bind fun pV=>(bif (pV==43) then some true else (some (pV==45))).bind fun pO=>bif pO then FM N (a0,bH,(IntKind.wrap .i64 ((IntKind.wrap .i64 (bH+1))+1))) else (FM N (a0,bH,(IntKind.wrap .i64 (bH+1)))) else (Jv N bH))
def FN (N:Nat) (a0:LU) (a1:Int):Option Int:=
  (ku a1 0 (IntKind.wrap .i64 ((a0.length:Int) - 1))).bind fun r4=>bif (!r4) then some (-1) else ((FL N a0 a1).bind fun r6=>(uX a0 r6).bind fun tX=>bif (tX==46) then (FL N a0 (IntKind.wrap .i64 (r6+1))).bind fun qV=>Ca N (a0,qV,(IntKind.wrap .i64 ((IntKind.wrap .i64 (r6 - a1))+(IntKind.wrap .i64 ((IntKind.wrap .i64 (qV - r6)) - 1))))) else (Ca N (a0,r6,(IntKind.wrap .i64 (r6 - a1)))))
def Cb (N:Nat) (fD:(LU×Int×Int)→Option Int):(LU×Int×Int)→Option Int
  | (a0,a2,Jw)=>fD (a0,a2,(IntKind.wrap .i64 (Jw+1)))
def uY (N:Nat):Nat→(LU×Int×Int)→Option Int
  | 0,_=>none
  | n1+1,(a0,a2,y91)=>(bif (decide (y91 < (a0.length:Int))) then (ix a0 y91).bind fun ZA=>some (((ZA).toNat:Int) !=10) else (some false)).bind fun qW=>bif qW then (ix a0 y91).bind fun ZB=>bif ((IntKind.wrap .i64 ((ZB).toNat:Int))==a2) then some (IntKind.wrap .i64 (y91+1)) else (((ix a0 y91).bind fun ZC=>bif (((ZC).toNat:Int)==92) then (uX a0 (IntKind.wrap .i64 (y91+1))).bind fun ZE=>some (ZE !=10) else (some false)).bind fun tQ=>bif tQ then Cb N (uY N n1) (a0,a2,(IntKind.wrap .i64 (y91+1))) else (Cb N (uY N n1) (a0,a2,y91))) else (some (-1))
def FP (N:Nat) (a0:LU) (a1:Int) (a2:Int):Option Int:=
  (uX a0 a1).bind fun r4=>bif (r4 !=a2) then some (-1) else (uY N N (a0,a2,(IntKind.wrap .i64 (a1+1))))
def FQ (N:Nat) (a0:LU) (a1:Int):Option Int:=
  (FP N a0 a1 34).bind fun r2=>some r2
def FR (N:Nat) (a0:LU) (a1:Int):Option Int:=
  (FP N a0 a1 47).bind fun r2=>bif (r2==(IntKind.wrap .i64 (a1+2))) then some (-1) else (some r2)
def Jy (a0:Int):Option Bool:=
  (ku a0 10 26).bind fun r2=>some r2
def Jz (a0:Int):Option Bool:=
  (ku a0 30 68).bind fun r2=>some r2
def JA (a0:Int):Option LU:=
  bif (a0==1) then some [10] else ((Jy a0).bind fun dP=>bif dP then (ix mK (IntKind.wrap .i64 (a0 - 10))).bind fun e12=>some e12 else ((Jz a0).bind fun bV=>bif bV then (ix sQ (IntKind.wrap .i64 (a0 - 30))).bind fun e16=>some e16 else (some [])))
def FT (N:Nat):(jJ×Bool)→Option Bool
  | (a0,y28)=>bif y28 then (rU N a0.Text).bind fun dQ=>some dQ else (bif (a0.Kind==8) then (BX N a0.Text).bind fun r32=>some r32 else ((JA a0.Kind).bind fun iy=>some (a0.Text==iy)))
def FU (N:Nat) (a0:jJ):Option Bool:=
  bif (a0.Text==[]) then some false else (bif (a0.Kind==2) then ((ix a0.Text 0).bind fun b20=>bif (((b20).toNat:Int)==35) then (Ju a0.Text).bind fun kC=>some (!kC) else (some false)).bind fun bP=>some bP else (bif (a0.Kind==3) then (FN N a0.Text 0).bind fun aJ=>some (aJ==(a0.Text.length:Int)) else (bif (a0.Kind==4) then (FQ N a0.Text 0).bind fun iR=>some (iR==(a0.Text.length:Int)) else (bif (a0.Kind==5) then (FR N a0.Text 0).bind fun bq=>some (bq==(a0.Text.length:Int)) else (bif (a0.Kind==6) then FT N (a0,(a0.Kind==6)) else (FT N (a0,(a0.Kind==7))))))))
def Oi (a0:Int):Option Bool:=
  (bif (a0==51) then some true else (some (a0==52))).bind fun y1=>some y1
def FV:(Int×Bool)→Option Int
  | (a0,y8)=>bif y8 then some 10 else (bif (a0==60) then some 12 else (some 0))
def JB:(Int×Bool)→Option Int
  | (a0,y7)=>bif y7 then some 9 else (bif (a0==57) then FV (a0,(a0==57)) else (bif (a0==58) then FV (a0,(a0==58)) else (FV (a0,(a0==59)))))
def wL:(Int×Bool)→Option Int
  | (a0,y6)=>bif y6 then some 7 else (bif (a0==99) then some 8 else (bif (a0==55) then JB (a0,(a0==55)) else (JB (a0,(a0==56)))))
def JC:(Int×Bool)→Option Int
  | (a0,y5)=>bif y5 then some 6 else (bif (a0==63) then wL (a0,(a0==63)) else (bif (a0==48) then wL (a0,(a0==48)) else (bif (a0==47) then wL (a0,(a0==47)) else (bif (a0==50) then wL (a0,(a0==50)) else (bif (a0==62) then wL (a0,(a0==62)) else (wL (a0,(a0==49))))))))
def JD (a0:Int):Option Int:=
  bif (a0==44) then some 3 else (bif (a0==45) then some 4 else (bif (a0==67) then JC (a0,(a0==67)) else (JC (a0,(a0==46)))))
def Oj (a0:Int):Option Bool:=
  (bif (a0==54) then some true else ((ku a0 38 43).bind fun r3=>some r3)).bind fun y2=>some y2
def JE (N:Nat):(ak×Bool)→Option gI
  | (a0,bC)=>bif bC then (Oi a0.Op).bind fun pW=>some (⟨pW,(a0.Text==[]),false,1,1⟩:gI) else (bif (a0.Kind==11) then (bif (a0.Op==55) then some true else (bif (a0.Op==56) then some true else (some (a0.Op==61)))).bind fun y38=>some (⟨y38,(a0.Text==[]),false,1,1⟩:gI) else (bif (a0.Kind==12) then (JD a0.Op).bind fun qV=>some (⟨(qV !=0),(a0.Text==[]),false,2,2⟩:gI) else (bif (a0.Kind==14) then some (⟨(a0.Op==0),(a0.Text==[]),false,3,3⟩:gI) else ((Oj a0.Op).bind fun Cc=>some (⟨Cc,(a0.Text==[]),false,2,2⟩:gI)))))
def JF (N:Nat):(ak×Bool)→Option gI
  | (a0,y28)=>bif y28 then (rU N a0.Text).bind fun dQ=>some (⟨(a0.Op==0),dQ,false,1,6⟩:gI) else (bif (a0.Kind==6) then some (⟨(a0.Op==0),(a0.Text==[]),false,1,1⟩:gI) else (bif (a0.Kind==7) then (rU N a0.Text).bind fun r32=>some (⟨(a0.Op==0),r32,false,0,6⟩:gI) else (bif (a0.Kind==8) then (BX N a0.Text).bind fun iy=>some (⟨(a0.Op==0),iy,false,0,6⟩:gI) else (bif (a0.Kind==9) then JE N (a0,(a0.Kind==9)) else (JE N (a0,(a0.Kind==10)))))))
def FW (N:Nat):(ak×Bool)→Option gI
  | (a0,y23)=>bif y23 then (ix [3,4,5] (IntKind.wrap .i64 (a0.Kind - 2))).bind fun e26=>(FU N (⟨e26,a0.Text,0⟩:jJ)).bind fun bq=>some (⟨(a0.Op==0),bq,false,0,0⟩:gI) else (bif (a0.Kind==5) then JF N (a0,(a0.Kind==5)) else (JF N (a0,(a0.Kind==13))))
def Ol (N:Nat) (a0:ak):Option gI:=
  bif (a0.Kind==1) then (rU N a0.Text).bind fun eB=>some (⟨(a0.Op==0),eB,false,0,0⟩:gI) else (bif (a0.Kind==2) then FW N (a0,(a0.Kind==2)) else (bif (a0.Kind==3) then FW N (a0,(a0.Kind==3)) else (FW N (a0,(a0.Kind==4)))))
def zf (a0:Int):Option Bool:=
  (ku a0 20 34).bind fun r2=>some r2
def oH (N:Nat):(Bool×Bool×Bool×Int×Int)→Option gI
  | (oI,oJ,iQ,gU,pY)=>some (⟨oI,oJ,iQ,gU,pY⟩:gI)
def JG (N:Nat):(ak×Bool)→Option gI
  | (a0,y25)=>bif y25 then oH N ((a0.Op==0),(a0.Text==[]),(a0.Other==[]),2,2) else (bif (a0.Kind==31) then oH N ((a0.Op==0),(a0.Text==[]),(a0.Other==[]),4,4) else (bif (a0.Kind==32) then (rU N a0.Text).bind fun gV=>(rU N a0.Other).bind fun iT=>oH N ((a0.Op==0),gV,iT,1,1) else (bif (a0.Kind==33) then oH N ((a0.Op==0),(a0.Text==[]),(a0.Other==[]),0,400) else (bif (a0.Kind==34) then (FU N (⟨2,a0.Text,0⟩:jJ)).bind fun SG=>oH N ((a0.Op==0),SG,(a0.Other==[]),0,0) else (oH N ((a0.Op==0),(a0.Text==[]),(a0.Other==[]),0,0))))))
def JH (N:Nat):(ak×Bool)→Option gI
  | (a0,y22)=>bif y22 then oH N ((a0.Op==0),(a0.Text==[]),(a0.Other==[]),0,1) else (bif (a0.Kind==27) then (rU N a0.Text).bind fun bW=>oH N ((a0.Op==0),bW,(a0.Other==[]),0,6) else (bif (a0.Kind==28) then oH N ((a0.Op==0),(a0.Text==[]),(a0.Other==[]),2,3) else (bif (a0.Kind==29) then JG N (a0,(a0.Kind==29)) else (JG N (a0,(a0.Kind==30))))))
def Om (N:Nat) (a0:ak):Option gI:=
  bif (a0.Kind==20) then oH N ((a0.Op==0),(a0.Text==[]),(a0.Other==[]),1,1) else (bif (a0.Kind==21) then (bif (a0.Op==0) then some true else (some (a0.Op==1))).bind fun bP=>(uh N [[],[62],[62,62],[124]] a0.Other).bind fun kC=>bif (!(a0.Other==[])) then oH N (bP,(a0.Text==[]),kC,(IntKind.wrap .i64 (a0.Op+1)),7) else (oH N (bP,(a0.Text==[]),kC,a0.Op,6)) else (bif (a0.Kind==23) then JH N (a0,(a0.Kind==23)) else (JH N (a0,(a0.Kind==24)))))
def zh (N:Nat):(ak×Bool×Bool×Int×Int)→Option gI
  | (a0,y9,jr,bH,iP)=>some (⟨y9,jr,(a0.Other==[]),bH,iP⟩:gI)
def JI (N:Nat):(Bool×ak×Int)→Option gI
  | (kD,a0,iQ)=>zh N (a0,kD,(a0.Text==[]),iQ,iQ)
def JJ (N:Nat):(Bool×ak×Int)→Option gI
  | (gU,a0,pY)=>zh N (a0,gU,(a0.Text==[]),pY,pY)
def JK (N:Nat):(ak×Bool)→Option gI
  | (a0,y13)=>bif y13 then zh N (a0,(a0.Op==0),(a0.Text==[]),1,1) else (bif (a0.Kind==42) then (ku a0.Op 1 3).bind fun kD=>bif (a0.Op==3) then JI N (kD,a0,2) else (JI N (kD,a0,1)) else (bif (a0.Kind==43) then (bif (a0.Op==1) then some true else (some (a0.Op==3))).bind fun gU=>bif (a0.Op==3) then JJ N (gU,a0,3) else (JJ N (gU,a0,2)) else (bif (a0.Kind==44) then (rU N a0.Text).bind fun fU=>zh N (a0,(a0.Op==0),fU,1,7) else (zh N (a0,(a0.Op==0),(a0.Text==[]),0,400)))))
def Oo (N:Nat) (a0:ak):Option gI:=
  bif (a0.Kind==40) then JK N (a0,(a0.Kind==40)) else (JK N (a0,(a0.Kind==41)))
def Ce (N:Nat):(ak×Bool×Bool×Bool×Int×Int)→Option Bool
  | (a0,y13,oI,oJ,iQ,gU)=>(bif y13 then bif oI then bif oJ then (ku (a0.Kids.length:Int) iQ gU).bind fun fU=>some fU else (some false) else (some false) else (some false)).bind fun bP=>some bP
def FX (N:Nat) (a0:ak):Option Bool:=
  (qU a0.Kind).bind fun eB=>bif eB then (Ol N a0).bind fun bW=>Ce N (a0,bW.op,bW.text,(a0.Other==[]),bW.least,bW.most) else (bif (a0.Kind==16) then Ce N (a0,(a0.Op==0),(a0.Text==[]),(a0.Other==[]),0,0) else ((zf a0.Kind).bind fun gB=>bif gB then (Om N a0).bind fun gV=>Ce N (a0,gV.op,gV.text,gV.other,gV.least,gV.most) else ((ku a0.Kind 40 45).bind fun dQ=>bif dQ then (Oo N a0).bind fun r32=>Ce N (a0,r32.op,r32.text,r32.other,r32.least,r32.most) else (some false))))
def FY (a0:Int):Option Bool:=
  (bif (a0==1) then some true else (bif (a0==5) then some true else (some (a0==6)))).bind fun y1=>some y1
def Oq (a0:Int):Option Bool:=
  (ku a0 40 44).bind fun r2=>some r2
def jh:(Int×Bool)→Option Bool
  | (a2,y22)=>bif y22 then some (a2==33) else ((qU a2).bind fun bW=>some bW)
def qb:(Int×Int×ak×Bool)→Option Bool
  | (a2,a1,a0,y38)=>bif y38 then jh (a2,true) else (bif (a0.Kind==33) then (zf a2).bind fun qV=>some qV else (bif (a0.Kind==42) then (bif (a1==(IntKind.wrap .i64 ((a0.Kids.length:Int) - 1))) then some (decide (a0.Op≥2)) else (some false)).bind fun Bn=>jh (a2,Bn) else (bif (a0.Kind==43) then (bif (a1==(IntKind.wrap .i64 ((a0.Kids.length:Int) - 1))) then some (a0.Op==3) else (some false)).bind fun Ot=>jh (a2,Ot) else (bif (a0.Kind==44) then bif (!(a1==(IntKind.wrap .i64 ((a0.Kids.length:Int) - 1)))) then some (a2==1) else (jh (a2,true)) else (bif (a0.Kind==45) then ((Oq a2).bind fun ZF=>bif ZF then some true else (some (a2==34))).bind fun SH=>some SH else (jh (a2,false)))))))
def mU:(Int×Int×ak×Bool)→Option Bool
  | (a1,a2,a0,bC)=>bif bC then jh (a2,(decide (a1 > 0))) else (bif (a0.Kind==31) then (bif (decide (a1 < 3)) then some (a2==16) else (some false)).bind fun fE=>bif fE then some true else (jh (a2,(a1==(IntKind.wrap .i64 ((a0.Kids.length:Int) - 1))))) else (bif (a0.Kind==30) then jh (a2,(a1==0)) else (bif (a0.Kind==32) then qb (a2,a1,a0,(a0.Kind==32)) else (bif (a0.Kind==40) then qb (a2,a1,a0,(a0.Kind==40)) else (qb (a2,a1,a0,(a0.Kind==41)))))))
def kE:(Int×Int×ak×Bool)→Option Bool
  | (a1,a2,a0,y25)=>bif y25 then (FY a2).bind fun bq=>some bq else (bif (a0.Kind==15) then (bif (a1==0) then (FY a2).bind fun r32=>bif r32 then some true else (bif (decide (a1 > 0)) then (qU a2).bind fun kY=>some kY else (some false)) else (bif (decide (a1 > 0)) then (qU a2).bind fun iy=>some iy else (some false))).bind fun y31=>some y31 else (bif (a0.Kind==28) then mU (a1,a2,a0,(a0.Kind==28)) else (mU (a1,a2,a0,(a0.Kind==29)))))
def kF (a0:ak) (a1:Int) (a2:Int):Option Bool:=
  bif (a0.Kind==9) then kE (a1,a2,a0,(a0.Kind==9)) else (kE (a1,a2,a0,(a0.Kind==10)))
structure JL where
  qc:LN→Int→Option aj
def zi (N:Nat) (R:JL):Nat→(LN×ak×Int×LS)→Option aj
  | 0,_=>none
  | n1+1,(a0,e2,tO,qd)=>bif (decide (tO < (e2.Kids.length:Int))) then (ix e2.Kids tO).bind fun Cg=>(R.qc a0 Cg).bind fun nL=>(app 72 qd [nL]).bind fun x90=>(zi N R n1) (a0,e2,(IntKind.wrap .i64 (tO+1)),x90) else (some (⟨e2.Kind,e2.Op,e2.Text,e2.Other,qd⟩:aj))
def JM (N:Nat) (R:JL) (a0:LN) (a1:Int):Option aj:=
  (ix a0 a1).bind fun e2=>zi N R N (a0,e2,0,[])
def wM:Nat→JL
  | 0=>⟨fun _ _=>none⟩
  | N+1=>⟨fun a0 a1=>JM N (wM N) a0 a1⟩
def qc (N:Nat) (a0:LN) (a1:Int):Option aj:=(wM N).qc a0 a1
def oK (N:Nat) (a0:LN):Option aj:=
  (qc N a0 (IntKind.wrap .i64 ((a0.length:Int) - 1))).bind fun r2=>some r2
structure JN where
  qg:aj→Option Int
def zk (N:Nat) (R:JN):Nat→(aj×Int×Int)→Option Int
  | 0,_=>none
  | n1+1,(a0,fE,y38)=>bif (decide (y38 < (a0.kids.length:Int))) then (ix a0.kids y38).bind fun e54=>(R.qg e54).bind fun mV=>(zk N R n1) (a0,(if mV > fE then mV else fE),(IntKind.wrap .i64 (y38+1))) else (some (IntKind.wrap .i64 (fE+1)))
def JO (N:Nat) (R:JN) (a0:aj):Option Int:=
  zk N R N (a0,0,0)
def zl:Nat→JN
  | 0=>⟨fun _=>none⟩
  | N+1=>⟨fun a0=>JO N (zl N) a0⟩
def qg (N:Nat) (a0:aj):Option Int:=(zl N).qg a0
def Ch (N:Nat) (fD:(LN×Int)→Option Bool):Nat→(LN×Int×ak×Int)→Option Bool
  | 0,_=>none
  | n2+1,(a0,jL,jw,wO)=>bif (decide (wO < (jw.Kids.length:Int))) then (ix jw.Kids wO).bind fun ZG=>(ix a0 ZG).bind fun SI=>(kF jw wO SI.Kind).bind fun ZH=>bif (!ZH) then some false else ((Ch N fD n2) (a0,jL,jw,(IntKind.wrap .i64 (wO+1)))) else (fD (a0,(IntKind.wrap .i64 (jL+1))))
def uZ (N:Nat):Nat→(LN×Int)→Option Bool
  | 0,_=>none
  | n1+1,(a0,jL)=>bif (decide (jL < (a0.length:Int))) then (ix a0 jL).bind fun jw=>(FX N jw).bind fun ZI=>bif (!ZI) then some false else (Ch N (uZ N n1) N (a0,jL,jw,0)) else ((oK N a0).bind fun SK=>(qg N SK).bind fun ZJ=>some (decide (ZJ≤40)))
def kZ (N:Nat) (a0:LN):Option Bool:=
  (FH N a0).bind fun r4=>bif (!r4) then some false else (uZ N N (a0,0))
def qh (N:Nat) (a0:LN):Option Bool:=
  ((kZ N a0).bind fun r5=>bif r5 then (ix a0 (IntKind.wrap .i64 ((a0.length:Int) - 1))).bind fun e6=>(qU e6.Kind).bind fun r7=>some r7 else (some false)).bind fun y4=>some y4
def Ci (a0:ak):Option Bool:=
  (bif (a0.Kind==1) then bif ((a0.Text.length:Int)==1) then (ix a0.Text 0).bind fun b4=>bif (decide (((b4).toNat:Int)≥97)) then (ix a0.Text 0).bind fun b5=>some (decide (((b5).toNat:Int)≤122)) else (some false) else (some false) else (some false)).bind fun y3=>some y3
def FZ (a0:aj):Option Bool:=
  (Ci (⟨a0.kind,0,a0.text,[],[]⟩:ak)).bind fun r2=>some r2
def Ga (a0:aj) (a1:aj):Option Bool:=
  (bif (a0.kind==a1.kind) then bif (a0.op==a1.op) then bif (a0.text==a1.text) then bif (a0.other==a1.other) then some ((a0.kids.length:Int)==(a1.kids.length:Int)) else (some false) else (some false) else (some false) else (some false)).bind fun y1=>some y1
structure Cj where
  Ck:LS→LS→Option Bool
  rV:aj→aj→Option Bool
def Cm (N:Nat) (R:Cj):Nat→(LS×LS×Int)→Option Bool
  | 0,_=>none
  | n1+1,(a1,a0,eU)=>bif (decide (eU < (a0.length:Int))) then (ix a0 eU).bind fun Ou=>(ix a1 eU).bind fun Ov=>(R.rV Ou Ov).bind fun JQ=>bif (!JQ) then some false else ((Cm N R n1) (a1,a0,(IntKind.wrap .i64 (eU+1)))) else (some true)
def JR (N:Nat) (R:Cj) (a0:LS) (a1:LS):Option Bool:=
  bif ((a0.length:Int) !=(a1.length:Int)) then some false else (Cm N R N (a1,a0,0))
def JU (N:Nat) (R:Cj) (a0:aj) (a1:aj):Option Bool:=
  ((Ga a0 a1).bind fun r4=>bif r4 then (R.Ck a0.kids a1.kids).bind fun r5=>some r5 else (some false)).bind fun y3=>some y3
def qX:Nat→Cj
  | 0=>⟨fun _ _=>none,fun _ _=>none⟩
  | N+1=>⟨fun a0 a1=>JR N (qX N) a0 a1,fun a0 a1=>JU N (qX N) a0 a1⟩
def Ck (N:Nat) (a0:LS) (a1:LS):Option Bool:=(qX N).Ck a0 a1
def rV (N:Nat) (a0:aj) (a1:aj):Option Bool:=(qX N).rV a0 a1
structure Cn where
  kG:aj→aj→(List aM)→Option ((List aM)×Bool)
def wQ (N:Nat) (R:Cn):Nat→((List aM)×aj×aj×Int)→Option ((List aM)×Bool)
  | 0,_=>none
  | n1+1,(p0,a0,a1,y101)=>bif (decide (y101 < (p0.length:Int))) then (ix p0 y101).bind fun e116=>bif (e116.name==a0.text) then (rV N e116.tree a1).bind fun SL=>some (p0,SL) else ((wQ N R n1) (p0,a0,a1,(IntKind.wrap .i64 (y101+1)))) else ((app 88 p0 [(⟨a0.text,a1⟩:aM)]).bind fun ZK=>some (ZK,true))
def qj (N:Nat) (R:Cn):Nat→(aj×aj×Int×(List aM))→Option ((List aM)×Bool)
  | 0,_=>none
  | n2+1,(a0,a1,wT,Gb)=>bif (decide (wT < (a0.kids.length:Int))) then (ix a0.kids wT).bind fun Ow=>(ix a1.kids wT).bind fun e203=>(R.kG Ow e203 Gb).bind fun JV=>bif (!JV.2) then some ([],false) else ((qj N R n2) (a0,a1,(IntKind.wrap .i64 (wT+1)),JV.1)) else (some (Gb,true))
def uj (N:Nat) (R:Cn) (a0:aj) (a1:aj) (p0:List aM):Option ((List aM)×Bool):=
  (FZ a0).bind fun zm=>bif zm then (qU a1.kind).bind fun ZL=>bif (!ZL) then some ([],false) else (wQ N R N (p0,a0,a1,0)) else ((Ga a0 a1).bind fun Ja=>bif (!Ja) then some ([],false) else (qj N R N (a0,a1,0,p0)))
def mW:Nat→Cn
  | 0=>⟨fun _ _ _=>none⟩
  | N+1=>⟨fun a0 a1 p0=>uj N (mW N) a0 a1 p0⟩
def kG (N:Nat) (a0:aj) (a1:aj) (p0:List aM):Option ((List aM)×Bool):=(mW N).kG a0 a1 p0
structure JW where
  rW:aj→LN→Option LN
def zn (N:Nat) (R:JW):Nat→(aj×Int×LN×(List Int))→Option LN
  | 0,_=>none
  | n1+1,(a0,zo,Gc,wU)=>bif (decide (zo < (a0.kids.length:Int))) then (ix a0.kids zo).bind fun Co=>(R.rW Co Gc).bind fun qP=>(app 8 wU [(IntKind.wrap .i64 ((qP.length:Int) - 1))]).bind fun x88=>(zn N R n1) (a0,(IntKind.wrap .i64 (zo+1)),qP,x88) else ((app 72 Gc [(⟨a0.kind,a0.op,a0.text,a0.other,wU⟩:ak)]).bind fun x90=>some x90)
def JX (N:Nat) (R:JW) (a0:aj) (p0:LN):Option LN:=
  zn N R N (a0,0,p0,[])
def wV:Nat→JW
  | 0=>⟨fun _ _=>none⟩
  | N+1=>⟨fun a0 p0=>JX N (wV N) a0 p0⟩
def rW (N:Nat) (a0:aj) (p0:LN):Option LN:=(wV N).rW a0 p0
def zq (N:Nat) (a0:aj):Option LN:=
  (rW N a0 []).bind fun r2=>some r2
def Cq (N:Nat):Nat→(((List aM)×Bool)×Int×LH)→Option (LH×Bool)
  | 0,_=>none
  | n1+1,(r16,zu,JY)=>bif (decide (zu < (r16.1.length:Int))) then (ix r16.1 zu).bind fun vg=>(zq N vg.tree).bind fun yU=>(app 40 JY [(⟨vg.name,yU⟩:fA)]).bind fun x96=>(Cq N n1) (r16,(IntKind.wrap .i64 (zu+1)),x96) else (some (JY,r16.2))
def Gf (N:Nat) (a0:LN) (a1:LN):Option (LH×Bool):=
  ((qh N a0).bind fun r9=>bif (!r9) then some true else ((qh N a1).bind fun dP=>some (!dP))).bind fun y8=>bif y8 then some ([],false) else ((oK N a0).bind fun bV=>(oK N a1).bind fun kD=>(kG N bV kD []).bind fun r16=>Cq N N (r16,0,[]))
def Cr (N:Nat) (fD:(LN×Int×(List Int))→Option ((List Int)×Bool)):Nat→(LN×Int×(List Int)×Int×Int)→Option ((List Int)×Bool)
  | 0,_=>none
  | n2+1,(a0,jM,nM,zw,wW)=>bif (decide (wW≥0)) then ((ix a0 jM).bind fun ZM=>(ix ZM.Kids wW).bind fun ZN=>bif (ZN !=(IntKind.wrap .i64 (zw - 1))) then some true else (some (zw==0))).bind fun SN=>bif SN then some ([],false) else ((ix nM (IntKind.wrap .i64 (zw - 1))).bind fun JZ=>(Cr N fD n2) (a0,jM,nM,JZ,(IntKind.wrap .i64 (wW - 1)))) else ((app 8 nM [zw]).bind fun Ox=>fD (a0,(IntKind.wrap .i64 (jM+1)),Ox))
def zx (N:Nat):Nat→(LN×Int×(List Int))→Option ((List Int)×Bool)
  | 0,_=>none
  | n1+1,(a0,jM,nM)=>bif (decide (jM < (a0.length:Int))) then (ix a0 jM).bind fun Oy=>Cr N (zx N n1) N (a0,jM,nM,jM,(IntKind.wrap .i64 ((Oy.Kids.length:Int) - 1))) else (some (nM,true))
def Ka (N:Nat) (a0:LN):Option ((List Int)×Bool):=
  zx N N (a0,0,[])
def vO (N:Nat) (a0:LN):Option Bool:=
  (gW (a0.length:Int) 1 400).bind fun r4=>bif (!r4) then some false else ((Ka N a0).bind fun r6=>(bif r6.2 then (ix r6.1 (IntKind.wrap .i64 ((a0.length:Int) - 1))).bind fun e9=>some (e9==0) else (some false)).bind fun y8=>some y8)
def zy (N:Nat) (fD:(LN×Int×(List Int))→Option Int):Nat→(LN×Int×(List Int)×Int×Int)→Option Int
  | 0,_=>none
  | n2+1,(a0,mg,oL,vk,zA)=>(ix a0 mg).bind fun SQ=>bif (decide (zA < (SQ.Kids.length:Int))) then (ix a0 mg).bind fun ZO=>(ix ZO.Kids zA).bind fun ZP=>(ix oL ZP).bind fun zB=>(zy N fD n2) (a0,mg,oL,(if (IntKind.wrap .i64 (1+zB)) > vk then (IntKind.wrap .i64 (1+zB)) else vk),(IntKind.wrap .i64 (zA+1))) else ((app 8 oL [vk]).bind fun Oz=>fD (a0,(IntKind.wrap .i64 (mg+1)),Oz))
def wY (N:Nat):Nat→(LN×Int×(List Int))→Option Int
  | 0,_=>none
  | n1+1,(a0,mg,oL)=>bif (decide (mg < (a0.length:Int))) then zy N (wY N n1) N (a0,mg,oL,1,0) else ((ix oL (IntKind.wrap .i64 ((a0.length:Int) - 1))).bind fun SS=>some SS)
def Kc (N:Nat) (a0:LN):Option Int:=
  (vO N a0).bind fun r4=>bif (!r4) then some 0 else (wY N N (a0,0,[]))
def zC:(ak×Bool)→Option (Int×Int)
  | (a0,iP)=>bif iP then some (0,(a0.Kids.length:Int)) else (bif (a0.Kind==42) then some ((IntKind.wrap .i64 (1+(IntKind.wrap .i64 (Int.tdiv a0.Op 3)))),(IntKind.wrap .i64 (1+(IntKind.wrap .i64 (Int.tdiv a0.Op 3))))) else (bif (a0.Kind==43) then some ((IntKind.wrap .i64 (2+(IntKind.wrap .i64 (Int.tdiv a0.Op 3)))),(IntKind.wrap .i64 (2+(IntKind.wrap .i64 (Int.tdiv a0.Op 3))))) else (bif (a0.Kind==44) then some (1,7) else (some (0,0)))))
def zD:(ak×Bool)→Option (Int×Int)
  | (a0,bH)=>bif bH then some (0,1) else (bif (a0.Kind==28) then some (2,3) else (bif (a0.Kind==31) then some (4,4) else (bif (a0.Kind==33) then zC (a0,(a0.Kind==33)) else (zC (a0,(a0.Kind==45))))))
def vo:(ak×Bool)→Option (Int×Int)
  | (a0,jr)=>bif jr then some (2,2) else (bif (a0.Kind==14) then some (3,3) else (bif (a0.Kind==21) then bif (!(a0.Other==[])) then some ((IntKind.wrap .i64 (a0.Op+1)),7) else (some (a0.Op,6)) else (bif (a0.Kind==23) then zD (a0,(a0.Kind==23)) else (zD (a0,(a0.Kind==24))))))
def ql:(ak×Bool)→Option (Int×Int)
  | (a0,y9)=>bif y9 then some (1,1) else (bif (a0.Kind==12) then vo (a0,(a0.Kind==12)) else (bif (a0.Kind==15) then vo (a0,(a0.Kind==15)) else (bif (a0.Kind==29) then vo (a0,(a0.Kind==29)) else (vo (a0,(a0.Kind==30))))))
def wZ:(ak×Bool)→Option (Int×Int)
  | (a0,y8)=>bif y8 then some (0,6) else (bif (a0.Kind==6) then ql (a0,(a0.Kind==6)) else (bif (a0.Kind==9) then ql (a0,(a0.Kind==9)) else (bif (a0.Kind==10) then ql (a0,(a0.Kind==10)) else (bif (a0.Kind==11) then ql (a0,(a0.Kind==11)) else (bif (a0.Kind==20) then ql (a0,(a0.Kind==20)) else (bif (a0.Kind==32) then ql (a0,(a0.Kind==32)) else (bif (a0.Kind==40) then ql (a0,(a0.Kind==40)) else (ql (a0,(a0.Kind==41))))))))))
def zF:(ak×Bool)→Option (Int×Int)
  | (a0,y7)=>bif y7 then some (1,6) else (bif (a0.Kind==7) then wZ (a0,(a0.Kind==7)) else (bif (a0.Kind==8) then wZ (a0,(a0.Kind==8)) else (wZ (a0,(a0.Kind==27)))))
def vv (a0:ak):Option (Int×Int):=
  bif (a0.Kind==5) then zF (a0,(a0.Kind==5)) else (zF (a0,(a0.Kind==13)))
def lg:Bool→Option Bool
  | y2=>bif y2 then some true else (some false)
def Ke (a0:Int):Option Bool:=
  bif (a0==60) then lg (a0==60) else (bif (a0==57) then lg (a0==57) else (bif (a0==58) then lg (a0==58) else (bif (a0==59) then lg (a0==59) else (bif (a0==55) then lg (a0==55) else (bif (a0==56) then lg (a0==56) else (bif (a0==99) then lg (a0==99) else (bif (a0==63) then lg (a0==63) else (bif (a0==48) then lg (a0==48) else (bif (a0==47) then lg (a0==47) else (bif (a0==50) then lg (a0==50) else (bif (a0==62) then lg (a0==62) else (bif (a0==49) then lg (a0==49) else (bif (a0==67) then lg (a0==67) else (bif (a0==46) then lg (a0==46) else (bif (a0==45) then lg (a0==45) else (lg (a0==44)))))))))))))))))
def OA (a0:Int):Option Bool:=
  (bif (a0==54) then some true else ((gW a0 38 43).bind fun r3=>some r3)).bind fun y2=>some y2
def Kg:(ak×Bool)→Option Bool
  | (a0,y13)=>bif y13 then (bif (a0.Op==51) then some true else (some (a0.Op==52))).bind fun oI=>some oI else (bif (a0.Kind==11) then (bif (a0.Op==55) then some true else (bif (a0.Op==56) then some true else (some (a0.Op==61)))).bind fun oJ=>some oJ else (bif (a0.Kind==12) then (Ke a0.Op).bind fun Kh=>some Kh else (bif (a0.Kind==15) then (OA a0.Op).bind fun wE=>some wE else (bif (a0.Kind==21) then (gW a0.Op 0 1).bind fun kC=>some kC else (bif (a0.Kind==42) then (gW a0.Op 1 3).bind fun aJ=>some aJ else (bif (a0.Kind==43) then (bif (a0.Op==1) then some true else (some (a0.Op==3))).bind fun y24=>some y24 else (some (a0.Op==0))))))))
def Gg (a0:ak):Option Bool:=
  bif (a0.Kind==9) then Kg (a0,(a0.Kind==9)) else (Kg (a0,(a0.Kind==10)))
def Gh (a0:Int):Option Bool:=
  ((gW a0 97 122).bind fun r4=>bif r4 then some true else ((gW a0 65 90).bind fun r5=>bif r5 then some true else (some (a0==95)))).bind fun y3=>some y3
def Gi (a0:Int):Option Bool:=
  (gW a0 48 57).bind fun r2=>some r2
def Ki (a0:Int):Option Bool:=
  ((Gh a0).bind fun r4=>bif r4 then some true else ((Gi a0).bind fun r5=>some r5)).bind fun y3=>some y3
def zG (N:Nat):Nat→(LU×Int)→Option Bool
  | 0,_=>none
  | n1+1,(a0,bC)=>bif (decide (bC < (a0.length:Int))) then (ix a0 bC).bind fun BQ=>(Ki (IntKind.wrap .i64 ((BQ).toNat:Int))).bind fun za=>bif (!za) then some false else ((zG N n1) (a0,(IntKind.wrap .i64 (bC+1)))) else (((gW (a0.length:Int) 1 12).bind fun Jr=>bif Jr then (ix a0 0).bind fun BR=>(Gh (IntKind.wrap .i64 ((BR).toNat:Int))).bind fun ze=>some ze else (some false)).bind fun BS=>some BS)
def Kj (N:Nat) (a0:LU):Option Bool:=
  zG N N (a0,0)
def Kk:Option aV:=
  some [[66,69,71,73,78],[69,78,68],[102,117,110,99,116,105,111,110],[105,102],[101,108,115,101],[119,104,105,108,101],[102,111,114],[100,111],[98,114,101,97,107],[99,111,110,116,105,110,117,101],[110,101,120,116],[101,120,105,116],[114,101,116,117,114,110],[100,101,108,101,116,101],[105,110],[112,114,105,110,116],[112,114,105,110,116,102]]
def Ct (N:Nat):Nat→(aV×LU×Int)→Option Int
  | 0,_=>none
  | n1+1,(a0,a1,bP)=>bif (decide (bP < (a0.length:Int))) then (ix a0 bP).bind fun e28=>bif (e28==a1) then some bP else ((Ct N n1) (a0,a1,(IntKind.wrap .i64 (bP+1)))) else (some (-1))
def Kl (N:Nat) (a0:aV) (a1:LU):Option Int:=
  Ct N N (a0,a1,0)
def Km (N:Nat) (a0:LU):Option Int:=
  Option.bind Kk fun r3=>(Kl N r3 a0).bind fun r4=>bif (decide (r4 < 0)) then some 0 else (some (IntKind.wrap .i64 (10+r4)))
def OB:Option aV:=
  some [[97,116,97,110,50],[99,108,111,115,101],[99,111,115],[101,120,112],[103,115,117,98],[105,110,100,101,120],[105,110,116],[108,101,110,103,116,104],[108,111,103],[109,97,116,99,104],[114,97,110,100],[115,105,110],[115,112,108,105,116],[115,112,114,105,110,116,102],[115,113,114,116],[115,114,97,110,100],[115,117,98],[115,117,98,115,116,114],[115,121,115,116,101,109],[116,111,108,111,119,101,114],[116,111,117,112,112,101,114]]
def Cu (N:Nat) (a0:LU):Option Bool:=
  Option.bind OB fun r3=>(Kl N r3 a0).bind fun r4=>some (decide (r4≥0))
def zH (N:Nat) (a0:LU):Option Bool:=
  ((Kj N a0).bind fun r5=>bif r5 then (Km N a0).bind fun r6=>bif (r6==0) then (Cu N a0).bind fun r7=>some (!r7) else (some false) else (some false)).bind fun y4=>some y4
def Cv (N:Nat):Nat→(LU×Int)→Option Bool
  | 0,_=>none
  | n1+1,(a0,bP)=>bif (decide (bP < (a0.length:Int))) then (ix a0 bP).bind fun ZQ=>bif (((ZQ).toNat:Int)==10) then some false else ((Cv N n1) (a0,(IntKind.wrap .i64 (bP+1)))) else (some true)
def Kn (N:Nat) (a0:LU):Option Bool:=
  Cv N N (a0,0)
def rX (a0:LU) (a1:Int):Option Int:=
  (bif (decide (a1 < 0)) then some true else (some (decide (a1≥(a0.length:Int))))).bind fun y2=>bif y2 then some (-1) else ((ix a0 a1).bind fun b4=>some (IntKind.wrap .i64 ((b4).toNat:Int)))
def Cw (N:Nat):Nat→(LU×Int)→Option Int
  | 0,_=>none
  | n1+1,(a0,a1)=>(rX a0 a1).bind fun kY=>(Gi kY).bind fun iy=>bif iy then (Cw N n1) (a0,(IntKind.wrap .i64 (a1+1))) else (some a1)
def Cx (N:Nat) (a0:LU) (a1:Int):Option Int:=
  Cw N N (a0,a1)
def Ko (N:Nat):Int→Option Int
  | y9=>some y9
def Gj (N:Nat):(LU×Int×Int)→Option Int
  | (a0,y9,nJ)=>(Cx N a0 nJ).bind fun Cc=>bif (decide (Cc > nJ)) then (Cx N a0 nJ).bind fun xg=>some xg else (Ko N y9)
def Gl (N:Nat):(LU×Int×Int)→Option Int
  | (a0,a1,y9)=>bif (y9==a1) then some (-1) else (((rX a0 y9).bind fun kY=>bif (kY==101) then some true else ((rX a0 y9).bind fun iy=>some (iy==69))).bind fun y32=>bif y32 then ((rX a0 (IntKind.wrap .i64 (y9+1))).bind fun Cy=>bif (Cy==43) then some true else ((rX a0 (IntKind.wrap .i64 (y9+1))).bind fun Cz=>some (Cz==45))).bind fun pX=>bif pX then Gj N (a0,y9,(IntKind.wrap .i64 ((IntKind.wrap .i64 (y9+1))+1))) else (Gj N (a0,y9,(IntKind.wrap .i64 (y9+1)))) else (Ko N y9))
def Gm (N:Nat) (a0:LU) (a1:Int):Option Int:=
  bif (decide (a1 < 0)) then some (-1) else ((Cx N a0 a1).bind fun r2=>(rX a0 r2).bind fun ZR=>bif (ZR==46) then (Cx N a0 (IntKind.wrap .i64 (r2+1))).bind fun Kq=>(bif (r2==a1) then some (Kq==(IntKind.wrap .i64 (r2+1))) else (some false)).bind fun SV=>bif SV then some (-1) else (Gl N (a0,a1,Kq)) else (Gl N (a0,a1,r2)))
def Gn (N:Nat) (fD:(LU×Int×Int)→Option Int):(LU×Int×Int)→Option Int
  | (a0,a2,yI)=>fD (a0,a2,(IntKind.wrap .i64 (yI+1)))
def xq (N:Nat):Nat→(LU×Int×Int)→Option Int
  | 0,_=>none
  | n1+1,(a0,a2,nN)=>bif (decide (nN < (a0.length:Int))) then (ix a0 nN).bind fun OC=>bif ((IntKind.wrap .i64 ((OC).toNat:Int))==a2) then some (IntKind.wrap .i64 (nN+1)) else (bif ((IntKind.wrap .i64 ((OC).toNat:Int))==10) then some (-1) else (bif ((IntKind.wrap .i64 ((OC).toNat:Int))==92) then (rX a0 (IntKind.wrap .i64 (nN+1))).bind fun zm=>bif (zm==10) then some (-1) else (Gn N (xq N n1) (a0,a2,(IntKind.wrap .i64 (nN+1)))) else (Gn N (xq N n1) (a0,a2,nN)))) else (some (-1))
def Gp (N:Nat) (a0:LU) (a1:Int) (a2:Int):Option Int:=
  (rX a0 a1).bind fun r4=>bif (r4 !=a2) then some (-1) else (xq N N (a0,a2,(IntKind.wrap .i64 (a1+1))))
def CB (N:Nat) (a0:LU) (a1:Int):Option Int:=
  (Gp N a0 a1 34).bind fun r2=>some r2
def CF (N:Nat) (a0:LU) (a1:Int):Option Int:=
  (Gp N a0 a1 47).bind fun r2=>bif (r2==(IntKind.wrap .i64 (a1+2))) then some (-1) else (some r2)
def OD:Option aV:=
  some [[123],[125],[40],[41],[91],[93],[44],[59],[43,61],[45,61],[42,61],[47,61],[37,61],[94,61],[124,124],[38,38],[33,126],[61,61],[60,61],[62,61],[33,61],[43,43],[45,45],[62,62],[61],[43],[45],[42],[47],[37],[94],[33],[62],[60],[124],[63],[58],[126],[36]]
def Kr (a0:Int):Option LU:=
  bif (a0==1) then some [10] else ((gW a0 10 26).bind fun bV=>bif bV then Option.bind Kk fun Kh=>(ix Kh (IntKind.wrap .i64 (a0 - 10))).bind fun e18=>some e18 else ((gW a0 30 68).bind fun fU=>bif fU then Option.bind OD fun aJ=>(ix aJ (IntKind.wrap .i64 (a0 - 30))).bind fun e24=>some e24 else (some [])))
def zI (N:Nat):(jJ×Bool)→Option Bool
  | (a0,oD)=>bif oD then (zH N a0.Text).bind fun r32=>some r32 else (bif (a0.Kind==8) then (Cu N a0.Text).bind fun iy=>some iy else ((bif (!(a0.Text==[])) then (Kr a0.Kind).bind fun pW=>some (pW==a0.Text) else (some false)).bind fun pO=>some pO))
def zJ (N:Nat) (a0:jJ):Option Bool:=
  bif (a0.Kind==2) then (bif (decide ((a0.Text.length:Int) > 0)) then (ix a0.Text 0).bind fun ZT=>bif (((ZT).toNat:Int)==35) then (Kn N a0.Text).bind fun eB=>some eB else (some false) else (some false)).bind fun y20=>some y20 else (bif (a0.Kind==3) then (bif (decide ((a0.Text.length:Int) > 0)) then (Gm N a0.Text 0).bind fun iR=>some (iR==(a0.Text.length:Int)) else (some false)).bind fun y24=>some y24 else (bif (a0.Kind==4) then (CB N a0.Text 0).bind fun bq=>some (bq==(a0.Text.length:Int)) else (bif (a0.Kind==5) then (CF N a0.Text 0).bind fun iT=>some (iT==(a0.Text.length:Int)) else (bif (a0.Kind==6) then zI N (a0,(a0.Kind==6)) else (zI N (a0,(a0.Kind==7)))))))
def xu (N:Nat):(ak×Bool)→Option Bool
  | (a0,OE)=>bif OE then ((zH N a0.Text).bind fun iT=>bif iT then some (a0.Other==[]) else (some false)).bind fun y28=>some y28 else (bif (a0.Kind==2) then ((zJ N (⟨3,a0.Text,0⟩:jJ)).bind fun r32=>bif r32 then some (a0.Other==[]) else (some false)).bind fun y31=>some y31 else (bif (a0.Kind==3) then ((zJ N (⟨4,a0.Text,0⟩:jJ)).bind fun pV=>bif pV then some (a0.Other==[]) else (some false)).bind fun y34=>some y34 else (bif (a0.Kind==4) then ((zJ N (⟨5,a0.Text,0⟩:jJ)).bind fun tX=>bif tX then some (a0.Other==[]) else (some false)).bind fun fE=>some fE else (bif (a0.Kind==34) then ((zJ N (⟨2,a0.Text,0⟩:jJ)).bind fun ZU=>bif ZU then some (a0.Other==[]) else (some false)).bind fun nJ=>some nJ else (bif (a0.Kind==8) then ((Cu N a0.Text).bind fun xg=>bif xg then some (a0.Other==[]) else (some false)).bind fun nN=>some nN else (bif (a0.Kind==32) then ((zH N a0.Text).bind fun Cy=>bif Cy then (zH N a0.Other).bind fun Cz=>some Cz else (some false)).bind fun pX=>some pX else (bif (a0.Kind==21) then (bif (a0.Text==[]) then bif (a0.Other==[]) then some true else (bif (a0.Other==[62]) then some true else (bif (a0.Other==[62,62]) then some true else (some (a0.Other==[124])))) else (some false)).bind fun EZ=>some EZ else ((bif (a0.Text==[]) then some (a0.Other==[]) else (some false)).bind fun eU=>some eU))))))))
def Gq (N:Nat) (a0:ak):Option Bool:=
  bif (a0.Kind==1) then xu N (a0,(a0.Kind==1)) else (bif (a0.Kind==5) then xu N (a0,(a0.Kind==5)) else (bif (a0.Kind==7) then xu N (a0,(a0.Kind==7)) else (bif (a0.Kind==13) then xu N (a0,(a0.Kind==13)) else (bif (a0.Kind==27) then xu N (a0,(a0.Kind==27)) else (xu N (a0,(a0.Kind==44)))))))
def qm (N:Nat) (a0:ak):Option Bool:=
  (vv a0).bind fun r2=>((gW a0.Kind 1 16).bind fun r7=>bif r7 then some true else ((gW a0.Kind 20 34).bind fun r8=>bif r8 then some true else ((gW a0.Kind 40 45).bind fun r9=>some r9))).bind fun y6=>(bif y6 then (Gg a0).bind fun bV=>bif bV then (Gq N a0).bind fun kD=>bif kD then (gW (a0.Kids.length:Int) r2.1 r2.2).bind fun r16=>some r16 else (some false) else (some false) else (some false)).bind fun y13=>some y13
def Gr (a0:Int):Option Bool:=
  (bif (a0==1) then some true else (bif (a0==5) then some true else (some (a0==6)))).bind fun y1=>some y1
def ji (a0:Int):Option Bool:=
  (gW a0 1 15).bind fun r2=>some r2
def Kt (a0:Int):Option Bool:=
  (gW a0 20 34).bind fun r2=>some r2
def oM:(Int×Int×ak×Bool)→Option Bool
  | (a1,a2,a0,rR)=>bif rR then some (a2==33) else (bif (a0.Kind==33) then (Kt a2).bind fun JQ=>some JQ else (bif (a0.Kind==42) then (bif (a0.Op==1) then (ji a2).bind fun Jb=>bif Jb then some true else (bif (a0.Op==2) then bif (a2==33) then some true else (bif (a0.Op==3) then bif (a1==(IntKind.wrap .i64 ((a0.Kids.length:Int) - 1))) then bif (a2==33) then some true else (bif (!(a1==(IntKind.wrap .i64 ((a0.Kids.length:Int) - 1)))) then (ji a2).bind fun ZV=>some ZV else (some false)) else (bif (!(a1==(IntKind.wrap .i64 ((a0.Kids.length:Int) - 1)))) then (ji a2).bind fun nL=>some nL else (some false)) else (some false)) else (bif (a0.Op==3) then bif (a1==(IntKind.wrap .i64 ((a0.Kids.length:Int) - 1))) then bif (a2==33) then some true else (bif (!(a1==(IntKind.wrap .i64 ((a0.Kids.length:Int) - 1)))) then (ji a2).bind fun wG=>some wG else (some false)) else (bif (!(a1==(IntKind.wrap .i64 ((a0.Kids.length:Int) - 1)))) then (ji a2).bind fun Jc=>some Jc else (some false)) else (some false))) else (bif (a0.Op==2) then bif (a2==33) then some true else (bif (a0.Op==3) then bif (a1==(IntKind.wrap .i64 ((a0.Kids.length:Int) - 1))) then bif (a2==33) then some true else (bif (!(a1==(IntKind.wrap .i64 ((a0.Kids.length:Int) - 1)))) then (ji a2).bind fun ZW=>some ZW else (some false)) else (bif (!(a1==(IntKind.wrap .i64 ((a0.Kids.length:Int) - 1)))) then (ji a2).bind fun zK=>some zK else (some false)) else (some false)) else (bif (a0.Op==3) then bif (a1==(IntKind.wrap .i64 ((a0.Kids.length:Int) - 1))) then bif (a2==33) then some true else (bif (!(a1==(IntKind.wrap .i64 ((a0.Kids.length:Int) - 1)))) then (ji a2).bind fun wH=>some wH else (some false)) else (bif (!(a1==(IntKind.wrap .i64 ((a0.Kids.length:Int) - 1)))) then (ji a2).bind fun yU=>some yU else (some false)) else (some false)))).bind fun SX=>some SX else (bif (a0.Kind==43) then (bif (decide (a1 < 2)) then (ji a2).bind fun ZX=>bif ZX then some true else (bif (a1==2) then some (a2==33) else (some false)) else (bif (a1==2) then some (a2==33) else (some false))).bind fun uf=>some uf else (bif (a0.Kind==44) then (bif (a1==(IntKind.wrap .i64 ((a0.Kids.length:Int) - 1))) then bif (a2==33) then some true else (bif (!(a1==(IntKind.wrap .i64 ((a0.Kids.length:Int) - 1)))) then some (a2==1) else (some false)) else (bif (!(a1==(IntKind.wrap .i64 ((a0.Kids.length:Int) - 1)))) then some (a2==1) else (some false))).bind fun y99=>some y99 else (bif (a0.Kind==45) then ((gW a2 40 44).bind fun IY=>bif IY then some true else (some (a2==34))).bind fun y101=>some y101 else ((ji a2).bind fun ZY=>some ZY))))))
def jN:(Int×Int×ak×Bool)→Option Bool
  | (a1,a2,a0,ou)=>bif ou then (Gr a2).bind fun r54=>some r54 else (bif (a0.Kind==15) then ((ji a2).bind fun Ku=>bif Ku then bif (decide (a1 > 0)) then some true else ((Gr a2).bind fun ze=>some ze) else (some false)).bind fun SY=>some SY else (bif (a0.Kind==28) then (bif (a1==0) then (ji a2).bind fun zm=>bif zm then some true else (bif (decide (a1 > 0)) then some (a2==33) else (some false)) else (bif (decide (a1 > 0)) then some (a2==33) else (some false))).bind fun wU=>some wU else (bif (a0.Kind==29) then (bif (a1==0) then (ji a2).bind fun r65=>bif r65 then some true else (bif (a1==1) then some (a2==33) else (some false)) else (bif (a1==1) then some (a2==33) else (some false))).bind fun qd=>some qd else (bif (a0.Kind==30) then (bif (a1==0) then bif (a2==33) then some true else (bif (a1==1) then (ji a2).bind fun BF=>some BF else (some false)) else (bif (a1==1) then (ji a2).bind fun Kv=>some Kv else (some false))).bind fun rQ=>some rQ else (bif (a0.Kind==31) then (bif (decide (a1 < 3)) then (ji a2).bind fun r73=>bif r73 then some true else (bif (a2==16) then some true else (bif (a1==3) then some (a2==33) else (some false))) else (bif (a1==3) then some (a2==33) else (some false))).bind fun ow=>some ow else (bif (a0.Kind==32) then oM (a1,a2,a0,(a0.Kind==32)) else (bif (a0.Kind==40) then oM (a1,a2,a0,(a0.Kind==40)) else (oM (a1,a2,a0,(a0.Kind==41))))))))))
def iA (a0:ak) (a1:Int) (a2:Int):Option Bool:=
  bif (a0.Kind==9) then jN (a1,a2,a0,(a0.Kind==9)) else (jN (a1,a2,a0,(a0.Kind==10)))
def oN (N:Nat) (fD:(LN×Int)→Option Bool):Nat→(LN×Int×Int)→Option Bool
  | 0,_=>none
  | n2+1,(a0,mh,xw)=>(ix a0 mh).bind fun Ta=>bif (decide (xw < (Ta.Kids.length:Int))) then (ix a0 mh).bind fun Td=>(ix a0 mh).bind fun aaf=>(ix aaf.Kids xw).bind fun aag=>(ix a0 aag).bind fun Te=>(iA Td xw Te.Kind).bind fun aah=>bif (!aah) then some false else ((oN N fD n2) (a0,mh,(IntKind.wrap .i64 (xw+1)))) else (fD (a0,(IntKind.wrap .i64 (mh+1))))
def jy (N:Nat):Nat→(LN×Int)→Option Bool
  | 0,_=>none
  | n1+1,(a0,mh)=>bif (decide (mh < (a0.length:Int))) then (ix a0 mh).bind fun Tf=>(qm N Tf).bind fun aai=>bif (!aai) then some false else (oN N (jy N n1) N (a0,mh,0)) else (some true)
def bM (N:Nat) (a0:LN):Option Bool:=
  ((vO N a0).bind fun r9=>bif (!r9) then some true else ((Kc N a0).bind fun dP=>some (decide (dP > 40)))).bind fun y8=>bif y8 then some false else (jy N N (a0,0))
def fG (N:Nat) (a0:LN):Option Bool:=
  ((bM N a0).bind fun r5=>bif r5 then (ix a0 (IntKind.wrap .i64 ((a0.length:Int) - 1))).bind fun e6=>(ji e6.Kind).bind fun r7=>some r7 else (some false)).bind fun y4=>some y4
def Gt (N:Nat) (a0:LN) (a1:Int):Option LN:=
  (Ka N a0).bind fun r2=>(ix r2.1 a1).bind fun e7=>(cut a0 e7 (IntKind.wrap .i64 (a1+1))).bind fun l8=>(ix r2.1 a1).bind fun e9=>(yM N l8 (IntKind.wrap .i64 (0 - e9))).bind fun dP=>some dP
def CG (N:Nat):Nat→((List Int)×(List Int)×Int)→Option Bool
  | 0,_=>none
  | n1+1,(a0,a1,bC)=>bif (decide (bC < (a0.length:Int))) then (ix a0 bC).bind fun e51=>(ix a1 bC).bind fun e52=>bif (e51 !=e52) then some false else ((CG N n1) (a0,a1,(IntKind.wrap .i64 (bC+1)))) else (some true)
def Kw (N:Nat) (a0:List Int) (a1:List Int):Option Bool:=
  bif ((a0.length:Int) !=(a1.length:Int)) then some false else (CG N N (a0,a1,0))
def CJ (N:Nat):Nat→(LN×LN×Int)→Option Bool
  | 0,_=>none
  | n1+1,(a0,a1,iG)=>bif (decide (iG < (a0.length:Int))) then ((ix a0 iG).bind fun e270=>(ix a1 iG).bind fun e271=>bif (e270.Kind !=e271.Kind) then some true else ((ix a0 iG).bind fun e272=>(ix a1 iG).bind fun e273=>bif (e272.Op !=e273.Op) then some true else ((ix a0 iG).bind fun e274=>(ix a1 iG).bind fun e275=>bif (!(e274.Text==e275.Text)) then some true else ((ix a0 iG).bind fun aaj=>(ix a1 iG).bind fun aak=>bif (!(aaj.Other==aak.Other)) then some true else ((ix a0 iG).bind fun e278=>(ix a1 iG).bind fun e279=>(Kw N e278.Kids e279.Kids).bind fun aal=>some (!aal)))))).bind fun Ti=>bif Ti then some false else ((CJ N n1) (a0,a1,(IntKind.wrap .i64 (iG+1)))) else (some true)
def nO (N:Nat) (a0:LN) (a1:LN):Option Bool:=
  bif ((a0.length:Int) !=(a1.length:Int)) then some false else (CJ N N (a0,a1,0))
structure Ky where
  mo:LN→Int→LN→Int→LH→Option (LH×Bool)
def CK (N:Nat) (R:Ky):Nat→(LN×Int×LN×Int×Int×LH)→Option (LH×Bool)
  | 0,_=>none
  | n1+1,(a0,a1,a2,a3,iG,Gu)=>(ix a0 a1).bind fun Tj=>bif (decide (iG < (Tj.Kids.length:Int))) then (ix a0 a1).bind fun e234=>(ix e234.Kids iG).bind fun Tm=>(ix a2 a3).bind fun aam=>(ix aam.Kids iG).bind fun e237=>(R.mo a0 Tm a2 e237 Gu).bind fun Kz=>bif (!Kz.2) then some (Kz.1,false) else ((CK N R n1) (a0,a1,a2,a3,(IntKind.wrap .i64 (iG+1)),Kz.1)) else (some (Gu,true))
def KC (N:Nat) (R:Ky) (a0:LN) (a1:Int) (a2:LN) (a3:Int) (p0:LH):Option (LH×Bool):=
  (ix a0 a1).bind fun e25=>(BI e25).bind fun gB=>bif gB then (Gt N a2 a3).bind fun gV=>(ix a0 a1).bind fun e31=>(Jd N e31.Text p0).bind fun r32=>bif r32.2 then (nO N r32.1 gV).bind fun kr=>some (p0,kr) else ((ix a0 a1).bind fun e41=>(app 40 p0 [(⟨e41.Text,gV⟩:fA)]).bind fun x42=>(ix a2 a3).bind fun e43=>(ji e43.Kind).bind fun xg=>some (x42,xg)) else (((ix a0 a1).bind fun e77=>(ix a2 a3).bind fun e78=>bif (e77.Kind !=e78.Kind) then some true else ((ix a0 a1).bind fun e79=>(ix a2 a3).bind fun e80=>bif (e79.Op !=e80.Op) then some true else ((ix a0 a1).bind fun e81=>(ix a2 a3).bind fun e82=>bif (!(e81.Text==e82.Text)) then some true else ((ix a0 a1).bind fun e83=>(ix a2 a3).bind fun Co=>bif (!(e83.Other==Co.Other)) then some true else ((ix a0 a1).bind fun Tp=>(ix a2 a3).bind fun Cg=>some ((Tp.Kids.length:Int) !=(Cg.Kids.length:Int))))))).bind fun uV=>bif uV then some (p0,false) else (CK N R N (a0,a1,a2,a3,0,p0)))
def zL:Nat→Ky
  | 0=>⟨fun _ _ _ _ _=>none⟩
  | N+1=>⟨fun a0 a1 a2 a3 p0=>KC N (zL N) a0 a1 a2 a3 p0⟩
def mo (N:Nat) (a0:LN) (a1:Int) (a2:LN) (a3:Int) (p0:LH):Option (LH×Bool):=(zL N).mo a0 a1 a2 a3 p0
def pG (N:Nat) (a0:LN) (a1:LN):Option (LH×Bool):=
  ((fG N a0).bind fun r9=>bif (!r9) then some true else ((fG N a1).bind fun dP=>some (!dP))).bind fun y8=>bif y8 then some ([],false) else ((mo N a0 (IntKind.wrap .i64 ((a0.length:Int) - 1)) a1 (IntKind.wrap .i64 ((a1.length:Int) - 1)) []).bind fun bS=>bif (!bS.2) then some ([],false) else (some (bS.1,true)))
def OG (pa:Int) (pb:Int) (pc:LU) (fF:LU) (fH:List Int) (p2:aV):Option aV:=
  (app 16 p2 [pc]).bind fun x2=>some x2
def OH (pa:Int) (pb:Int) (pc:LU) (fF:LU) (fH:List Int) (p2:aV):Option aV:=
  (app 16 p2 [fF]).bind fun x2=>some x2
def Gv (pa:Int) (pb:Int) (pc:LU) (fF:LU) (fH:List Int):aV→Option aV
  | y4=>bif (pa==32) then (OH pa pb pc fF fH y4).bind fun r6=>some r6 else (some y4)
def um (pa:Int) (pb:Int) (pc:LU) (fF:LU) (fH:List Int):(aV×Bool)→Option aV
  | (p2,y7)=>bif y7 then (OG pa pb pc fF fH p2).bind fun r9=>Gv pa pb pc fF fH r9 else (Gv pa pb pc fF fH p2)
def KD (pa:Int) (pb:Int) (pc:LU) (fF:LU) (fH:List Int) (p2:aV):Option aV:=
  bif (pa==1) then um pa pb pc fF fH (p2,(pa==1)) else (bif (pa==5) then um pa pb pc fF fH (p2,(pa==5)) else (bif (pa==13) then um pa pb pc fF fH (p2,(pa==13)) else (bif (pa==27) then um pa pb pc fF fH (p2,(pa==27)) else (um pa pb pc fF fH (p2,(pa==32))))))
def Tq (p0:aV):Option aV:=
  EX p0
def Tt (p0:aV):Option aV:=
  EY p0
def KE (p0:aV):Option aV:=
  (Tq p0).bind fun r2=>(Tt r2).bind fun r4=>some r4
def CP (N:Nat):Nat→(LN×Int×aV)→Option aV
  | 0,_=>none
  | n1+1,(a0,fE,y38)=>bif (decide (fE < (a0.length:Int))) then (ix a0 fE).bind fun e54=>(KD e54.Kind e54.Op e54.Text e54.Other e54.Kids y38).bind fun mV=>(CP N n1) (a0,(IntKind.wrap .i64 (fE+1)),mV) else ((KE y38).bind fun Ku=>some Ku)
def OI (N:Nat) (a0:LN):Option aV:=
  CP N N (a0,0,[])
def KF (a0:ak) (pa:LU):Option Bool:=
  ((Ci a0).bind fun r3=>bif r3 then some (a0.Text==pa) else (some false)).bind fun y2=>some y2
def CQ (N:Nat) (pa:LU):Nat→(LN×Int)→Option Int
  | 0,_=>none
  | n1+1,(a0,bC)=>bif (decide (bC < (a0.length:Int))) then (ix a0 bC).bind fun e51=>(KF e51 pa).bind fun za=>bif za then some bC else ((CQ N pa n1) (a0,(IntKind.wrap .i64 (bC+1)))) else (some (-1))
def OJ (N:Nat) (a0:LN) (pa:LU):Option Int:=
  CQ N pa N (a0,0)
def OL (N:Nat) (a0:LN) (pa:LU):Option Bool:=
  (OJ N a0 pa).bind fun r2=>some (decide (r2≥0))
def KG (N:Nat) (a0:LN) (a1:LU):Option Bool:=
  (OL N a0 a1).bind fun r2=>some r2
def OM (a0:aj) (a1:LS):Option aj:=
  some (⟨a0.kind,a0.op,a0.text,a0.other,a1⟩:aj)
structure Gw where
  nP:aj→(List aM)→Option aj
def CS (N:Nat) (R:Gw):Nat→((List aM)×aj×Int)→Option aj
  | 0,_=>none
  | n1+1,(a1,a0,eU)=>bif (decide (eU < (a1.length:Int))) then (ix a1 eU).bind fun e60=>bif (e60.name==a0.text) then some e60.tree else ((CS N R n1) (a1,a0,(IntKind.wrap .i64 (eU+1)))) else (some a0)
def zM (N:Nat) (R:Gw):Nat→((List aM)×aj×Int×LS)→Option aj
  | 0,_=>none
  | n2+1,(a1,a0,y113,y114)=>bif (decide (y113 < (a0.kids.length:Int))) then (ix a0.kids y113).bind fun ug=>(R.nP ug a1).bind fun mq=>(app 72 y114 [mq]).bind fun OO=>(zM N R n2) (a1,a0,(IntKind.wrap .i64 (y113+1)),OO) else ((OM a0 y114).bind fun iF=>some iF)
def KH (N:Nat) (R:Gw) (a0:aj) (a1:List aM):Option aj:=
  (FZ a0).bind fun r32=>bif r32 then CS N R N (a1,a0,0) else (zM N R N (a1,a0,0,[]))
def xA:Nat→Gw
  | 0=>⟨fun _ _=>none⟩
  | N+1=>⟨fun a0 a1=>KH N (xA N) a0 a1⟩
def nP (N:Nat) (a0:aj) (a1:List aM):Option aj:=(xA N).nP a0 a1
def vB (N:Nat) (fD:(LN×LH×aV×Int×(List aM)×aV)→Option LN):(LN×LH×Int×aV×(List aM)×aV)→Option LN
  | (a0,a1,kH,r6,jL,KI)=>fD (a0,a1,r6,(IntKind.wrap .i64 (kH+1)),jL,KI)
def mD (N:Nat):Nat→(LN×LH×aV×Int×(List aM)×aV)→Option LN
  | 0,_=>none
  | n1+1,(a0,a1,r6,kH,qo,xB)=>bif (decide (kH < (a1.length:Int))) then (ix a1 kH).bind fun kI=>(uh N xB kI.Name).bind fun aav=>bif aav then vB N (mD N n1) (a0,a1,kH,r6,qo,xB) else ((app 16 xB [kI.Name]).bind fun zN=>(bif ((kI.Part.length:Int)==0) then some true else ((uh N r6 kI.Name).bind fun aaw=>some (!aaw))).bind fun Tv=>bif Tv then vB N (mD N n1) (a0,a1,kH,r6,qo,zN) else ((FH N kI.Part).bind fun aax=>bif (!aax) then (KG N a0 kI.Name).bind fun aay=>bif aay then some [] else (vB N (mD N n1) (a0,a1,kH,r6,qo,zN)) else ((oK N kI.Part).bind fun qY=>(app 88 qo [(⟨kI.Name,qY⟩:aM)]).bind fun Tw=>vB N (mD N n1) (a0,a1,kH,r6,Tw,zN)))) else ((oK N a0).bind fun KJ=>(nP N KJ qo).bind fun KL=>(zq N KL).bind fun zO=>(kZ N zO).bind fun r400=>bif (!r400) then some [] else (some zO))
def Gx (N:Nat) (a0:LN) (a1:LH):Option LN:=
  (qh N a0).bind fun r4=>bif (!r4) then some [] else ((OI N a0).bind fun r6=>mD N N (a0,a1,r6,0,[],[]))
def KM (N:Nat) (a0:LU):Option (LN×LN×LN):=
  (IL N a0).bind fun r2=>(mR N 2 r2.1 r2.2.1 r2.2.2).bind fun r4=>(Jk N r4.1 r2.1 r4.2.1 r4.2.2).bind fun r9=>(mR N 2 r2.1 r9.2.1 r9.2.2).bind fun dP=>some (r9.1,r4.1,dP.1)
def KN (a0:List Int):Option (List Int):=
  (app 8 [] a0).bind fun x2=>some x2
def CU (N:Nat):Nat→(LN×Int×LN)→Option LN
  | 0,_=>none
  | n1+1,(a0,zP,yH)=>bif (decide (zP < (a0.length:Int))) then (ix a0 zP).bind fun CV=>(KN CV.Kids).bind fun r78=>(app 72 yH [(⟨CV.Kind,CV.Op,CV.Text,CV.Other,r78⟩:ak)]).bind fun x80=>(CU N n1) (a0,(IntKind.wrap .i64 (zP+1)),x80) else (some yH)
def zQ (N:Nat) (a0:LN):Option LN:=
  CU N N (a0,0,[])
structure KO where
  qp:aj→Option Int
def zR (N:Nat) (R:KO):Nat→(aj×Int×Int)→Option Int
  | 0,_=>none
  | n1+1,(a0,fE,y38)=>bif (decide (y38 < (a0.kids.length:Int))) then (ix a0.kids y38).bind fun e54=>(R.qp e54).bind fun mV=>(zR N R n1) (a0,(IntKind.wrap .i64 (fE+mV)),(IntKind.wrap .i64 (y38+1))) else (some fE)
def Tx (N:Nat) (R:KO) (a0:aj):Option Int:=
  zR N R N (a0,1,0)
def CW:Nat→KO
  | 0=>⟨fun _=>none⟩
  | N+1=>⟨fun a0=>Tx N (CW N) a0⟩
def qp (N:Nat) (a0:aj):Option Int:=(CW N).qp a0
def KP (N:Nat) (a0:Int) (a1:aj) (pa:Bool) (dh:Int) (dn:Int) (dw:LU) (dx:LU) (dz:LS) (dA:Int) (dB:Int) (dD:LU) (dF:LU) (dG:LS):Option (LS×Bool):=
  (bif pa then (qp N a1).bind fun r3=>some (decide (r3≤400)) else (some false)).bind fun y2=>bif (!y2) then some ([a1],y2) else ((kG N (⟨dh,dn,dw,dx,dz⟩:aj) a1 []).bind fun r5=>bif (!r5.2) then some ([a1],y2) else ((nP N (⟨dA,dB,dD,dF,dG⟩:aj) r5.1).bind fun r7=>(qp N r7).bind fun r9=>some ([r7],(decide (r9≤400)))))
structure KQ where
  rY:LN→Int→Bool→Int→Int→LU→LU→LS→Int→Int→LU→LU→LS→Option (LS×Bool)
def zS (N:Nat) (R:KQ) (pa:Bool) (dh:Int) (dn:Int) (dw:LU) (dx:LU) (dz:LS) (dA:Int) (dB:Int) (dD:LU) (dF:LU) (dG:LS):Nat→(LN×Int×ak×Int×Bool×LS)→Option (LS×Bool)
  | 0,_=>none
  | n1+1,(a0,a1,e2,zT,CX,CY)=>bif (decide (zT < (e2.Kids.length:Int))) then (ix e2.Kids zT).bind fun Tz=>(R.rY a0 Tz CX dh dn dw dx dz dA dB dD dF dG).bind fun zK=>(app 72 CY zK.1).bind fun OP=>(zS N R pa dh dn dw dx dz dA dB dD dF dG n1) (a0,a1,e2,(IntKind.wrap .i64 (zT+1)),zK.2,OP) else ((KP N a1 (⟨e2.Kind,e2.Op,e2.Text,e2.Other,CY⟩:aj) CX dh dn dw dx dz dA dB dD dF dG).bind fun TB=>some (TB.1,TB.2))
def KR (N:Nat) (R:KQ) (a0:LN) (a1:Int) (pa:Bool) (dh:Int) (dn:Int) (dw:LU) (dx:LU) (dz:LS) (dA:Int) (dB:Int) (dD:LU) (dF:LU) (dG:LS):Option (LS×Bool):=
  (ix a0 a1).bind fun e2=>zS N R pa dh dn dw dx dz dA dB dD dF dG N (a0,a1,e2,0,pa,[])
def zU:Nat→KQ
  | 0=>⟨fun _ _ _ _ _ _ _ _ _ _ _ _ _=>none⟩
  | N+1=>⟨fun a0 a1 pa dh dn dw dx dz dA dB dD dF dG=>KR N (zU N) a0 a1 pa dh dn dw dx dz dA dB dD dF dG⟩
def rY (N:Nat) (a0:LN) (a1:Int) (pa:Bool) (dh:Int) (dn:Int) (dw:LU) (dx:LU) (dz:LS) (dA:Int) (dB:Int) (dD:LU) (dF:LU) (dG:LS):Option (LS×Bool):=(zU N).rY a0 a1 pa dh dn dw dx dz dA dB dD dF dG
def OQ (N:Nat) (a0:LN) (a1:Int) (pa:Bool) (dh:Int) (dn:Int) (dw:LU) (dx:LU) (dz:LS) (dA:Int) (dB:Int) (dD:LU) (dF:LU) (dG:LS):Option (LN×Bool×Bool):=
  ((kZ N a0).bind fun KS=>bif (!KS) then some true else ((ku a1 0 (IntKind.wrap .i64 ((a0.length:Int) - 1))).bind fun bS=>some (!bS))).bind fun jr=>bif jr then (zQ N a0).bind fun bV=>some (bV,false,pa) else ((rY N a0 (IntKind.wrap .i64 ((a0.length:Int) - 1)) pa dh dn dw dx dz dA dB dD dF dG).bind fun r16=>bif ((r16.1.length:Int) !=1) then (zQ N a0).bind fun fU=>some (fU,false,r16.2) else ((ix r16.1 0).bind fun e25=>(zq N e25).bind fun gB=>(kZ N gB).bind fun r32=>bif (!r32) then (zQ N a0).bind fun iy=>some (iy,false,r16.2) else (some (gB,true,r16.2))))
def zV (N:Nat) (a0:LN) (a1:LN) (a2:LN):Option (LN×Bool):=
  ((kZ N a0).bind fun fU=>bif (!fU) then some true else ((qh N a1).bind fun kC=>bif (!kC) then some true else ((qh N a2).bind fun eB=>bif (!eB) then some true else ((ix a1 (IntKind.wrap .i64 ((a1.length:Int) - 1))).bind fun e23=>(Ci e23).bind fun bW=>some bW)))).bind fun bP=>bif bP then (zQ N a0).bind fun gB=>some (gB,false) else ((oK N a1).bind fun iT=>(oK N a2).bind fun dQ=>(OQ N a0 0 true iT.kind iT.op iT.text iT.other iT.kids dQ.kind dQ.op dQ.text dQ.other dQ.kids).bind fun r32=>(bif (!r32.2.2) then some true else (some (!r32.2.1))).bind fun pO=>bif pO then (zQ N a0).bind fun tX=>some (tX,false) else (some (r32.1,true)))
structure Gy where
  lM:LN→Int→LN→LN→Option LN
def Gz (N:Nat) (R:Gy) (fD:(LN×Int×LN×LN×Int×Int×(List LN))→Option LN):LN→Option LN
  | wz=>bif (decide ((wz.length:Int) > 400)) then some [] else (some wz)
def qw (N:Nat) (R:Gy):Nat→(LN×Int×LN×LN×Int×Int×(List LN))→Option LN
  | 0,_=>none
  | n1+1,(a0,a1,a2,a3,zW,y104,zX)=>(ix a0 a1).bind fun ug=>bif (decide (y104 < (ug.Kids.length:Int))) then (ix a0 a1).bind fun FC=>(ix FC.Kids y104).bind fun TF=>(R.lM a0 TF a2 a3).bind fun lZ=>(bif ((lZ.length:Int)==0) then some true else (some (decide ((IntKind.wrap .i64 (zW+(lZ.length:Int))) > 400)))).bind fun TG=>bif TG then some [] else ((app 24 zX [lZ]).bind fun OT=>(qw N R n1) (a0,a1,a2,a3,(IntKind.wrap .i64 (zW+(lZ.length:Int))),(IntKind.wrap .i64 (y104+1)),OT)) else ((ix a0 a1).bind fun TH=>(iw N TH zX).bind fun qx=>(mo N a2 (IntKind.wrap .i64 ((a2.length:Int) - 1)) qx (IntKind.wrap .i64 ((qx.length:Int) - 1)) []).bind fun CZ=>bif CZ.2 then (lW N a3 (IntKind.wrap .i64 ((a3.length:Int) - 1)) CZ.1).bind fun zY=>Gz N R (qw N R n1) zY else (Gz N R (qw N R n1) qx))
def Da (N:Nat) (R:Gy) (a0:LN) (a1:Int) (a2:LN) (a3:LN):Option LN:=
  qw N R N (a0,a1,a2,a3,1,0,[])
def rZ:Nat→Gy
  | 0=>⟨fun _ _ _ _=>none⟩
  | N+1=>⟨fun a0 a1 a2 a3=>Da N (rZ N) a0 a1 a2 a3⟩
def lM (N:Nat) (a0:LN) (a1:Int) (a2:LN) (a3:LN):Option LN:=(rZ N).lM a0 a1 a2 a3
def Em (N:Nat) (a0:LN) (a1:LN):Option (LN×Bool):=
  (bM N a0).bind fun r6=>bif (!r6) then (vR N a1).bind fun r8=>some (r8,false) else (some (a0,true))
def rE (N:Nat) (a0:LN) (a1:LN) (a2:LN):Option (LN×Bool):=
  ((bM N a0).bind fun fU=>bif (!fU) then some true else ((fG N a1).bind fun kC=>bif (!kC) then some true else ((fG N a2).bind fun eB=>bif (!eB) then some true else ((ix a1 (IntKind.wrap .i64 ((a1.length:Int) - 1))).bind fun e23=>(BI e23).bind fun bW=>some bW)))).bind fun bP=>bif bP then (vR N a0).bind fun gB=>some (gB,false) else ((lM N a0 (IntKind.wrap .i64 ((a0.length:Int) - 1)) a1 a2).bind fun iT=>(Em N iT a0).bind fun dQ=>some (dQ.1,dQ.2))
def Db (N:Nat) (fD:(LN×aj×Int×(List Int))→Option (List Int)):(LN×Int×aj×(List Int))→Option (List Int)
  | (a0,kJ,bS,y158)=>fD (a0,bS,(IntKind.wrap .i64 (kJ+1)),y158)
def uq (N:Nat):Nat→(LN×aj×Int×(List Int))→Option (List Int)
  | 0,_=>none
  | n1+1,(a0,bS,kJ,qW)=>bif (decide (kJ < (a0.length:Int))) then (ix a0 kJ).bind fun TI=>(qU TI.Kind).bind fun KT=>bif (!KT) then Db N (uq N n1) (a0,kJ,bS,qW) else ((qc N a0 kJ).bind fun TJ=>(kG N bS TJ []).bind fun zY=>bif zY.2 then (app 8 qW [kJ]).bind fun TK=>Db N (uq N n1) (a0,kJ,bS,TK) else (Db N (uq N n1) (a0,kJ,bS,qW))) else (some qW)
def Dc (N:Nat) (a0:LN) (a1:LN):Option (List Int):=
  ((kZ N a0).bind fun r9=>bif (!r9) then some true else ((qh N a1).bind fun dP=>some (!dP))).bind fun y8=>bif y8 then some [] else ((oK N a1).bind fun bS=>uq N N (a0,bS,0,[]))
def GA (N:Nat) (a0:LN) (a1:Int):Option LN:=
  ((vO N a0).bind fun r9=>bif (!r9) then some true else ((gW a1 0 (IntKind.wrap .i64 ((a0.length:Int) - 1))).bind fun dP=>some (!dP))).bind fun y8=>bif y8 then some [] else ((Gt N a0 a1).bind fun bS=>some bS)
def uI (N:Nat) (fD:(LN×LN×Int×(List Int))→Option (List Int)):(LN×LN×Int×(List Int))→Option (List Int)
  | (a0,a1,eU,rQ)=>fD (a0,a1,(IntKind.wrap .i64 (eU+1)),rQ)
def om (N:Nat):Nat→(LN×LN×Int×(List Int))→Option (List Int)
  | 0,_=>none
  | n1+1,(a0,a1,eU,ou)=>bif (decide (eU < (a0.length:Int))) then (mo N a1 (IntKind.wrap .i64 ((a1.length:Int) - 1)) a0 eU []).bind fun Kv=>bif Kv.2 then (app 8 ou [eU]).bind fun TL=>uI N (om N n1) (a0,a1,eU,TL) else (uI N (om N n1) (a0,a1,eU,ou)) else (some ou)
def oO (N:Nat) (a0:LN) (a1:LN):Option (List Int):=
  ((bM N a0).bind fun r9=>bif (!r9) then some true else ((fG N a1).bind fun dP=>some (!dP))).bind fun y8=>bif y8 then some [] else (om N N (a0,a1,0,[]))
def vQ (N:Nat):Nat→((List Int)×(List Int)×Int)→Option Bool
  | 0,_=>none
  | n1+1,(a0,a1,bC)=>bif (decide (bC < (a0.length:Int))) then (ix a0 bC).bind fun e51=>(ix a1 bC).bind fun e52=>bif (e51 !=e52) then some false else ((vQ N n1) (a0,a1,(IntKind.wrap .i64 (bC+1)))) else (some true)
def qG (N:Nat) (a0:List Int) (a1:List Int):Option Bool:=
  bif ((a0.length:Int) !=(a1.length:Int)) then some false else (vQ N N (a0,a1,0))
def zZ (N:Nat):Nat→((LN×LN×LN)×(LN×Bool)×(LN×Bool)×(LN×Bool)×(List Int)×Int)→Option Bool
  | 0,_=>none
  | n1+1,(aJ,iR,bq,dQ,r32,Df)=>bif (decide (Df < (r32.length:Int))) then (ix r32 Df).bind fun OU=>(GA N aJ.1 OU).bind fun tZ=>(pG N aJ.2.1 tZ).bind fun IZ=>bif (!IZ.2) then some false else ((zZ N n1) (aJ,iR,bq,dQ,r32,(IntKind.wrap .i64 (Df+1)))) else (((nO N iR.1 aJ.1).bind fun lX=>bif lX then bif (bq.2==dQ.2) then bif bq.2 then bif (!iR.2) then (oO N aJ.1 aJ.2.1).bind fun mq=>(qG N r32 mq).bind fun BM=>bif BM then (bM N aJ.1).bind fun aaA=>(kZ N bq.1).bind fun iF=>some (aaA==iF) else (some false) else (bif (decide ((r32.length:Int) > 0)) then (oO N aJ.1 aJ.2.1).bind fun BK=>(qG N r32 BK).bind fun aaB=>bif aaB then (bM N aJ.1).bind fun aaC=>(kZ N bq.1).bind fun uU=>some (aaC==uU) else (some false) else ((nO N bq.1 aJ.1).bind fun lY=>bif lY then (oO N aJ.1 aJ.2.1).bind fun yY=>(qG N r32 yY).bind fun aaD=>bif aaD then (bM N aJ.1).bind fun qR=>(kZ N bq.1).bind fun uT=>some (qR==uT) else (some false) else (some false))) else ((nO N bq.1 aJ.1).bind fun lZ=>bif lZ then bif (!iR.2) then (oO N aJ.1 aJ.2.1).bind fun OV=>(qG N r32 OV).bind fun Jg=>bif Jg then (bM N aJ.1).bind fun aaE=>(kZ N bq.1).bind fun aaF=>some (aaE==aaF) else (some false) else (bif (decide ((r32.length:Int) > 0)) then (oO N aJ.1 aJ.2.1).bind fun OW=>(qG N r32 OW).bind fun aaG=>bif aaG then (bM N aJ.1).bind fun aaH=>(kZ N bq.1).bind fun qx=>some (aaH==qx) else (some false) else ((nO N bq.1 aJ.1).bind fun aaI=>bif aaI then (oO N aJ.1 aJ.2.1).bind fun OX=>(qG N r32 OX).bind fun CZ=>bif CZ then (bM N aJ.1).bind fun KT=>(kZ N bq.1).bind fun aaJ=>some (KT==aaJ) else (some false) else (some false))) else (some false)) else (some false) else (some false)).bind fun TM=>some TM)
def OY (N:Nat) (a0:LU):Option Bool:=
  (NQ a0).bind fun r4=>bif r4 then some true else ((Jl N a0).bind fun r6=>(Gf N r6.1 r6.2).bind fun r8=>(pG N r6.1 r6.2).bind fun KS=>bif (!(r8.2==KS.2)) then some false else ((bif r8.2 then (Gx N r6.1 r8.1).bind fun fU=>(nO N fU r6.2).bind fun kC=>bif (!kC) then some true else (bif (!r8.2) then some ((r8.1.length:Int) !=0) else (some false)) else (bif (!r8.2) then some ((r8.1.length:Int) !=0) else (some false))).bind fun bP=>bif bP then some false else ((KM N a0).bind fun aJ=>(zV N aJ.1 aJ.2.1 aJ.2.1).bind fun iR=>(zV N aJ.1 aJ.2.1 aJ.2.2).bind fun bq=>(rE N aJ.1 aJ.2.1 aJ.2.2).bind fun dQ=>(Dc N aJ.1 aJ.2.1).bind fun r32=>zZ N N (aJ,iR,bq,dQ,r32,0))))
end Go.Proofs.Tryz
