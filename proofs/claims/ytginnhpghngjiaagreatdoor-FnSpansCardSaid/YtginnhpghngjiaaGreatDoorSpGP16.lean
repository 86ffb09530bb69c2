/-
 Plain lemmas on the models, part 11.
-/
import Derived.Test.YtginnhpghngjiaaGreatDoorSpGP10
namespace Go.Proofs.Tryz
open Go.Av
set_option maxRecDepth 100000
set_option linter.all false
def lG (n:Int):Pg Int:=bif decide (n<=0) then .ret 0 else bif decide (n<=256) then .rd fun x=>.ret (Int.tmod x n) else .rd fun x=>.rd fun y=>.rd fun z=>.rd fun w=>.ret (Int.tmod (IntKind.wrap .i64<|(IntKind.wrap .i64<|(IntKind.wrap .i64<|(IntKind.wrap .i64<|x*16777216)+(IntKind.wrap .i64<|y*65536))+(IntKind.wrap .i64<|z*256))+w) n)
def Cv (n:Int):Pg Bool:=(lG n).bind fun r=>.ret (r==0)
def uU (l:List (List UInt8)):Pg (List UInt8):=(lG (l.length:Int)).bind fun r=>.ret (l[r.toNat]?.getD [])
def Eh (l:List Int):Pg Int:=(lG (l.length:Int)).bind fun r=>.ret (l[r.toNat]?.getD 0)
def adL:Pg (List UInt8):=uU [[48],[49],[52,50],[51,46,53],[46,53],[55,46],[49,101,51],[50,69,45,52],[49,48,46,50,53,101,43,49]]
def adM:Pg (List UInt8):=uU [[34,34],[34,97,34],[34,120,32,121,34],[34,113,92,34,113,34],[34,92,110,34],[34,35,110,111,34],[34,47,34]]
def adN:Pg (List UInt8):=uU [[47,97,47],[47,94,120,43,36,47],[47,97,92,47,98,47],[47,61,47],[47,32,47],[47,91,48,45,57,93,47]]
def Ig:Pg (List UInt8):=uU [[120],[121],[110],[105],[97,114,114],[78,82],[70,83],[116,111,116,97,108],[97,49],[95,116],[99,111,117,110,116]]
def adO:Pg Int:=Eh [60,57,58,59,55,56,56,99,99,99,63,48,47,50,62,62,49,67,46,45,44]
def fG (n:Int):Pg.Post (fun r=>0<=r/\(r < n\/n<=0/\r=0)) (lG n):=by
 unfold lG;cases h1:decide (n<=0) with
 | true=>exact .ret ⟨ah,.inr ⟨qp h1,rfl⟩⟩
 | false=>
  have h1:=RP h1;cases decide (n<=256) with
  | true=>exact .rd fun x hx _=>.ret ⟨afr _ hx,.inl<|afj _ ah⟩
  | false=>
   refine .rd fun x hx hx2=>.rd fun y hy hy2=>.rd fun z hz hz2=>.rd fun w hw hw2=>.ret ⟨afr _ ?_,.inl<|afj _ ah⟩;rw [wrap64 (n:=x*16777216) ah ah,wrap64 (n:=y*65536) ah ah,wrap64 (n:=x*16777216+y*65536) ah ah,wrap64 (n:=z*256) ah ah,wrap64 (n:=x*16777216+y*65536+z*256) ah ah,wrap64 ah ah];omega
def below_le (n:Int) (h:n<=256):Pg.Le (lG n) 1:=by
 unfold lG;cases decide (n<=0) with
 | true=>exact .ret
 | false=>rw [kP h];exact .rd fun _ _ _=>.ret
def uo (n:Int):Pg.Post (fun _=>True) (Cv n):=(fG n).bind fun _ _=>.ret trivial
def Vd (n:Int) (h:n<=256):Pg.Le (Cv n) 1:=Pg.fu.bind (fG n) (below_le n h) (m:=0) (fun _ _=>.ret) ah
def azA {P:List UInt8->Prop} (l:List (List UInt8)) (hl:0 < l.length) (h:∀ x,x∈l->P x):Pg.Post P (uU l):=(fG _).bind fun r hr=>.ret (by
 have hn:r.toNat < l.length:=ah;rw [fB hn];exact h _<|ou hn)
def JG (l:List (List UInt8)) (h:l.length<=256):Pg.Le (uU l) 1:=Pg.fu.bind (fG _) (below_le _ ah) (m:=0) (fun _ _=>.ret) ah
def Ve {P:Int->Prop} (l:List Int) (hl:0 < l.length) (h:∀ x,x∈l->P x):Pg.Post P (Eh l):=(fG _).bind fun r hr=>.ret (by
 have hn:r.toNat < l.length:=ah;rw [fB hn];exact h _<|ou hn)
def Zh (l:List Int) (h:l.length<=256):Pg.Le (Eh l) 1:=Pg.fu.bind (fG _) (below_le _ ah) (m:=0) (fun _ _=>.ret) ah
abbrev Sh (x:List UInt8):Prop:=x.length<=20
def uV (l:List (List UInt8)) (hl:0 < l.length) (h:(l.all fun x=>decide<|x.length<=20)=true):Pg.Post Sh (uU l):=azA l hl fun x hx=>qp (nP.1 h x hx)
def aiK:Pg.Post Sh adL:=uV _ aM aM
def aiL:Pg.Post Sh adM:=uV _ aM aM
def aiM:Pg.Post Sh adN:=uV _ aM aM
def qD:Pg.Post Sh Ig:=uV _ aM aM
def aiN:Pg.Post (fun _=>True) adO:=Ve _ aM fun _ _=>trivial
def azB:Pg.Le adL 1:=JG _ aM
def azC:Pg.Le adM 1:=JG _ aM
def azD:Pg.Le adN 1:=JG _ aM
def Qy:Pg.Le Ig 1:=JG _ aM
def azE:Pg.Le adO 1:=Zh _ aM
section
variable (b:List UInt8) (hb:b.length<=1048576)
include hb
theorem Zi (i:Nat) (h:Int) (hi:i<=b.length):Sm b (.rd .ret) (fun x=>x) i h (EY b (i:Int) h):=by
 unfold EY Ti Sm;show _=some (Pg.cb b i h,((Pg.nx b i:Nat):Int),nJ h);unfold Pg.cb Pg.nx;by_cases hlt:i < b.length
 .simp only [iT hlt,aS,bX hlt,av,fB hlt,bZ hlt];rw [wrap64 (n:=(i:Int)+1) ah ah];rfl
 .simp only [kG hlt,aJ,Da (show b.length<=i by omega),bA hlt];rfl
theorem wm (n:Int) (i:Nat) (h:Int) (hi:i<=b.length):Sm b (lG n) (fun x=>x) i h (jG n b (i:Int) h):=by
 unfold jG lG;have hp:Pg.Post (fun x:Int=>0<=x/\x<=255) (.rd .ret):=.rd fun x h1 h2=>.ret ⟨h1,h2⟩;refine Sm.cond (fun _=>Sm.ret) fun hc=>Sm.cond (fun _=>?_) fun _=>?_
 .have hc:=RP hc;have hn:(n==0)=false:=aU;refine Sm.bind (p:=.rd .ret) (q:=fun x=>.ret<|Int.tmod x n) hi hp (Zi b hb i h hi) fun x i h _ _=>?_;unfold Lc;simp only [hn,aJ,av];exact Sm.ret
 .have hc:=RP hc;have hn:(n==0)=false:=aU;refine Sm.bind (p:=.rd .ret) (q:=fun x=>.rd fun y=>.rd fun z=>.rd fun w=>.ret<|Int.tmod (IntKind.wrap .i64<|(IntKind.wrap .i64<|(IntKind.wrap .i64<|(IntKind.wrap .i64<|x*16777216)+(IntKind.wrap .i64<|y*65536))+(IntKind.wrap .i64<|z*256))+w) n) hi hp (Zi b hb i h hi) fun x i h _ hi=>?_;dsimp only;refine Sm.bind (p:=.rd .ret) (q:=fun y=>.rd fun z=>.rd fun w=>.ret<|Int.tmod (IntKind.wrap .i64<|(IntKind.wrap .i64<|(IntKind.wrap .i64<|(IntKind.wrap .i64<|x*16777216)+(IntKind.wrap .i64<|y*65536))+(IntKind.wrap .i64<|z*256))+w) n) hi hp (Zi b hb i h hi) fun y i h _ hi=>?_;dsimp only;refine Sm.bind (p:=.rd .ret) (q:=fun z=>.rd fun w=>.ret<|Int.tmod (IntKind.wrap .i64<|(IntKind.wrap .i64<|(IntKind.wrap .i64<|(IntKind.wrap .i64<|x*16777216)+(IntKind.wrap .i64<|y*65536))+(IntKind.wrap .i64<|z*256))+w) n) hi hp (Zi b hb i h hi) fun z i h _ hi=>?_;dsimp only;refine Sm.bind (p:=.rd .ret) (q:=fun w=>.ret<|Int.tmod (IntKind.wrap .i64<|(IntKind.wrap .i64<|(IntKind.wrap .i64<|(IntKind.wrap .i64<|x*16777216)+(IntKind.wrap .i64<|y*65536))+(IntKind.wrap .i64<|z*256))+w) n) hi hp (Zi b hb i h hi) fun w i h _ hi=>?_;dsimp only;unfold Lc;simp only [hn,aJ,av];exact Sm.ret
theorem Vf (n:Int) (i:Nat) (h:Int) (hi:i<=b.length):Sm b (Cv n) (fun x=>x) i h (vM n b (i:Int) h):=by
 unfold vM Cv;exact Sm.bind hi (fG n) (wm b hb n i h hi) fun r i h _ hi=>Sm.ret
theorem JH (l:List (List UInt8)) (hl:0 < l.length) (i:Nat) (h:Int) (hi:i<=b.length):Sm b (uU l) (fun x=>x) i h (vO l b (i:Int) h):=by
 unfold vO uU;refine Sm.bind hi (fG _) (wm b hb _ i h hi) fun r i h hr hi=>?_;obtain ⟨n,rfl⟩:=qZ hr.1;have hn:n < l.length:=by rcases hr.2 with h|h<;>omega
 have e:ix l (n:Int)=some l[n]:=bX hn;dsimp only;rw [e,av,show Int.toNat ((n:Nat):Int)=n from rfl,fB hn];exact Sm.ret
theorem Zj (l:List Int) (hl:0 < l.length) (i:Nat) (h:Int) (hi:i<=b.length):Sm b (Eh l) (fun x=>x) i h (Az l b (i:Int) h):=by
 unfold Az Eh;refine Sm.bind hi (fG _) (wm b hb _ i h hi) fun r i h hr hi=>?_;obtain ⟨n,rfl⟩:=qZ hr.1;have hn:n < l.length:=by rcases hr.2 with h|h<;>omega
 have e:ix l (n:Int)=some l[n]:=bX hn;dsimp only;rw [e,av,show Int.toNat ((n:Nat):Int)=n from rfl,fB hn];exact Sm.ret
theorem azF (i:Nat) (h:Int) (hi:i<=b.length):Sm b adL (fun x=>x) i h (acp b (i:Int) h):=Ef (JH b hb _ aM i h hi)
theorem azG (i:Nat) (h:Int) (hi:i<=b.length):Sm b adM (fun x=>x) i h (acr b (i:Int) h):=Ef (JH b hb _ aM i h hi)
theorem azH (i:Nat) (h:Int) (hi:i<=b.length):Sm b adN (fun x=>x) i h (acs b (i:Int) h):=Ef (JH b hb _ aM i h hi)
theorem JI (i:Nat) (h:Int) (hi:i<=b.length):Sm b Ig (fun x=>x) i h (Aw b (i:Int) h):=Ef (JH b hb _ aM i h hi)
theorem azI (i:Nat) (h:Int) (hi:i<=b.length):Sm b adO (fun x=>x) i h (acy b (i:Int) h):=Ef (Zj b hb _ aM i h hi)
end
def ShN (x:aD):Prop:=x.Text.length<=20/\x.Other.length<=20
def Qz (t:aC):Prop:=∀ x,x∈bf 0 t->ShN x
def azJ {t:aC} (h:Qz t) (b:Nat):∀ x,x∈bf b t->ShN x:=fun x hx=>by
 have e:=Zk t 0 b;rw [rZ] at e;rw [e] at hx;obtain ⟨y,hy,rfl⟩:=tO.1 hx;exact h y hy
def azK {ts:List aC} (h:∀ t,t∈ts->Qz t):∀ (b:Nat) x,x∈jT b ts->ShN x:=by
 induction ts with
 | nil=>intro b x hx;rw [jT] at hx;cases hx
 | cons t ts ih=>
  intro b x hx;rw [jT] at hx;rcases lX.1 hx with hx|hx
  .exact azJ (h t aA) b x hx
  .exact ih (fun t' h'=>h t'<|by simp [h']) _ x hx
def Gd (m d:Nat) (t:aC):Prop:=aQ t<=m/\gH t<=d/\Qz t
def Gd.mono {m d m' d':Nat} {t:aC} (h:Gd m d t) (hm:m<=m') (hd:d<=d'):Gd m' d' t:=⟨BD h.1 hm,BD h.2.1 hd,h.2.2⟩
def Gd.mk {m d:Nat} {k o:Int} {x y:List UInt8} {ts:List aC} (hx:Sh x) (hy:Sh y) (hs:aK ts+1<=m) (hd:ji ts+1<=d) (h:∀ t,t∈ts->Qz t):Gd m d ⟨k,o,x,y,ts⟩:=by
 refine ⟨by rw [aQ];exact hs,by rw [gH];exact hd,fun n hn=>?_⟩;rw [bf] at hn;rcases lX.1 hn with hn|hn
 .exact azK h 0 n hn
 .rw [uD.1 hn];exact ⟨hx,hy⟩
def Zl {m d:Nat}:∀ {ts:List aC},(∀ t,t∈ts->Gd m d t)->aK ts<=ts.length*m/\ji ts<=d/\∀ t,t∈ts->Qz t
 | [],_=>⟨by simp [aK],by simp [ji],fun t ht=>by cases ht⟩
 | t::ts,h=>by
  obtain ⟨h1,h2,h3⟩:=Zl (ts:=ts) fun t' ht'=>h t' (by simp [ht']);obtain ⟨g1,g2,g3⟩:=h t aA;refine ⟨by simp only [aK,kY,wT];omega,by simp only [ji];omega,fun t' ht'=>?_⟩;rcases iL.1 ht' with rfl|ht'
  .exact g3
  .exact h3 t' ht'
def qE {α:Type} (p:Pg α):Nat->Pg (List α)
 | 0=>.ret []
 | n+1=>p.bind fun a=>(qE p n).bind fun zs=>.ret (a::zs)
def FJ {α:Type} {P:α->Prop} {p:Pg α} (h:Pg.Post P p):∀ n,Pg.Post (fun zs=>zs.length=n/\∀ a,a∈zs->P a) (qE p n)
 | 0=>.ret ⟨rfl,fun a h=>by cases h⟩
 | n+1=>h.bind fun a ha=>(FJ h n).bind fun zs has=>.ret ⟨by simp [has.1],fun x hx=>by
  rcases iL.1 hx with rfl|hx
  .exact ha
  .exact has.2 x hx⟩
def Zm {α:Type} {P:α->Prop} {p:Pg α} (h:Pg.Post P p) {B:Nat} (hB:Pg.Le p B):∀ n,Pg.Le (qE p n) (n*B)
 | 0=>.ret
 | n+1=>Pg.fu.bind h hB (m:=n*B) (fun a _=>Pg.fu.bind (FJ h n) (Zm h hB n) (m:=0) (fun _ _=>.ret) ah) (by rw [wT];omega)
def Ih:Pg aC:=Ig.bind fun x=>.ret ⟨1,0,x,[],[]⟩
def MJ:Pg aC:=(lG 7).bind fun r=>bif r==0 then adL.bind fun x=>.ret ⟨2,0,x,[],[]⟩ else bif r==1 then adM.bind fun x=>.ret ⟨3,0,x,[],[]⟩ else bif r==2 then (Cv 2).bind fun o=>bif o then adN.bind fun x=>.ret ⟨4,0,x,[],[]⟩ else Ih else Ih
def AV (e1 e2:Pg aC):Pg aC:=(lG 4).bind fun r=>bif r==0 then Ig.bind fun x=>e1.bind fun t=>.ret ⟨5,0,x,[],[t]⟩ else bif r==1 then e2.bind fun t=>.ret ⟨6,0,[],[],[t]⟩ else Ih
def AX (lo hi:Int) (e:Pg aC):Pg (List aC):=(lG<|hi - lo+1).bind fun r=>qE e (lo+r).toNat
def Vg (e1 e2 e3:Pg aC) (r:Int) (y:Bool):Pg aC:=bif y then (Eh [56,55,61]).bind fun o=>e1.bind fun t=>.ret ⟨11,o,[],[],[t]⟩ else bif r==9 then Ig.bind fun x=>(AX 1 2 e1).bind fun ts=>.ret ⟨13,0,x,[],ts⟩ else bif r==10 then e1.bind fun t=>e1.bind fun u=>e1.bind fun v=>.ret ⟨14,0,[],[],[t,u,v]⟩ else bif r==11 then (Eh [54,38,43]).bind fun o=>(AV e2 e3).bind fun t=>e1.bind fun u=>.ret ⟨15,o,[],[],[t,u]⟩ else adO.bind fun o=>e1.bind fun t=>e1.bind fun u=>.ret ⟨12,o,[],[],[t,u]⟩
def Zn (e1 e2 e3:Pg aC):Pg aC:=(lG 2).bind fun a=>(lG 16).bind fun r=>bif r==0 then MJ else bif r==1 then AV e1 e2 else bif r==2 then e1.bind fun t=>.ret ⟨6,0,[],[],[t]⟩ else bif r==3 then Ig.bind fun x=>(AX 0 3 e1).bind fun ts=>.ret ⟨7,0,x,[],ts⟩ else bif r==4 then (uU [[108,101,110,103,116,104],[115,117,98,115,116,114],[105,110,100,101,120],[105,110,116],[116,111,117,112,112,101,114]]).bind fun x=>(AX 0 3 e2).bind fun ts=>.ret ⟨8,0,x,[],ts⟩ else bif r==5 then (AV e2 e3).bind fun t=>.ret ⟨9,51+a,[],[],[t]⟩ else bif r==6 then (AV e2 e3).bind fun t=>.ret ⟨10,51+a,[],[],[t]⟩ else bif r==7 then Vg e1 e2 e3 r (r==7) else Vg e1 e2 e3 r (r==8)
def MK:Nat->Pg aC×Pg aC×Pg aC
 | 0=>(MJ,MJ,MJ)
 | d+1=>(Zn (MK d).1 (MK d).2.1 (MK d).2.2,(MK d).1,(MK d).2.1)
def gQ (d:Nat):Pg aC:=(MK d).1
def azL:∀ d,(MK d).2.1=gQ (d - 1)
 | 0=>rfl
 | d+1=>rfl
def azM:∀ d,(MK d).2.2=gQ (d - 2)
 | 0=>rfl
 | 1=>rfl
 | d+2=>rfl
def aiO (d:Nat):gQ (d+1)=Zn (gQ d) (gQ<|d - 1) (gQ<|d - 2):=by
 rw [<- azL,<- azM];rfl
def zJ (d:Nat):Nat:=if d=0 then 1 else d+2
def eb:Nat->Nat
 | 0=>3
 | d+1=>3*eb d+4
def Vh {a c:Nat} (h:a<=c):eb a<=eb c:=by
 induction c with
 | zero=>rw [show a=0 by omega];exact eU _
 | succ c ih=>
  by_cases e:a=c+1
  .rw [e];exact eU _
  .have:=ih ah;rw [eb];omega
def FL {a c:Nat} (h:a<=c):pw a<=pw c:=by
 induction c with
 | zero=>rw [show a=0 by omega];exact eU _
 | succ c ih=>
  by_cases e:a=c+1
  .rw [e];exact eU _
  .have:=ih ah;rw [pw];omega
def jF:Sh ([]:List UInt8):=aA
def QA:Pg.Post (Gd 1 1) Ih:=qD.bind fun x hx=>.ret (Gd.mk hx jF (by simp [aK]) (by simp [ji]) fun t ht=>by cases ht)
def adP:Pg.Le Ih 1:=Pg.fu.bind qD Qy (m:=0) (fun _ _=>.ret) ah
def iY {α:Type} {P:α->Prop} {c:Bool} {p q:Pg α} (hp:Pg.Post P p) (hq:Pg.Post P q):Pg.Post P (bif c then p else q):=by cases c<;>assumption
def leB {α:Type} {n:Nat} {c:Bool} {p q:Pg α} (hp:Pg.Le p n) (hq:Pg.Le q n):Pg.Le (bif c then p else q) n:=by cases c<;>assumption
def aiP {p:Pg (List UInt8)} (h:Pg.Post Sh p) (k:Int):Pg.Post (Gd 1 1) (p.bind fun x=>.ret ⟨k,0,x,[],[]⟩):=h.bind fun x hx=>.ret (Gd.mk hx jF (by simp [aK]) (by simp [ji]) fun t ht=>by cases ht)
def apP:Pg.Post (Gd 1 1) MJ:=(fG 7).bind fun r _=>iY (aiP aiK 2) (iY (aiP aiL 3)<|iY ((uo 2).bind fun o _=>iY (aiP aiM 4) QA) QA)
def jU {α β:Type} {P:α->Prop} {p:Pg α} {f:α->β} {n:Nat} (hp:Pg.Post P p) (h:Pg.Le p n):Pg.Le (p.bind fun a=>.ret<|f a) n:=Pg.fu.bind hp h (m:=0) (fun _ _=>.ret) ah
def apQ:Pg.Le MJ 3:=Pg.fu.bind (fG 7) (below_le 7 ah) (m:=2) (fun r _=>leB ((jU aiK azB).mono ah)<|leB ((jU aiL azC).mono ah)<|leB (Pg.fu.bind (uo 2) (Vd 2 ah) (m:=1) (fun o _=>leB (jU aiM azD) adP) ah)<|adP.mono ah) ah
def aiQ {e1 e2:Pg aC} {m d:Nat} (h1:Pg.Post (Gd m d) e1) (h2:Pg.Post (Gd m d) e2) (hm:1<=m):Pg.Post (Gd (m+1)<|d+1) (AV e1 e2):=by
 refine (fG 4).bind fun r _=>iY (qD.bind fun x hx=>h1.bind fun t ht=>.ret ?_) (iY (h2.bind fun t ht=>.ret ?_)<|QA.imp fun t ht=>ht.mono ah ah)
 .exact Gd.mk hx jF (by have:=ht.1;simp only [aK];omega) (by have:=ht.2.1;simp only [ji];omega) fun t' ht'=>by rw [uD.1 ht'];exact ht.2.2
 .exact Gd.mk jF jF (by have:=ht.1;simp only [aK];omega) (by have:=ht.2.1;simp only [ji];omega) fun t' ht'=>by rw [uD.1 ht'];exact ht.2.2
def adQ {e1 e2:Pg aC} {P Q:aC->Prop} {n:Nat} (h1:Pg.Post P e1) (h2:Pg.Post Q e2) (g1:Pg.Le e1 n) (g2:Pg.Le e2 n):Pg.Le (AV e1 e2) (n+2):=
 Pg.fu.bind (fG 4) (below_le 4 ah) (m:=n+1) (fun r _=>leB (Pg.fu.bind qD Qy (m:=n) (fun x _=>jU h1 g1) ah)<|leB ((jU h2 g2).mono ah)<|adP.mono ah) ah
def Ei {e:Pg aC} {m d:Nat} (h:Pg.Post (Gd m d) e) (lo hi:Nat) (hl:lo<=hi):Pg.Post (fun ts=>lo<=ts.length/\ts.length<=hi/\aK ts<=hi*m/\ji ts<=d/\∀ t,t∈ts->Qz t) (AX (lo:Int) (hi:Int) e):=by
 refine (fG _).bind fun r hr=>(FJ h _).imp fun ts hts=>?_;obtain ⟨g1,g2,g3⟩:=Zl hts.2;have hlen:ts.length<=hi:=by rw [hts.1];omega
 exact ⟨by rw [hts.1];omega,hlen,BD g1<|wO m hlen,g2,g3⟩
def Vi {e:Pg aC} {P:aC->Prop} {n:Nat} (h:Pg.Post P e) (g:Pg.Le e n) (lo hi:Nat) (hl:lo<=hi) (hh:hi<=250):Pg.Le (AX (lo:Int) (hi:Int) e) (hi*n+1):=
 Pg.fu.bind (fG _) (below_le _ ah) (m:=hi*n) (fun r hr=>(Zm h g _).mono<|wO n ah) ah
def mk1 {m d m' d':Nat} {k o:Int} {x:List UInt8} (hx:Sh x) {t:aC} (ht:Gd m d t) (hm:m+1<=m') (hd:d+1<=d'):Gd m' d' ⟨k,o,x,[],[t]⟩:=
 Gd.mk hx jF (by have:=ht.1;simp only [aK];omega) (by have:=ht.2.1;simp only [ji];omega) fun t' ht'=>by rw [uD.1 ht'];exact ht.2.2
def mk2 {m d m2 d2 m' d':Nat} {k o:Int} {x:List UInt8} (hx:Sh x) {t u:aC} (ht:Gd m d t) (hu:Gd m2 d2 u) (hm:m+m2+1<=m') (hd:d+1<=d'/\d2+1<=d'):Gd m' d' ⟨k,o,x,[],[t,u]⟩:=
 Gd.mk hx jF (by have:=ht.1;have:=hu.1;simp only [aK];omega) (by have:=ht.2.1;have:=hu.2.1;simp only [ji];omega) fun t' ht'=>by
  simp only [iL,NQ,NW] at ht';rcases ht' with rfl|rfl
  .exact ht.2.2
  .exact hu.2.2
def mk3 {m d m2 d2 m3 d3 m' d':Nat} {k o:Int} {x:List UInt8} (hx:Sh x) {t u v:aC} (ht:Gd m d t) (hu:Gd m2 d2 u) (hv:Gd m3 d3 v) (hm:m+m2+m3+1<=m') (hd:d+1<=d'/\d2+1<=d'/\d3+1<=d'):Gd m' d' ⟨k,o,x,[],[t,u,v]⟩:=
 Gd.mk hx jF (by have:=ht.1;have:=hu.1;have:=hv.1;simp only [aK];omega) (by have:=ht.2.1;have:=hu.2.1;have:=hv.2.1;simp only [ji];omega) fun t' ht'=>by
  simp only [iL,NQ,NW] at ht';rcases ht' with rfl|rfl|rfl
  .exact ht.2.2
  .exact hu.2.2
  .exact hv.2.2
def Vj {m d m' d' n lo:Nat} {k o:Int} {x:List UInt8} (hx:Sh x) {ts:List aC} (h:lo<=ts.length/\ts.length<=n/\aK ts<=n*m/\ji ts<=d/\∀ t,t∈ts->Qz t) (hm:n*m+1<=m') (hd:d+1<=d'):Gd m' d' ⟨k,o,x,[],ts⟩:=
 Gd.mk hx jF (by have:=h.2.2.1;omega) (by have:=h.2.2.2.1;omega) h.2.2.2.2
def apR {e1 e2 e3:Pg aC} {m d d2 D:Nat} (h1:Pg.Post (Gd m d) e1) (h2:Pg.Post (Gd m d2) e2) (h3:Pg.Post (Gd m d2) e3) (hm:1<=m) (w1:d+1<=D) (w2:d2+2<=D):Pg.Post (Gd (4*m) D) (Zn e1 e2 e3):=by
 have hlv:Pg.Post (Gd (m+1)<|d2+1) (AV e2 e3):=aiQ h2 h3 hm;have hlv1:Pg.Post (Gd (m+1) D) (AV e1 e2):=by
  obtain ⟨k,rfl⟩:∃ k,D=k+1:=⟨D - 1,ah⟩
  exact aiQ (h1.imp fun t ht=>ht.mono ah ah) (h2.imp fun t ht=>ht.mono ah ah) hm
 have hK:∀ r y,Pg.Post (Gd (4*m) D) (Vg e1 e2 e3 r y):=fun r y=>by
  refine iY ?_ (iY ?_ (iY ?_ (iY ?_ ?_)))
  .exact (Ve (P:=fun _=>True) _ aM fun _ _=>trivial).bind fun o _=>h1.bind fun t ht=>.ret (mk1 jF ht ah ah)
  .exact qD.bind fun x hx=>(Ei h1 1 2 ah).bind fun ts hts=>.ret (Vj hx hts ah ah)
  .exact h1.bind fun t ht=>h1.bind fun u hu=>h1.bind fun v hv=>.ret (mk3 jF ht hu hv ah ah)
  .exact (Ve (P:=fun _=>True) _ aM fun _ _=>trivial).bind fun o _=>hlv.bind fun t ht=>h1.bind fun u hu=>.ret (mk2 jF ht hu ah ah)
  .exact aiN.bind fun o _=>h1.bind fun t ht=>h1.bind fun u hu=>.ret (mk2 jF ht hu ah ah)
 refine (fG 2).bind fun a _=>(fG 16).bind fun r _=>iY (apP.imp fun t ht=>ht.mono ah ah) (iY (hlv1.imp fun t ht=>ht.mono ah ah)<|iY ?_ (iY ?_ (iY ?_ (iY ?_ (iY ?_ (iY (hK _ _)<|hK _ _))))))
 .exact h1.bind fun t ht=>.ret (mk1 jF ht ah ah)
 .exact qD.bind fun x hx=>(Ei h1 0 3 ah).bind fun ts hts=>.ret (Vj hx hts ah ah)
 .exact (uV _ aM aM).bind fun x hx=>(Ei h2 0 3 ah).bind fun ts hts=>.ret (Vj hx hts ah ah)
 .exact hlv.bind fun t ht=>.ret (mk1 jF ht ah ah)
 .exact hlv.bind fun t ht=>.ret (mk1 jF ht ah ah)
def azN {e1 e2 e3:Pg aC} {P Q R:aC->Prop} {n:Nat} (h1:Pg.Post P e1) (h2:Pg.Post Q e2) (h3:Pg.Post R e3) (g1:Pg.Le e1 n) (g2:Pg.Le e2 n) (g3:Pg.Le e3 n) (hn:3<=n):Pg.Le (Zn e1 e2 e3) (3*n+4):=by
 have tr:∀ {α:Type} {p:Pg α} {P:α->Prop},Pg.Post P p->Pg.Post (fun _=>True) p:=fun h=>h.imp fun _ _=>trivial;have lvT:Pg.Post (fun _=>True) (AV e2 e3):=(fG 4).bind fun r _=>iY (qD.bind fun x _=>h2.bind fun t _=>.ret trivial) (iY (h3.bind fun t _=>.ret trivial)<|tr QA);have lT:∀ lo hi:Int,∀ e:Pg aC,Pg.Post (fun _=>True) e->Pg.Post (fun _=>True) (AX lo hi e):=fun lo hi e he=>(fG _).bind fun r _=>tr (FJ he _);have pI:∀ l:List Int,0 < l.length->Pg.Post (fun _=>True) (Eh l):=fun l hl=>Ve l hl fun _ _=>trivial;have hK:∀ r y,Pg.Le (Vg e1 e2 e3 r y) (3*n+2):=fun r y=>by
  refine leB ?_ (leB ?_ (leB ?_ (leB ?_ ?_)))
  .exact Pg.fu.bind (pI _ aM) (Zh _ aM) (m:=n) (fun o _=>jU h1 g1) ah
  .exact Pg.fu.bind qD Qy (m:=2*n+1) (fun x _=>jU (lT 1 2 e1<|tr h1)<|Vi h1 g1 1 2 ah ah) ah
  .exact Pg.fu.bind h1 g1 (m:=2*n) (fun t _=>Pg.fu.bind h1 g1 (m:=n) (fun u _=>jU h1 g1) ah) ah
  .exact Pg.fu.bind (pI _ aM) (Zh _ aM) (m:=2*n+2) (fun o _=>Pg.fu.bind lvT (adQ h2 h3 g2 g3) (m:=n) (fun t _=>jU h1 g1) ah) ah
  .exact Pg.fu.bind aiN azE (m:=2*n) (fun o _=>Pg.fu.bind h1 g1 (m:=n) (fun t _=>jU h1 g1) ah) ah
 refine Pg.fu.bind (fG 2) (below_le 2 ah) (m:=3*n+3) (fun a _=>Pg.fu.bind (fG 16) (below_le 16 ah) (m:=3*n+2) (fun r _=>leB (apQ.mono ah)<|leB ((adQ h1 h2 g1 g2).mono ah)<|leB ((jU h1 g1).mono ah)<|leB ?_ (leB ?_ (leB ((jU lvT<|adQ h2 h3 g2 g3).mono ah)<|leB ((jU lvT<|adQ h2 h3 g2 g3).mono ah)<|leB (hK _ _)<|hK _ _))) ah) ah
 .exact Pg.fu.bind qD Qy (m:=3*n+1) (fun x _=>jU (lT 0 3 e1<|tr h1)<|Vi h1 g1 0 3 ah ah) ah
 .exact Pg.fu.bind (uV _ aM aM) (JG _ aM) (m:=3*n+1) (fun x _=>jU (lT 0 3 e2<|tr h2)<|Vi h2 g2 0 3 ah ah) ah
def lH:∀ d,Pg.Post (Gd (pw d)<|zJ d) (gQ d):=by
 intro d;induction d using Nat.strongRecOn with
 | _ d ih=>
  cases d with
  | zero=>exact apP
  | succ d=>
   rw [aiO];have hp:=aiG d;have a:=ih d ah;have b:=ih (d - 1) ah;have c:=ih (d - 2) ah;have b':Pg.Post (Gd (pw d)<|zJ<|d - 1) (gQ<|d - 1):=b.imp fun t ht=>ht.mono (FL ah) ah;have c':Pg.Post (Gd (pw d)<|zJ<|d - 2) (gQ<|d - 2):=c.imp fun t ht=>ht.mono (FL ah) ah;have e4:pw (d+1)=4*pw d:=by rw [pw]
   rw [e4];by_cases h0:d=0
   .subst h0;exact apR (d:=1) (d2:=1) a b c ah aM aM
   .have hd:zJ d=d+2:=by unfold zJ;rw [bA h0]
    have hd1:zJ (d+1)=d+3:=by unfold zJ;rw [bA ah]
    have hd2:zJ (d - 1)<=d+1:=by unfold zJ;split<;>omega
    have hd3:zJ (d - 2)<=d+1:=by unfold zJ;split<;>omega
    rw [hd] at a;rw [hd1];exact apR (d2:=d+1) a (b'.imp fun t ht=>ht.mono ah ah) (c'.imp fun t ht=>ht.mono ah ah) ah ah ah
def QB:∀ d,Pg.Le (gQ d) (eb d):=by
 intro d;induction d using Nat.strongRecOn with
 | _ d ih=>
  cases d with
  | zero=>exact apQ
  | succ d=>
   rw [aiO];have h3:3<=eb d:=by have:=Vh (a:=0) (c:=d) ah;rw [eb] at this;exact this
   exact azN (lH d) (lH<|d - 1) (lH<|d - 2) (ih d ah) ((ih (d - 1) ah).mono<|Vh ah) ((ih (d - 2) ah).mono<|Vh ah) h3
section
set_option linter.unusedSectionVars false
variable (b:List UInt8) (hb:b.length<=1048576)
include hb
theorem apS (i:Nat) (h:Int) (hi:i<=b.length):Sm b Ih (bf 0) i h (WM b ((i:Int),h)):=Sm.bind hi qD (JI b hb i h hi) fun x i h _ hi=>Sm.ret
theorem apT (i:Nat) (h:Int) (hi:i<=b.length):Sm b MJ (bf 0) i h (Tj b (i:Int) h):=by
 unfold Tj MJ;refine Sm.bind hi (fG 7) (wm b hb 7 i h hi) fun r i h _ hi=>?_;dsimp only;refine Sm.cond (fun _=>Sm.bind hi aiK (azF b hb i h hi) fun x i h _ hi=>Sm.ret) fun _=>Sm.cond (fun _=>Sm.bind hi aiL (azG b hb i h hi) fun x i h _ hi=>Sm.ret) fun _=>Sm.cond (fun _=>?_) fun _=>apS b hb i h hi;refine Sm.bind hi (uo 2) (Vf b hb 2 i h hi) fun o i h _ hi=>?_;dsimp only;exact Sm.cond (fun _=>Sm.bind hi aiM (azH b hb i h hi) fun x i h _ hi=>Sm.ret) fun _=>apS b hb i h hi
theorem mD {α:Type} {N:Nat} (hN:1048577 < N) (k o:Int) (x y:List UInt8) (ts:List aC) (hs:aK ts<=900000) (i:Nat) (h:Int):Sm b (.ret (⟨k,o,x,y,ts⟩:aC)) (bf 0) i h ((fJ N ⟨k,o,x,y,[]⟩<|ts.map<|bf 0).bind fun r=>some (r,(i:Int),h)):=by
 rw [yE N ⟨k,o,x,y,[]⟩ ts hN hs,av];exact Sm.ret
def XS (N d:Nat):Prop:=∀ (deep:Int) (i:Nat) (h:Int),deep.toNat=d-> -1000<=deep->deep<=1000->i<=b.length->Sm b (gQ d) (bf 0) i h ((rC N).fK deep b (i:Int) h)
theorem apU {N d:Nat} (hN:1048577 < N) (hd:d<=6) (h1:XS b N (d - 1)) (h2:XS b N (d - 2)) (deep:Int) (i:Nat) (h:Int) (hdp:deep.toNat=d) (g1: -900<=deep) (hi:i<=b.length):Sm b (AV (gQ<|d - 1)<|gQ<|d - 2) (bf 0) i h ((rC<|N+1).zk deep b (i:Int) h):=by
 have z1:pw (d - 1)<=4096:=FL (a:=d - 1) (c:=6) ah;have z2:pw (d - 2)<=4096:=FL (a:=d - 2) (c:=6) ah;show Sm b _ _ i h (WS N (rC N) deep b (i:Int) h);unfold WS AV;refine Sm.bind hi (fG 4) (wm b hb 4 i h hi) fun r i h _ hi=>?_;dsimp only;refine Sm.cond (fun _=>?_) fun _=>Sm.cond (fun _=>?_) fun _=>Sm.bind hi qD (JI b hb i h hi) fun x i h _ hi=>Sm.ret
 .refine Sm.bind hi qD (JI b hb i h hi) fun x i h _ hi=>?_;dsimp only;rw [wrap64 (n:=deep - 1) ah ah];refine Sm.bind hi (lH<|d - 1) (h1 (deep - 1) i h ah ah ah hi) fun t i h ht hi=>?_;exact mD (α:=Unit) b hb hN 5 0 x [] [t] (by have:=ht.1;simp only [aK];omega) i h
 .rw [wrap64 (n:=deep - 2) ah ah];refine Sm.bind hi (lH<|d - 2) (h2 (deep - 2) i h ah ah ah hi) fun t i h ht hi=>?_;exact mD (α:=Unit) b hb hN 6 0 [] [] [t] (by have:=ht.1;simp only [aK];omega) i h
theorem azO {N d:Nat} (hX:XS b N d) (deep:Int) (hdp:deep.toNat=d) (g1: -900<=deep) (g2:deep<=900):∀ (n c:Nat) (i:Nat) (h:Int) (acc:List (List aD)),c < n->acc.length+c<=100->i<=b.length->
  Sm b (qE (gQ d) c) (fun ts=>acc++ts.map (bf 0)) i h (OB N (rC N) b n (deep,(c:Int),(i:Int),h,acc)):=by
 intro n;induction n with
 | zero=>intro c i h acc hc;omega
 | succ n ih=>
  intro c i h acc hc ha hi;rw [OB];cases c with
  | zero=>
   have:decide (((0:Nat):Int) > 0)=false:=rfl;rw [this,aJ];show _=some (acc++[].map (bf 0),_,_);rw [abd,nQ];rfl
  | succ c=>
   have:decide (((c+1:Nat):Int) > 0)=true:=kP ah;rw [this,aS,qE];refine Sm.bind hi (lH d) (hX deep i h hdp ah ah hi) fun t i h ht hi=>?_;dsimp only;rw [jf aU,av,wrap64 ah ah,show ((c+1:Nat):Int) - 1=(c:Int) by omega];have:=ih c i h (acc++[bf 0 t]) ah aU hi;unfold Sm at this ⊢;rw [this,Pg.run_bind];simp [Pg.run]
theorem adR {N d:Nat} (hN:200 < N) (hX:XS b N d) (lo hi':Nat) (hl:lo<=hi') (hh:hi'<=90) (deep:Int) (hdp:deep.toNat=d) (g1: -900<=deep) (g2:deep<=900) (i:Nat) (h:Int) (hi:i<=b.length):
  Sm b (AX (lo:Int) (hi':Int)<|gQ d) (fun ts=>ts.map<|bf 0) i h ((rC<|N+1).xw (lo:Int) (hi':Int) deep b (i:Int) h):=by
 show Sm b _ _ i h (WR N (rC N) (lo:Int) (hi':Int) deep b (i:Int) h);unfold WR AX;rw [wrap64 (n:=(hi':Int) - lo) ah ah,wrap64 (n:=(hi':Int) - lo+1) ah ah];refine Sm.bind hi (fG _) (wm b hb _ i h hi) fun r i h hr hi=>?_;dsimp only;obtain ⟨c,rfl⟩:=qZ hr.1;have hc:c<=hi' - lo:=by rcases hr.2 with h|h<;>omega
 rw [wrap64 ah ah,show (lo:Int)+(c:Int)=((lo+c:Nat):Int) by omega,Dc];have:=azO b hb hX deep hdp g1 g2 N (lo+c) i h [] ah aU hi;exact this
theorem azP {N:Nat} (hN:1<=N):XS b N 0:=by
 intro deep i h hd h1 h2 hi;obtain ⟨N,rfl⟩:∃ m,N=m+1:=⟨N - 1,ah⟩
 show Sm b _ _ i h (OC N (rC N) deep b (i:Int) h);unfold OC;have:decide (deep<=0)=true:=kP ah;rw [this,aS];exact Ef (apT b hb i h hi)
theorem azQ {N d:Nat} (hN:1048577 < N) (hdd:d<=5) (hA:∀ e,e<=d->XS b (N+1) e) (hB:∀ e,e<=d->XS b N e):XS b (N+1+1) (d+1):=by
 intro deep i h hd g1 g2 hi;have hp:=aiG d;have hpb:pw d<=4096:=FL (a:=d) (c:=6) ah;have aKo:pw (d - 1)<=4096:=FL (a:=d - 1) (c:=6) ah;have aKp:pw (d - 2)<=4096:=FL (a:=d - 2) (c:=6) ah;have w1:IntKind.wrap .i64 (deep - 1)=deep - 1:=wrap64 ah ah;have w2:IntKind.wrap .i64 (deep - 2)=deep - 2:=wrap64 ah ah;show Sm b _ _ i h (OC (N+1) (rC<|N+1) deep b (i:Int) h);rw [aiO];unfold OC Zn;have:decide (deep<=0)=false:=pQ ah;rw [this,aJ];have e1:∀ (i:Nat) h,i<=b.length->Sm b (gQ d) (bf 0) i h ((rC<|N+1).fK (deep - 1) b (i:Int) h):=fun i h hi=>hA d ah (deep - 1) i h ah ah ah hi;have lv0:∀ (i:Nat) h,i<=b.length->Sm b (AV (gQ d)<|gQ<|d - 1) (bf 0) i h ((rC<|N+1).zk deep b (i:Int) h):=fun i h hi=>by
  have:=apU b hb (d:=d+1) hN ah (by rw [afk];exact hB d ah) (hB (d+1 - 2) ah) deep i h hd ah hi;rw [afk,show d+1 - 2=d - 1 by omega] at this;exact this
 have lv1:∀ (i:Nat) h,i<=b.length->Sm b (AV (gQ<|d - 1)<|gQ<|d - 2) (bf 0) i h ((rC<|N+1).zk (deep - 1) b (i:Int) h):=fun i h hi=>
  apU b hb (d:=d) hN ah (hB (d - 1) ah) (hB (d - 2) ah) (deep - 1) i h ah ah hi
 have Zo:∃ m D,m<=5000/\Pg.Post (Gd m D) (AV (gQ<|d - 1)<|gQ<|d - 2):=⟨pw d+1,zJ (d - 1)+zJ (d - 2)+1,ah,aiQ ((lH<|d - 1).imp fun t ht=>ht.mono (FL ah) ah) ((lH<|d - 2).imp fun t ht=>ht.mono (FL ah) ah) ah⟩
 obtain ⟨ml,dl,hml,Zo⟩:=Zo;have pI:∀ l:List Int,0 < l.length->Pg.Post (fun _=>True) (Eh l):=fun l hl=>Ve l hl fun _ _=>trivial;refine Sm.bind hi (fG 2) (wm b hb 2 i h hi) fun a i h ha hi=>?_;dsimp only;refine Sm.bind hi (fG 16) (wm b hb 16 i h hi) fun r i h hr hi=>?_;dsimp only;have wa:IntKind.wrap .i64 (51+a)=51+a:=wrap64 ah ah;rw [wa];have hK:∀ y:Bool,Sm b (Vg (gQ d) (gQ<|d - 1) (gQ<|d - 2) r y) (bf 0) i h (Tp (N+1) (rC<|N+1) b (deep,(r,(i:Int),h),y)):=fun y=>by
  unfold Tp Vg;dsimp only;rw [w1];refine Sm.cond (fun _=>?_) fun _=>Sm.cond (fun _=>?_) fun _=>Sm.cond (fun _=>?_) fun _=>Sm.cond (fun _=>?_) fun _=>?_
  .refine Sm.bind hi (pI _ aM) (Zj b hb _ aM i h hi) fun o i h _ hi=>?_;dsimp only;refine Sm.bind hi (lH d) (e1 i h hi) fun t i h ht hi=>?_;exact mD (α:=Unit) b hb ah 11 o [] [] [t] (by have:=ht.1;simp only [aK];omega) i h
  .refine Sm.bind hi qD (JI b hb i h hi) fun x i h _ hi=>?_;dsimp only;refine Sm.bind hi (Ei (lH d) 1 2 ah) (adR b hb (N:=N) ah (hB d ah) 1 2 ah ah (deep - 1) ah ah ah i h hi) fun ts i h hts hi=>?_;exact mD (α:=Unit) b hb ah 13 0 x [] ts (by have:=hts.2.2.1;omega) i h
  .refine Sm.bind hi (lH d) (e1 i h hi) fun t i h ht hi=>?_;dsimp only;refine Sm.bind hi (lH d) (e1 i h hi) fun u i h hu hi=>?_;dsimp only;refine Sm.bind hi (lH d) (e1 i h hi) fun v i h hv hi=>?_;exact mD (α:=Unit) b hb ah 14 0 [] [] [t,u,v] (by have:=ht.1;have:=hu.1;have:=hv.1;simp only [aK];omega) i h
  .refine Sm.bind hi (pI _ aM) (Zj b hb _ aM i h hi) fun o i h _ hi=>?_;dsimp only;refine Sm.bind hi Zo (lv1 i h hi) fun t i h ht hi=>?_;dsimp only;refine Sm.bind hi (lH d) (e1 i h hi) fun u i h hu hi=>?_;exact mD (α:=Unit) b hb ah 15 o [] [] [t,u] (by have:=ht.1;have:=hu.1;simp only [aK];omega) i h
  .refine Sm.bind hi aiN (azI b hb i h hi) fun o i h _ hi=>?_;dsimp only;refine Sm.bind hi (lH d) (e1 i h hi) fun t i h ht hi=>?_;dsimp only;refine Sm.bind hi (lH d) (e1 i h hi) fun u i h hu hi=>?_;exact mD (α:=Unit) b hb ah 12 o [] [] [t,u] (by have:=ht.1;have:=hu.1;simp only [aK];omega) i h
 refine Sm.cond (fun _=>Ef<|apT b hb i h hi) fun _=>Sm.cond (fun _=>Ef<|lv0 i h hi) fun _=>Sm.cond (fun _=>?_) fun _=>Sm.cond (fun _=>?_) fun _=>Sm.cond (fun _=>?_) fun _=>Sm.cond (fun _=>?_) fun _=>Sm.cond (fun _=>?_) fun _=>Sm.cond (fun _=>hK _) fun _=>hK _
 .rw [w1];refine Sm.bind hi (lH d) (e1 i h hi) fun t i h ht hi=>?_;exact mD (α:=Unit) b hb ah 6 0 [] [] [t] (by have:=ht.1;simp only [aK];omega) i h
 .refine Sm.bind hi qD (JI b hb i h hi) fun x i h _ hi=>?_;dsimp only;rw [w1];refine Sm.bind hi (Ei (lH d) 0 3 ah) (adR b hb (N:=N) ah (hB d ah) 0 3 ah ah (deep - 1) ah ah ah i h hi) fun ts i h hts hi=>?_;exact mD (α:=Unit) b hb ah 7 0 x [] ts (by have:=hts.2.2.1;omega) i h
 .refine Sm.bind hi (uV _ aM aM) (JH b hb _ aM i h hi) fun x i h _ hi=>?_;dsimp only;rw [w2];refine Sm.bind hi (Ei (lH<|d - 1) 0 3 ah) (adR b hb (N:=N) ah (hB (d - 1) ah) 0 3 ah ah (deep - 2) ah ah ah i h hi) fun ts i h hts hi=>?_;exact mD (α:=Unit) b hb ah 8 0 x [] ts (by have:=hts.2.2.1;omega) i h
 .rw [w1];refine Sm.bind hi Zo (lv1 i h hi) fun t i h ht hi=>?_;exact mD (α:=Unit) b hb ah 9 (51+a) [] [] [t] (by have:=ht.1;simp only [aK];omega) i h
 .rw [w1];refine Sm.bind hi Zo (lv1 i h hi) fun t i h ht hi=>?_;exact mD (α:=Unit) b hb ah 10 (51+a) [] [] [t] (by have:=ht.1;simp only [aK];omega) i h
theorem xs_all:∀ (d N:Nat),d<=6->1048580+3*d<=N->XS b N d:=by
 intro d;induction d using Nat.strongRecOn with
 | _ d ih=>
  intro N hd hN;cases d with
  | zero=>exact azP b hb ah
  | succ d=>
   obtain ⟨N,rfl⟩:∃ m,N=m+1+1:=⟨N - 2,ah⟩
   exact azQ b hb ah ah (fun e he=>ih e ah (N+1) ah ah) (fun e he=>ih e ah N ah ah)
theorem apV (N d:Nat) (hd:d<=6) (hN:1048700<=N) (deep:Int) (hdp:deep.toNat=d) (g1: -1000<=deep) (g2:deep<=1000) (i:Nat) (h:Int) (hi:i<=b.length):Sm b (gQ d) (bf 0) i h (fK N deep b (i:Int) h):=xs_all b hb d N hd ah deep i h hdp g1 g2 hi
theorem aiT (N d:Nat) (hd:d<=6) (hN:1048700<=N) (lo hi':Nat) (hl:lo<=hi') (hh:hi'<=90) (deep:Int) (hdp:deep.toNat=d) (g1: -900<=deep) (g2:deep<=900) (i:Nat) (h:Int) (hi:i<=b.length):
  Sm b (AX (lo:Int) (hi':Int)<|gQ d) (fun ts=>ts.map<|bf 0) i h (xw N (lo:Int) (hi':Int) deep b (i:Int) h):=by
 obtain ⟨N,rfl⟩:∃ m,N=m+1:=⟨N - 1,ah⟩
 exact adR b hb ah (xs_all b hb d N hd ah) lo hi' hl hh deep hdp g1 g2 i h hi
def wo:Pg aC:=(lG 4).bind fun r=>gQ (1+r).toNat
def fits (m:Nat) (t:aC):Bool:=Nat.ble (aQ t) m
omit hb in
theorem azS:Pg.Post (Gd 256 6) wo:=(fG 4).bind fun r hr=>(lH _).imp fun t ht=>ht.mono (FL (a:=(1+r).toNat) (c:=4) ah) (by unfold zJ;split<;>omega)
omit hb in
theorem azT:Pg.Le wo 404:=Pg.fu.bind (fG 4) (below_le 4 ah) (m:=403) (fun r hr=>(QB _).mono<|Vh (a:=(1+r).toNat) (c:=4) ah) ah
theorem azU {N:Nat} (hN:1048700<=N):∀ (n i:Nat) (h:Int),i<=b.length->OE N b n ((i:Int),h)=(Pg.loop b wo (fits 60) n i h).map fun r=>(bf 0 r.1,(r.2.1:Int),r.2.2):=by
 intro n;induction n with
 | zero=>intro i h hi;rfl
 | succ n ih=>
  intro i h hi;have hs:Sm b wo (bf 0) i h ((jG 4 b (i:Int) h).bind fun r9=>fK N (IntKind.wrap .i64<|1+r9.1) b r9.2.1 r9.2.2):=by
   refine Sm.bind hi (fG 4) (wm b hb 4 i h hi) fun r i h hr hi=>?_;dsimp only;rw [wrap64 ah ah];exact apV b hb N _ ah hN (1+r) rfl ah ah i h hi
  rw [OE,Pg.loop];unfold Sm at hs;have e:∀ g:(List aD×Int×Int)->Option (List aD×Int×Int),((jG 4 b (i:Int) h).bind fun r9=>Option.bind (fK N (IntKind.wrap .i64<|1+r9.1) b r9.2.1 r9.2.2) g)=Option.bind ((jG 4 b (i:Int) h).bind fun r9=>fK N (IntKind.wrap .i64<|1+r9.1) b r9.2.1 r9.2.2) g:=fun g=>by
   cases jG 4 b (i:Int) h<;>rfl
  rw [e,hs,av];dsimp only;have hf:decide (((bf 0 (Pg.run b wo i h).1).length:Int)<=60)=fits 60 (Pg.run b wo i h).1:=by
   rw [rV];unfold fits;cases hc:Nat.ble (aQ (Pg.run b wo i h).1) 60 with
   | true=>have:=Gx hc;exact kP ah
   | false=>refine pQ fun hh=>?_;rw [alM ah] at hc;cases hc
  rw [hf];cases fits 60 (Pg.run b wo i h).1 with
  | true=>rfl
  | false=>rw [aJ,aJ];exact ih _ _ (Pg.Ic b wo i h hi)
end
def Vk (d:Nat):Pg aC:=(gQ d).bind fun t=>.ret ⟨20,0,[],[],[t]⟩
def Vl (d:Nat) (r:Int) (y:Bool):Pg aC:=bif y then (lG 2).bind fun q=>(AX q 3<|gQ d).bind fun ts=>(Cv 3).bind fun o=>bif o then (uU [[62],[62,62],[124]]).bind fun x=>(gQ<|d - 1).bind fun t=>.ret ⟨21,q,[],x,ts++[t]⟩ else .ret ⟨21,q,[],[],ts⟩
 else bif r==2 then (Eh [22,25,26]).bind fun k=>.ret ⟨k,0,[],[],[]⟩ else bif r==3 then (Eh [23,24]).bind fun k=>(AX 0 1<|gQ d).bind fun ts=>.ret ⟨k,0,[],[],ts⟩ else bif r==4 then Ig.bind fun x=>(AX 0 2<|gQ<|d - 1).bind fun ts=>.ret ⟨27,0,x,[],ts⟩
 else bif r==5 then (Cv 2).bind fun o=>bif o then (uU [[35],[35,32,110,111,116,101],[35,120,32,61,32,49]]).bind fun x=>.ret ⟨34,0,x,[],[]⟩ else Vk d else Vk d
def Vm (d:Nat):Pg aC:=(lG 9).bind fun r=>bif r==0 then Vl d r (r==0) else Vl d r (r==1)
def ML (d:Nat):Pg aC:=(Cv 3).bind fun o=>bif o then .ret ⟨16,0,[],[],[]⟩ else gQ d
def uq (s:Pg aC):Pg aC:=(lG 3).bind fun r=>(qE s r.toNat).bind fun ts=>.ret ⟨33,0,[],[],ts⟩
def Zp (bl:Pg aC):Pg aC:=(lG 6).bind fun r=>bif r==0 then (gQ 1).bind fun t=>bl.bind fun u=>.ret ⟨28,0,[],[],[t,u]⟩ else bif r==1 then (gQ 1).bind fun t=>bl.bind fun u=>bl.bind fun v=>.ret ⟨28,0,[],[],[t,u,v]⟩ else bif r==2 then (gQ 1).bind fun t=>bl.bind fun u=>.ret ⟨29,0,[],[],[t,u]⟩ else bif r==3 then bl.bind fun u=>(gQ 1).bind fun t=>.ret ⟨30,0,[],[],[u,t]⟩
 else bif r==4 then (ML 2).bind fun t=>(ML 1).bind fun u=>(ML 1).bind fun v=>bl.bind fun w=>.ret ⟨31,0,[],[],[t,u,v,w]⟩ else (Cv 2).bind fun o=>bif o then bl else Ig.bind fun x=>Ig.bind fun y=>bl.bind fun u=>.ret ⟨32,0,x,y,[u]⟩
def og:Nat->Pg aC
 | 0=>Vm 0
 | d+1=>((Cv 3).bind fun o=>.ret<|!o).bind fun y=>bif y then Vm (min (d+1) 2) else Zp (uq<|og d)
def wu:Pg aC:=(lG 2).bind fun a=>(lG 8).bind fun r=>bif r==0 then (lG 2).bind fun q=>(uq<|og (1+a).toNat).bind fun u=>.ret ⟨40+q,0,[],[],[u]⟩ else bif r==1 then (gQ (1+a).toNat).bind fun t=>.ret ⟨42,1,[],[],[t]⟩ else bif r==2 then (uq<|og (1+a).toNat).bind fun u=>.ret ⟨42,2,[],[],[u]⟩ else bif r==3 then (gQ 1).bind fun t=>(gQ 1).bind fun u=>.ret ⟨43,1,[],[],[t,u]⟩
 else bif r==4 then (gQ 1).bind fun t=>(gQ 1).bind fun u=>(uq<|og (1+a).toNat).bind fun v=>.ret ⟨43,3,[],[],[t,u,v]⟩ else bif r==5 then (lG 3).bind fun q=>(qE Ih q.toNat).bind fun ws=>(uU [[102],[103],[109,97,120]]).bind fun x=>(uq<|og (1+a).toNat).bind fun u=>.ret ⟨44,0,x,[],ws++[u]⟩
 else bif r==6 then (uU [[35,32,116,111,112],[35]]).bind fun x=>.ret ⟨34,0,x,[],[]⟩ else (gQ (1+a).toNat).bind fun t=>(uq<|og (1+a).toNat).bind fun u=>.ret ⟨42,3,[],[],[t,u]⟩
def mE:Pg aC:=(lG 4).bind fun r=>(qE wu r.toNat).bind fun ts=>.ret ⟨45,0,[],[],ts⟩
def Zq {α:Type} {p:Pg α} {P:α->Prop} (h:Pg.Post P p):Pg.Post (fun _=>True) p:=h.imp fun _ _=>trivial
def Vn (l:List Int) (h:0 < l.length):Pg.Post (fun _=>True) (Eh l):=Ve l h fun _ _=>trivial
def aiU:∀ (a c:List aC) (d:Nat),ji a<=d->ji c<=d->ji (a++c)<=d
 | [],_,_,_,h=>h
 | t::a,c,d,h1,h2=>by
  simp only [Gy,ji] at h1 ⊢;have:=aiU a c d ah h2;omega
def mk0 {m d:Nat} {k o:Int} {x:List UInt8} (hx:Sh x) (hm:1<=m) (hd:1<=d):Gd m d ⟨k,o,x,[],[]⟩:=Gd.mk hx jF (by simp only [aK];omega) (by simp only [ji];omega) fun t ht=>by cases ht
def Ej {d:Nat} (h:d<=2):Pg.Post (Gd 16 4) (gQ d):=(lH d).imp fun t ht=>ht.mono (FL (a:=d) (c:=2) h) (by unfold zJ;split<;>omega)
def apW {d:Nat} (h:d<=2) (r:Int) (y:Bool):Pg.Post (Gd 70 5) (Vl d r y):=by
 have e:=Ej h;have e1:=Ej (d:=d - 1) ah;have hK:Pg.Post (Gd 70 5) (Vk d):=e.bind fun t ht=>.ret (mk1 jF ht ah ah);refine iY ?_ (iY ?_ (iY ?_ (iY ?_ (iY ?_ hK))))
 .refine (fG 2).bind fun q hq=>?_;obtain ⟨q,rfl⟩:=qZ hq.1;refine (Ei e q 3 ah).bind fun ts hts=>(uo 3).bind fun o _=>iY ((uV _ aM aM).bind fun x hx=>e1.bind fun t ht=>.ret ?_) (.ret<|Vj jF hts ah ah);refine Gd.mk jF hx ?_ ?_ fun t' ht'=>?_
  .have:=hts.2.2.1;have:=ht.1;rw [FM];simp only [aK];omega
  .have:=aiU ts [t] 4 hts.2.2.2.1 (by have:=ht.2.1;simp only [ji];omega);omega
  .rcases lX.1 ht' with h|h
   .exact hts.2.2.2.2 t' h
   .rw [uD.1 h];exact ht.2.2
 .exact (Vn _ aM).bind fun k _=>.ret (mk0 jF ah ah)
 .exact (Vn _ aM).bind fun k _=>(Ei e 0 1 ah).bind fun ts hts=>.ret (Vj jF hts ah ah)
 .exact qD.bind fun x hx=>(Ei e1 0 2 ah).bind fun ts hts=>.ret (Vj hx hts ah ah)
 .exact (uo 2).bind fun o _=>iY ((uV _ aM aM).bind fun x hx=>.ret<|mk0 hx ah ah) hK
def apX {d:Nat} (h:d<=2):Pg.Post (Gd 70 5) (Vm d):=(fG 9).bind fun r _=>iY (apW h r _) (apW h r _)
def Vo {d:Nat} (h:d<=2):Pg.Post (Gd 16 4) (ML d):=(uo 3).bind fun o _=>iY (.ret<|mk0 jF ah ah) (Ej h)
def Vp {s:Pg aC} {m d:Nat} (h:Pg.Post (Gd m d) s):Pg.Post (Gd (2*m+1)<|d+1) (uq s):=(fG 3).bind fun r hr=>(FJ h _).bind fun ts hts=>.ret (by
 obtain ⟨g1,g2,g3⟩:=Zl hts.2;have hl:ts.length<=2:=by rw [hts.1];omega
 have:=wO m hl;exact Gd.mk jF jF ah ah g3)
def azV {bl:Pg aC} {m d:Nat} (h:Pg.Post (Gd m d) bl) (hd:4<=d):Pg.Post (Gd (2*m+60)<|d+1) (Zp bl):=by
 have e:=Ej (d:=1) ah;refine (fG 6).bind fun r _=>iY ?_ (iY ?_ (iY ?_ (iY ?_ (iY ?_ ?_))))
 .exact e.bind fun t ht=>h.bind fun u hu=>.ret (mk2 jF ht hu ah ah)
 .exact e.bind fun t ht=>h.bind fun u hu=>h.bind fun v hv=>.ret (mk3 jF ht hu hv ah ah)
 .exact e.bind fun t ht=>h.bind fun u hu=>.ret (mk2 jF ht hu ah ah)
 .exact h.bind fun u hu=>e.bind fun t ht=>.ret (mk2 jF hu ht ah ah)
 .refine (Vo ah).bind fun t ht=>(Vo ah).bind fun u hu=>(Vo ah).bind fun v hv=>h.bind fun w hw=>.ret (Gd.mk jF jF ?_ ?_ fun t' ht'=>?_)
  .have:=ht.1;have:=hu.1;have:=hv.1;have:=hw.1;simp only [aK];omega
  .have:=ht.2.1;have:=hu.2.1;have:=hv.2.1;have:=hw.2.1;simp only [ji];omega
  .simp only [iL,NQ,NW] at ht';rcases ht' with rfl|rfl|rfl|rfl
   .exact ht.2.2
   .exact hu.2.2
   .exact hv.2.2
   .exact hw.2.2
 .refine (uo 2).bind fun o _=>iY (h.imp fun t ht=>ht.mono ah ah) (qD.bind fun x hx=>qD.bind fun y hy=>h.bind fun u hu=>.ret<|Gd.mk hx hy ?_ ?_ fun t' ht'=>?_)
  .have:=hu.1;simp only [aK];omega
  .have:=hu.2.1;simp only [ji];omega
  .rw [uD.1 ht'];exact hu.2.2
def ss:Nat->Nat
 | 0=>70
 | d+1=>4*ss d+62
def apY:∀ d,70<=ss d
 | 0=>eU _
 | d+1=>by have:=apY d;rw [ss];omega
def El:∀ d,Pg.Post (Gd (ss d)<|2*d+5) (og d)
 | 0=>apX ah
 | d+1=>by
  have h:=apY d;refine Pg.Post.bind (Zq<|uo 3 |>.bind fun o _=>.ret (P:=fun _=>True) trivial) fun y _=>iY ((apX ah).imp fun t ht=>ht.mono (by rw [ss];omega) ah) ((azV (Vp<|El d) ah).imp fun t ht=>ht.mono (by rw [ss];omega) ah)
def adT {a:Int} (h0:0<=a) (h1:a < 2):Pg.Post (Gd 2861 10) (uq<|og (1+a).toNat):=by
 have:a=0\/a=1:=ah;rcases this with rfl|rfl
 .exact (Vp<|El 1).imp fun t ht=>ht.mono aM aM
 .exact (Vp<|El 2).imp fun t ht=>ht.mono aM aM
def adU:Pg.Post (Gd 2960 11) wu:=by
 refine (fG 2).bind fun a ha=>?_;have hB:=adT (a:=a) ha.1 ah;have e:=Ej (d:=(1+a).toNat) ah;have e1:=Ej (d:=1) ah;refine (fG 8).bind fun r _=>iY ?_ (iY ?_ (iY ?_ (iY ?_ (iY ?_ (iY ?_ (iY ?_ ?_))))))
 .exact (fG 2).bind fun q _=>hB.bind fun u hu=>.ret (mk1 jF hu ah ah)
 .exact e.bind fun t ht=>.ret (mk1 jF ht ah ah)
 .exact hB.bind fun t ht=>.ret (mk1 jF ht ah ah)
 .exact e1.bind fun t ht=>e1.bind fun u hu=>.ret (mk2 jF ht hu ah ah)
 .exact e1.bind fun t ht=>e1.bind fun u hu=>hB.bind fun v hv=>.ret (mk3 jF ht hu hv ah ah)
 .refine (fG 3).bind fun q hq=>(FJ QA _).bind fun ws hws=>(uV _ aM aM).bind fun x hx=>hB.bind fun u hu=>.ret ?_;obtain ⟨g1,g2,g3⟩:=Zl hws.2;have hl:ws.length<=2:=by rw [hws.1];omega
  refine Gd.mk hx jF ?_ ?_ fun t' ht'=>?_
  .have:=hu.1;rw [FM];simp only [aK];omega
  .have:=aiU ws [u] 10 ah (by have:=hu.2.1;simp only [ji];omega);omega
  .rcases lX.1 ht' with h|h
   .exact g3 t' h
   .rw [uD.1 h];exact hu.2.2
 .exact (uV _ aM aM).bind fun x hx=>.ret (mk0 hx ah ah)
 .exact e.bind fun t ht=>hB.bind fun u hu=>.ret (mk2 jF ht hu ah ah)
def azW:Pg.Post (Gd 9000 12) mE:=(fG 4).bind fun r hr=>(FJ adU _).bind fun ts hts=>.ret (by
 obtain ⟨g1,g2,g3⟩:=Zl hts.2;have hl:ts.length<=3:=by rw [hts.1];omega
 have:=wO 2960 hl;exact Gd.mk jF jF ah ah g3)
def azX {e:Pg aC} {P:aC->Prop} {n:Nat} (h:Pg.Post P e) (g:Pg.Le e n) (q:Int) (h0:0<=q) (h3:q<=3):Pg.Le (AX q 3 e) (3*n+1):=by
 obtain ⟨q,rfl⟩:=qZ h0;exact Vi h g q 3 ah ah
def aiV {e:Pg aC} {P:aC->Prop} (h:Pg.Post P e) (lo hi:Int):Pg.Post (fun _=>True) (AX lo hi e):=(fG _).bind fun r _=>Zq (FJ h _)
def apZ (d:Nat) (r:Int) (y:Bool):Pg.Le (Vl d r y) (3*eb d+eb (d - 1)+4):=by
 have g:=QB d;have g1:=QB (d - 1);have hle:=Vh (a:=d - 1) (c:=d) ah;have hK:Pg.Le (Vk d) (eb d):=jU (lH d) g;refine leB ?_ (leB ?_ (leB ?_ (leB ?_ (leB ?_ (hK.mono ah)))))
 .refine Pg.fu.bind (fG 2) (below_le 2 ah) (m:=3*eb d+eb (d - 1)+3) (fun q hq=>?_) ah;refine Pg.fu.bind (aiV (lH d) q 3) (azX (lH d) g q hq.1 ah) (m:=eb (d - 1)+2) (fun ts _=>?_) ah;refine Pg.fu.bind (uo 3) (Vd 3 ah) (m:=eb (d - 1)+1) (fun o _=>leB ?_ .ret) ah;exact Pg.fu.bind (uV _ aM aM) (JG _ aM) (m:=eb (d - 1)) (fun x _=>jU (lH<|d - 1) g1) ah
 .exact (jU (Vn _ aM)<|Zh _ aM).mono ah
 .exact Pg.fu.bind (Vn _ aM) (Zh _ aM) (m:=1*eb d+1) (fun k _=>jU (aiV (lH d) 0 1)<|Vi (lH d) g 0 1 ah ah) ah
 .exact Pg.fu.bind qD Qy (m:=2*eb (d - 1)+1) (fun k _=>jU (aiV (lH<|d - 1) 0 2)<|Vi (lH<|d - 1) g1 0 2 ah ah) ah
 .exact Pg.fu.bind (uo 2) (Vd 2 ah) (m:=3*eb d+1) (fun o _=>leB ((jU (uV _ aM aM)<|JG _ aM).mono ah)<|hK.mono ah) ah
def aiW (d:Nat):Pg.Le (Vm d) (3*eb d+eb (d - 1)+5):=Pg.fu.bind (fG 9) (below_le 9 ah) (m:=3*eb d+eb (d - 1)+4) (fun r _=>leB (apZ d r _)<|apZ d r _) ah
def aiX (d:Nat):Pg.Le (ML d) (eb d+1):=Pg.fu.bind (uo 3) (Vd 3 ah) (m:=eb d) (fun o _=>leB .ret<|QB d) ah
def aiY (d:Nat):Pg.Post (fun _=>True) (ML d):=(uo 3).bind fun o _=>iY (.ret trivial) (Zq<|lH d)
def adV {s:Pg aC} {P:aC->Prop} {n:Nat} (h:Pg.Post P s) (g:Pg.Le s n):Pg.Le (uq s) (2*n+1):=Pg.fu.bind (fG 3) (below_le 3 ah) (m:=2*n) (fun r hr=>jU (FJ h _)<|(Zm h g _).mono<|wO n ah) ah
def aqa {bl:Pg aC} {P:aC->Prop} {n k:Nat} (h:Pg.Post P bl) (g:Pg.Le bl n) (h1:14+2*n<=k) (h2:73+n<=k):Pg.Le (Zp bl) k:=by
 have e:=QB 1;have p:=lH 1;have e1:eb 1=13:=rfl;have e2:eb 2=43:=rfl;refine Pg.fu.bind (fG 6) (below_le 6 ah) (m:=k - 1) (fun r _=>leB ?_ (leB ?_ (leB ?_ (leB ?_ (leB ?_ ?_))))) ah
 .exact Pg.fu.bind p e (m:=n) (fun t _=>jU h g) ah
 .exact Pg.fu.bind p e (m:=2*n) (fun t _=>Pg.fu.bind h g (m:=n) (fun u _=>jU h g) ah) ah
 .exact Pg.fu.bind p e (m:=n) (fun t _=>jU h g) ah
 .exact Pg.fu.bind h g (m:=13) (fun t _=>jU p e) ah
 .exact Pg.fu.bind (aiY 2) (aiX 2) (m:=28+n) (fun t _=>Pg.fu.bind (aiY 1) (aiX 1) (m:=14+n) (fun u _=>Pg.fu.bind (aiY 1) (aiX 1) (m:=n) (fun v _=>jU h g) ah) ah) ah
 .exact Pg.fu.bind (uo 2) (Vd 2 ah) (m:=n+2) (fun o _=>leB (g.mono ah)<|Pg.fu.bind qD Qy (m:=n+1) (fun x _=>Pg.fu.bind qD Qy (m:=n) (fun y _=>jU h g) ah) ah) ah
def aqb:Pg.Le ((Cv 3).bind fun o=>Pg.ret<|!o) 1:=jU (uo 3) (Vd 3 ah)
def aiZ:Pg.Post (fun _=>True) ((Cv 3).bind fun o=>Pg.ret<|!o):=(uo 3).bind fun o _=>.ret trivial
def azY:Pg.Le (og 0) 17:=aiW 0
def aqc:Pg.Le (og 1) 109:=Pg.fu.bind aiZ aqb (m:=108) (fun y _=>leB ((aiW<|min 1 2).mono aM)<|aqa (Zq<|Vp<|El 0) (adV (El 0) azY) ah ah) ah
def azZ:Pg.Le (og 2) 453:=Pg.fu.bind aiZ aqb (m:=452) (fun y _=>leB ((aiW<|min 2 2).mono aM)<|aqa (Zq<|Vp<|El 1) (adV (El 1) aqc) ah ah) ah
def aAa {a:Int} (h0:0<=a) (h1:a < 2):Pg.Le (uq<|og (1+a).toNat) 907:=by
 have:a=0\/a=1:=ah;rcases this with rfl|rfl
 .exact (adV (El 1) aqc).mono aM
 .exact (adV (El 2) azZ).mono aM
def aAb:Pg.Le wu 952:=by
 refine Pg.fu.bind (fG 2) (below_le 2 ah) (m:=951) (fun a ha=>?_) ah;have hB:=adT (a:=a) ha.1 ah;have gB:=aAa (a:=a) ha.1 ah;have p:=lH (1+a).toNat
 have p1:=lH 1;have e:Pg.Le (gQ (1+a).toNat) 43:=(QB _).mono (Vh (a:=(1+a).toNat) (c:=2) ah);have e1:Pg.Le (gQ 1) 13:=QB 1;refine Pg.fu.bind (fG 8) (below_le 8 ah) (m:=950) (fun r _=>leB ?_ (leB ?_ (leB ?_ (leB ?_ (leB ?_ (leB ?_ (leB ?_ ?_))))))) ah
 .exact Pg.fu.bind (fG 2) (below_le 2 ah) (m:=907) (fun q _=>jU hB gB) ah
 .exact (jU p e).mono ah
 .exact (jU hB gB).mono ah
 .exact Pg.fu.bind p1 e1 (m:=13) (fun t _=>jU p1 e1) ah
 .exact Pg.fu.bind p1 e1 (m:=920) (fun t _=>Pg.fu.bind p1 e1 (m:=907) (fun t _=>jU hB gB) ah) ah
 .exact Pg.fu.bind (fG 3) (below_le 3 ah) (m:=910) (fun q hq=>Pg.fu.bind (FJ QA _) ((Zm QA adP _).mono<|show q.toNat*1<=2 by omega) (m:=908) (fun ws _=>Pg.fu.bind (uV _ aM aM) (JG _ aM) (m:=907) (fun x _=>jU hB gB) ah) ah) ah
 .exact (jU (uV _ aM aM)<|JG _ aM).mono ah
 .exact Pg.fu.bind p e (m:=907) (fun t _=>jU hB gB) ah
def aAc:Pg.Le mE 2857:=Pg.fu.bind (fG 4) (below_le 4 ah) (m:=2856) (fun r hr=>jU (FJ adU _)<|(Zm adU aAb _).mono<|show r.toNat*952<=2856 by omega) ah
section
set_option linter.unusedSectionVars false
variable (b:List UInt8) (hb:b.length<=1048576) {N:Nat} (hN:1050000<=N)
include hb hN
theorem Vq {d:Nat} (hd:d<=6) (deep:Int) (hdp:deep.toNat=d) (g1: -1000<=deep) (g2:deep<=1000) (i:Nat) (h:Int) (hi:i<=b.length):Sm b (gQ d) (bf 0) i h (fK N deep b (i:Int) h):=apV b hb N d hd ah deep hdp g1 g2 i h hi
theorem aqd {d:Nat} (hd:d<=2) (deep:Int) (hdp:deep.toNat=d) (g1: -800<=deep) (i:Nat) (h:Int) (hi:i<=b.length):Sm b (Vk d) (bf 0) i h (Tw N b (deep,(i:Int),h)):=by
 unfold Tw Vk;refine Sm.bind hi (Ej hd) (Vq b hb hN ah deep hdp ah ah i h hi) fun t i h ht hi=>?_;exact mD (α:=Unit) b hb ah 20 0 [] [] [t] (by have:=ht.1;simp only [aK];omega) i h
theorem aqe {d:Nat} (hd:d<=2) (deep:Int) (hdp:deep.toNat=d) (g1: -800<=deep) (r:Int) (y:Bool) (i:Nat) (h:Int) (hi:i<=b.length):Sm b (Vl d r y) (bf 0) i h (TB N b (deep,(r,(i:Int),h),y)):=by
 have e:=Ej hd;have e1:=Ej (d:=d - 1) ah;have w1:IntKind.wrap .i64 (deep - 1)=deep - 1:=wrap64 ah ah;unfold TB Vl;dsimp only;refine Sm.cond (fun _=>?_) fun _=>Sm.cond (fun _=>?_) fun _=>Sm.cond (fun _=>?_) fun _=>Sm.cond (fun _=>?_) fun _=>Sm.cond (fun _=>?_) fun _=>aqd b hb hN hd deep hdp g1 i h hi
 .refine Sm.bind hi (fG 2) (wm b hb 2 i h hi) fun q i h hq hi=>?_;obtain ⟨q,rfl⟩:=qZ hq.1;dsimp only;refine Sm.bind hi (Ei e q 3 ah) (aiT b hb N d ah ah q 3 ah ah deep hdp ah ah i h hi) fun ts i h hts hi=>?_;dsimp only;refine Sm.bind hi (uo 3) (Vf b hb 3 i h hi) fun o i h _ hi=>?_;dsimp only;refine Sm.cond (fun _=>?_) fun _=>?_
  .refine Sm.bind hi (uV _ aM aM) (JH b hb _ aM i h hi) fun x i h _ hi=>?_;dsimp only;rw [w1];refine Sm.bind hi e1 (Vq b hb hN ah (deep - 1) ah ah ah i h hi) fun t i h ht hi=>?_;dsimp only;rw [jf (by have:=hts.2.1;simp;omega),av];unfold Tx;dsimp only;have:=mD (α:=Unit) b hb (N:=N) ah 21 (q:Int) [] x (ts++[t]) (by have:=ht.1;have:=hts.2.2.1;rw [FM];simp only [aK];omega) i h;rw [Aj] at this;exact this
  .unfold Tx;dsimp only;exact mD (α:=Unit) b hb ah 21 (q:Int) [] [] ts (by have:=hts.2.2.1;omega) i h
 .exact Sm.bind hi (Vn _ aM) (Zj b hb _ aM i h hi) fun k i h _ hi=>Sm.ret
 .refine Sm.bind hi (Vn _ aM) (Zj b hb _ aM i h hi) fun k i h _ hi=>?_;dsimp only;refine Sm.bind hi (Ei e 0 1 ah) (aiT b hb N d ah ah 0 1 ah ah deep hdp ah ah i h hi) fun ts i h hts hi=>?_;exact mD (α:=Unit) b hb ah k 0 [] [] ts (by have:=hts.2.2.1;omega) i h
 .refine Sm.bind hi qD (JI b hb i h hi) fun x i h _ hi=>?_;dsimp only;rw [w1];refine Sm.bind hi (Ei e1 0 2 ah) (aiT b hb N (d - 1) ah ah 0 2 ah ah (deep - 1) ah ah ah i h hi) fun ts i h hts hi=>?_;exact mD (α:=Unit) b hb ah 27 0 x [] ts (by have:=hts.2.2.1;omega) i h
 .refine Sm.bind hi (uo 2) (Vf b hb 2 i h hi) fun o i h _ hi=>?_;dsimp only;exact Sm.cond (fun _=>Sm.bind hi (uV _ aM aM) (JH b hb _ aM i h hi) fun x i h _ hi=>Sm.ret) fun _=>aqd b hb hN hd deep hdp g1 i h hi
theorem aqf {d:Nat} (hd:d<=2) (deep:Int) (hdp:deep.toNat=d) (g1: -800<=deep) (i:Nat) (h:Int) (hi:i<=b.length):Sm b (Vm d) (bf 0) i h (WV N deep b (i:Int) h):=by
 unfold WV Vm;refine Sm.bind hi (fG 9) (wm b hb 9 i h hi) fun r i h _ hi=>?_;dsimp only;exact Sm.cond (fun _=>aqe b hb hN hd deep hdp g1 r _ i h hi) fun _=>aqe b hb hN hd deep hdp g1 r _ i h hi
theorem aja {d:Nat} (hd:d<=2) (i:Nat) (h:Int) (hi:i<=b.length):Sm b (ML d) (bf 0) i h (GR N (d:Int) b (i:Int) h):=by
 unfold GR ML;refine Sm.bind hi (uo 3) (Vf b hb 3 i h hi) fun o i h _ hi=>?_;dsimp only;exact Sm.cond (fun _=>Sm.ret) fun _=>Ef (Vq b hb hN ah (d:Int) ah ah ah i h hi)
def SS (M d:Nat):Prop:=∀ (deep:Int) (i:Nat) (h:Int),deep.toNat=d-> -700<=deep->i<=b.length->Sm b (og d) (bf 0) i h ((rE M).DF deep b (i:Int) h)
def BS (M d:Nat):Prop:=∀ (deep:Int) (i:Nat) (h:Int),deep.toNat=d-> -700<=deep->i<=b.length->Sm b (uq<|og d) (bf 0) i h ((rE M).jH deep b (i:Int) h)
theorem aAd {M d:Nat} (hM:1048577 < M) (hd:d<=4) (hS:SS b M d) (deep:Int) (hdp:deep.toNat=d) (g1: -700<=deep):∀ (n c:Nat) (i:Nat) (h:Int) (acc:List aC),c < n->acc.length+c<=3->aK acc<=acc.length*ss d->i<=b.length->
  Sm b ((qE (og d) c).bind fun ts=>.ret (⟨33,0,[],[],acc++ts⟩:aC)) (bf 0) i h (OH M (rE M) b n (deep,(c:Int),(i:Int),h,acc.map<|bf 0)):=by
 have hss:ss d<=100000:=by
  have:d=0\/d=1\/d=2\/d=3\/d=4:=ah;rcases this with rfl|rfl|rfl|rfl|rfl<;>decide
 intro n;induction n with
 | zero=>intro c i h acc hc;omega
 | succ n ih=>
  intro c i h acc hc ha hs hi;rw [OH];cases c with
  | zero=>
   have:decide (((0:Nat):Int) > 0)=false:=rfl;rw [this,aJ];show Sm b (.ret (⟨33,0,[],[],acc++[]⟩:aC)) _ _ _ _;rw [nQ];exact mD (α:=Unit) b hb hM 33 0 [] [] acc (by have:=wO (ss d) (show acc.length<=3 by omega);omega) i h
  | succ c=>
   have:decide (((c+1:Nat):Int) > 0)=true:=kP ah;rw [this,aS,qE];have key:∀ t:aC,(qE (og d) c).bind (fun ts=>Pg.ret (⟨33,0,[],[],acc++(t::ts)⟩:aC))=(qE (og d) c).bind fun ts=>Pg.ret (⟨33,0,[],[],(acc++[t])++ts⟩:aC):=fun t=>by
    congr 1;funext ts;rw [jP];rfl
   have assoc:∀ (p:Pg aC) (f:aC->Pg (List aC)) (g:List aC->Pg aC),(p.bind f).bind g=p.bind fun a=>(f a).bind g:=fun p f g=>by
    induction p with
    | ret a=>rfl
    | rd k ih=>simp only [Pg.bind,ih]
   have aAe:∀ (p:Pg (List aC)) (f:List aC->Pg (List aC)) (g:List aC->Pg aC),(p.bind f).bind g=p.bind fun a=>(f a).bind g:=fun p f g=>by
    induction p with
    | ret a=>rfl
    | rd k ih=>simp only [Pg.bind,ih]
   rw [assoc];refine Sm.bind hi (El d) (hS deep i h hdp g1 hi) fun t i h ht hi=>?_;dsimp only;rw [jf aU,av,wrap64 ah ah,show ((c+1:Nat):Int) - 1=(c:Int) by omega,aAe];have:=ih c i h (acc++[t]) ah aU (by rw [FM,fP,ED,wT];have:=ht.1;simp only [aK];omega) hi;rw [Aj] at this;show Sm b ((qE (og d) c).bind fun ts=>Pg.ret (⟨33,0,[],[],acc++(t::ts)⟩:aC)) _ _ _ _;rw [key t];exact this
theorem aqg {M d:Nat} (hM:1048577 < M) (hd:d<=4) (hS:SS b M d):BS b (M+1) d:=by
 intro deep i h hdp g1 hi;show Sm b _ _ i h (WW M (rE M) deep b (i:Int) h);unfold WW uq;refine Sm.bind hi (fG 3) (wm b hb 3 i h hi) fun r i h hr hi=>?_;obtain ⟨c,rfl⟩:=qZ hr.1;dsimp only;rw [Dc];exact aAd b hb hN hM hd hS deep hdp g1 M c i h [] ah aU (by simp [aK]) hi
theorem aAf {M:Nat} (hM:1050000<=M):SS b (M+1) 0:=by
 intro deep i h hdp g1 hi;show Sm b _ _ i h (OI M (rE M) deep b (i:Int) h);unfold OI;rw [kP (show deep<=0 by omega),aS,av];have e:(if 2 < deep then 2 else deep)=deep:=bA ah;dsimp only;rw [aS,e];exact Ef (aqf b hb (N:=M) ah ah deep hdp ah i h hi)
theorem aAg {M d:Nat} (hM:1050000<=M) (hd:d<=3) (deep:Int) (hdp:deep.toNat=d+1) (hB:BS b M d) (i:Nat) (h:Int) (hi:i<=b.length) (f:(Int×Int×Int)->Option (List aD×Int×Int))
  (hf:f=fun gK=>bif (gK.1==0) then (fK M 1 b gK.2.1 gK.2.2).bind fun kR=>((rE M).jH (IntKind.wrap .i64<|deep - 1) b kR.2.1 kR.2.2).bind fun eP=>(fJ M (⟨28,0,[],[],[]⟩:aD) [kR.1,eP.1]).bind fun lN=>some (lN,eP.2.1,eP.2.2) else (bif (gK.1==1) then (fK M 1 b gK.2.1 gK.2.2).bind fun uO=>((rE M).jH (IntKind.wrap .i64<|deep - 1) b uO.2.1 uO.2.2).bind fun zm=>((rE M).jH (IntKind.wrap .i64<|deep - 1) b zm.2.1 zm.2.2).bind fun bU=>(fJ M (⟨28,0,[],[],[]⟩:aD) [uO.1,zm.1,bU.1]).bind fun r68=>some (r68,bU.2.1,bU.2.2) else (bif (gK.1==2) then (fK M 1 b gK.2.1 gK.2.2).bind fun DI=>((rE M).jH (IntKind.wrap .i64<|deep - 1) b DI.2.1 DI.2.2).bind fun BQ=>(fJ M (⟨29,0,[],[],[]⟩:aD) [DI.1,BQ.1]).bind fun AB=>some (AB,BQ.2.1,BQ.2.2) else (bif (gK.1==3) then ((rE M).jH (IntKind.wrap .i64<|deep - 1) b gK.2.1 gK.2.2).bind fun tY=>(fK M 1 b tY.2.1 tY.2.2).bind fun vQ=>(fJ M (⟨30,0,[],[],[]⟩:aD) [tY.1,vQ.1]).bind fun EZ=>some (EZ,vQ.2.1,vQ.2.2) else (bif (gK.1==4) then (GR M 2 b gK.2.1 gK.2.2).bind fun nV=>(GR M 1 b nV.2.1 nV.2.2).bind fun vR=>(GR M 1 b vR.2.1 vR.2.2).bind fun oU=>((rE M).jH (IntKind.wrap .i64<|deep - 1) b oU.2.1 oU.2.2).bind fun kZ=>(fJ M (⟨31,0,[],[],[]⟩:aD) [nV.1,vR.1,oU.1,kZ.1]).bind fun oQ=>some (oQ,kZ.2.1,kZ.2.2) else ((vM 2 b gK.2.1 gK.2.2).bind fun uN=>bif uN.1 then ((rE M).jH (IntKind.wrap .i64<|deep - 1) b uN.2.1 uN.2.2).bind fun rD=>some (rD.1,rD.2.1,rD.2.2) else ((Aw b uN.2.1 uN.2.2).bind fun Fa=>(Aw b Fa.2.1 Fa.2.2).bind fun uP=>((rE M).jH (IntKind.wrap .i64<|deep - 1) b uP.2.1 uP.2.2).bind fun BN=>(fJ M (⟨32,0,Fa.1,uP.1,[]⟩:aD) [BN.1]).bind fun qJ=>some (qJ,BN.2.1,BN.2.2)))))))):
  Sm b (Zp<|uq<|og d) (bf 0) i h (Option.bind (jG 6 b (i:Int) h) f):=by
 have hss:ss d<=100000:=by
  have:d=0\/d=1\/d=2\/d=3:=ah;rcases this with rfl|rfl|rfl|rfl<;>decide
 have w1:IntKind.wrap .i64 (deep - 1)=deep - 1:=wrap64 ah ah;have e:=Ej (d:=1) ah;have e1:∀ (i:Nat) h,i<=b.length->Sm b (gQ 1) (bf 0) i h (fK M 1 b (i:Int) h):=fun i h hi=>Vq b hb (N:=M) ah ah 1 rfl ah ah i h hi;have p:=Vp (El d);have g:∀ (i:Nat) h,i<=b.length->Sm b (uq<|og d) (bf 0) i h ((rE M).jH (deep - 1) b (i:Int) h):=fun i h hi=>hB (deep - 1) i h ah ah hi;subst hf;rw [w1];unfold Zp;refine Sm.bind hi (fG 6) (wm b hb 6 i h hi) fun r i h _ hi=>?_;dsimp only;refine Sm.cond (fun _=>?_) fun _=>Sm.cond (fun _=>?_) fun _=>Sm.cond (fun _=>?_) fun _=>Sm.cond (fun _=>?_) fun _=>Sm.cond (fun _=>?_) fun _=>?_
 .refine Sm.bind hi e (e1 i h hi) fun t i h ht hi=>?_;dsimp only;refine Sm.bind hi p (g i h hi) fun u i h hu hi=>?_;exact mD (α:=Unit) b hb ah 28 0 [] [] [t,u] (by have:=ht.1;have:=hu.1;simp only [aK];omega) i h
 .refine Sm.bind hi e (e1 i h hi) fun t i h ht hi=>?_;dsimp only;refine Sm.bind hi p (g i h hi) fun u i h hu hi=>?_;dsimp only;refine Sm.bind hi p (g i h hi) fun v i h hv hi=>?_;exact mD (α:=Unit) b hb ah 28 0 [] [] [t,u,v] (by have:=ht.1;have:=hu.1;have:=hv.1;simp only [aK];omega) i h
 .refine Sm.bind hi e (e1 i h hi) fun t i h ht hi=>?_;dsimp only;refine Sm.bind hi p (g i h hi) fun u i h hu hi=>?_;exact mD (α:=Unit) b hb ah 29 0 [] [] [t,u] (by have:=ht.1;have:=hu.1;simp only [aK];omega) i h
 .refine Sm.bind hi p (g i h hi) fun u i h hu hi=>?_;dsimp only;refine Sm.bind hi e (e1 i h hi) fun t i h ht hi=>?_;exact mD (α:=Unit) b hb ah 30 0 [] [] [u,t] (by have:=ht.1;have:=hu.1;simp only [aK];omega) i h
 .refine Sm.bind hi (Vo ah) (aja b hb (N:=M) ah (d:=2) ah i h hi) fun t i h ht hi=>?_;dsimp only;refine Sm.bind hi (Vo ah) (aja b hb (N:=M) ah (d:=1) ah i h hi) fun u i h hu hi=>?_;dsimp only;refine Sm.bind hi (Vo ah) (aja b hb (N:=M) ah (d:=1) ah i h hi) fun v i h hv hi=>?_;dsimp only;refine Sm.bind hi p (g i h hi) fun w i h hw hi=>?_;exact mD (α:=Unit) b hb ah 31 0 [] [] [t,u,v,w] (by have:=ht.1;have:=hu.1;have:=hv.1;have:=hw.1;simp only [aK];omega) i h
 .refine Sm.bind hi (uo 2) (Vf b hb 2 i h hi) fun o i h _ hi=>?_;dsimp only;refine Sm.cond (fun _=>Ef<|g i h hi) fun _=>?_;refine Sm.bind hi qD (JI b hb i h hi) fun x i h _ hi=>?_;dsimp only;refine Sm.bind hi qD (JI b hb i h hi) fun y i h _ hi=>?_;dsimp only;refine Sm.bind hi p (g i h hi) fun u i h hu hi=>?_;exact mD (α:=Unit) b hb ah 32 0 x y [u] (by have:=hu.1;simp only [aK];omega) i h
theorem aAh {M d:Nat} (hM:1050000<=M) (hd:d<=3) (hB:BS b M d):SS b (M+1) (d+1):=by
 intro deep i h hdp g1 hi;show Sm b _ _ i h (OI M (rE M) deep b (i:Int) h);unfold OI og;rw [pQ (show¬deep<=0 by omega),aJ];have ho:Sm b ((Cv 3).bind fun o=>Pg.ret<|!o) (fun x=>x) i h ((vM 3 b (i:Int) h).bind fun dz=>some ((!dz.1),dz.2.1,dz.2.2)):=Sm.bind hi (uo 3) (Vf b hb 3 i h hi) fun o i h _ hi=>Sm.ret;refine Sm.bind hi aiZ ho fun y i h _ hi=>?_;dsimp only;refine Sm.cond (fun _=>?_) fun _=>aAg b hb hN hM hd deep hdp hB i h hi _ rfl;refine Ef (aqf b hb (N:=M) ah ah _ ?_ ?_ i h hi)
 .split<;>omega
 .split<;>omega
theorem aqh:∀ (d M:Nat),d<=4->1050000+2*d+1<=M->SS b M d:=by
 intro d;induction d with
 | zero=>
  intro M hd hM;obtain ⟨M,rfl⟩:∃ m,M=m+1:=⟨M - 1,ah⟩
  exact aAf b hb hN ah
 | succ d ih=>
  intro M hd hM;obtain ⟨M,rfl⟩:∃ m,M=m+1+1:=⟨M - 2,ah⟩
  exact aAh b hb hN ah ah (aqg b hb hN ah ah<|ih M ah ah)
theorem aAi {d:Nat} (hd:d<=4) (Ii:1050100<=N) (deep:Int) (hdp:deep.toNat=d) (g1: -700<=deep) (i:Nat) (h:Int) (hi:i<=b.length):Sm b (og d) (bf 0) i h (DF N deep b (i:Int) h):=aqh b hb hN d N hd ah deep i h hdp g1 hi
theorem aqi {d:Nat} (hd:d<=4) (Ii:1050100<=N) (deep:Int) (hdp:deep.toNat=d) (g1: -700<=deep) (i:Nat) (h:Int) (hi:i<=b.length):Sm b (uq<|og d) (bf 0) i h (jH N deep b (i:Int) h):=by
 obtain ⟨M,rfl⟩:∃ m,N=m+1:=⟨N - 1,ah⟩
 exact aqg b hb hN ah hd (aqh b hb hN d M hd ah) deep i h hdp g1 hi
theorem aAj (Ii:1050100<=N) (r2:Int×Int×Int) (a:Int) (h2:r2.1=a) (ha:0<=a) (ha2:a < 2):∀ (n c:Nat) (i:Nat) (h:Int) (acc:List aC),c < n->acc.length+c<=3->aK acc<=acc.length->i<=b.length->
  Sm b ((qE Ih c).bind fun ws=>(uU [[102],[103],[109,97,120]]).bind fun x=>(uq<|og (1+a).toNat).bind fun u=>.ret (⟨44,0,x,[],(acc++ws)++[u]⟩:aC)) (bf 0) i h (OJ N b n (r2,(c:Int),(i:Int),h,acc.map<|bf 0)):=by
 intro n;induction n with
 | zero=>intro c i h acc hc;omega
 | succ n ih=>
  intro c i h acc hc hl hs hi;rw [OJ];cases c with
  | zero=>
   have:decide (((0:Nat):Int) > 0)=false:=rfl;rw [this,aJ];show Sm b ((uU [[102],[103],[109,97,120]]).bind fun x=>(uq<|og (1+a).toNat).bind fun u=>.ret (⟨44,0,x,[],(acc++[])++[u]⟩:aC)) _ _ _ _;rw [nQ];refine Sm.bind hi (uV _ aM aM) (JH b hb _ aM i h hi) fun x i h hx hi=>?_;dsimp only;rw [h2,wrap64 ah ah];refine Sm.bind hi (adT ha ha2) (aqi b hb hN (d:=(1+a).toNat) ah Ii (1+a) rfl ah i h hi) fun u i h hu hi=>?_;dsimp only;rw [jf aU,av];have:=mD (α:=Unit) b hb (N:=N) ah 44 0 x [] (acc++[u]) (by have:=hu.1;rw [FM];simp only [aK];omega) i h;rw [Aj] at this;exact this
  | succ c=>
   have:decide (((c+1:Nat):Int) > 0)=true:=kP ah;rw [this,aS,qE];have assoc:∀ {α β γ:Type} (p:Pg α) (f:α->Pg β) (g:β->Pg γ),(p.bind f).bind g=p.bind fun a=>(f a).bind g:=fun p f g=>by
    induction p with
    | ret a=>rfl
    | rd k ih=>simp only [Pg.bind,ih]
   unfold Ih;rw [assoc,assoc];refine Sm.bind hi qD (JI b hb i h hi) fun x i h hx hi=>?_;dsimp only;rw [jf aU,av,wrap64 ah ah,show ((c+1:Nat):Int) - 1=(c:Int) by omega];have:=ih c i h (acc++[⟨1,0,x,[],[]⟩]) ah aU (by rw [FM,fP];simp only [aK,aQ,kY,wQ];omega) hi;rw [Aj] at this;show Sm b (((qE Ih c).bind fun vs=>Pg.ret<|(⟨1,0,x,[],[]⟩:aC)::vs).bind _) _ _ _ _;rw [assoc];have key:(fun vs=>(Pg.ret<|(⟨1,0,x,[],[]⟩:aC)::vs).bind fun ws=>(uU [[102],[103],[109,97,120]]).bind fun x_1=>(uq<|og (1+a).toNat).bind fun u=>Pg.ret (⟨44,0,x_1,[],acc++ws++[u]⟩:aC))=fun ws=>(uU [[102],[103],[109,97,120]]).bind fun x_1=>(uq<|og (1+a).toNat).bind fun u=>Pg.ret (⟨44,0,x_1,[],acc++[⟨1,0,x,[],[]⟩]++ws++[u]⟩:aC):=by
    funext ws;show (uU [[102],[103],[109,97,120]]).bind _=_;congr 1;funext x_1;congr 1;funext u;rw [jP acc [_] ws];rfl
   rw [key];exact this
theorem aAk (Ii:1050100<=N) (i:Nat) (h:Int) (hi:i<=b.length):Sm b wu (bf 0) i h (WY N b (i:Int) h):=by
 unfold WY wu;refine Sm.bind hi (fG 2) (wm b hb 2 i h hi) fun a i h ha hi=>?_;have ha2:a < 2:=ah;have wa:IntKind.wrap .i64 (1+a)=1+a:=wrap64 ah ah;have e:=Ej (d:=(1+a).toNat) ah;have e1:=Ej (d:=1) ah;have hB:=adT ha.1 ha2;have gB:∀ (i:Nat) h,i<=b.length->Sm b (uq<|og (1+a).toNat) (bf 0) i h (jH N (1+a) b (i:Int) h):=fun i h hi=>aqi b hb hN ah Ii (1+a) rfl ah i h hi;have gE:∀ (i:Nat) h,i<=b.length->Sm b (gQ (1+a).toNat) (bf 0) i h (fK N (1+a) b (i:Int) h):=fun i h hi=>Vq b hb hN ah (1+a) rfl ah ah i h hi;have g1:∀ (i:Nat) h,i<=b.length->Sm b (gQ 1) (bf 0) i h (fK N 1 b (i:Int) h):=fun i h hi=>Vq b hb hN ah 1 rfl ah ah i h hi;dsimp only;rw [wa];refine Sm.bind hi (fG 8) (wm b hb 8 i h hi) fun r i h _ hi=>?_;dsimp only;refine Sm.cond (fun _=>?_) fun _=>Sm.cond (fun _=>?_) fun _=>Sm.cond (fun _=>?_) fun _=>Sm.cond (fun _=>?_) fun _=>Sm.cond (fun _=>?_) fun _=>Sm.cond (fun _=>?_) fun _=>Sm.cond (fun _=>?_) fun _=>?_
 .refine Sm.bind hi (fG 2) (wm b hb 2 i h hi) fun q i h hq hi=>?_;dsimp only;rw [wrap64 (n:=40+q) ah ah];refine Sm.bind hi hB (gB i h hi) fun u i h hu hi=>?_;exact mD (α:=Unit) b hb ah (40+q) 0 [] [] [u] (by have:=hu.1;simp only [aK];omega) i h
 .refine Sm.bind hi e (gE i h hi) fun t i h ht hi=>?_;exact mD (α:=Unit) b hb ah 42 1 [] [] [t] (by have:=ht.1;simp only [aK];omega) i h
 .refine Sm.bind hi hB (gB i h hi) fun t i h ht hi=>?_;exact mD (α:=Unit) b hb ah 42 2 [] [] [t] (by have:=ht.1;simp only [aK];omega) i h
 .refine Sm.bind hi e1 (g1 i h hi) fun t i h ht hi=>?_;dsimp only;refine Sm.bind hi e1 (g1 i h hi) fun u i h hu hi=>?_;exact mD (α:=Unit) b hb ah 43 1 [] [] [t,u] (by have:=ht.1;have:=hu.1;simp only [aK];omega) i h
 .refine Sm.bind hi e1 (g1 i h hi) fun t i h ht hi=>?_;dsimp only;refine Sm.bind hi e1 (g1 i h hi) fun u i h hu hi=>?_;dsimp only;refine Sm.bind hi hB (gB i h hi) fun v i h hv hi=>?_;exact mD (α:=Unit) b hb ah 43 3 [] [] [t,u,v] (by have:=ht.1;have:=hu.1;have:=hv.1;simp only [aK];omega) i h
 .refine Sm.bind hi (fG 3) (wm b hb 3 i h hi) fun q i h hq hi=>?_;obtain ⟨q,rfl⟩:=qZ hq.1;dsimp only;rw [Dc];exact aAj b hb hN Ii _ a rfl ha.1 ha2 N q i h [] ah aU (by simp [aK]) hi
 .exact Sm.bind hi (uV _ aM aM) (JH b hb _ aM i h hi) fun x i h _ hi=>Sm.ret
 .refine Sm.bind hi e (gE i h hi) fun t i h ht hi=>?_;dsimp only;refine Sm.bind hi hB (gB i h hi) fun u i h hu hi=>?_;exact mD (α:=Unit) b hb ah 42 3 [] [] [t,u] (by have:=ht.1;have:=hu.1;simp only [aK];omega) i h
theorem aAl (Ii:1050100<=N) (kb:(Int×Int)->Option (List aD×Int×Int)):∀ (n c:Nat) (i:Nat) (h:Int) (acc:List aC),c < n->acc.length+c<=3->aK acc<=acc.length*2960->i<=b.length->
  OU N b kb n ((c:Int),(i:Int),h,acc.map<|bf 0)=(let r:=Pg.run b ((qE wu c).bind fun ts=>.ret (⟨45,0,[],[],acc++ts⟩:aC)) i h;bif fits 220 r.1 then some (bf 0 r.1,(r.2.1:Int),r.2.2) else kb ((r.2.1:Int),r.2.2)):=by
 intro n;induction n with
 | zero=>intro c i h acc hc;omega
 | succ n ih=>
  intro c i h acc hc hl hs hi;rw [OU];cases c with
  | zero=>
   have:decide (((0:Nat):Int) > 0)=false:=rfl;rw [this,aJ];have hz:aK acc<=900000:=by have:=wO 2960 (show acc.length<=3 by omega);omega
   have hm:=yE N ⟨45,0,[],[],[]⟩ acc ah hz;rw [hm,av];show (bif decide (((bf 0 (⟨45,0,[],[],acc⟩:aC)).length:Int)<=220) then _ else _)=_;have e:(let r:=Pg.run b ((qE wu 0).bind fun ts=>Pg.ret (⟨45,0,[],[],acc++ts⟩:aC)) i h;bif fits 220 r.1 then some (bf 0 r.1,(r.2.1:Int),r.2.2) else kb ((r.2.1:Int),r.2.2))=bif fits 220 (⟨45,0,[],[],acc++[]⟩:aC) then some (bf 0 (⟨45,0,[],[],acc++[]⟩:aC),(i:Int),h) else kb ((i:Int),h):=rfl;rw [e,nQ];have hf:decide (((bf 0 (⟨45,0,[],[],acc⟩:aC)).length:Int)<=220)=fits 220 (⟨45,0,[],[],acc⟩:aC):=by
    rw [rV];unfold fits;cases hc:Nat.ble (aQ (⟨45,0,[],[],acc⟩:aC)) 220 with
    | true=>have:=Gx hc;exact kP ah
    | false=>refine pQ fun hh=>?_;rw [alM ah] at hc;cases hc
   rw [hf]
  | succ c=>
   have:decide (((c+1:Nat):Int) > 0)=true:=kP ah;rw [this,aS];have hI:=aAk b hb hN Ii i h hi;unfold Sm at hI;rw [hI,av];dsimp only;rw [jf aU,av,wrap64 ah ah,show ((c+1:Nat):Int) - 1=(c:Int) by omega];have hp:=Pg.Zg b adU i h;have:=ih c (Pg.run b wu i h).2.1 (Pg.run b wu i h).2.2 (acc++[(Pg.run b wu i h).1]) ah aU (by rw [FM,fP,ED,wT];have:=hp.1;simp only [aK];omega) (Pg.Ic b wu i h hi);rw [Aj] at this;refine KP this ?_;have assoc:∀ {α β γ:Type} (p:Pg α) (f:α->Pg β) (g:β->Pg γ),(p.bind f).bind g=p.bind fun a=>(f a).bind g:=fun p f g=>by
    induction p with
    | ret a=>rfl
    | rd k ih=>simp only [Pg.bind,ih]
   have e:Pg.run b ((qE wu<|c+1).bind fun ts=>Pg.ret (⟨45,0,[],[],acc++ts⟩:aC)) i h=Pg.run b ((qE wu c).bind fun ts=>Pg.ret (⟨45,0,[],[],acc++[(Pg.run b wu i h).1]++ts⟩:aC)) (Pg.run b wu i h).2.1 (Pg.run b wu i h).2.2:=by
    rw [qE,assoc,Pg.run_bind,assoc];congr 1;congr 1;funext ts;show Pg.ret (⟨45,0,[],[],acc++(_::ts)⟩:aC)=_;rw [jP acc [_] ts];rfl
   rw [e]
theorem aAm (Ii:1050100<=N):∀ (n i:Nat) (h:Int),i<=b.length->Ji N b n ((i:Int),h)=(Pg.loop b mE (fits 220) n i h).map fun r=>(bf 0 r.1,(r.2.1:Int),r.2.2):=by
 intro n;induction n with
 | zero=>intro i h hi;rfl
 | succ n ih=>
  intro i h hi;rw [Ji,Pg.loop];have hb4:=wm b hb 4 i h hi;unfold Sm at hb4;rw [hb4,av];dsimp only;have hr:=Pg.Zg b (fG 4) i h;obtain ⟨c,hc⟩:=qZ hr.1;have hl:=Pg.Ic b (lG 4) i h hi;have:=aAl b hb hN Ii (Ji N b n) N c (Pg.run b (lG 4) i h).2.1 (Pg.run b (lG 4) i h).2.2 [] ah aU (by simp [aK]) hl;rw [hc];refine KP this ?_;have e:Pg.run b mE i h=Pg.run b ((qE wu c).bind fun ts=>Pg.ret (⟨45,0,[],[],[]++ts⟩:aC)) (Pg.run b (lG 4) i h).2.1 (Pg.run b (lG 4) i h).2.2:=by
   unfold mE;rw [Pg.run_bind,hc];rfl
  rw [e];dsimp only;generalize Pg.run b ((qE wu c).bind fun ts=>Pg.ret (⟨45,0,[],[],[]++ts⟩:aC)) (Pg.run b (lG 4) i h).2.1 (Pg.run b (lG 4) i h).2.2=q at e;have hq:q.2.1<=b.length:=by rw [<- e];exact Pg.Ic b mE i h hi
  cases fits 220 q.1 with
  | true=>rfl
  | false=>rw [aJ,aJ];exact ih _ _ hq
end
def aAn:Pg.jM wo (fits 60) 40 135 2021368500568277588=true:=mX
def aAo:kK 135 2021368500568277588=1520775315923724161:=mX
def aAp:Pg.jM wo (fits 60) 40 135 1520775315923724161=true:=mX
def aAq:kK 135 1520775315923724161=(-1929235519155055454):=mX
def aAr:Pg.jM wo (fits 60) 40 135 (-1929235519155055454)=true:=mX
def aAs:Pg.jM wo (fits 60) 40 405 2021368500568277588=true:=by
 have a1:Pg.jM wo (fits 60) 40 (135+135) 1520775315923724161=true:=Pg.Cu _ _ _ _ _ _ aAp (by rw [aAq];exact aAr);have a0:Pg.jM wo (fits 60) 40 (135+270) 2021368500568277588=true:=Pg.Cu _ _ _ _ _ _ aAn (by rw [aAo];exact a1);exact a0
def aAt:Pg.jM mE (fits 220) 40 260 (-2744174768175047444)=true:=mX
def aAu:kK 260 (-2744174768175047444)=9139760114735395424:=mX
def aAv:Pg.jM mE (fits 220) 40 260 9139760114735395424=true:=mX
def aAw:kK 260 9139760114735395424=8949882279719470868:=mX
def aAx:Pg.jM mE (fits 220) 40 260 8949882279719470868=true:=mX
def aAy:kK 260 8949882279719470868=8399572877787008776:=mX
def aAz:Pg.jM mE (fits 220) 40 260 8399572877787008776=true:=mX
def aAA:kK 260 8399572877787008776=(-644356377554321860):=mX
def aAB:Pg.jM mE (fits 220) 40 260 (-644356377554321860)=true:=mX
def aAC:kK 260 (-644356377554321860)=(-7008574521026492240):=mX
def aAD:Pg.jM mE (fits 220) 40 260 (-7008574521026492240)=true:=mX
def aAE:kK 260 (-7008574521026492240)=(-326443216012795292):=mX
def aAF:Pg.jM mE (fits 220) 40 260 (-326443216012795292)=true:=mX
def aAG:kK 260 (-326443216012795292)=1119826188661489496:=mX
def aAH:Pg.jM mE (fits 220) 40 260 1119826188661489496=true:=mX
def aAI:kK 260 1119826188661489496=5199595073289098124:=mX
def aAJ:Pg.jM mE (fits 220) 40 260 5199595073289098124=true:=mX
def aAK:kK 260 5199595073289098124=8701555922248749824:=mX
def aAL:Pg.jM mE (fits 220) 40 260 8701555922248749824=true:=mX
def aAM:kK 260 8701555922248749824=2969263789539357108:=mX
def aAN:Pg.jM mE (fits 220) 40 258 2969263789539357108=true:=mX
def aAO:Pg.jM mE (fits 220) 40 2858 (-2744174768175047444)=true:=by
 have a9:Pg.jM mE (fits 220) 40 (260+258) 8701555922248749824=true:=Pg.Cu _ _ _ _ _ _ aAL (by rw [aAM];exact aAN);have a8:Pg.jM mE (fits 220) 40 (260+518) 5199595073289098124=true:=Pg.Cu _ _ _ _ _ _ aAJ (by rw [aAK];exact a9);have a7:Pg.jM mE (fits 220) 40 (260+778) 1119826188661489496=true:=Pg.Cu _ _ _ _ _ _ aAH (by rw [aAI];exact a8);have a6:Pg.jM mE (fits 220) 40 (260+1038) (-326443216012795292)=true:=Pg.Cu _ _ _ _ _ _ aAF (by rw [aAG];exact a7);have a5:Pg.jM mE (fits 220) 40 (260+1298) (-7008574521026492240)=true:=Pg.Cu _ _ _ _ _ _ aAD (by rw [aAE];exact a6);have a4:Pg.jM mE (fits 220) 40 (260+1558) (-644356377554321860)=true:=Pg.Cu _ _ _ _ _ _ aAB (by rw [aAC];exact a5);have a3:Pg.jM mE (fits 220) 40 (260+1818) 8399572877787008776=true:=Pg.Cu _ _ _ _ _ _ aAz (by rw [aAA];exact a4);have a2:Pg.jM mE (fits 220) 40 (260+2078) 8949882279719470868=true:=Pg.Cu _ _ _ _ _ _ aAx (by rw [aAy];exact a3);have a1:Pg.jM mE (fits 220) 40 (260+2338) 9139760114735395424=true:=Pg.Cu _ _ _ _ _ _ aAv (by rw [aAw];exact a2);have a0:Pg.jM mE (fits 220) 40 (260+2598) (-2744174768175047444)=true:=Pg.Cu _ _ _ _ _ _ aAt (by rw [aAu];exact a1);exact a0
def aAP (b:List UInt8) (n:Nat) (hn:18446744073709551657+b.length<=n) (i:Nat) (h:Int) (hi:i<=b.length):(Pg.loop b wo (fits 60) n i h).isSome=true:=
 Pg.apO (h0:=2021368500568277588) (F:=40) azT (show Pg.One wo from Pg.One.bind (show Pg.One (lG 4) from trivial)) aAs aM aM b 18446744073709551657 aM (b.length - i) i n h rfl hi ah
def aAQ (b:List UInt8) (n:Nat) (hn:18446744073709551657+b.length<=n) (i:Nat) (h:Int) (hi:i<=b.length):(Pg.loop b mE (fits 220) n i h).isSome=true:=
 Pg.apO (h0:=(-2744174768175047444)) (F:=40) aAc (show Pg.One mE from Pg.One.bind (show Pg.One (lG 4) from trivial)) aAO aM aM b 18446744073709551657 aM (b.length - i) i n h rfl hi ah
def uW {α β:Type} {x:Option α} {f:α->Option β} (hx:∃ v,x=some v) (hf:∀ v,∃ w,f v=some w):∃ w,Option.bind x f=some w:=by
 obtain ⟨v,rfl⟩:=hx;exact hf v
def ajb (N:Nat) (x:List UInt8) (hx:x.length<=1048576) (hN:x.length+200 < N):∃ b:Bool,Ca N x=some b:=by
 obtain ⟨q,h1,_⟩:=apq N x hx ah;obtain ⟨r,g1,_⟩:=apt N x ah;obtain ⟨c,f1,_⟩:=Va N x ah;unfold Ca;rw [h1,g1,f1];refine uW (dw (dw ⟨_,rfl⟩ ⟨_,rfl⟩) ⟨_,rfl⟩) fun v=>⟨_,rfl⟩
def aAR (N:Nat) (t:aG) (ht:t.Text.length<=1048576) (hN:t.Text.length+200 < N):∃ b:Bool,rG N t=some b:=by
 obtain ⟨sp,s1,s3⟩:=apv t.Kind;obtain ⟨nb,n1⟩:=ajb N t.Text ht hN;obtain ⟨bb,b1,_⟩:=Va N t.Text ah;have hk1:∀ y:Bool,∃ b:Bool,zq N (t,y)=some b:=fun y=>by
  simp only [zq];rw [n1,b1,s1];exact dw ⟨_,rfl⟩ (dw ⟨_,rfl⟩<|uW (dw ⟨_,rfl⟩ ⟨_,rfl⟩) fun _=>⟨_,rfl⟩)
 have hp:=apu N t.Text ah (by simp only [maxLen];omega);have hq:(∃ r,LK N t.Text 0=some r)/\∃ r,LM N t.Text 0=some r:=by
  by_cases hne:t.Text=[]
  .rw [hne];exact ⟨⟨-1,rfl⟩,⟨-1,rfl⟩⟩
  .have hpos:0 < t.Text.length:=List.length_pos_iff.2 hne;obtain ⟨r,f1,_,_⟩:=apn N t.Text ht ah 0 hpos;obtain ⟨r2,g1,_,_⟩:=apo N t.Text ht ah 0 hpos;exact ⟨⟨r,f1⟩,⟨r2,g1⟩⟩
 obtain ⟨⟨rs,hs⟩,⟨re,he⟩⟩:=hq;have ais:∃ y,(bif (decide<|(t.Text.length:Int) > 0) then (LJ N t.Text 0).bind fun Fh=>some (Fh==(t.Text.length:Int)) else (some false))=some y:=by
  cases hl:decide ((t.Text.length:Int) > 0) with
  | false=>exact ⟨_,rfl⟩
  | true=>
   have hpos:0 < t.Text.length:=by have:=qp hl;omega
   obtain ⟨r,f1,_,_⟩:=apl N t.Text ht ah 0 hpos;have Qs:LJ N t.Text 0=some r:=f1;rw [Qs];exact ⟨_,rfl⟩
 have hcom:∃ y,(bif (decide<|(t.Text.length:Int) > 0) then (ix t.Text 0).bind fun b21=>bif (((b21).toNat:Int)==35) then (TQ N t.Text).bind fun dH=>some dH else (some false) else (some false))=some y:=by
  cases hl:decide ((t.Text.length:Int) > 0) with
  | false=>exact ⟨_,rfl⟩
  | true=>
   have hpos:0 < t.Text.length:=by have:=qp hl;omega
   have e:ix t.Text 0=some t.Text[0]:=bX hpos;rw [e,hp];simp only [av,aS];exact dw ⟨_,rfl⟩ ⟨_,rfl⟩
 unfold rG;rw [hs,he];refine dw (uW hcom fun _=>⟨_,rfl⟩) (dw (uW ais fun _=>⟨_,rfl⟩)<|dw ⟨_,rfl⟩<|dw ⟨_,rfl⟩<|dw (hk1 _)<|hk1 _)
def aAS (x:aD):∃ r,Fg x=some r:=by
 have h6:∀ b,∃ r,Pf (x,b)=some r:=fun b=>dw ⟨_,rfl⟩ (dw ⟨_,rfl⟩<|dw ⟨_,rfl⟩<|dw ⟨_,rfl⟩ ⟨_,rfl⟩);have h5:∀ b,∃ r,Ph (x,b)=some r:=fun b=>dw ⟨_,rfl⟩ (dw ⟨_,rfl⟩<|dw ⟨_,rfl⟩<|dw (h6 _)<|h6 _);have h4:∀ b,∃ r,Jm (x,b)=some r:=fun b=>dw ⟨_,rfl⟩ (dw ⟨_,rfl⟩<|dw (dw ⟨_,rfl⟩ ⟨_,rfl⟩)<|dw (h5 _)<|h5 _);have h3:∀ b,∃ r,BX (x,b)=some r:=fun b=>dw ⟨_,rfl⟩ (dw (h4 _)<|dw (h4 _)<|dw (h4 _)<|h4 _);have h2:∀ b,∃ r,LD (x,b)=some r:=fun b=>dw ⟨_,rfl⟩ (dw (h3 _)<|dw (h3 _)<|dw (h3 _)<|dw (h3 _)<|dw (h3 _)<|dw (h3 _)<|dw (h3 _)<|h3 _);have h1:∀ b,∃ r,Pj (x,b)=some r:=fun b=>dw ⟨_,rfl⟩ (dw (h2 _)<|dw (h2 _)<|h2 _);exact dw (h1 _) (h1 _)
def aAT (o:Int):∃ r,DK o=some r:=by
 have hk:∀ b,sO b=some b:=fun b=>by cases b<;>rfl
 unfold DK;simp only [hk];repeat' (refine dw ?_ ?_)
 all_goals exact ⟨_,rfl⟩
def aAU (x:aD):∃ r,DL x=some r:=by
 obtain ⟨b,hb⟩:=aAT x.Op;have h1:∀ y,∃ r,Pk (x,y)=some r:=fun y=>by
  unfold Pk BZ;simp only [hb,Ec,av];exact dw (uW (dw ⟨_,rfl⟩ ⟨_,rfl⟩) fun _=>⟨_,rfl⟩) (dw (uW (dw ⟨_,rfl⟩<|dw ⟨_,rfl⟩ ⟨_,rfl⟩) fun _=>⟨_,rfl⟩)<|dw ⟨_,rfl⟩<|dw (uW (uW (dw ⟨_,rfl⟩ ⟨_,rfl⟩) fun _=>⟨_,rfl⟩) fun _=>⟨_,rfl⟩)<|dw ⟨_,rfl⟩<|dw ⟨_,rfl⟩<|dw (uW (dw ⟨_,rfl⟩ ⟨_,rfl⟩) fun _=>⟨_,rfl⟩) ⟨_,rfl⟩)
 exact dw (h1 _) (h1 _)
def aAV (N:Nat) (x:aD) (hN:1048777 < N) (hs:mW x):∃ r,TV N x=some r:=by
 obtain ⟨q1,q2,q3⟩:=hs;obtain ⟨a,ha⟩:=ajb N x.Text ah ah;obtain ⟨o,ho⟩:=ajb N x.Other ah ah;obtain ⟨b,hb,_⟩:=Va N x.Text ah;have tk:∀ k,∃ r,rG N ⟨k,x.Text,0⟩=some r:=fun k=>aAR N ⟨k,x.Text,0⟩ (by show x.Text.length<=_;omega) (by show x.Text.length+_ < _;omega);obtain ⟨c3,h3⟩:=tk 3;obtain ⟨c4,h4⟩:=tk 4;obtain ⟨c5,h5⟩:=tk 5;obtain ⟨c2,h2⟩:=tk 2;have nx:∀ (y:Bool) (c:Bool),∃ r,(((some y).bind fun r=>bif r then some c else (some false)).bind fun y=>some y)=some r:=fun y c=>uW (uW ⟨_,rfl⟩ fun _=>dw ⟨_,rfl⟩ ⟨_,rfl⟩) fun _=>⟨_,rfl⟩
 have h1:∀ y,∃ r,DR N (x,y)=some r:=fun y=>by
  unfold DR;simp only [ha,ho,hb,h2,h3,h4,h5];exact dw (nx _ _) (dw (nx _ _)<|dw (nx _ _)<|dw (nx _ _)<|dw (nx _ _)<|dw (nx _ _)<|dw (uW (uW ⟨_,rfl⟩ fun _=>dw ⟨_,rfl⟩ ⟨_,rfl⟩) fun _=>⟨_,rfl⟩)<|dw (uW (dw (dw ⟨_,rfl⟩<|dw ⟨_,rfl⟩<|dw ⟨_,rfl⟩ ⟨_,rfl⟩) ⟨_,rfl⟩) fun _=>⟨_,rfl⟩)<|uW (dw ⟨_,rfl⟩ ⟨_,rfl⟩) fun _=>⟨_,rfl⟩)
 exact dw (h1 _) (dw (h1 _)<|dw (h1 _)<|dw (h1 _)<|dw (h1 _)<|h1 _)
def aAW (N:Nat) (x:aD) (hN:1048777 < N) (hs:mW x):∃ b,yu N x=some b:=by
 obtain ⟨t,ht⟩:=aAV N x hN hs;obtain ⟨o,ho⟩:=aAU x;obtain ⟨m,hm⟩:=aAS x;unfold yu;simp only [ht,ho,hm,Ec,av];exact uW (dw ⟨_,rfl⟩<|dw ⟨_,rfl⟩ ⟨_,rfl⟩) fun _=>uW (dw (dw (dw ⟨_,rfl⟩ ⟨_,rfl⟩) ⟨_,rfl⟩) ⟨_,rfl⟩) fun _=>⟨_,rfl⟩
def aAX (x:aD) (k c:Int):∃ b,oH x k c=some b:=by
 have hE:∃ r,qb c=some r:=⟨_,Cw c⟩
 have hL:∃ r,GY c=some r:=⟨_,QC c⟩
 have hS:∃ r,Px c=some r:=by unfold Px;rw [Ec];exact ⟨_,rfl⟩
 obtain ⟨e,hE⟩:=hE;obtain ⟨l,hL⟩:=hL;obtain ⟨s,hS⟩:=hS;have h2:∀ b,∃ r,yw (k,c,x,b)=some r:=fun b=>by
  unfold yw;simp only [hE,hS,Ec,av];repeat' (first|exact ⟨_,rfl⟩|refine dw ?_ ?_|refine uW ?_ fun _=>?_)
 have h1:∀ b,∃ r,rH (k,c,x,b)=some r:=fun b=>by
  unfold rH;simp only [hE,hL,av];repeat' (first|exact ⟨_,rfl⟩|exact h2 _|refine dw ?_ ?_|refine uW ?_ fun _=>?_)
 exact dw (h1 _) (h1 _)
def aAY (N:Nat) (a:List aD) (kb:(List aD×Int)->Option Bool) (i:Nat) (hi:i < a.length) (hi2:i<=100000) (hkl:a[i].Kids.length<=100000) (hk:∀ k,k∈a[i].Kids->0<=k/\k < a.length) (hkb:∃ b,kb (a,((i+1:Nat):Int))=some b):∀ (m j:Nat),a[i].Kids.length - j < m->j<=a[i].Kids.length->∃ b,Cc N kb m (a,(i:Int),(j:Int))=some b:=by
 intro m;induction m with
 | zero=>intro j h;omega
 | succ m ih=>
  intro j hm hj;rw [Cc,bX hi,av];by_cases h:j < a[i].Kids.length
  .simp only [iT h,aS,bX hi,bX h,av];obtain ⟨k1,k2⟩:=hk _ (ou h);obtain ⟨c,hc⟩:=qZ k1;have hcl:c < a.length:=ah;rw [hc];have e:ix a (c:Int)=some a[c]:=bX hcl;simp only [e,av];obtain ⟨b,hb⟩:=aAX a[i] (j:Int) a[c].Kind;rw [hb,av,wrap64 ah ah,show ((j:Int)+1)=((j+1:Nat):Int) by omega];exact dw ⟨_,rfl⟩ (ih (j+1) ah ah)
  .simp only [kG h,aJ];rw [wrap64 ah ah];exact hkb
def aAZ (N:Nat) (a:List aD) (hN:1048777 < N) (ha:a.length<=400) (hs:∀ x,x∈a->mW x) (hk:∀ x,x∈a->x.Kids.length<=400/\∀ k,k∈x.Kids->0<=k/\k < a.length):∀ (n i:Nat),a.length - i < n->i<=a.length->∃ b,uR N n (a,(i:Int))=some b:=by
 intro n;induction n with
 | zero=>intro i h;omega
 | succ n ih=>
  intro i hn hi;rw [uR];by_cases h:i < a.length
  .obtain ⟨b,hb⟩:=aAW N a[i] hN (hs _<|ou h);obtain ⟨k1,k2⟩:=hk _ (ou h);simp only [iT h,aS,bX h,av,hb];refine dw ⟨_,rfl⟩ ?_;exact aAY N a (uR N n) i h ah ah k2 (ih (i+1) ah ah) N 0 ah ah
  .simp only [kG h,aJ];exact ⟨_,rfl⟩
def aBa (N:Nat) (a:List aD) (hN:1048777 < N) (hs:∀ x,x∈a->mW x):∃ b:Bool,tN N a=some b/\(b=true->qd a=true):=by
 unfold tN;rw [aix N a ah hs];simp only [av];cases hsh:qd a with
 | false=>exact ⟨false,rfl,fun h=>by cases h⟩
 | true=>
  obtain ⟨h1,h2,r,_,_,_,hT,t,ht⟩:=Bw hsh;rw [adG N a ah hs hsh ht];simp only [kQ,aJ,av];obtain ⟨b,hb⟩:=aAZ N a hN h2 hs (Vr hsh) N 0 ah ah;have hb':uR N N (a,0)=some b:=hb;rw [hb'];have:=dw (c:=decide ((gH t:Int) > 40)) (x:=some false) (y:=some b) ⟨_,rfl⟩ ⟨_,rfl⟩;obtain ⟨v,hv⟩:=this;exact ⟨v,hv,fun _=>trivial⟩
def alu (N:Nat) (a:List aD) (hN:1048777 < N) (hs:∀ x,x∈a->mW x):∃ b:Bool,Fp N a=some b/\(b=true->tN N a=some true/\qd a=true/\∀ t,TA a t 0 (a.length - 1)->eF t.kind=true):=by
 obtain ⟨b,b1,b3⟩:=aBa N a hN hs;unfold Fp;rw [b1];simp only [av];cases b with
 | false=>exact ⟨false,rfl,fun h=>by cases h⟩
 | true=>
  have h1:=b3 rfl;obtain ⟨l1,l2,_⟩:=Bw h1;have hlt:a.length - 1 < a.length:=ah;have hx:=bX hlt;rw [wrap64 ah ah,show (a.length:Int) - 1=((a.length - 1:Nat):Int) by omega,hx];simp only [aS,av,Cw];refine ⟨_,rfl,fun h=>⟨trivial,h1,fun t ht=>?_⟩⟩;obtain ⟨n,hn,e1,_⟩:=ht.node;rw [fB hlt] at hn;cases hn;rw [e1];exact h
section
set_option linter.unusedSectionVars false
variable (b:List UInt8) (hb:b.length<=1048576) (N:Nat) (hN:2100000<=N)
include hb hN
omit hN in
theorem aBb:∀ (n j:Nat) (h:Int),b.length - j < n->j<=b.length->∃ r,Oy N n (b,h,(j:Int))=some (b,0,r):=by
 intro n;induction n with
 | zero=>intro j h hn;omega
 | succ n ih=>
  intro j h hn hj;rw [Oy];by_cases hlt:j < b.length
  .have e:ix b (j:Int)=some b[j]:=bX hlt;simp only [iT hlt,aS,av];cases decide ((j:Int) < 4000) with
   | true=>
    rw [aS,e,av,wrap64 (n:=(j:Int)+1) ah ah,show (j:Int)+1=((j+1:Nat):Int) by omega];exact ih (j+1) _ ah ah
   | false=>exact ⟨_,rfl⟩
  .simp only [kG hlt,aJ,av];exact ⟨_,rfl⟩
theorem alp:∃ h,aco N b=some (b,0,h):=aBb b hb N N 0 _ ah ah
end
def Zt (L:List aD):Prop:=∃ t,L=bf 0 t/\Gd 1500 12 t
def aBd (L:List aD):Prop:=∀ x,x∈L->∀ k,k∈x.Kids-> -9223372036854775808<=k/\k<=9223372036854775807
def FN (L:List aD):Prop:=SmS L/\L.length<=3000/\aBd L
def aBe {m d:Nat} {t:aC} (h:Gd m d t) (hm:m<=10000):SmS (bf 0 t):=fun x hx=>by
 have h1:=Vs t 0 x hx;have h2:=h.2.2 x hx;have:=h.1;exact ⟨ah,h2.1,h2.2⟩
def Zt.spo {L:List aD} (h:Zt L):FN L/\1<=L.length/\L.length<=1500:=by
 obtain ⟨t,rfl,ht⟩:=h;have:=kN t;have:=ht.1;exact ⟨⟨aBe ht ah,by rw [rV];omega,fun x hx k hk=>by have:=Zu t 0 x hx k hk;omega⟩,by rw [rV];omega,by rw [rV];omega⟩
section
set_option linter.unusedSectionVars false
variable (b:List UInt8) (hb:b.length<=1048576) (N:Nat) (hN:18446744073709551657+2097152<=N)
include hb hN
theorem aqj (i h:Int) (h0:0<=i) (h1:i<=(b.length:Int)):Dr b (fun L=>∃ t,L=bf 0 t/\Gd 60 6 t) (Tv N b i h):=by
 obtain ⟨i,rfl⟩:=qZ h0;have e:Tv N b (i:Int) h=_:=azU b hb (N:=N) ah N i h ah;have hs:=aAP b N ah i h ah;cases hl:Pg.loop b wo (fits 60) N i h with
 | none=>rw [hl] at hs;cases hs
 | some r=>
  obtain ⟨g1,g2,g3⟩:=Pg.aiJ b azS (fits 60) N i h r ah hl;rw [e,hl];exact ⟨_,_,_,rfl,⟨r.1,rfl,Gx g2,g1.2⟩,ah,ah⟩
theorem aBf (i h:Int) (h0:0<=i) (h1:i<=(b.length:Int)):Dr b (fun L=>∃ t,L=bf 0 t/\Gd 220 12 t) (Xa N b i h):=by
 obtain ⟨i,rfl⟩:=qZ h0;have e:Xa N b (i:Int) h=_:=aAm b hb (N:=N) ah ah N i h ah;have hs:=aAQ b N ah i h ah;cases hl:Pg.loop b mE (fits 220) N i h with
 | none=>rw [hl] at hs;cases hs
 | some r=>
  obtain ⟨g1,g2,g3⟩:=Pg.aiJ b azW (fits 220) N i h r ah hl;rw [e,hl];exact ⟨_,_,_,rfl,⟨r.1,rfl,Gx g2,g1.2⟩,ah,ah⟩
theorem aBg (d:Nat) (hd:d<=2) (i h:Int) (h0:0<=i) (h1:i<=(b.length:Int)):Dr b (fun L=>∃ t,L=bf 0 t/\Gd 1500 9 t) (DF N (d:Int) b i h):=by
 obtain ⟨i,rfl⟩:=qZ h0;have hs:ss d<=1500:=by
  have:d=0\/d=1\/d=2:=ah;rcases this with rfl|rfl|rfl<;>decide
 exact azz ah (aAi b hb (N:=N) ah (d:=d) ah ah (d:Int) rfl ah i h ah) (El d) fun t ht=>⟨t,rfl,ht.mono hs ah⟩
theorem aqk (i h:Int) (h0:0<=i) (h1:i<=(b.length:Int)):Dr b Zt (TJ N b i h):=by
 have k1:∀ (r:Int) (i h:Int) (y:Bool),0<=i->i<=(b.length:Int)->Dr b Zt (TI N b ((r,i,h),y)):=fun r i h y h0 h1=>by
  unfold TI;dsimp only;refine Dr.cond (fun _=>Qx<|(aqj b hb N hN i h h0 h1).imp ?_) fun _=>Dr.cond (fun _=>Qx<|(aBg b hb N hN 2 ah i h h0 h1).imp ?_) fun _=>Qx ((aBf b hb N hN i h h0 h1).imp ?_)
  .rintro L ⟨t,rfl,ht⟩;exact ⟨t,rfl,ht.mono ah ah⟩
  .rintro L ⟨t,rfl,ht⟩;exact ⟨t,rfl,ht.mono ah ah⟩
  .rintro L ⟨t,rfl,ht⟩;exact ⟨t,rfl,ht.mono ah ah⟩
 unfold TJ;refine Dr.bind (Af b hb _ i h h0 h1) fun r i h hr h0 h1=>?_;dsimp only;exact Dr.cond (fun _=>k1 r i h _ h0 h1) fun _=>k1 r i h _ h0 h1
theorem Vt {α:Type} {Q:α->Prop} {L:List aD} (hL:FN L) {k:Int} (h0:0<=k) (h1:k < (L.length:Int)) {x:aD} (hx:(x.Kids.length<=20000/\x.Text.length<=20/\x.Other.length<=20)/\∀ k,k∈x.Kids-> -9223372036854775808<=k/\k<=9223372036854775807) {f:List aD->Option (α×Int×Int)} (hf:∀ L',FN L'->L'.length=L.length->Dr b Q (f L')):Dr b Q (Option.bind (upd L k x) f):=by
 obtain ⟨k,rfl⟩:=qZ h0;have hk:k < L.length:=ah;rw [WI hk,av];refine hf _ ⟨fun y hy=>?_,by rw [aft];exact hL.2.1,fun y hy=>?_⟩ (aft ..)
 .rcases afb hy with h|h
  .exact hL.1 y h
  .rw [h];exact hx.1
 .rcases afb hy with h|h
  .exact hL.2.2 y h
  .rw [h];exact hx.2
theorem Zv {α:Type} {Q:α->Prop} {L:List aD} (hL:FN L) {k:Int} (h0:0<=k) (h1:k < (L.length:Int)) {f:aD->Option (α×Int×Int)} (hf:∀ x,x∈L->Dr b Q (f x)):Dr b Q (Option.bind (ix L k) f):=by
 obtain ⟨k,rfl⟩:=qZ h0;have hk:k < L.length:=ah;rw [bX hk,av];exact hf _ (ou hk)
theorem aBh (i h:Int) (h0:0<=i) (h1:i<=(b.length:Int)):Dr b FN (Xb N b i h):=by
 unfold Xb;refine Dr.bind (aqk b hb N hN i h h0 h1) fun L i h hL h0 h1=>?_;obtain ⟨hS,hl1,hl2⟩:=hL.spo;dsimp only;refine Dr.bind (Af b hb _ i h h0 h1) fun k i h hk h0 h1=>?_;have k0:=hk.1;have k1:k < (L.length:Int):=ah;dsimp only;refine Dr.bind (Af b hb _ i h h0 h1) fun r i h hr h0 h1=>?_;dsimp only;have fin:∀ (L':List aD) (i h:Int),FN L'->0<=i->i<=(b.length:Int)->Dr b FN (OX N b (L',i,h)):=fun L' i h hL' h0 h1=>Dr.some hL' h0 h1;refine Dr.cond (fun _=>?_) fun _=>Dr.cond (fun _=>?_) fun _=>Dr.cond (fun _=>?_) fun _=>Dr.cond (fun _=>?_) fun _=>fin L i h hS h0 h1
 .obtain ⟨k,rfl⟩:=qZ k0;have e:cut L 0 (k:Int)=some (L.take k):=by
   have:=aaF (l:=L) (a:=0) (b:=k) ah ah;rw [KL,Nat.sub_zero] at this;exact this
  rw [e,av];exact Dr.some ⟨fun x hx=>hS.1 x<|afh hx,by have:=hS.2.1;simp;omega,fun x hx=>hS.2.2 x<|afh hx⟩ h0 h1
 .refine Zv b hb N hN hS k0 k1 fun x hx=>?_;refine Dr.bind (aiF b hb (P:=fun o=>-9223372036854775808<=o/\o<=9223372036854775807) _ i h h0 h1 (by show 0 < 4;decide) fun o ho=>by
   simp only [iL,NQ,NW] at ho;rcases ho with rfl|rfl|rfl|rfl<;>omega) fun o i h ho h0 h1=>?_
  have hxs:=hS.1 x hx;have hxi:=hS.2.2 x hx;dsimp only;obtain ⟨t,rfl,ht⟩:=hL;have hkl:=Vs t 0 x hx;have:=ht.1;rw [jf aU,av];refine Vt b hb N hN hS k0 k1 ?_ fun L' hL' _=>fin L' i h hL' h0 h1;exact ⟨⟨aU,hxs.2.1,hxs.2.2⟩,fun k hk=>by
   rcases lX.1 hk with h|h
   .exact hxi k h
   .rw [uD.1 h];exact ho⟩
 .obtain ⟨k,rfl⟩:=qZ k0;have hkn:k < L.length:=ah;have ek:ix L (k:Int)=some L[k]:=bX hkn;simp only [ek,av];refine Dr.cond (fun hc=>?_) fun _=>fin L i h hS h0 h1;have h00:0 < L[k].Kids.length:=by have:=qp hc;omega
  refine Dr.bind (Af b hb _ i h h0 h1) fun o i h ho h0 h1=>?_;rw [wrap64 ah ah] at ho;have hxs:=hS.1 _ (ou hkn);have hxi:=hS.2.2 _ (ou hkn);have e1:ix L[k].Kids 0=some L[k].Kids[0]:=bX (i:=0) h00;have e2:∀ v,upd L[k].Kids 0 v=some (L[k].Kids.set 0 v):=fun v=>WI (i:=0) h00;dsimp only;rw [e1,av,e2,av];refine Vt b hb N hN hS ah k1 ?_ fun L' hL' _=>fin L' i h hL' h0 h1;exact ⟨⟨by show (List.set _ _ _).length<=_;rw [aft];exact hxs.1,hxs.2.1,hxs.2.2⟩,fun k' hk'=>by
   rcases afb hk' with h|h
   .exact hxi k' h
   .rw [h];obtain ⟨ho1,ho2⟩:=ho;rw [wrap64 ah ah];omega⟩
 .rw [jf ah,av];exact Dr.some ⟨fun x hx=>by
   rcases lX.1 hx with h|h<;>exact hS.1 x h,by rw [fP];omega,fun x hx=>by
   rcases lX.1 hx with h|h<;>exact hS.2.2 x h⟩ h0 h1
theorem aBi (i h:Int) (h0:0<=i) (h1:i<=(b.length:Int)):Dr b FN (Xe N b i h):=by
 unfold Xe;refine Dr.bind (aqk b hb N hN i h h0 h1) fun L i h hL h0 h1=>?_;obtain ⟨hS,hl1,hl2⟩:=hL.spo;dsimp only;refine Dr.bind (Af b hb _ i h h0 h1) fun k i h hk h0 h1=>?_;have k0:=hk.1;have k1:k < (L.length:Int):=ah;dsimp only;refine Dr.bind (Af b hb _ i h h0 h1) fun r i h hr h0 h1=>?_;dsimp only;have fin:∀ (L':List aD) (i h:Int),FN L'->0<=i->i<=(b.length:Int)->Dr b FN (Ls N b (L',i,h)):=fun L' i h hL' h0 h1=>Dr.some hL' h0 h1;refine Dr.cond (fun _=>?_) fun _=>Dr.cond (fun _=>?_) fun _=>Dr.cond (fun _=>?_) fun _=>Dr.cond (fun _=>?_) fun _=>Dr.cond (fun _=>Qx<|aBh b hb N hN i h h0 h1) fun _=>fin L i h hS h0 h1
 .refine Dr.bind (Af b hb _ i h h0 h1) fun o i h _ h0 h1=>Zv b hb N hN hS k0 k1 fun x hx=>?_;refine Vt b hb N hN hS k0 k1 ?_ fun L' hL' _=>fin L' i h hL' h0 h1;exact ⟨hS.1 x hx,hS.2.2 x hx⟩
 .refine Dr.bind (aiF b hb (P:=fun _=>True) _ i h h0 h1 aM fun _ _=>trivial) fun o i h _ h0 h1=>Zv b hb N hN hS k0 k1 fun x hx=>?_;refine Vt b hb N hN hS k0 k1 ?_ fun L' hL' _=>fin L' i h hL' h0 h1;exact ⟨hS.1 x hx,hS.2.2 x hx⟩
 .refine Dr.bind (apF b hb 20 _ i h h0 h1 aM aM) fun o i h ho h0 h1=>Zv b hb N hN hS k0 k1 fun x hx=>?_;refine Vt b hb N hN hS k0 k1 ?_ fun L' hL' _=>fin L' i h hL' h0 h1;exact ⟨⟨(hS.1 x hx).1,ho,(hS.1 x hx).2.2⟩,hS.2.2 x hx⟩
 .refine Dr.bind (apF b hb 20 _ i h h0 h1 aM aM) fun o i h ho h0 h1=>Zv b hb N hN hS k0 k1 fun x hx=>?_;refine Vt b hb N hN hS k0 k1 ?_ fun L' hL' _=>fin L' i h hL' h0 h1;exact ⟨⟨(hS.1 x hx).1,(hS.1 x hx).2.1,ho⟩,hS.2.2 x hx⟩
end
section
set_option linter.unusedSectionVars false
variable (b:List UInt8) (hb:b.length<=1048576) (N:Nat) (hN:18446744073709551657+2097152<=N)
include hb hN
theorem alq (i h:Int) (h0:0<=i) (h1:i<=(b.length:Int)):Dr b FN (Xg N b i h):=by
 unfold Xg;refine Dr.bind (Zd b hb 10 i h h0 h1) fun r i h _ h0 h1=>?_;dsimp only;refine Dr.cond (fun _=>Qx<|aBi b hb N hN i h h0 h1) fun _=>Qx ((aqj b hb N hN i h h0 h1).imp ?_);rintro L ⟨t,rfl,ht⟩;exact (Zt.spo ⟨t,rfl,ht.mono ah ah⟩).1
omit hN in
theorem aBj (i h:Int) (h0:0<=i) (h1:i<=(b.length:Int)):Dr b (fun _=>True) (Xh b i h):=by
 unfold Xh;have k1:∀ (r6 r7 r8:Bool×Int×Int) (v:Int) (d:Bool) (i h:Int),0<=i->i<=(b.length:Int)->Dr b (fun _:aF=>True) (Lu b (r6,r7,r8,v,d,i,h)):=fun r6 r7 r8 v d i h h0 h1=>Dr.some trivial h0 h1;have k2:∀ (r5:Int×Int×Int) (r6 r7 r8:Bool×Int×Int) (r i h:Int) (y:Bool),0<=i->i<=(b.length:Int)->Dr b (fun _:aF=>True) (OY b (r5,r6,r7,r8,(r,i,h),y)):=fun r5 r6 r7 r8 r i h y h0 h1=>by
  unfold OY;exact Dr.cond (fun _=>k1 _ _ _ _ _ _ _ h0 h1) fun _=>k1 _ _ _ _ _ _ _ h0 h1
 refine Dr.bind (Af b hb _ i h h0 h1) fun r5 i h _ h0 h1=>Dr.bind (Zd b hb _ i h h0 h1) fun r6 i h _ h0 h1=>Dr.bind (Zd b hb _ i h h0 h1) fun r7 i h _ h0 h1=>Dr.bind (Zd b hb _ i h h0 h1) fun r8 i h _ h0 h1=>Dr.bind (Af b hb _ i h h0 h1) fun dI i h _ h0 h1=>?_;dsimp only;refine Dr.cond (fun _=>?_) fun _=>Dr.cond (fun _=>k1 _ _ _ _ _ _ _ h0 h1) fun _=>Dr.cond (fun _=>k1 _ _ _ _ _ _ _ h0 h1) fun _=>Dr.cond (fun _=>k2 _ _ _ _ _ _ _ _ h0 h1) fun _=>Dr.cond (fun _=>k2 _ _ _ _ _ _ _ _ h0 h1) fun _=>k2 _ _ _ _ _ _ _ _ h0 h1;exact Dr.bind (aiF b hb (P:=fun _=>True) _ i h h0 h1 (by show 0 < 3;decide) fun _ _=>trivial) fun o i h _ h0 h1=>k1 _ _ _ _ _ _ _ h0 h1
omit hN in
theorem alr (i h:Int) (h0:0<=i) (h1:i<=(b.length:Int)):Dr b (fun _=>True) (Xi b i h):=by
 unfold Xi;refine Dr.bind (Zd b hb 3 i h h0 h1) fun r i h _ h0 h1=>?_;dsimp only;exact Dr.cond (fun _=>Qx<|aBj b hb i h h0 h1) fun _=>Dr.some trivial h0 h1
end
def Seg (out:List aR) (s e:Nat) (sp:List aR):List aR:=out.take s++sp++out.drop e
def Vu {out:List aR} {s e:Nat} {sp:List aR} (h:s+sp.length=e) (he:e<=out.length):(Seg out s e sp).length=out.length:=by
 unfold Seg;simp;omega
def aql (out:List aR) (s:Nat):Seg out s s []=out:=by
 unfold Seg;simp
def Zw {out:List aR} {s e e':Nat} {sp sp':List aR} (h:s+sp.length=e) (he:e<=out.length) (h':e+sp'.length=e'):Seg (Seg out s e sp) e e' sp'=Seg out s e' (sp++sp'):=by
 have hl:(out.take s++sp).length=e:=aU;unfold Seg;rw [List.take_append_of_le_length ah,alK ah,List.drop_append,hl];rw [List.drop_eq_nil_of_le ah,Ai,RX,show e+(e' - e)=e' by omega];simp only [jP]
def aBk {out:List aR} {s e:Nat} {sp:List aR} (h:s+sp.length=e) (he:e<=out.length) (j:Nat) (hj:e<=j):(Seg out s e sp)[j]?=out[j]?:=by
 have hl:(out.take s++sp).length=e:=aU;unfold Seg;rw [qo ah,hl,Db];congr 1;omega
def aBl {out:List aR} {s i:Nat} {sp:List aR} (h:s+sp.length=i) (hi:i < out.length) (x y:aR):(Seg (out.set i x) s i sp).set i y=Seg out s (i+1) (sp++[y]):=by
 have hl:((out.set i x).take s++sp).length=i:=aU;unfold Seg;rw [List.set_append_right _ _ ah,hl,VZ];have h1:(out.set i x).drop i=x::out.drop (i+1):=by
  rw [IC (by simpa using hi),List.drop_set_of_lt ah];simp
 rw [h1,List.set_cons_zero,List.take_set_of_le ah];simp only [jP,Gy,Ai]
def Done (c:Nat) (s i:Nat) (n:Nat) (aL:List aR) (out:List aR) (x:Option (List aG×List aR)) (y:Option (Int×List aR)):Prop:=
 ∃ dW sp,x=some (dW,aL++sp)/\s+sp.length=i+1/\y=some ((dW.length:Int),Seg out s (i+1) sp)/\n<=dW.length/\dW.length+c<=n+32*(i+1 - s)
def xI {α β:Type} (x:Option (α×β)):(Option.bind x fun r=>some (r.1,r.2))=x:=by
 cases x<;>rfl
def aBm (t:aC) (j:Nat):PZ (FP t) (j:Int)=some (((j:Int)==0)&&((t.kind==9)||((t.kind==10)||(t.kind==15)))):=by
 unfold PZ;show Option.bind (bif ((j:Int)==0) then bif (t.kind==9) then some true else (bif (t.kind==10) then some true else (some<|t.kind==15)) else (some false)) (fun y1=>some y1)=_;simp only [Vv,Qv,av]
def Em (M:Nat) (t kid:aC) (j:Nat) (p:aF) (toks:List aG) (aL:List aR) (hM:1000 < M) (hl:t.kids.length<=400) (hk:t.kids[j]?=some kid) (hp:posB p=true) (he:eF t.kind=true) (hlv:lv t.kind t.op≠0) (h12:t.kind=12->t.kids.length=2):
  (bK<|M+1).eB t (j:Int) p false toks aL=
   bif (((j:Int)==0)&&((t.kind==9)||((t.kind==10)||(t.kind==15)))) then (bK M).zA kid (bP t.kind t.op t.kids.length j p) false toks aL
   else (bK M).xW kid (bP t.kind t.op t.kids.length j p) false toks aL:=by
 have hj:j < t.kids.length:=(cO.1 hk).1;have hkp:PY (FP t) (j:Int) p=some (bP t.kind t.op t.kids.length j p):=by
  have:=aqm (FP t) j p (by show j < (zK _).length;rw [JJ];exact hj) (by show (zK _).length<=_;rw [JJ];omega) hp he hlv (fun e=>by show (zK _).length=2;rw [JJ];exact h12 e);rw [this];show some (bP t.kind t.op (zK t.kids.length).length j p)=_;rw [JJ]
 show Qa M (bK M) t (j:Int) p false toks aL=_;unfold Qa;rw [adW M t ah ah,av,wI hk,av,hkp,av,aBm,av];cases (((j:Int)==0)&&((t.kind==9)||((t.kind==10)||(t.kind==15))))<;>simp only [aS,aJ,xI]
def Zx (n:aD) (j:Nat) (p:aF) (hk:j < n.Kids.length) (hl:n.Kids.length<=400) (hp:posB p=true) (hlv:lv n.Kind n.Op≠0):fO n (j:Int) p=some (bP n.Kind n.Op n.Kids.length j p):=
 apB n j p hk ah hp hlv
def xJ (a:List aD) (t:aC):Prop:=∀ (s i M M':Nat) (p q:aF) (toks:List aG) (aL out:List aR),TA a t s i->eF t.kind=true->Zy t.kind p q->posB p=true->posB q=true->out.length=a.length->
 toks.length+32*aQ t<=900000->aL.length+aQ t<=900000->2000+8*aQ t<=M->2000+8*aQ t<=M'->
 Done 3 s i toks.length aL out ((bK M).zA t p false toks aL) ((gF M').uT (i:Int) q (toks.length:Int) a false out)
def zL (a:List aD) (t:aC):Prop:=∀ (s i M M':Nat) (p q:aF) (toks:List aG) (aL out:List aR),TA a t s i->eF t.kind=true->adX p q->posB p=true->posB q=true->out.length=a.length->
 toks.length+32*aQ t+1<=900000->aL.length+aQ t<=900000->2001+8*aQ t<=M->2001+8*aQ t<=M'->
 Done 1 s i toks.length aL out ((bK M).xW t p false toks aL) ((gF M').kJ (i:Int) q (toks.length:Int) a false out)
def aqn {a:List aD} {t:aC} (h:xJ a t) (hl:t.kids.length<=400) (hsz:1<=aQ t):zL a t:=by
 intro s i M M' p q toks aL out hT he hr hp hq ho ht hs hM hM';obtain ⟨M,rfl⟩:∃ m,M=m+1:=⟨M - 1,ah⟩
 obtain ⟨M',rfl⟩:∃ m,M'=m+1:=⟨M' - 1,ah⟩
 obtain ⟨n,hn,e1,e2,e3,e4,hka,hkl⟩:=hT.node;obtain ⟨hf,hk⟩:=aqo (o:=t.op) he hr;obtain ⟨hsi,aKq,_⟩:=hT.part;show Done 1 s i toks.length aL out (Qb M (bK M) t p false toks aL) (YP M' (gF M') (i:Int) q (toks.length:Int) a false out);unfold Qb YP;rw [adW M t ah ah,av,aqp,av,wI hn,av,apz,av,aJ];show Done 1 s i toks.length aL out (JA M (bK M) false (t,p,toks,aL,!jL t.kind t.op p)) _;rw [<- e1,<- e2,<- hf];cases hfit:jL t.kind t.op p with
 | true=>
  obtain ⟨dW,sp,r1,r2,r3,r4,r5⟩:=h s i M M' p q toks aL out hT he (hk hfit) hp hq ho ah hs ah ah;unfold JA;simp only [kQ,ru,aS,xI];exact ⟨dW,sp,r1,r2,r3,r4,ah⟩
 | false=>
  obtain ⟨s1,h1⟩:=xK 32;obtain ⟨s2,h2⟩:=xK 33;obtain ⟨dW,sp,r1,r2,r3,r4,r5⟩:=h s i M M' ⟨1,false,false,false,false⟩ ⟨1,false,false,false,false⟩ (toks++[s1]) aL out hT he (.inl rfl) rfl rfl ho aU hs ah ah;have hw:IntKind.wrap .i64 ((toks.length:Int)+1)=((toks++[s1]).length:Int):=by rw [wrap64 ah ah];simp
  have hl1:(toks++[s1]).length=toks.length+1:=aA;unfold JA;simp only [kQ,ru,aS,aJ,h1,h2,av,Uz,qY,hw];rw [kU _ _ _ _ aU,av,r1,av,r3,av];simp only [];rw [kU _ _ _ _ aU,av];refine ⟨dW++[s2],sp,rfl,r2,?_,aU,aU⟩;rw [wrap64 ah ah];simp
def Ij {a:List aD} {s i:Nat} {R1:sQ} {R2:zF} {M M':Nat} {toks dW:List aG} {aL sp out:List aR} {z:Int} (ho:out.length=a.length) (hi:i < a.length) (hsp:s+sp.length=i)
  (hs:aL.length+sp.length+1<=900000) (h1:toks.length<=dW.length) (h2:dW.length+3<=toks.length+32*(i+1 - s)):
  Done 3 s i toks.length aL out (mQ M R1 false (toks,dW,aL++sp)) (pF M' R2 a false ((i:Int),(dW.length:Int),Seg (out.set i ⟨(toks.length:Int),z⟩) s i sp)):=by
 have hl:(Seg (out.set i ⟨(toks.length:Int),z⟩) s i sp).length=out.length:=by
  rw [Vu hsp aU];simp
 have hg:(Seg (out.set i ⟨(toks.length:Int),z⟩) s i sp)[i]?=some ⟨(toks.length:Int),z⟩:=by
  rw [aBk hsp aU i<|eU _,afd ah]
 refine ⟨dW,sp++[⟨(toks.length:Int),(dW.length:Int)⟩],?_,aU,?_,h1,h2⟩
 .unfold mQ;simp only [];rw [jf aU,av,jP]
 .unfold pF;simp only [];rw [wI hg,av,WI ah,av,aBl hsp ah]
def Ik (a:List aD) (M' i:Nat) (q:aF) (MN:Int) (out:List aR) (n:aD) (hn:a[i]?=some n) (ho:out.length=a.length):
  ∃ z,(gF<|M'+1).uT (i:Int) q MN a false out=(bif (n.Kind==5) then ME M' (gF M') a false ((i:Int),MN,n,q,out.set i ⟨MN,z⟩,(n.Kind==5)) else (bif (n.Kind==7) then ME M' (gF M') a false ((i:Int),MN,n,q,out.set i ⟨MN,z⟩,(n.Kind==7)) else (ME M' (gF M') a false ((i:Int),MN,n,q,out.set i ⟨MN,z⟩,(n.Kind==8))))):=by
 have hi:i < out.length:=by rw [ho];exact (cO.1 hn).1
 refine ⟨out[i].To,?_⟩;show YO M' (gF M') (i:Int) q MN a false out=_;unfold YO;rw [wI hn,av,bX hi,av,WI hi,av]
def adY {a:List aD} {t:aC} (hk:t.kind=1\/t.kind=2\/t.kind=3\/t.kind=4) (jo:t.kids=[]):xJ a t:=by
 intro s i M M' p q toks aL out hT he hr hp hq ho ht hs hM hM';obtain ⟨M,rfl⟩:∃ m,M=m+1:=⟨M - 1,ah⟩
 obtain ⟨M',rfl⟩:∃ m,M'=m+1:=⟨M' - 1,ah⟩
 obtain ⟨n,hn,e1,e2,e3,e4,hka,hkl⟩:=hT.node;have hia:i < a.length:=(cO.1 hn).1;have hsz:=kN t;rw [jo,KA] at hka;obtain ⟨_,rfl⟩:=hka;obtain ⟨z,hz⟩:=Ik a M' s q (toks.length:Int) out n hn ho;rw [hz];have key:∀ tk:aG,Done 3 s s toks.length aL out ((iA [tk] false toks aL).bind fun gN=>mQ M (bK M) false (toks,gN,aL)) (pF M' (gF M') a false ((s:Int),IntKind.wrap .i64<|(toks.length:Int)+1,out.set s ⟨(toks.length:Int),z⟩)):=fun tk=>by
  rw [kU _ _ _ _ aU,av,wrap64 ah ah];have:=Ij (R1:=bK M) (R2:=gF M') (M:=M) (M':=M') (toks:=toks) (dW:=toks++[tk]) (aL:=aL) (sp:=[]) (out:=out) (z:=z) (s:=s) (i:=s) ho hia aA aU aA (by rw [fP,ED];omega);rw [aql,nQ] at this;simpa using this
 show Done 3 s s toks.length aL out (Ym M (bK M) t p false toks aL) _;clear hz hn hr he hs;obtain ⟨nk,no,nx,ny,Ib⟩:=n;obtain ⟨tk,to,tx,ty,tks⟩:=t;have e1:tk=nk:=e1;subst e1;rcases hk with e|e|e|e<;>(have e:tk=_:=e;subst e)
 .exact key ⟨6,tx,0⟩
 .exact key ⟨3,tx,0⟩
 .exact key ⟨4,tx,0⟩
 .exact key ⟨5,tx,0⟩
def aqr {a:List aD} {t kid:aC} (hk:t.kind=6\/t.kind=11) (jo:t.kids=[kid]) (hE:zL a kid) (hke:eF kid.kind=true) (hlv:lv t.kind t.op≠0):xJ a t:=by
 intro s i M M' p q toks aL out hT he hr hp hq ho ht hs hM hM';obtain ⟨M,rfl⟩:∃ m,M=m+3:=⟨M - 3,ah⟩
 obtain ⟨M',rfl⟩:∃ m,M'=m+1:=⟨M' - 1,ah⟩
 obtain ⟨n,hn,e1,e2,e3,e4,hka,hkl⟩:=hT.node;have hia:i < a.length:=(cO.1 hn).1;have hse:=wh t;have hsz:=kN kid;rw [jo,aK,aK] at hse;rw [jo] at hka hkl;simp only [KA] at hka;obtain ⟨k,ks',hks,h1,h2,iI,rfl,h3⟩:=hka;subst h3;obtain ⟨_,QD,_⟩:=iI.part;obtain ⟨z,hz⟩:=Ik a M' (k+1) q (toks.length:Int) out n hn ho;rw [hz];have hl1:t.kids.length=1:=by rw [jo];rfl
 have hnl:n.Kids.length=1:=by rw [<- hkl];rfl
 have hkp:=um (k:=t.kind) (o:=t.op) (n:=1) (j:=0) (p:=p) he;have hkq:=um (k:=t.kind) (o:=t.op) (n:=1) (j:=0) (p:=q) he;have AY:ix n.Kids 0=some (k:Int):=by rw [hks];rfl
 have hsp:fO n 0 q=some (bP t.kind t.op 1 0 q):=by
  have:=Zx n 0 q ah ah hq (by rw [<- e1,<- e2];exact hlv);rw [hnl,<- e1,<- e2] at this;exact this
 have key:∀ sg:aG,Done 3 s (k+1) toks.length aL out
   (((iA [sg] false toks aL).bind fun r5=>((bK<|M+1).eB t 0 p false r5 aL).bind fun r7=>some (r7.1,r7.2)).bind fun fM=>mQ (M+2) (bK<|M+2) false (toks,fM.1,fM.2))
   ((ix n.Kids 0).bind fun Fv=>(fO n 0 q).bind fun qJ=>((gF M').kJ Fv qJ (IntKind.wrap .i64<|(toks.length:Int)+1) a false<|out.set (k+1) ⟨(toks.length:Int),z⟩).bind fun zl=>pF M' (gF M') a false (((k+1:Nat):Int),zl.1,zl.2)):=fun sg=>by
  have hki:=Em M t kid 0 p (toks++[sg]) aL ah ah (by rw [jo];rfl) hp he hlv (fun e=>by rcases hk with h|h<;>omega);have iV:((((0:Nat):Int)==0)&&((t.kind==9)||((t.kind==10)||(t.kind==15))))=false:=by rcases hk with e|e<;>rw [e]<;>rfl
  rw [iV,aJ,hl1] at hki;have hl2:(toks++[sg]).length=toks.length+1:=aA;obtain ⟨dW,sp,r1,r2,r3,r4,r5⟩:=hE s k M M' (bP t.kind t.op 1 0 p) (bP t.kind t.op 1 0 q) (toks++[sg]) aL (out.set (k+1) ⟨(toks.length:Int),z⟩) iI hke (aqs he hr) hkp hkq (by simp [ho]) ah ah ah ah;rw [kU _ _ _ _ aU,av,xI];rw [show ((0:Int))=((0:Nat):Int) by rfl] at AY hsp ⊢;rw [hki,r1,av,AY,av,hsp,av,wrap64 ah ah,show (toks.length:Int)+1=((toks++[sg]).length:Int) by rw [hl2];omega,r3,av];exact Ij (dW:=dW) (sp:=sp) (z:=z) ho hia r2 ah ah ah
 obtain ⟨g68,aBo⟩:=xK 68;obtain ⟨gop,ajd⟩:=xK t.op;have k1:=key g68;have k2:=key gop;clear hz hn hr hp hq hkp hkq hs key;obtain ⟨nk,no,nx,ny,Ib⟩:=n;obtain ⟨tk,to,tx,ty,tks⟩:=t;have e1:tk=nk:=e1;subst e1;rcases hk with e|e<;>(have e:tk=_:=e;subst e)
 .show Done 3 s (k+1) toks.length aL out (((jJ 68).bind fun bF=>(iA [bF] false toks aL).bind fun nY=>((bK<|M+1).eB ⟨6,to,tx,ty,tks⟩ 0 p false nY aL).bind fun jI=>some (jI.1,jI.2)).bind fun fM=>mQ (M+2) (bK<|M+2) false (toks,fM.1,fM.2)) _;rw [aBo,av];exact k1
 .show Done 3 s (k+1) toks.length aL out (((jJ to).bind fun bF=>(iA [bF] false toks aL).bind fun nY=>((bK<|M+1).eB ⟨11,to,tx,ty,tks⟩ 0 p false nY aL).bind fun jI=>some (jI.1,jI.2)).bind fun fM=>mQ (M+2) (bK<|M+2) false (toks,fM.1,fM.2)) _;have ajd:jJ to=some gop:=ajd;rw [ajd,av];exact k2
def aBp {a:List aD} {t kid:aC} (hk:t.kind=9) (jo:t.kids=[kid]) (hB:xJ a kid) (hkl':jE kid.kind=true):xJ a t:=by
 intro s i M M' p q toks aL out hT he hr hp hq ho ht hs hM hM';obtain ⟨M,rfl⟩:∃ m,M=m+3:=⟨M - 3,ah⟩
 obtain ⟨M',rfl⟩:∃ m,M'=m+1:=⟨M' - 1,ah⟩
 obtain ⟨n,hn,e1,e2,e3,e4,hka,hkl⟩:=hT.node;have hia:i < a.length:=(cO.1 hn).1;have hse:=wh t;have hsz:=kN kid;rw [jo,aK,aK] at hse;rw [jo] at hka hkl;simp only [KA] at hka;obtain ⟨k,ks',hks,h1,h2,iI,rfl,h3⟩:=hka;subst h3;obtain ⟨_,QD,_⟩:=iI.part;obtain ⟨z,hz⟩:=Ik a M' (k+1) q (toks.length:Int) out n hn ho;rw [hz];have hl1:t.kids.length=1:=by rw [jo];rfl
 have JK:kid.kind<=9:=by
  unfold jE at hkl';simp only [mI,qw] at hkl';omega
 have AY:ix n.Kids ((0:Nat):Int)=some (k:Int):=by rw [hks];rfl
 have hlv:lv t.kind t.op≠0:=by rw [hk];show (13:Int)≠0;decide
 obtain ⟨sg,hsg⟩:=xK t.op;have key:Done 3 s (k+1) toks.length aL out
   (((jJ t.op).bind fun r4=>(iA [r4] false toks aL).bind fun r5=>((bK<|M+1).eB t ((0:Nat):Int) p false r5 aL).bind fun r7=>some (r7.1,r7.2)).bind fun fM=>mQ (M+2) (bK<|M+2) false (toks,fM.1,fM.2))
   ((ix n.Kids ((0:Nat):Int)).bind fun sU=>((gF M').uT sU (⟨14,false,false,false,false⟩:aF) (IntKind.wrap .i64<|(toks.length:Int)+1) a false<|out.set (k+1) ⟨(toks.length:Int),z⟩).bind fun nV=>pF M' (gF M') a false (((k+1:Nat):Int),nV.1,nV.2)):=by
  have hki:=Em M t kid 0 p (toks++[sg]) aL ah ah (by rw [jo];rfl) hp he hlv (fun e=>ah);have iV:((((0:Nat):Int)==0)&&((t.kind==9)||((t.kind==10)||(t.kind==15))))=true:=by rw [hk];rfl
  have Zz:bP t.kind t.op 1 0 p=⟨14,false,p.aX,p.bg,false⟩:=by rw [hk];rfl
  rw [iV,aS,hl1,Zz] at hki;have hl2:(toks++[sg]).length=toks.length+1:=aA;obtain ⟨dW,sp,r1,r2,r3,r4,r5⟩:=hB s k M M' ⟨14,false,p.aX,p.bg,false⟩ ⟨14,false,false,false,false⟩ (toks++[sg]) aL (out.set (k+1) ⟨(toks.length:Int),z⟩) iI (Vw hkl') (.inr JK) rfl rfl (by simp [ho]) ah ah ah ah;rw [hsg,av,kU _ _ _ _ aU,av,xI];rw [hki,r1,av,AY,av,wrap64 ah ah,show (toks.length:Int)+1=((toks++[sg]).length:Int) by rw [hl2];omega,r3,av];exact Ij (dW:=dW) (sp:=sp) (z:=z) ho hia r2 ah ah ah
 clear hz hn hr hp hq hs hsg;obtain ⟨nk,no,nx,ny,Ib⟩:=n;obtain ⟨tk,to,tx,ty,tks⟩:=t;have e1:tk=nk:=e1;subst e1;have hk:tk=9:=hk;subst hk;exact key
def aBq {a:List aD} {t kid:aC} (hk:t.kind=10) (jo:t.kids=[kid]) (hB:xJ a kid) (hkl':jE kid.kind=true):xJ a t:=by
 intro s i M M' p q toks aL out hT he hr hp hq ho ht hs hM hM';obtain ⟨M,rfl⟩:∃ m,M=m+3:=⟨M - 3,ah⟩
 obtain ⟨M',rfl⟩:∃ m,M'=m+1:=⟨M' - 1,ah⟩
 obtain ⟨n,hn,e1,e2,e3,e4,hka,hkl⟩:=hT.node;have hia:i < a.length:=(cO.1 hn).1;have hse:=wh t;have hsz:=kN kid;rw [jo,aK,aK] at hse;rw [jo] at hka hkl;simp only [KA] at hka;obtain ⟨k,ks',hks,h1,h2,iI,rfl,h3⟩:=hka;subst h3;obtain ⟨_,QD,_⟩:=iI.part;obtain ⟨z,hz⟩:=Ik a M' (k+1) q (toks.length:Int) out n hn ho;rw [hz];have hl1:t.kids.length=1:=by rw [jo];rfl
 have JK:kid.kind<=9:=by
  unfold jE at hkl';simp only [mI,qw] at hkl';omega
 have AY:ix n.Kids ((0:Nat):Int)=some (k:Int):=by rw [hks];rfl
 have hlv:lv t.kind t.op≠0:=by rw [hk];show (13:Int)≠0;decide
 obtain ⟨sg,hsg⟩:=xK t.op;have key:Done 3 s (k+1) toks.length aL out
   ((((bK<|M+1).eB t ((0:Nat):Int) p false toks aL).bind fun eY=>(jJ t.op).bind fun dR=>(iA [dR] false eY.1 eY.2).bind fun dI=>some (dI,eY.2)).bind fun fM=>mQ (M+2) (bK<|M+2) false (toks,fM.1,fM.2))
   ((ix n.Kids ((0:Nat):Int)).bind fun YL=>((gF M').uT YL (⟨14,false,false,false,false⟩:aF) (toks.length:Int) a false<|out.set (k+1) ⟨(toks.length:Int),z⟩).bind fun oQ=>pF M' (gF M') a false (((k+1:Nat):Int),IntKind.wrap .i64<|oQ.1+1,oQ.2)):=by
  have hki:=Em M t kid 0 p toks aL ah ah (by rw [jo];rfl) hp he hlv (fun e=>ah);have iV:((((0:Nat):Int)==0)&&((t.kind==9)||((t.kind==10)||(t.kind==15))))=true:=by rw [hk];rfl
  have Zz:bP t.kind t.op 1 0 p=⟨14,false,p.aX,p.bg,false⟩:=by rw [hk];rfl
  rw [iV,aS,hl1,Zz] at hki;obtain ⟨dW,sp,r1,r2,r3,r4,r5⟩:=hB s k M M' ⟨14,false,p.aX,p.bg,false⟩ ⟨14,false,false,false,false⟩ toks aL (out.set (k+1) ⟨(toks.length:Int),z⟩) iI (Vw hkl') (.inr JK) rfl rfl (by simp [ho]) ah ah ah ah;have hl2:(dW++[sg]).length=dW.length+1:=aA;rw [hki,r1,av,hsg,av];simp only [];rw [kU _ _ _ _ aU,av,av,AY,av,r3,av];simp only [];rw [wrap64 ah ah,show (dW.length:Int)+1=((dW++[sg]).length:Int) by rw [hl2];omega];exact Ij (dW:=dW++[sg]) (sp:=sp) (z:=z) ho hia r2 ah ah ah
 clear hz hn hr hp hq hs hsg;obtain ⟨nk,no,nx,ny,Ib⟩:=n;obtain ⟨tk,to,tx,ty,tks⟩:=t;have e1:tk=nk:=e1;subst e1;have hk:tk=10:=hk;subst hk;exact key
def aBr {a:List aD} {t x y:aC} (hk:t.kind=12) (jo:t.kids=[x,y]) (hX:zL a x) (hY:zL a y) (hxe:eF x.kind=true) (hye:eF y.kind=true) (hlv:lv t.kind t.op≠0):xJ a t:=by
 intro s i M M' p q toks aL out hT he hr hp hq ho ht hs hM hM';obtain ⟨M,rfl⟩:∃ m,M=m+3:=⟨M - 3,ah⟩
 obtain ⟨M',rfl⟩:∃ m,M'=m+1:=⟨M' - 1,ah⟩
 obtain ⟨n,hn,e1,e2,e3,e4,hka,hkl⟩:=hT.node;have hia:i < a.length:=(cO.1 hn).1;have hse:=wh t;have hsx:=kN x;have hsy:=kN y;rw [jo,aK,aK,aK] at hse;rw [jo] at hka hkl;simp only [KA] at hka;obtain ⟨k,ks',hks,h1,h2,iI,k2,ks2,ZA,h4,h5,htb,rfl,h3⟩:=hka;subst h3;subst ZA;obtain ⟨hx1,hx2,_⟩:=iI.part;obtain ⟨hy1,hy2,_⟩:=htb.part;obtain ⟨z,hz⟩:=Ik a M' (k2+1) q (toks.length:Int) out n hn ho;rw [hz];have hl1:t.kids.length=2:=by rw [jo];rfl
 have hnl:n.Kids.length=2:=by rw [<- hkl];rfl
 have hpq:p=q:=by
  rcases hr with h|h
  .exact h
  .omega
 subst hpq;have AY:ix n.Kids ((0:Nat):Int)=some (k:Int):=by rw [hks];rfl
 have QE:ix n.Kids ((1:Nat):Int)=some (k2:Int):=by rw [hks];rfl
 have hsp:∀ j:Nat,j < 2->fO n (j:Int) p=some (bP t.kind t.op 2 j p):=fun j hj=>by
  have:=Zx n j p ah ah hq (by rw [<- e1,<- e2];exact hlv);rw [hnl,<- e1,<- e2] at this;exact this
 have hkp:∀ j,posB (bP t.kind t.op 2 j p)=true:=fun j=>um he;have iV:∀ j:Nat,(((j:Int)==0)&&((t.kind==9)||((t.kind==10)||(t.kind==15))))=false:=fun j=>by rw [hk];cases ((j:Int)==0)<;>rfl
 obtain ⟨sg,hsg⟩:=xK t.op;have hkx:=Em M t x 0 p toks aL ah ah (by rw [jo];rfl) hp he hlv (fun _=>hl1);rw [iV,aJ,hl1] at hkx;obtain ⟨tk1,sp1,r1,r2,r3,r4,r5⟩:=hX s k M M' (bP t.kind t.op 2 0 p) (bP t.kind t.op 2 0 p) toks aL (out.set (k2+1) ⟨(toks.length:Int),z⟩) iI hxe (.inl rfl) (hkp 0) (hkp 0) (by simp [ho]) ah ah ah ah;have hlen1:(Seg (out.set (k2+1) ⟨(toks.length:Int),z⟩) s (k+1) sp1).length=a.length:=by
  rw [Vu r2 aU];simp [ho]
 have rest:∀ tk2:List aG,tk1.length<=tk2.length->tk2.length<=tk1.length+1->Done 3 s (k2+1) toks.length aL out
   ((((bK<|M+1).eB t ((1:Nat):Int) p false tk2<|aL++sp1).bind fun nI=>some (nI.1,nI.2)).bind fun fM=>mQ (M+2) (bK<|M+2) false (toks,fM.1,fM.2))
   ((ix n.Kids ((1:Nat):Int)).bind fun YH=>(fO n ((1:Nat):Int) p).bind fun YI=>((gF M').kJ YH YI (tk2.length:Int) a false<|Seg (out.set (k2+1) ⟨(toks.length:Int),z⟩) s (k+1) sp1).bind fun MC=>pF M' (gF M') a false (((k2+1:Nat):Int),MC.1,MC.2)):=fun tk2 g1 g2=>by
  have hky:=Em M t y 1 p tk2 (aL++sp1) ah ah (by rw [jo];rfl) hp he hlv (fun _=>hl1);rw [iV,aJ,hl1] at hky;have hls:(aL++sp1).length=aL.length+sp1.length:=aA;obtain ⟨tk3,sp2,w1,w2,w3,w4,w5⟩:=hY (k+1) k2 M M' (bP t.kind t.op 2 1 p) (bP t.kind t.op 2 1 p) tk2 (aL++sp1) _ htb hye (.inl rfl) (hkp 1) (hkp 1) hlen1 ah ah ah ah;rw [hky,xI,w1,av,QE,av,hsp 1 ah,av,w3,av,Zw r2 aU w2,jP];exact Ij (dW:=tk3) (sp:=sp1++sp2) (z:=z) ho hia (by rw [fP];omega) (by rw [fP];omega) ah ah
 have key:Done 3 s (k2+1) toks.length aL out
   ((((bK<|M+1).eB t ((0:Nat):Int) p false toks aL).bind fun eX=>bif (t.op !=99) then (jJ t.op).bind fun eP=>(iA [eP] false eX.1 eX.2).bind fun lN=>xE (M+1) (bK<|M+1) false (t,p,eX,lN) else (xE (M+1) (bK<|M+1) false (t,p,eX,eX.1))).bind fun fM=>mQ (M+2) (bK<|M+2) false (toks,fM.1,fM.2))
   ((ix n.Kids ((0:Nat):Int)).bind fun e137=>(fO n ((0:Nat):Int) p).bind fun Lm=>((gF M').kJ e137 Lm (toks.length:Int) a false<|out.set (k2+1) ⟨(toks.length:Int),z⟩).bind fun ko=>bif (t.op !=99) then UR M' (gF M') a false (((k2+1:Nat):Int),p,n,ko,(IntKind.wrap .i64<|ko.1+1)) else (UR M' (gF M') a false (((k2+1:Nat):Int),p,n,ko,ko.1))):=by
  rw [hkx,r1,av,AY,av,hsp 0 ah,av,r3,av];cases aqu:(t.op !=99) with
  | true=>
   have hl2:(tk1++[sg]).length=tk1.length+1:=aA;simp only [aS,hsg,av];rw [kU _ _ _ _ aU,av,wrap64 ah ah,show (tk1.length:Int)+1=((tk1++[sg]).length:Int) by rw [hl2];omega];exact rest (tk1++[sg]) ah ah
  | false=>
   simp only [aJ];exact rest tk1 ah ah
 clear rest hz hn hr hp hq hs hsg hkx hsp hkp;obtain ⟨nk,no,nx,ny,Ib⟩:=n;obtain ⟨tk,to,tx,ty,tks⟩:=t;have e1:tk=nk:=e1;have e2:to=no:=e2;subst e1 e2;have hk:tk=12:=hk;subst hk;exact key
def aBs {a:List aD} {t x y:aC} (hk:t.kind=15) (jo:t.kids=[x,y]) (pG:t.op≠99) (hX:xJ a x) (hxl:jE x.kind=true) (hY:zL a y) (hye:eF y.kind=true):xJ a t:=by
 intro s i M M' p q toks aL out hT he hr hp hq ho ht hs hM hM';obtain ⟨M,rfl⟩:∃ m,M=m+3:=⟨M - 3,ah⟩
 obtain ⟨M',rfl⟩:∃ m,M'=m+1:=⟨M' - 1,ah⟩
 obtain ⟨n,hn,e1,e2,e3,e4,hka,hkl⟩:=hT.node;have hia:i < a.length:=(cO.1 hn).1;have hse:=wh t;have hsx:=kN x;have hsy:=kN y;rw [jo,aK,aK,aK] at hse;rw [jo] at hka hkl;simp only [KA] at hka;obtain ⟨k,ks',hks,h1,h2,iI,k2,ks2,ZA,h4,h5,htb,rfl,h3⟩:=hka;subst h3;subst ZA;obtain ⟨hx1,hx2,_⟩:=iI.part;obtain ⟨hy1,hy2,_⟩:=htb.part;obtain ⟨z,hz⟩:=Ik a M' (k2+1) q (toks.length:Int) out n hn ho;rw [hz];have hl1:t.kids.length=2:=by rw [jo];rfl
 have hnl:n.Kids.length=2:=by rw [<- hkl];rfl
 have hlv:lv t.kind t.op≠0:=by rw [hk];show (1:Int)≠0;decide
 have hpq:p=q:=by
  rcases hr with h|h
  .exact h
  .omega
 subst hpq;have JK:x.kind<=9:=by
  unfold jE at hxl;simp only [mI,qw] at hxl;omega
 have AY:ix n.Kids ((0:Nat):Int)=some (k:Int):=by rw [hks];rfl
 have QE:ix n.Kids ((1:Nat):Int)=some (k2:Int):=by rw [hks];rfl
 have hsp:fO n ((1:Nat):Int) p=some (bP t.kind t.op 2 1 p):=by
  have:=Zx n 1 p ah ah hq (by rw [<- e1,<- e2];exact hlv);rw [hnl,<- e1,<- e2] at this;exact this
 have hkp:posB (bP t.kind t.op 2 1 p)=true:=um he;have WB:((((0:Nat):Int)==0)&&((t.kind==9)||((t.kind==10)||(t.kind==15))))=true:=by rw [hk];rfl
 have aBt:((((1:Nat):Int)==0)&&((t.kind==9)||((t.kind==10)||(t.kind==15))))=false:=rfl;have Zz:bP t.kind t.op 2 0 p=⟨14,false,p.aX,p.bg,p.eH⟩:=by rw [hk];rfl
 obtain ⟨sg,hsg⟩:=xK t.op;have hkx:=Em M t x 0 p toks aL ah ah (by rw [jo];rfl) hp he hlv (fun e=>ah);rw [WB,aS,hl1,Zz] at hkx;have aBu:posB ⟨14,false,p.aX,p.bg,p.eH⟩=true:=rfl;obtain ⟨tk1,sp1,r1,r2,r3,r4,r5⟩:=hX s k M M' ⟨14,false,p.aX,p.bg,p.eH⟩ ⟨14,false,false,false,false⟩ toks aL (out.set (k2+1) ⟨(toks.length:Int),z⟩) iI (Vw hxl) (.inr JK) aBu rfl (by simp [ho]) ah ah ah ah;have hlen1:(Seg (out.set (k2+1) ⟨(toks.length:Int),z⟩) s (k+1) sp1).length=a.length:=by
  rw [Vu r2 aU];simp [ho]
 have hl2:(tk1++[sg]).length=tk1.length+1:=aA;have hls:(aL++sp1).length=aL.length+sp1.length:=aA;have hky:=Em M t y 1 p (tk1++[sg]) (aL++sp1) ah ah (by rw [jo];rfl) hp he hlv (fun e=>ah);rw [aBt,aJ,hl1] at hky;obtain ⟨tk3,sp2,w1,w2,w3,w4,w5⟩:=hY (k+1) k2 M M' (bP t.kind t.op 2 1 p) (bP t.kind t.op 2 1 p) (tk1++[sg]) (aL++sp1) _ htb hye (.inl rfl) hkp hkp hlen1 ah ah ah ah;have aqu:(t.op !=99)=true:=by simpa using pG
 have key:Done 3 s (k2+1) toks.length aL out
   ((((bK<|M+1).eB t ((0:Nat):Int) p false toks aL).bind fun eX=>bif (t.op !=99) then (jJ t.op).bind fun eP=>(iA [eP] false eX.1 eX.2).bind fun lN=>((bK<|M+1).eB t ((1:Nat):Int) p false lN eX.2).bind fun nI=>some (nI.1,nI.2) else (xE (M+1) (bK<|M+1) false (t,p,eX,eX.1))).bind fun fM=>mQ (M+2) (bK<|M+2) false (toks,fM.1,fM.2))
   ((ix n.Kids ((1:Nat):Int)).bind fun YM=>(fO n ((1:Nat):Int) p).bind fun Hl=>(ix n.Kids ((0:Nat):Int)).bind fun YN=>((gF M').uT YN (⟨14,false,false,false,false⟩:aF) (toks.length:Int) a false<|out.set (k2+1) ⟨(toks.length:Int),z⟩).bind fun Cg=>((gF M').kJ YM Hl (IntKind.wrap .i64<|Cg.1+1) a false Cg.2).bind fun sH=>pF M' (gF M') a false (((k2+1:Nat):Int),sH.1,sH.2)):=by
  rw [hkx,r1,av,aqu,aS,hsg,av];simp only [];rw [kU _ _ _ _ aU,av,hky,xI,w1,av,QE,av,hsp,av,AY,av,r3,av];simp only [];rw [wrap64 ah ah,show (tk1.length:Int)+1=((tk1++[sg]).length:Int) by rw [hl2];omega,w3,av,Zw r2 aU w2,jP];exact Ij (dW:=tk3) (sp:=sp1++sp2) (z:=z) ho hia (by rw [fP];omega) (by rw [fP];omega) ah ah
 clear hz hn hr hp hq hs hsg hkx hky hsp hkp w1 w3 r1 r3;obtain ⟨nk,no,nx,ny,Ib⟩:=n;obtain ⟨tk,to,tx,ty,tks⟩:=t;have e1:tk=nk:=e1;have e2:to=no:=e2;subst e1 e2;have hk:tk=15:=hk;subst hk;exact key
def aBv {a:List aD} {t kid:aC} (hk:t.kind=13) (jo:t.kids=[kid]) (hE:zL a kid) (hke:eF kid.kind=true):xJ a t:=by
 intro s i M M' p q toks aL out hT he hr hp hq ho ht hs hM hM';obtain ⟨M,rfl⟩:∃ m,M=m+3:=⟨M - 3,ah⟩
 obtain ⟨M',rfl⟩:∃ m,M'=m+1:=⟨M' - 1,ah⟩
 obtain ⟨n,hn,e1,e2,e3,e4,hka,hkl⟩:=hT.node;have hia:i < a.length:=(cO.1 hn).1;have hse:=wh t;have hsz:=kN kid;rw [jo,aK,aK] at hse;rw [jo] at hka hkl;simp only [KA] at hka;obtain ⟨k,ks',hks,h1,h2,iI,rfl,h3⟩:=hka;subst h3;obtain ⟨_,QD,_⟩:=iI.part;obtain ⟨z,hz⟩:=Ik a M' (k+1) q (toks.length:Int) out n hn ho;rw [hz];have hl1:t.kids.length=1:=by rw [jo];rfl
 have hnl:n.Kids.length=1:=by rw [<- hkl];rfl
 have hlv:lv t.kind t.op≠0:=by rw [hk];show (5:Int)≠0;decide
 have hpq:p=q:=by
  rcases hr with h|h
  .exact h
  .omega
 subst hpq;have hkp:=um (k:=t.kind) (o:=t.op) (n:=1) (j:=0) (p:=p) he;have AY:ix n.Kids ((0:Nat):Int)=some (k:Int):=by rw [hks];rfl
 have hsp:fO n ((0:Nat):Int) p=some (bP t.kind t.op 1 0 p):=by
  have:=Zx n 0 p ah ah hq (by rw [<- e1,<- e2];exact hlv);rw [hnl,<- e1,<- e2] at this;exact this
 obtain ⟨sg,hsg⟩:=xK 24;have hki:=Em M t kid 0 p toks aL ah ah (by rw [jo];rfl) hp he hlv (fun e=>ah);have iV:((((0:Nat):Int)==0)&&((t.kind==9)||((t.kind==10)||(t.kind==15))))=false:=by rw [hk];rfl
 rw [iV,aJ,hl1] at hki;obtain ⟨dW,sp,r1,r2,r3,r4,r5⟩:=hE s k M M' (bP t.kind t.op 1 0 p) (bP t.kind t.op 1 0 p) toks aL (out.set (k+1) ⟨(toks.length:Int),z⟩) iI hke (.inl rfl) hkp hkp (by simp [ho]) ah ah ah ah;have hc1:decide ((t.kids.length:Int) > 1)=false:=by rw [hl1];rfl
 have hc2:decide ((n.Kids.length:Int) > 1)=false:=by rw [hnl];rfl
 have hl2:∀ tk:aG,(dW++[sg,tk]).length=dW.length+2:=fun tk=>by simp
 have key:Done 3 s (k+1) toks.length aL out
   ((bif decide ((t.kids.length:Int) > 1) then ((bK<|M+1).sS t 32 33 p false toks aL).bind fun oZ=>zB (M+1) (bK<|M+1) false (t,oZ.1,oZ.2) else (((bK<|M+1).eB t ((0:Nat):Int) p false toks aL).bind fun dZ=>zB (M+1) (bK<|M+1) false (t,dZ.1,dZ.2))).bind fun fM=>mQ (M+2) (bK<|M+2) false (toks,fM.1,fM.2))
   (bif decide ((n.Kids.length:Int) > 1) then ((gF M').Co n.Kids (IntKind.wrap .i64<|(toks.length:Int)+1) a false<|out.set (k+1) ⟨(toks.length:Int),z⟩).bind fun vZ=>pF M' (gF M') a false (((k+1:Nat):Int),(IntKind.wrap .i64<|vZ.1+3),vZ.2) else ((ix n.Kids ((0:Nat):Int)).bind fun Qq=>(fO n ((0:Nat):Int) p).bind fun sJ=>((gF M').kJ Qq sJ (toks.length:Int) a false<|out.set (k+1) ⟨(toks.length:Int),z⟩).bind fun oz=>pF M' (gF M') a false (((k+1:Nat):Int),(IntKind.wrap .i64<|oz.1+2),oz.2))):=by
  rw [hc1,hc2,aJ,aJ,hki,r1,av,AY,av,hsp,av,r3,av];unfold zB;simp only [hsg,av];rw [kU _ _ _ _ aU,av,av];simp only [];rw [wrap64 ah ah,show (dW.length:Int)+2=((dW++[sg,(⟨6,t.text,0⟩:aG)]).length:Int) by rw [hl2];omega];exact Ij (dW:=dW++[sg,⟨6,t.text,0⟩]) (sp:=sp) (z:=z) ho hia r2 ah (by rw [hl2];omega) (by rw [hl2];omega)
 clear hz hn hr hp hq hs hsg hki hsp hkp r1 r3 hc1 hc2;obtain ⟨nk,no,nx,ny,Ib⟩:=n;obtain ⟨tk,to,tx,ty,tks⟩:=t;have e1:tk=nk:=e1;subst e1;have hk:tk=13:=hk;subst hk;exact key
def aBw {a:List aD} {t x y w:aC} (hk:t.kind=14) (jo:t.kids=[x,y,w]) (hX:zL a x) (hY:zL a y) (hW:zL a w) (hxe:eF x.kind=true) (hye:eF y.kind=true) (hwe:eF w.kind=true):xJ a t:=by
 intro s i M M' p q toks aL out hT he hr hp hq ho ht hs hM hM';obtain ⟨M,rfl⟩:∃ m,M=m+3:=⟨M - 3,ah⟩
 obtain ⟨M',rfl⟩:∃ m,M'=m+1:=⟨M' - 1,ah⟩
 obtain ⟨n,hn,e1,e2,e3,e4,hka,hkl⟩:=hT.node;have hia:i < a.length:=(cO.1 hn).1;have hse:=wh t;have hsx:=kN x;have hsy:=kN y;have hsw:=kN w;rw [jo,aK,aK,aK,aK] at hse;rw [jo] at hka hkl;simp only [KA] at hka;obtain ⟨k,ks',hks,h1,h2,iI,k2,ks2,ZA,h4,h5,htb,k3,ks3,aBy,h6,h7,htc,rfl,h3⟩:=hka;subst h3;subst aBy;subst ZA;obtain ⟨hx1,hx2,_⟩:=iI.part;obtain ⟨hy1,hy2,_⟩:=htb.part;obtain ⟨hw1,hw2,_⟩:=htc.part;obtain ⟨z,hz⟩:=Ik a M' (k3+1) q (toks.length:Int) out n hn ho;rw [hz];have hl1:t.kids.length=3:=by rw [jo];rfl
 have hnl:n.Kids.length=3:=by rw [<- hkl];rfl
 have hlv:lv t.kind t.op≠0:=by rw [hk];show (2:Int)≠0;decide
 have hpq:p=q:=by
  rcases hr with h|h
  .exact h
  .omega
 subst hpq;have AY:ix n.Kids ((0:Nat):Int)=some (k:Int):=by rw [hks];rfl
 have QE:ix n.Kids ((1:Nat):Int)=some (k2:Int):=by rw [hks];rfl
 have QD:ix n.Kids ((2:Nat):Int)=some (k3:Int):=by rw [hks];rfl
 have hsp:∀ j:Nat,j < 3->fO n (j:Int) p=some (bP t.kind t.op 3 j p):=fun j hj=>by
  have:=Zx n j p ah ah hq (by rw [<- e1,<- e2];exact hlv);rw [hnl,<- e1,<- e2] at this;exact this
 have hkp:∀ j,posB (bP t.kind t.op 3 j p)=true:=fun j=>um he;have iV:∀ j:Nat,(((j:Int)==0)&&((t.kind==9)||((t.kind==10)||(t.kind==15))))=false:=fun j=>by rw [hk];cases ((j:Int)==0)<;>rfl
 obtain ⟨s1,hs1⟩:=xK 65;obtain ⟨s2,hs2⟩:=xK 66;have hkx:=Em M t x 0 p toks aL ah ah (by rw [jo];rfl) hp he hlv (fun e=>ah);rw [iV,aJ,hl1] at hkx;obtain ⟨tk1,sp1,r1,r2,r3,r4,r5⟩:=hX s k M M' (bP t.kind t.op 3 0 p) (bP t.kind t.op 3 0 p) toks aL (out.set (k3+1) ⟨(toks.length:Int),z⟩) iI hxe (.inl rfl) (hkp 0) (hkp 0) (by simp [ho]) ah ah ah ah;have hlen1:(Seg (out.set (k3+1) ⟨(toks.length:Int),z⟩) s (k+1) sp1).length=a.length:=by
  rw [Vu r2 aU];simp [ho]
 have la:(tk1++[s1]).length=tk1.length+1:=aA;have lb:(aL++sp1).length=aL.length+sp1.length:=aA;have hky:=Em M t y 1 p (tk1++[s1]) (aL++sp1) ah ah (by rw [jo];rfl) hp he hlv (fun e=>ah);rw [iV,aJ,hl1] at hky;obtain ⟨tk2,sp2,u1,u2,u3,u4,u5⟩:=hY (k+1) k2 M M' (bP t.kind t.op 3 1 p) (bP t.kind t.op 3 1 p) (tk1++[s1]) (aL++sp1) _ htb hye (.inl rfl) (hkp 1) (hkp 1) hlen1 ah ah ah ah;rw [Zw r2 aU u2] at u3;have r2':s+(sp1++sp2).length=k2+1:=by rw [fP];omega
 have SI:(Seg (out.set (k3+1) ⟨(toks.length:Int),z⟩) s (k2+1)<|sp1++sp2).length=a.length:=by
  rw [Vu r2' aU];simp [ho]
 have lc:(tk2++[s2]).length=tk2.length+1:=aA;have ld:(aL++sp1++sp2).length=aL.length+sp1.length+sp2.length:=aU;have YU:=Em M t w 2 p (tk2++[s2]) (aL++sp1++sp2) ah ah (by rw [jo];rfl) hp he hlv (fun e=>ah);rw [iV,aJ,hl1] at YU;obtain ⟨tk3,sp3,w1,w2,w3,w4,w5⟩:=hW (k2+1) k3 M M' (bP t.kind t.op 3 2 p) (bP t.kind t.op 3 2 p) (tk2++[s2]) (aL++sp1++sp2) _ htc hwe (.inl rfl) (hkp 2) (hkp 2) SI ah ah ah ah;rw [Zw r2' aU w2] at w3;have key:Done 3 s (k3+1) toks.length aL out
   ((((bK<|M+1).eB t ((0:Nat):Int) p false toks aL).bind fun dJ=>(jJ 65).bind fun jD=>(iA [jD] false dJ.1 dJ.2).bind fun DW=>((bK<|M+1).eB t ((1:Nat):Int) p false DW dJ.2).bind fun lQ=>(jJ 66).bind fun vU=>(iA [vU] false lQ.1 lQ.2).bind fun zu=>((bK<|M+1).eB t ((2:Nat):Int) p false zu lQ.2).bind fun tZ=>some (tZ.1,tZ.2)).bind fun fM=>mQ (M+2) (bK<|M+2) false (toks,fM.1,fM.2))
   ((ix n.Kids ((0:Nat):Int)).bind fun e119=>(fO n ((0:Nat):Int) p).bind fun Cn=>((gF M').kJ e119 Cn (toks.length:Int) a false<|out.set (k3+1) ⟨(toks.length:Int),z⟩).bind fun oD=>(ix n.Kids ((1:Nat):Int)).bind fun e125=>(fO n ((1:Nat):Int) p).bind fun YJ=>((gF M').kJ e125 YJ (IntKind.wrap .i64<|oD.1+1) a false oD.2).bind fun yB=>(ix n.Kids ((2:Nat):Int)).bind fun YK=>(fO n ((2:Nat):Int) p).bind fun Dz=>((gF M').kJ YK Dz (IntKind.wrap .i64<|yB.1+1) a false yB.2).bind fun oF=>pF M' (gF M') a false (((k3+1:Nat):Int),oF.1,oF.2)):=by
  rw [hkx,r1,av,hs1,av];simp only [];rw [kU _ _ _ _ aU,av,hky,u1,av,hs2,av];simp only [];rw [kU _ _ _ _ aU,av,YU,xI,w1,av];rw [AY,av,hsp 0 ah,av,r3,av,QE,av,hsp 1 ah,av];simp only [];rw [wrap64 ah ah,show (tk1.length:Int)+1=((tk1++[s1]).length:Int) by rw [la];omega,u3,av,QD,av,hsp 2 ah,av];simp only [];rw [wrap64 ah ah,show (tk2.length:Int)+1=((tk2++[s2]).length:Int) by rw [lc];omega,w3,av];rw [show aL++sp1++sp2++sp3=aL++(sp1++sp2++sp3) by simp only [jP]];exact Ij (dW:=tk3) (sp:=sp1++sp2++sp3) (z:=z) ho hia (by simp only [fP] at r2' ⊢;omega) (by simp only [fP] at r2' ⊢;omega) ah ah
 clear hz hn hr hp hq hs hkx hky YU hsp hkp r1 r3 u1 u3 w1 w3;obtain ⟨nk,no,nx,ny,Ib⟩:=n;obtain ⟨tk,to,tx,ty,tks⟩:=t;have e1:tk=nk:=e1;subst e1;have hk:tk=14:=hk;subst hk;exact key
def ajg (a:List aD) (t:aC) (n:aD) (p:aF) (M M':Nat) (a3:Int) (R2:Unit) (hM:1000 < M) (hkl:t.kids.length<=400) (hnl:n.Kids.length=t.kids.length) (hp:posB p=true) (he:eF t.kind=true) (hlv:lv t.kind t.op≠0) (h12:t.kind≠12)
  (iV:((t.kind==9)||((t.kind==10)||(t.kind==15)))=false) (MO:∀ j,bP t.kind t.op t.kids.length j p=⟨1,false,false,false,false⟩):
  ∀ (ts:List aC) (j f f' s e:Nat) (toks:List aG) (aL out:List aR),t.kids.drop j=ts->KA a ts (n.Kids.drop j) s e->(∀ x,x∈ts->zL a x/\eF x.kind=true/\2001+8*aQ x<=M/\2001+8*aQ x<=M')->ts.length < f->ts.length < f'->j<=t.kids.length->out.length=a.length->e<=a.length->
   toks.length+32*aK ts+2<=900000->aL.length+aK ts<=900000->
   ∃ tk sp,zC (M+1) (bK<|M+1) false f (a3,t,p,(j:Int),toks,aL)=((jJ a3).bind fun oz=>(iA [oz] false tk<|aL++sp).bind fun yh=>some (yh,aL++sp))/\
    s+sp.length=e/\FI M' (gF M') a false f' (n.Kids,(toks.length:Int),(j:Int),out)=some ((tk.length:Int),Seg out s e sp)/\toks.length<=tk.length/\tk.length<=toks.length+32*(e - s)
 | [],j,f,f',s,e,toks,aL,out,hd,hka,hB,hf,hf',hj,ho,hea,ht,hs=>by
  obtain ⟨f,rfl⟩:∃ m,f=m+1:=⟨f - 1,by simp at hf;omega⟩
  obtain ⟨f',rfl⟩:∃ m,f'=m+1:=⟨f' - 1,by simp at hf';omega⟩
  simp only [KA] at hka;obtain ⟨_,rfl⟩:=hka;have hlt: ¬j < t.kids.length:=by
   intro h;rw [drop_cons h] at hd;cases hd
  have hlt2: ¬j < n.Kids.length:=ah;refine ⟨toks,[],?_,aA,?_,eU _,ah⟩
  .rw [zC];simp only [kG hlt,aJ,nQ]
  .rw [FI];simp only [kG hlt2,aJ];rw [aql]
 | x::ts,j,f,f',s,e,toks,aL,out,hd,hka,hB,hf,hf',hj,ho,hea,ht,hs=>by
  obtain ⟨f,rfl⟩:∃ m,f=m+1:=⟨f - 1,by simp at hf;omega⟩
  obtain ⟨f',rfl⟩:∃ m,f'=m+1:=⟨f' - 1,by simp at hf';omega⟩
  simp only [kY] at hf hf';simp only [KA] at hka;obtain ⟨k,ks',hks,h1,h2,iI,hkb⟩:=hka;rw [aK] at ht hs;have hsx:=kN x;obtain ⟨hx1,hx2,_⟩:=iI.part;obtain ⟨hb1,hb2,_⟩:=hkb.part;have hlt:j < t.kids.length:=by
   cases xX j t.kids.length with
   | inl h=>exact h
   | inr h=>rw [Gv h] at hd;cases hd
  have hlt2:j < n.Kids.length:=ah;rw [drop_cons hlt] at hd;injection hd with hd1 hd2;rw [drop_cons hlt2] at hks;injection hks with QE QD;have hxj:t.kids[j]?=some x:=by rw [fB hlt,hd1]
  have hkj:ix n.Kids (j:Int)=some (k:Int):=by rw [bX hlt2,QE]
  obtain ⟨hE,hxe,hxM,aBA⟩:=hB x aA;have hst:IntKind.wrap .i64 ((j:Int)+1)=((j+1:Nat):Int):=by rw [wrap64 ah ah];omega
  have rest:∀ QF:List aG,toks.length<=QF.length->QF.length<=toks.length+1->∃ tk sp,Mi (M+1) (bK<|M+1) false (zC (M+1) (bK<|M+1) false f) (a3,(j:Int),t,p,aL,QF)=((jJ a3).bind fun oz=>(iA [oz] false tk<|aL++sp).bind fun yh=>some (yh,aL++sp))/\
    s+sp.length=e/\UQ M' (gF M') a false (FI M' (gF M') a false f') (n.Kids,(j:Int),out,(QF.length:Int))=some ((tk.length:Int),Seg out s e sp)/\toks.length<=tk.length/\tk.length<=toks.length+32*(e - s):=fun QF g1 g2=>by
   have hki:=Em M t x j p QF aL hM hkl hxj hp he hlv (fun h=>absurd h h12);rw [iV,RY,aJ,MO] at hki;obtain ⟨tk1,sp1,r1,r2,r3,r4,r5⟩:=hE s k M M' ⟨1,false,false,false,false⟩ ⟨1,false,false,false,false⟩ QF aL out iI hxe (.inl rfl) rfl rfl ho ah ah hxM aBA;have hls:(aL++sp1).length=aL.length+sp1.length:=aA;obtain ⟨tk,sp,w1,w2,w3,w4,w5⟩:=ajg a t n p M M' a3 R2 hM hkl hnl hp he hlv h12 iV MO ts (j+1) f f' (k+1) e tk1 (aL++sp1) (Seg out s (k+1) sp1) hd2 (QD ▸ hkb) (fun y hy=>hB y<|by simp [hy]) ah ah ah (by rw [Vu r2 ah];exact ho) hea ah ah;rw [Zw r2 ah w2] at w3;refine ⟨tk,sp1++sp,?_,by rw [fP];omega,?_,ah,ah⟩
   .unfold Mi;simp only [hki,r1,av,hst];rw [w1,jP]
   .unfold UQ;simp only [hkj,qY,av,r3,hst];exact w3
  rw [zC,FI];simp only [iT hlt,iT hlt2,aS];by_cases hj0:j=0
  .have e0:decide ((j:Int) > 0)=false:=aU;simp only [e0,aJ];exact rest toks ah ah
  .have e0:decide ((j:Int) > 0)=true:=aU;obtain ⟨cm,hcm⟩:=xK 36;have hlc:(toks++[cm]).length=toks.length+1:=aA;simp only [e0,aS,hcm,av];rw [kU _ _ _ _ aU,av,wrap64 ah ah,show (toks.length:Int)+1=((toks++[cm]).length:Int) by rw [hlc];omega];exact rest (toks++[cm]) ah ah
def ajh {a:List aD} {t:aC} (hk:t.kind=5\/t.kind=7\/t.kind=8) (hkl:t.kids.length<=400) (hB:∀ x,x∈t.kids->zL a x/\eF x.kind=true):xJ a t:=by
 intro s i M M' p q toks aL out hT he hr hp hq ho ht hs hM hM';obtain ⟨M,rfl⟩:∃ m,M=m+3:=⟨M - 3,ah⟩
 obtain ⟨M',rfl⟩:∃ m,M'=m+2:=⟨M' - 2,ah⟩
 obtain ⟨n,hn,e1,e2,e3,e4,hka,hnl⟩:=hT.node;have hia:i < a.length:=(cO.1 hn).1;have hse:=wh t;have hlen:=zI t.kids;obtain ⟨hb1,hb2,_⟩:=hka.part;obtain ⟨z,hz⟩:=Ik a (M'+1) i q (toks.length:Int) out n hn ho;rw [hz];have hlv:lv t.kind t.op≠0:=by rcases hk with e|e|e<;>rw [e]<;>(show (15:Int)≠0;decide)
 have iV:((t.kind==9)||((t.kind==10)||(t.kind==15)))=false:=by rcases hk with e|e|e<;>rw [e]<;>rfl
 have MO:∀ j,bP t.kind t.op t.kids.length j p=⟨1,false,false,false,false⟩:=fun j=>by rcases hk with e|e|e<;>rw [e]<;>rfl
 have key:∀ (tk:aG) (o c:Int),Done 3 s i toks.length aL out
   ((iA [tk] false toks aL).bind fun iW=>((bK<|M+2).sS t o c p false iW aL).bind fun jD=>mQ (M+2) (bK<|M+2) false (toks,jD.1,jD.2))
   (((gF<|M'+1).Co n.Kids (IntKind.wrap .i64<|(toks.length:Int)+2) a false<|out.set i ⟨(toks.length:Int),z⟩).bind fun MF=>pF (M'+1) (gF<|M'+1) a false ((i:Int),(IntKind.wrap .i64<|MF.1+1),MF.2)):=fun tk o c=>by
  obtain ⟨so,hso⟩:=xK o;obtain ⟨sc,hsc⟩:=xK c;have la:(toks++[tk]++[so]).length=toks.length+2:=aA;obtain ⟨tk1,sp,r1,r2,r3,r4,r5⟩:=ajg a t n p M M' c () ah hkl hnl.symm hp he hlv (by rcases hk with e|e|e<;>omega) iV MO t.kids 0 (M+1) M' s i (toks++[tk]++[so]) aL (out.set i ⟨(toks.length:Int),z⟩) rfl (by simpa using hka)
   (fun x hx=>⟨(hB x hx).1,(hB x hx).2,by have:=Cr hx;omega,by have:=Cr hx;omega⟩) ah ah ah (by simp [ho]) ah ah ah
  have hL:(bK<|M+2).sS t o c p false (toks++[tk]) aL=some (tk1++[sc],aL++sp):=by
   show Jz (M+1) (bK<|M+1) t o c p false (toks++[tk]) aL=_;unfold Jz;rw [hso,av,kU _ _ _ _ aU,av];refine KP r1 ?_;rw [hsc,av,kU _ _ _ _ aU,av]
  have hS:(gF<|M'+1).Co n.Kids (((toks++[tk]++[so]).length:Nat):Int) a false (out.set i ⟨(toks.length:Int),z⟩)=some ((tk1.length:Int),Seg (out.set i ⟨(toks.length:Int),z⟩) s i sp):=r3;have lc:(tk1++[sc]).length=tk1.length+1:=aA;rw [kU _ _ _ _ aU,av,hL,av,wrap64 ah ah,show (toks.length:Int)+2=((toks++[tk]++[so]).length:Int) by rw [la];omega,hS,av];simp only [];rw [wrap64 ah ah,show (tk1.length:Int)+1=((tk1++[sc]).length:Int) by rw [lc];omega];exact Ij (dW:=tk1++[sc]) (sp:=sp) (z:=z) ho hia r2 ah ah ah
 clear hz hn hr hp hq hs MO;obtain ⟨nk,no,nx,ny,Ib⟩:=n;obtain ⟨tk,to,tx,ty,tks⟩:=t;have e1:tk=nk:=e1;subst e1;rcases hk with e|e|e<;>(have e:tk=_:=e;subst e)
 .exact key ⟨6,tx,0⟩ 34 35
 .exact key ⟨7,tx,0⟩ 32 33
 .exact key ⟨8,tx,0⟩ 32 33
def aBB {a:List aD} {t:aC} (hk:t.kind=13) (h1k:1 < t.kids.length) (hkl:t.kids.length<=400) (hB:∀ x,x∈t.kids->zL a x/\eF x.kind=true):xJ a t:=by
 intro s i M M' p q toks aL out hT he hr hp hq ho ht hs hM hM';obtain ⟨M,rfl⟩:∃ m,M=m+4:=⟨M - 4,ah⟩
 obtain ⟨M',rfl⟩:∃ m,M'=m+2:=⟨M' - 2,ah⟩
 obtain ⟨n,hn,e1,e2,e3,e4,hka,hnl⟩:=hT.node;have hia:i < a.length:=(cO.1 hn).1;have hse:=wh t;have hlen:=zI t.kids;obtain ⟨hb1,hb2,_⟩:=hka.part;obtain ⟨z,hz⟩:=Ik a (M'+1) i q (toks.length:Int) out n hn ho;rw [hz];have hlv:lv t.kind t.op≠0:=by rw [hk];show (5:Int)≠0;decide
 have iV:((t.kind==9)||((t.kind==10)||(t.kind==15)))=false:=by rw [hk];rfl
 have MO:∀ j,bP t.kind t.op t.kids.length j p=⟨1,false,false,false,false⟩:=fun j=>by
  have:decide (t.kids.length > 1)=true:=by simpa using h1k
  rw [hk];unfold bP;rw [this];rfl
 obtain ⟨sg,hsg⟩:=xK 24;obtain ⟨so,hso⟩:=xK 32;obtain ⟨sc,hsc⟩:=xK 33;have la:(toks++[so]).length=toks.length+1:=aA;obtain ⟨tk1,sp,r1,r2,r3,r4,r5⟩:=ajg a t n p M M' 33 () ah hkl hnl.symm hp he hlv ah iV MO t.kids 0 (M+1) M' s i (toks++[so]) aL (out.set i ⟨(toks.length:Int),z⟩) rfl (by simpa using hka)
  (fun x hx=>⟨(hB x hx).1,(hB x hx).2,by have:=Cr hx;omega,by have:=Cr hx;omega⟩) ah ah ah (by simp [ho]) ah ah ah
 have hL:(bK<|M+2).sS t 32 33 p false toks aL=some (tk1++[sc],aL++sp):=by
  show Jz (M+1) (bK<|M+1) t 32 33 p false toks aL=_;unfold Jz;rw [hso,av,kU _ _ _ _ aU,av];refine KP r1 ?_;rw [hsc,av,kU _ _ _ _ aU,av]
 have hS:(gF<|M'+1).Co n.Kids (((toks++[so]).length:Nat):Int) a false (out.set i ⟨(toks.length:Int),z⟩)=some ((tk1.length:Int),Seg (out.set i ⟨(toks.length:Int),z⟩) s i sp):=r3;have lc:∀ x,(tk1++[sc]++[sg,x]).length=tk1.length+3:=fun x=>by simp
 have hc1:decide ((t.kids.length:Int) > 1)=true:=aU;have hc2:decide ((n.Kids.length:Int) > 1)=true:=aU;have key:Done 3 s i toks.length aL out
   ((bif decide ((t.kids.length:Int) > 1) then ((bK<|M+2).sS t 32 33 p false toks aL).bind fun oZ=>zB (M+2) (bK<|M+2) false (t,oZ.1,oZ.2) else (((bK<|M+2).eB t ((0:Nat):Int) p false toks aL).bind fun dZ=>zB (M+2) (bK<|M+2) false (t,dZ.1,dZ.2))).bind fun fM=>mQ (M+3) (bK<|M+3) false (toks,fM.1,fM.2))
   (bif decide ((n.Kids.length:Int) > 1) then ((gF<|M'+1).Co n.Kids (IntKind.wrap .i64<|(toks.length:Int)+1) a false<|out.set i ⟨(toks.length:Int),z⟩).bind fun vZ=>pF (M'+1) (gF<|M'+1) a false ((i:Int),(IntKind.wrap .i64<|vZ.1+3),vZ.2) else ((ix n.Kids ((0:Nat):Int)).bind fun Qq=>(fO n ((0:Nat):Int) q).bind fun sJ=>((gF<|M'+1).kJ Qq sJ (toks.length:Int) a false<|out.set i ⟨(toks.length:Int),z⟩).bind fun oz=>pF (M'+1) (gF<|M'+1) a false ((i:Int),(IntKind.wrap .i64<|oz.1+2),oz.2))):=by
  rw [hc1,hc2,aS,aS,hL,av,wrap64 ah ah,show (toks.length:Int)+1=((toks++[so]).length:Int) by rw [la];omega,hS,av];unfold zB;simp only [hsg,av];rw [kU _ _ _ _ aU,av,av];simp only [];rw [wrap64 ah ah,show (tk1.length:Int)+3=((tk1++[sc]++[sg,(⟨6,t.text,0⟩:aG)]).length:Int) by rw [lc];omega];exact Ij (dW:=tk1++[sc]++[sg,⟨6,t.text,0⟩]) (sp:=sp) (z:=z) ho hia r2 ah (by rw [lc];omega) (by rw [lc];omega)
 clear hz hn hr hp hq hs MO hL hS hc1 hc2 r1 r3;obtain ⟨nk,no,nx,ny,Ib⟩:=n;obtain ⟨tk,to,tx,ty,tks⟩:=t;have e1:tk=nk:=e1;subst e1;have hk:tk=13:=hk;subst hk;exact key
def big (N0:Nat) (a:List aD) (hN0:500 < N0) (hsh:qd a=true) (hok:tN N0 a=some true):∀ t:aC,(∃ s i,TA a t s i)->eF t.kind=true->xJ a t:=by
 refine yC fun t ih=>?_;rintro ⟨s,i,hT⟩ he;obtain ⟨n,hn,e1,e2,e3,e4,hka,hnl⟩:=hT.node;have hmem:n∈a:=mH hn;obtain ⟨hf,hkd⟩:=aji N0 a hN0 hsh hok n hmem;have hkl:t.kids.length<=400:=by rw [hnl];exact (Vr hsh n hmem).1
 have hen:eF n.Kind=true:=by rw [<- e1];exact he
 obtain ⟨har,hlv⟩:=aqw N0 n hf hen;have kid:∀ (j:Nat) (x:aC),t.kids[j]?=some x->xJ a x/\zL a x/\eF x.kind=true/\((n.Kind=9\/n.Kind=10\/(n.Kind=15/\j=0))->jE x.kind=true):=fun j x hx=>by
  obtain ⟨k,s',hk,hTx,_⟩:=hka.get j x hx;obtain ⟨hj,hk⟩:=cO.1 hk;obtain ⟨y,hy,hy2⟩:=hkd j hj;obtain ⟨m,hm,m1,_,_,_,_,hml⟩:=hTx.node;rw [hk,wI hm] at hy;have hy:=mJ hy;subst hy;obtain ⟨h1,h2⟩:=aqx n j m.Kind hy2 hen;rw [<- m1] at h1 h2;have hb:=ih x (mH hx) ⟨s',k,hTx⟩ h1;have hxl:x.kids.length<=400:=by rw [hml];exact (Vr hsh m<|mH hm).1
  exact ⟨hb,aqn hb hxl<|kN x,h1,h2⟩
 have mem:∀ x,x∈t.kids->zL a x/\eF x.kind=true:=fun x hx=>by
  obtain ⟨j,hj⟩:=EF hx;obtain ⟨_,h1,h2,_⟩:=kid j x hj;exact ⟨h1,h2⟩
 rw [<- e1,<- e2] at hlv;have FQ:t.kind=15->t.op≠99:=fun e=>by rw [e2];exact aqy N0 n hf (by rw [<- e1];exact e)
 unfold Ar at har;rw [<- e1,<- hnl] at har;obtain ⟨a0,a1,a6,a12,a14⟩:=har;rw [<- e1] at kid;have one:t.kids.length=1->∃ x,t.kids=[x]/\xJ a x/\zL a x/\eF x.kind=true/\((t.kind=9\/t.kind=10\/(t.kind=15/\(0:Nat)=0))->jE x.kind=true):=fun h=>by
  obtain ⟨x,hx⟩:=Gw.1 h;exact ⟨x,hx,kid 0 x<|by rw [hx];rfl⟩
 have two:t.kids.length=2->∃ x y,t.kids=[x,y]:=fun h=>by
  match hk:t.kids,h with
  | [x,y],_=>exact ⟨x,y,rfl⟩
 have three:t.kids.length=3->∃ x y w,t.kids=[x,y,w]:=fun h=>by
  match hk:t.kids,h with
  | [x,y,w],_=>exact ⟨x,y,w,rfl⟩
 rcases kinds he with e|e|e|e|e|e|e|e|e|e|e|e|e|e|e
 .exact adY (.inl e) (NG<|a0<|.inl e)
 .exact adY (.inr<|.inl e) (NG<|a0<|.inr<|.inl e)
 .exact adY (.inr<|.inr<|.inl e) (NG<|a0<|.inr<|.inr<|.inl e)
 .exact adY (.inr<|.inr<|.inr e) (NG<|a0<|.inr<|.inr<|.inr e)
 .exact ajh (.inl e) hkl mem
 .obtain ⟨x,hx,_,h2,h3,_⟩:=one (a6<|.inl e);exact aqr (.inl e) hx h2 h3 hlv
 .exact ajh (.inr<|.inl e) hkl mem
 .exact ajh (.inr<|.inr e) hkl mem
 .obtain ⟨x,hx,h1,_,_,h4⟩:=one (a6<|.inr<|.inl e);exact aBp e hx h1 (h4<|.inl e)
 .obtain ⟨x,hx,h1,_,_,h4⟩:=one (a6<|.inr<|.inr<|.inl e);exact aBq e hx h1 (h4<|.inr<|.inl e)
 .obtain ⟨x,hx,_,h2,h3,_⟩:=one (a6<|.inr<|.inr<|.inr e);exact aqr (.inr e) hx h2 h3 hlv
 .obtain ⟨x,y,hx⟩:=two (a12<|.inl e);obtain ⟨_,x2,x3,_⟩:=kid 0 x (by rw [hx];rfl);obtain ⟨_,y2,y3,_⟩:=kid 1 y (by rw [hx];rfl);exact aBr e hx x2 y2 x3 y3 hlv
 .by_cases h1k:1 < t.kids.length
  .exact aBB e h1k hkl mem
  .obtain ⟨x,hx,_,h2,h3,_⟩:=one (by have:=a1 (.inr e);omega);exact aBv e hx h2 h3
 .obtain ⟨x,y,w,hx⟩:=three (a14 e);obtain ⟨_,x2,x3,_⟩:=kid 0 x (by rw [hx];rfl);obtain ⟨_,y2,y3,_⟩:=kid 1 y (by rw [hx];rfl);obtain ⟨_,w2,w3,_⟩:=kid 2 w (by rw [hx];rfl);exact aBw e hx x2 y2 w2 x3 y3 w3
 .obtain ⟨x,y,hx⟩:=two (a12<|.inr e);obtain ⟨x1,_,_,x4⟩:=kid 0 x (by rw [hx];rfl);obtain ⟨_,y2,y3,_⟩:=kid 1 y (by rw [hx];rfl);exact aBs e hx (FQ e) x1 (x4<|.inr<|.inr ⟨e,rfl⟩) y2 y3
def VP (N:Nat) (a:List aD) (hN:1048577+400 < N) (hs:∀ x,x∈a->mW x):∃ b:Bool,Fp N a=some b/\Yg N a=some b/\(b=true->qd a=true/\∀ t,TA a t 0 (a.length - 1)->eF t.kind=true):=by
 obtain ⟨b,b1,b2,b3⟩:=aBC N a hN hs;unfold Fp Yg;rw [b1,b2];simp only [av];cases b with
 | false=>exact ⟨false,rfl,rfl,fun h=>by cases h⟩
 | true=>
  obtain ⟨h1,h2⟩:=b3 rfl;obtain ⟨l1,l2,_⟩:=Bw h1;have hlt:a.length - 1 < a.length:=ah;have hx:=bX hlt;rw [wrap64 ah ah,show (a.length:Int) - 1=((a.length - 1:Nat):Int) by omega,hx];simp only [aS,av,Cw,JL];refine ⟨_,rfl,rfl,fun h=>⟨h1,fun t ht=>?_⟩⟩;obtain ⟨n,hn,e1,_⟩:=ht.node;rw [fB hlt] at hn;cases hn;rw [e1];exact h
def aly (N:Nat) (a:List aD) (p:aF) (hN:1048577+10000 < N) (hs:∀ z,z∈a->mW z):
  ∃ r,Nt N a p=some r/\xV N a p=some r/\r.length<=1048576:=by
 obtain ⟨b,b1,b2,b3⟩:=VP N a ah hs;have hok:b=true->tN N a=some true:=fun hb=>by
  subst hb;unfold Fp at b1;obtain ⟨y,hy,h⟩:=bind_some b1;obtain ⟨c,hc,h⟩:=bind_some hy;cases c with
  | true=>exact hc
  | false=>cases h;cases ‹some false=some true›
 unfold Nt xV KC;rw [b1,b2,EC,ND];simp only [av];cases b with
 | false=>exact ⟨[],rfl,rfl,aA⟩
 | true=>
  cases hp:posB p with
  | false=>exact ⟨[],rfl,rfl,aA⟩
  | true=>
   obtain ⟨hsh,hE⟩:=b3 rfl;obtain ⟨l1,l2,_,_,_,_,_,t,ht⟩:=Bw hsh;have hsz:aQ t<=400:=by have:=ht.part.2.1;omega
   have hkl:t.kids.length<=400:=by have:=wh t;have:=zI t.kids;omega
   have hBE:=aqn (big N a ah hsh (hok rfl) t ⟨0,a.length - 1,ht⟩<|hE t ht) hkl (kN t);obtain ⟨toks,sp,r1,r2,r3,_,_⟩:=hBE 0 (a.length - 1) N N p p [] [] (List.replicate a.length (⟨0,0⟩:aR)) ht (hE t ht) (.inl rfl) hp hp aA (by simp only [wQ];omega) (by simp only [wQ];omega) ah ah;have r1':xW N t p false [] []=some (toks,[]++sp):=r1;have r3':kJ N ((a.length - 1:Nat):Int) p 0 a false (List.replicate a.length (⟨0,0⟩:aR))=some ((toks.length:Int),Seg (List.replicate a.length (⟨0,0⟩:aR)) 0 (a.length - 1+1) sp):=r3;have hseg:Seg (List.replicate a.length (⟨0,0⟩:aR)) 0 (a.length - 1+1) sp=sp:=by
    unfold Seg;rw [List.take_zero,Ai,Gv aU,nQ]
   simp only [kQ,aJ,aaI N a ah ht l1 l2,av,r1',Ai];rw [anv ah (by simp only [maxLen];omega),av,wrap64 ah ah,show (a.length:Int) - 1=((a.length - 1:Nat):Int) by omega,r3',av];simp only [hseg];exact ⟨sp,rfl,rfl,ah⟩
def alo (x:List UInt8):acn x=some (decide<|(x.length:Int) > 1048576):=rfl
def aeL {l:List aG} {a:Nat} {x:List aG} (h:Sg l a x) (hl:a+x.length<=l.length):cut l (a:Int) ((a+x.length:Nat):Int)=some x:=by
 rw [aaF ah hl];obtain ⟨r,hr⟩:=h;rw [hr,show a+x.length - a=x.length by omega,List.take_left' rfl]
def Iz (sp:List aR) (k:Int) (b:Int):Prop:=b= -1\/∃ (j:Nat) (s:aR),b=(j:Int)/\sp[j]?=some s/\s.From<=k/\k < s.To
def Ns (s:aR):Prop:=0<=s.From/\s.From < s.To/\s.To<=100000
def aeM (N N':Nat) (sp:List aR) (hsp:sp.length<=400) (hs:∀ s,s∈sp->Ns s) (k:Int) (hk: -10<=k/\k<=1000000):∀ (n n' i:Nat) (b least:Int),sp.length - i < n->sp.length - i < n'->i<=sp.length->Iz sp k b->(∀ (j:Nat) (s:aR),b=(j:Int)->sp[j]?=some s->least=s.To - s.From)->
  ∃ r,wH N n (k,sp,b,least,(i:Int))=some r/\yY N' n' (k,sp,b,(i:Int))=some r/\Iz sp k r:=by
 intro n;induction n with
 | zero=>intro n' i b least h;omega
 | succ n ih=>
  intro n' i b least hn hn' hi hb hl;cases n' with
  | zero=>omega
  | succ n'=>
   rw [wH,yY];by_cases hlt:i < sp.length
   .have hx:ix sp (i:Int)=some sp[i]:=bX hlt;obtain ⟨f0,f1,f2⟩:=hs _ (ou hlt);have hget:sp[i]?=some sp[i]:=fB hlt;have hw:IntKind.wrap .i64 ((i:Int)+1)=((i+1:Nat):Int):=by rw [wrap64 ah ah];omega
    have hlen:IntKind.wrap .i64 (sp[i].To - sp[i].From)=sp[i].To - sp[i].From:=wrap64 ah ah;have keep:∃ r,CV N (wH N n) (k,sp,(i:Int),b,least)=some r/\CW N' (yY N' n') (k,(i:Int),sp,b)=some r/\Iz sp k r:=by
     unfold CV CW;dsimp only;rw [hw];exact ih n' (i+1) b least ah ah ah hb hl
    have take:sp[i].From<=k->k < sp[i].To->∃ r,CV N (wH N n) (k,sp,(i:Int),(i:Int),IntKind.wrap .i64<|sp[i].To - sp[i].From)=some r/\CW N' (yY N' n') (k,(i:Int),sp,(i:Int))=some r/\Iz sp k r:=fun g1 g2=>by
     unfold CV CW;dsimp only;rw [hw,hlen];refine ih n' (i+1) (i:Int) _ ah ah ah (.inr ⟨i,_,rfl,hget,g1,g2⟩) fun j s hj hs=>?_;have:i=j:=ah;subst this;rw [hget] at hs;cases hs;rfl
    have hw1:IntKind.wrap .i64 (sp[i].To - 1)=sp[i].To - 1:=wrap64 ah ah;simp only [iT hlt,aS,hx,av,Gn,hw1];by_cases g1:sp[i].From<=k
    .by_cases g2:k < sp[i].To
     .have e1:(decide (k>=sp[i].From)&&decide (k<=sp[i].To - 1))=true:=aU;rw [e1,kP g1,kP g2];simp only [aS];rcases hb with hb|⟨j,s,hj,hsj,_,_⟩
      .rw [kP<|show b < 0 by omega];simp only [aS,av];exact take g1 g2
      .have hs':=hs s (mH hsj);unfold Ns at hs';have hlj:=hl j s hj hsj;have hjx:ix sp b=some s:=by rw [hj];exact wI hsj
       rw [pQ<|show¬b < 0 by omega];simp only [aJ,hjx,av,hlen];rw [wrap64 (n:=s.To - s.From) ah ah,hlj];cases decide (sp[i].To - sp[i].From < s.To - s.From) with
       | true=>
        simp only [aS];have:=take g1 g2;rw [hlen] at this;exact this
       | false=>
        simp only [aJ];rw [<- hlj];exact keep
     .have e1:(decide (k>=sp[i].From)&&decide (k<=sp[i].To - 1))=false:=aU;rw [e1,kP g1,pQ g2];simp only [aS,aJ,av];exact keep
    .have e1:(decide (k>=sp[i].From)&&decide (k<=sp[i].To - 1))=false:=aU;rw [e1,pQ g1];simp only [aJ,av];exact keep
   .simp only [kG hlt,aJ];exact ⟨b,rfl,rfl,hb⟩
def aeO (N:Nat) (hN:2000000<=N) (L:List aD) (t:aC) (R:RG N L t) (hS:∀ x,x∈L->mW x) (p:aF) (k:Int) (hk: -10<=k/\k<=1000000) (sp:List aR) (hsp:wL (EA false<|dh false t p) sp (iZ t)) (hsm:∀ s,s∈sp->Ns s)
  (hi1:xV N L p=some sp) (hs1:Nt N L p=some sp):∀ (n i:Nat),sp.length - i < n->i<=sp.length->EB N n ((L,p,k),dh false t p,sp,(i:Int))=some true:=by
 have hnd:=RH t;have hlen:=hsp.len;have hsz:=R.sz;have VN:L.length=aQ t:=by rw [R.eq,rV]
 have htl:=Kw false t p;intro n;induction n with
 | zero=>intro i h;omega
 | succ n ih=>
  intro i hn hi;rw [EB];by_cases hlt:i < sp.length
  .have hx:ix sp (i:Int)=some sp[i]:=bX hlt;have hu:(iZ t)[i]?=some ((iZ t)[i]' ah):=fB ah;obtain ⟨a,q,q1,q2,q3,q4⟩:=hsp.get i _ _ (fB hlt) hu;have hmem:(iZ t)[i]' ah∈iZ t:=ou _;generalize hgu:(iZ t)[i]' ah=u at hu q2 q3 q4 hmem;have hdz:=alj t u hmem;have Nu:=Ky t R.g u hmem;have Nv:=Ky t R.c u hmem;obtain ⟨s',Nw⟩:=alk L t 0 _ R.ta i u hu;rw [rZ] at Nw;have hxu:Gp u:=aeP hS Nw;have hpos:0 < (bT false u q).length:=by
    have d:=VO false u Nu (RI (fun _ h=>h.1) u Nv) (bT false u q) q 0 q1 (Sg.all _);have:=d.lt;omega
   simp only [iT hlt,aS,hx,av,q4];rw [pQ (show¬(a:Int) < 0 by omega),pQ (show¬((a+(bT false u q).length:Nat):Int) > ((dh false t p).length:Int) by omega),pQ<|show¬(a:Int)>=((a+(bT false u q).length:Nat):Int) by omega];simp only [aJ,av,aeL q2 q3];have hnext:EB N n ((L,p,k),dh false t p,sp,IntKind.wrap .i64<|(i:Int)+1)=some true:=by
    rw [wrap64 ah ah,show (i:Int)+1=((i+1:Nat):Int) by omega];exact ih (i+1) ah ah
   have htop:qY=some dB:=rfl;rw [htop,av];by_cases fH:(dh false t p).length < 120
   .have hP:=aaG N hN u Nu Nv q q1 ah (by have:=R.dep;omega) hxu ah;rw [hP,av,kP (show ((dh false t p).length:Int) < 120 by omega),aS];simp only [bne_self_eq_false,aJ];have hw:IntKind.wrap .i64 (((a+(bT false u q).length:Nat):Int) - (a:Int))=((bT false u q).length:Int):=by rw [wrap64 ah ah];omega
    rw [hw];have hpart:Ny N L (i:Int)=some (bf 0 u):=by
     have hsh:IB N L=some true:=by
      have:=R.ok;unfold tN at this;obtain ⟨y,h1,_⟩:=qH.1 this;obtain ⟨r,h2,h3⟩:=qH.1 h1;cases r with
      | true=>exact h2
      | false=>
       simp only [ru,aS] at h3;cases h3;have aeQ:some false=some true:=by
        have e:=this;rw [h1] at e;exact e
       cases aeQ
     unfold Ny;rw [hsh,Ad,wrap64 ah ah];have:(decide ((i:Int)>=0)&&decide ((i:Int)<=(L.length:Int) - 1))=true:=aU;simp only [av,kQ,aJ,this];rw [alm N L ah hS R.sh Nw,av]
    have hsame:Nz N (bf 0 u) (bf 0 u)=some true:=aln N (bf 0 u) ah (by rw [rV];omega) (aeR ah hxu 0);simp only [bne_self_eq_false,aJ,hpart,hsame,av,kQ];exact hnext
   .have hP:∃ r,Gq N (bT false u q) dB=some r:=by
     by_cases h3:(bT false u q).length<=3000
     .exact ⟨_,aaG N hN u Nu Nv q q1 ah (by have:=R.dep;omega) hxu h3⟩
     .unfold Gq Kz;rw [EC,show posB dB=true from rfl,kP<|show ((bT false u q).length:Int) > 3000 by omega];exact ⟨_,rfl⟩
    obtain ⟨r,hP⟩:=hP;rw [hP,av,pQ (show¬((dh false t p).length:Int) < 120 by omega),aJ,av,aJ];exact hnext
  .simp only [kG hlt,aJ];obtain ⟨r,r1,r2,r3⟩:=aeM N N sp ah hsm k hk N N 0 (-1) 0 ah ah ah (.inl rfl) (fun j s hj _=>ah);have e1:Ae N L p k=some r:=by unfold Ae;rw [hi1,av];exact r1
   have e2:NA N L p k=some r:=by unfold NA;rw [hs1,av];exact r2
   rw [e1,e2];simp only [av,afp,aS];rcases r3 with rfl|⟨j,s,rfl,hs,g1,g2⟩
   .rfl
   .rw [pQ (show¬(j:Int) < 0 by omega),wI hs];simp only [aJ,av,kP g1,aS,kP g2]
def plain (b:List UInt8) (kb:(∀ z,z∈b->True)/\b.length<=maxLen):∃ N,RJ N b=some true:=by
 refine ⟨18446744073709551657+3000000,?_⟩;obtain ⟨N,hN⟩:∃ N,N=18446744073709551657+3000000:=⟨_,rfl⟩
 rw [<- hN];unfold RJ;rw [alo,av];by_cases hb:b.length<=1048576
 .have hd:decide ((b.length:Int) > 1048576)=false:=aU;rw [hd,aJ];obtain ⟨h,e1⟩:=alp b hb N ah;obtain ⟨L,i1,h1,e2,hL,a0,a1⟩:=alq b hb N ah 0 h ah ah;obtain ⟨p,i2,h2,e3,_,b0,b1⟩:=alr b hb i1 h1 a0 a1;have hS:=als hL.1;obtain ⟨c,c1,c2⟩:=alu N L ah hS;have aeS:∃ l:List aG,CX N L p=some l/\l.length<=100000/\(c=true->posB p=true->∃ t,RG N L t/\l=dh false t p):=by
   cases c with
   | false=>exact ⟨[],by unfold CX;rw [c1];rfl,aA,fun h=>by cases h⟩
   | true=>
    obtain ⟨g1,g2,g3⟩:=c2 rfl;obtain ⟨t,R⟩:=alv N L ah hS g1 g2 g3;cases hp:posB p with
    | false=>exact ⟨[],by unfold CX;rw [c1,EC,hp];rfl,aA,fun _ h=>by cases h⟩
    | true=>
     have:=Kw false t p;have:=R.sz;exact ⟨_,alx N L t ah R c1 p hp,ah,fun _ _=>⟨t,R,rfl⟩⟩
  obtain ⟨l,l1,l2,l3⟩:=aeS;obtain ⟨r,i3,h3,e4,hr,_,_⟩:=Af b hb ((l.length:Int)+3) i2 h2 b0 b1;have aaH:NC N b=some (L,p,r - 1):=by
   unfold NC;rw [e1,av];dsimp only;rw [e2,av];dsimp only;rw [e3,av];dsimp only;rw [l1,av,wrap64 ah ah,e4,av];dsimp only;rw [wrap64 ah ah]
  obtain ⟨sp,s1,s2,s3⟩:=aly N L p ah hS;rw [aaH,av];dsimp only;rw [s2,av,l1,av,c1,EC];simp only [av];have no:(c=false\/posB p=false)->xV N L p=some []:=fun hh=>by
   obtain ⟨c',d1,d2,d3⟩:=VP N L ah hS;rw [c1] at d1;cases d1;unfold xV KC;rw [d2,ND];rcases hh with rfl|hp
   .rfl
   .rw [hp];cases c<;>rfl
  have nothing:(c=false\/posB p=false)->(((bif ((sp.length:Int)==0) then (Ae N L p<|r - 1).bind fun dA=>some (dA==(-1)) else (some false)).bind fun y25=>some y25).bind fun x=>some x)=some true:=fun hh=>by
   have:=no hh;rw [s2] at this;cases this;have e:Ae N L p (r - 1)=some (-1):=by
    unfold Ae;rw [s2,av];obtain ⟨m,rfl⟩:∃ m,N=m+1:=⟨N - 1,ah⟩
    rw [wH];rfl
   rw [e];rfl
  have VQ:∀ x:Option Bool,(Option.bind x fun y=>some y)=x:=fun x=>by cases x<;>rfl
  cases c with
  | false=>
   have:=nothing (.inl rfl);rw [VQ] at this;exact this
  | true=>
   simp only [kQ,aJ,av];cases hp:posB p with
   | false=>
    have:=nothing (.inr hp);rw [VQ] at this;exact this
   | true=>
    obtain ⟨t,R,rfl⟩:=l3 rfl hp;simp only [kQ,aJ];have VN:L.length=aQ t:=by rw [R.eq,rV]
    have hsz:=R.sz;have hpz:=kN t;have aeT:=aeU (wM R.g) (imB false t R.g) N p [] [] hp ah aU aU;obtain ⟨CY,w1,w2,sp',w3,w4⟩:=aeT;have hsp:xV N L p=some CY:=by
     obtain ⟨c',d1,d2,d3⟩:=VP N L ah hS;rw [c1] at d1;cases d1;obtain ⟨q1,q2,_⟩:=Bw R.sh;unfold xV KC;rw [d2,ND,hp,aaI N L ah R.ta q1 q2];have w1':xW N t p false [] []=some ([]++dh false t p,CY):=w1;simp only [av,kQ,aJ,w1']
    rw [s2] at hsp;cases hsp;rw [Ai] at w3;subst w3;have w4:wL (EA false<|dh false t p) sp (iZ t):=w4;have hlen:sp.length=L.length:=by rw [w4.len,RH,VN]
    have hne:((sp.length:Int) !=(L.length:Int))=false:=by rw [hlen];simp
    rw [hne,aJ];have htl:=Kw false t p;refine aeO N ah L t R hS p (r - 1) ah sp w4 (fun s hs=>?_) s2 s1 N 0 ah ah;obtain ⟨j,hj⟩:=EF hs;have hjl:=(cO.1 hj).1;have hu:(iZ t)[j]?=some ((iZ t)[j]'(by rw [<- w4.len];exact hjl)):=fB _;obtain ⟨a,q,q1,q2,q3,q4⟩:=w4.get j _ _ hj hu;have hmem:(iZ t)[j]'(by rw [<- w4.len];exact hjl)∈iZ t:=ou _;have d:=VO false _ (Ky t R.g _ hmem) (RI (fun _ h=>h.1) _<|Ky t R.c _ hmem) _ q 0 q1 (Sg.all _);have:=d.lt;rw [q4];refine ⟨?_,?_,?_⟩
    .show (0:Int)<=(a:Int);omega
    .show (a:Int) < ((a+_:Nat):Int);omega
    .show ((a+_:Nat):Int)<=100000;omega
 .have hd:decide ((b.length:Int) > 1048576)=true:=aU;rw [hd];rfl
end Go.Proofs.Tryz
