/-
 Plain lemmas on the models, part 14.
-/
import Derived.Test.YtpehbmgfhfpgbaaGreatDoorOnGP13
namespace Go.Proofs.Tryz
open Go.Av
set_option maxRecDepth 100000
set_option linter.all false
def Td (d:Nat):Pg av:=(gu d).bind fun t=>.ret ⟨20,0,[],[],[t]⟩
def Te (d:Nat) (r:Int) (y:Bool):Pg av:=bif y then (kQ 2).bind fun q=>(Ah q 3<|gu d).bind fun ts=>(Bh 3).bind fun o=>bif o then (uq [[62],[62,62],[124]]).bind fun x=>(gu<|d - 1).bind fun t=>.ret ⟨21,q,[],x,ts++[t]⟩ else .ret ⟨21,q,[],[],ts⟩
 else bif r==2 then (Cv [22,25,26]).bind fun k=>.ret ⟨k,0,[],[],[]⟩ else bif r==3 then (Cv [23,24]).bind fun k=>(Ah 0 1<|gu d).bind fun ts=>.ret ⟨k,0,[],[],ts⟩ else bif r==4 then FQ.bind fun x=>(Ah 0 2<|gu<|d - 1).bind fun ts=>.ret ⟨27,0,x,[],ts⟩
 else bif r==5 then (Bh 2).bind fun o=>bif o then (uq [[35],[35,32,110,111,116,101],[35,120,32,61,32,49]]).bind fun x=>.ret ⟨34,0,x,[],[]⟩ else Td d else Td d
def Tf (d:Nat):Pg av:=(kQ 9).bind fun r=>bif r==0 then Te d r (r==0) else Te d r (r==1)
def Lb (d:Nat):Pg av:=(Bh 3).bind fun o=>bif o then .ret ⟨16,0,[],[],[]⟩ else gu d
def sW (s:Pg av):Pg av:=(kQ 3).bind fun r=>(pY s r.toNat).bind fun ts=>.ret ⟨33,0,[],[],ts⟩
def XD (bl:Pg av):Pg av:=(kQ 6).bind fun r=>bif r==0 then (gu 1).bind fun t=>bl.bind fun u=>.ret ⟨28,0,[],[],[t,u]⟩ else bif r==1 then (gu 1).bind fun t=>bl.bind fun u=>bl.bind fun v=>.ret ⟨28,0,[],[],[t,u,v]⟩ else bif r==2 then (gu 1).bind fun t=>bl.bind fun u=>.ret ⟨29,0,[],[],[t,u]⟩ else bif r==3 then bl.bind fun u=>(gu 1).bind fun t=>.ret ⟨30,0,[],[],[u,t]⟩
 else bif r==4 then (Lb 2).bind fun t=>(Lb 1).bind fun u=>(Lb 1).bind fun v=>bl.bind fun w=>.ret ⟨31,0,[],[],[t,u,v,w]⟩ else (Bh 2).bind fun o=>bif o then bl else FQ.bind fun x=>FQ.bind fun y=>bl.bind fun u=>.ret ⟨32,0,x,y,[u]⟩
def nG:Nat->Pg av
 | 0=>Tf 0
 | d+1=>((Bh 3).bind fun o=>.ret<|!o).bind fun y=>bif y then Tf (min (d+1) 2) else XD (sW<|nG d)
def vK:Pg av:=(kQ 2).bind fun a=>(kQ 8).bind fun r=>bif r==0 then (kQ 2).bind fun q=>(sW<|nG (1+a).toNat).bind fun u=>.ret ⟨40+q,0,[],[],[u]⟩ else bif r==1 then (gu (1+a).toNat).bind fun t=>.ret ⟨42,1,[],[],[t]⟩ else bif r==2 then (sW<|nG (1+a).toNat).bind fun u=>.ret ⟨42,2,[],[],[u]⟩ else bif r==3 then (gu 1).bind fun t=>(gu 1).bind fun u=>.ret ⟨43,1,[],[],[t,u]⟩
 else bif r==4 then (gu 1).bind fun t=>(gu 1).bind fun u=>(sW<|nG (1+a).toNat).bind fun v=>.ret ⟨43,3,[],[],[t,u,v]⟩ else bif r==5 then (kQ 3).bind fun q=>(pY FR q.toNat).bind fun ws=>(uq [[102],[103],[109,97,120]]).bind fun x=>(sW<|nG (1+a).toNat).bind fun u=>.ret ⟨44,0,x,[],ws++[u]⟩
 else bif r==6 then (uq [[35,32,116,111,112],[35]]).bind fun x=>.ret ⟨34,0,x,[],[]⟩ else (gu (1+a).toNat).bind fun t=>(sW<|nG (1+a).toNat).bind fun u=>.ret ⟨42,3,[],[],[t,u]⟩
def lJ:Pg av:=(kQ 4).bind fun r=>(pY vK r.toNat).bind fun ts=>.ret ⟨45,0,[],[],ts⟩
def XE {α:Type} {p:Pg α} {P:α->Prop} (h:Pg.Post P p):Pg.Post (fun _=>True) p:=h.imp fun _ _=>trivial
def Ti (l:List Int) (h:0 < l.length):Pg.Post (fun _=>True) (Cv l):=SN l h fun _ _=>trivial
def agA:∀ (a c:List av) (d:Nat),ig a<=d->ig c<=d->ig (a++c)<=d
 | [],_,_,_,h=>h
 | t::a,c,d,h1,h2=>by
  simp only [Gi,ig] at h1 ⊢;have:=agA a c d ah h2;omega
def mk0 {m d:Nat} {k o:Int} {x:List UInt8} (hx:Sh x) (hm:1<=m) (hd:1<=d):Gd m d ⟨k,o,x,[],[]⟩:=Gd.mk hx jo (by simp only [aS];omega) (by simp only [ig];omega) fun t ht=>by cases ht
def Cx {d:Nat} (h:d<=2):Pg.Post (Gd 16 4) (gu d):=(kR d).imp fun t ht=>ht.mono (DZ (a:=d) (c:=2) h) (by unfold yY;split<;>omega)
def amS {d:Nat} (h:d<=2) (r:Int) (y:Bool):Pg.Post (Gd 70 5) (Te d r y):=by
 have e:=Cx h;have e1:=Cx (d:=d - 1) ah;have hK:Pg.Post (Gd 70 5) (Td d):=e.bind fun t ht=>.ret (mk1 jo ht ah ah);refine iH ?_ (iH ?_ (iH ?_ (iH ?_ (iH ?_ hK))))
 .refine (eX 2).bind fun q hq=>?_;obtain ⟨q,rfl⟩:=qU hq.1;refine (Cw e q 3 ah).bind fun ts hts=>(sV 3).bind fun o _=>iH ((uw _ aJ aJ).bind fun x hx=>e1.bind fun t ht=>.ret ?_) (.ret<|Ta jo hts ah ah);refine Gd.mk jo hx ?_ ?_ fun t' ht'=>?_
  .have:=hts.2.2.1;have:=ht.1;rw [Iw];simp only [aS];omega
  .have:=agA ts [t] 4 hts.2.2.2.1 (by have:=ht.2.1;simp only [ig];omega);omega
  .rcases kY.1 ht' with h|h
   .exact hts.2.2.2.2 t' h
   .rw [tu.1 h];exact ht.2.2
 .exact (Ti _ aJ).bind fun k _=>.ret (mk0 jo ah ah)
 .exact (Ti _ aJ).bind fun k _=>(Cw e 0 1 ah).bind fun ts hts=>.ret (Ta jo hts ah ah)
 .exact pX.bind fun x hx=>(Cw e1 0 2 ah).bind fun ts hts=>.ret (Ta hx hts ah ah)
 .exact (sV 2).bind fun o _=>iH ((uw _ aJ aJ).bind fun x hx=>.ret<|mk0 hx ah ah) hK
def amT {d:Nat} (h:d<=2):Pg.Post (Gd 70 5) (Tf d):=(eX 9).bind fun r _=>iH (amS h r _) (amS h r _)
def Tj {d:Nat} (h:d<=2):Pg.Post (Gd 16 4) (Lb d):=(sV 3).bind fun o _=>iH (.ret<|mk0 jo ah ah) (Cx h)
def Tm {s:Pg av} {m d:Nat} (h:Pg.Post (Gd m d) s):Pg.Post (Gd (2*m+1)<|d+1) (sW s):=(eX 3).bind fun r hr=>(DY h _).bind fun ts hts=>.ret (by
 obtain ⟨g1,g2,g3⟩:=Xz hts.2;have hl:ts.length<=2:=by rw [hts.1];omega
 have:=vW m hl;exact Gd.mk jo jo ah ah g3)
def axe {bl:Pg av} {m d:Nat} (h:Pg.Post (Gd m d) bl) (hd:4<=d):Pg.Post (Gd (2*m+60)<|d+1) (XD bl):=by
 have e:=Cx (d:=1) ah;refine (eX 6).bind fun r _=>iH ?_ (iH ?_ (iH ?_ (iH ?_ (iH ?_ ?_))))
 .exact e.bind fun t ht=>h.bind fun u hu=>.ret (mk2 jo ht hu ah ah)
 .exact e.bind fun t ht=>h.bind fun u hu=>h.bind fun v hv=>.ret (mk3 jo ht hu hv ah ah)
 .exact e.bind fun t ht=>h.bind fun u hu=>.ret (mk2 jo ht hu ah ah)
 .exact h.bind fun u hu=>e.bind fun t ht=>.ret (mk2 jo hu ht ah ah)
 .refine (Tj ah).bind fun t ht=>(Tj ah).bind fun u hu=>(Tj ah).bind fun v hv=>h.bind fun w hw=>.ret (Gd.mk jo jo ?_ ?_ fun t' ht'=>?_)
  .have:=ht.1;have:=hu.1;have:=hv.1;have:=hw.1;simp only [aS];omega
  .have:=ht.2.1;have:=hu.2.1;have:=hv.2.1;have:=hw.2.1;simp only [ig];omega
  .simp only [gQ,LX,Md] at ht';rcases ht' with rfl|rfl|rfl|rfl
   .exact ht.2.2
   .exact hu.2.2
   .exact hv.2.2
   .exact hw.2.2
 .refine (sV 2).bind fun o _=>iH (h.imp fun t ht=>ht.mono ah ah) (pX.bind fun x hx=>pX.bind fun y hy=>h.bind fun u hu=>.ret<|Gd.mk hx hy ?_ ?_ fun t' ht'=>?_)
  .have:=hu.1;simp only [aS];omega
  .have:=hu.2.1;simp only [ig];omega
  .rw [tu.1 ht'];exact hu.2.2
def ss:Nat->Nat
 | 0=>70
 | d+1=>4*ss d+62
def amU:∀ d,70<=ss d
 | 0=>eD _
 | d+1=>by have:=amU d;rw [ss];omega
def Cy:∀ d,Pg.Post (Gd (ss d)<|2*d+5) (nG d)
 | 0=>amT ah
 | d+1=>by
  have h:=amU d;refine Pg.Post.bind (XE<|sV 3 |>.bind fun o _=>.ret (P:=fun _=>True) trivial) fun y _=>iH ((amT ah).imp fun t ht=>ht.mono (by rw [ss];omega) ah) ((axe (Tm<|Cy d) ah).imp fun t ht=>ht.mono (by rw [ss];omega) ah)
def abI {a:Int} (h0:0<=a) (h1:a < 2):Pg.Post (Gd 2861 10) (sW<|nG (1+a).toNat):=by
 have:a=0\/a=1:=ah;rcases this with rfl|rfl
 .exact (Tm<|Cy 1).imp fun t ht=>ht.mono aJ aJ
 .exact (Tm<|Cy 2).imp fun t ht=>ht.mono aJ aJ
def abJ:Pg.Post (Gd 2960 11) vK:=by
 refine (eX 2).bind fun a ha=>?_;have hB:=abI (a:=a) ha.1 ah;have e:=Cx (d:=(1+a).toNat) ah;have e1:=Cx (d:=1) ah;refine (eX 8).bind fun r _=>iH ?_ (iH ?_ (iH ?_ (iH ?_ (iH ?_ (iH ?_ (iH ?_ ?_))))))
 .exact (eX 2).bind fun q _=>hB.bind fun u hu=>.ret (mk1 jo hu ah ah)
 .exact e.bind fun t ht=>.ret (mk1 jo ht ah ah)
 .exact hB.bind fun t ht=>.ret (mk1 jo ht ah ah)
 .exact e1.bind fun t ht=>e1.bind fun u hu=>.ret (mk2 jo ht hu ah ah)
 .exact e1.bind fun t ht=>e1.bind fun u hu=>hB.bind fun v hv=>.ret (mk3 jo ht hu hv ah ah)
 .refine (eX 3).bind fun q hq=>(DY Oz _).bind fun ws hws=>(uw _ aJ aJ).bind fun x hx=>hB.bind fun u hu=>.ret ?_;obtain ⟨g1,g2,g3⟩:=Xz hws.2;have hl:ws.length<=2:=by rw [hws.1];omega
  refine Gd.mk hx jo ?_ ?_ fun t' ht'=>?_
  .have:=hu.1;rw [Iw];simp only [aS];omega
  .have:=agA ws [u] 10 ah (by have:=hu.2.1;simp only [ig];omega);omega
  .rcases kY.1 ht' with h|h
   .exact g3 t' h
   .rw [tu.1 h];exact hu.2.2
 .exact (uw _ aJ aJ).bind fun x hx=>.ret (mk0 hx ah ah)
 .exact e.bind fun t ht=>hB.bind fun u hu=>.ret (mk2 jo ht hu ah ah)
def axf:Pg.Post (Gd 9000 12) lJ:=(eX 4).bind fun r hr=>(DY abJ _).bind fun ts hts=>.ret (by
 obtain ⟨g1,g2,g3⟩:=Xz hts.2;have hl:ts.length<=3:=by rw [hts.1];omega
 have:=vW 2960 hl;exact Gd.mk jo jo ah ah g3)
def axg {e:Pg av} {P:av->Prop} {n:Nat} (h:Pg.Post P e) (g:Pg.Le e n) (q:Int) (h0:0<=q) (h3:q<=3):Pg.Le (Ah q 3 e) (3*n+1):=by
 obtain ⟨q,rfl⟩:=qU h0;exact SY h g q 3 ah ah
def agB {e:Pg av} {P:av->Prop} (h:Pg.Post P e) (lo hi:Int):Pg.Post (fun _=>True) (Ah lo hi e):=(eX _).bind fun r _=>XE (DY h _)
def amV (d:Nat) (r:Int) (y:Bool):Pg.Le (Te d r y) (3*eb d+eb (d - 1)+4):=by
 have g:=OA d;have g1:=OA (d - 1);have hle:=SX (a:=d - 1) (c:=d) ah;have hK:Pg.Le (Td d) (eb d):=jH (kR d) g;refine leB ?_ (leB ?_ (leB ?_ (leB ?_ (leB ?_ (hK.mono ah)))))
 .refine Pg.eu.bind (eX 2) (below_le 2 ah) (m:=3*eb d+eb (d - 1)+3) (fun q hq=>?_) ah;refine Pg.eu.bind (agB (kR d) q 3) (axg (kR d) g q hq.1 ah) (m:=eb (d - 1)+2) (fun ts _=>?_) ah;refine Pg.eu.bind (sV 3) (SL 3 ah) (m:=eb (d - 1)+1) (fun o _=>leB ?_ .ret) ah;exact Pg.eu.bind (uw _ aJ aJ) (Iq _ aJ) (m:=eb (d - 1)) (fun x _=>jH (kR<|d - 1) g1) ah
 .exact (jH (Ti _ aJ)<|Xw _ aJ).mono ah
 .exact Pg.eu.bind (Ti _ aJ) (Xw _ aJ) (m:=1*eb d+1) (fun k _=>jH (agB (kR d) 0 1)<|SY (kR d) g 0 1 ah ah) ah
 .exact Pg.eu.bind pX Ox (m:=2*eb (d - 1)+1) (fun k _=>jH (agB (kR<|d - 1) 0 2)<|SY (kR<|d - 1) g1 0 2 ah ah) ah
 .exact Pg.eu.bind (sV 2) (SL 2 ah) (m:=3*eb d+1) (fun o _=>leB ((jH (uw _ aJ aJ)<|Iq _ aJ).mono ah)<|hK.mono ah) ah
def agC (d:Nat):Pg.Le (Tf d) (3*eb d+eb (d - 1)+5):=Pg.eu.bind (eX 9) (below_le 9 ah) (m:=3*eb d+eb (d - 1)+4) (fun r _=>leB (amV d r _)<|amV d r _) ah
def agD (d:Nat):Pg.Le (Lb d) (eb d+1):=Pg.eu.bind (sV 3) (SL 3 ah) (m:=eb d) (fun o _=>leB .ret<|OA d) ah
def agE (d:Nat):Pg.Post (fun _=>True) (Lb d):=(sV 3).bind fun o _=>iH (.ret trivial) (XE<|kR d)
def abK {s:Pg av} {P:av->Prop} {n:Nat} (h:Pg.Post P s) (g:Pg.Le s n):Pg.Le (sW s) (2*n+1):=Pg.eu.bind (eX 3) (below_le 3 ah) (m:=2*n) (fun r hr=>jH (DY h _)<|(XA h g _).mono<|vW n ah) ah
def amW {bl:Pg av} {P:av->Prop} {n k:Nat} (h:Pg.Post P bl) (g:Pg.Le bl n) (h1:14+2*n<=k) (h2:73+n<=k):Pg.Le (XD bl) k:=by
 have e:=OA 1;have p:=kR 1;have e1:eb 1=13:=rfl;have e2:eb 2=43:=rfl;refine Pg.eu.bind (eX 6) (below_le 6 ah) (m:=k - 1) (fun r _=>leB ?_ (leB ?_ (leB ?_ (leB ?_ (leB ?_ ?_))))) ah
 .exact Pg.eu.bind p e (m:=n) (fun t _=>jH h g) ah
 .exact Pg.eu.bind p e (m:=2*n) (fun t _=>Pg.eu.bind h g (m:=n) (fun u _=>jH h g) ah) ah
 .exact Pg.eu.bind p e (m:=n) (fun t _=>jH h g) ah
 .exact Pg.eu.bind h g (m:=13) (fun t _=>jH p e) ah
 .exact Pg.eu.bind (agE 2) (agD 2) (m:=28+n) (fun t _=>Pg.eu.bind (agE 1) (agD 1) (m:=14+n) (fun u _=>Pg.eu.bind (agE 1) (agD 1) (m:=n) (fun v _=>jH h g) ah) ah) ah
 .exact Pg.eu.bind (sV 2) (SL 2 ah) (m:=n+2) (fun o _=>leB (g.mono ah)<|Pg.eu.bind pX Ox (m:=n+1) (fun x _=>Pg.eu.bind pX Ox (m:=n) (fun y _=>jH h g) ah) ah) ah
def amX:Pg.Le ((Bh 3).bind fun o=>Pg.ret<|!o) 1:=jH (sV 3) (SL 3 ah)
def agF:Pg.Post (fun _=>True) ((Bh 3).bind fun o=>Pg.ret<|!o):=(sV 3).bind fun o _=>.ret trivial
def axh:Pg.Le (nG 0) 17:=agC 0
def amY:Pg.Le (nG 1) 109:=Pg.eu.bind agF amX (m:=108) (fun y _=>leB ((agC<|min 1 2).mono aJ)<|amW (XE<|Tm<|Cy 0) (abK (Cy 0) axh) ah ah) ah
def axi:Pg.Le (nG 2) 453:=Pg.eu.bind agF amX (m:=452) (fun y _=>leB ((agC<|min 2 2).mono aJ)<|amW (XE<|Tm<|Cy 1) (abK (Cy 1) amY) ah ah) ah
def axj {a:Int} (h0:0<=a) (h1:a < 2):Pg.Le (sW<|nG (1+a).toNat) 907:=by
 have:a=0\/a=1:=ah;rcases this with rfl|rfl
 .exact (abK (Cy 1) amY).mono aJ
 .exact (abK (Cy 2) axi).mono aJ
def axk:Pg.Le vK 952:=by
 refine Pg.eu.bind (eX 2) (below_le 2 ah) (m:=951) (fun a ha=>?_) ah;have hB:=abI (a:=a) ha.1 ah;have gB:=axj (a:=a) ha.1 ah;have p:=kR (1+a).toNat
 have p1:=kR 1;have e:Pg.Le (gu (1+a).toNat) 43:=(OA _).mono (SX (a:=(1+a).toNat) (c:=2) ah);have e1:Pg.Le (gu 1) 13:=OA 1;refine Pg.eu.bind (eX 8) (below_le 8 ah) (m:=950) (fun r _=>leB ?_ (leB ?_ (leB ?_ (leB ?_ (leB ?_ (leB ?_ (leB ?_ ?_))))))) ah
 .exact Pg.eu.bind (eX 2) (below_le 2 ah) (m:=907) (fun q _=>jH hB gB) ah
 .exact (jH p e).mono ah
 .exact (jH hB gB).mono ah
 .exact Pg.eu.bind p1 e1 (m:=13) (fun t _=>jH p1 e1) ah
 .exact Pg.eu.bind p1 e1 (m:=920) (fun t _=>Pg.eu.bind p1 e1 (m:=907) (fun t _=>jH hB gB) ah) ah
 .exact Pg.eu.bind (eX 3) (below_le 3 ah) (m:=910) (fun q hq=>Pg.eu.bind (DY Oz _) ((XA Oz abE _).mono<|show q.toNat*1<=2 by omega) (m:=908) (fun ws _=>Pg.eu.bind (uw _ aJ aJ) (Iq _ aJ) (m:=907) (fun x _=>jH hB gB) ah) ah) ah
 .exact (jH (uw _ aJ aJ)<|Iq _ aJ).mono ah
 .exact Pg.eu.bind p e (m:=907) (fun t _=>jH hB gB) ah
def axl:Pg.Le lJ 2857:=Pg.eu.bind (eX 4) (below_le 4 ah) (m:=2856) (fun r hr=>jH (DY abJ _)<|(XA abJ axk _).mono<|show r.toNat*952<=2856 by omega) ah
section
set_option linter.unusedSectionVars false
variable (b:List UInt8) (hb:b.length<=1048576) {N:Nat} (hN:1050000<=N)
include hb hN
theorem Tp {d:Nat} (hd:d<=6) (deep:Int) (hdp:deep.toNat=d) (g1: -1000<=deep) (g2:deep<=1000) (i:Nat) (h:Int) (hi:i<=b.length):Sm b (gu d) (bU 0) i h (fA N deep b (i:Int) h):=amR b hb N d hd ah deep hdp g1 g2 i h hi
theorem amZ {d:Nat} (hd:d<=2) (deep:Int) (hdp:deep.toNat=d) (g1: -800<=deep) (i:Nat) (h:Int) (hi:i<=b.length):Sm b (Td d) (bU 0) i h (Rc N b (deep,(i:Int),h)):=by
 unfold Rc Td;refine Sm.bind hi (Cx hd) (Tp b hb hN ah deep hdp ah ah i h hi) fun t i h ht hi=>?_;exact lI (α:=Unit) b hb ah 20 0 [] [] [t] (by have:=ht.1;simp only [aS];omega) i h
theorem ana {d:Nat} (hd:d<=2) (deep:Int) (hdp:deep.toNat=d) (g1: -800<=deep) (r:Int) (y:Bool) (i:Nat) (h:Int) (hi:i<=b.length):Sm b (Te d r y) (bU 0) i h (Rh N b (deep,(r,(i:Int),h),y)):=by
 have e:=Cx hd;have e1:=Cx (d:=d - 1) ah;have w1:IntKind.wrap .i64 (deep - 1)=deep - 1:=wrap64 ah ah;unfold Rh Te;dsimp only;refine Sm.cond (fun _=>?_) fun _=>Sm.cond (fun _=>?_) fun _=>Sm.cond (fun _=>?_) fun _=>Sm.cond (fun _=>?_) fun _=>Sm.cond (fun _=>?_) fun _=>amZ b hb hN hd deep hdp g1 i h hi
 .refine Sm.bind hi (eX 2) (vI b hb 2 i h hi) fun q i h hq hi=>?_;obtain ⟨q,rfl⟩:=qU hq.1;dsimp only;refine Sm.bind hi (Cw e q 3 ah) (agz b hb N d ah ah q 3 ah ah deep hdp ah ah i h hi) fun ts i h hts hi=>?_;dsimp only;refine Sm.bind hi (sV 3) (SQ b hb 3 i h hi) fun o i h _ hi=>?_;dsimp only;refine Sm.cond (fun _=>?_) fun _=>?_
  .refine Sm.bind hi (uw _ aJ aJ) (Ir b hb _ aJ i h hi) fun x i h _ hi=>?_;dsimp only;rw [w1];refine Sm.bind hi e1 (Tp b hb hN ah (deep - 1) ah ah ah i h hi) fun t i h ht hi=>?_;dsimp only;rw [pG (by have:=hts.2.1;simp;omega),aB];unfold Rf;dsimp only;have:=lI (α:=Unit) b hb (N:=N) ah 21 (q:Int) [] x (ts++[t]) (by have:=ht.1;have:=hts.2.2.1;rw [Iw];simp only [aS];omega) i h;rw [CX] at this;exact this
  .unfold Rf;dsimp only;exact lI (α:=Unit) b hb ah 21 (q:Int) [] [] ts (by have:=hts.2.2.1;omega) i h
 .exact Sm.bind hi (Ti _ aJ) (Xy b hb _ aJ i h hi) fun k i h _ hi=>Sm.ret
 .refine Sm.bind hi (Ti _ aJ) (Xy b hb _ aJ i h hi) fun k i h _ hi=>?_;dsimp only;refine Sm.bind hi (Cw e 0 1 ah) (agz b hb N d ah ah 0 1 ah ah deep hdp ah ah i h hi) fun ts i h hts hi=>?_;exact lI (α:=Unit) b hb ah k 0 [] [] ts (by have:=hts.2.2.1;omega) i h
 .refine Sm.bind hi pX (Iu b hb i h hi) fun x i h _ hi=>?_;dsimp only;rw [w1];refine Sm.bind hi (Cw e1 0 2 ah) (agz b hb N (d - 1) ah ah 0 2 ah ah (deep - 1) ah ah ah i h hi) fun ts i h hts hi=>?_;exact lI (α:=Unit) b hb ah 27 0 x [] ts (by have:=hts.2.2.1;omega) i h
 .refine Sm.bind hi (sV 2) (SQ b hb 2 i h hi) fun o i h _ hi=>?_;dsimp only;exact Sm.cond (fun _=>Sm.bind hi (uw _ aJ aJ) (Ir b hb _ aJ i h hi) fun x i h _ hi=>Sm.ret) fun _=>amZ b hb hN hd deep hdp g1 i h hi
theorem anb {d:Nat} (hd:d<=2) (deep:Int) (hdp:deep.toNat=d) (g1: -800<=deep) (i:Nat) (h:Int) (hi:i<=b.length):Sm b (Tf d) (bU 0) i h (Vd N deep b (i:Int) h):=by
 unfold Vd Tf;refine Sm.bind hi (eX 9) (vI b hb 9 i h hi) fun r i h _ hi=>?_;dsimp only;exact Sm.cond (fun _=>ana b hb hN hd deep hdp g1 r _ i h hi) fun _=>ana b hb hN hd deep hdp g1 r _ i h hi
theorem agG {d:Nat} (hd:d<=2) (i:Nat) (h:Int) (hi:i<=b.length):Sm b (Lb d) (bU 0) i h (EY N (d:Int) b (i:Int) h):=by
 unfold EY Lb;refine Sm.bind hi (sV 3) (SQ b hb 3 i h hi) fun o i h _ hi=>?_;dsimp only;exact Sm.cond (fun _=>Sm.ret) fun _=>Cu (Tp b hb hN ah (d:Int) ah ah ah i h hi)
def SS (M d:Nat):Prop:=∀ (deep:Int) (i:Nat) (h:Int),deep.toNat=d-> -700<=deep->i<=b.length->Sm b (nG d) (bU 0) i h ((qJ M).BR deep b (i:Int) h)
def BS (M d:Nat):Prop:=∀ (deep:Int) (i:Nat) (h:Int),deep.toNat=d-> -700<=deep->i<=b.length->Sm b (sW<|nG d) (bU 0) i h ((qJ M).jv deep b (i:Int) h)
theorem axn {M d:Nat} (hM:1048577 < M) (hd:d<=4) (hS:SS b M d) (deep:Int) (hdp:deep.toNat=d) (g1: -700<=deep):∀ (n c:Nat) (i:Nat) (h:Int) (acc:List av),c < n->acc.length+c<=3->aS acc<=acc.length*ss d->i<=b.length->
  Sm b ((pY (nG d) c).bind fun ts=>.ret (⟨33,0,[],[],acc++ts⟩:av)) (bU 0) i h (MP M (qJ M) b n (deep,(c:Int),(i:Int),h,acc.map<|bU 0)):=by
 have hss:ss d<=100000:=by
  have:d=0\/d=1\/d=2\/d=3\/d=4:=ah;rcases this with rfl|rfl|rfl|rfl|rfl<;>decide
 intro n;induction n with
 | zero=>intro c i h acc hc;omega
 | succ n ih=>
  intro c i h acc hc ha hs hi;rw [MP];cases c with
  | zero=>
   have:decide (((0:Nat):Int) > 0)=false:=rfl;rw [this,aI];show Sm b (.ret (⟨33,0,[],[],acc++[]⟩:av)) _ _ _ _;rw [qd];exact lI (α:=Unit) b hb hM 33 0 [] [] acc (by have:=vW (ss d) (show acc.length<=3 by omega);omega) i h
  | succ c=>
   have:decide (((c+1:Nat):Int) > 0)=true:=mH ah;rw [this,aM,pY];have key:∀ t:av,(pY (nG d) c).bind (fun ts=>Pg.ret (⟨33,0,[],[],acc++(t::ts)⟩:av))=(pY (nG d) c).bind fun ts=>Pg.ret (⟨33,0,[],[],(acc++[t])++ts⟩:av):=fun t=>by
    congr 1;funext ts;rw [nU];rfl
   have assoc:∀ (p:Pg av) (f:av->Pg (List av)) (g:List av->Pg av),(p.bind f).bind g=p.bind fun a=>(f a).bind g:=fun p f g=>by
    induction p with
    | ret a=>rfl
    | rd k ih=>simp only [Pg.bind,ih]
   have axo:∀ (p:Pg (List av)) (f:List av->Pg (List av)) (g:List av->Pg av),(p.bind f).bind g=p.bind fun a=>(f a).bind g:=fun p f g=>by
    induction p with
    | ret a=>rfl
    | rd k ih=>simp only [Pg.bind,ih]
   rw [assoc];refine Sm.bind hi (Cy d) (hS deep i h hdp g1 hi) fun t i h ht hi=>?_;dsimp only;rw [pG bF,aB,wrap64 ah ah,show ((c+1:Nat):Int) - 1=(c:Int) by omega,axo];have:=ih c i h (acc++[t]) ah bF (by rw [Iw,jq,LJ,wh];have:=ht.1;simp only [aS];omega) hi;rw [CX] at this;show Sm b ((pY (nG d) c).bind fun ts=>Pg.ret (⟨33,0,[],[],acc++(t::ts)⟩:av)) _ _ _ _;rw [key t];exact this
theorem anc {M d:Nat} (hM:1048577 < M) (hd:d<=4) (hS:SS b M d):BS b (M+1) d:=by
 intro deep i h hdp g1 hi;show Sm b _ _ i h (Ve M (qJ M) deep b (i:Int) h);unfold Ve sW;refine Sm.bind hi (eX 3) (vI b hb 3 i h hi) fun r i h hr hi=>?_;obtain ⟨c,rfl⟩:=qU hr.1;dsimp only;rw [BA];exact axn b hb hN hM hd hS deep hdp g1 M c i h [] ah bF (by simp [aS]) hi
theorem axp {M:Nat} (hM:1050000<=M):SS b (M+1) 0:=by
 intro deep i h hdp g1 hi;show Sm b _ _ i h (MQ M (qJ M) deep b (i:Int) h);unfold MQ;rw [mH (show deep<=0 by omega),aM,aB];have e:(if 2 < deep then 2 else deep)=deep:=bA ah;dsimp only;rw [aM,e];exact Cu (anb b hb (N:=M) ah ah deep hdp ah i h hi)
theorem axq {M d:Nat} (hM:1050000<=M) (hd:d<=3) (deep:Int) (hdp:deep.toNat=d+1) (hB:BS b M d) (i:Nat) (h:Int) (hi:i<=b.length) (f:(Int×Int×Int)->Option (List aC×Int×Int))
  (hf:f=fun fV=>bif (fV.1==0) then (fA M 1 b fV.2.1 fV.2.2).bind fun iL=>((qJ M).jv (IntKind.wrap .i64<|deep - 1) b iL.2.1 iL.2.2).bind fun iM=>(iZ M (⟨28,0,[],[],[]⟩:aC) [iL.1,iM.1]).bind fun kL=>some (kL,iM.2.1,iM.2.2) else (bif (fV.1==1) then (fA M 1 b fV.2.1 fV.2.2).bind fun oN=>((qJ M).jv (IntKind.wrap .i64<|deep - 1) b oN.2.1 oN.2.2).bind fun su=>((qJ M).jv (IntKind.wrap .i64<|deep - 1) b su.2.1 su.2.2).bind fun bV=>(iZ M (⟨28,0,[],[],[]⟩:aC) [oN.1,su.1,bV.1]).bind fun tX=>some (tX,bV.2.1,bV.2.2) else (bif (fV.1==2) then (fA M 1 b fV.2.1 fV.2.2).bind fun pO=>((qJ M).jv (IntKind.wrap .i64<|deep - 1) b pO.2.1 pO.2.2).bind fun AQ=>(iZ M (⟨29,0,[],[],[]⟩:aC) [pO.1,AQ.1]).bind fun ny=>some (ny,AQ.2.1,AQ.2.2) else (bif (fV.1==3) then ((qJ M).jv (IntKind.wrap .i64<|deep - 1) b fV.2.1 fV.2.2).bind fun nC=>(fA M 1 b nC.2.1 nC.2.2).bind fun uY=>(iZ M (⟨30,0,[],[],[]⟩:aC) [nC.1,uY.1]).bind fun tV=>some (tV,uY.2.1,uY.2.2) else (bif (fV.1==4) then (EY M 2 b fV.2.1 fV.2.2).bind fun nZ=>(EY M 1 b nZ.2.1 nZ.2.2).bind fun uZ=>(EY M 1 b uZ.2.1 uZ.2.2).bind fun qh=>((qJ M).jv (IntKind.wrap .i64<|deep - 1) b qh.2.1 qh.2.2).bind fun kD=>(iZ M (⟨31,0,[],[],[]⟩:aC) [nZ.1,uZ.1,qh.1,kD.1]).bind fun sj=>some (sj,kD.2.1,kD.2.2) else ((wL 2 b fV.2.1 fV.2.2).bind fun nO=>bif nO.1 then ((qJ M).jv (IntKind.wrap .i64<|deep - 1) b nO.2.1 nO.2.2).bind fun lZ=>some (lZ.1,lZ.2.1,lZ.2.2) else ((zK b nO.2.1 nO.2.2).bind fun Du=>(zK b Du.2.1 Du.2.2).bind fun sw=>((qJ M).jv (IntKind.wrap .i64<|deep - 1) b sw.2.1 sw.2.2).bind fun AP=>(iZ M (⟨32,0,Du.1,sw.1,[]⟩:aC) [AP.1]).bind fun pK=>some (pK,AP.2.1,AP.2.2)))))))):
  Sm b (XD<|sW<|nG d) (bU 0) i h (Option.bind (jD 6 b (i:Int) h) f):=by
 have hss:ss d<=100000:=by
  have:d=0\/d=1\/d=2\/d=3:=ah;rcases this with rfl|rfl|rfl|rfl<;>decide
 have w1:IntKind.wrap .i64 (deep - 1)=deep - 1:=wrap64 ah ah;have e:=Cx (d:=1) ah;have e1:∀ (i:Nat) h,i<=b.length->Sm b (gu 1) (bU 0) i h (fA M 1 b (i:Int) h):=fun i h hi=>Tp b hb (N:=M) ah ah 1 rfl ah ah i h hi;have p:=Tm (Cy d);have g:∀ (i:Nat) h,i<=b.length->Sm b (sW<|nG d) (bU 0) i h ((qJ M).jv (deep - 1) b (i:Int) h):=fun i h hi=>hB (deep - 1) i h ah ah hi;subst hf;rw [w1];unfold XD;refine Sm.bind hi (eX 6) (vI b hb 6 i h hi) fun r i h _ hi=>?_;dsimp only;refine Sm.cond (fun _=>?_) fun _=>Sm.cond (fun _=>?_) fun _=>Sm.cond (fun _=>?_) fun _=>Sm.cond (fun _=>?_) fun _=>Sm.cond (fun _=>?_) fun _=>?_
 .refine Sm.bind hi e (e1 i h hi) fun t i h ht hi=>?_;dsimp only;refine Sm.bind hi p (g i h hi) fun u i h hu hi=>?_;exact lI (α:=Unit) b hb ah 28 0 [] [] [t,u] (by have:=ht.1;have:=hu.1;simp only [aS];omega) i h
 .refine Sm.bind hi e (e1 i h hi) fun t i h ht hi=>?_;dsimp only;refine Sm.bind hi p (g i h hi) fun u i h hu hi=>?_;dsimp only;refine Sm.bind hi p (g i h hi) fun v i h hv hi=>?_;exact lI (α:=Unit) b hb ah 28 0 [] [] [t,u,v] (by have:=ht.1;have:=hu.1;have:=hv.1;simp only [aS];omega) i h
 .refine Sm.bind hi e (e1 i h hi) fun t i h ht hi=>?_;dsimp only;refine Sm.bind hi p (g i h hi) fun u i h hu hi=>?_;exact lI (α:=Unit) b hb ah 29 0 [] [] [t,u] (by have:=ht.1;have:=hu.1;simp only [aS];omega) i h
 .refine Sm.bind hi p (g i h hi) fun u i h hu hi=>?_;dsimp only;refine Sm.bind hi e (e1 i h hi) fun t i h ht hi=>?_;exact lI (α:=Unit) b hb ah 30 0 [] [] [u,t] (by have:=ht.1;have:=hu.1;simp only [aS];omega) i h
 .refine Sm.bind hi (Tj ah) (agG b hb (N:=M) ah (d:=2) ah i h hi) fun t i h ht hi=>?_;dsimp only;refine Sm.bind hi (Tj ah) (agG b hb (N:=M) ah (d:=1) ah i h hi) fun u i h hu hi=>?_;dsimp only;refine Sm.bind hi (Tj ah) (agG b hb (N:=M) ah (d:=1) ah i h hi) fun v i h hv hi=>?_;dsimp only;refine Sm.bind hi p (g i h hi) fun w i h hw hi=>?_;exact lI (α:=Unit) b hb ah 31 0 [] [] [t,u,v,w] (by have:=ht.1;have:=hu.1;have:=hv.1;have:=hw.1;simp only [aS];omega) i h
 .refine Sm.bind hi (sV 2) (SQ b hb 2 i h hi) fun o i h _ hi=>?_;dsimp only;refine Sm.cond (fun _=>Cu<|g i h hi) fun _=>?_;refine Sm.bind hi pX (Iu b hb i h hi) fun x i h _ hi=>?_;dsimp only;refine Sm.bind hi pX (Iu b hb i h hi) fun y i h _ hi=>?_;dsimp only;refine Sm.bind hi p (g i h hi) fun u i h hu hi=>?_;exact lI (α:=Unit) b hb ah 32 0 x y [u] (by have:=hu.1;simp only [aS];omega) i h
theorem axr {M d:Nat} (hM:1050000<=M) (hd:d<=3) (hB:BS b M d):SS b (M+1) (d+1):=by
 intro deep i h hdp g1 hi;show Sm b _ _ i h (MQ M (qJ M) deep b (i:Int) h);unfold MQ nG;rw [uL (show¬deep<=0 by omega),aI];have ho:Sm b ((Bh 3).bind fun o=>Pg.ret<|!o) (fun x=>x) i h ((wL 3 b (i:Int) h).bind fun bZ=>some ((!bZ.1),bZ.2.1,bZ.2.2)):=Sm.bind hi (sV 3) (SQ b hb 3 i h hi) fun o i h _ hi=>Sm.ret;refine Sm.bind hi agF ho fun y i h _ hi=>?_;dsimp only;refine Sm.cond (fun _=>?_) fun _=>axq b hb hN hM hd deep hdp hB i h hi _ rfl;refine Cu (anb b hb (N:=M) ah ah _ ?_ ?_ i h hi)
 .split<;>omega
 .split<;>omega
theorem ane:∀ (d M:Nat),d<=4->1050000+2*d+1<=M->SS b M d:=by
 intro d;induction d with
 | zero=>
  intro M hd hM;obtain ⟨M,rfl⟩:∃ m,M=m+1:=⟨M - 1,ah⟩
  exact axp b hb hN ah
 | succ d ih=>
  intro M hd hM;obtain ⟨M,rfl⟩:∃ m,M=m+1+1:=⟨M - 2,ah⟩
  exact axr b hb hN ah ah (anc b hb hN ah ah<|ih M ah ah)
theorem axt {d:Nat} (hd:d<=4) (FT:1050100<=N) (deep:Int) (hdp:deep.toNat=d) (g1: -700<=deep) (i:Nat) (h:Int) (hi:i<=b.length):Sm b (nG d) (bU 0) i h (BR N deep b (i:Int) h):=ane b hb hN d N hd ah deep i h hdp g1 hi
theorem anf {d:Nat} (hd:d<=4) (FT:1050100<=N) (deep:Int) (hdp:deep.toNat=d) (g1: -700<=deep) (i:Nat) (h:Int) (hi:i<=b.length):Sm b (sW<|nG d) (bU 0) i h (jv N deep b (i:Int) h):=by
 obtain ⟨M,rfl⟩:∃ m,N=m+1:=⟨N - 1,ah⟩
 exact anc b hb hN ah hd (ane b hb hN d M hd ah) deep i h hdp g1 hi
theorem axu (FT:1050100<=N) (r2:Int×Int×Int) (a:Int) (h2:r2.1=a) (ha:0<=a) (ha2:a < 2):∀ (n c:Nat) (i:Nat) (h:Int) (acc:List av),c < n->acc.length+c<=3->aS acc<=acc.length->i<=b.length->
  Sm b ((pY FR c).bind fun ws=>(uq [[102],[103],[109,97,120]]).bind fun x=>(sW<|nG (1+a).toNat).bind fun u=>.ret (⟨44,0,x,[],(acc++ws)++[u]⟩:av)) (bU 0) i h (MR N b n (r2,(c:Int),(i:Int),h,acc.map<|bU 0)):=by
 intro n;induction n with
 | zero=>intro c i h acc hc;omega
 | succ n ih=>
  intro c i h acc hc hl hs hi;rw [MR];cases c with
  | zero=>
   have:decide (((0:Nat):Int) > 0)=false:=rfl;rw [this,aI];show Sm b ((uq [[102],[103],[109,97,120]]).bind fun x=>(sW<|nG (1+a).toNat).bind fun u=>.ret (⟨44,0,x,[],(acc++[])++[u]⟩:av)) _ _ _ _;rw [qd];refine Sm.bind hi (uw _ aJ aJ) (Ir b hb _ aJ i h hi) fun x i h hx hi=>?_;dsimp only;rw [h2,wrap64 ah ah];refine Sm.bind hi (abI ha ha2) (anf b hb hN (d:=(1+a).toNat) ah FT (1+a) rfl ah i h hi) fun u i h hu hi=>?_;dsimp only;rw [pG bF,aB];have:=lI (α:=Unit) b hb (N:=N) ah 44 0 x [] (acc++[u]) (by have:=hu.1;rw [Iw];simp only [aS];omega) i h;rw [CX] at this;exact this
  | succ c=>
   have:decide (((c+1:Nat):Int) > 0)=true:=mH ah;rw [this,aM,pY];have assoc:∀ {α β γ:Type} (p:Pg α) (f:α->Pg β) (g:β->Pg γ),(p.bind f).bind g=p.bind fun a=>(f a).bind g:=fun p f g=>by
    induction p with
    | ret a=>rfl
    | rd k ih=>simp only [Pg.bind,ih]
   unfold FR;rw [assoc,assoc];refine Sm.bind hi pX (Iu b hb i h hi) fun x i h hx hi=>?_;dsimp only;rw [pG bF,aB,wrap64 ah ah,show ((c+1:Nat):Int) - 1=(c:Int) by omega];have:=ih c i h (acc++[⟨1,0,x,[],[]⟩]) ah bF (by rw [Iw,jq];simp only [aS,aV,kF,yt];omega) hi;rw [CX] at this;show Sm b (((pY FR c).bind fun vs=>Pg.ret<|(⟨1,0,x,[],[]⟩:av)::vs).bind _) _ _ _ _;rw [assoc];have key:(fun vs=>(Pg.ret<|(⟨1,0,x,[],[]⟩:av)::vs).bind fun ws=>(uq [[102],[103],[109,97,120]]).bind fun x_1=>(sW<|nG (1+a).toNat).bind fun u=>Pg.ret (⟨44,0,x_1,[],acc++ws++[u]⟩:av))=fun ws=>(uq [[102],[103],[109,97,120]]).bind fun x_1=>(sW<|nG (1+a).toNat).bind fun u=>Pg.ret (⟨44,0,x_1,[],acc++[⟨1,0,x,[],[]⟩]++ws++[u]⟩:av):=by
    funext ws;show (uq [[102],[103],[109,97,120]]).bind _=_;congr 1;funext x_1;congr 1;funext u;rw [nU acc [_] ws];rfl
   rw [key];exact this
theorem axv (FT:1050100<=N) (i:Nat) (h:Int) (hi:i<=b.length):Sm b vK (bU 0) i h (Vg N b (i:Int) h):=by
 unfold Vg vK;refine Sm.bind hi (eX 2) (vI b hb 2 i h hi) fun a i h ha hi=>?_;have ha2:a < 2:=ah;have wa:IntKind.wrap .i64 (1+a)=1+a:=wrap64 ah ah;have e:=Cx (d:=(1+a).toNat) ah;have e1:=Cx (d:=1) ah;have hB:=abI ha.1 ha2;have gB:∀ (i:Nat) h,i<=b.length->Sm b (sW<|nG (1+a).toNat) (bU 0) i h (jv N (1+a) b (i:Int) h):=fun i h hi=>anf b hb hN ah FT (1+a) rfl ah i h hi;have gE:∀ (i:Nat) h,i<=b.length->Sm b (gu (1+a).toNat) (bU 0) i h (fA N (1+a) b (i:Int) h):=fun i h hi=>Tp b hb hN ah (1+a) rfl ah ah i h hi;have g1:∀ (i:Nat) h,i<=b.length->Sm b (gu 1) (bU 0) i h (fA N 1 b (i:Int) h):=fun i h hi=>Tp b hb hN ah 1 rfl ah ah i h hi;dsimp only;rw [wa];refine Sm.bind hi (eX 8) (vI b hb 8 i h hi) fun r i h _ hi=>?_;dsimp only;refine Sm.cond (fun _=>?_) fun _=>Sm.cond (fun _=>?_) fun _=>Sm.cond (fun _=>?_) fun _=>Sm.cond (fun _=>?_) fun _=>Sm.cond (fun _=>?_) fun _=>Sm.cond (fun _=>?_) fun _=>Sm.cond (fun _=>?_) fun _=>?_
 .refine Sm.bind hi (eX 2) (vI b hb 2 i h hi) fun q i h hq hi=>?_;dsimp only;rw [wrap64 (n:=40+q) ah ah];refine Sm.bind hi hB (gB i h hi) fun u i h hu hi=>?_;exact lI (α:=Unit) b hb ah (40+q) 0 [] [] [u] (by have:=hu.1;simp only [aS];omega) i h
 .refine Sm.bind hi e (gE i h hi) fun t i h ht hi=>?_;exact lI (α:=Unit) b hb ah 42 1 [] [] [t] (by have:=ht.1;simp only [aS];omega) i h
 .refine Sm.bind hi hB (gB i h hi) fun t i h ht hi=>?_;exact lI (α:=Unit) b hb ah 42 2 [] [] [t] (by have:=ht.1;simp only [aS];omega) i h
 .refine Sm.bind hi e1 (g1 i h hi) fun t i h ht hi=>?_;dsimp only;refine Sm.bind hi e1 (g1 i h hi) fun u i h hu hi=>?_;exact lI (α:=Unit) b hb ah 43 1 [] [] [t,u] (by have:=ht.1;have:=hu.1;simp only [aS];omega) i h
 .refine Sm.bind hi e1 (g1 i h hi) fun t i h ht hi=>?_;dsimp only;refine Sm.bind hi e1 (g1 i h hi) fun u i h hu hi=>?_;dsimp only;refine Sm.bind hi hB (gB i h hi) fun v i h hv hi=>?_;exact lI (α:=Unit) b hb ah 43 3 [] [] [t,u,v] (by have:=ht.1;have:=hu.1;have:=hv.1;simp only [aS];omega) i h
 .refine Sm.bind hi (eX 3) (vI b hb 3 i h hi) fun q i h hq hi=>?_;obtain ⟨q,rfl⟩:=qU hq.1;dsimp only;rw [BA];exact axu b hb hN FT _ a rfl ha.1 ha2 N q i h [] ah bF (by simp [aS]) hi
 .exact Sm.bind hi (uw _ aJ aJ) (Ir b hb _ aJ i h hi) fun x i h _ hi=>Sm.ret
 .refine Sm.bind hi e (gE i h hi) fun t i h ht hi=>?_;dsimp only;refine Sm.bind hi hB (gB i h hi) fun u i h hu hi=>?_;exact lI (α:=Unit) b hb ah 42 3 [] [] [t,u] (by have:=ht.1;have:=hu.1;simp only [aS];omega) i h
theorem axw (FT:1050100<=N) (kb:(Int×Int)->Option (List aC×Int×Int)):∀ (n c:Nat) (i:Nat) (h:Int) (acc:List av),c < n->acc.length+c<=3->aS acc<=acc.length*2960->i<=b.length->
  MX N b kb n ((c:Int),(i:Int),h,acc.map<|bU 0)=(let r:=Pg.run b ((pY vK c).bind fun ts=>.ret (⟨45,0,[],[],acc++ts⟩:av)) i h;bif fits 220 r.1 then some (bU 0 r.1,(r.2.1:Int),r.2.2) else kb ((r.2.1:Int),r.2.2)):=by
 intro n;induction n with
 | zero=>intro c i h acc hc;omega
 | succ n ih=>
  intro c i h acc hc hl hs hi;rw [MX];cases c with
  | zero=>
   have:decide (((0:Nat):Int) > 0)=false:=rfl;rw [this,aI];have hz:aS acc<=900000:=by have:=vW 2960 (show acc.length<=3 by omega);omega
   have hm:=amP N ⟨45,0,[],[],[]⟩ acc ah hz;rw [hm,aB];show (bif decide (((bU 0 (⟨45,0,[],[],acc⟩:av)).length:Int)<=220) then _ else _)=_;have e:(let r:=Pg.run b ((pY vK 0).bind fun ts=>Pg.ret (⟨45,0,[],[],acc++ts⟩:av)) i h;bif fits 220 r.1 then some (bU 0 r.1,(r.2.1:Int),r.2.2) else kb ((r.2.1:Int),r.2.2))=bif fits 220 (⟨45,0,[],[],acc++[]⟩:av) then some (bU 0 (⟨45,0,[],[],acc++[]⟩:av),(i:Int),h) else kb ((i:Int),h):=rfl;rw [e,qd];have hf:decide (((bU 0 (⟨45,0,[],[],acc⟩:av)).length:Int)<=220)=fits 220 (⟨45,0,[],[],acc⟩:av):=by
    rw [vU];unfold fits;cases hc:Nat.ble (aV (⟨45,0,[],[],acc⟩:av)) 220 with
    | true=>have:=EC hc;exact mH ah
    | false=>refine uL fun hh=>?_;rw [aiL ah] at hc;cases hc
   rw [hf]
  | succ c=>
   have:decide (((c+1:Nat):Int) > 0)=true:=mH ah;rw [this,aM];have hI:=axv b hb hN FT i h hi;unfold Sm at hI;rw [hI,aB];dsimp only;rw [pG bF,aB,wrap64 ah ah,show ((c+1:Nat):Int) - 1=(c:Int) by omega];have hp:=Pg.Xv b abJ i h;have:=ih c (Pg.run b vK i h).2.1 (Pg.run b vK i h).2.2 (acc++[(Pg.run b vK i h).1]) ah bF (by rw [Iw,jq,LJ,wh];have:=hp.1;simp only [aS];omega) (Pg.FN b vK i h hi);rw [CX] at this;refine Gr this ?_;have assoc:∀ {α β γ:Type} (p:Pg α) (f:α->Pg β) (g:β->Pg γ),(p.bind f).bind g=p.bind fun a=>(f a).bind g:=fun p f g=>by
    induction p with
    | ret a=>rfl
    | rd k ih=>simp only [Pg.bind,ih]
   have e:Pg.run b ((pY vK<|c+1).bind fun ts=>Pg.ret (⟨45,0,[],[],acc++ts⟩:av)) i h=Pg.run b ((pY vK c).bind fun ts=>Pg.ret (⟨45,0,[],[],acc++[(Pg.run b vK i h).1]++ts⟩:av)) (Pg.run b vK i h).2.1 (Pg.run b vK i h).2.2:=by
    rw [pY,assoc,Pg.run_bind,assoc];congr 1;congr 1;funext ts;show Pg.ret (⟨45,0,[],[],acc++(_::ts)⟩:av)=_;rw [nU acc [_] ts];rfl
   rw [e]
theorem axx (FT:1050100<=N):∀ (n i:Nat) (h:Int),i<=b.length->GR N b n ((i:Int),h)=(Pg.loop b lJ (fits 220) n i h).map fun r=>(bU 0 r.1,(r.2.1:Int),r.2.2):=by
 intro n;induction n with
 | zero=>intro i h hi;rfl
 | succ n ih=>
  intro i h hi;rw [GR,Pg.loop];have hb4:=vI b hb 4 i h hi;unfold Sm at hb4;rw [hb4,aB];dsimp only;have hr:=Pg.Xv b (eX 4) i h;obtain ⟨c,hc⟩:=qU hr.1;have hl:=Pg.FN b (kQ 4) i h hi;have:=axw b hb hN FT (GR N b n) N c (Pg.run b (kQ 4) i h).2.1 (Pg.run b (kQ 4) i h).2.2 [] ah bF (by simp [aS]) hl;rw [hc];refine Gr this ?_;have e:Pg.run b lJ i h=Pg.run b ((pY vK c).bind fun ts=>Pg.ret (⟨45,0,[],[],[]++ts⟩:av)) (Pg.run b (kQ 4) i h).2.1 (Pg.run b (kQ 4) i h).2.2:=by
   unfold lJ;rw [Pg.run_bind,hc];rfl
  rw [e];dsimp only;generalize Pg.run b ((pY vK c).bind fun ts=>Pg.ret (⟨45,0,[],[],[]++ts⟩:av)) (Pg.run b (kQ 4) i h).2.1 (Pg.run b (kQ 4) i h).2.2=q at e;have hq:q.2.1<=b.length:=by rw [<- e];exact Pg.FN b lJ i h hi
  cases fits 220 q.1 with
  | true=>rfl
  | false=>rw [aI,aI];exact ih _ _ hq
end
def axy:Pg.jy vJ (fits 60) 40 135 2021368500568277588=true:=mE
def axz:jV 135 2021368500568277588=1520775315923724161:=mE
def axA:Pg.jy vJ (fits 60) 40 135 1520775315923724161=true:=mE
def axB:jV 135 1520775315923724161=(-1929235519155055454):=mE
def axC:Pg.jy vJ (fits 60) 40 135 (-1929235519155055454)=true:=mE
def axD:Pg.jy vJ (fits 60) 40 405 2021368500568277588=true:=by
 have a1:Pg.jy vJ (fits 60) 40 (135+135) 1520775315923724161=true:=Pg.Bg _ _ _ _ _ _ axA (by rw [axB];exact axC);have a0:Pg.jy vJ (fits 60) 40 (135+270) 2021368500568277588=true:=Pg.Bg _ _ _ _ _ _ axy (by rw [axz];exact a1);exact a0
def axE:Pg.jy lJ (fits 220) 40 260 (-2744174768175047444)=true:=mE
def axF:jV 260 (-2744174768175047444)=9139760114735395424:=mE
def axG:Pg.jy lJ (fits 220) 40 260 9139760114735395424=true:=mE
def axH:jV 260 9139760114735395424=8949882279719470868:=mE
def axI:Pg.jy lJ (fits 220) 40 260 8949882279719470868=true:=mE
def axJ:jV 260 8949882279719470868=8399572877787008776:=mE
def axK:Pg.jy lJ (fits 220) 40 260 8399572877787008776=true:=mE
def axL:jV 260 8399572877787008776=(-644356377554321860):=mE
def axM:Pg.jy lJ (fits 220) 40 260 (-644356377554321860)=true:=mE
def axN:jV 260 (-644356377554321860)=(-7008574521026492240):=mE
def axO:Pg.jy lJ (fits 220) 40 260 (-7008574521026492240)=true:=mE
def axP:jV 260 (-7008574521026492240)=(-326443216012795292):=mE
def axQ:Pg.jy lJ (fits 220) 40 260 (-326443216012795292)=true:=mE
def axR:jV 260 (-326443216012795292)=1119826188661489496:=mE
def axS:Pg.jy lJ (fits 220) 40 260 1119826188661489496=true:=mE
def axT:jV 260 1119826188661489496=5199595073289098124:=mE
def axU:Pg.jy lJ (fits 220) 40 260 5199595073289098124=true:=mE
def axV:jV 260 5199595073289098124=8701555922248749824:=mE
def axW:Pg.jy lJ (fits 220) 40 260 8701555922248749824=true:=mE
def axX:jV 260 8701555922248749824=2969263789539357108:=mE
def axY:Pg.jy lJ (fits 220) 40 258 2969263789539357108=true:=mE
def axZ:Pg.jy lJ (fits 220) 40 2858 (-2744174768175047444)=true:=by
 have a9:Pg.jy lJ (fits 220) 40 (260+258) 8701555922248749824=true:=Pg.Bg _ _ _ _ _ _ axW (by rw [axX];exact axY);have a8:Pg.jy lJ (fits 220) 40 (260+518) 5199595073289098124=true:=Pg.Bg _ _ _ _ _ _ axU (by rw [axV];exact a9);have a7:Pg.jy lJ (fits 220) 40 (260+778) 1119826188661489496=true:=Pg.Bg _ _ _ _ _ _ axS (by rw [axT];exact a8);have a6:Pg.jy lJ (fits 220) 40 (260+1038) (-326443216012795292)=true:=Pg.Bg _ _ _ _ _ _ axQ (by rw [axR];exact a7);have a5:Pg.jy lJ (fits 220) 40 (260+1298) (-7008574521026492240)=true:=Pg.Bg _ _ _ _ _ _ axO (by rw [axP];exact a6);have a4:Pg.jy lJ (fits 220) 40 (260+1558) (-644356377554321860)=true:=Pg.Bg _ _ _ _ _ _ axM (by rw [axN];exact a5);have a3:Pg.jy lJ (fits 220) 40 (260+1818) 8399572877787008776=true:=Pg.Bg _ _ _ _ _ _ axK (by rw [axL];exact a4);have a2:Pg.jy lJ (fits 220) 40 (260+2078) 8949882279719470868=true:=Pg.Bg _ _ _ _ _ _ axI (by rw [axJ];exact a3);have a1:Pg.jy lJ (fits 220) 40 (260+2338) 9139760114735395424=true:=Pg.Bg _ _ _ _ _ _ axG (by rw [axH];exact a2);have a0:Pg.jy lJ (fits 220) 40 (260+2598) (-2744174768175047444)=true:=Pg.Bg _ _ _ _ _ _ axE (by rw [axF];exact a1);exact a0
def aya (b:List UInt8) (n:Nat) (hn:18446744073709551657+b.length<=n) (i:Nat) (h:Int) (hi:i<=b.length):(Pg.loop b vJ (fits 60) n i h).isSome=true:=
 Pg.amJ (h0:=2021368500568277588) (F:=40) axc (show Pg.One vJ from Pg.One.bind (show Pg.One (kQ 4) from trivial)) axD aJ aJ b 18446744073709551657 aJ (b.length - i) i n h rfl hi ah
def ayb (b:List UInt8) (n:Nat) (hn:18446744073709551657+b.length<=n) (i:Nat) (h:Int) (hi:i<=b.length):(Pg.loop b lJ (fits 220) n i h).isSome=true:=
 Pg.amJ (h0:=(-2744174768175047444)) (F:=40) axl (show Pg.One lJ from Pg.One.bind (show Pg.One (kQ 4) from trivial)) axZ aJ aJ b 18446744073709551657 aJ (b.length - i) i n h rfl hi ah
section
set_option linter.unusedSectionVars false
variable (b:List UInt8) (hb:b.length<=1048576) (N:Nat) (hN:2100000<=N)
include hb hN
omit hN in
theorem ayc:∀ (n j:Nat) (h:Int),b.length - j < n->j<=b.length->∃ r,MG N n (b,h,(j:Int))=some (b,0,r):=by
 intro n;induction n with
 | zero=>intro j h hn;omega
 | succ n ih=>
  intro j h hn hj;rw [MG];by_cases hlt:j < b.length
  .have e:ix b (j:Int)=some b[j]:=dx hlt;simp only [iT hlt,aM,aB];cases decide ((j:Int) < 4000) with
   | true=>
    rw [aM,e,aB,wrap64 (n:=(j:Int)+1) ah ah,show (j:Int)+1=((j+1:Nat):Int) by omega];exact ih (j+1) _ ah ah
   | false=>exact ⟨_,rfl⟩
  .simp only [jZ hlt,aI,aB];exact ⟨_,rfl⟩
theorem ail:∃ h,aae N b=some (b,0,h):=ayc b hb N N 0 _ ah ah
end
def agH:∀ t:av,(mW t).length=aV t:=by
 intro t;induction t using wY with
 | h t ih=>
  have key:∀ ts:List av,(∀ u,u∈ts->u∈t.kids)->(eP ts).length=aS ts:=by
   intro ts;induction ts with
   | nil=>intro _;rw [eP,aS];rfl
   | cons u ts ih2=>
    intro h;rw [eP,aS,jq,ih u<|h u aA,ih2 fun v hv=>h v<|by simp [hv]]
  rw [SG,FM,jq,key t.kids fun u hu=>hu];rfl
def ang (a:List aC):∀ (t:av) (s i:Nat),TA a t s i->∀ (k:Nat) (u:av),(mW t)[k]?=some u->∃ s',TA a u s' (s+k):=by
 intro t;induction t using wY with
 | h t ih=>
  intro s i hT k u hu;obtain ⟨n,hn,e1,e2,e3,e4,hka,hkl⟩:=hT.node;obtain ⟨p1,p2,_⟩:=hT.part;have hsz:=FM t;have key:∀ (ts:List av) (ks:List Int) (s e:Nat),(∀ v,v∈ts->v∈t.kids)->KA a ts ks s e->∀ (k:Nat) (u:av),(eP ts)[k]?=some u->∃ s',TA a u s' (s+k):=by
   intro ts;induction ts with
   | nil=>intro ks s e _ _ k u hu;rw [eP] at hu;simp at hu
   | cons v ts ih2=>
    intro ks s e hm hk k u hu;rw [KA] at hk;obtain ⟨kk,ks',rfl,h1,h2,h3,h4⟩:=hk;rw [eP] at hu;have hvl:=agH v;obtain ⟨q1,q2,_⟩:=h3.part;by_cases hlt:k < (mW v).length
    .rw [qR hlt] at hu;exact ih v (hm v aA) s kk h3 k u hu
    .rw [qP ah] at hu;obtain ⟨s',hs'⟩:=ih2 ks' (kk+1) e (fun w hw=>hm w<|by simp [hw]) h4 _ u hu;refine ⟨s',?_⟩;have e:kk+1+(k - (mW v).length)=s+k:=ah;rw [e] at hs';exact hs'
  have hlen:=agH t;rw [SG] at hu hlen;simp only [jq,LJ] at hlen;by_cases hlt:k < (eP t.kids).length
  .rw [qR hlt] at hu;exact key t.kids n.Kids s i (fun v hv=>hv) hka k u hu
  .rw [qP ah] at hu;have hk:k - (eP t.kids).length=0:=by
    cases e:k - (eP t.kids).length with
    | zero=>rfl
    | succ m=>rw [e] at hu;simp at hu
   rw [hk] at hu;simp at hu;subst hu;refine ⟨s,?_⟩;have e:s+k=i:=ah;rw [e];exact hT
def ayd:∀ t:av,∀ u,u∈mW t->eB u<=eB t/\aV u<=aV t:=by
 intro t;induction t using wY with
 | h t ih=>
  intro u hu;rw [SG] at hu;rcases kY.1 hu with hu|hu
  .have key:∀ ts:List av,(∀ v,v∈ts->v∈t.kids)->∀ u,u∈eP ts->eB u<=ig t.kids/\aV u<=aS t.kids:=by
    intro ts;induction ts with
    | nil=>intro _ u hu;rw [eP] at hu;cases hu
    | cons v ts ih2=>
     intro hm u hu;rw [eP] at hu;rcases kY.1 hu with hu|hu
     .have h1:=ih v (hm v aA) u hu;have h2:=Xn (hm v aA);have h3:=FL (hm v aA);omega
     .exact ih2 (fun w hw=>hm w<|by simp [hw]) u hu
   have h1:=key t.kids (fun v hv=>hv) u hu;have h2:=Xo t;have h3:=FM t;omega
  .rw [tu.1 hu];exact ⟨eD _,eD _⟩
def vL (B:Nat) (L:List aC):Prop:=∃ r:Nat->Nat,(∀ (i:Nat) (n:aC),L[i]?=some n->∀ k:Nat,(k:Int)∈n.Kids->k < i->r k < r i)/\∀ i,r i<=B
def vL.mono {B B':Nat} {L:List aC} (h:vL B L) (hB:B<=B'):vL B' L:=by
 obtain ⟨r,h1,h2⟩:=h;exact ⟨r,h1,fun i=>zx (h2 i) hB⟩
def vL.take {B:Nat} {L:List aC} (h:vL B L) (m:Nat):vL B (L.take m):=by
 obtain ⟨r,h1,h2⟩:=h;refine ⟨r,fun i n hn=>h1 i n ?_,h2⟩;rw [yj] at hn;split at hn
 .exact hn
 .cases hn
def vL.set {B:Nat} {L:List aC} (h:vL B L) (m:Nat) (x:aC):vL (2*B+1) (L.set m x):=by
 obtain ⟨r,h1,h2⟩:=h;refine ⟨fun i=>if i < m then r i else r i+(B+1),fun i n hn k hk hki=>?_,fun i=>?_⟩
 .dsimp only;have hb:=h2 k;by_cases e:i=m
  .subst e;rw [bQ hki,bA<|Ui _];omega
  .rw [List.getElem?_set_ne fun h=>e h.symm] at hn;have:=h1 i n hn k hk hki;by_cases g:i < m
   .rw [bQ g,bQ ah];exact this
   .rw [bA g];by_cases g2:k < m
    .rw [bQ g2];omega
    .rw [bA g2];omega
 .dsimp only;have:=h2 i;split<;>omega
def vL.dbl {B:Nat} {L:List aC} (h:vL B L) (hr:∀ x,x∈L->∀ k,k∈x.Kids->k < (L.length:Int)):vL (2*B+1) (L++L):=by
 obtain ⟨r,h1,h2⟩:=h;refine ⟨fun i=>if i < L.length then r i else r (i - L.length)+(B+1),fun i n hn k hk hki=>?_,fun i=>?_⟩
 .dsimp only;have hb:=h2 k;by_cases g:i < L.length
  .rw [qR g] at hn;rw [bQ g,bQ ah];exact h1 i n hn k hk hki
  .rw [qP ah] at hn;have:=hr n (kX hn) _ hk;rw [bA g,bQ ah];omega
 .dsimp only;have:=h2 i;have:=h2 (i - L.length);split<;>omega
def anh:∀ (ts:List av) (m:Nat),(∀ t,t∈ts->eB t<=m)->ig ts<=m
 | [],m,_=>by rw [ig];omega
 | t::ts,m,h=>by
  rw [ig];have h1:=h t aA;have h2:=anh ts m fun u hu=>h u (by simp [hu]);omega
def vL.dep {B:Nat} {L:List aC} (h:vL B L) {t:av} {s i:Nat} (hT:TA L t s i):eB t<=B+1:=by
 obtain ⟨r,h1,h2⟩:=h;have key:∀ t:av,∀ s i,TA L t s i->eB t<=r i+1:=by
  intro t;induction t using wY with
  | h t ih=>
   intro s i hT;obtain ⟨n,hn,_,_,_,_,hka,hkl⟩:=hT.node;rw [Xo];have:ig t.kids<=r i:=anh _ _ fun u hu=>by
    obtain ⟨j,hj⟩:=CV hu;obtain ⟨k,s',e1,e2,e3⟩:=hka.get j u hj;have g:=ih u hu s' k e2;have:=h1 i n hn k (kX e1) e3;omega
   omega
 have:=key t s i hT;have:=h2 i;omega
def ayf (t:av):vL (eB t) (bU 0 t):=by
 refine ⟨fun i=>((mW t)[i]?.map eB).getD 0,fun i n hn k hk hki=>?_,fun i=>?_⟩
 .dsimp only;have hT:TA (bU 0 t) t 0 (0+aV t - 1):=by
   have:=ayg t;rw [vU] at this;rw [qV];exact this
  have hl:=agH t;have hi:i < (bU 0 t).length:=(dw.1 hn).1;rw [vU] at hi;have e1:(mW t)[i]?=some ((mW t)[i]' ah):=eZ ah;have e2:(mW t)[k]?=some ((mW t)[k]' ah):=eZ ah;obtain ⟨s1,t1⟩:=ang (bU 0 t) t 0 _ hT i _ e1;obtain ⟨s2,t2⟩:=ang (bU 0 t) t 0 _ hT k _ e2;rw [qV] at t1 t2;obtain ⟨n',hn',_,_,_,_,hka,hkl⟩:=t1.node;rw [hn] at hn';cases hn';obtain ⟨j,hj⟩:=CV hk;have hjl:=(dw.1 hj).1;have hu:((mW t)[i]' ah).kids[j]?=some (((mW t)[i]' ah).kids[j]' ah):=eZ ah;obtain ⟨k',s',g1,g2,g3⟩:=hka.get j _ hu;rw [hj] at g1;have:k=k':=by have:=lD g1;omega
  subst this;have:=(t2.uniq g2).1;rw [e1,e2,this];have hd:=Xn (kX hu);have:=Xo ((mW t)[i]' ah);show eB _ < eB _;omega
 .dsimp only;cases e:(mW t)[i]? with
  | none=>exact zy _
  | some u=>exact (ayd t u<|kX e).1
def OB (L:List aC):Prop:=∃ t,L=bU 0 t/\Gd 1500 12 t
def ayh (L:List aC):Prop:=∀ x,x∈L->∀ k,k∈x.Kids-> -9223372036854775808<=k/\k<=9223372036854775807
def abL (L:List aC):Prop:=SmS L/\L.length<=3000/\ayh L
def ayi {m d:Nat} {t:av} (h:Gd m d t) (hm:m<=10000):SmS (bU 0 t):=fun x hx=>by
 have h1:=abM t 0 x hx;have h2:=h.2.2 x hx;have:=h.1;exact ⟨ah,h2.1,h2.2⟩
def OB.spo {L:List aC} (h:OB L):abL L/\1<=L.length/\L.length<=1500:=by
 obtain ⟨t,rfl,ht⟩:=h;have:=uK t;have:=ht.1;exact ⟨⟨ayi ht ah,by rw [vU];omega,fun x hx k hk=>by have:=XF t 0 x hx k hk;omega⟩,by rw [vU];omega,by rw [vU];omega⟩
def Ez (L:List aC):Prop:=abL L/\vL 25 L
def OB.rk {L:List aC} (h:OB L):vL 12 L:=by
 obtain ⟨t,rfl,ht⟩:=h;exact (ayf t).mono ht.2.1
section
set_option linter.unusedSectionVars false
variable (b:List UInt8) (hb:b.length<=1048576) (N:Nat) (hN:18446744073709551657+2097152<=N)
include hb hN
theorem ani (i h:Int) (h0:0<=i) (h1:i<=(b.length:Int)):Dr b (fun L=>∃ t,L=bU 0 t/\Gd 60 6 t) (Rb N b i h):=by
 obtain ⟨i,rfl⟩:=qU h0;have e:Rb N b (i:Int) h=_:=axd b hb (N:=N) ah N i h ah;have hs:=aya b N ah i h ah;cases hl:Pg.loop b vJ (fits 60) N i h with
 | none=>rw [hl] at hs;cases hs
 | some r=>
  obtain ⟨g1,g2,g3⟩:=Pg.agp b axb (fits 60) N i h r ah hl;rw [e,hl];exact ⟨_,_,_,rfl,⟨r.1,rfl,EC g2,g1.2⟩,ah,ah⟩
theorem ayj (i h:Int) (h0:0<=i) (h1:i<=(b.length:Int)):Dr b (fun L=>∃ t,L=bU 0 t/\Gd 220 12 t) (Vi N b i h):=by
 obtain ⟨i,rfl⟩:=qU h0;have e:Vi N b (i:Int) h=_:=axx b hb (N:=N) ah ah N i h ah;have hs:=ayb b N ah i h ah;cases hl:Pg.loop b lJ (fits 220) N i h with
 | none=>rw [hl] at hs;cases hs
 | some r=>
  obtain ⟨g1,g2,g3⟩:=Pg.agp b axf (fits 220) N i h r ah hl;rw [e,hl];exact ⟨_,_,_,rfl,⟨r.1,rfl,EC g2,g1.2⟩,ah,ah⟩
theorem ayk (d:Nat) (hd:d<=2) (i h:Int) (h0:0<=i) (h1:i<=(b.length:Int)):Dr b (fun L=>∃ t,L=bU 0 t/\Gd 1500 9 t) (BR N (d:Int) b i h):=by
 obtain ⟨i,rfl⟩:=qU h0;have hs:ss d<=1500:=by
  have:d=0\/d=1\/d=2:=ah;rcases this with rfl|rfl|rfl<;>decide
 exact awI ah (axt b hb (N:=N) ah (d:=d) ah ah (d:Int) rfl ah i h ah) (Cy d) fun t ht=>⟨t,rfl,ht.mono hs ah⟩
theorem anj (i h:Int) (h0:0<=i) (h1:i<=(b.length:Int)):Dr b OB (Rn N b i h):=by
 have k1:∀ (r:Int) (i h:Int) (y:Bool),0<=i->i<=(b.length:Int)->Dr b OB (Rm N b ((r,i,h),y)):=fun r i h y h0 h1=>by
  unfold Rm;dsimp only;refine Dr.cond (fun _=>SK<|(ani b hb N hN i h h0 h1).imp ?_) fun _=>Dr.cond (fun _=>SK<|(ayk b hb N hN 2 ah i h h0 h1).imp ?_) fun _=>SK ((ayj b hb N hN i h h0 h1).imp ?_)
  .rintro L ⟨t,rfl,ht⟩;exact ⟨t,rfl,ht.mono ah ah⟩
  .rintro L ⟨t,rfl,ht⟩;exact ⟨t,rfl,ht.mono ah ah⟩
  .rintro L ⟨t,rfl,ht⟩;exact ⟨t,rfl,ht.mono ah ah⟩
 unfold Rn;refine Dr.bind (Cr b hb _ i h h0 h1) fun r i h hr h0 h1=>?_;dsimp only;exact Dr.cond (fun _=>k1 r i h _ h0 h1) fun _=>k1 r i h _ h0 h1
theorem Tq {α:Type} {Q:α->Prop} {L:List aC} (hL:abL L) (hR:vL 12 L) {k:Int} (h0:0<=k) (h1:k < (L.length:Int)) {x:aC} (hx:(x.Kids.length<=20000/\x.Text.length<=20/\x.Other.length<=20)/\∀ k,k∈x.Kids-> -9223372036854775808<=k/\k<=9223372036854775807) {f:List aC->Option (α×Int×Int)} (hf:∀ L',Ez L'->L'.length=L.length->Dr b Q (f L')):Dr b Q (Option.bind (upd L k x) f):=by
 obtain ⟨k,rfl⟩:=qU h0;have hk:k < L.length:=ah;rw [aez hk,aB];refine hf _ ⟨⟨fun y hy=>?_,by rw [adl];exact hL.2.1,fun y hy=>?_⟩,hR.set _ _⟩ (adl ..)
 .rcases acU hy with h|h
  .exact hL.1 y h
  .rw [h];exact hx.1
 .rcases acU hy with h|h
  .exact hL.2.2 y h
  .rw [h];exact hx.2
theorem XG {α:Type} {Q:α->Prop} {L:List aC} (hL:abL L) {k:Int} (h0:0<=k) (h1:k < (L.length:Int)) {f:aC->Option (α×Int×Int)} (hf:∀ x,x∈L->Dr b Q (f x)):Dr b Q (Option.bind (ix L k) f):=by
 obtain ⟨k,rfl⟩:=qU h0;have hk:k < L.length:=ah;rw [dx hk,aB];exact hf _ (nW hk)
theorem ayl (i h:Int) (h0:0<=i) (h1:i<=(b.length:Int)):Dr b Ez (Vj N b i h):=by
 unfold Vj;refine Dr.bind (anj b hb N hN i h h0 h1) fun L i h hL h0 h1=>?_;obtain ⟨hS,hl1,hl2⟩:=hL.spo;have hR:=hL.rk;dsimp only;refine Dr.bind (Cr b hb _ i h h0 h1) fun k i h hk h0 h1=>?_;have k0:=hk.1;have k1:k < (L.length:Int):=ah;dsimp only;refine Dr.bind (Cr b hb _ i h h0 h1) fun r i h hr h0 h1=>?_;dsimp only;have fin:∀ (L':List aC) (i h:Int),Ez L'->0<=i->i<=(b.length:Int)->Dr b Ez (Nb N b (L',i,h)):=fun L' i h hL' h0 h1=>Dr.some hL' h0 h1;refine Dr.cond (fun _=>?_) fun _=>Dr.cond (fun _=>?_) fun _=>Dr.cond (fun _=>?_) fun _=>Dr.cond (fun _=>?_) fun _=>fin L i h ⟨hS,hR.mono ah⟩ h0 h1
 .obtain ⟨k,rfl⟩:=qU k0;have e:cut L 0 (k:Int)=some (L.take k):=by
   have:=akj (l:=L) (a:=0) (b:=k) ah ah;rw [Js,Nat.sub_zero] at this;exact this
  rw [e,aB];exact Dr.some ⟨⟨fun x hx=>hS.1 x<|acY hx,by have:=hS.2.1;simp;omega,fun x hx=>hS.2.2 x<|acY hx⟩,(hR.take _).mono ah⟩ h0 h1
 .refine XG b hb N hN hS k0 k1 fun x hx=>?_;refine Dr.bind (agk b hb (P:=fun o=>-9223372036854775808<=o/\o<=9223372036854775807) _ i h h0 h1 (by show 0 < 4;decide) fun o ho=>by
   simp only [gQ,LX,Md] at ho;rcases ho with rfl|rfl|rfl|rfl<;>omega) fun o i h ho h0 h1=>?_
  have hxs:=hS.1 x hx;have hxi:=hS.2.2 x hx;dsimp only;obtain ⟨t,rfl,ht⟩:=hL;have hkl:=abM t 0 x hx;have:=ht.1;rw [pG bF,aB];refine Tq b hb N hN hS hR k0 k1 ?_ fun L' hL' _=>fin L' i h hL' h0 h1;exact ⟨⟨bF,hxs.2.1,hxs.2.2⟩,fun k hk=>by
   rcases kY.1 hk with h|h
   .exact hxi k h
   .rw [tu.1 h];exact ho⟩
 .obtain ⟨k,rfl⟩:=qU k0;have hkn:k < L.length:=ah;have ek:ix L (k:Int)=some L[k]:=dx hkn;simp only [ek,aB];refine Dr.cond (fun hc=>?_) fun _=>fin L i h ⟨hS,hR.mono ah⟩ h0 h1;have h00:0 < L[k].Kids.length:=by have:=nX hc;omega
  refine Dr.bind (Cr b hb _ i h h0 h1) fun o i h ho h0 h1=>?_;rw [wrap64 ah ah] at ho;have hxs:=hS.1 _ (nW hkn);have hxi:=hS.2.2 _ (nW hkn);have e1:ix L[k].Kids 0=some L[k].Kids[0]:=dx (i:=0) h00;have e2:∀ v,upd L[k].Kids 0 v=some (L[k].Kids.set 0 v):=fun v=>aez (i:=0) h00;dsimp only;rw [e1,aB,e2,aB];refine Tq b hb N hN hS hR ah k1 ?_ fun L' hL' _=>fin L' i h hL' h0 h1;exact ⟨⟨by show (List.set _ _ _).length<=_;rw [adl];exact hxs.1,hxs.2.1,hxs.2.2⟩,fun k' hk'=>by
   rcases acU hk' with h|h
   .exact hxi k' h
   .rw [h];obtain ⟨ho1,ho2⟩:=ho;rw [wrap64 ah ah];omega⟩
 .rw [pG ah,aB];exact Dr.some ⟨⟨fun x hx=>by
   rcases kY.1 hx with h|h<;>exact hS.1 x h,by rw [jq];omega,fun x hx=>by
   rcases kY.1 hx with h|h<;>exact hS.2.2 x h⟩,hR.dbl fun x hx j hj=>by
   obtain ⟨t,rfl,ht⟩:=hL;have:=XF t 0 x hx j hj;rw [vU];omega⟩ h0 h1
theorem aym (i h:Int) (h0:0<=i) (h1:i<=(b.length:Int)):Dr b Ez (Vm N b i h):=by
 unfold Vm;refine Dr.bind (anj b hb N hN i h h0 h1) fun L i h hL h0 h1=>?_;obtain ⟨hS,hl1,hl2⟩:=hL.spo;have hR:=hL.rk;dsimp only;refine Dr.bind (Cr b hb _ i h h0 h1) fun k i h hk h0 h1=>?_;have k0:=hk.1;have k1:k < (L.length:Int):=ah;dsimp only;refine Dr.bind (Cr b hb _ i h h0 h1) fun r i h hr h0 h1=>?_;dsimp only;have fin:∀ (L':List aC) (i h:Int),Ez L'->0<=i->i<=(b.length:Int)->Dr b Ez (JU N b (L',i,h)):=fun L' i h hL' h0 h1=>Dr.some hL' h0 h1;refine Dr.cond (fun _=>?_) fun _=>Dr.cond (fun _=>?_) fun _=>Dr.cond (fun _=>?_) fun _=>Dr.cond (fun _=>?_) fun _=>Dr.cond (fun _=>SK<|ayl b hb N hN i h h0 h1) fun _=>fin L i h ⟨hS,hR.mono ah⟩ h0 h1
 .refine Dr.bind (Cr b hb _ i h h0 h1) fun o i h _ h0 h1=>XG b hb N hN hS k0 k1 fun x hx=>?_;refine Tq b hb N hN hS hR k0 k1 ?_ fun L' hL' _=>fin L' i h hL' h0 h1;exact ⟨hS.1 x hx,hS.2.2 x hx⟩
 .refine Dr.bind (agk b hb (P:=fun _=>True) _ i h h0 h1 aJ fun _ _=>trivial) fun o i h _ h0 h1=>XG b hb N hN hS k0 k1 fun x hx=>?_;refine Tq b hb N hN hS hR k0 k1 ?_ fun L' hL' _=>fin L' i h hL' h0 h1;exact ⟨hS.1 x hx,hS.2.2 x hx⟩
 .refine Dr.bind (amA b hb 20 _ i h h0 h1 aJ aJ) fun o i h ho h0 h1=>XG b hb N hN hS k0 k1 fun x hx=>?_;refine Tq b hb N hN hS hR k0 k1 ?_ fun L' hL' _=>fin L' i h hL' h0 h1;exact ⟨⟨(hS.1 x hx).1,ho,(hS.1 x hx).2.2⟩,hS.2.2 x hx⟩
 .refine Dr.bind (amA b hb 20 _ i h h0 h1 aJ aJ) fun o i h ho h0 h1=>XG b hb N hN hS k0 k1 fun x hx=>?_;refine Tq b hb N hN hS hR k0 k1 ?_ fun L' hL' _=>fin L' i h hL' h0 h1;exact ⟨⟨(hS.1 x hx).1,(hS.1 x hx).2.1,ho⟩,hS.2.2 x hx⟩
end
section
set_option linter.unusedSectionVars false
variable (b:List UInt8) (hb:b.length<=1048576) (N:Nat) (hN:18446744073709551657+2097152<=N)
include hb hN
theorem ain (i h:Int) (h0:0<=i) (h1:i<=(b.length:Int)):Dr b Ez (Vn N b i h):=by
 unfold Vn;refine Dr.bind (abv b hb 10 i h h0 h1) fun r i h _ h0 h1=>?_;dsimp only;refine Dr.cond (fun _=>SK<|aym b hb N hN i h h0 h1) fun _=>SK ((ani b hb N hN i h h0 h1).imp ?_);rintro L ⟨t,rfl,ht⟩;have h:OB (bU 0 t):=⟨t,rfl,ht.mono ah ah⟩
 exact ⟨h.spo.1,h.rk.mono ah⟩
omit hN in
theorem aio (i h:Int) (h0:0<=i) (h1:i<=(b.length:Int)):Dr b (fun _=>True) (Vo b i h):=by
 unfold Vo;have k1:∀ (r6 r7 r8:Bool×Int×Int) (v:Int) (d:Bool) (i h:Int),0<=i->i<=(b.length:Int)->Dr b (fun _:aK=>True) (JV b (r6,r7,r8,v,d,i,h)):=fun r6 r7 r8 v d i h h0 h1=>Dr.some trivial h0 h1;have k2:∀ (r5:Int×Int×Int) (r6 r7 r8:Bool×Int×Int) (r i h:Int) (y:Bool),0<=i->i<=(b.length:Int)->Dr b (fun _:aK=>True) (Nc b (r5,r6,r7,r8,(r,i,h),y)):=fun r5 r6 r7 r8 r i h y h0 h1=>by
  unfold Nc;exact Dr.cond (fun _=>k1 _ _ _ _ _ _ _ h0 h1) fun _=>k1 _ _ _ _ _ _ _ h0 h1
 refine Dr.bind (Cr b hb _ i h h0 h1) fun r5 i h _ h0 h1=>Dr.bind (abv b hb _ i h h0 h1) fun r6 i h _ h0 h1=>Dr.bind (abv b hb _ i h h0 h1) fun r7 i h _ h0 h1=>Dr.bind (abv b hb _ i h h0 h1) fun r8 i h _ h0 h1=>Dr.bind (Cr b hb _ i h h0 h1) fun cZ i h _ h0 h1=>?_;dsimp only;refine Dr.cond (fun _=>?_) fun _=>Dr.cond (fun _=>k1 _ _ _ _ _ _ _ h0 h1) fun _=>Dr.cond (fun _=>k1 _ _ _ _ _ _ _ h0 h1) fun _=>Dr.cond (fun _=>k2 _ _ _ _ _ _ _ _ h0 h1) fun _=>Dr.cond (fun _=>k2 _ _ _ _ _ _ _ _ h0 h1) fun _=>k2 _ _ _ _ _ _ _ _ h0 h1;exact Dr.bind (agk b hb (P:=fun _=>True) _ i h h0 h1 (by show 0 < 3;decide) fun _ _=>trivial) fun o i h _ h0 h1=>k1 _ _ _ _ _ _ _ h0 h1
omit hN in
end
def YB (N:Nat) (a:List aC) (hN:1048577+400 < N) (hs:∀ x,x∈a->yB x):∃ b:Bool,LG N a=some b/\Nv N a=some b/\(b=true->vG a=true/\∀ t,TA a t 0 (a.length - 1)->jd t.kind=true):=by
 obtain ⟨b,b1,b2,b3⟩:=ayn N a hN hs;unfold LG Nv;rw [b1,b2];simp only [aB];cases b with
 | false=>exact ⟨false,rfl,rfl,fun h=>by cases h⟩
 | true=>
  obtain ⟨h1,h2⟩:=b3 rfl;obtain ⟨l1,l2,_⟩:=Ji h1;have hlt:a.length - 1 < a.length:=ah;have hx:=dx hlt;rw [wrap64 ah ah,show (a.length:Int) - 1=((a.length - 1:Nat):Int) by omega,hx];simp only [aM,aB,Ea,Iy];refine ⟨_,rfl,rfl,fun h=>⟨h1,fun t ht=>?_⟩⟩;obtain ⟨n,hn,e1,_⟩:=ht.node;rw [eZ hlt] at hn;cases hn;rw [e1];exact h
def ank (G:Nat) (t:av) (ht:aV t<=1000000) (ih:∀ k,k∈t.kids->(Ol G).Bc k=some (aV k:Int)):∀ (ts:List av) (n j m:Nat),t.kids.drop j=ts->ts.length < n->j<=t.kids.length->m+aS ts<=1000000->
  KJ G (Ol G) n (t,(m:Int),(j:Int))=some ((m+aS ts:Nat):Int)
 | [],n,j,m,hd,hn,hj,hm=>by
  obtain ⟨n,rfl⟩:∃ q,n=q+1:=⟨n - 1,by simp at hn;omega⟩
  have hlt: ¬j < t.kids.length:=by
   intro h;rw [drop_cons h] at hd;cases hd
  rw [KJ];simp only [jZ hlt,aI,aS,EF]
 | k::ts,n,j,m,hd,hn,hj,hm=>by
  simp only [kF] at hn;rw [aS] at hm;obtain ⟨n,rfl⟩:∃ q,n=q+1:=⟨n - 1,ah⟩
  have hlt:j < t.kids.length:=by
   cases vZ j t.kids.length with
   | inl h=>exact h
   | inr h=>rw [Gf h] at hd;cases hd
  have htl:=Af t.kids;have hs:=FM t;rw [drop_cons hlt] at hd;injection hd with hd1 hd2;rw [KJ];simp only [iT hlt,aM,dx hlt,aB,hd1,ih k<|by rw [<- hd1];exact nW hlt];rw [wrap64 (n:=(m:Int)+(aV k:Int)) ah ah,MB hlt<|by simp only [maxLen];omega];have:=ank G t ht ih ts n (j+1) (m+aV k) hd2 ah ah ah;refine Gr this ?_;rw [aS,Gm]
def ayo:∀ (t:av) (N:Nat),2*aV t+2<=N->aV t<=1000000->(Ol N).Bc t=some (aV t:Int):=by
 intro t;induction t using wY with
 | h t ih=>
  intro N hN hsz;obtain ⟨M,rfl⟩:∃ M,N=M+1:=⟨N - 1,ah⟩
  have hs:=FM t;have htl:=Af t.kids;have:=ank M t hsz (fun k hk=>ih k hk M (by have:=FL hk;omega) (by have:=FL hk;omega)) t.kids M 0 1 rfl ah ah ah;refine Gr this ?_;rw [hs,Nat.add_comm]
def aip (x:List UInt8):aad x=some (decide<|(x.length:Int) > 1048576):=rfl
def ayp (k:Int):(spl k).length<=10:=by
 have key:∃ x:List UInt8,DC k=some x/\x.length<=10:=by
  unfold DC;rw [FE,FE,abm,afK];simp only [aB];cases h1:(k==1) with
  | true=>exact ⟨[10],rfl,aA⟩
  | false=>
   cases h2:(decide (k>=10)&&decide (k<=26)) with
   | true=>
    simp only [dP,lQ] at h2;obtain ⟨j,rfl⟩:∃ j:Nat,k=(j:Int)+10:=⟨(k - 10).toNat,ah⟩
    have hl:rR.length=17:=rfl;have hw:IntKind.wrap .i64 ((j:Int)+10 - 10)=(j:Int):=by rw [wrap64 ah ah];omega
    have ha:(rR.all fun x=>decide<|x.length<=10)=true:=rfl;rw [aI,aM,hw,dx ah];exact ⟨_,rfl,nX<|ku.1 ha _<|nW _⟩
   | false=>
    cases h3:(decide (k>=30)&&decide (k<=68)) with
    | true=>
     simp only [dP,lQ] at h3;obtain ⟨j,rfl⟩:∃ j:Nat,k=(j:Int)+30:=⟨(k - 30).toNat,ah⟩
     have hl:zo.length=39:=rfl;have hw:IntKind.wrap .i64 ((j:Int)+30 - 30)=(j:Int):=by rw [wrap64 ah ah];omega
     have ha:(zo.all fun x=>decide<|x.length<=10)=true:=rfl;rw [aI,aI,aM,hw,dx ah];exact ⟨_,rfl,nX<|ku.1 ha _<|nW _⟩
    | false=>exact ⟨[],rfl,aA⟩
 obtain ⟨x,h1,h2⟩:=key;have:=amo k;rw [h1] at this;rw [<- lD this];exact h2
def kE (x:List aG):Prop:=∀ t,t∈x->SE t
def kE.nil:kE []:=fun t h=>by cases h
def kE.app {x y:List aG} (hx:kE x) (hy:kE y):kE (x++y):=fun t h=>by
 rcases kY.1 h with h|h
 .exact hx t h
 .exact hy t h
def kE.one {k:Int} {x:List UInt8} (hx:x.length<=1048576):kE [⟨k,x,0⟩]:=fun u h=>by rw [tu.1 h];exact hx
def kE.sg (k:Int):kE [sg k]:=.one (by have:=ayp k;omega)
def kE.cons {t:aG} {x:List aG} (ht:kE [t]) (hx:kE x):kE (t::x):=.app (x:=[t]) ht hx
def kE.getD {l:List (List aG)} (h:∀ x,x∈l->kE x) (j:Nat):kE (l.getD j []):=by
 rw [Gg];cases e:l[j]? with
 | none=>exact .nil
 | some x=>exact h x (kX e)
def anl:∀ (l:List (List aG)) (b:Bool),(∀ x,x∈l->kE x)->kE (dV b l)
 | [],b,_=>by rw [dV];exact .nil
 | x::l,b,h=>by
  rw [dV];refine .app ?_ (.app (h x aA)<|anl l true fun y hy=>h y<|by simp [hy]);cases b with
  | false=>exact .nil
  | true=>exact .sg 36
def kE.par {b:Bool} {x y:List aG} (hx:kE x) (hy:kE y):kE (yU b x y):=by
 cases b with
 | false=>exact hx
 | true=>exact .cons (.sg 32) (.app hy<|.sg 33)
def ayq (k o:Int) (x:List UInt8) (hx:x.length<=1048576) (l:List (List aG)) (hl:∀ x,x∈l->kE x):kE (jP k o x l):=by
 have d:=kE.getD hl;have li:=anl l false hl;have cd:∀ (b:Bool) (u v:List aG),kE u->kE v->kE (bif b then u else v):=fun b u v h1 h2=>by cases b<;>assumption
 unfold jP;exact cd _ _ _ (.one hx) <| cd _ _ _ (.one hx) <| cd _ _ _ (.one hx) <| cd _ _ _ (.one hx)
  <| cd _ _ _ (.cons (.one hx)<|.cons (.sg _)<|.app li<|.sg _) <| cd _ _ _ (.cons (.one hx)<|.cons (.sg _)<|.app li<|.sg _) <| cd _ _ _ (.cons (.one hx)<|.cons (.sg _)<|.app li<|.sg _)
  <| cd _ _ _ (.cons (.sg _)<|d 0) <| cd _ _ _ (.cons (.sg _)<|d 0) <| cd _ _ _ (.cons (.sg _)<|d 0) <| cd _ _ _ (.app (d 0)<|.sg _)
  <| cd _ _ _ (.app (cd _ _ _ (.cons (.sg _)<|.app li<|.sg _)<|d 0)<|.cons (.sg _)<|.one hx)
  <| cd _ _ _ (.app (d 0)<|.cons (.sg _)<|.app (d 1)<|.cons (.sg _)<|d 2) (.app (d 0)<|.app (cd _ _ _ .nil<|.sg _)<|d 1)
def TxA (t:av):Prop:=t.text.length<=1048576
mutual
def anm:∀ (t:av) (b:Nat),(∀ x,x∈bU b t->tx x)->allT TxA t
 | ⟨k,o,x,y,ks⟩,b,h=>by
  rw [bU] at h;rw [allT];exact ⟨(h ⟨k,o,x,y,mZ b ks⟩ aA).1,ano ks b fun x hx=>h x<|by simp [hx]⟩
def ano:∀ (ts:List av) (b:Nat),(∀ x,x∈jW b ts->tx x)->Ac TxA ts
 | [],b,h=>by rw [Ac];trivial
 | t::ts,b,h=>by
  rw [jW] at h;rw [Ac];exact ⟨anm t b fun x hx=>h x (by simp [hx]),ano ts _ fun x hx=>h x<|List.mem_append_right _ hx⟩
end
def anp (f:Bool):∀ t:av,allT TxA t->∀ p,kE (dD f t p):=by
 intro t;induction t using wY with
 | h t ih=>
  intro hg p;rw [fJ];refine ayq _ _ _ (vV hg) _ ?_;have key:∀ (ts:List av) (j:Nat),(∀ u,u∈ts->u∈t.kids)->∀ x,x∈bC f t.kind t.op t.kids.length j p ts->kE x:=by
   intro ts;induction ts with
   | nil=>intro j _ x hx;rw [bC] at hx;cases hx
   | cons u ts ih2=>
    intro j hm x hx;rw [fH] at hx;rcases gQ.1 hx with rfl|hx
    .have hu:=hm u aA;have hB:=ih u hu (DV hg u hu);unfold bN bY;cases tgt t.kind j with
     | true=>exact hB _
     | false=>exact kE.par (hB _) (hB _)
    .exact ih2 (j+1) (fun v hv=>hm v<|by simp [hv]) x hx
  exact key t.kids 0 fun u hu=>hu
def aik (f:Bool) (t:av) (hx:TS t) (p:aK):kE (bY f t p):=by
 have h:=anm t 0 hx;unfold bY;exact kE.par (anp f t h p) (anp f t h iA)
def ayr (k:Int):Kz k=some (mD k):=by
 unfold Kz mD;cases (k==32)<;>cases (k==34)<;>rfl
def ays (k:Int):KC k=some (oz k):=by
 unfold KC oz;cases (k==33)<;>cases (k==35)<;>rfl
def ayt (N:Nat) (a:List aG) (ha:a.length<=3000):∀ (n i d:Nat),a.length - i < n->i<=a.length->d<=40->∃ r,DJ N n (a,(d:Int),(i:Int))=some r/\(oW d (a.drop i)=true->r= -1)/\(oW d (a.drop i)=false->0<=r/\r < (a.length:Int)):=by
 intro n;induction n with
 | zero=>intro i d h;omega
 | succ n ih=>
  intro i d hn hi hd;rw [DJ];by_cases hlt:i < a.length
  .have k2:∀ (d':Nat) (v:Int),v=(d':Int)->d'=vH d a[i].Kind->∃ r,NQ N (DJ N n) ((i:Int),a,v)=some r/\(oW d (a.drop i)=true->r= -1)/\(oW d (a.drop i)=false->0<=r/\r < (a.length:Int)):=fun d' v hv hd'=>by
    subst hv;unfold NQ;dsimp only;rw [Jj hlt,oW,<- hd'];by_cases Eb:d'<=40
    .rw [uL (show¬(d':Int) > 40 by omega),mH Eb,aI,wrap64 ah ah,show (i:Int)+1=((i+1:Nat):Int) by omega,BF];exact ih (i+1) d' ah ah Eb
    .rw [mH (show (d':Int) > 40 by omega),uL Eb,aM,YV];exact ⟨_,rfl,(fun h=>by cases h),fun _=>⟨ah,ah⟩⟩
   rw [iT hlt,aM,dx hlt,aB,ayr,aB,ays,aB];cases ho:mD a[i].Kind with
   | true=>
    rw [aM,wrap64 ah ah];exact k2 (d+1) _ ah (by unfold vH;rw [ho,(Xm ho).1];rfl)
   | false=>
    rw [aI];cases hc:oz a[i].Kind with
    | true=>
     rw [aM,wrap64 ah ah];exact k2 (d - 1) _ (by split<;>omega) (by unfold vH;rw [ho,hc];rfl)
    | false=>
     rw [aI];exact k2 d _ rfl (by unfold vH;rw [ho,hc];rfl)
  .rw [jZ hlt,aI];exact ⟨-1,rfl,fun _=>rfl,fun h=>by rw [Gf ah] at h;cases h⟩
def ayu (N:Nat) (a:List aG) (ha:a.length<=3000) (hN:3000 < N):∃ r,aaX N a=some r/\(oW 0 a=true->r= -1)/\(oW 0 a=false->0<=r/\r < (a.length:Int)):=by
 have:=ayt N a ha N 0 0 ah ah ah;rw [Js] at this;exact this
def ayv (N:Nat) (a:List aG) (ha:a.length<=3000) (hN:3000 < N) (h:Ey N a=some true):∃ c,WI N a=some c/\(oW 0 a=true->c=⟨0,0⟩)/\(oW 0 a=false->c.Kind=4):=by
 obtain ⟨r,r1,r2,r3⟩:=ayu N a ha hN;unfold WI;rw [h,aB,r1];simp only [mI,aI,aB];cases hn:oW 0 a with
 | true=>
  rw [r2 hn];exact ⟨_,rfl,fun _=>rfl,fun h=>by cases h⟩
 | false=>
  obtain ⟨g1,g2⟩:=r3 hn;obtain ⟨j,rfl⟩:∃ j:Nat,r=(j:Int):=⟨r.toNat,ah⟩
  have hj:j < a.length:=ah;rw [mH (show (j:Int)>=0 by omega),aM];unfold WH;rw [iT hj,aM,dx hj];exact ⟨_,rfl,(fun h=>by cases h),fun _=>rfl⟩
def agK {x:Option (fu×Int×Bool×List (List UInt8))} {r:fu×Int×Bool×List (List UInt8)} (h:x=some r):Option.bind x (fun r=>some (r.1,r.2.1,r.2.2.1,r.2.2.2))=some r:=by rw [h];rfl
def ayw (N:Nat) (hN:2000000<=N) (l:List aG) (hl:l.length<=3000) (t:av) (p:aK) (hp:posB p=true) (h:Bool) (d:gy l p 0 l.length t h) (hz:aV t<=400):WU N p l 0 false []=some (eY t h,(l.length:Int),false,[]):=by
 have hk:kd l l.length=0:=by unfold kd;rw [Bz<|eD _];rfl
 obtain ⟨j,hj⟩:∃ j,j=l.length:=⟨_,rfl⟩
 rw [<- hj] at d hk ⊢;have fs:=d.first
 obtain ⟨v,dl,a,g,s⟩:=p;have hs:(bif s then (dY l 0 false []).bind fun gq=>(NR gq).bind fun bZ=>some (!bZ) else some false)=some false:=by
  cases s with
  | false=>rfl
  | true=>
   have e:dY l ((0:Nat):Int) false []=some (kd l 0):=by rw [dX]
   have e:dY l 0 false []=some (kd l 0):=e;rw [aM,e,aB,agL,fs.s rfl];rfl
 unfold WU;rw [show (⟨v,dl,a,g,s⟩:aK).jk=s from rfl,hs,aB,aI];have hv:1<=v/\v<=15/\(dl=true->v=14):=by
  unfold posB at hp;simp only [dP,lQ,lS,lU,oZ] at hp;refine ⟨hp.1.1,hp.1.2,fun e=>?_⟩;rcases hp.2 with g|g
  .rw [e] at g;cases g
  .exact g
 obtain ⟨hv1,hv2,hv3⟩:=hv;have main:(h=true\/v<=lv t.kind t.op)->pF (aU N) v ⟨a,g⟩ l 0 false []=some (eY t h,(j:Int),false,[]):=fun hh=>by
  have hr:=ayx l hl d hz ⟨v,dl,a,g,s⟩ rfl rfl v hv1 hv2 hh (by rw [hk];exact anq _);have:=hr N (by show _+4*(16 - v.toNat)<=N;omega) [];exact this
 have low:v≠14\/dl=false->h=true\/v<=lv t.kind t.op:=fun e=>by
  have:dl=false:=by
   cases dl with
   | false=>rfl
   | true=>
    have:=hv3 rfl;rcases e with e|e
    .exact absurd this e
    .exact e
  exact d.lvl this
 have hc:v=1\/v=2\/v=3\/v=4\/v=5\/v=6\/v=7\/v=8\/v=9\/v=10\/v=11\/v=12\/v=13\/v=14\/v=15:=ah;rcases hc with e|e|e|e|e|e|e|e|e|e|e|e|e|e|e<;>subst e
 case inr.inr.inr.inr.inr.inr.inr.inr.inr.inr.inr.inr.inr.inl=>
  show Option.bind (bif dl then (dY l 0 false []).bind fun Ci=>(AX Ci).bind fun og=>some og else some false) _=_;by_cases hh:h=true\/14<=lv t.kind t.op
  .have hst:(bif dl then (dY l 0 false []).bind fun Ci=>(AX Ci).bind fun og=>some og else some false)=some false:=by
    cases dl with
    | false=>rfl
    | true=>
     have e:dY l ((0:Nat):Int) false []=some (kd l 0):=by rw [dX]
     have e:dY l 0 false []=some (kd l 0):=e;have hb:=fs.b hh;have f1:(kd l 0==51)=false:=by simpa using hb.1
     have f2:(kd l 0==52)=false:=by simpa using hb.2
     rw [aM,e,aB,OC,f1,f2];rfl
   rw [hst,aB,aI];exact agK (main hh)
  .have hd:dl=true:=by
    cases hd:dl with
    | true=>rfl
    | false=>exact absurd (low<|.inr hd) hh
   subst hd;cases d with
   | par=>exact absurd (.inl rfl) hh
   | bare g1 g2 g3 g4=>
    have hnl: ¬14<=lv t.kind t.op:=fun e=>hh (.inr e);have Cz:t.kind=9:=by
     unfold mo at g1;simp only [dP,lS,BF,lQ,oZ] at g1;rcases g1.2.2.2.2 with e|e
     .exact e
     .exact absurd e hnl
    cases g4 with
    | @pre _ _ _ u o e1 e2 e3 e4 e5=>
     have hlf:=KW e5 e3;rw [Bj] at hz;have r:=XH l (n:=j) (anr l hl _) (i:=0+1) ah e4 g3 e5 e3 ah ⟨14,true,a,g,s⟩ 14 ah ah (by rw [hk];exact anq _);obtain ⟨M,rfl⟩:∃ m,N=m+2:=⟨N - 2,ah⟩
     have e:=agM l hl ⟨14,true,a,g,s⟩ (M:=M) (i:=0) [] ah (by rcases hlf with e|e<;>rw [e]<;>rfl) r ah;have e:zW (M+2) l 0 false []=some ((⟨⟨9,kd l 0,[],[],[u]⟩,false⟩:fu),(j:Int),false,[]):=e;have ek:dY l ((0:Nat):Int) false []=some (kd l 0):=by rw [dX]
     have ek:dY l 0 false []=some (kd l 0):=ek;have hst:(bif true then (dY l 0 false []).bind fun Ci=>(AX Ci).bind fun og=>some og else some false)=some true:=by
      rw [aM,ek,aB,OC,e2];rcases e1 with rfl|rfl<;>rfl
     rw [hst,aB,aM];rw [e2] at e;exact agK e
    | leaf k e1=>have hp:k - 1=9:=Cz;omega
    | uT k e1|call k e1=>have hp:k=9:=Cz;omega
    | name=>have hp:(1:Int)=9:=Cz;omega
    | index=>have hp:(5:Int)=9:=Cz;omega
    | len=>have hp:(8:Int)=9:=Cz;omega
    | field=>have hp:(6:Int)=9:=Cz;omega
    | post=>have hp:(10:Int)=9:=Cz;omega
    | unary=>have hp:(11:Int)=9:=Cz;omega
    | bin|cat=>have hp:(12:Int)=9:=Cz;omega
    | one|many=>have hp:(13:Int)=9:=Cz;omega
    | cond=>have hp:(14:Int)=9:=Cz;omega
    | assign=>have hp:(15:Int)=9:=Cz;omega
 all_goals exact agK (main<|low<|.inl aJ)
def ayy (N:Nat) (hN:2000000<=N) (l:List aG) (hl:l.length<=3000) (t:av) (p:aK) (hp:posB p=true) (h:Bool) (d:gy l p 0 l.length t h) (hz:aV t<=400) (hd:eB t<=40) (hto:Ey N l=some true) (hn:oW 0 l=true):WZ N l p=some (bU 0 t,(l.length:Int),⟨0,0⟩):=by
 obtain ⟨c,c1,c2,c3⟩:=ayv N l hl ah hto;have e0:=c2 hn;subst e0;unfold WZ;rw [LD,hp,c1];simp only [aB,mI,aI];rw [ayw N hN l hl t p hp h d hz];simp only [aB,aI];have hb:WW N (eY t h).tree=some ⟨0,0⟩:=by
  unfold WW;have e1:Bc N t=some (aV t:Int):=ayo t N ah ah;have e2:wT N t=some (eB t:Int):=ant t N ah ah;show Option.bind (Bc N t) _=_;rw [e1,aB,uL (show¬(aV t:Int) > 400 by omega),aI];show Option.bind (wT N t) _=_;rw [e2,aB,uL (show¬(eB t:Int) > 40 by omega),aI]
 have hL:Sn N (eY t h).tree=some (bU 0 t):=ayz N t ah ah;rw [hb,hL];rfl
def ayA (N:Nat) (b:List UInt8) (s:Int):∀ (n i:Nat) (out:List UInt8),600 - i < n->i<=600->out.length=i+1->∃ r:List UInt8,Nf N n (b,s,(i:Int),out)=some r/\r.length<=601:=by
 intro n;induction n with
 | zero=>intro i out h;omega
 | succ n ih=>
  intro i out hn hi ho;rw [Nf];by_cases hlt:i < b.length
  .by_cases h6:i < 600
   .rw [iT hlt,aM,mH (show (i:Int) < 600 by omega),aB,aM,dx hlt,aB,pG bF,aB,wrap64 (n:=(i:Int)+1) ah ah,show (i:Int)+1=((i+1:Nat):Int) by omega];exact ih (i+1) _ ah ah bF
   .rw [iT hlt,aM,uL (show¬(i:Int) < 600 by omega),aB,aI];exact ⟨out,rfl,ah⟩
  .rw [jZ hlt,aI,aB,aI];exact ⟨out,rfl,ah⟩
def aiq (N:Nat) (hN:1000 < N) (b:List UInt8):∃ r:List UInt8,aav N b 3=some r/\r.length<=601:=ayA N b 3 N 0 _ ah ah rfl
def ayB (N:Nat) (a b:List Int):Xa N a b=KO N a b:=by
 have l:∀ n i,KM N n (a,b,i)=FB N n (a,b,i):=by
  intro n;induction n with
  | zero=>intro i;rw [KM,FB]
  | succ n ih=>intro i;rw [KM,FB];simp only [ih]
 unfold Xa KO;rw [l]
def ayC (N:Nat) (a b:List aC):Xb N a b=KP N a b:=by
 have l:∀ n i,KN N n (b,a,i)=FC N n (a,b,i):=by
  intro n;induction n with
  | zero=>intro i;rw [KN,FC]
  | succ n ih=>
   intro i;rw [KN,FC];simp only [ih];cases decide (i < (a.length:Int)) with
   | false=>rfl
   | true=>
    rw [aM,aM];cases ha:ix a i with
    | none=>rfl
    | some x=>
     cases hb:ix b i with
     | none=>rfl
     | some y=>
      unfold abj;simp only [aB,bne,ayB];cases (x.Kind==y.Kind) with
      | false=>rfl
      | true=>
       cases (x.Op==y.Op) with
       | false=>rfl
       | true=>
        cases (x.Text==y.Text) with
        | false=>rfl
        | true=>
         cases (x.Other==y.Other) with
         | false=>rfl
         | true=>
          simp only [aM,mI,aI];cases KO N x.Kids y.Kids with
          | none=>rfl
          | some r=>rfl
 have e:∀ x:Option Bool,(Option.bind x fun r=>some r)=x:=fun x=>by cases x<;>rfl
 unfold Xb abk KP;rw [l,e]
def ayD (N:Nat) (l:List aG) (hl:l.length<=3000) (hN:3000 < N) (h:∀ k,k < l.length->kd l k≠2):WB N l=some false:=by
 have key:∀ (n i:Nat),l.length - i < n->i<=l.length->Kw N n (l,(i:Int))=some (-1):=by
  intro n;induction n with
  | zero=>intro i h;omega
  | succ n ih=>
   intro i hn hi;rw [Kw];by_cases hlt:i < l.length
   .have hk:=h i hlt;have e:kd l i=l[i].Kind:=by unfold kd;rw [eZ hlt];rfl
    rw [e] at hk;have e2:(l[i].Kind==2)=false:=by simpa using hk
    rw [iT hlt,aM,dx hlt,aB];unfold aaT;rw [e2,aB,aI,wrap64 ah ah,show (i:Int)+1=((i+1:Nat):Int) by omega];exact ih (i+1) ah ah
   .rw [jZ hlt,aI]
 unfold WB aaU;have e:Kw N N (l,0)=some (-1):=key N 0 ah ah;rw [e];rfl
def aiw (N:Nat) (hN:2000000<=N) (l:List aG) (hl:l.length<=400) (t:av) (p:aK) (hp:posB p=true) (h:Bool) (d:gy l p 0 l.length t h) (hz:aV t<=400) (hd:eB t<=40) (hto:Ey N l=some true) (hn:oW 0 l=true) (x:List aC) (c:Bool) (hc:Nv N x=some c):Sq N l x p=bif c then KP N (bU 0 t) x else some false:=by
 have TT:=(acE l _ 0 _<|eD _).2.1 _ _ _ d;have e:∀ x:Option Bool,((Option.bind x fun r=>some r).bind fun r=>some r)=x:=fun x=>by cases x<;>rfl
 unfold Sq abh;rw [hc,ayy N hN l ah t p hp h d hz hd hto hn,ayD N l ah ah fun k hk=>(TT.a k ah hk).1];cases c with
 | false=>rfl
 | true=>
  have amm:decide ((l.length:Int) > 400)=false:=bF;have hlen:((l.length:Int)==(l.length:Int))=true:=aA;simp only [aB,mI,aI,amm,hlen,Qe,zw,aM,ayC];exact e _
def acD (N:Nat) (hN:2000000<=N) (t:av) (hx:TS t) (hg:allT GN t) (hc:allT (fun u=>CN u/\TN N u) t) (f:Bool) (p:aK) (hl:(bY f t p).length<=3000) (q:aK) (h:Bool) (d:gy (bY f t p) q 0 (bY f t p).length t h):Ey N (bY f t p)=some true:=by
 have TT:=(acE (bY f t p) _ 0 _<|eD _).2.1 _ _ _ d;have e:=aif N _ hl ah TT.a (aii N f t hg hc p);obtain ⟨b,b1,b2,_⟩:=aij N (bY f t p) ah (aik f t hx p);rw [b1] at e;rw [b2];exact e
def TU (b:List UInt8) (hb:b.length<=1048576) (N:Nat) (hN:18446744073709551657+2097152<=N):∃ (L:List aC) (p:aK),Jh N b=some (L,p)/\Ez L:=by
 obtain ⟨h,e1⟩:=ail b hb N ah;obtain ⟨L,i1,h1,e2,hL,a0,a1⟩:=ain b hb N ah 0 h ah ah;obtain ⟨p,i2,h2,e3,_,b0,b1⟩:=aio b hb i1 h1 a0 a1;refine ⟨L,p,?_,hL⟩;unfold Jh;rw [e1,aB];dsimp only;rw [e2,aB];dsimp only;rw [e3,aB]
def plain (b:List UInt8) (kb:(∀ z,z∈b->True)/\b.length<=maxLen):∃ N,PU N b=some true:=by
 refine ⟨18446744073709551657+3000000,?_⟩;obtain ⟨N,hN⟩:∃ N,N=18446744073709551657+3000000:=⟨_,rfl⟩
 rw [<- hN];unfold PU;rw [aip,aB];by_cases hb:b.length<=1048576
 .have hd:decide ((b.length:Int) > 1048576)=false:=bF;rw [hd,aI];obtain ⟨L,p,e1,hL⟩:=TU b hb N ah;obtain ⟨fr,f1,f2⟩:=aiq N ah b;obtain ⟨L2,p2,e2,hL2⟩:=TU fr ah N ah;have hS:=YA hL.1.1;have hS2:=YA hL2.1.1;rw [e1,f1,aB,aB,e2,aB];dsimp only;obtain ⟨c,c1,d2,c2⟩:=YB N L ah hS;obtain ⟨c',c1',d2',c2'⟩:=YB N L2 ah hS2;unfold TV;rw [c1,air];have none':(c=false\/posB p=false)->CU N L p false=some ([],[]):=fun hh=>by
   unfold CU;rw [d2,LD];rcases hh with rfl|hp
   .rfl
   .rw [hp];cases c<;>rfl
  cases c with
  | false=>rw [none'<|.inl rfl];rfl
  | true=>
   cases hp:posB p with
   | false=>rw [none'<|.inr hp];rfl
   | true=>
    obtain ⟨g1,g3⟩:=c2 rfl;have g2:yh N L=some true:=by
     have h:=c1;unfold LG at h;obtain ⟨y,h1,h2⟩:=qc.1 h;obtain ⟨r,h3,h4⟩:=qc.1 h1;cases r with
     | true=>exact h3
     | false=>
      cases h4;cases h2
    obtain ⟨t,R⟩:=ais N L ah hS g2 g1 g3;have hsz:=R.sz;have hpz:=uK t;have hLl:L.length=aV t:=by rw [R.eq,vU]
    obtain ⟨s1,p1⟩:∃ xC,CU N L p false=some (bY false t p,xC):=by
     obtain ⟨q1,q2,_⟩:=Ji R.sh;obtain ⟨xC,w1,w2,_⟩:=acG (vV R.g) (imB false t R.g) N p [] [] hp ah bF bF;have w1':Ao N t p false [] []=some ([]++bY false t p,xC):=w1;refine ⟨xC,?_⟩;unfold CU;rw [d2,LD,hp,acH N L ah R.ta q1 q2];simp only [aB,mI,aI,w1',Gh]
    rw [p1];simp only [aB,mI,aI];by_cases hl:(bY false t p).length<=300
    .have LH:decide (((bY false t p).length:Int) > 300)=false:=bF;rw [LH,aI];have hc1:allT CN t:=acI (fun _ h=>h.1) t R.c;obtain ⟨hh,d⟩:=acJ (vV R.g) (aiu false t R.g hc1) (bY false t p) p 0 hp (Sg.all _);rw [qV] at d;have hto:=acD N ah t R.tx R.g R.c false p ah p hh d;have aqt:eB t<=25+1:=hL.2.dep R.ta;have hn:oW 0 (bY false t p)=true:=(acK (aiv t R.g hc1) p).nest ah;have D:=fun x c hc=>aiw N ah _ ah t p hp hh d hsz R.dep hto hn x c hc;have hk:∀ x,x∈L->x.Kids.length<=1048576:=fun x hx=>by have:=hL.1.1 x hx;omega
     rw [D L true d2,<- R.eq,PV N L L ah ah hk,mH rfl];simp only [aB,aM];rw [PV N L L2 ah ah hk,aB];cases hs:decide (L=L2) with
     | true=>rfl
     | false=>
      rw [aI,D L2 c' d2',<- R.eq,PV N L L2 ah ah hk,hs];cases c'<;>rfl
    .have LH:decide (((bY false t p).length:Int) > 300)=true:=bF;rw [LH];rfl
 .have hd:decide ((b.length:Int) > 1048576)=true:=bF;rw [hd];rfl
end Go.Proofs.Tryz
