/-
 Plain lemmas on the models, part 14.
-/
import Derived.Test.YtobpmdjghijneaaGreatDoorFuGP13
namespace Go.Proofs.Tryz
open Go.Av
set_option maxRecDepth 100000
set_option linter.all false
def Rh (d:Nat):Pg av:=(fJ d).bind fun t=>.ret ⟨20,0,[],[],[t]⟩
def Ri (d:Nat) (r:Int) (y:Bool):Pg av:=bif y then (kr 2).bind fun q=>(zB q 3<|fJ d).bind fun ts=>(Al 3).bind fun o=>bif o then (tK [[62],[62,62],[124]]).bind fun x=>(fJ<|d - 1).bind fun t=>.ret ⟨21,q,[],x,ts++[t]⟩ else .ret ⟨21,q,[],[],ts⟩
 else bif r==2 then (BJ [22,25,26]).bind fun k=>.ret ⟨k,0,[],[],[]⟩ else bif r==3 then (BJ [23,24]).bind fun k=>(zB 0 1<|fJ d).bind fun ts=>.ret ⟨k,0,[],[],ts⟩ else bif r==4 then ET.bind fun x=>(zB 0 2<|fJ<|d - 1).bind fun ts=>.ret ⟨27,0,x,[],ts⟩
 else bif r==5 then (Al 2).bind fun o=>bif o then (tK [[35],[35,32,110,111,116,101],[35,120,32,61,32,49]]).bind fun x=>.ret ⟨34,0,x,[],[]⟩ else Rh d else Rh d
def Rj (d:Nat):Pg av:=(kr 9).bind fun r=>bif r==0 then Ri d r (r==0) else Ri d r (r==1)
def Kj (d:Nat):Pg av:=(Al 3).bind fun o=>bif o then .ret ⟨16,0,[],[],[]⟩ else fJ d
def rZ (s:Pg av):Pg av:=(kr 3).bind fun r=>(oK s r.toNat).bind fun ts=>.ret ⟨33,0,[],[],ts⟩
def Wj (bl:Pg av):Pg av:=(kr 6).bind fun r=>bif r==0 then (fJ 1).bind fun t=>bl.bind fun u=>.ret ⟨28,0,[],[],[t,u]⟩ else bif r==1 then (fJ 1).bind fun t=>bl.bind fun u=>bl.bind fun v=>.ret ⟨28,0,[],[],[t,u,v]⟩ else bif r==2 then (fJ 1).bind fun t=>bl.bind fun u=>.ret ⟨29,0,[],[],[t,u]⟩ else bif r==3 then bl.bind fun u=>(fJ 1).bind fun t=>.ret ⟨30,0,[],[],[u,t]⟩
 else bif r==4 then (Kj 2).bind fun t=>(Kj 1).bind fun u=>(Kj 1).bind fun v=>bl.bind fun w=>.ret ⟨31,0,[],[],[t,u,v,w]⟩ else (Al 2).bind fun o=>bif o then bl else ET.bind fun x=>ET.bind fun y=>bl.bind fun u=>.ret ⟨32,0,x,y,[u]⟩
def mV:Nat->Pg av
 | 0=>Rj 0
 | d+1=>((Al 3).bind fun o=>.ret<|!o).bind fun y=>bif y then Rj (min (d+1) 2) else Wj (rZ<|mV d)
def uQ:Pg av:=(kr 2).bind fun a=>(kr 8).bind fun r=>bif r==0 then (kr 2).bind fun q=>(rZ<|mV (1+a).toNat).bind fun u=>.ret ⟨40+q,0,[],[],[u]⟩ else bif r==1 then (fJ (1+a).toNat).bind fun t=>.ret ⟨42,1,[],[],[t]⟩ else bif r==2 then (rZ<|mV (1+a).toNat).bind fun u=>.ret ⟨42,2,[],[],[u]⟩ else bif r==3 then (fJ 1).bind fun t=>(fJ 1).bind fun u=>.ret ⟨43,1,[],[],[t,u]⟩
 else bif r==4 then (fJ 1).bind fun t=>(fJ 1).bind fun u=>(rZ<|mV (1+a).toNat).bind fun v=>.ret ⟨43,3,[],[],[t,u,v]⟩ else bif r==5 then (kr 3).bind fun q=>(oK EU q.toNat).bind fun ws=>(tK [[102],[103],[109,97,120]]).bind fun x=>(rZ<|mV (1+a).toNat).bind fun u=>.ret ⟨44,0,x,[],ws++[u]⟩
 else bif r==6 then (tK [[35,32,116,111,112],[35]]).bind fun x=>.ret ⟨34,0,x,[],[]⟩ else (fJ (1+a).toNat).bind fun t=>(rZ<|mV (1+a).toNat).bind fun u=>.ret ⟨42,3,[],[],[t,u]⟩
def kV:Pg av:=(kr 4).bind fun r=>(oK uQ r.toNat).bind fun ts=>.ret ⟨45,0,[],[],ts⟩
def Wm {α:Type} {p:Pg α} {P:α->Prop} (h:Pg.Post P p):Pg.Post (fun _=>True) p:=h.imp fun _ _=>trivial
def Rk (l:List Int) (h:0 < l.length):Pg.Post (fun _=>True) (BJ l):=QY l h fun _ _=>trivial
def adW:∀ (a c:List av) (d:Nat),jg a<=d->jg c<=d->jg (a++c)<=d
 | [],_,_,_,h=>h
 | t::a,c,d,h1,h2=>by
  simp only [Hq,jg] at h1 ⊢;have:=adW a c d ah h2;omega
def ZH {m d:Nat} {k o:Int} {x:List UInt8} (hx:Sh x) (hm:1<=m) (hd:1<=d):Gd m d ⟨k,o,x,[],[]⟩:=Gd.mk hx iX (by simp only [aT];omega) (by simp only [jg];omega) fun t ht=>by cases ht
def BM {d:Nat} (h:d<=2):Pg.Post (Gd 16 4) (fJ d):=(ku d).imp fun t ht=>ht.mono (Df (a:=d) (c:=2) h) (by unfold yw;split<;>omega)
def ajG {d:Nat} (h:d<=2) (r:Int) (y:Bool):Pg.Post (Gd 70 5) (Ri d r y):=by
 have e:=BM h;have e1:=BM (d:=d - 1) ah;have hK:Pg.Post (Gd 70 5) (Rh d):=e.bind fun t ht=>.ret (mk1 iX ht ah ah);refine gU ?_ (gU ?_ (gU ?_ (gU ?_ (gU ?_ hK))))
 .refine (eD 2).bind fun q hq=>?_;obtain ⟨q,rfl⟩:=qJ hq.1;refine (BK e q 3 ah).bind fun ts hts=>(rX 3).bind fun o _=>gU ((tL _ aJ aJ).bind fun x hx=>e1.bind fun t ht=>.ret ?_) (.ret<|Rf iX hts ah ah);refine Gd.mk iX hx ?_ ?_ fun t' ht'=>?_
  .have:=hts.2.2.1;have:=ht.1;rw [Hr];simp only [aT];omega
  .have:=adW ts [t] 4 hts.2.2.2.1 (by have:=ht.2.1;simp only [jg];omega);omega
  .rcases lH.1 ht' with h|h
   .exact hts.2.2.2.2 t' h
   .rw [vW.1 h];exact ht.2.2
 .exact (Rk _ aJ).bind fun k _=>.ret (ZH iX ah ah)
 .exact (Rk _ aJ).bind fun k _=>(BK e 0 1 ah).bind fun ts hts=>.ret (Rf iX hts ah ah)
 .exact oJ.bind fun x hx=>(BK e1 0 2 ah).bind fun ts hts=>.ret (Rf hx hts ah ah)
 .exact (rX 2).bind fun o _=>gU ((tL _ aJ aJ).bind fun x hx=>.ret<|ZH hx ah ah) hK
def ajH {d:Nat} (h:d<=2):Pg.Post (Gd 70 5) (Rj d):=(eD 9).bind fun r _=>gU (ajG h r _) (ajG h r _)
def Rm {d:Nat} (h:d<=2):Pg.Post (Gd 16 4) (Kj d):=(rX 3).bind fun o _=>gU (.ret<|ZH iX ah ah) (BM h)
def Rn {s:Pg av} {m d:Nat} (h:Pg.Post (Gd m d) s):Pg.Post (Gd (2*m+1)<|d+1) (rZ s):=(eD 3).bind fun r hr=>(Dc h _).bind fun ts hts=>.ret (by
 obtain ⟨g1,g2,g3⟩:=VZ hts.2;have hl:ts.length<=2:=by rw [hts.1];omega
 have:=vZ m hl;exact Gd.mk iX iX ah ah g3)
def ase {bl:Pg av} {m d:Nat} (h:Pg.Post (Gd m d) bl) (hd:4<=d):Pg.Post (Gd (2*m+60)<|d+1) (Wj bl):=by
 have e:=BM (d:=1) ah;refine (eD 6).bind fun r _=>gU ?_ (gU ?_ (gU ?_ (gU ?_ (gU ?_ ?_))))
 .exact e.bind fun t ht=>h.bind fun u hu=>.ret (mk2 iX ht hu ah ah)
 .exact e.bind fun t ht=>h.bind fun u hu=>h.bind fun v hv=>.ret (mk3 iX ht hu hv ah ah)
 .exact e.bind fun t ht=>h.bind fun u hu=>.ret (mk2 iX ht hu ah ah)
 .exact h.bind fun u hu=>e.bind fun t ht=>.ret (mk2 iX hu ht ah ah)
 .refine (Rm ah).bind fun t ht=>(Rm ah).bind fun u hu=>(Rm ah).bind fun v hv=>h.bind fun w hw=>.ret (Gd.mk iX iX ?_ ?_ fun t' ht'=>?_)
  .have:=ht.1;have:=hu.1;have:=hv.1;have:=hw.1;simp only [aT];omega
  .have:=ht.2.1;have:=hu.2.1;have:=hv.2.1;have:=hw.2.1;simp only [jg];omega
  .simp only [iO,Nt,Nu] at ht';rcases ht' with rfl|rfl|rfl|rfl
   .exact ht.2.2
   .exact hu.2.2
   .exact hv.2.2
   .exact hw.2.2
 .refine (rX 2).bind fun o _=>gU (h.imp fun t ht=>ht.mono ah ah) (oJ.bind fun x hx=>oJ.bind fun y hy=>h.bind fun u hu=>.ret<|Gd.mk hx hy ?_ ?_ fun t' ht'=>?_)
  .have:=hu.1;simp only [aT];omega
  .have:=hu.2.1;simp only [jg];omega
  .rw [vW.1 ht'];exact hu.2.2
def ss:Nat->Nat
 | 0=>70
 | d+1=>4*ss d+62
def ajI:∀ d,70<=ss d
 | 0=>dX _
 | d+1=>by have:=ajI d;rw [ss];omega
def BN:∀ d,Pg.Post (Gd (ss d)<|2*d+5) (mV d)
 | 0=>ajH ah
 | d+1=>by
  have h:=ajI d;refine Pg.Post.bind (Wm<|rX 3 |>.bind fun o _=>.ret (P:=fun _=>True) trivial) fun y _=>gU ((ajH ah).imp fun t ht=>ht.mono (by rw [ss];omega) ah) ((ase (Rn<|BN d) ah).imp fun t ht=>ht.mono (by rw [ss];omega) ah)
def ZI {a:Int} (h0:0<=a) (h1:a < 2):Pg.Post (Gd 2861 10) (rZ<|mV (1+a).toNat):=by
 have:a=0\/a=1:=ah;rcases this with rfl|rfl
 .exact (Rn<|BN 1).imp fun t ht=>ht.mono aJ aJ
 .exact (Rn<|BN 2).imp fun t ht=>ht.mono aJ aJ
def ZJ:Pg.Post (Gd 2960 11) uQ:=by
 refine (eD 2).bind fun a ha=>?_;have hB:=ZI (a:=a) ha.1 ah;have e:=BM (d:=(1+a).toNat) ah;have e1:=BM (d:=1) ah;refine (eD 8).bind fun r _=>gU ?_ (gU ?_ (gU ?_ (gU ?_ (gU ?_ (gU ?_ (gU ?_ ?_))))))
 .exact (eD 2).bind fun q _=>hB.bind fun u hu=>.ret (mk1 iX hu ah ah)
 .exact e.bind fun t ht=>.ret (mk1 iX ht ah ah)
 .exact hB.bind fun t ht=>.ret (mk1 iX ht ah ah)
 .exact e1.bind fun t ht=>e1.bind fun u hu=>.ret (mk2 iX ht hu ah ah)
 .exact e1.bind fun t ht=>e1.bind fun u hu=>hB.bind fun v hv=>.ret (mk3 iX ht hu hv ah ah)
 .refine (eD 3).bind fun q hq=>(Dc Ns _).bind fun ws hws=>(tL _ aJ aJ).bind fun x hx=>hB.bind fun u hu=>.ret ?_;obtain ⟨g1,g2,g3⟩:=VZ hws.2;have hl:ws.length<=2:=by rw [hws.1];omega
  refine Gd.mk hx iX ?_ ?_ fun t' ht'=>?_
  .have:=hu.1;rw [Hr];simp only [aT];omega
  .have:=adW ws [u] 10 ah (by have:=hu.2.1;simp only [jg];omega);omega
  .rcases lH.1 ht' with h|h
   .exact g3 t' h
   .rw [vW.1 h];exact hu.2.2
 .exact (tL _ aJ aJ).bind fun x hx=>.ret (ZH hx ah ah)
 .exact e.bind fun t ht=>hB.bind fun u hu=>.ret (mk2 iX ht hu ah ah)
def asf:Pg.Post (Gd 9000 12) kV:=(eD 4).bind fun r hr=>(Dc ZJ _).bind fun ts hts=>.ret (by
 obtain ⟨g1,g2,g3⟩:=VZ hts.2;have hl:ts.length<=3:=by rw [hts.1];omega
 have:=vZ 2960 hl;exact Gd.mk iX iX ah ah g3)
def ash {e:Pg av} {P:av->Prop} {n:Nat} (h:Pg.Post P e) (g:Pg.Le e n) (q:Int) (h0:0<=q) (h3:q<=3):Pg.Le (zB q 3 e) (3*n+1):=by
 obtain ⟨q,rfl⟩:=qJ h0;exact Rc h g q 3 ah ah
def adX {e:Pg av} {P:av->Prop} (h:Pg.Post P e) (lo hi:Int):Pg.Post (fun _=>True) (zB lo hi e):=(eD _).bind fun r _=>Wm (Dc h _)
def ajJ (d:Nat) (r:Int) (y:Bool):Pg.Le (Ri d r y) (3*eb d+eb (d - 1)+4):=by
 have g:=Nv d;have g1:=Nv (d - 1);have hle:=Rb (a:=d - 1) (c:=d) ah;have hK:Pg.Le (Rh d) (eb d):=jv (ku d) g;refine leB ?_ (leB ?_ (leB ?_ (leB ?_ (leB ?_ (hK.mono ah)))))
 .refine Pg.dV.bind (eD 2) (below_le 2 ah) (m:=3*eb d+eb (d - 1)+3) (fun q hq=>?_) ah;refine Pg.dV.bind (adX (ku d) q 3) (ash (ku d) g q hq.1 ah) (m:=eb (d - 1)+2) (fun ts _=>?_) ah;refine Pg.dV.bind (rX 3) (QX 3 ah) (m:=eb (d - 1)+1) (fun o _=>leB ?_ .ret) ah;exact Pg.dV.bind (tL _ aJ aJ) (Hg _ aJ) (m:=eb (d - 1)) (fun x _=>jv (ku<|d - 1) g1) ah
 .exact (jv (Rk _ aJ)<|VW _ aJ).mono ah
 .exact Pg.dV.bind (Rk _ aJ) (VW _ aJ) (m:=1*eb d+1) (fun k _=>jv (adX (ku d) 0 1)<|Rc (ku d) g 0 1 ah ah) ah
 .exact Pg.dV.bind oJ Nq (m:=2*eb (d - 1)+1) (fun k _=>jv (adX (ku<|d - 1) 0 2)<|Rc (ku<|d - 1) g1 0 2 ah ah) ah
 .exact Pg.dV.bind (rX 2) (QX 2 ah) (m:=3*eb d+1) (fun o _=>leB ((jv (tL _ aJ aJ)<|Hg _ aJ).mono ah)<|hK.mono ah) ah
def adY (d:Nat):Pg.Le (Rj d) (3*eb d+eb (d - 1)+5):=Pg.dV.bind (eD 9) (below_le 9 ah) (m:=3*eb d+eb (d - 1)+4) (fun r _=>leB (ajJ d r _)<|ajJ d r _) ah
def adZ (d:Nat):Pg.Le (Kj d) (eb d+1):=Pg.dV.bind (rX 3) (QX 3 ah) (m:=eb d) (fun o _=>leB .ret<|Nv d) ah
def aea (d:Nat):Pg.Post (fun _=>True) (Kj d):=(rX 3).bind fun o _=>gU (.ret trivial) (Wm<|ku d)
def ZK {s:Pg av} {P:av->Prop} {n:Nat} (h:Pg.Post P s) (g:Pg.Le s n):Pg.Le (rZ s) (2*n+1):=Pg.dV.bind (eD 3) (below_le 3 ah) (m:=2*n) (fun r hr=>jv (Dc h _)<|(Wd h g _).mono<|vZ n ah) ah
def ajK {bl:Pg av} {P:av->Prop} {n k:Nat} (h:Pg.Post P bl) (g:Pg.Le bl n) (h1:14+2*n<=k) (h2:73+n<=k):Pg.Le (Wj bl) k:=by
 have e:=Nv 1;have p:=ku 1;have e1:eb 1=13:=rfl;have e2:eb 2=43:=rfl;refine Pg.dV.bind (eD 6) (below_le 6 ah) (m:=k - 1) (fun r _=>leB ?_ (leB ?_ (leB ?_ (leB ?_ (leB ?_ ?_))))) ah
 .exact Pg.dV.bind p e (m:=n) (fun t _=>jv h g) ah
 .exact Pg.dV.bind p e (m:=2*n) (fun t _=>Pg.dV.bind h g (m:=n) (fun u _=>jv h g) ah) ah
 .exact Pg.dV.bind p e (m:=n) (fun t _=>jv h g) ah
 .exact Pg.dV.bind h g (m:=13) (fun t _=>jv p e) ah
 .exact Pg.dV.bind (aea 2) (adZ 2) (m:=28+n) (fun t _=>Pg.dV.bind (aea 1) (adZ 1) (m:=14+n) (fun u _=>Pg.dV.bind (aea 1) (adZ 1) (m:=n) (fun v _=>jv h g) ah) ah) ah
 .exact Pg.dV.bind (rX 2) (QX 2 ah) (m:=n+2) (fun o _=>leB (g.mono ah)<|Pg.dV.bind oJ Nq (m:=n+1) (fun x _=>Pg.dV.bind oJ Nq (m:=n) (fun y _=>jv h g) ah) ah) ah
def ajL:Pg.Le ((Al 3).bind fun o=>Pg.ret<|!o) 1:=jv (rX 3) (QX 3 ah)
def aeb:Pg.Post (fun _=>True) ((Al 3).bind fun o=>Pg.ret<|!o):=(rX 3).bind fun o _=>.ret trivial
def asi:Pg.Le (mV 0) 17:=adY 0
def ajM:Pg.Le (mV 1) 109:=Pg.dV.bind aeb ajL (m:=108) (fun y _=>leB ((adY<|min 1 2).mono aJ)<|ajK (Wm<|Rn<|BN 0) (ZK (BN 0) asi) ah ah) ah
def asj:Pg.Le (mV 2) 453:=Pg.dV.bind aeb ajL (m:=452) (fun y _=>leB ((adY<|min 2 2).mono aJ)<|ajK (Wm<|Rn<|BN 1) (ZK (BN 1) ajM) ah ah) ah
def asl {a:Int} (h0:0<=a) (h1:a < 2):Pg.Le (rZ<|mV (1+a).toNat) 907:=by
 have:a=0\/a=1:=ah;rcases this with rfl|rfl
 .exact (ZK (BN 1) ajM).mono aJ
 .exact (ZK (BN 2) asj).mono aJ
def asn:Pg.Le uQ 952:=by
 refine Pg.dV.bind (eD 2) (below_le 2 ah) (m:=951) (fun a ha=>?_) ah;have hB:=ZI (a:=a) ha.1 ah;have gB:=asl (a:=a) ha.1 ah;have p:=ku (1+a).toNat
 have p1:=ku 1;have e:Pg.Le (fJ (1+a).toNat) 43:=(Nv _).mono (Rb (a:=(1+a).toNat) (c:=2) ah);have e1:Pg.Le (fJ 1) 13:=Nv 1;refine Pg.dV.bind (eD 8) (below_le 8 ah) (m:=950) (fun r _=>leB ?_ (leB ?_ (leB ?_ (leB ?_ (leB ?_ (leB ?_ (leB ?_ ?_))))))) ah
 .exact Pg.dV.bind (eD 2) (below_le 2 ah) (m:=907) (fun q _=>jv hB gB) ah
 .exact (jv p e).mono ah
 .exact (jv hB gB).mono ah
 .exact Pg.dV.bind p1 e1 (m:=13) (fun t _=>jv p1 e1) ah
 .exact Pg.dV.bind p1 e1 (m:=920) (fun t _=>Pg.dV.bind p1 e1 (m:=907) (fun t _=>jv hB gB) ah) ah
 .exact Pg.dV.bind (eD 3) (below_le 3 ah) (m:=910) (fun q hq=>Pg.dV.bind (Dc Ns _) ((Wd Ns ZE _).mono<|show q.toNat*1<=2 by omega) (m:=908) (fun ws _=>Pg.dV.bind (tL _ aJ aJ) (Hg _ aJ) (m:=907) (fun x _=>jv hB gB) ah) ah) ah
 .exact (jv (tL _ aJ aJ)<|Hg _ aJ).mono ah
 .exact Pg.dV.bind p e (m:=907) (fun t _=>jv hB gB) ah
def aso:Pg.Le kV 2857:=Pg.dV.bind (eD 4) (below_le 4 ah) (m:=2856) (fun r hr=>jv (Dc ZJ _)<|(Wd ZJ asn _).mono<|show r.toNat*952<=2856 by omega) ah
section
set_option linter.unusedSectionVars false
variable (b:List UInt8) (hb:b.length<=1048576) {N:Nat} (hN:1050000<=N)
include hb hN
theorem Ro {d:Nat} (hd:d<=6) (deep:Int) (hdp:deep.toNat=d) (g1: -1000<=deep) (g2:deep<=1000) (i:Nat) (h:Int) (hi:i<=b.length):Sm b (fJ d) (bX 0) i h (eP N deep b (i:Int) h):=ajE b hb N d hd ah deep hdp g1 g2 i h hi
theorem ajN {d:Nat} (hd:d<=2) (deep:Int) (hdp:deep.toNat=d) (g1: -800<=deep) (i:Nat) (h:Int) (hi:i<=b.length):Sm b (Rh d) (bX 0) i h (Pw N b (deep,(i:Int),h)):=by
 unfold Pw Rh;refine Sm.bind hi (BM hd) (Ro b hb hN ah deep hdp ah ah i h hi) fun t i h ht hi=>?_;exact kU (α:=Unit) b hb ah 20 0 [] [] [t] (by have:=ht.1;simp only [aT];omega) i h
theorem ajO {d:Nat} (hd:d<=2) (deep:Int) (hdp:deep.toNat=d) (g1: -800<=deep) (r:Int) (y:Bool) (i:Nat) (h:Int) (hi:i<=b.length):Sm b (Ri d r y) (bX 0) i h (Py N b (deep,(r,(i:Int),h),y)):=by
 have e:=BM hd;have e1:=BM (d:=d - 1) ah;have w1:IntKind.wrap .i64 (deep - 1)=deep - 1:=wrap64 ah ah;unfold Py Ri;dsimp only;refine Sm.cond (fun _=>?_) fun _=>Sm.cond (fun _=>?_) fun _=>Sm.cond (fun _=>?_) fun _=>Sm.cond (fun _=>?_) fun _=>Sm.cond (fun _=>?_) fun _=>ajN b hb hN hd deep hdp g1 i h hi
 .refine Sm.bind hi (eD 2) (uO b hb 2 i h hi) fun q i h hq hi=>?_;obtain ⟨q,rfl⟩:=qJ hq.1;dsimp only;refine Sm.bind hi (BK e q 3 ah) (adV b hb N d ah ah q 3 ah ah deep hdp ah ah i h hi) fun ts i h hts hi=>?_;dsimp only;refine Sm.bind hi (rX 3) (QZ b hb 3 i h hi) fun o i h _ hi=>?_;dsimp only;refine Sm.cond (fun _=>?_) fun _=>?_
  .refine Sm.bind hi (tL _ aJ aJ) (Hl b hb _ aJ i h hi) fun x i h _ hi=>?_;dsimp only;rw [w1];refine Sm.bind hi e1 (Ro b hb hN ah (deep - 1) ah ah ah i h hi) fun t i h ht hi=>?_;dsimp only;rw [pz (by have:=hts.2.1;simp;omega),aB];unfold Px;dsimp only;have:=kU (α:=Unit) b hb (N:=N) ah 21 (q:Int) [] x (ts++[t]) (by have:=ht.1;have:=hts.2.2.1;rw [Hr];simp only [aT];omega) i h;rw [Dh] at this;exact this
  .unfold Px;dsimp only;exact kU (α:=Unit) b hb ah 21 (q:Int) [] [] ts (by have:=hts.2.2.1;omega) i h
 .exact Sm.bind hi (Rk _ aJ) (VY b hb _ aJ i h hi) fun k i h _ hi=>Sm.ret
 .refine Sm.bind hi (Rk _ aJ) (VY b hb _ aJ i h hi) fun k i h _ hi=>?_;dsimp only;refine Sm.bind hi (BK e 0 1 ah) (adV b hb N d ah ah 0 1 ah ah deep hdp ah ah i h hi) fun ts i h hts hi=>?_;exact kU (α:=Unit) b hb ah k 0 [] [] ts (by have:=hts.2.2.1;omega) i h
 .refine Sm.bind hi oJ (Ho b hb i h hi) fun x i h _ hi=>?_;dsimp only;rw [w1];refine Sm.bind hi (BK e1 0 2 ah) (adV b hb N (d - 1) ah ah 0 2 ah ah (deep - 1) ah ah ah i h hi) fun ts i h hts hi=>?_;exact kU (α:=Unit) b hb ah 27 0 x [] ts (by have:=hts.2.2.1;omega) i h
 .refine Sm.bind hi (rX 2) (QZ b hb 2 i h hi) fun o i h _ hi=>?_;dsimp only;exact Sm.cond (fun _=>Sm.bind hi (tL _ aJ aJ) (Hl b hb _ aJ i h hi) fun x i h _ hi=>Sm.ret) fun _=>ajN b hb hN hd deep hdp g1 i h hi
theorem ajP {d:Nat} (hd:d<=2) (deep:Int) (hdp:deep.toNat=d) (g1: -800<=deep) (i:Nat) (h:Int) (hi:i<=b.length):Sm b (Rj d) (bX 0) i h (Tx N deep b (i:Int) h):=by
 unfold Tx Rj;refine Sm.bind hi (eD 9) (uO b hb 9 i h hi) fun r i h _ hi=>?_;dsimp only;exact Sm.cond (fun _=>ajO b hb hN hd deep hdp g1 r _ i h hi) fun _=>ajO b hb hN hd deep hdp g1 r _ i h hi
theorem aec {d:Nat} (hd:d<=2) (i:Nat) (h:Int) (hi:i<=b.length):Sm b (Kj d) (bX 0) i h (Eh N (d:Int) b (i:Int) h):=by
 unfold Eh Kj;refine Sm.bind hi (rX 3) (QZ b hb 3 i h hi) fun o i h _ hi=>?_;dsimp only;exact Sm.cond (fun _=>Sm.ret) fun _=>BI (Ro b hb hN ah (d:Int) ah ah ah i h hi)
def SS (M d:Nat):Prop:=∀ (deep:Int) (i:Nat) (h:Int),deep.toNat=d-> -700<=deep->i<=b.length->Sm b (mV d) (bX 0) i h ((qd M).Bd deep b (i:Int) h)
def BS (M d:Nat):Prop:=∀ (deep:Int) (i:Nat) (h:Int),deep.toNat=d-> -700<=deep->i<=b.length->Sm b (rZ<|mV d) (bX 0) i h ((qd M).iZ deep b (i:Int) h)
theorem asq {M d:Nat} (hM:1048577 < M) (hd:d<=4) (hS:SS b M d) (deep:Int) (hdp:deep.toNat=d) (g1: -700<=deep):∀ (n c:Nat) (i:Nat) (h:Int) (acc:List av),c < n->acc.length+c<=3->aT acc<=acc.length*ss d->i<=b.length->
  Sm b ((oK (mV d) c).bind fun ts=>.ret (⟨33,0,[],[],acc++ts⟩:av)) (bX 0) i h (Ls M (qd M) b n (deep,(c:Int),(i:Int),h,acc.map<|bX 0)):=by
 have hss:ss d<=100000:=by
  have:d=0\/d=1\/d=2\/d=3\/d=4:=ah;rcases this with rfl|rfl|rfl|rfl|rfl<;>decide
 intro n;induction n with
 | zero=>intro c i h acc hc;omega
 | succ n ih=>
  intro c i h acc hc ha hs hi;rw [Ls];cases c with
  | zero=>
   have:decide (((0:Nat):Int) > 0)=false:=rfl;rw [this,aI];show Sm b (.ret (⟨33,0,[],[],acc++[]⟩:av)) _ _ _ _;rw [pJ];exact kU (α:=Unit) b hb hM 33 0 [] [] acc (by have:=vZ (ss d) (show acc.length<=3 by omega);omega) i h
  | succ c=>
   have:decide (((c+1:Nat):Int) > 0)=true:=kL ah;rw [this,aO,oK];have key:∀ t:av,(oK (mV d) c).bind (fun ts=>Pg.ret (⟨33,0,[],[],acc++(t::ts)⟩:av))=(oK (mV d) c).bind fun ts=>Pg.ret (⟨33,0,[],[],(acc++[t])++ts⟩:av):=fun t=>by
    congr 1;funext ts;rw [nC];rfl
   have assoc:∀ (p:Pg av) (f:av->Pg (List av)) (g:List av->Pg av),(p.bind f).bind g=p.bind fun a=>(f a).bind g:=fun p f g=>by
    induction p with
    | ret a=>rfl
    | rd k ih=>simp only [Pg.bind,ih]
   have asr:∀ (p:Pg (List av)) (f:List av->Pg (List av)) (g:List av->Pg av),(p.bind f).bind g=p.bind fun a=>(f a).bind g:=fun p f g=>by
    induction p with
    | ret a=>rfl
    | rd k ih=>simp only [Pg.bind,ih]
   rw [assoc];refine Sm.bind hi (BN d) (hS deep i h hdp g1 hi) fun t i h ht hi=>?_;dsimp only;rw [pz bE,aB,wrap64 ah ah,show ((c+1:Nat):Int) - 1=(c:Int) by omega,asr];have:=ih c i h (acc++[t]) ah bE (by rw [Hr,jB,Rp,vY];have:=ht.1;simp only [aT];omega) hi;rw [Dh] at this;show Sm b ((oK (mV d) c).bind fun ts=>Pg.ret (⟨33,0,[],[],acc++(t::ts)⟩:av)) _ _ _ _;rw [key t];exact this
theorem ajQ {M d:Nat} (hM:1048577 < M) (hd:d<=4) (hS:SS b M d):BS b (M+1) d:=by
 intro deep i h hdp g1 hi;show Sm b _ _ i h (Tz M (qd M) deep b (i:Int) h);unfold Tz rZ;refine Sm.bind hi (eD 3) (uO b hb 3 i h hi) fun r i h hr hi=>?_;obtain ⟨c,rfl⟩:=qJ hr.1;dsimp only;rw [BL];exact asq b hb hN hM hd hS deep hdp g1 M c i h [] ah bE (by simp [aT]) hi
theorem asu {M:Nat} (hM:1050000<=M):SS b (M+1) 0:=by
 intro deep i h hdp g1 hi;show Sm b _ _ i h (Lu M (qd M) deep b (i:Int) h);unfold Lu;rw [kL (show deep<=0 by omega),aO,aB];have e:(if 2 < deep then 2 else deep)=deep:=bI ah;dsimp only;rw [aO,e];exact BI (ajP b hb (N:=M) ah ah deep hdp ah i h hi)
theorem asv {M d:Nat} (hM:1050000<=M) (hd:d<=3) (deep:Int) (hdp:deep.toNat=d+1) (hB:BS b M d) (i:Nat) (h:Int) (hi:i<=b.length) (f:(Int×Int×Int)->Option (List aD×Int×Int))
  (hf:f=fun fF=>bif (fF.1==0) then (eP M 1 b fF.2.1 fF.2.2).bind fun ig=>((qd M).iZ (IntKind.wrap .i64<|deep - 1) b ig.2.1 ig.2.2).bind fun iq=>(iH M (⟨28,0,[],[],[]⟩:aD) [ig.1,iq.1]).bind fun jY=>some (jY,iq.2.1,iq.2.2) else (bif (fF.1==1) then (eP M 1 b fF.2.1 fF.2.2).bind fun nT=>((qd M).iZ (IntKind.wrap .i64<|deep - 1) b nT.2.1 nT.2.2).bind fun rE=>((qd M).iZ (IntKind.wrap .i64<|deep - 1) b rE.2.1 rE.2.2).bind fun bQ=>(iH M (⟨28,0,[],[],[]⟩:aD) [nT.1,rE.1,bQ.1]).bind fun sU=>some (sU,bQ.2.1,bQ.2.2) else (bif (fF.1==2) then (eP M 1 b fF.2.1 fF.2.2).bind fun ow=>((qd M).iZ (IntKind.wrap .i64<|deep - 1) b ow.2.1 ow.2.2).bind fun zV=>(iH M (⟨29,0,[],[],[]⟩:aD) [ow.1,zV.1]).bind fun kR=>some (kR,zV.2.1,zV.2.2) else (bif (fF.1==3) then ((qd M).iZ (IntKind.wrap .i64<|deep - 1) b fF.2.1 fF.2.2).bind fun mM=>(eP M 1 b mM.2.1 mM.2.2).bind fun uy=>(iH M (⟨30,0,[],[],[]⟩:aD) [mM.1,uy.1]).bind fun sS=>some (sS,uy.2.1,uy.2.2) else (bif (fF.1==4) then (Eh M 2 b fF.2.1 fF.2.2).bind fun nH=>(Eh M 1 b nH.2.1 nH.2.2).bind fun uz=>(Eh M 1 b uz.2.1 uz.2.2).bind fun oP=>((qd M).iZ (IntKind.wrap .i64<|deep - 1) b oP.2.1 oP.2.2).bind fun jT=>(iH M (⟨31,0,[],[],[]⟩:aD) [nH.1,uz.1,oP.1,jT.1]).bind fun rC=>some (rC,jT.2.1,jT.2.2) else ((yS 2 b fF.2.1 fF.2.2).bind fun nu=>bif nu.1 then ((qd M).iZ (IntKind.wrap .i64<|deep - 1) b nu.2.1 nu.2.2).bind fun lq=>some (lq.1,lq.2.1,lq.2.2) else ((yT b nu.2.1 nu.2.2).bind fun Cw=>(yT b Cw.2.1 Cw.2.2).bind fun rF=>((qd M).iZ (IntKind.wrap .i64<|deep - 1) b rF.2.1 rF.2.2).bind fun zT=>(iH M (⟨32,0,Cw.1,rF.1,[]⟩:aD) [zT.1]).bind fun oo=>some (oo,zT.2.1,zT.2.2)))))))):
  Sm b (Wj<|rZ<|mV d) (bX 0) i h (Option.bind (jD 6 b (i:Int) h) f):=by
 have hss:ss d<=100000:=by
  have:d=0\/d=1\/d=2\/d=3:=ah;rcases this with rfl|rfl|rfl|rfl<;>decide
 have w1:IntKind.wrap .i64 (deep - 1)=deep - 1:=wrap64 ah ah;have e:=BM (d:=1) ah;have e1:∀ (i:Nat) h,i<=b.length->Sm b (fJ 1) (bX 0) i h (eP M 1 b (i:Int) h):=fun i h hi=>Ro b hb (N:=M) ah ah 1 rfl ah ah i h hi;have p:=Rn (BN d);have g:∀ (i:Nat) h,i<=b.length->Sm b (rZ<|mV d) (bX 0) i h ((qd M).iZ (deep - 1) b (i:Int) h):=fun i h hi=>hB (deep - 1) i h ah ah hi;subst hf;rw [w1];unfold Wj;refine Sm.bind hi (eD 6) (uO b hb 6 i h hi) fun r i h _ hi=>?_;dsimp only;refine Sm.cond (fun _=>?_) fun _=>Sm.cond (fun _=>?_) fun _=>Sm.cond (fun _=>?_) fun _=>Sm.cond (fun _=>?_) fun _=>Sm.cond (fun _=>?_) fun _=>?_
 .refine Sm.bind hi e (e1 i h hi) fun t i h ht hi=>?_;dsimp only;refine Sm.bind hi p (g i h hi) fun u i h hu hi=>?_;exact kU (α:=Unit) b hb ah 28 0 [] [] [t,u] (by have:=ht.1;have:=hu.1;simp only [aT];omega) i h
 .refine Sm.bind hi e (e1 i h hi) fun t i h ht hi=>?_;dsimp only;refine Sm.bind hi p (g i h hi) fun u i h hu hi=>?_;dsimp only;refine Sm.bind hi p (g i h hi) fun v i h hv hi=>?_;exact kU (α:=Unit) b hb ah 28 0 [] [] [t,u,v] (by have:=ht.1;have:=hu.1;have:=hv.1;simp only [aT];omega) i h
 .refine Sm.bind hi e (e1 i h hi) fun t i h ht hi=>?_;dsimp only;refine Sm.bind hi p (g i h hi) fun u i h hu hi=>?_;exact kU (α:=Unit) b hb ah 29 0 [] [] [t,u] (by have:=ht.1;have:=hu.1;simp only [aT];omega) i h
 .refine Sm.bind hi p (g i h hi) fun u i h hu hi=>?_;dsimp only;refine Sm.bind hi e (e1 i h hi) fun t i h ht hi=>?_;exact kU (α:=Unit) b hb ah 30 0 [] [] [u,t] (by have:=ht.1;have:=hu.1;simp only [aT];omega) i h
 .refine Sm.bind hi (Rm ah) (aec b hb (N:=M) ah (d:=2) ah i h hi) fun t i h ht hi=>?_;dsimp only;refine Sm.bind hi (Rm ah) (aec b hb (N:=M) ah (d:=1) ah i h hi) fun u i h hu hi=>?_;dsimp only;refine Sm.bind hi (Rm ah) (aec b hb (N:=M) ah (d:=1) ah i h hi) fun v i h hv hi=>?_;dsimp only;refine Sm.bind hi p (g i h hi) fun w i h hw hi=>?_;exact kU (α:=Unit) b hb ah 31 0 [] [] [t,u,v,w] (by have:=ht.1;have:=hu.1;have:=hv.1;have:=hw.1;simp only [aT];omega) i h
 .refine Sm.bind hi (rX 2) (QZ b hb 2 i h hi) fun o i h _ hi=>?_;dsimp only;refine Sm.cond (fun _=>BI<|g i h hi) fun _=>?_;refine Sm.bind hi oJ (Ho b hb i h hi) fun x i h _ hi=>?_;dsimp only;refine Sm.bind hi oJ (Ho b hb i h hi) fun y i h _ hi=>?_;dsimp only;refine Sm.bind hi p (g i h hi) fun u i h hu hi=>?_;exact kU (α:=Unit) b hb ah 32 0 x y [u] (by have:=hu.1;simp only [aT];omega) i h
theorem asw {M d:Nat} (hM:1050000<=M) (hd:d<=3) (hB:BS b M d):SS b (M+1) (d+1):=by
 intro deep i h hdp g1 hi;show Sm b _ _ i h (Lu M (qd M) deep b (i:Int) h);unfold Lu mV;rw [tH (show¬deep<=0 by omega),aI];have ho:Sm b ((Al 3).bind fun o=>Pg.ret<|!o) (fun x=>x) i h ((yS 3 b (i:Int) h).bind fun dG=>some ((!dG.1),dG.2.1,dG.2.2)):=Sm.bind hi (rX 3) (QZ b hb 3 i h hi) fun o i h _ hi=>Sm.ret;refine Sm.bind hi aeb ho fun y i h _ hi=>?_;dsimp only;refine Sm.cond (fun _=>?_) fun _=>asv b hb hN hM hd deep hdp hB i h hi _ rfl;refine BI (ajP b hb (N:=M) ah ah _ ?_ ?_ i h hi)
 .split<;>omega
 .split<;>omega
theorem ajR:∀ (d M:Nat),d<=4->1050000+2*d+1<=M->SS b M d:=by
 intro d;induction d with
 | zero=>
  intro M hd hM;obtain ⟨M,rfl⟩:∃ m,M=m+1:=⟨M - 1,ah⟩
  exact asu b hb hN ah
 | succ d ih=>
  intro M hd hM;obtain ⟨M,rfl⟩:∃ m,M=m+1+1:=⟨M - 2,ah⟩
  exact asw b hb hN ah ah (ajQ b hb hN ah ah<|ih M ah ah)
theorem asx {d:Nat} (hd:d<=4) (EX:1050100<=N) (deep:Int) (hdp:deep.toNat=d) (g1: -700<=deep) (i:Nat) (h:Int) (hi:i<=b.length):Sm b (mV d) (bX 0) i h (Bd N deep b (i:Int) h):=ajR b hb hN d N hd ah deep i h hdp g1 hi
theorem ajS {d:Nat} (hd:d<=4) (EX:1050100<=N) (deep:Int) (hdp:deep.toNat=d) (g1: -700<=deep) (i:Nat) (h:Int) (hi:i<=b.length):Sm b (rZ<|mV d) (bX 0) i h (iZ N deep b (i:Int) h):=by
 obtain ⟨M,rfl⟩:∃ m,N=m+1:=⟨N - 1,ah⟩
 exact ajQ b hb hN ah hd (ajR b hb hN d M hd ah) deep i h hdp g1 hi
theorem asy (EX:1050100<=N) (r2:Int×Int×Int) (a:Int) (h2:r2.1=a) (ha:0<=a) (ha2:a < 2):∀ (n c:Nat) (i:Nat) (h:Int) (acc:List av),c < n->acc.length+c<=3->aT acc<=acc.length->i<=b.length->
  Sm b ((oK EU c).bind fun ws=>(tK [[102],[103],[109,97,120]]).bind fun x=>(rZ<|mV (1+a).toNat).bind fun u=>.ret (⟨44,0,x,[],(acc++ws)++[u]⟩:av)) (bX 0) i h (Lv N b n (r2,(c:Int),(i:Int),h,acc.map<|bX 0)):=by
 intro n;induction n with
 | zero=>intro c i h acc hc;omega
 | succ n ih=>
  intro c i h acc hc hl hs hi;rw [Lv];cases c with
  | zero=>
   have:decide (((0:Nat):Int) > 0)=false:=rfl;rw [this,aI];show Sm b ((tK [[102],[103],[109,97,120]]).bind fun x=>(rZ<|mV (1+a).toNat).bind fun u=>.ret (⟨44,0,x,[],(acc++[])++[u]⟩:av)) _ _ _ _;rw [pJ];refine Sm.bind hi (tL _ aJ aJ) (Hl b hb _ aJ i h hi) fun x i h hx hi=>?_;dsimp only;rw [h2,wrap64 ah ah];refine Sm.bind hi (ZI ha ha2) (ajS b hb hN (d:=(1+a).toNat) ah EX (1+a) rfl ah i h hi) fun u i h hu hi=>?_;dsimp only;rw [pz bE,aB];have:=kU (α:=Unit) b hb (N:=N) ah 44 0 x [] (acc++[u]) (by have:=hu.1;rw [Hr];simp only [aT];omega) i h;rw [Dh] at this;exact this
  | succ c=>
   have:decide (((c+1:Nat):Int) > 0)=true:=kL ah;rw [this,aO,oK];have assoc:∀ {α β γ:Type} (p:Pg α) (f:α->Pg β) (g:β->Pg γ),(p.bind f).bind g=p.bind fun a=>(f a).bind g:=fun p f g=>by
    induction p with
    | ret a=>rfl
    | rd k ih=>simp only [Pg.bind,ih]
   unfold EU;rw [assoc,assoc];refine Sm.bind hi oJ (Ho b hb i h hi) fun x i h hx hi=>?_;dsimp only;rw [pz bE,aB,wrap64 ah ah,show ((c+1:Nat):Int) - 1=(c:Int) by omega];have:=ih c i h (acc++[⟨1,0,x,[],[]⟩]) ah bE (by rw [Hr,jB];simp only [aT,aX,jG,vV];omega) hi;rw [Dh] at this;show Sm b (((oK EU c).bind fun vs=>Pg.ret<|(⟨1,0,x,[],[]⟩:av)::vs).bind _) _ _ _ _;rw [assoc];have key:(fun vs=>(Pg.ret<|(⟨1,0,x,[],[]⟩:av)::vs).bind fun ws=>(tK [[102],[103],[109,97,120]]).bind fun x_1=>(rZ<|mV (1+a).toNat).bind fun u=>Pg.ret (⟨44,0,x_1,[],acc++ws++[u]⟩:av))=fun ws=>(tK [[102],[103],[109,97,120]]).bind fun x_1=>(rZ<|mV (1+a).toNat).bind fun u=>Pg.ret (⟨44,0,x_1,[],acc++[⟨1,0,x,[],[]⟩]++ws++[u]⟩:av):=by
    funext ws;show (tK [[102],[103],[109,97,120]]).bind _=_;congr 1;funext x_1;congr 1;funext u;rw [nC acc [_] ws];rfl
   rw [key];exact this
theorem asz (EX:1050100<=N) (i:Nat) (h:Int) (hi:i<=b.length):Sm b uQ (bX 0) i h (TF N b (i:Int) h):=by
 unfold TF uQ;refine Sm.bind hi (eD 2) (uO b hb 2 i h hi) fun a i h ha hi=>?_;have ha2:a < 2:=ah;have wa:IntKind.wrap .i64 (1+a)=1+a:=wrap64 ah ah;have e:=BM (d:=(1+a).toNat) ah;have e1:=BM (d:=1) ah;have hB:=ZI ha.1 ha2;have gB:∀ (i:Nat) h,i<=b.length->Sm b (rZ<|mV (1+a).toNat) (bX 0) i h (iZ N (1+a) b (i:Int) h):=fun i h hi=>ajS b hb hN ah EX (1+a) rfl ah i h hi;have gE:∀ (i:Nat) h,i<=b.length->Sm b (fJ (1+a).toNat) (bX 0) i h (eP N (1+a) b (i:Int) h):=fun i h hi=>Ro b hb hN ah (1+a) rfl ah ah i h hi;have g1:∀ (i:Nat) h,i<=b.length->Sm b (fJ 1) (bX 0) i h (eP N 1 b (i:Int) h):=fun i h hi=>Ro b hb hN ah 1 rfl ah ah i h hi;dsimp only;rw [wa];refine Sm.bind hi (eD 8) (uO b hb 8 i h hi) fun r i h _ hi=>?_;dsimp only;refine Sm.cond (fun _=>?_) fun _=>Sm.cond (fun _=>?_) fun _=>Sm.cond (fun _=>?_) fun _=>Sm.cond (fun _=>?_) fun _=>Sm.cond (fun _=>?_) fun _=>Sm.cond (fun _=>?_) fun _=>Sm.cond (fun _=>?_) fun _=>?_
 .refine Sm.bind hi (eD 2) (uO b hb 2 i h hi) fun q i h hq hi=>?_;dsimp only;rw [wrap64 (n:=40+q) ah ah];refine Sm.bind hi hB (gB i h hi) fun u i h hu hi=>?_;exact kU (α:=Unit) b hb ah (40+q) 0 [] [] [u] (by have:=hu.1;simp only [aT];omega) i h
 .refine Sm.bind hi e (gE i h hi) fun t i h ht hi=>?_;exact kU (α:=Unit) b hb ah 42 1 [] [] [t] (by have:=ht.1;simp only [aT];omega) i h
 .refine Sm.bind hi hB (gB i h hi) fun t i h ht hi=>?_;exact kU (α:=Unit) b hb ah 42 2 [] [] [t] (by have:=ht.1;simp only [aT];omega) i h
 .refine Sm.bind hi e1 (g1 i h hi) fun t i h ht hi=>?_;dsimp only;refine Sm.bind hi e1 (g1 i h hi) fun u i h hu hi=>?_;exact kU (α:=Unit) b hb ah 43 1 [] [] [t,u] (by have:=ht.1;have:=hu.1;simp only [aT];omega) i h
 .refine Sm.bind hi e1 (g1 i h hi) fun t i h ht hi=>?_;dsimp only;refine Sm.bind hi e1 (g1 i h hi) fun u i h hu hi=>?_;dsimp only;refine Sm.bind hi hB (gB i h hi) fun v i h hv hi=>?_;exact kU (α:=Unit) b hb ah 43 3 [] [] [t,u,v] (by have:=ht.1;have:=hu.1;have:=hv.1;simp only [aT];omega) i h
 .refine Sm.bind hi (eD 3) (uO b hb 3 i h hi) fun q i h hq hi=>?_;obtain ⟨q,rfl⟩:=qJ hq.1;dsimp only;rw [BL];exact asy b hb hN EX _ a rfl ha.1 ha2 N q i h [] ah bE (by simp [aT]) hi
 .exact Sm.bind hi (tL _ aJ aJ) (Hl b hb _ aJ i h hi) fun x i h _ hi=>Sm.ret
 .refine Sm.bind hi e (gE i h hi) fun t i h ht hi=>?_;dsimp only;refine Sm.bind hi hB (gB i h hi) fun u i h hu hi=>?_;exact kU (α:=Unit) b hb ah 42 3 [] [] [t,u] (by have:=ht.1;have:=hu.1;simp only [aT];omega) i h
theorem asA (EX:1050100<=N) (kb:(Int×Int)->Option (List aD×Int×Int)):∀ (n c:Nat) (i:Nat) (h:Int) (acc:List av),c < n->acc.length+c<=3->aT acc<=acc.length*2960->i<=b.length->
  LD N b kb n ((c:Int),(i:Int),h,acc.map<|bX 0)=(let r:=Pg.run b ((oK uQ c).bind fun ts=>.ret (⟨45,0,[],[],acc++ts⟩:av)) i h;bif fits 220 r.1 then some (bX 0 r.1,(r.2.1:Int),r.2.2) else kb ((r.2.1:Int),r.2.2)):=by
 intro n;induction n with
 | zero=>intro c i h acc hc;omega
 | succ n ih=>
  intro c i h acc hc hl hs hi;rw [LD];cases c with
  | zero=>
   have:decide (((0:Nat):Int) > 0)=false:=rfl;rw [this,aI];have hz:aT acc<=900000:=by have:=vZ 2960 (show acc.length<=3 by omega);omega
   have hm:=ajB N ⟨45,0,[],[],[]⟩ acc ah hz;rw [hm,aB];show (bif decide (((bX 0 (⟨45,0,[],[],acc⟩:av)).length:Int)<=220) then _ else _)=_;have e:(let r:=Pg.run b ((oK uQ 0).bind fun ts=>Pg.ret (⟨45,0,[],[],acc++ts⟩:av)) i h;bif fits 220 r.1 then some (bX 0 r.1,(r.2.1:Int),r.2.2) else kb ((r.2.1:Int),r.2.2))=bif fits 220 (⟨45,0,[],[],acc++[]⟩:av) then some (bX 0 (⟨45,0,[],[],acc++[]⟩:av),(i:Int),h) else kb ((i:Int),h):=rfl;rw [e,pJ];have hf:decide (((bX 0 (⟨45,0,[],[],acc⟩:av)).length:Int)<=220)=fits 220 (⟨45,0,[],[],acc⟩:av):=by
    rw [AY];unfold fits;cases hc:Nat.ble (aX (⟨45,0,[],[],acc⟩:av)) 220 with
    | true=>have:=EW hc;exact kL ah
    | false=>refine tH fun hh=>?_;rw [ajF ah] at hc;cases hc
   rw [hf]
  | succ c=>
   have:decide (((c+1:Nat):Int) > 0)=true:=kL ah;rw [this,aO];have hI:=asz b hb hN EX i h hi;unfold Sm at hI;rw [hI,aB];dsimp only;rw [pz bE,aB,wrap64 ah ah,show ((c+1:Nat):Int) - 1=(c:Int) by omega];have hp:=Pg.VU b ZJ i h;have:=ih c (Pg.run b uQ i h).2.1 (Pg.run b uQ i h).2.2 (acc++[(Pg.run b uQ i h).1]) ah bE (by rw [Hr,jB,Rp,vY];have:=hp.1;simp only [aT];omega) (Pg.ER b uQ i h hi);rw [Dh] at this;refine Ht this ?_;have assoc:∀ {α β γ:Type} (p:Pg α) (f:α->Pg β) (g:β->Pg γ),(p.bind f).bind g=p.bind fun a=>(f a).bind g:=fun p f g=>by
    induction p with
    | ret a=>rfl
    | rd k ih=>simp only [Pg.bind,ih]
   have e:Pg.run b ((oK uQ<|c+1).bind fun ts=>Pg.ret (⟨45,0,[],[],acc++ts⟩:av)) i h=Pg.run b ((oK uQ c).bind fun ts=>Pg.ret (⟨45,0,[],[],acc++[(Pg.run b uQ i h).1]++ts⟩:av)) (Pg.run b uQ i h).2.1 (Pg.run b uQ i h).2.2:=by
    rw [oK,assoc,Pg.run_bind,assoc];congr 1;congr 1;funext ts;show Pg.ret (⟨45,0,[],[],acc++(_::ts)⟩:av)=_;rw [nC acc [_] ts];rfl
   rw [e]
theorem asB (EX:1050100<=N):∀ (n i:Nat) (h:Int),i<=b.length->FY N b n ((i:Int),h)=(Pg.loop b kV (fits 220) n i h).map fun r=>(bX 0 r.1,(r.2.1:Int),r.2.2):=by
 intro n;induction n with
 | zero=>intro i h hi;rfl
 | succ n ih=>
  intro i h hi;rw [FY,Pg.loop];have hb4:=uO b hb 4 i h hi;unfold Sm at hb4;rw [hb4,aB];dsimp only;have hr:=Pg.VU b (eD 4) i h;obtain ⟨c,hc⟩:=qJ hr.1;have hl:=Pg.ER b (kr 4) i h hi;have:=asA b hb hN EX (FY N b n) N c (Pg.run b (kr 4) i h).2.1 (Pg.run b (kr 4) i h).2.2 [] ah bE (by simp [aT]) hl;rw [hc];refine Ht this ?_;have e:Pg.run b kV i h=Pg.run b ((oK uQ c).bind fun ts=>Pg.ret (⟨45,0,[],[],[]++ts⟩:av)) (Pg.run b (kr 4) i h).2.1 (Pg.run b (kr 4) i h).2.2:=by
   unfold kV;rw [Pg.run_bind,hc];rfl
  rw [e];dsimp only;generalize Pg.run b ((oK uQ c).bind fun ts=>Pg.ret (⟨45,0,[],[],[]++ts⟩:av)) (Pg.run b (kr 4) i h).2.1 (Pg.run b (kr 4) i h).2.2=q at e;have hq:q.2.1<=b.length:=by rw [<- e];exact Pg.ER b kV i h hi
  cases fits 220 q.1 with
  | true=>rfl
  | false=>rw [aI,aI];exact ih _ _ hq
end
def asC:Pg.jf uP (fits 60) 40 135 2021368500568277588=true:=lQ
def asD:jH 135 2021368500568277588=1520775315923724161:=lQ
def asE:Pg.jf uP (fits 60) 40 135 1520775315923724161=true:=lQ
def asF:jH 135 1520775315923724161=(-1929235519155055454):=lQ
def asG:Pg.jf uP (fits 60) 40 135 (-1929235519155055454)=true:=lQ
def asH:Pg.jf uP (fits 60) 40 405 2021368500568277588=true:=by
 have a1:Pg.jf uP (fits 60) 40 (135+135) 1520775315923724161=true:=Pg.Ak _ _ _ _ _ _ asE (by rw [asF];exact asG);have a0:Pg.jf uP (fits 60) 40 (135+270) 2021368500568277588=true:=Pg.Ak _ _ _ _ _ _ asC (by rw [asD];exact a1);exact a0
def asI:Pg.jf kV (fits 220) 40 260 (-2744174768175047444)=true:=lQ
def asJ:jH 260 (-2744174768175047444)=9139760114735395424:=lQ
def asK:Pg.jf kV (fits 220) 40 260 9139760114735395424=true:=lQ
def asL:jH 260 9139760114735395424=8949882279719470868:=lQ
def asM:Pg.jf kV (fits 220) 40 260 8949882279719470868=true:=lQ
def asN:jH 260 8949882279719470868=8399572877787008776:=lQ
def asO:Pg.jf kV (fits 220) 40 260 8399572877787008776=true:=lQ
def asP:jH 260 8399572877787008776=(-644356377554321860):=lQ
def asQ:Pg.jf kV (fits 220) 40 260 (-644356377554321860)=true:=lQ
def asR:jH 260 (-644356377554321860)=(-7008574521026492240):=lQ
def asS:Pg.jf kV (fits 220) 40 260 (-7008574521026492240)=true:=lQ
def asT:jH 260 (-7008574521026492240)=(-326443216012795292):=lQ
def asU:Pg.jf kV (fits 220) 40 260 (-326443216012795292)=true:=lQ
def asV:jH 260 (-326443216012795292)=1119826188661489496:=lQ
def asW:Pg.jf kV (fits 220) 40 260 1119826188661489496=true:=lQ
def asX:jH 260 1119826188661489496=5199595073289098124:=lQ
def asY:Pg.jf kV (fits 220) 40 260 5199595073289098124=true:=lQ
def asZ:jH 260 5199595073289098124=8701555922248749824:=lQ
def ata:Pg.jf kV (fits 220) 40 260 8701555922248749824=true:=lQ
def atb:jH 260 8701555922248749824=2969263789539357108:=lQ
def atc:Pg.jf kV (fits 220) 40 258 2969263789539357108=true:=lQ
def atd:Pg.jf kV (fits 220) 40 2858 (-2744174768175047444)=true:=by
 have a9:Pg.jf kV (fits 220) 40 (260+258) 8701555922248749824=true:=Pg.Ak _ _ _ _ _ _ ata (by rw [atb];exact atc);have a8:Pg.jf kV (fits 220) 40 (260+518) 5199595073289098124=true:=Pg.Ak _ _ _ _ _ _ asY (by rw [asZ];exact a9);have a7:Pg.jf kV (fits 220) 40 (260+778) 1119826188661489496=true:=Pg.Ak _ _ _ _ _ _ asW (by rw [asX];exact a8);have a6:Pg.jf kV (fits 220) 40 (260+1038) (-326443216012795292)=true:=Pg.Ak _ _ _ _ _ _ asU (by rw [asV];exact a7);have a5:Pg.jf kV (fits 220) 40 (260+1298) (-7008574521026492240)=true:=Pg.Ak _ _ _ _ _ _ asS (by rw [asT];exact a6);have a4:Pg.jf kV (fits 220) 40 (260+1558) (-644356377554321860)=true:=Pg.Ak _ _ _ _ _ _ asQ (by rw [asR];exact a5);have a3:Pg.jf kV (fits 220) 40 (260+1818) 8399572877787008776=true:=Pg.Ak _ _ _ _ _ _ asO (by rw [asP];exact a4);have a2:Pg.jf kV (fits 220) 40 (260+2078) 8949882279719470868=true:=Pg.Ak _ _ _ _ _ _ asM (by rw [asN];exact a3);have a1:Pg.jf kV (fits 220) 40 (260+2338) 9139760114735395424=true:=Pg.Ak _ _ _ _ _ _ asK (by rw [asL];exact a2);have a0:Pg.jf kV (fits 220) 40 (260+2598) (-2744174768175047444)=true:=Pg.Ak _ _ _ _ _ _ asI (by rw [asJ];exact a1);exact a0
def ate (b:List UInt8) (n:Nat) (hn:18446744073709551657+b.length<=n) (i:Nat) (h:Int) (hi:i<=b.length):(Pg.loop b uP (fits 60) n i h).isSome=true:=
 Pg.ajv (h0:=2021368500568277588) (F:=40) asb (show Pg.One uP from Pg.One.bind (show Pg.One (kr 4) from trivial)) asH aJ aJ b 18446744073709551657 aJ (b.length - i) i n h rfl hi ah
def atf (b:List UInt8) (n:Nat) (hn:18446744073709551657+b.length<=n) (i:Nat) (h:Int) (hi:i<=b.length):(Pg.loop b kV (fits 220) n i h).isSome=true:=
 Pg.ajv (h0:=(-2744174768175047444)) (F:=40) aso (show Pg.One kV from Pg.One.bind (show Pg.One (kr 4) from trivial)) atd aJ aJ b 18446744073709551657 aJ (b.length - i) i n h rfl hi ah
section
set_option linter.unusedSectionVars false
variable (b:List UInt8) (hb:b.length<=1048576) (N:Nat) (hN:2100000<=N)
include hb hN
omit hN in
theorem atg:∀ (n j:Nat) (h:Int),b.length - j < n->j<=b.length->∃ r,Lg N n (b,h,(j:Int))=some (b,0,r):=by
 intro n;induction n with
 | zero=>intro j h hn;omega
 | succ n ih=>
  intro j h hn hj;rw [Lg];by_cases hlt:j < b.length
  .have e:ix b (j:Int)=some b[j]:=dn hlt;simp only [iL hlt,aO,aB];cases decide ((j:Int) < 4000) with
   | true=>
    rw [aO,e,aB,wrap64 (n:=(j:Int)+1) ah ah,show (j:Int)+1=((j+1:Nat):Int) by omega];exact ih (j+1) _ ah ah
   | false=>exact ⟨_,rfl⟩
  .simp only [jN hlt,aI,aB];exact ⟨_,rfl⟩
theorem aho:∃ h,Yf N b=some (b,0,h):=atg b hb N N 0 _ ah ah
end
def Wn (L:List aD):Prop:=∃ t,L=bX 0 t/\Gd 1500 12 t
def ath (L:List aD):Prop:=∀ x,x∈L->∀ k,k∈x.Kids-> -9223372036854775808<=k/\k<=9223372036854775807
def Di (L:List aD):Prop:=SmS L/\L.length<=3000/\ath L
def ati {m d:Nat} {t:av} (h:Gd m d t) (hm:m<=10000):SmS (bX 0 t):=fun x hx=>by
 have h1:=ZL t 0 x hx;have h2:=h.2.2 x hx;have:=h.1;exact ⟨ah,h2.1,h2.2⟩
def Wn.spo {L:List aD} (h:Wn L):Di L/\1<=L.length/\L.length<=1500:=by
 obtain ⟨t,rfl,ht⟩:=h;have:=vB t;have:=ht.1;exact ⟨⟨ati ht ah,by rw [AY];omega,fun x hx k hk=>by have:=ZM t 0 x hx k hk;omega⟩,by rw [AY];omega,by rw [AY];omega⟩
section
set_option linter.unusedSectionVars false
variable (b:List UInt8) (hb:b.length<=1048576) (N:Nat) (hN:18446744073709551657+2097152<=N)
include hb hN
theorem ajT (i h:Int) (h0:0<=i) (h1:i<=(b.length:Int)):Dr b (fun L=>∃ t,L=bX 0 t/\Gd 60 6 t) (Pv N b i h):=by
 obtain ⟨i,rfl⟩:=qJ h0;have e:Pv N b (i:Int) h=_:=asc b hb (N:=N) ah N i h ah;have hs:=ate b N ah i h ah;cases hl:Pg.loop b uP (fits 60) N i h with
 | none=>rw [hl] at hs;cases hs
 | some r=>
  obtain ⟨g1,g2,g3⟩:=Pg.adL b asa (fits 60) N i h r ah hl;rw [e,hl];exact ⟨_,_,_,rfl,⟨r.1,rfl,EW g2,g1.2⟩,ah,ah⟩
theorem atj (i h:Int) (h0:0<=i) (h1:i<=(b.length:Int)):Dr b (fun L=>∃ t,L=bX 0 t/\Gd 220 12 t) (TH N b i h):=by
 obtain ⟨i,rfl⟩:=qJ h0;have e:TH N b (i:Int) h=_:=asB b hb (N:=N) ah ah N i h ah;have hs:=atf b N ah i h ah;cases hl:Pg.loop b kV (fits 220) N i h with
 | none=>rw [hl] at hs;cases hs
 | some r=>
  obtain ⟨g1,g2,g3⟩:=Pg.adL b asf (fits 220) N i h r ah hl;rw [e,hl];exact ⟨_,_,_,rfl,⟨r.1,rfl,EW g2,g1.2⟩,ah,ah⟩
theorem atl (d:Nat) (hd:d<=2) (i h:Int) (h0:0<=i) (h1:i<=(b.length:Int)):Dr b (fun L=>∃ t,L=bX 0 t/\Gd 1500 9 t) (Bd N (d:Int) b i h):=by
 obtain ⟨i,rfl⟩:=qJ h0;have hs:ss d<=1500:=by
  have:d=0\/d=1\/d=2:=ah;rcases this with rfl|rfl|rfl<;>decide
 exact arH ah (asx b hb (N:=N) ah (d:=d) ah ah (d:Int) rfl ah i h ah) (BN d) fun t ht=>⟨t,rfl,ht.mono hs ah⟩
theorem ajU (i h:Int) (h0:0<=i) (h1:i<=(b.length:Int)):Dr b Wn (PL N b i h):=by
 have k1:∀ (r:Int) (i h:Int) (y:Bool),0<=i->i<=(b.length:Int)->Dr b Wn (PK N b ((r,i,h),y)):=fun r i h y h0 h1=>by
  unfold PK;dsimp only;refine Dr.cond (fun _=>QV<|(ajT b hb N hN i h h0 h1).imp ?_) fun _=>Dr.cond (fun _=>QV<|(atl b hb N hN 2 ah i h h0 h1).imp ?_) fun _=>QV ((atj b hb N hN i h h0 h1).imp ?_)
  .rintro L ⟨t,rfl,ht⟩;exact ⟨t,rfl,ht.mono ah ah⟩
  .rintro L ⟨t,rfl,ht⟩;exact ⟨t,rfl,ht.mono ah ah⟩
  .rintro L ⟨t,rfl,ht⟩;exact ⟨t,rfl,ht.mono ah ah⟩
 unfold PL;refine Dr.bind (EP b hb _ i h h0 h1) fun r i h hr h0 h1=>?_;dsimp only;exact Dr.cond (fun _=>k1 r i h _ h0 h1) fun _=>k1 r i h _ h0 h1
theorem Rq {α:Type} {Q:α->Prop} {L:List aD} (hL:Di L) {k:Int} (h0:0<=k) (h1:k < (L.length:Int)) {x:aD} (hx:(x.Kids.length<=20000/\x.Text.length<=20/\x.Other.length<=20)/\∀ k,k∈x.Kids-> -9223372036854775808<=k/\k<=9223372036854775807) {f:List aD->Option (α×Int×Int)} (hf:∀ L',Di L'->L'.length=L.length->Dr b Q (f L')):Dr b Q (Option.bind (upd L k x) f):=by
 obtain ⟨k,rfl⟩:=qJ h0;have hk:k < L.length:=ah;rw [adf hk,aB];refine hf _ ⟨fun y hy=>?_,by rw [aee];exact hL.2.1,fun y hy=>?_⟩ (aee ..)
 .rcases aef hy with h|h
  .exact hL.1 y h
  .rw [h];exact hx.1
 .rcases aef hy with h|h
  .exact hL.2.2 y h
  .rw [h];exact hx.2
theorem Wo {α:Type} {Q:α->Prop} {L:List aD} (hL:Di L) {k:Int} (h0:0<=k) (h1:k < (L.length:Int)) {f:aD->Option (α×Int×Int)} (hf:∀ x,x∈L->Dr b Q (f x)):Dr b Q (Option.bind (ix L k) f):=by
 obtain ⟨k,rfl⟩:=qJ h0;have hk:k < L.length:=ah;rw [dn hk,aB];exact hf _ (nO hk)
theorem atm (i h:Int) (h0:0<=i) (h1:i<=(b.length:Int)):Dr b Di (TI N b i h):=by
 unfold TI;refine Dr.bind (ajU b hb N hN i h h0 h1) fun L i h hL h0 h1=>?_;obtain ⟨hS,hl1,hl2⟩:=hL.spo;dsimp only;refine Dr.bind (EP b hb _ i h h0 h1) fun k i h hk h0 h1=>?_;have k0:=hk.1;have k1:k < (L.length:Int):=ah;dsimp only;refine Dr.bind (EP b hb _ i h h0 h1) fun r i h hr h0 h1=>?_;dsimp only;have fin:∀ (L':List aD) (i h:Int),Di L'->0<=i->i<=(b.length:Int)->Dr b Di (LH N b (L',i,h)):=fun L' i h hL' h0 h1=>Dr.some hL' h0 h1;refine Dr.cond (fun _=>?_) fun _=>Dr.cond (fun _=>?_) fun _=>Dr.cond (fun _=>?_) fun _=>Dr.cond (fun _=>?_) fun _=>fin L i h hS h0 h1
 .obtain ⟨k,rfl⟩:=qJ k0;have e:cut L 0 (k:Int)=some (L.take k):=by
   have:=ajV (l:=L) (a:=0) (b:=k) ah ah;rw [EL,Nat.sub_zero] at this;exact this
  rw [e,aB];exact Dr.some ⟨fun x hx=>hS.1 x<|aeg hx,by have:=hS.2.1;simp;omega,fun x hx=>hS.2.2 x<|aeg hx⟩ h0 h1
 .refine Wo b hb N hN hS k0 k1 fun x hx=>?_;refine Dr.bind (ajl b hb (P:=fun o=>-9223372036854775808<=o/\o<=9223372036854775807) _ i h h0 h1 (by show 0 < 4;decide) fun o ho=>by
   simp only [iO,Nt,Nu] at ho;rcases ho with rfl|rfl|rfl|rfl<;>omega) fun o i h ho h0 h1=>?_
  have hxs:=hS.1 x hx;have hxi:=hS.2.2 x hx;dsimp only;obtain ⟨t,rfl,ht⟩:=hL;have hkl:=ZL t 0 x hx;have:=ht.1;rw [pz bE,aB];refine Rq b hb N hN hS k0 k1 ?_ fun L' hL' _=>fin L' i h hL' h0 h1;exact ⟨⟨bE,hxs.2.1,hxs.2.2⟩,fun k hk=>by
   rcases lH.1 hk with h|h
   .exact hxi k h
   .rw [vW.1 h];exact ho⟩
 .obtain ⟨k,rfl⟩:=qJ k0;have hkn:k < L.length:=ah;have ek:ix L (k:Int)=some L[k]:=dn hkn;simp only [ek,aB];refine Dr.cond (fun hc=>?_) fun _=>fin L i h hS h0 h1;have h00:0 < L[k].Kids.length:=by have:=nP hc;omega
  refine Dr.bind (EP b hb _ i h h0 h1) fun o i h ho h0 h1=>?_;rw [wrap64 ah ah] at ho;have hxs:=hS.1 _ (nO hkn);have hxi:=hS.2.2 _ (nO hkn);have e1:ix L[k].Kids 0=some L[k].Kids[0]:=dn (i:=0) h00;have e2:∀ v,upd L[k].Kids 0 v=some (L[k].Kids.set 0 v):=fun v=>adf (i:=0) h00;dsimp only;rw [e1,aB,e2,aB];refine Rq b hb N hN hS ah k1 ?_ fun L' hL' _=>fin L' i h hL' h0 h1;exact ⟨⟨by show (List.set _ _ _).length<=_;rw [aee];exact hxs.1,hxs.2.1,hxs.2.2⟩,fun k' hk'=>by
   rcases aef hk' with h|h
   .exact hxi k' h
   .rw [h];obtain ⟨ho1,ho2⟩:=ho;rw [wrap64 ah ah];omega⟩
 .rw [pz ah,aB];exact Dr.some ⟨fun x hx=>by
   rcases lH.1 hx with h|h<;>exact hS.1 x h,by rw [jB];omega,fun x hx=>by
   rcases lH.1 hx with h|h<;>exact hS.2.2 x h⟩ h0 h1
theorem atn (i h:Int) (h0:0<=i) (h1:i<=(b.length:Int)):Dr b Di (TL N b i h):=by
 unfold TL;refine Dr.bind (ajU b hb N hN i h h0 h1) fun L i h hL h0 h1=>?_;obtain ⟨hS,hl1,hl2⟩:=hL.spo;dsimp only;refine Dr.bind (EP b hb _ i h h0 h1) fun k i h hk h0 h1=>?_;have k0:=hk.1;have k1:k < (L.length:Int):=ah;dsimp only;refine Dr.bind (EP b hb _ i h h0 h1) fun r i h hr h0 h1=>?_;dsimp only;have fin:∀ (L':List aD) (i h:Int),Di L'->0<=i->i<=(b.length:Int)->Dr b Di (Jj N b (L',i,h)):=fun L' i h hL' h0 h1=>Dr.some hL' h0 h1;refine Dr.cond (fun _=>?_) fun _=>Dr.cond (fun _=>?_) fun _=>Dr.cond (fun _=>?_) fun _=>Dr.cond (fun _=>?_) fun _=>Dr.cond (fun _=>QV<|atm b hb N hN i h h0 h1) fun _=>fin L i h hS h0 h1
 .refine Dr.bind (EP b hb _ i h h0 h1) fun o i h _ h0 h1=>Wo b hb N hN hS k0 k1 fun x hx=>?_;refine Rq b hb N hN hS k0 k1 ?_ fun L' hL' _=>fin L' i h hL' h0 h1;exact ⟨hS.1 x hx,hS.2.2 x hx⟩
 .refine Dr.bind (ajl b hb (P:=fun _=>True) _ i h h0 h1 aJ fun _ _=>trivial) fun o i h _ h0 h1=>Wo b hb N hN hS k0 k1 fun x hx=>?_;refine Rq b hb N hN hS k0 k1 ?_ fun L' hL' _=>fin L' i h hL' h0 h1;exact ⟨hS.1 x hx,hS.2.2 x hx⟩
 .refine Dr.bind (ajm b hb 20 _ i h h0 h1 aJ aJ) fun o i h ho h0 h1=>Wo b hb N hN hS k0 k1 fun x hx=>?_;refine Rq b hb N hN hS k0 k1 ?_ fun L' hL' _=>fin L' i h hL' h0 h1;exact ⟨⟨(hS.1 x hx).1,ho,(hS.1 x hx).2.2⟩,hS.2.2 x hx⟩
 .refine Dr.bind (ajm b hb 20 _ i h h0 h1 aJ aJ) fun o i h ho h0 h1=>Wo b hb N hN hS k0 k1 fun x hx=>?_;refine Rq b hb N hN hS k0 k1 ?_ fun L' hL' _=>fin L' i h hL' h0 h1;exact ⟨⟨(hS.1 x hx).1,(hS.1 x hx).2.1,ho⟩,hS.2.2 x hx⟩
end
section
set_option linter.unusedSectionVars false
variable (b:List UInt8) (hb:b.length<=1048576) (N:Nat) (hN:18446744073709551657+2097152<=N)
include hb hN
theorem ahp (i h:Int) (h0:0<=i) (h1:i<=(b.length:Int)):Dr b Di (TM N b i h):=by
 unfold TM;refine Dr.bind (ars b hb 10 i h h0 h1) fun r i h _ h0 h1=>?_;dsimp only;refine Dr.cond (fun _=>QV<|atn b hb N hN i h h0 h1) fun _=>QV ((ajT b hb N hN i h h0 h1).imp ?_);rintro L ⟨t,rfl,ht⟩;exact (Wn.spo ⟨t,rfl,ht.mono ah ah⟩).1
omit hN in
end
def ahr (N:Nat) (a:List aD) (hN:1048577+400 < N) (hs:∀ x,x∈a->vC x):∃ b:Bool,La N a=some b/\Ut N a=some b/\(b=true->uN a=true/\∀ t,TA a t 0 (a.length - 1)->iC t.kind=true):=by
 obtain ⟨b,b1,b2,b3⟩:=ato N a hN hs;unfold La Ut;rw [b1,b2];simp only [aB];cases b with
 | false=>exact ⟨false,rfl,rfl,fun h=>by cases h⟩
 | true=>
  obtain ⟨h1,h2⟩:=b3 rfl;obtain ⟨l1,l2,_⟩:=IX h1;have hlt:a.length - 1 < a.length:=ah;have hx:=dn hlt;rw [wrap64 ah ah,show (a.length:Int) - 1=((a.length - 1:Nat):Int) by omega,hx];simp only [aO,aB,Dj,Hu];refine ⟨_,rfl,rfl,fun h=>⟨h1,fun t ht=>?_⟩⟩;obtain ⟨n,hn,e1,_⟩:=ht.node;rw [eY hlt] at hn;cases hn;rw [e1];exact h
def ajW (G:Nat) (t:av) (ht:aX t<=1000000) (ih:∀ k,k∈t.kids->(MU G).Ad k=some (aX k:Int)):∀ (ts:List av) (n j m:Nat),t.kids.drop j=ts->ts.length < n->j<=t.kids.length->m+aT ts<=1000000->
  JV G (MU G) n (t,(m:Int),(j:Int))=some ((m+aT ts:Nat):Int)
 | [],n,j,m,hd,hn,hj,hm=>by
  obtain ⟨n,rfl⟩:∃ q,n=q+1:=⟨n - 1,by simp at hn;omega⟩
  have hlt: ¬j < t.kids.length:=by
   intro h;rw [drop_cons h] at hd;cases hd
  rw [JV];simp only [jN hlt,aI,aT,Hw]
 | k::ts,n,j,m,hd,hn,hj,hm=>by
  simp only [jG] at hn;rw [aT] at hm;obtain ⟨n,rfl⟩:∃ q,n=q+1:=⟨n - 1,ah⟩
  have hlt:j < t.kids.length:=by
   cases vP j t.kids.length with
   | inl h=>exact h
   | inr h=>rw [CZ h] at hd;cases hd
  have htl:=zy t.kids;have hs:=Np t;rw [drop_cons hlt] at hd;injection hd with hd1 hd2;rw [JV];simp only [iL hlt,aO,dn hlt,aB,hd1,ih k<|by rw [<- hd1];exact nO hlt];rw [wrap64 (n:=(m:Int)+(aX k:Int)) ah ah,Vy hlt<|by simp only [maxLen];omega];have:=ajW G t ht ih ts n (j+1) (m+aX k) hd2 ah ah ah;refine Ht this ?_;rw [aT,Kk]
def atp:∀ (t:av) (N:Nat),2*aX t+2<=N->aX t<=1000000->(MU N).Ad t=some (aX t:Int):=by
 intro t;induction t using Ag with
 | h t ih=>
  intro N hN hsz;obtain ⟨M,rfl⟩:∃ M,N=M+1:=⟨N - 1,ah⟩
  have hs:=Np t;have htl:=zy t.kids;have:=ajW M t hsz (fun k hk=>ih k hk M (by have:=Hf hk;omega) (by have:=Hf hk;omega)) t.kids M 0 1 rfl ah ah ah;refine Ht this ?_;rw [hs,Nat.add_comm]
def ahn (x:List UInt8):Ye x=some (decide<|(x.length:Int) > 1048576):=rfl
mutual
def ZN (f:Bool):∀ (t:av) (p:aL),(dI f t p).length+3<=7*aX t
 | ⟨k,o,x,y,ks⟩,p=>by
  have h1:=ajX k o x (bG f k o ks.length 0 p ks);have h2:=ajY f k o ks.length p ks 0;have h3:=VH f k o ks.length p ks 0;rw [dI,aX];omega
def ajY (f:Bool) (k o:Int) (n:Nat) (p:aL):∀ (ts:List av) (j:Nat),((bG f k o n j p ts).map List.length).sum+ts.length<=7*aT ts
 | [],j=>by rw [bG];simp
 | t::ts,j=>by
  have h1:=ajY f k o n p ts (j+1);have h2:=ZN f t (fU k o n j p);have h3:=ZN f t bU;rw [bG,aT];simp only [kM,Wp,jG];cases tgt k j<;>simp only [aO,aI]
  .unfold qH;cases vQ f t.kind t.op (fU k o n j p)<;>simp only [aO,aI,jG,jB,vV]<;>omega
  .omega
end
def Ya (f:Bool) (t:av) (p:aL):(bT f t p).length+1<=7*aX t:=by
 have h2:=ZN f t p;have h3:=ZN f t bU;unfold bT qH;cases vQ f t.kind t.op p<;>simp only [aO,aI,jG,jB,vV]<;>omega
def atq (k:Int):(spl k).length<=10:=by
 have key:∃ x:List UInt8,CG k=some x/\x.length<=10:=by
  unfold CG;rw [EI,EI,Ze,acY];simp only [aB];cases h1:(k==1) with
  | true=>exact ⟨[10],rfl,aA⟩
  | false=>
   cases h2:(decide (k>=10)&&decide (k<=26)) with
   | true=>
    simp only [dP,mP] at h2;obtain ⟨j,rfl⟩:∃ j:Nat,k=(j:Int)+10:=⟨(k - 10).toNat,ah⟩
    have hl:qX.length=17:=rfl;have hw:IntKind.wrap .i64 ((j:Int)+10 - 10)=(j:Int):=by rw [wrap64 ah ah];omega
    have ha:(qX.all fun x=>decide<|x.length<=10)=true:=rfl;rw [aI,aO,hw,dn ah];exact ⟨_,rfl,nP<|jR.1 ha _<|nO _⟩
   | false=>
    cases h3:(decide (k>=30)&&decide (k<=68)) with
    | true=>
     simp only [dP,mP] at h3;obtain ⟨j,rfl⟩:∃ j:Nat,k=(j:Int)+30:=⟨(k - 30).toNat,ah⟩
     have hl:yP.length=39:=rfl;have hw:IntKind.wrap .i64 ((j:Int)+30 - 30)=(j:Int):=by rw [wrap64 ah ah];omega
     have ha:(yP.all fun x=>decide<|x.length<=10)=true:=rfl;rw [aI,aI,aO,hw,dn ah];exact ⟨_,rfl,nP<|jR.1 ha _<|nO _⟩
    | false=>exact ⟨[],rfl,aA⟩
 obtain ⟨x,h1,h2⟩:=key;have:=ajb k;rw [h1] at this;rw [<- lF this];exact h2
def jV (x:List aC):Prop:=∀ t,t∈x->QN t
def jV.nil:jV []:=fun t h=>by cases h
def jV.app {x y:List aC} (hx:jV x) (hy:jV y):jV (x++y):=fun t h=>by
 rcases lH.1 h with h|h
 .exact hx t h
 .exact hy t h
def jV.one {k:Int} {x:List UInt8} (hx:x.length<=1048576):jV [⟨k,x,0⟩]:=fun u h=>by rw [vW.1 h];exact hx
def jV.sg (k:Int):jV [sg k]:=.one (by have:=atq k;omega)
def jV.cons {t:aC} {x:List aC} (ht:jV [t]) (hx:jV x):jV (t::x):=.app (x:=[t]) ht hx
def jV.getD {l:List (List aC)} (h:∀ x,x∈l->jV x) (j:Nat):jV (l.getD j []):=by
 rw [Da];cases e:l[j]? with
 | none=>exact .nil
 | some x=>exact h x (mR e)
def ajZ:∀ (l:List (List aC)) (b:Bool),(∀ x,x∈l->jV x)->jV (dS b l)
 | [],b,_=>by rw [dS];exact .nil
 | x::l,b,h=>by
  rw [dS];refine .app ?_ (.app (h x aA)<|ajZ l true fun y hy=>h y<|by simp [hy]);cases b with
  | false=>exact .nil
  | true=>exact .sg 36
def jV.par {b:Bool} {x y:List aC} (hx:jV x) (hy:jV y):jV (qH b x y):=by
 cases b with
 | false=>exact hx
 | true=>exact .cons (.sg 32) (.app hy<|.sg 33)
def atr (k o:Int) (x:List UInt8) (hx:x.length<=1048576) (l:List (List aC)) (hl:∀ x,x∈l->jV x):jV (jd k o x l):=by
 have d:=jV.getD hl;have li:=ajZ l false hl;have cd:∀ (b:Bool) (u v:List aC),jV u->jV v->jV (bif b then u else v):=fun b u v h1 h2=>by cases b<;>assumption
 unfold jd;exact cd _ _ _ (.one hx) <| cd _ _ _ (.one hx) <| cd _ _ _ (.one hx) <| cd _ _ _ (.one hx)
  <| cd _ _ _ (.cons (.one hx)<|.cons (.sg _)<|.app li<|.sg _) <| cd _ _ _ (.cons (.one hx)<|.cons (.sg _)<|.app li<|.sg _) <| cd _ _ _ (.cons (.one hx)<|.cons (.sg _)<|.app li<|.sg _)
  <| cd _ _ _ (.cons (.sg _)<|d 0) <| cd _ _ _ (.cons (.sg _)<|d 0) <| cd _ _ _ (.cons (.sg _)<|d 0) <| cd _ _ _ (.app (d 0)<|.sg _)
  <| cd _ _ _ (.app (cd _ _ _ (.cons (.sg _)<|.app li<|.sg _)<|d 0)<|.cons (.sg _)<|.one hx)
  <| cd _ _ _ (.app (d 0)<|.cons (.sg _)<|.app (d 1)<|.cons (.sg _)<|d 2) (.app (d 0)<|.app (cd _ _ _ .nil<|.sg _)<|d 1)
def TxA (t:av):Prop:=t.text.length<=1048576
mutual
def akb:∀ (t:av) (b:Nat),(∀ x,x∈bX b t->tx x)->allT TxA t
 | ⟨k,o,x,y,ks⟩,b,h=>by
  rw [bX] at h;rw [allT];exact ⟨(h ⟨k,o,x,y,nV b ks⟩ aA).1,akc ks b fun x hx=>h x<|by simp [hx]⟩
def akc:∀ (ts:List av) (b:Nat),(∀ x,x∈jU b ts->tx x)->zu TxA ts
 | [],b,h=>by rw [zu];trivial
 | t::ts,b,h=>by
  rw [jU] at h;rw [zu];exact ⟨akb t b fun x hx=>h x (by simp [hx]),akc ts _ fun x hx=>h x<|List.mem_append_right _ hx⟩
end
def akd (f:Bool):∀ t:av,allT TxA t->∀ p,jV (dI f t p):=by
 intro t;induction t using Ag with
 | h t ih=>
  intro hg p;rw [iM];refine atr _ _ _ (sM hg) _ ?_;have key:∀ (ts:List av) (j:Nat),(∀ u,u∈ts->u∈t.kids)->∀ x,x∈bG f t.kind t.op t.kids.length j p ts->jV x:=by
   intro ts;induction ts with
   | nil=>intro j _ x hx;rw [bG] at hx;cases hx
   | cons u ts ih2=>
    intro j hm x hx;rw [iA] at hx;rcases iO.1 hx with rfl|hx
    .have hu:=hm u aA;have hB:=ih u hu (BF hg u hu);unfold bS bT;cases tgt t.kind j with
     | true=>exact hB _
     | false=>exact jV.par (hB _) (hB _)
    .exact ih2 (j+1) (fun v hv=>hm v<|by simp [hv]) x hx
  exact key t.kids 0 fun u hu=>hu
def ahm (f:Bool) (t:av) (hx:Ta t) (p:aL):jV (bT f t p):=by
 have h:=akb t 0 hx;unfold bT;exact jV.par (akd f t h p) (akd f t h bU)
def att (k:Int):Ev k=some (mQ k):=by
 unfold Ev mQ;cases (k==32)<;>cases (k==34)<;>rfl
def atu (k:Int):Ew k=some (nU k):=by
 unfold Ew nU;cases (k==33)<;>cases (k==35)<;>rfl
def atv (N:Nat) (a:List aC) (ha:a.length<=3000):∀ (n i d:Nat),a.length - i < n->i<=a.length->d<=40->∃ r,CP N n (a,(d:Int),(i:Int))=some r/\(jW d (a.drop i)=true->r= -1)/\(jW d (a.drop i)=false->0<=r/\r < (a.length:Int)):=by
 intro n;induction n with
 | zero=>intro i d h;omega
 | succ n ih=>
  intro i d hn hi hd;rw [CP];by_cases hlt:i < a.length
  .have k2:∀ (d':Nat) (v:Int),v=(d':Int)->d'=qI d a[i].Kind->∃ r,MC N (CP N n) ((i:Int),a,v)=some r/\(jW d (a.drop i)=true->r= -1)/\(jW d (a.drop i)=false->0<=r/\r < (a.length:Int)):=fun d' v hv hd'=>by
    subst hv;unfold MC;dsimp only;rw [EN hlt,jW,<- hd'];by_cases xk:d'<=40
    .rw [tH (show¬(d':Int) > 40 by omega),kL xk,aI,wrap64 ah ah,show (i:Int)+1=((i+1:Nat):Int) by omega,Ae];exact ih (i+1) d' ah ah xk
    .rw [kL (show (d':Int) > 40 by omega),tH xk,aO,VJ];exact ⟨_,rfl,(fun h=>by cases h),fun _=>⟨ah,ah⟩⟩
   rw [iL hlt,aO,dn hlt,aB,att,aB,atu,aB];cases ho:mQ a[i].Kind with
   | true=>
    rw [aO,wrap64 ah ah];exact k2 (d+1) _ ah (by unfold qI;rw [ho,(VK ho).1];rfl)
   | false=>
    rw [aI];cases hc:nU a[i].Kind with
    | true=>
     rw [aO,wrap64 ah ah];exact k2 (d - 1) _ (by split<;>omega) (by unfold qI;rw [ho,hc];rfl)
    | false=>
     rw [aI];exact k2 d _ rfl (by unfold qI;rw [ho,hc];rfl)
  .rw [jN hlt,aI];exact ⟨-1,rfl,fun _=>rfl,fun h=>by rw [CZ ah] at h;cases h⟩
def atw (N:Nat) (a:List aC) (ha:a.length<=3000) (hN:3000 < N):∃ r,YT N a=some r/\(jW 0 a=true->r= -1)/\(jW 0 a=false->0<=r/\r < (a.length:Int)):=by
 have:=atv N a ha N 0 0 ah ah ah;rw [EL] at this;exact this
def atx (N:Nat) (a:List aC) (ha:a.length<=3000) (hN:3000 < N) (h:FP N a=some true):∃ c,Va N a=some c/\(jW 0 a=true->c=⟨0,0⟩)/\(jW 0 a=false->c.Kind=4):=by
 obtain ⟨r,r1,r2,r3⟩:=atw N a ha hN;unfold Va;rw [h,aB,r1];simp only [nN,aI,aB];cases hn:jW 0 a with
 | true=>
  rw [r2 hn];exact ⟨_,rfl,fun _=>rfl,fun h=>by cases h⟩
 | false=>
  obtain ⟨g1,g2⟩:=r3 hn;obtain ⟨j,rfl⟩:∃ j:Nat,r=(j:Int):=⟨r.toNat,ah⟩
  have hj:j < a.length:=ah;rw [kL (show (j:Int)>=0 by omega),aO];unfold UZ;rw [iL hj,aO,dn hj];exact ⟨_,rfl,(fun h=>by cases h),fun _=>rfl⟩
def ahv (N:Nat) (hN:2000000<=N) (l:List aC) (hl:l.length<=3000) (t:av) (h:Bool) (d:fZ l bU 0 l.length t h) (hz:aX t<=400) (hd:je t<=40) (hto:FP N l=some true):∃ r,Vq N l bU=some r/\(jW 0 l=true->r=(bX 0 t,(l.length:Int),⟨0,0⟩))/\(jW 0 l=false->r.2.2.Kind=4):=by
 obtain ⟨c,c1,c2,c3⟩:=atx N l hl ah hto;unfold Vq;rw [Ti,show posB bU=true from rfl,c1];simp only [aB,nN,aI];cases hn:jW 0 l with
 | false=>
  have h4:=c3 hn;rw [h4];exact ⟨_,rfl,(fun h=>by cases h),fun _=>h4⟩
 | true=>
  have e0:=c2 hn;subst e0;have hk:kd l l.length=0:=by unfold kd;rw [zo<|dX _];rfl
  have hr:=aty l hl d hz bU rfl rfl 1 ah ah (d.lvl rfl) (by rw [hk];exact atz _);have n1:(1:Int).toNat=1:=rfl;have e:=hr N (by show _+4*(16 - (1:Int).toNat)<=N;omega) [];have e':Vl N bU l 0 false []=some (eF t h,(l.length:Int),false,[]):=by
   have e2:qC N ⟨false,false⟩ l 0 false []=some (eF t h,(l.length:Int),false,[]):=e;unfold Vl;show Option.bind (qC N ⟨false,false⟩ l 0 false []) _=_;rw [e2];rfl
  rw [e'];simp only [aB,aI];have hb:Vn N (eF t h).tree=some ⟨0,0⟩:=by
   unfold Vn;have e1:Ad N t=some (aX t:Int):=atp t N ah ah;have e2:vK N t=some (je t:Int):=ake t N ah ah;show Option.bind (Ad N t) _=_;rw [e1,aB,tH (show¬(aX t:Int) > 400 by omega),aI];show Option.bind (vK N t) _=_;rw [e2,aB,tH (show¬(je t:Int) > 40 by omega),aI]
  have hL:QC N (eF t h).tree=some (bX 0 t):=atA N t ah ah;rw [hb,hL];exact ⟨_,rfl,fun _=>rfl,fun h=>by cases h⟩
def Hy (k:Int):Bool:=k==7||k==8
def uo:Bool->List aC->Nat
 | _,[]=>0
 | b,t::ts=>(bif t.Kind==32&&!b then 1 else 0)+uo (Hy t.Kind) ts
def Pz (x:List aC) (n:Nat):Prop:=∀ y,uo false (x++y)=n+uo false y
def Pz.app {x y:List aC} {n m:Nat} (h:Pz x n) (g:Pz y m):Pz (x++y) (n+m):=fun z=>by rw [nC,h,g];omega
def Pz.call {k:Int} {x:List UInt8} {y:List aC} {n:Nat} (hk:k=7\/k=8) (h:Pz y n):Pz (⟨k,x,0⟩::sg 32::y) n:=fun z=>by
 rcases hk with rfl|rfl;all_goals
  show 0+(0+uo false (y++z))=_;rw [h];omega
def Rl (x y:List aC):Prop:=∃ n m,Pz x n/\Pz y m/\m<=n
def Rl.nil:Rl [] []:=⟨0,0,fun y=>aA,fun y=>aA,dX _⟩
def Rl.app {x y x' y':List aC}:Rl x y->Rl x' y'->Rl (x++x') (y++y')
 | ⟨n,m,h1,h2,h3⟩,⟨n',m',g1,g2,g3⟩=>⟨n+n',m+m',h1.app g1,h2.app g2,ah⟩
def Rl.tok {t:aC} (h:(t.Kind==32)=false) (h2:Hy t.Kind=false):Rl [t] [t]:=by
 have:Pz [t] 0:=fun y=>by
  show (bif t.Kind==32&&!false then 1 else 0)+uo (Hy t.Kind) y=_;rw [h,h2];rfl
 exact ⟨0,0,this,this,dX _⟩
def Rl.cons {t:aC} {x y:List aC} (h:(t.Kind==32)=false) (h2:Hy t.Kind=false) (g:Rl x y):Rl (t::x) (t::y):=Rl.app (x:=[t]) (y:=[t]) (.tok h h2) g
def Rl.open':Rl [sg 32] [sg 32]:=⟨1,1,fun _=>rfl,fun _=>rfl,dX _⟩
def Rl.wrap {x y:List aC} (g:Rl x y):Rl (sg 32::(x++[sg 33])) (sg 32::(y++[sg 33])):=Rl.app (x:=[sg 32]) (y:=[sg 32]) .open' (.app g<|.tok rfl rfl)
def Rl.call {k:Int} {z:List UInt8} {x y:List aC} (hk:k=7\/k=8):Rl x y->Rl (⟨k,z,0⟩::sg 32::x) (⟨k,z,0⟩::sg 32::y)
 | ⟨n,m,h1,h2,h3⟩=>⟨n,m,.call hk h1,.call hk h2,h3⟩
def Rl.getD {l1 l2:List (List aC)} (h:vR Rl l1 l2) (j:Nat):Rl (l1.getD j []) (l2.getD j []):=by
 have hl:=h.len;rw [Da,Da];by_cases hj:j < l1.length
 .have e1:l1[j]?=some l1[j]:=eY hj;have e2:l2[j]?=some (l2[j]' ah):=eY ah;rw [e1,e2];exact h.get j _ _ e1 e2
 .rw [zo ah,zo ah];exact .nil
def akf:∀ (l1 l2:List (List aC)) (b:Bool),vR Rl l1 l2->Rl (dS b l1) (dS b l2)
 | [],[],b,_=>by rw [dS];exact .nil
 | x::l1,y::l2,b,h=>by
  rw [dS,dS];refine .app ?_ (.app h.1<|akf l1 l2 true h.2);cases b with
  | false=>exact .nil
  | true=>exact .tok rfl rfl
 | [],_::_,_,h=>h.elim
 | _::_,[],_,h=>h.elim
def atC (t:av) (g:GN t) (c:CN t) (l1 l2:List (List aC)) (h:vR Rl l1 l2):Rl (jd t.kind t.op t.text l1) (jd t.kind t.op t.text l2):=by
 obtain ⟨k,o,x,y,ks⟩:=t;have d:=Rl.getD h;have li:=akf l1 l2 false h;have hl:=h.len;rcases kinds g.e with e|e|e|e|e|e|e|e|e|e|e|e|e|e|e<;>(have e:k=_:=e;subst e)
 .exact .tok rfl rfl
 .exact .tok rfl rfl
 .exact .tok rfl rfl
 .exact .tok rfl rfl
 .exact .cons rfl rfl (.cons rfl rfl<|.app li<|.tok rfl rfl)
 .exact .cons rfl rfl (d 0)
 .exact .call (.inl rfl) (.app li<|.tok rfl rfl)
 .exact .call (.inr rfl) (.app li<|.tok rfl rfl)
 .have:o=51\/o=52:=c.k9 (.inl rfl);rcases this with rfl|rfl<;>exact .cons rfl rfl (d 0)
 .have:o=51\/o=52:=c.k9 (.inr rfl);rcases this with rfl|rfl<;>exact .app (d 0) (.tok rfl rfl)
 .have:o=55\/o=56\/o=61:=c.k11 rfl;rcases this with rfl|rfl|rfl<;>exact .cons rfl rfl (d 0)
 .refine .app (d 0) (.app ?_ (d 1));cases pG:(o==99) with
  | true=>exact .nil
  | false=>
   have ho:bA o≠0:=g.lv;rcases GY ho with e|e|e|e|e|e|e|e|e|e|e|e|e|e|e|e|e<;>subst e<;>exact .tok rfl rfl
 .refine .app (x:=bif decide (l1.length > 1) then sg 32::(dS false l1++[sg 33]) else l1.getD 0 []) (y:=bif decide (l2.length > 1) then sg 32::(dS false l2++[sg 33]) else l2.getD 0 []) ?_ (.cons rfl rfl<|.tok rfl rfl);rw [hl];cases decide (l2.length > 1) with
  | true=>exact .wrap li
  | false=>exact d 0
 .exact .app (d 0) (.cons rfl rfl<|.app (d 1)<|.cons rfl rfl<|d 2)
 .refine .app (d 0) (.app ?_ (d 1));cases pG:(o==99) with
  | true=>exact .nil
  | false=>
   have hk:qG o=true:=c.k15 rfl;have ho:=QO hk;have h1:(o==32)=false:=bE;have h2:Hy o=false:=by unfold Hy;simp;omega
   exact .tok h1 h2
def Rl.par {k o:Int} {p:aL} {x y x' y':List aC} (he:iC k=true) (hp:posB p=true) (h1:Rl x y) (h2:Rl x' y) (h3:Rl x' y'):Rl (qH (vQ true k o p) x x') (qH (vQ false k o p) y y'):=by
 cases hf:vQ false k o p with
 | false=>
  cases vQ true k o p with
  | false=>exact h1
  | true=>
   obtain ⟨n,m,a1,a2,a3⟩:=h2;refine ⟨1+n+0,m,?_,a2,ah⟩;have h32:Pz [sg 32] 1:=fun _=>rfl;have jw:Pz [sg 33] 0:=fun y=>by
    show 0+uo false y=_;omega
   have:=(h32.app a1).app jw;exact this
 | true=>
  have ht:vQ true k o p=true:=by
   unfold vQ at hf ⊢;simp only [aI,lI] at hf;simp only [aO];cases h4:(k==4) with
   | true=>simp
   | false=>
    cases Dl:(lv k o !=15) with
    | true=>rfl
    | false=>
     have:=aiO hp he (bne_eq_false_iff_eq.1 Dl) (by simpa using h4);rw [this] at hf;cases hf
  rw [ht];exact .wrap h3
def ahy:∀ t:av,allT GN t->allT CN t->∀ p q,posB p=true->posB q=true->Rl (dI true t p) (dI false t q):=by
 intro t;induction t using Ag with
 | h t ih=>
  intro hg hc p q hp hq;have g:=sM hg;rw [iM,iM];refine atC t g (sM hc) _ _ ?_;have key:∀ (ts:List av) (j:Nat),(∀ u,u∈ts->u∈t.kids)->vR Rl (bG true t.kind t.op t.kids.length j p ts) (bG false t.kind t.op t.kids.length j q ts):=by
   intro ts;induction ts with
   | nil=>intro j _;rw [bG,bG];trivial
   | cons u ts ih2=>
    intro j hm;rw [iA,iA];refine ⟨?_,ih2 (j+1) fun v hv=>hm v<|by simp [hv]⟩;have hu:=hm u aA;have hB:=ih u hu (BF hg u hu) (BF hc u hu);have h1:=VG (o:=t.op) (n:=t.kids.length) (j:=j) (p:=p) g.e;have h2:=VG (o:=t.op) (n:=t.kids.length) (j:=j) (p:=q) g.e;unfold bS;cases tgt t.kind j with
    | true=>exact hB _ _ h1 h2
    | false=>
     have e:vQ true u.kind u.op (fU t.kind t.op t.kids.length j p)=vQ true u.kind u.op (fU t.kind t.op t.kids.length j q):=rfl;show Rl (qH _ _ _) (qH _ _ _);rw [e];exact .par (sM<|BF hg u hu).e h2 (hB _ _ h1 h2) (hB _ _ rfl h2) (hB _ _ rfl rfl)
  exact key t.kids 0 fun u hu=>hu
def atD (N:Nat) (a:List aC) (ha:a.length<=3000):∀ (n i c:Nat) (b:Bool),a.length - i < n->i<=a.length->c<=i->(i=0->b=false)->(∀ j,i=j+1->∀ h:j < a.length,b=Hy a[j].Kind)->EG N n (a,(c:Int),(i:Int))=some ((c+uo b (a.drop i):Nat):Int):=by
 intro n;induction n with
 | zero=>intro i c b h;omega
 | succ n ih=>
  intro i c b hn hi hc h0 h1;rw [EG];by_cases hlt:i < a.length
  .have k2:∀ c':Nat,c'<=i+1->QG N (EG N n) (a,(i:Int),(c':Int))=some ((c'+uo (Hy a[i].Kind) (a.drop<|i+1):Nat):Int):=fun c' hc'=>by
    unfold QG;dsimp only;rw [wrap64 ah ah,show (i:Int)+1=((i+1:Nat):Int) by omega];exact ih (i+1) c' _ ah ah hc' ah fun j hj h=>by
     have:i=j:=ah;subst this;rfl
   have haf:Vs a (i:Int)=some b:=by
    unfold Vs;by_cases hi0:i=0
    .subst hi0;rw [h0 rfl];rfl
    .obtain ⟨j,rfl⟩:∃ j,i=j+1:=⟨i - 1,ah⟩
     have hj:j < a.length:=ah;rw [kL (show ((j+1:Nat):Int) > 0 by omega),aO,wrap64 ah ah,show ((j+1:Nat):Int) - 1=(j:Int) by omega,dn hj,h1 j rfl hj];simp only [aB];unfold Hy;cases (a[j].Kind==7)<;>rfl
   rw [iL hlt,aO,dn hlt,aB,EN hlt,uo];cases (a[i].Kind==32) with
   | false=>
    simp only [aI,aB,VJ];rw [k2 c ah,rW]
   | true=>
    simp only [aO,haf,aB,Ae];cases b with
    | true=>rw [nN,aI,aI,k2 c ah,rW]
    | false=>
     rw [mg,aO,aO,wrap64 ah ah,show (c:Int)+1=((c+1:Nat):Int) by omega,k2 (c+1) ah];congr 1;omega
  .rw [jN hlt,aI,CZ ah];rfl
def Yb (N:Nat) (a:List aC) (ha:a.length<=3000) (hN:3000 < N):FQ N a=some (uo false a:Int):=by
 have:=atD N a ha N 0 0 false ah ah ah (fun _=>rfl) (fun j h=>ah);rw [EL,rW] at this;exact this
def abM (N:Nat) (hN:2000000<=N) (t:av) (hx:Ta t) (hg:allT GN t) (hc:allT (fun u=>CN u/\TN N u) t) (f:Bool) (p:aL) (hl:(bT f t p).length<=3000) (q:aL) (h:Bool) (d:fZ (bT f t p) q 0 (bT f t p).length t h):FP N (bT f t p)=some true:=by
 have adj:=(ahi (bT f t p) _ 0 _<|dX _).2.1 _ _ _ d;have e:=ahj N _ hl ah adj.a (ahk N f t hg hc p);obtain ⟨b,b1,b2,_⟩:=ahl N (bT f t p) ah (ahm f t hx p);rw [b1] at e;rw [b2];exact e
def plain (b:List UInt8) (kb:(∀ z,z∈b->True)/\b.length<=maxLen):∃ N,OZ N b=some true:=by
 refine ⟨18446744073709551657+3000000,?_⟩;obtain ⟨N,hN⟩:∃ N,N=18446744073709551657+3000000:=⟨_,rfl⟩
 rw [<- hN];unfold OZ;rw [ahn,aB];by_cases hb:b.length<=1048576
 .have hd:decide ((b.length:Int) > 1048576)=false:=bE;rw [hd,aI];obtain ⟨h,e1⟩:=aho b hb N ah;obtain ⟨L,i1,h1,e2,hL,a0,a1⟩:=ahp b hb N ah 0 h ah ah;have hS:=ahq hL.1;have XZ:KZ N b=some L:=by
   unfold KZ;rw [e1,aB];dsimp only;rw [e2,aB]
  obtain ⟨c,c1,d2,c2⟩:=ahr N L ah hS;have htop:Ee=some bU:=rfl;rw [XZ,aB];unfold Td Te;rw [htop];simp only [aB];cases c with
  | false=>
   have e:AX N L bU true=some ([],[]):=by
    unfold AX;rw [d2];rfl
   rw [e,c1];rfl
  | true=>
   obtain ⟨g1,g3⟩:=c2 rfl;have g2:xI N L=some true:=by
    have h:=c1;unfold La at h;obtain ⟨y,h1,h2⟩:=pK.1 h;obtain ⟨r,h3,h4⟩:=pK.1 h1;cases r with
    | true=>exact h3
    | false=>
     cases h4;cases h2
   obtain ⟨t,R⟩:=ahs N L ah hS g2 g1 g3;have hsz:=R.sz;have hpz:=vB t;have hLl:L.length=aX t:=by rw [R.eq,AY]
   have Tf:∀ f,∃ wO,AX N L bU f=some (bT f t bU,wO):=fun f=>by
    obtain ⟨q1,q2,_⟩:=IX R.sh;obtain ⟨wO,w1,w2,_⟩:=abO (sM R.g) (imB f t R.g) N bU [] [] rfl ah bE bE;have w1':zR N t bU f [] []=some ([]++bT f t bU,wO):=w1;refine ⟨wO,?_⟩;unfold AX;rw [d2,Ti,show posB bU=true from rfl,abP N L ah R.ta q1 q2];simp only [aB,nN,aI,w1',Hz]
   obtain ⟨s1,p1⟩:=Tf true;obtain ⟨s2,p2⟩:=Tf false;rw [p1,p2,c1];simp only [aB,nN,aI];have hc1:allT CN t:=abQ (fun _ h=>h.1) t R.c;have l1:=Ya true t bU;have l2:=Ya false t bU;obtain ⟨hh,d⟩:=abR (sM R.g) (ahu true t R.g hc1) (bT true t bU) bU 0 rfl (Sg.all _);rw [rW] at d;have hto:=abM N ah t R.tx R.g R.c true bU ah bU hh d;obtain ⟨r,r1,r2,r3⟩:=ahv N ah _ ah t hh d hsz R.dep hto;rw [r1,aB];cases hn:jW 0 (bT true t bU) with
   | false=>
    obtain ⟨q,q1,_,q3⟩:=ahw N (bT true t bU) ah ah;rw [r3 hn,q1];have:=(q3 hn).1;show some (decide<|q>=0)=_;rw [kL ah]
   | true=>
    have:=r2 hn;subst this;have hsame:Lb N L (bX 0 t)=some true:=by
     rw [<- R.eq];exact ahx N L ah ah hS
    have hP:uo false (bT false t bU)<=uo false (bT true t bU):=by
     have hr:Rl (bT true t bU) (bT false t bU):=by
      have k:=ahy t R.g hc1 bU bU rfl rfl;exact .par (sM R.g).e rfl k k k
     obtain ⟨n,m,a1,a2,a3⟩:=hr;have b1:=a1 [];have b2:=a2 [];rw [pJ] at b1 b2;rw [b1,b2];show m+0<=n+0;omega
    have e1:FQ N (bT true t bU)=some (uo false (bT true t bU):Int):=Yb N _ ah ah;have e2:FQ N (bT false t bU)=some (uo false (bT false t bU):Int):=Yb N _ ah ah;have k4:((0:Int)==4)=false:=rfl;simp only [k4,aI,adw,aO,hsame,aB,e1,e2];rw [kL ah]
 .have hd:decide ((b.length:Int) > 1048576)=true:=bE;rw [hd];rfl
end Go.Proofs.Tryz
