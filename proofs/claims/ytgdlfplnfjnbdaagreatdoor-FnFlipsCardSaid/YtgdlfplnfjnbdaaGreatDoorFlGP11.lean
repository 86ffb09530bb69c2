/-
 Plain lemmas on the models, part 8.
-/
import Derived.Test.YtgdlfplnfjnbdaaGreatDoorFlGP7
namespace Go.Proofs.Tryz
open Go.Av
set_option maxRecDepth 100000
set_option linter.all false
def Jg (d:Nat):Pg aC:=(dF d).bind fun t=>.ret ⟨20,0,[],[],[t]⟩
def Jh (d:Nat) (r:Int) (y:Bool):Pg aC:=bif y then (gQ 2).bind fun q=>(rZ q 3<|dF d).bind fun ts=>(tN 3).bind fun o=>bif o then (nA [[62],[62,62],[124]]).bind fun x=>(dF<|d - 1).bind fun t=>.ret ⟨21,q,[],x,ts++[t]⟩ else .ret ⟨21,q,[],[],ts⟩
 else bif r==2 then (uX [22,25,26]).bind fun k=>.ret ⟨k,0,[],[],[]⟩ else bif r==3 then (uX [23,24]).bind fun k=>(rZ 0 1<|dF d).bind fun ts=>.ret ⟨k,0,[],[],ts⟩ else bif r==4 then yw.bind fun x=>(rZ 0 2<|dF<|d - 1).bind fun ts=>.ret ⟨27,0,x,[],ts⟩
 else bif r==5 then (tN 2).bind fun o=>bif o then (nA [[35],[35,32,110,111,116,101],[35,120,32,61,32,49]]).bind fun x=>.ret ⟨34,0,x,[],[]⟩ else Jg d else Jg d
def Ji (d:Nat):Pg aC:=(gQ 9).bind fun r=>bif r==0 then Jh d r (r==0) else Jh d r (r==1)
def Cc (d:Nat):Pg aC:=(tN 3).bind fun o=>bif o then .ret ⟨16,0,[],[],[]⟩ else dF d
def mF (s:Pg aC):Pg aC:=(gQ 3).bind fun r=>(jW s r.toNat).bind fun ts=>.ret ⟨33,0,[],[],ts⟩
def Nc (bl:Pg aC):Pg aC:=(gQ 6).bind fun r=>bif r==0 then (dF 1).bind fun t=>bl.bind fun u=>.ret ⟨28,0,[],[],[t,u]⟩ else bif r==1 then (dF 1).bind fun t=>bl.bind fun u=>bl.bind fun v=>.ret ⟨28,0,[],[],[t,u,v]⟩ else bif r==2 then (dF 1).bind fun t=>bl.bind fun u=>.ret ⟨29,0,[],[],[t,u]⟩ else bif r==3 then bl.bind fun u=>(dF 1).bind fun t=>.ret ⟨30,0,[],[],[u,t]⟩
 else bif r==4 then (Cc 2).bind fun t=>(Cc 1).bind fun u=>(Cc 1).bind fun v=>bl.bind fun w=>.ret ⟨31,0,[],[],[t,u,v,w]⟩ else (tN 2).bind fun o=>bif o then bl else yw.bind fun x=>yw.bind fun y=>bl.bind fun u=>.ret ⟨32,0,x,y,[u]⟩
def jd:Nat->Pg aC
 | 0=>Ji 0
 | d+1=>((tN 3).bind fun o=>.ret<|!o).bind fun y=>bif y then Ji (min (d+1) 2) else Nc (mF<|jd d)
def nX:Pg aC:=(gQ 2).bind fun a=>(gQ 8).bind fun r=>bif r==0 then (gQ 2).bind fun q=>(mF<|jd (1+a).toNat).bind fun u=>.ret ⟨40+q,0,[],[],[u]⟩ else bif r==1 then (dF (1+a).toNat).bind fun t=>.ret ⟨42,1,[],[],[t]⟩ else bif r==2 then (mF<|jd (1+a).toNat).bind fun u=>.ret ⟨42,2,[],[],[u]⟩ else bif r==3 then (dF 1).bind fun t=>(dF 1).bind fun u=>.ret ⟨43,1,[],[],[t,u]⟩
 else bif r==4 then (dF 1).bind fun t=>(dF 1).bind fun u=>(mF<|jd (1+a).toNat).bind fun v=>.ret ⟨43,3,[],[],[t,u,v]⟩ else bif r==5 then (gQ 3).bind fun q=>(jW yx q.toNat).bind fun ws=>(nA [[102],[103],[109,97,120]]).bind fun x=>(mF<|jd (1+a).toNat).bind fun u=>.ret ⟨44,0,x,[],ws++[u]⟩
 else bif r==6 then (nA [[35,32,116,111,112],[35]]).bind fun x=>.ret ⟨34,0,x,[],[]⟩ else (dF (1+a).toNat).bind fun t=>(mF<|jd (1+a).toNat).bind fun u=>.ret ⟨42,3,[],[],[t,u]⟩
def iB:Pg aC:=(gQ 4).bind fun r=>(jW nX r.toNat).bind fun ts=>.ret ⟨45,0,[],[],ts⟩
def Nf {α:Type} {p:Pg α} {P:α->Prop} (h:Pg.Post P p):Pg.Post (fun _=>True) p:=h.imp fun _ _=>trivial
def Jj (l:List Int) (h:0 < l.length):Pg.Post (fun _=>True) (uX l):=Ja l h fun _ _=>trivial
def UY:∀ (a c:List aC) (d:Nat),dz a<=d->dz c<=d->dz (a++c)<=d
 | [],_,_,_,h=>h
 | t::a,c,d,h1,h2=>by
  simp only [xY,dz] at h1 ⊢;have:=UY a c d ah h2;omega
def QB {m d:Nat} {k o:Int} {x:List UInt8} (hx:Sh x) (hm:1<=m) (hd:1<=d):Gd m d ⟨k,o,x,[],[]⟩:=Gd.mk hx fF (by simp only [aJ];omega) (by simp only [dz];omega) fun t ht=>by cases ht
def uZ {d:Nat} (h:d<=2):Pg.Post (Gd 16 4) (dF d):=(gU d).imp fun t ht=>ht.mono (wz (a:=d) (c:=2) h) (by unfold qO;split<;>omega)
def aaD {d:Nat} (h:d<=2) (r:Int) (y:Bool):Pg.Post (Gd 70 5) (Jh d r y):=by
 have e:=uZ h;have e1:=uZ (d:=d - 1) ah;have hK:Pg.Post (Gd 70 5) (Jg d):=e.bind fun t ht=>.ret (mk1 fF ht ah ah);refine eP ?_ (eP ?_ (eP ?_ (eP ?_ (eP ?_ hK))))
 .refine (cO 2).bind fun q hq=>?_;obtain ⟨q,rfl⟩:=lJ hq.1;refine (uY e q 3 ah).bind fun ts hts=>(mE 3).bind fun o _=>eP ((nC _ aI aI).bind fun x hx=>e1.bind fun t ht=>.ret ?_) (.ret<|Jf fF hts ah ah);refine Gd.mk fF hx ?_ ?_ fun t' ht'=>?_
  .have:=hts.2.2.1;have:=ht.1;rw [wo];simp only [aJ];omega
  .have:=UY ts [t] 4 hts.2.2.2.1 (by have:=ht.2.1;simp only [dz];omega);omega
  .rcases iw.1 ht' with h|h
   .exact hts.2.2.2.2 t' h
   .rw [ni.1 h];exact ht.2.2
 .exact (Jj _ aI).bind fun k _=>.ret (QB fF ah ah)
 .exact (Jj _ aI).bind fun k _=>(uY e 0 1 ah).bind fun ts hts=>.ret (Jf fF hts ah ah)
 .exact jV.bind fun x hx=>(uY e1 0 2 ah).bind fun ts hts=>.ret (Jf hx hts ah ah)
 .exact (mE 2).bind fun o _=>eP ((nC _ aI aI).bind fun x hx=>.ret<|QB hx ah ah) hK
def aaE {d:Nat} (h:d<=2):Pg.Post (Gd 70 5) (Ji d):=(cO 9).bind fun r _=>eP (aaD h r _) (aaD h r _)
def Jk {d:Nat} (h:d<=2):Pg.Post (Gd 16 4) (Cc d):=(mE 3).bind fun o _=>eP (.ret<|QB fF ah ah) (uZ h)
def Jl {s:Pg aC} {m d:Nat} (h:Pg.Post (Gd m d) s):Pg.Post (Gd (2*m+1)<|d+1) (mF s):=(cO 3).bind fun r hr=>(wu h _).bind fun ts hts=>.ret (by
 obtain ⟨g1,g2,g3⟩:=MX hts.2;have hl:ts.length<=2:=by rw [hts.1];omega
 have:=oZ m hl;exact Gd.mk fF fF ah ah g3)
def aiu {bl:Pg aC} {m d:Nat} (h:Pg.Post (Gd m d) bl) (hd:4<=d):Pg.Post (Gd (2*m+60)<|d+1) (Nc bl):=by
 have e:=uZ (d:=1) ah;refine (cO 6).bind fun r _=>eP ?_ (eP ?_ (eP ?_ (eP ?_ (eP ?_ ?_))))
 .exact e.bind fun t ht=>h.bind fun u hu=>.ret (mk2 fF ht hu ah ah)
 .exact e.bind fun t ht=>h.bind fun u hu=>h.bind fun v hv=>.ret (mk3 fF ht hu hv ah ah)
 .exact e.bind fun t ht=>h.bind fun u hu=>.ret (mk2 fF ht hu ah ah)
 .exact h.bind fun u hu=>e.bind fun t ht=>.ret (mk2 fF hu ht ah ah)
 .refine (Jk ah).bind fun t ht=>(Jk ah).bind fun u hu=>(Jk ah).bind fun v hv=>h.bind fun w hw=>.ret (Gd.mk fF fF ?_ ?_ fun t' ht'=>?_)
  .have:=ht.1;have:=hu.1;have:=hv.1;have:=hw.1;simp only [aJ];omega
  .have:=ht.2.1;have:=hu.2.1;have:=hv.2.1;have:=hw.2.1;simp only [dz];omega
  .simp only [fu,EF,vW] at ht';rcases ht' with rfl|rfl|rfl|rfl
   .exact ht.2.2
   .exact hu.2.2
   .exact hv.2.2
   .exact hw.2.2
 .refine (mE 2).bind fun o _=>eP (h.imp fun t ht=>ht.mono ah ah) (jV.bind fun x hx=>jV.bind fun y hy=>h.bind fun u hu=>.ret<|Gd.mk hx hy ?_ ?_ fun t' ht'=>?_)
  .have:=hu.1;simp only [aJ];omega
  .have:=hu.2.1;simp only [dz];omega
  .rw [ni.1 ht'];exact hu.2.2
def ss:Nat->Nat
 | 0=>70
 | d+1=>4*ss d+62
def aaF:∀ d,70<=ss d
 | 0=>fq _
 | d+1=>by have:=aaF d;rw [ss];omega
def uR:∀ d,Pg.Post (Gd (ss d)<|2*d+5) (jd d)
 | 0=>aaE ah
 | d+1=>by
  have h:=aaF d;refine Pg.Post.bind (Nf<|mE 3 |>.bind fun o _=>.ret (P:=fun _=>True) trivial) fun y _=>eP ((aaE ah).imp fun t ht=>ht.mono (by rw [ss];omega) ah) ((aiu (Jl<|uR d) ah).imp fun t ht=>ht.mono (by rw [ss];omega) ah)
def QC {a:Int} (h0:0<=a) (h1:a < 2):Pg.Post (Gd 2861 10) (mF<|jd (1+a).toNat):=by
 have:a=0\/a=1:=ah;rcases this with rfl|rfl
 .exact (Jl<|uR 1).imp fun t ht=>ht.mono aI aI
 .exact (Jl<|uR 2).imp fun t ht=>ht.mono aI aI
def QD:Pg.Post (Gd 2960 11) nX:=by
 refine (cO 2).bind fun a ha=>?_;have hB:=QC (a:=a) ha.1 ah;have e:=uZ (d:=(1+a).toNat) ah;have e1:=uZ (d:=1) ah;refine (cO 8).bind fun r _=>eP ?_ (eP ?_ (eP ?_ (eP ?_ (eP ?_ (eP ?_ (eP ?_ ?_))))))
 .exact (cO 2).bind fun q _=>hB.bind fun u hu=>.ret (mk1 fF hu ah ah)
 .exact e.bind fun t ht=>.ret (mk1 fF ht ah ah)
 .exact hB.bind fun t ht=>.ret (mk1 fF ht ah ah)
 .exact e1.bind fun t ht=>e1.bind fun u hu=>.ret (mk2 fF ht hu ah ah)
 .exact e1.bind fun t ht=>e1.bind fun u hu=>hB.bind fun v hv=>.ret (mk3 fF ht hu hv ah ah)
 .refine (cO 3).bind fun q hq=>(wu EX _).bind fun ws hws=>(nC _ aI aI).bind fun x hx=>hB.bind fun u hu=>.ret ?_;obtain ⟨g1,g2,g3⟩:=MX hws.2;have hl:ws.length<=2:=by rw [hws.1];omega
  refine Gd.mk hx fF ?_ ?_ fun t' ht'=>?_
  .have:=hu.1;rw [wo];simp only [aJ];omega
  .have:=UY ws [u] 10 ah (by have:=hu.2.1;simp only [dz];omega);omega
  .rcases iw.1 ht' with h|h
   .exact g3 t' h
   .rw [ni.1 h];exact hu.2.2
 .exact (nC _ aI aI).bind fun x hx=>.ret (QB hx ah ah)
 .exact e.bind fun t ht=>hB.bind fun u hu=>.ret (mk2 fF ht hu ah ah)
def agd:Pg.Post (Gd 9000 12) iB:=(cO 4).bind fun r hr=>(wu QD _).bind fun ts hts=>.ret (by
 obtain ⟨g1,g2,g3⟩:=MX hts.2;have hl:ts.length<=3:=by rw [hts.1];omega
 have:=oZ 2960 hl;exact Gd.mk fF fF ah ah g3)
def aiv {e:Pg aC} {P:aC->Prop} {n:Nat} (h:Pg.Post P e) (g:Pg.Le e n) (q:Int) (h0:0<=q) (h3:q<=3):Pg.Le (rZ q 3 e) (3*n+1):=by
 obtain ⟨q,rfl⟩:=lJ h0;exact Je h g q 3 ah ah
def UZ {e:Pg aC} {P:aC->Prop} (h:Pg.Post P e) (lo hi:Int):Pg.Post (fun _=>True) (rZ lo hi e):=(cO _).bind fun r _=>Nf (wu h _)
def aaG (d:Nat) (r:Int) (y:Bool):Pg.Le (Jh d r y) (3*eb d+eb (d - 1)+4):=by
 have g:=EY d;have g1:=EY (d - 1);have hle:=Jd (a:=d - 1) (c:=d) ah;have hK:Pg.Le (Jg d) (eb d):=fQ (gU d) g;refine leB ?_ (leB ?_ (leB ?_ (leB ?_ (leB ?_ (hK.mono ah)))))
 .refine Pg.bW.bind (cO 2) (below_le 2 ah) (m:=3*eb d+eb (d - 1)+3) (fun q hq=>?_) ah;refine Pg.bW.bind (UZ (gU d) q 3) (aiv (gU d) g q hq.1 ah) (m:=eb (d - 1)+2) (fun ts _=>?_) ah;refine Pg.bW.bind (mE 3) (IZ 3 ah) (m:=eb (d - 1)+1) (fun o _=>leB ?_ .ret) ah;exact Pg.bW.bind (nC _ aI aI) (zN _ aI) (m:=eb (d - 1)) (fun x _=>fQ (gU<|d - 1) g1) ah
 .exact (fQ (Jj _ aI)<|MU _ aI).mono ah
 .exact Pg.bW.bind (Jj _ aI) (MU _ aI) (m:=1*eb d+1) (fun k _=>fQ (UZ (gU d) 0 1)<|Je (gU d) g 0 1 ah ah) ah
 .exact Pg.bW.bind jV EU (m:=2*eb (d - 1)+1) (fun k _=>fQ (UZ (gU<|d - 1) 0 2)<|Je (gU<|d - 1) g1 0 2 ah ah) ah
 .exact Pg.bW.bind (mE 2) (IZ 2 ah) (m:=3*eb d+1) (fun o _=>leB ((fQ (nC _ aI aI)<|zN _ aI).mono ah)<|hK.mono ah) ah
def Va (d:Nat):Pg.Le (Ji d) (3*eb d+eb (d - 1)+5):=Pg.bW.bind (cO 9) (below_le 9 ah) (m:=3*eb d+eb (d - 1)+4) (fun r _=>leB (aaG d r _)<|aaG d r _) ah
def Vb (d:Nat):Pg.Le (Cc d) (eb d+1):=Pg.bW.bind (mE 3) (IZ 3 ah) (m:=eb d) (fun o _=>leB .ret<|EY d) ah
def Vd (d:Nat):Pg.Post (fun _=>True) (Cc d):=(mE 3).bind fun o _=>eP (.ret trivial) (Nf<|gU d)
def QE {s:Pg aC} {P:aC->Prop} {n:Nat} (h:Pg.Post P s) (g:Pg.Le s n):Pg.Le (mF s) (2*n+1):=Pg.bW.bind (cO 3) (below_le 3 ah) (m:=2*n) (fun r hr=>fQ (wu h _)<|(MZ h g _).mono<|oZ n ah) ah
def aaH {bl:Pg aC} {P:aC->Prop} {n k:Nat} (h:Pg.Post P bl) (g:Pg.Le bl n) (h1:14+2*n<=k) (h2:73+n<=k):Pg.Le (Nc bl) k:=by
 have e:=EY 1;have p:=gU 1;have e1:eb 1=13:=rfl;have e2:eb 2=43:=rfl;refine Pg.bW.bind (cO 6) (below_le 6 ah) (m:=k - 1) (fun r _=>leB ?_ (leB ?_ (leB ?_ (leB ?_ (leB ?_ ?_))))) ah
 .exact Pg.bW.bind p e (m:=n) (fun t _=>fQ h g) ah
 .exact Pg.bW.bind p e (m:=2*n) (fun t _=>Pg.bW.bind h g (m:=n) (fun u _=>fQ h g) ah) ah
 .exact Pg.bW.bind p e (m:=n) (fun t _=>fQ h g) ah
 .exact Pg.bW.bind h g (m:=13) (fun t _=>fQ p e) ah
 .exact Pg.bW.bind (Vd 2) (Vb 2) (m:=28+n) (fun t _=>Pg.bW.bind (Vd 1) (Vb 1) (m:=14+n) (fun u _=>Pg.bW.bind (Vd 1) (Vb 1) (m:=n) (fun v _=>fQ h g) ah) ah) ah
 .exact Pg.bW.bind (mE 2) (IZ 2 ah) (m:=n+2) (fun o _=>leB (g.mono ah)<|Pg.bW.bind jV EU (m:=n+1) (fun x _=>Pg.bW.bind jV EU (m:=n) (fun y _=>fQ h g) ah) ah) ah
def aaI:Pg.Le ((tN 3).bind fun o=>Pg.ret<|!o) 1:=fQ (mE 3) (IZ 3 ah)
def Ve:Pg.Post (fun _=>True) ((tN 3).bind fun o=>Pg.ret<|!o):=(mE 3).bind fun o _=>.ret trivial
def aiw:Pg.Le (jd 0) 17:=Va 0
def aaJ:Pg.Le (jd 1) 109:=Pg.bW.bind Ve aaI (m:=108) (fun y _=>leB ((Va<|min 1 2).mono aI)<|aaH (Nf<|Jl<|uR 0) (QE (uR 0) aiw) ah ah) ah
def aix:Pg.Le (jd 2) 453:=Pg.bW.bind Ve aaI (m:=452) (fun y _=>leB ((Va<|min 2 2).mono aI)<|aaH (Nf<|Jl<|uR 1) (QE (uR 1) aaJ) ah ah) ah
def aiy {a:Int} (h0:0<=a) (h1:a < 2):Pg.Le (mF<|jd (1+a).toNat) 907:=by
 have:a=0\/a=1:=ah;rcases this with rfl|rfl
 .exact (QE (uR 1) aaJ).mono aI
 .exact (QE (uR 2) aix).mono aI
def aiz:Pg.Le nX 952:=by
 refine Pg.bW.bind (cO 2) (below_le 2 ah) (m:=951) (fun a ha=>?_) ah;have hB:=QC (a:=a) ha.1 ah;have gB:=aiy (a:=a) ha.1 ah;have p:=gU (1+a).toNat
 have p1:=gU 1;have e:Pg.Le (dF (1+a).toNat) 43:=(EY _).mono (Jd (a:=(1+a).toNat) (c:=2) ah);have e1:Pg.Le (dF 1) 13:=EY 1;refine Pg.bW.bind (cO 8) (below_le 8 ah) (m:=950) (fun r _=>leB ?_ (leB ?_ (leB ?_ (leB ?_ (leB ?_ (leB ?_ (leB ?_ ?_))))))) ah
 .exact Pg.bW.bind (cO 2) (below_le 2 ah) (m:=907) (fun q _=>fQ hB gB) ah
 .exact (fQ p e).mono ah
 .exact (fQ hB gB).mono ah
 .exact Pg.bW.bind p1 e1 (m:=13) (fun t _=>fQ p1 e1) ah
 .exact Pg.bW.bind p1 e1 (m:=920) (fun t _=>Pg.bW.bind p1 e1 (m:=907) (fun t _=>fQ hB gB) ah) ah
 .exact Pg.bW.bind (cO 3) (below_le 3 ah) (m:=910) (fun q hq=>Pg.bW.bind (wu EX _) ((MZ EX Qy _).mono<|show q.toNat*1<=2 by omega) (m:=908) (fun ws _=>Pg.bW.bind (nC _ aI aI) (zN _ aI) (m:=907) (fun x _=>fQ hB gB) ah) ah) ah
 .exact (fQ (nC _ aI aI)<|zN _ aI).mono ah
 .exact Pg.bW.bind p e (m:=907) (fun t _=>fQ hB gB) ah
def aiA:Pg.Le iB 2857:=Pg.bW.bind (cO 4) (below_le 4 ah) (m:=2856) (fun r hr=>fQ (wu QD _)<|(MZ QD aiz _).mono<|show r.toNat*952<=2856 by omega) ah
section
set_option linter.unusedSectionVars false
variable (b:List UInt8) (hb:b.length<=1048576) {N:Nat} (hN:1050000<=N)
include hb hN
theorem Jm {d:Nat} (hd:d<=6) (deep:Int) (hdp:deep.toNat=d) (g1: -1000<=deep) (g2:deep<=1000) (i:Nat) (h:Int) (hi:i<=b.length):Sm b (dF d) (aP 0) i h (dh N deep b (i:Int) h):=aaB b hb N d hd ah deep hdp g1 g2 i h hi
theorem aaK {d:Nat} (hd:d<=2) (deep:Int) (hdp:deep.toNat=d) (g1: -800<=deep) (i:Nat) (h:Int) (hi:i<=b.length):Sm b (Jg d) (aP 0) i h (Gx N b (deep,(i:Int),h)):=by
 unfold Gx Jg;refine Sm.bind hi (uZ hd) (Jm b hb hN ah deep hdp ah ah i h hi) fun t i h ht hi=>?_;exact iC (α:=Unit) b hb ah 20 0 [] [] [t] (by have:=ht.1;simp only [aJ];omega) i h
theorem aaL {d:Nat} (hd:d<=2) (deep:Int) (hdp:deep.toNat=d) (g1: -800<=deep) (r:Int) (y:Bool) (i:Nat) (h:Int) (hi:i<=b.length):Sm b (Jh d r y) (aP 0) i h (GA N b (deep,(r,(i:Int),h),y)):=by
 have e:=uZ hd;have e1:=uZ (d:=d - 1) ah;have w1:IntKind.wrap .i64 (deep - 1)=deep - 1:=wrap64 ah ah;unfold GA Jh;dsimp only;refine Sm.cond (fun _=>?_) fun _=>Sm.cond (fun _=>?_) fun _=>Sm.cond (fun _=>?_) fun _=>Sm.cond (fun _=>?_) fun _=>Sm.cond (fun _=>?_) fun _=>aaK b hb hN hd deep hdp g1 i h hi
 .refine Sm.bind hi (cO 2) (nW b hb 2 i h hi) fun q i h hq hi=>?_;obtain ⟨q,rfl⟩:=lJ hq.1;dsimp only;refine Sm.bind hi (uY e q 3 ah) (UW b hb N d ah ah q 3 ah ah deep hdp ah ah i h hi) fun ts i h hts hi=>?_;dsimp only;refine Sm.bind hi (mE 3) (Jb b hb 3 i h hi) fun o i h _ hi=>?_;dsimp only;refine Sm.cond (fun _=>?_) fun _=>?_
  .refine Sm.bind hi (nC _ aI aI) (zO b hb _ aI i h hi) fun x i h _ hi=>?_;dsimp only;rw [w1];refine Sm.bind hi e1 (Jm b hb hN ah (deep - 1) ah ah ah i h hi) fun t i h ht hi=>?_;dsimp only;rw [lI (by have:=hts.2.1;simp;omega),aD];unfold Gy;dsimp only;have:=iC (α:=Unit) b hb (N:=N) ah 21 (q:Int) [] x (ts++[t]) (by have:=ht.1;have:=hts.2.2.1;rw [wo];simp only [aJ];omega) i h;rw [tJ] at this;exact this
  .unfold Gy;dsimp only;exact iC (α:=Unit) b hb ah 21 (q:Int) [] [] ts (by have:=hts.2.2.1;omega) i h
 .exact Sm.bind hi (Jj _ aI) (MW b hb _ aI i h hi) fun k i h _ hi=>Sm.ret
 .refine Sm.bind hi (Jj _ aI) (MW b hb _ aI i h hi) fun k i h _ hi=>?_;dsimp only;refine Sm.bind hi (uY e 0 1 ah) (UW b hb N d ah ah 0 1 ah ah deep hdp ah ah i h hi) fun ts i h hts hi=>?_;exact iC (α:=Unit) b hb ah k 0 [] [] ts (by have:=hts.2.2.1;omega) i h
 .refine Sm.bind hi jV (zP b hb i h hi) fun x i h _ hi=>?_;dsimp only;rw [w1];refine Sm.bind hi (uY e1 0 2 ah) (UW b hb N (d - 1) ah ah 0 2 ah ah (deep - 1) ah ah ah i h hi) fun ts i h hts hi=>?_;exact iC (α:=Unit) b hb ah 27 0 x [] ts (by have:=hts.2.2.1;omega) i h
 .refine Sm.bind hi (mE 2) (Jb b hb 2 i h hi) fun o i h _ hi=>?_;dsimp only;exact Sm.cond (fun _=>Sm.bind hi (nC _ aI aI) (zO b hb _ aI i h hi) fun x i h _ hi=>Sm.ret) fun _=>aaK b hb hN hd deep hdp g1 i h hi
theorem aaM {d:Nat} (hd:d<=2) (deep:Int) (hdp:deep.toNat=d) (g1: -800<=deep) (i:Nat) (h:Int) (hi:i<=b.length):Sm b (Ji d) (aP 0) i h (Ku N deep b (i:Int) h):=by
 unfold Ku Ji;refine Sm.bind hi (cO 9) (nW b hb 9 i h hi) fun r i h _ hi=>?_;dsimp only;exact Sm.cond (fun _=>aaL b hb hN hd deep hdp g1 r _ i h hi) fun _=>aaL b hb hN hd deep hdp g1 r _ i h hi
theorem Vf {d:Nat} (hd:d<=2) (i:Nat) (h:Int) (hi:i<=b.length):Sm b (Cc d) (aP 0) i h (xG N (d:Int) b (i:Int) h):=by
 unfold xG Cc;refine Sm.bind hi (mE 3) (Jb b hb 3 i h hi) fun o i h _ hi=>?_;dsimp only;exact Sm.cond (fun _=>Sm.ret) fun _=>uW (Jm b hb hN ah (d:Int) ah ah ah i h hi)
def SS (M d:Nat):Prop:=∀ (deep:Int) (i:Nat) (h:Int),deep.toNat=d-> -700<=deep->i<=b.length->Sm b (jd d) (aP 0) i h ((kU M).uz deep b (i:Int) h)
def BS (M d:Nat):Prop:=∀ (deep:Int) (i:Nat) (h:Int),deep.toNat=d-> -700<=deep->i<=b.length->Sm b (mF<|jd d) (aP 0) i h ((kU M).fG deep b (i:Int) h)
theorem aiB {M d:Nat} (hM:1048577 < M) (hd:d<=4) (hS:SS b M d) (deep:Int) (hdp:deep.toNat=d) (g1: -700<=deep):∀ (n c:Nat) (i:Nat) (h:Int) (acc:List aC),c < n->acc.length+c<=3->aJ acc<=acc.length*ss d->i<=b.length->
  Sm b ((jW (jd d) c).bind fun ts=>.ret (⟨33,0,[],[],acc++ts⟩:aC)) (aP 0) i h (Dm M (kU M) b n (deep,(c:Int),(i:Int),h,acc.map<|aP 0)):=by
 have hss:ss d<=100000:=by
  have:d=0\/d=1\/d=2\/d=3\/d=4:=ah;rcases this with rfl|rfl|rfl|rfl|rfl<;>decide
 intro n;induction n with
 | zero=>intro c i h acc hc;omega
 | succ n ih=>
  intro c i h acc hc ha hs hi;rw [Dm];cases c with
  | zero=>
   have:decide (((0:Nat):Int) > 0)=false:=rfl;rw [this,aM];show Sm b (.ret (⟨33,0,[],[],acc++[]⟩:aC)) _ _ _ _;rw [xZ];exact iC (α:=Unit) b hb hM 33 0 [] [] acc (by have:=oZ (ss d) (show acc.length<=3 by omega);omega) i h
  | succ c=>
   have:decide (((c+1:Nat):Int) > 0)=true:=lH ah;rw [this,aU,jW];have key:∀ t:aC,(jW (jd d) c).bind (fun ts=>Pg.ret (⟨33,0,[],[],acc++(t::ts)⟩:aC))=(jW (jd d) c).bind fun ts=>Pg.ret (⟨33,0,[],[],(acc++[t])++ts⟩:aC):=fun t=>by
    congr 1;funext ts;rw [kW];rfl
   have assoc:∀ (p:Pg aC) (f:aC->Pg (List aC)) (g:List aC->Pg aC),(p.bind f).bind g=p.bind fun a=>(f a).bind g:=fun p f g=>by
    induction p with
    | ret a=>rfl
    | rd k ih=>simp only [Pg.bind,ih]
   have aiC:∀ (p:Pg (List aC)) (f:List aC->Pg (List aC)) (g:List aC->Pg aC),(p.bind f).bind g=p.bind fun a=>(f a).bind g:=fun p f g=>by
    induction p with
    | ret a=>rfl
    | rd k ih=>simp only [Pg.bind,ih]
   rw [assoc];refine Sm.bind hi (uR d) (hS deep i h hdp g1 hi) fun t i h ht hi=>?_;dsimp only;rw [lI bI,aD,wrap64 ah ah,show ((c+1:Nat):Int) - 1=(c:Int) by omega,aiC];have:=ih c i h (acc++[t]) ah bI (by rw [wo,iZ,MN,oW];have:=ht.1;simp only [aJ];omega) hi;rw [tJ] at this;show Sm b ((jW (jd d) c).bind fun ts=>Pg.ret (⟨33,0,[],[],acc++(t::ts)⟩:aC)) _ _ _ _;rw [key t];exact this
theorem aaN {M d:Nat} (hM:1048577 < M) (hd:d<=4) (hS:SS b M d):BS b (M+1) d:=by
 intro deep i h hdp g1 hi;show Sm b _ _ i h (Kv M (kU M) deep b (i:Int) h);unfold Kv mF;refine Sm.bind hi (cO 3) (nW b hb 3 i h hi) fun r i h hr hi=>?_;obtain ⟨c,rfl⟩:=lJ hr.1;dsimp only;rw [uT];exact aiB b hb hN hM hd hS deep hdp g1 M c i h [] ah bI (by simp [aJ]) hi
theorem aiD {M:Nat} (hM:1050000<=M):SS b (M+1) 0:=by
 intro deep i h hdp g1 hi;show Sm b _ _ i h (Dn M (kU M) deep b (i:Int) h);unfold Dn;rw [lH (show deep<=0 by omega),aU,aD];have e:(if 2 < deep then 2 else deep)=deep:=aT ah;dsimp only;rw [aU,e];exact uW (aaM b hb (N:=M) ah ah deep hdp ah i h hi)
theorem aiE {M d:Nat} (hM:1050000<=M) (hd:d<=3) (deep:Int) (hdp:deep.toNat=d+1) (hB:BS b M d) (i:Nat) (h:Int) (hi:i<=b.length) (f:(Int×Int×Int)->Option (List aB×Int×Int))
  (hf:f=fun dD=>bif (dD.1==0) then (dh M 1 b dD.2.1 dD.2.2).bind fun gP=>((kU M).fG (IntKind.wrap .i64<|deep - 1) b gP.2.1 gP.2.2).bind fun iW=>(dQ M (⟨28,0,[],[],[]⟩:aB) [gP.1,iW.1]).bind fun sP=>some (sP,iW.2.1,iW.2.2) else (bif (dD.1==1) then (dh M 1 b dD.2.1 dD.2.2).bind fun qD=>((kU M).fG (IntKind.wrap .i64<|deep - 1) b qD.2.1 qD.2.2).bind fun uD=>((kU M).fG (IntKind.wrap .i64<|deep - 1) b uD.2.1 uD.2.2).bind fun aZ=>(dQ M (⟨28,0,[],[],[]⟩:aB) [qD.1,uD.1,aZ.1]).bind fun xH=>some (xH,aZ.2.1,aZ.2.2) else (bif (dD.1==2) then (dh M 1 b dD.2.1 dD.2.2).bind fun uE=>((kU M).fG (IntKind.wrap .i64<|deep - 1) b uE.2.1 uE.2.2).bind fun sS=>(dQ M (⟨29,0,[],[],[]⟩:aB) [uE.1,sS.1]).bind fun rH=>some (rH,sS.2.1,sS.2.2) else (bif (dD.1==3) then ((kU M).fG (IntKind.wrap .i64<|deep - 1) b dD.2.1 dD.2.2).bind fun ku=>(dh M 1 b ku.2.1 ku.2.2).bind fun nM=>(dQ M (⟨30,0,[],[],[]⟩:aB) [ku.1,nM.1]).bind fun vQ=>some (vQ,nM.2.1,nM.2.2) else (bif (dD.1==4) then (xG M 2 b dD.2.1 dD.2.2).bind fun jv=>(xG M 1 b jv.2.1 jv.2.2).bind fun nN=>(xG M 1 b nN.2.1 nN.2.2).bind fun kC=>((kU M).fG (IntKind.wrap .i64<|deep - 1) b kC.2.1 kC.2.2).bind fun gK=>(dQ M (⟨31,0,[],[],[]⟩:aB) [jv.1,nN.1,kC.1,gK.1]).bind fun oH=>some (oH,gK.2.1,gK.2.2) else ((qA 2 b dD.2.1 dD.2.2).bind fun mV=>bif mV.1 then ((kU M).fG (IntKind.wrap .i64<|deep - 1) b mV.2.1 mV.2.2).bind fun kT=>some (kT.1,kT.2.1,kT.2.2) else ((rE b mV.2.1 mV.2.2).bind fun vS=>(rE b vS.2.1 vS.2.2).bind fun rJ=>((kU M).fG (IntKind.wrap .i64<|deep - 1) b rJ.2.1 rJ.2.2).bind fun sN=>(dQ M (⟨32,0,vS.1,rJ.1,[]⟩:aB) [sN.1]).bind fun uq=>some (uq,sN.2.1,sN.2.2)))))))):
  Sm b (Nc<|mF<|jd d) (aP 0) i h (Option.bind (fO 6 b (i:Int) h) f):=by
 have hss:ss d<=100000:=by
  have:d=0\/d=1\/d=2\/d=3:=ah;rcases this with rfl|rfl|rfl|rfl<;>decide
 have w1:IntKind.wrap .i64 (deep - 1)=deep - 1:=wrap64 ah ah;have e:=uZ (d:=1) ah;have e1:∀ (i:Nat) h,i<=b.length->Sm b (dF 1) (aP 0) i h (dh M 1 b (i:Int) h):=fun i h hi=>Jm b hb (N:=M) ah ah 1 rfl ah ah i h hi;have p:=Jl (uR d);have g:∀ (i:Nat) h,i<=b.length->Sm b (mF<|jd d) (aP 0) i h ((kU M).fG (deep - 1) b (i:Int) h):=fun i h hi=>hB (deep - 1) i h ah ah hi;subst hf;rw [w1];unfold Nc;refine Sm.bind hi (cO 6) (nW b hb 6 i h hi) fun r i h _ hi=>?_;dsimp only;refine Sm.cond (fun _=>?_) fun _=>Sm.cond (fun _=>?_) fun _=>Sm.cond (fun _=>?_) fun _=>Sm.cond (fun _=>?_) fun _=>Sm.cond (fun _=>?_) fun _=>?_
 .refine Sm.bind hi e (e1 i h hi) fun t i h ht hi=>?_;dsimp only;refine Sm.bind hi p (g i h hi) fun u i h hu hi=>?_;exact iC (α:=Unit) b hb ah 28 0 [] [] [t,u] (by have:=ht.1;have:=hu.1;simp only [aJ];omega) i h
 .refine Sm.bind hi e (e1 i h hi) fun t i h ht hi=>?_;dsimp only;refine Sm.bind hi p (g i h hi) fun u i h hu hi=>?_;dsimp only;refine Sm.bind hi p (g i h hi) fun v i h hv hi=>?_;exact iC (α:=Unit) b hb ah 28 0 [] [] [t,u,v] (by have:=ht.1;have:=hu.1;have:=hv.1;simp only [aJ];omega) i h
 .refine Sm.bind hi e (e1 i h hi) fun t i h ht hi=>?_;dsimp only;refine Sm.bind hi p (g i h hi) fun u i h hu hi=>?_;exact iC (α:=Unit) b hb ah 29 0 [] [] [t,u] (by have:=ht.1;have:=hu.1;simp only [aJ];omega) i h
 .refine Sm.bind hi p (g i h hi) fun u i h hu hi=>?_;dsimp only;refine Sm.bind hi e (e1 i h hi) fun t i h ht hi=>?_;exact iC (α:=Unit) b hb ah 30 0 [] [] [u,t] (by have:=ht.1;have:=hu.1;simp only [aJ];omega) i h
 .refine Sm.bind hi (Jk ah) (Vf b hb (N:=M) ah (d:=2) ah i h hi) fun t i h ht hi=>?_;dsimp only;refine Sm.bind hi (Jk ah) (Vf b hb (N:=M) ah (d:=1) ah i h hi) fun u i h hu hi=>?_;dsimp only;refine Sm.bind hi (Jk ah) (Vf b hb (N:=M) ah (d:=1) ah i h hi) fun v i h hv hi=>?_;dsimp only;refine Sm.bind hi p (g i h hi) fun w i h hw hi=>?_;exact iC (α:=Unit) b hb ah 31 0 [] [] [t,u,v,w] (by have:=ht.1;have:=hu.1;have:=hv.1;have:=hw.1;simp only [aJ];omega) i h
 .refine Sm.bind hi (mE 2) (Jb b hb 2 i h hi) fun o i h _ hi=>?_;dsimp only;refine Sm.cond (fun _=>uW<|g i h hi) fun _=>?_;refine Sm.bind hi jV (zP b hb i h hi) fun x i h _ hi=>?_;dsimp only;refine Sm.bind hi jV (zP b hb i h hi) fun y i h _ hi=>?_;dsimp only;refine Sm.bind hi p (g i h hi) fun u i h hu hi=>?_;exact iC (α:=Unit) b hb ah 32 0 x y [u] (by have:=hu.1;simp only [aJ];omega) i h
theorem aiF {M d:Nat} (hM:1050000<=M) (hd:d<=3) (hB:BS b M d):SS b (M+1) (d+1):=by
 intro deep i h hdp g1 hi;show Sm b _ _ i h (Dn M (kU M) deep b (i:Int) h);unfold Dn jd;rw [uP (show¬deep<=0 by omega),aM];have ho:Sm b ((tN 3).bind fun o=>Pg.ret<|!o) (fun x=>x) i h ((qA 3 b (i:Int) h).bind fun lX=>some ((!lX.1),lX.2.1,lX.2.2)):=Sm.bind hi (mE 3) (Jb b hb 3 i h hi) fun o i h _ hi=>Sm.ret;refine Sm.bind hi Ve ho fun y i h _ hi=>?_;dsimp only;refine Sm.cond (fun _=>?_) fun _=>aiE b hb hN hM hd deep hdp hB i h hi _ rfl;refine uW (aaM b hb (N:=M) ah ah _ ?_ ?_ i h hi)
 .split<;>omega
 .split<;>omega
theorem aaO:∀ (d M:Nat),d<=4->1050000+2*d+1<=M->SS b M d:=by
 intro d;induction d with
 | zero=>
  intro M hd hM;obtain ⟨M,rfl⟩:∃ m,M=m+1:=⟨M - 1,ah⟩
  exact aiD b hb hN ah
 | succ d ih=>
  intro M hd hM;obtain ⟨M,rfl⟩:∃ m,M=m+1+1:=⟨M - 2,ah⟩
  exact aiF b hb hN ah ah (aaN b hb hN ah ah<|ih M ah ah)
theorem agi {d:Nat} (hd:d<=4) (yA:1050100<=N) (deep:Int) (hdp:deep.toNat=d) (g1: -700<=deep) (i:Nat) (h:Int) (hi:i<=b.length):Sm b (jd d) (aP 0) i h (uz N deep b (i:Int) h):=aaO b hb hN d N hd ah deep i h hdp g1 hi
theorem aaP {d:Nat} (hd:d<=4) (yA:1050100<=N) (deep:Int) (hdp:deep.toNat=d) (g1: -700<=deep) (i:Nat) (h:Int) (hi:i<=b.length):Sm b (mF<|jd d) (aP 0) i h (fG N deep b (i:Int) h):=by
 obtain ⟨M,rfl⟩:∃ m,N=m+1:=⟨N - 1,ah⟩
 exact aaN b hb hN ah hd (aaO b hb hN d M hd ah) deep i h hdp g1 hi
theorem aiG (yA:1050100<=N) (r2:Int×Int×Int) (a:Int) (h2:r2.1=a) (ha:0<=a) (ha2:a < 2):∀ (n c:Nat) (i:Nat) (h:Int) (acc:List aC),c < n->acc.length+c<=3->aJ acc<=acc.length->i<=b.length->
  Sm b ((jW yx c).bind fun ws=>(nA [[102],[103],[109,97,120]]).bind fun x=>(mF<|jd (1+a).toNat).bind fun u=>.ret (⟨44,0,x,[],(acc++ws)++[u]⟩:aC)) (aP 0) i h (Dp N b n (r2,(c:Int),(i:Int),h,acc.map<|aP 0)):=by
 intro n;induction n with
 | zero=>intro c i h acc hc;omega
 | succ n ih=>
  intro c i h acc hc hl hs hi;rw [Dp];cases c with
  | zero=>
   have:decide (((0:Nat):Int) > 0)=false:=rfl;rw [this,aM];show Sm b ((nA [[102],[103],[109,97,120]]).bind fun x=>(mF<|jd (1+a).toNat).bind fun u=>.ret (⟨44,0,x,[],(acc++[])++[u]⟩:aC)) _ _ _ _;rw [xZ];refine Sm.bind hi (nC _ aI aI) (zO b hb _ aI i h hi) fun x i h hx hi=>?_;dsimp only;rw [h2,wrap64 ah ah];refine Sm.bind hi (QC ha ha2) (aaP b hb hN (d:=(1+a).toNat) ah yA (1+a) rfl ah i h hi) fun u i h hu hi=>?_;dsimp only;rw [lI bI,aD];have:=iC (α:=Unit) b hb (N:=N) ah 44 0 x [] (acc++[u]) (by have:=hu.1;rw [wo];simp only [aJ];omega) i h;rw [tJ] at this;exact this
  | succ c=>
   have:decide (((c+1:Nat):Int) > 0)=true:=lH ah;rw [this,aU,jW];have assoc:∀ {α β γ:Type} (p:Pg α) (f:α->Pg β) (g:β->Pg γ),(p.bind f).bind g=p.bind fun a=>(f a).bind g:=fun p f g=>by
    induction p with
    | ret a=>rfl
    | rd k ih=>simp only [Pg.bind,ih]
   unfold yx;rw [assoc,assoc];refine Sm.bind hi jV (zP b hb i h hi) fun x i h hx hi=>?_;dsimp only;rw [lI bI,aD,wrap64 ah ah,show ((c+1:Nat):Int) - 1=(c:Int) by omega];have:=ih c i h (acc++[⟨1,0,x,[],[]⟩]) ah bI (by rw [wo,iZ];simp only [aJ,bA,oV,IQ];omega) hi;rw [tJ] at this;show Sm b (((jW yx c).bind fun vs=>Pg.ret<|(⟨1,0,x,[],[]⟩:aC)::vs).bind _) _ _ _ _;rw [assoc];have key:(fun vs=>(Pg.ret<|(⟨1,0,x,[],[]⟩:aC)::vs).bind fun ws=>(nA [[102],[103],[109,97,120]]).bind fun x_1=>(mF<|jd (1+a).toNat).bind fun u=>Pg.ret (⟨44,0,x_1,[],acc++ws++[u]⟩:aC))=fun ws=>(nA [[102],[103],[109,97,120]]).bind fun x_1=>(mF<|jd (1+a).toNat).bind fun u=>Pg.ret (⟨44,0,x_1,[],acc++[⟨1,0,x,[],[]⟩]++ws++[u]⟩:aC):=by
    funext ws;show (nA [[102],[103],[109,97,120]]).bind _=_;congr 1;funext x_1;congr 1;funext u;rw [kW acc [_] ws];rfl
   rw [key];exact this
theorem aiH (yA:1050100<=N) (i:Nat) (h:Int) (hi:i<=b.length):Sm b nX (aP 0) i h (Ky N b (i:Int) h):=by
 unfold Ky nX;refine Sm.bind hi (cO 2) (nW b hb 2 i h hi) fun a i h ha hi=>?_;have ha2:a < 2:=ah;have wa:IntKind.wrap .i64 (1+a)=1+a:=wrap64 ah ah;have e:=uZ (d:=(1+a).toNat) ah;have e1:=uZ (d:=1) ah;have hB:=QC ha.1 ha2;have gB:∀ (i:Nat) h,i<=b.length->Sm b (mF<|jd (1+a).toNat) (aP 0) i h (fG N (1+a) b (i:Int) h):=fun i h hi=>aaP b hb hN ah yA (1+a) rfl ah i h hi;have gE:∀ (i:Nat) h,i<=b.length->Sm b (dF (1+a).toNat) (aP 0) i h (dh N (1+a) b (i:Int) h):=fun i h hi=>Jm b hb hN ah (1+a) rfl ah ah i h hi;have g1:∀ (i:Nat) h,i<=b.length->Sm b (dF 1) (aP 0) i h (dh N 1 b (i:Int) h):=fun i h hi=>Jm b hb hN ah 1 rfl ah ah i h hi;dsimp only;rw [wa];refine Sm.bind hi (cO 8) (nW b hb 8 i h hi) fun r i h _ hi=>?_;dsimp only;refine Sm.cond (fun _=>?_) fun _=>Sm.cond (fun _=>?_) fun _=>Sm.cond (fun _=>?_) fun _=>Sm.cond (fun _=>?_) fun _=>Sm.cond (fun _=>?_) fun _=>Sm.cond (fun _=>?_) fun _=>Sm.cond (fun _=>?_) fun _=>?_
 .refine Sm.bind hi (cO 2) (nW b hb 2 i h hi) fun q i h hq hi=>?_;dsimp only;rw [wrap64 (n:=40+q) ah ah];refine Sm.bind hi hB (gB i h hi) fun u i h hu hi=>?_;exact iC (α:=Unit) b hb ah (40+q) 0 [] [] [u] (by have:=hu.1;simp only [aJ];omega) i h
 .refine Sm.bind hi e (gE i h hi) fun t i h ht hi=>?_;exact iC (α:=Unit) b hb ah 42 1 [] [] [t] (by have:=ht.1;simp only [aJ];omega) i h
 .refine Sm.bind hi hB (gB i h hi) fun t i h ht hi=>?_;exact iC (α:=Unit) b hb ah 42 2 [] [] [t] (by have:=ht.1;simp only [aJ];omega) i h
 .refine Sm.bind hi e1 (g1 i h hi) fun t i h ht hi=>?_;dsimp only;refine Sm.bind hi e1 (g1 i h hi) fun u i h hu hi=>?_;exact iC (α:=Unit) b hb ah 43 1 [] [] [t,u] (by have:=ht.1;have:=hu.1;simp only [aJ];omega) i h
 .refine Sm.bind hi e1 (g1 i h hi) fun t i h ht hi=>?_;dsimp only;refine Sm.bind hi e1 (g1 i h hi) fun u i h hu hi=>?_;dsimp only;refine Sm.bind hi hB (gB i h hi) fun v i h hv hi=>?_;exact iC (α:=Unit) b hb ah 43 3 [] [] [t,u,v] (by have:=ht.1;have:=hu.1;have:=hv.1;simp only [aJ];omega) i h
 .refine Sm.bind hi (cO 3) (nW b hb 3 i h hi) fun q i h hq hi=>?_;obtain ⟨q,rfl⟩:=lJ hq.1;dsimp only;rw [uT];exact aiG b hb hN yA _ a rfl ha.1 ha2 N q i h [] ah bI (by simp [aJ]) hi
 .exact Sm.bind hi (nC _ aI aI) (zO b hb _ aI i h hi) fun x i h _ hi=>Sm.ret
 .refine Sm.bind hi e (gE i h hi) fun t i h ht hi=>?_;dsimp only;refine Sm.bind hi hB (gB i h hi) fun u i h hu hi=>?_;exact iC (α:=Unit) b hb ah 42 3 [] [] [t,u] (by have:=ht.1;have:=hu.1;simp only [aJ];omega) i h
theorem aiI (yA:1050100<=N) (kb:(Int×Int)->Option (List aB×Int×Int)):∀ (n c:Nat) (i:Nat) (h:Int) (acc:List aC),c < n->acc.length+c<=3->aJ acc<=acc.length*2960->i<=b.length->
  Dy N b kb n ((c:Int),(i:Int),h,acc.map<|aP 0)=(let r:=Pg.run b ((jW nX c).bind fun ts=>.ret (⟨45,0,[],[],acc++ts⟩:aC)) i h;bif fits 220 r.1 then some (aP 0 r.1,(r.2.1:Int),r.2.2) else kb ((r.2.1:Int),r.2.2)):=by
 intro n;induction n with
 | zero=>intro c i h acc hc;omega
 | succ n ih=>
  intro c i h acc hc hl hs hi;rw [Dy];cases c with
  | zero=>
   have:decide (((0:Nat):Int) > 0)=false:=rfl;rw [this,aM];have hz:aJ acc<=900000:=by have:=oZ 2960 (show acc.length<=3 by omega);omega
   have hm:=MH N ⟨45,0,[],[],[]⟩ acc ah hz;rw [hm,aD];show (bif decide (((aP 0 (⟨45,0,[],[],acc⟩:aC)).length:Int)<=220) then _ else _)=_;have e:(let r:=Pg.run b ((jW nX 0).bind fun ts=>Pg.ret (⟨45,0,[],[],acc++ts⟩:aC)) i h;bif fits 220 r.1 then some (aP 0 r.1,(r.2.1:Int),r.2.2) else kb ((r.2.1:Int),r.2.2))=bif fits 220 (⟨45,0,[],[],acc++[]⟩:aC) then some (aP 0 (⟨45,0,[],[],acc++[]⟩:aC),(i:Int),h) else kb ((i:Int),h):=rfl;rw [e,xZ];have hf:decide (((aP 0 (⟨45,0,[],[],acc⟩:aC)).length:Int)<=220)=fits 220 (⟨45,0,[],[],acc⟩:aC):=by
    rw [gG];unfold fits;cases hc:Nat.ble (bA (⟨45,0,[],[],acc⟩:aC)) 220 with
    | true=>have:=xV hc;exact lH ah
    | false=>refine uP fun hh=>?_;rw [aaC ah] at hc;cases hc
   rw [hf]
  | succ c=>
   have:decide (((c+1:Nat):Int) > 0)=true:=lH ah;rw [this,aU];have hI:=aiH b hb hN yA i h hi;unfold Sm at hI;rw [hI,aD];dsimp only;rw [lI bI,aD,wrap64 ah ah,show ((c+1:Nat):Int) - 1=(c:Int) by omega];have hp:=Pg.MS b QD i h;have:=ih c (Pg.run b nX i h).2.1 (Pg.run b nX i h).2.2 (acc++[(Pg.run b nX i h).1]) ah bI (by rw [wo,iZ,MN,oW];have:=hp.1;simp only [aJ];omega) (Pg.yt b nX i h hi);rw [tJ] at this;refine IV this ?_;have assoc:∀ {α β γ:Type} (p:Pg α) (f:α->Pg β) (g:β->Pg γ),(p.bind f).bind g=p.bind fun a=>(f a).bind g:=fun p f g=>by
    induction p with
    | ret a=>rfl
    | rd k ih=>simp only [Pg.bind,ih]
   have e:Pg.run b ((jW nX<|c+1).bind fun ts=>Pg.ret (⟨45,0,[],[],acc++ts⟩:aC)) i h=Pg.run b ((jW nX c).bind fun ts=>Pg.ret (⟨45,0,[],[],acc++[(Pg.run b nX i h).1]++ts⟩:aC)) (Pg.run b nX i h).2.1 (Pg.run b nX i h).2.2:=by
    rw [jW,assoc,Pg.run_bind,assoc];congr 1;congr 1;funext ts;show Pg.ret (⟨45,0,[],[],acc++(_::ts)⟩:aC)=_;rw [kW acc [_] ts];rfl
   rw [e]
theorem agb (yA:1050100<=N):∀ (n i:Nat) (h:Int),i<=b.length->zf N b n ((i:Int),h)=(Pg.loop b iB (fits 220) n i h).map fun r=>(aP 0 r.1,(r.2.1:Int),r.2.2):=by
 intro n;induction n with
 | zero=>intro i h hi;rfl
 | succ n ih=>
  intro i h hi;rw [zf,Pg.loop];have hb4:=nW b hb 4 i h hi;unfold Sm at hb4;rw [hb4,aD];dsimp only;have hr:=Pg.MS b (cO 4) i h;obtain ⟨c,hc⟩:=lJ hr.1;have hl:=Pg.yt b (gQ 4) i h hi;have:=aiI b hb hN yA (zf N b n) N c (Pg.run b (gQ 4) i h).2.1 (Pg.run b (gQ 4) i h).2.2 [] ah bI (by simp [aJ]) hl;rw [hc];refine IV this ?_;have e:Pg.run b iB i h=Pg.run b ((jW nX c).bind fun ts=>Pg.ret (⟨45,0,[],[],[]++ts⟩:aC)) (Pg.run b (gQ 4) i h).2.1 (Pg.run b (gQ 4) i h).2.2:=by
   unfold iB;rw [Pg.run_bind,hc];rfl
  rw [e];dsimp only;generalize Pg.run b ((jW nX c).bind fun ts=>Pg.ret (⟨45,0,[],[],[]++ts⟩:aC)) (Pg.run b (gQ 4) i h).2.1 (Pg.run b (gQ 4) i h).2.2=q at e;have hq:q.2.1<=b.length:=by rw [<- e];exact Pg.yt b iB i h hi
  cases fits 220 q.1 with
  | true=>rfl
  | false=>rw [aM,aM];exact ih _ _ hq
end
def aiJ:Pg.fJ nV (fits 60) 40 135 2021368500568277588=true:=iT
def aiK:gu 135 2021368500568277588=1520775315923724161:=iT
def aiL:Pg.fJ nV (fits 60) 40 135 1520775315923724161=true:=iT
def aiM:gu 135 1520775315923724161=(-1929235519155055454):=iT
def aiN:Pg.fJ nV (fits 60) 40 135 (-1929235519155055454)=true:=iT
def aiO:Pg.fJ nV (fits 60) 40 405 2021368500568277588=true:=by
 have a1:Pg.fJ nV (fits 60) 40 (135+135) 1520775315923724161=true:=Pg.tL _ _ _ _ _ _ aiL (by rw [aiM];exact aiN);have a0:Pg.fJ nV (fits 60) 40 (135+270) 2021368500568277588=true:=Pg.tL _ _ _ _ _ _ aiJ (by rw [aiK];exact a1);exact a0
def aiP:Pg.fJ iB (fits 220) 40 260 (-2744174768175047444)=true:=iT
def aiQ:gu 260 (-2744174768175047444)=9139760114735395424:=iT
def aiR:Pg.fJ iB (fits 220) 40 260 9139760114735395424=true:=iT
def aiS:gu 260 9139760114735395424=8949882279719470868:=iT
def aiT:Pg.fJ iB (fits 220) 40 260 8949882279719470868=true:=iT
def aiU:gu 260 8949882279719470868=8399572877787008776:=iT
def aiV:Pg.fJ iB (fits 220) 40 260 8399572877787008776=true:=iT
def aiW:gu 260 8399572877787008776=(-644356377554321860):=iT
def aiX:Pg.fJ iB (fits 220) 40 260 (-644356377554321860)=true:=iT
def aiY:gu 260 (-644356377554321860)=(-7008574521026492240):=iT
def aiZ:Pg.fJ iB (fits 220) 40 260 (-7008574521026492240)=true:=iT
def aja:gu 260 (-7008574521026492240)=(-326443216012795292):=iT
def ajb:Pg.fJ iB (fits 220) 40 260 (-326443216012795292)=true:=iT
def ajc:gu 260 (-326443216012795292)=1119826188661489496:=iT
def ajd:Pg.fJ iB (fits 220) 40 260 1119826188661489496=true:=iT
def aje:gu 260 1119826188661489496=5199595073289098124:=iT
def ajf:Pg.fJ iB (fits 220) 40 260 5199595073289098124=true:=iT
def ajg:gu 260 5199595073289098124=8701555922248749824:=iT
def ajh:Pg.fJ iB (fits 220) 40 260 8701555922248749824=true:=iT
def aji:gu 260 8701555922248749824=2969263789539357108:=iT
def ajj:Pg.fJ iB (fits 220) 40 258 2969263789539357108=true:=iT
def ajk:Pg.fJ iB (fits 220) 40 2858 (-2744174768175047444)=true:=by
 have a9:Pg.fJ iB (fits 220) 40 (260+258) 8701555922248749824=true:=Pg.tL _ _ _ _ _ _ ajh (by rw [aji];exact ajj);have a8:Pg.fJ iB (fits 220) 40 (260+518) 5199595073289098124=true:=Pg.tL _ _ _ _ _ _ ajf (by rw [ajg];exact a9);have a7:Pg.fJ iB (fits 220) 40 (260+778) 1119826188661489496=true:=Pg.tL _ _ _ _ _ _ ajd (by rw [aje];exact a8);have a6:Pg.fJ iB (fits 220) 40 (260+1038) (-326443216012795292)=true:=Pg.tL _ _ _ _ _ _ ajb (by rw [ajc];exact a7);have a5:Pg.fJ iB (fits 220) 40 (260+1298) (-7008574521026492240)=true:=Pg.tL _ _ _ _ _ _ aiZ (by rw [aja];exact a6);have a4:Pg.fJ iB (fits 220) 40 (260+1558) (-644356377554321860)=true:=Pg.tL _ _ _ _ _ _ aiX (by rw [aiY];exact a5);have a3:Pg.fJ iB (fits 220) 40 (260+1818) 8399572877787008776=true:=Pg.tL _ _ _ _ _ _ aiV (by rw [aiW];exact a4);have a2:Pg.fJ iB (fits 220) 40 (260+2078) 8949882279719470868=true:=Pg.tL _ _ _ _ _ _ aiT (by rw [aiU];exact a3);have a1:Pg.fJ iB (fits 220) 40 (260+2338) 9139760114735395424=true:=Pg.tL _ _ _ _ _ _ aiR (by rw [aiS];exact a2);have a0:Pg.fJ iB (fits 220) 40 (260+2598) (-2744174768175047444)=true:=Pg.tL _ _ _ _ _ _ aiP (by rw [aiQ];exact a1);exact a0
def afY (b:List UInt8) (n:Nat) (hn:18446744073709551657+b.length<=n) (i:Nat) (h:Int) (hi:i<=b.length):(Pg.loop b nV (fits 60) n i h).isSome=true:=
 Pg.aau (h0:=2021368500568277588) (F:=40) ait (show Pg.One nV from Pg.One.bind (show Pg.One (gQ 4) from trivial)) aiO aI aI b 18446744073709551657 aI (b.length - i) i n h rfl hi ah
def agc (b:List UInt8) (n:Nat) (hn:18446744073709551657+b.length<=n) (i:Nat) (h:Int) (hi:i<=b.length):(Pg.loop b iB (fits 220) n i h).isSome=true:=
 Pg.aau (h0:=(-2744174768175047444)) (F:=40) aiA (show Pg.One iB from Pg.One.bind (show Pg.One (gQ 4) from trivial)) ajk aI aI b 18446744073709551657 aI (b.length - i) i n h rfl hi ah
section
set_option linter.unusedSectionVars false
variable (b:List UInt8) (hb:b.length<=1048576) (N:Nat) (hN:2100000<=N)
include hb hN
omit hN in
theorem afT:∀ (n j:Nat) (h:Int),b.length - j < n->j<=b.length->∃ r,CZ N n (b,h,(j:Int))=some (b,0,r):=by
 intro n;induction n with
 | zero=>intro j h hn;omega
 | succ n ih=>
  intro j h hn hj;rw [CZ];by_cases hlt:j < b.length
  .have e:ix b (j:Int)=some b[j]:=bH hlt;simp only [iQ hlt,aU,aD];cases decide ((j:Int) < 4000) with
   | true=>
    rw [aU,e,aD,wrap64 (n:=(j:Int)+1) ah ah,show (j:Int)+1=((j+1:Nat):Int) by omega];exact ih (j+1) _ ah ah
   | false=>exact ⟨_,rfl⟩
  .simp only [jm hlt,aM,aD];exact ⟨_,rfl⟩
theorem afU:∃ h,OM N b=some (b,0,h):=afT b hb N N 0 _ ah ah
end
def Iz (L:List aB):Prop:=∃ t,L=aP 0 t/\Gd 1500 12 t
def afV (L:List aB):Prop:=∀ x,x∈L->∀ k,k∈x.Kids-> -9223372036854775808<=k/\k<=9223372036854775807
def uQ (L:List aB):Prop:=TN L/\L.length<=3000/\afV L
def afW {m d:Nat} {t:aC} (h:Gd m d t) (hm:m<=10000):TN (aP 0 t):=fun x hx=>by
 have h1:=IB t 0 x hx;have h2:=h.2.2 x hx;have:=h.1;exact ⟨ah,h2.1,h2.2⟩
def Iz.Qa {L:List aB} (h:Iz L):uQ L/\1<=L.length/\L.length<=1500:=by
 obtain ⟨t,rfl,ht⟩:=h;have:=rW t;have:=ht.1;exact ⟨⟨afW ht ah,by rw [gG];omega,fun x hx k hk=>by have:=MB t 0 x hx k hk;omega⟩,by rw [gG];omega,by rw [gG];omega⟩
section
set_option linter.unusedSectionVars false
variable (b:List UInt8) (hb:b.length<=1048576) (N:Nat) (hN:18446744073709551657+2097152<=N)
include hb hN
theorem YS (i h:Int) (h0:0<=i) (h1:i<=(b.length:Int)):Dr b (fun L=>∃ t,L=aP 0 t/\Gd 60 6 t) (Gw N b i h):=by
 obtain ⟨i,rfl⟩:=lJ h0;have e:Gw N b (i:Int) h=_:=afX b hb (N:=N) ah N i h ah;have hs:=afY b N ah i h ah;cases hl:Pg.loop b nV (fits 60) N i h with
 | none=>rw [hl] at hs;cases hs
 | some r=>
  obtain ⟨g1,g2,g3⟩:=Pg.TP b afZ (fits 60) N i h r ah hl;rw [e,hl];exact ⟨_,_,_,rfl,⟨r.1,rfl,xV g2,g1.2⟩,ah,ah⟩
theorem aga (i h:Int) (h0:0<=i) (h1:i<=(b.length:Int)):Dr b (fun L=>∃ t,L=aP 0 t/\Gd 220 12 t) (KC N b i h):=by
 obtain ⟨i,rfl⟩:=lJ h0;have e:KC N b (i:Int) h=_:=agb b hb (N:=N) ah ah N i h ah;have hs:=agc b N ah i h ah;cases hl:Pg.loop b iB (fits 220) N i h with
 | none=>rw [hl] at hs;cases hs
 | some r=>
  obtain ⟨g1,g2,g3⟩:=Pg.TP b agd (fits 220) N i h r ah hl;rw [e,hl];exact ⟨_,_,_,rfl,⟨r.1,rfl,xV g2,g1.2⟩,ah,ah⟩
theorem agf (d:Nat) (hd:d<=2) (i h:Int) (h0:0<=i) (h1:i<=(b.length:Int)):Dr b (fun L=>∃ t,L=aP 0 t/\Gd 1500 9 t) (uz N (d:Int) b i h):=by
 obtain ⟨i,rfl⟩:=lJ h0;have hs:ss d<=1500:=by
  have:d=0\/d=1\/d=2:=ah;rcases this with rfl|rfl|rfl<;>decide
 exact agh ah (agi b hb (N:=N) ah (d:=d) ah ah (d:Int) rfl ah i h ah) (uR d) fun t ht=>⟨t,rfl,ht.mono hs ah⟩
theorem YT (i h:Int) (h0:0<=i) (h1:i<=(b.length:Int)):Dr b Iz (GN N b i h):=by
 have k1:∀ (r:Int) (i h:Int) (y:Bool),0<=i->i<=(b.length:Int)->Dr b Iz (GL N b ((r,i,h),y)):=fun r i h y h0 h1=>by
  unfold GL;dsimp only;refine Dr.cond (fun _=>ED<|(YS b hb N hN i h h0 h1).imp ?_) fun _=>Dr.cond (fun _=>ED<|(agf b hb N hN 2 ah i h h0 h1).imp ?_) fun _=>ED ((aga b hb N hN i h h0 h1).imp ?_)
  .rintro L ⟨t,rfl,ht⟩;exact ⟨t,rfl,ht.mono ah ah⟩
  .rintro L ⟨t,rfl,ht⟩;exact ⟨t,rfl,ht.mono ah ah⟩
  .rintro L ⟨t,rfl,ht⟩;exact ⟨t,rfl,ht.mono ah ah⟩
 unfold GN;refine Dr.bind (tF b hb _ i h h0 h1) fun r i h hr h0 h1=>?_;dsimp only;exact Dr.cond (fun _=>k1 r i h _ h0 h1) fun _=>k1 r i h _ h0 h1
theorem IC {α:Type} {Q:α->Prop} {L:List aB} (hL:uQ L) {k:Int} (h0:0<=k) (h1:k < (L.length:Int)) {x:aB} (hx:(x.Kids.length<=20000/\x.Text.length<=18/\x.Other.length<=18)/\∀ k,k∈x.Kids-> -9223372036854775808<=k/\k<=9223372036854775807) {f:List aB->Option (α×Int×Int)} (hf:∀ L',uQ L'->L'.length=L.length->Dr b Q (f L')):Dr b Q (Option.bind (upd L k x) f):=by
 obtain ⟨k,rfl⟩:=lJ h0;have hk:k < L.length:=ah;rw [TK hk,aD];refine hf _ ⟨fun y hy=>?_,by rw [TQ];exact hL.2.1,fun y hy=>?_⟩ (TQ ..)
 .rcases TR hy with h|h
  .exact hL.1 y h
  .rw [h];exact hx.1
 .rcases TR hy with h|h
  .exact hL.2.2 y h
  .rw [h];exact hx.2
theorem MC {α:Type} {Q:α->Prop} {L:List aB} (hL:uQ L) {k:Int} (h0:0<=k) (h1:k < (L.length:Int)) {f:aB->Option (α×Int×Int)} (hf:∀ x,x∈L->Dr b Q (f x)):Dr b Q (Option.bind (ix L k) f):=by
 obtain ⟨k,rfl⟩:=lJ h0;have hk:k < L.length:=ah;rw [bH hk,aD];exact hf _ (jy hk)
theorem agj (i h:Int) (h0:0<=i) (h1:i<=(b.length:Int)):Dr b uQ (KD N b i h):=by
 unfold KD;refine Dr.bind (YT b hb N hN i h h0 h1) fun L i h hL h0 h1=>?_;obtain ⟨hS,hl1,hl2⟩:=hL.Qa;dsimp only;refine Dr.bind (tF b hb _ i h h0 h1) fun k i h hk h0 h1=>?_;have k0:=hk.1;have k1:k < (L.length:Int):=ah;dsimp only;refine Dr.bind (tF b hb _ i h h0 h1) fun r i h hr h0 h1=>?_;dsimp only;have fin:∀ (L':List aB) (i h:Int),uQ L'->0<=i->i<=(b.length:Int)->Dr b uQ (DC N b (L',i,h)):=fun L' i h hL' h0 h1=>Dr.some hL' h0 h1;refine Dr.cond (fun _=>?_) fun _=>Dr.cond (fun _=>?_) fun _=>Dr.cond (fun _=>?_) fun _=>Dr.cond (fun _=>?_) fun _=>fin L i h hS h0 h1
 .obtain ⟨k,rfl⟩:=lJ k0;have e:cut L 0 (k:Int)=some (L.take k):=by
   have:=YU (l:=L) (a:=0) (b:=k) ah ah;rw [Iy,Nat.sub_zero] at this;exact this
  rw [e,aD];exact Dr.some ⟨fun x hx=>hS.1 x<|TS hx,by have:=hS.2.1;simp;omega,fun x hx=>hS.2.2 x<|TS hx⟩ h0 h1
 .refine MC b hb N hN hS k0 k1 fun x hx=>?_;refine Dr.bind (ME b hb (P:=fun o=>-9223372036854775808<=o/\o<=9223372036854775807) _ i h h0 h1 (by show 0 < 4;decide) fun o ho=>by
   simp only [fu,EF,vW] at ho;rcases ho with rfl|rfl|rfl|rfl<;>omega) fun o i h ho h0 h1=>?_
  have hxs:=hS.1 x hx;have hxi:=hS.2.2 x hx;dsimp only;obtain ⟨t,rfl,ht⟩:=hL;have hkl:=IB t 0 x hx;have:=ht.1;rw [lI bI,aD];refine IC b hb N hN hS k0 k1 ?_ fun L' hL' _=>fin L' i h hL' h0 h1;exact ⟨⟨bI,hxs.2.1,hxs.2.2⟩,fun k hk=>by
   rcases iw.1 hk with h|h
   .exact hxi k h
   .rw [ni.1 h];exact ho⟩
 .obtain ⟨k,rfl⟩:=lJ k0;have hkn:k < L.length:=ah;have ek:ix L (k:Int)=some L[k]:=bH hkn;simp only [ek,aD];refine Dr.cond (fun hc=>?_) fun _=>fin L i h hS h0 h1;have h00:0 < L[k].Kids.length:=by have:=mq hc;omega
  refine Dr.bind (tF b hb _ i h h0 h1) fun o i h ho h0 h1=>?_;rw [wrap64 ah ah] at ho;have hxs:=hS.1 _ (jy hkn);have hxi:=hS.2.2 _ (jy hkn);have e1:ix L[k].Kids 0=some L[k].Kids[0]:=bH (i:=0) h00;have e2:∀ v,upd L[k].Kids 0 v=some (L[k].Kids.set 0 v):=fun v=>TK (i:=0) h00;dsimp only;rw [e1,aD,e2,aD];refine IC b hb N hN hS ah k1 ?_ fun L' hL' _=>fin L' i h hL' h0 h1;exact ⟨⟨by show (List.set _ _ _).length<=_;rw [TQ];exact hxs.1,hxs.2.1,hxs.2.2⟩,fun k' hk'=>by
   rcases TR hk' with h|h
   .exact hxi k' h
   .rw [h];obtain ⟨ho1,ho2⟩:=ho;rw [wrap64 ah ah];omega⟩
 .rw [lI ah,aD];exact Dr.some ⟨fun x hx=>by
   rcases iw.1 hx with h|h<;>exact hS.1 x h,by rw [iZ];omega,fun x hx=>by
   rcases iw.1 hx with h|h<;>exact hS.2.2 x h⟩ h0 h1
theorem agk (i h:Int) (h0:0<=i) (h1:i<=(b.length:Int)):Dr b uQ (KG N b i h):=by
 unfold KG;refine Dr.bind (YT b hb N hN i h h0 h1) fun L i h hL h0 h1=>?_;obtain ⟨hS,hl1,hl2⟩:=hL.Qa;dsimp only;refine Dr.bind (tF b hb _ i h h0 h1) fun k i h hk h0 h1=>?_;have k0:=hk.1;have k1:k < (L.length:Int):=ah;dsimp only;refine Dr.bind (tF b hb _ i h h0 h1) fun r i h hr h0 h1=>?_;dsimp only;have fin:∀ (L':List aB) (i h:Int),uQ L'->0<=i->i<=(b.length:Int)->Dr b uQ (Ba N b (L',i,h)):=fun L' i h hL' h0 h1=>Dr.some hL' h0 h1;refine Dr.cond (fun _=>?_) fun _=>Dr.cond (fun _=>?_) fun _=>Dr.cond (fun _=>?_) fun _=>Dr.cond (fun _=>?_) fun _=>Dr.cond (fun _=>ED<|agj b hb N hN i h h0 h1) fun _=>fin L i h hS h0 h1
 .refine Dr.bind (tF b hb _ i h h0 h1) fun o i h _ h0 h1=>MC b hb N hN hS k0 k1 fun x hx=>?_;refine IC b hb N hN hS k0 k1 ?_ fun L' hL' _=>fin L' i h hL' h0 h1;exact ⟨hS.1 x hx,hS.2.2 x hx⟩
 .refine Dr.bind (ME b hb (P:=fun _=>True) _ i h h0 h1 aI fun _ _=>trivial) fun o i h _ h0 h1=>MC b hb N hN hS k0 k1 fun x hx=>?_;refine IC b hb N hN hS k0 k1 ?_ fun L' hL' _=>fin L' i h hL' h0 h1;exact ⟨hS.1 x hx,hS.2.2 x hx⟩
 .refine Dr.bind (MF b hb 18 _ i h h0 h1 aI aI) fun o i h ho h0 h1=>MC b hb N hN hS k0 k1 fun x hx=>?_;refine IC b hb N hN hS k0 k1 ?_ fun L' hL' _=>fin L' i h hL' h0 h1;exact ⟨⟨(hS.1 x hx).1,ho,(hS.1 x hx).2.2⟩,hS.2.2 x hx⟩
 .refine Dr.bind (MF b hb 18 _ i h h0 h1 aI aI) fun o i h ho h0 h1=>MC b hb N hN hS k0 k1 fun x hx=>?_;refine IC b hb N hN hS k0 k1 ?_ fun L' hL' _=>fin L' i h hL' h0 h1;exact ⟨⟨(hS.1 x hx).1,(hS.1 x hx).2.1,ho⟩,hS.2.2 x hx⟩
end
section
set_option linter.unusedSectionVars false
variable (b:List UInt8) (hb:b.length<=1048576) (N:Nat) (hN:18446744073709551657+2097152<=N)
include hb hN
theorem agl (i h:Int) (h0:0<=i) (h1:i<=(b.length:Int)):Dr b uQ (KI N b i h):=by
 unfold KI;refine Dr.bind (YV b hb 10 i h h0 h1) fun r i h _ h0 h1=>?_;dsimp only;refine Dr.cond (fun _=>ED<|agk b hb N hN i h h0 h1) fun _=>ED ((YS b hb N hN i h h0 h1).imp ?_);rintro L ⟨t,rfl,ht⟩;exact (Iz.Qa ⟨t,rfl,ht.mono ah ah⟩).1
omit hN in
end
def EvN (n:aB):Prop:=n.Text.length<=18/\(n.Kind=11->n.Kids.length=1)/\(n.Kind=12->n.Kids.length=2)/\(n.Kind=14->n.Kids.length=3)
def EG (u:aC):Prop:=u.text.length<=18/\(u.kind=11->u.kids.length=1)/\(u.kind=12->u.kids.length=2)/\(u.kind=14->u.kids.length=3)
def agn (N:Nat) (n:aB) (h:qK N n=some true) (ht:n.Text.length<=18):EvN n:=by
 obtain ⟨lo,hi,h1,_,h3,h4⟩:=agp N n h;obtain ⟨k,o,x,y,ks⟩:=n;refine ⟨ht,fun e=>?_,fun e=>?_,fun e=>?_⟩<;>(have e:k=_:=e;subst e;cases h1;dsimp only at h3 h4 ⊢;omega)
def YW (N:Nat) (a:List aB) (h:∀ x,x∈a->IE N a x) (ht:∀ x,x∈a->x.Text.length<=18) (t:aC) (s i:Nat) (hT:TA a t s i):EG t:=by
 obtain ⟨n,hn,e1,e2,e3,e4,hka,hkl⟩:=hT.node;have hm:=jA hn;obtain ⟨a1,a2,a3,a4⟩:=agn N n (h n hm).1 (ht n hm);unfold EG;rw [e1,e3,hkl];exact ⟨a1,a2,a3,a4⟩
def agq (N:Nat) (env:List fE) (x:List UInt8) (he:env.length<=10) (hN:20 < N):∃ v,PU N env x=some v:=by
 have l:∀ (n i:Nat),env.length - i < n->i<=env.length->∃ v,Ey N n (x,env,(i:Int))=some v:=by
  intro n;induction n with
  | zero=>intro i h;omega
  | succ n ih=>
   intro i hn hi;rw [Ey];by_cases hlt:i < env.length
   .rw [iQ hlt,aU,bH hlt,aD];cases (env[i].Name==x) with
    | true=>exact ⟨_,rfl⟩
    | false=>
     rw [aM,wrap64 ah ah,show (i:Int)+1=((i+1:Nat):Int) by omega];exact ih (i+1) ah ah
   .rw [jm hlt,aM];exact ⟨_,rfl⟩
 exact l N 0 ah ah
def TT (b:Bool):oN b=some (bif b then 1 else 0):=by
 unfold oN;cases b<;>rfl
def xW (v:Int):∃ r,nT v=some r:=by
 unfold nT;dsimp only;rw [BL,aD];cases (decide (v>= -1000000000)&&decide (v<=1000000000))<;>exact ⟨_,rfl⟩
def YX (o a b:Int):∃ r,xR o a b=some r:=by
 unfold xR;simp only [TT,aD];have cd:∀ (c:Bool) (x y:Option (Int×Bool)),(∃ r,x=some r)->(∃ r,y=some r)->∃ r,(bif c then x else y)=some r:=fun c x y h1 h2=>by cases c<;>assumption
 refine cd _ _ _ (xW _) (cd _ _ _ (xW _)<|cd _ _ _ (xW _)<|cd _ _ _ ?_ (cd _ _ _ (xW _)<|cd _ _ _ (xW _)<|cd _ _ _ (xW _)<|cd _ _ _ (xW _)<|cd _ _ _ (xW _)<|cd _ _ _ (xW _) ⟨_,rfl⟩));unfold xC;cases (b==0) with
 | true=>exact ⟨_,rfl⟩
 | false=>exact xW _
def YZ (a b:Int):(b==a)=(a==b):=by
 by_cases h:a=b
 .subst h;rfl
 .have h':b≠a:=fun e=>h e.symm;rw [IG.2 h,IG.2 h']
def agr {o:Int} (h:bJ o≠0) (a b:Int):xR (bJ o) b a=xR o a b:=by
 rcases MG h with ⟨e,e2⟩|⟨e,e2⟩|⟨e,e2⟩|⟨e,e2⟩|⟨e,e2⟩|⟨e,e2⟩|⟨e,e2⟩|⟨e,e2⟩<;>rw [e2]<;>subst e
 .rfl
 .rfl
 .rfl
 .rfl
 .show Option.bind (oN<|b==a) _=Option.bind (oN<|a==b) _;rw [YZ]
 .show Option.bind (oN<|b !=a) _=Option.bind (oN<|a !=b) _;unfold bne;rw [YZ]
 .show nT (IntKind.wrap .i64<|b+a)=nT (IntKind.wrap .i64<|a+b);rw [Int.add_comm]
 .show nT (IntKind.wrap .i64<|b*a)=nT (IntKind.wrap .i64<|a*b);rw [II]
def ags (x:List UInt8) (hx:x.length<=18):∃ r,Mj x=some r:=by
 unfold Mj Tw PV;rw [bC hx,aD];cases (BM x).2 with
 | false=>exact ⟨_,rfl⟩
 | true=>
  simp only [jK,aM,aD];cases decide ((BM x).1 < 0)<;>exact ⟨_,rfl⟩
def TU {m:Nat} {env:List fE} {t:aC} {a b:aC} {ra rb:Int×Bool} (hk:t.kids=[a,b]) (ha:(mo m).iP a env=some ra) (hb:(mo m).iP b env=some rb):
  (mo<|m+1).zD t env=bif (!ra.2) then some (0,false) else bif (t.op==45||t.op==44) then bif ((ra.1 !=0)==(t.op==44)) then some ((bif (ra.1 !=0) then 1 else 0),true) else bif (!rb.2) then some (0,false) else some ((bif (rb.1 !=0) then 1 else 0),true) else bif (!rb.2) then some (0,false) else xR t.op ra.1 rb.1:=by
 have i0:ix t.kids 0=some a:=by rw [hk];rfl
 have i1:ix t.kids 1=some b:=by rw [hk];rfl
 have be:∀ x:Option (Int×Bool),(Option.bind x fun r=>some (r.1,r.2))=x:=fun x=>by cases x<;>rfl
 show Mk m (mo m) t env=_;unfold Mk;rw [i0,i1];simp only [aD,ha,hb,TT,be];cases (!ra.2) with
 | true=>rfl
 | false=>
  cases (t.op==45) with
  | true=>rfl
  | false=>
   cases (t.op==44) with
   | true=>rfl
   | false=>rfl
def Za (env:List fE) (he:env.length<=10):∀ t:aC,allT EG t->∀ M,100+2*eu t<=M->∃ r,(mo M).iP t env=some r:=by
 intro t;induction t using BN with
 | h t ih=>
  intro h M hM;obtain ⟨hx,h11,h12,jB⟩:=TV h;have hk:=BO h;have hd:=Zb t;obtain ⟨m,rfl⟩:∃ m,M=m+2:=⟨M - 2,ah⟩
  have kid:∀ u,u∈t.kids->∀ m',m<=m'->∃ r,(mo m').iP u env=some r:=fun u hu m' hm'=>ih u hu (hk u hu) m' (by have:=Zc hu;omega);have be:∀ x:Option (Int×Bool),(Option.bind x fun r=>some (r.1,r.2))=x:=fun x=>by cases x<;>rfl
  show ∃ r,Ml (m+1) (mo<|m+1) t env=some r;unfold Ml;cases e1:(t.kind==1) with
  | true=>
   obtain ⟨v,hv⟩:=agq (m+1) env t.text he ah;rw [aU,hv,aD,BL,aD];cases (decide (v>= -1000000000)&&decide (v<=1000000000))<;>exact ⟨_,rfl⟩
  | false=>
   rw [aM];cases e2:(t.kind==2) with
   | true=>
    obtain ⟨v,hv⟩:=ags t.text hx;rw [aU,hv,aD];exact ⟨_,rfl⟩
   | false=>
    rw [aM];cases e3:(t.kind==11) with
    | true=>
     have hl:=h11 (eq_of_beq e3);have hlt:0 < t.kids.length:=ah;have i0:ix t.kids 0=some t.kids[0]:=bH (i:=0) hlt;obtain ⟨r,hr⟩:=kid _ (jy hlt) (m+1) ah;rw [aU,i0,aD,hr,aD];simp only [TT,aD];unfold Im;cases (!r.2) with
     | true=>exact ⟨_,rfl⟩
     | false=>
      cases (t.op==56) with
      | true=>exact ⟨_,rfl⟩
      | false=>cases (t.op==61)<;>exact ⟨_,rfl⟩
    | false=>
     rw [aM];cases e4:(t.kind==14) with
     | true=>
      have hl:=jB (eq_of_beq e4);have i0:ix t.kids 0=some (t.kids[0]' ah):=bH (i:=0) ah;have i1:ix t.kids 1=some (t.kids[1]' ah):=bH (i:=1) ah;have i2:ix t.kids 2=some (t.kids[2]' ah):=bH (i:=2) ah;obtain ⟨r0,hr0⟩:=kid _ (jy (by omega:0 < t.kids.length)) (m+1) ah;obtain ⟨r1,hr1⟩:=kid _ (jy (by omega:1 < t.kids.length)) (m+1) ah;obtain ⟨r2,hr2⟩:=kid _ (jy (by omega:2 < t.kids.length)) (m+1) ah;rw [aU,i0,i1,i2];simp only [aD,hr0,hr1,hr2];cases (!r0.2) with
      | true=>exact ⟨_,rfl⟩
      | false=>cases (r0.1 !=0)<;>exact ⟨_,rfl⟩
     | false=>
      rw [aM];cases e5:(t.kind==12) with
      | true=>
       have hl:=h12 (eq_of_beq e5);obtain ⟨a,b,hab⟩:∃ a b,t.kids=[a,b]:=by
        match h:t.kids,hl with
        | [a,b],_=>exact ⟨a,b,rfl⟩
       obtain ⟨ra,ha⟩:=kid a (by rw [hab];simp) m ah;obtain ⟨rb,hb⟩:=kid b (by rw [hab];simp) m ah;rw [aU,be,TU hab ha hb];obtain ⟨rc,hc⟩:=YX t.op ra.1 rb.1;rw [hc];cases (!ra.2) with
       | true=>exact ⟨_,rfl⟩
       | false=>
        cases (t.op==45||t.op==44) with
        | true=>
         cases ((ra.1 !=0)==(t.op==44)) with
         | true=>exact ⟨_,rfl⟩
         | false=>cases (!rb.2)<;>exact ⟨_,rfl⟩
        | false=>cases (!rb.2)<;>exact ⟨_,rfl⟩
      | false=>exact ⟨_,rfl⟩
def Zd (env:List fE) (he:env.length<=10) (o:Int) (a b:aC) (ha:allT EG a) (hb:allT EG b) (hf:bJ o≠0) (M:Nat) (hMa:102+2*eu a<=M) (hMb:102+2*eu b<=M):∃ r,(mo M).iP ⟨12,o,[],[],[a,b]⟩ env=some r/\(mo M).iP ⟨12,bJ o,[],[],[b,a]⟩ env=some r:=by
 obtain ⟨m,rfl⟩:∃ m,M=m+2:=⟨M - 2,ah⟩
 obtain ⟨ra,ea⟩:=Za env he a ha m ah;obtain ⟨rb,eb⟩:=Za env he b hb m ah;have be:∀ x:Option (Int×Bool),(Option.bind x fun r=>some (r.1,r.2))=x:=fun x=>by cases x<;>rfl
 have ops:(o==45||o==44)=false/\(bJ o==45||bJ o==44)=false:=by
  rcases MG hf with ⟨e,e2⟩|⟨e,e2⟩|⟨e,e2⟩|⟨e,e2⟩|⟨e,e2⟩|⟨e,e2⟩|⟨e,e2⟩|⟨e,e2⟩<;>rw [e2]<;>subst e<;>exact ⟨rfl,rfl⟩
 have e1:(mo<|m+2).iP ⟨12,o,[],[],[a,b]⟩ env=bif (!ra.2) then some (0,false) else bif (!rb.2) then some (0,false) else xR o ra.1 rb.1:=by
  show Option.bind ((mo<|m+1).zD ⟨12,o,[],[],[a,b]⟩ env) (fun r=>some (r.1,r.2))=_;rw [be,TU (t:=⟨12,o,[],[],[a,b]⟩) rfl ea eb];dsimp only;rw [ops.1,aM]
 have e2:(mo<|m+2).iP ⟨12,bJ o,[],[],[b,a]⟩ env=bif (!rb.2) then some (0,false) else bif (!ra.2) then some (0,false) else xR (bJ o) rb.1 ra.1:=by
  show Option.bind ((mo<|m+1).zD ⟨12,bJ o,[],[],[b,a]⟩ env) (fun r=>some (r.1,r.2))=_;rw [be,TU (t:=⟨12,bJ o,[],[],[b,a]⟩) rfl eb ea];dsimp only;rw [ops.2,aM]
 rw [e1,e2,agr hf];obtain ⟨rc,hc⟩:=YX o ra.1 rb.1;rw [hc];cases (!ra.2)<;>cases (!rb.2)<;>exact ⟨_,rfl,rfl⟩
def Qb (b:List UInt8) (i:Nat):∃ v,xQ b (i:Int)=some v:=by
 unfold xQ;by_cases hlt:i < b.length
 .rw [iQ hlt,aU,bH hlt];exact ⟨_,rfl⟩
 .rw [jm hlt,aM];exact ⟨_,rfl⟩
def Ze (x:List UInt8):OL x=some (decide<|(x.length:Int) > 1048576):=rfl
def xX:Nat->Nat
 | 0=>1
 | d+1=>3*xX d+1
def agt {k o:Int} {x:List UInt8} (hx:x.length<=18):Gd 1 1 ⟨k,o,x,[],[]⟩:=
 Gd.mk hx (by show ([]:List UInt8).length<=18;simp) (by rw [aJ];omega) (by rw [dz];omega) fun t h=>by cases h
def Zf {m d:Nat} {k o:Int} {ts:List aC} (hm:∀ t,t∈ts->Gd m d t) (hs:aJ ts<=3*m):Gd (3*m+1) (d+1) ⟨k,o,[],[],ts⟩:=by
 refine Gd.mk (by show ([]:List UInt8).length<=18;simp) (by show ([]:List UInt8).length<=18;simp) ah ?_ fun t h=>(hm t h).2.2;have:∀ ts:List aC,(∀ t,t∈ts->Gd m d t)->dz ts<=d:=by
  intro ts;induction ts with
  | nil=>intro _;rw [dz];omega
  | cons u ts ih=>
   intro h;have h1:=(h u aF).2.1;have h2:=ih fun v hv=>h v (by simp [hv]);rw [dz];omega
 have:=this ts hm;omega
section
set_option linter.unusedSectionVars false
variable (b:List UInt8) (hb:b.length<=1048576)
include hb
theorem TW {N:Nat} (hN:1048577 < N) {m d:Nat} (hm:m<=1000) (k o:Int) (ts:List aC) (hts:∀ t,t∈ts->Gd m d t) (hs:aJ ts<=3*m) (Ls:List (List aB)) (hL:Ls=ts.map (aP 0)) (i h:Int) (h0:0<=i) (h1:i<=(b.length:Int)):
  Dr b (fun L=>∃ t,L=aP 0 t/\Gd (3*m+1) (d+1) t) ((dQ N (⟨k,o,[],[],[]⟩:aB) Ls).bind fun r=>some (r,i,h)):=by
 rw [hL,MH N ⟨k,o,[],[],[]⟩ ts hN ah,aD];exact Dr.some ⟨_,rfl,Zf hts hs⟩ h0 h1
theorem Zg:∀ (d:Nat),d<=2->∀ (M:Nat),2000000+d<=M->∀ i h:Int,0<=i->i<=(b.length:Int)->Dr b (fun L=>∃ t,L=aP 0 t/\Gd (xX d) (d+1) t) ((zh M).jS (d:Int) b i h):=by
 intro d;have leaf:∀ (d:Nat) (y:Int),y=0\/y=1\/y=2->∀ (m:Nat) (i h:Int),0<=i->i<=(b.length:Int)->Dr b (fun L=>∃ t,L=aP 0 t/\Gd (xX d) (d+1) t) (GV m (zh m) b ((d:Int),y,i,h)):=fun d y hy m i h h0 h1=>by
  have hq:1<=xX d:=by cases d<;>simp [xX]
  have one:∀ (k:Int) (x:List UInt8),x.length<=18->∃ t,[(⟨k,0,x,[],[]⟩:aB)]=aP 0 t/\Gd (xX d) (d+1) t:=fun k x hx=>
   ⟨⟨k,0,x,[],[]⟩,rfl,(agt hx).mono hq ah⟩
  rcases hy with rfl|rfl|rfl
  .exact Dr.bind (MF b hb 18 _ i h h0 h1 aI aI) fun x i h hx h0 h1=>Dr.some (one 1 x hx) h0 h1
  .exact Dr.bind (MF b hb 18 _ i h h0 h1 aI aI) fun x i h hx h0 h1=>Dr.some (one 2 x hx) h0 h1
  .exact Dr.bind (MF b hb 18 _ i h h0 h1 aI aI) fun x i h hx h0 h1=>Dr.some (one 2 x hx) h0 h1
 induction d with
 | zero=>
  intro _ M hM i h h0 h1;obtain ⟨m,rfl⟩:∃ m,M=m+1:=⟨M - 1,ah⟩
  show Dr b _ (DF m (zh m) ((0:Nat):Int) b i h);unfold DF;refine Dr.bind (tF b hb 10 i h h0 h1) fun r i h _ h0 h1=>?_;dsimp only;rw [lH (show (((0:Nat):Int))<=0 by omega),aU];refine Dr.bind (tF b hb 3 i h h0 h1) fun r i h hr h0 h1=>?_;exact leaf 0 r ah m i h h0 h1
 | succ d ih=>
  intro hd M hM i h h0 h1;obtain ⟨m,rfl⟩:∃ m,M=m+1:=⟨M - 1,ah⟩
  have rcv:∀ i h:Int,0<=i->i<=(b.length:Int)->Dr b (fun L=>∃ t,L=aP 0 t/\Gd (xX d) (d+1) t) ((zh m).jS (IntKind.wrap .i64<|((d+1:Nat):Int) - 1) b i h):=fun i h h0 h1=>by
   rw [wrap64 ah ah,show ((d+1:Nat):Int) - 1=(d:Int) by omega];exact ih ah m ah i h h0 h1
  have hq:xX d<=1000:=by
   have:d=0\/d=1:=ah;rcases this with rfl|rfl<;>decide
  show Dr b _ (DF m (zh m) ((d+1:Nat):Int) b i h);unfold DF;refine Dr.bind (tF b hb 10 i h h0 h1) fun r i h hr h0 h1=>?_;dsimp only;rw [uP (show¬(((d+1:Nat):Int))<=0 by omega),aM];by_cases h2:r<=2
  .exact leaf (d+1) r ah m i h h0 h1
  .have f0:(r==0)=false:=by rw [IG];omega
   have f1:(r==1)=false:=by rw [IG];omega
   have f2:(r==2)=false:=by rw [IG];omega
   unfold GV;dsimp only;rw [f0,f1,f2,aM,aM];unfold KJ;dsimp only;rw [aM];refine Dr.cond (fun _=>?_) fun _=>Dr.cond (fun _=>?_) fun _=>?_
   .refine Dr.bind (ME b hb (P:=fun _=>True) _ i h h0 h1 aI fun _ _=>trivial) fun o i h _ h0 h1=>Dr.bind (rcv i h h0 h1) fun L i h hL h0 h1=>?_;obtain ⟨t,rfl,ht⟩:=hL;exact TW b hb ah hq 11 o [t] (fun u hu=>by rw [ni.1 hu];exact ht) (by have:=ht.1;rw [aJ,aJ];omega) _ rfl i h h0 h1
   .refine Dr.bind (rcv i h h0 h1) fun L i h hL h0 h1=>Dr.bind (rcv i h h0 h1) fun L2 i h hL2 h0 h1=>Dr.bind (rcv i h h0 h1) fun L3 i h hL3 h0 h1=>?_;obtain ⟨t,rfl,ht⟩:=hL;obtain ⟨t2,rfl,ht2⟩:=hL2;obtain ⟨t3,rfl,ht3⟩:=hL3;refine TW b hb ah hq 14 0 [t,t2,t3] (fun u hu=>?_) (by have:=ht.1;have:=ht2.1;have:=ht3.1;rw [aJ,aJ,aJ,aJ];omega) _ rfl i h h0 h1;simp only [fu,List.mem_nil_iff,vW] at hu;rcases hu with rfl|rfl|rfl<;>assumption
   .refine Dr.bind (ME b hb (P:=fun _=>True) _ i h h0 h1 aI fun _ _=>trivial) fun o i h _ h0 h1=>Dr.bind (rcv i h h0 h1) fun L i h hL h0 h1=>Dr.bind (rcv i h h0 h1) fun L2 i h hL2 h0 h1=>?_;obtain ⟨t,rfl,ht⟩:=hL;obtain ⟨t2,rfl,ht2⟩:=hL2;refine TW b hb ah hq 12 o [t,t2] (fun u hu=>?_) (by have:=ht.1;have:=ht2.1;rw [aJ,aJ,aJ];omega) _ rfl i h h0 h1;simp only [fu,List.mem_nil_iff,vW] at hu;rcases hu with rfl|rfl<;>assumption
end
def Zh (b:List UInt8) (hb:b.length<=1048576) (N:Nat) (hN:18446744073709551657+2097152<=N):∃ L:List aB,KM N b=some L/\uQ L:=by
 obtain ⟨h,e1⟩:=afU b hb N ah;unfold KM;rw [e1,aD];dsimp only;obtain ⟨c,i1,h1,e2,_,a0,a1⟩:=YV b hb 5 0 h ah ah;rw [e2,aD];dsimp only;cases c with
 | true=>
  obtain ⟨L,i2,h2,e3,hL,_,_⟩:=agl b hb N ah i1 h1 a0 a1;rw [aU,e3,aD];exact ⟨L,rfl,hL⟩
 | false=>
  obtain ⟨o,i2,h2,e3,_,b0,b1⟩:=agu b hb i1 h1 a0 a1;obtain ⟨L1,i3,h3,e4,⟨t1,hl1,g1⟩,c0,c1⟩:=Zg b hb 2 ah N ah i2 h2 b0 b1;obtain ⟨L2,i4,h4,e5,⟨t2,hl2,g2⟩,d0,d1⟩:=Zg b hb 2 ah N ah i3 h3 c0 c1;have e4:jS N 2 b i2 h2=some (L1,i3,h3):=e4;have e5:jS N 2 b i3 h3=some (L2,i4,h4):=e5;rw [aM,e3,aD];dsimp only;rw [e4,aD];dsimp only;rw [e5,aD];dsimp only;have hq:xX 2=13:=rfl;have s1:=g1.1;have s2:=g2.1;have hm:=MH N ⟨12,o,[],[],[]⟩ [t1,t2] ah (by rw [aJ,aJ,aJ];omega);simp only [nk,IJ] at hm;rw [hl1,hl2,hm,aD];refine ⟨_,rfl,?_⟩;have hg:Gd 1500 12 ⟨12,o,[],[],[t1,t2]⟩:=by
   have:=Zf (k:=12) (o:=o) (m:=xX 2) (d:=2+1) (ts:=[t1,t2]) (fun u hu=>by
    simp only [fu,List.mem_nil_iff,vW] at hu;rcases hu with rfl|rfl<;>assumption) (by rw [aJ,aJ,aJ];omega)
   exact this.mono ah ah
  exact (Iz.Qa ⟨_,rfl,hg⟩).1
def plain (b:List UInt8) (kb:(∀ z,z∈b->True)/\b.length<=maxLen):∃ N,Io N b=some true:=by
 refine ⟨18446744073709551657+3000000,?_⟩;obtain ⟨N,hN⟩:∃ N,N=18446744073709551657+3000000:=⟨_,rfl⟩
 rw [<- hN];unfold Io;rw [Ze,aD];by_cases hb:b.length<=1048576
 .have hd:decide ((b.length:Int) > 1048576)=false:=bI;rw [hd,aM];obtain ⟨L,e1,hL⟩:=Zh b hb N ah;have hS:=Zi hL.1;have hk:∀ x,x∈L->x.Kids.length<=1048576:=fun x hx=>by have:=hL.1 x hx;omega
  have hi:∀ x,x∈L->Qc x:=fun x hx=>hL.2.2 x hx;obtain ⟨⟨X,is⟩,f1,f2,f3,f4⟩:=Zj N L ah (by have:=hL.2.1;omega) hS hi;rw [e1,aD,f2,aD,f1,aD];have TY:(is==is)=true:=by cases is<;>rfl
  dsimp only;rw [TY];simp only [jK,aM];cases is with
  | false=>
   have e:=f3 rfl;dsimp only at e;subst e;rw [EA,aU,Qd N X X ah (by have:=hL.2.1;omega) hk,lH rfl];rfl
  | true=>
   obtain ⟨hok,o,t0,t1,vY,hf,hsz,hX⟩:=f4 rfl;dsimp only at hX;subst hX;simp only [jK,aM,aD];rw [vY] at hS hok hi hk;have hsm:=hL.1;have hi2:=hL.2.1;rw [vY] at hsm;obtain ⟨htx,hok'⟩:=Zk N ah o t0 t1 hS hsz hok hf;have hsz':bA ⟨12,bJ o,[],[],[t1,t0]⟩<=400:=by
    rw [bA,aJ,aJ,aJ] at hsz ⊢;omega
   have MI:bJ (bJ o)=o/\bJ (bJ o)≠0:=by
    rcases MG hf with ⟨e,e2⟩|⟨e,e2⟩|⟨e,e2⟩|⟨e,e2⟩|⟨e,e2⟩|⟨e,e2⟩|⟨e,e2⟩|⟨e,e2⟩<;>rw [e2]<;>subst e<;>exact ⟨rfl,aI⟩
   have h2:=Zl N ah (bJ o) t1 t0 hsz' hok' MI.2;rw [MI.1] at h2;obtain ⟨v0,a0⟩:=Qb b 0;obtain ⟨v1,a1⟩:=Qb b 1;have a0:xQ b 0=some v0:=a0;have a1:xQ b 1=some v1:=a1;rw [h2,aD,a0,aD,a1,aD];have BP:rT N (aP 0 ⟨12,o,[],[],[t0,t1]⟩)=some true:=by
    unfold uN at hok;obtain ⟨y,h1,h2⟩:=jL.1 hok;obtain ⟨r,h3,h4⟩:=jL.1 h1;cases r with
    | true=>exact h3
    | false=>
     cases h4;cases h2
   have hsh:=Qe ⟨12,o,[],[],[t0,t1]⟩ hsz;have uS:=zF ⟨12,o,[],[],[t0,t1]⟩;have hn:=Ua N _ ah hsh BP;have hall:allT EG ⟨12,o,[],[],[t0,t1]⟩:=Qf (fun t s i h=>YW N _ hn (fun x hx=>(hsm x hx).2.1) t s i h) _ _ _ uS;have k0:=BO hall t0 aF;have k1:=BO hall t1 aF;have Uc:=Ud N _ ah hS hsh uS BP;rw [eu,dz,dz,dz] at Uc;generalize Ue:[(⟨[120],v0⟩:fE),(⟨[121],(IntKind.wrap .i64<|v1 - 99)⟩:fE)]=env;have hel:env.length<=10:=by rw [<- Ue];simp
   obtain ⟨r,r1,r2⟩:=Zd env hel o t0 t1 k0 k1 hf N ah ah;have hpos:=rW ⟨12,o,[],[],[t0,t1]⟩;have hpos':=rW ⟨12,bJ o,[],[],[t1,t0]⟩;have Uf:xM N (aP 0 ⟨12,o,[],[],[t0,t1]⟩)=some true:=by
    obtain ⟨c,c1,c2,_⟩:=Qg N (aP 0 ⟨12,o,[],[],[t0,t1]⟩) ah hS;rw [hok] at c1;cases c1;exact c2
   have be:∀ x:Option (Int×Bool),(Option.bind x fun r=>some (r.1,r.2))=x:=fun x=>by cases x<;>rfl
   have E1:uO N L env=some r:=by
    rw [vY];unfold uO;rw [Uf,EH N _ ah uS (by rw [gG];omega)<|by rw [gG];omega];simp only [aD,jK,aM,be];exact r1
   have E2:uO N (aP 0 ⟨12,bJ o,[],[],[t1,t0]⟩) env=some r:=by
    unfold uO;rw [hok',EH N _ ah (zF ⟨12,bJ o,[],[],[t1,t0]⟩) (by rw [gG];omega)<|by rw [gG];omega];simp only [aD,jK,aM,be];exact r2
   rw [E1,aD,E2,aD];dsimp only;have hlen:(aP 0 ⟨12,bJ o,[],[],[t1,t0]⟩).length=L.length:=by
    rw [vY,gG,gG,bA,aJ,aJ,aJ,bA,aJ,aJ,aJ];omega
   have hsame:BK N (aP 0 ⟨12,o,[],[],[t0,t1]⟩) L=some true:=by
    rw [vY,Qd N _ _ ah (by rw [gG];omega) hk,lH rfl]
   rw [hsame,hlen];simp
 .have hd:decide ((b.length:Int) > 1048576)=true:=bI;rw [hd];rfl
end Go.Proofs.Tryz
