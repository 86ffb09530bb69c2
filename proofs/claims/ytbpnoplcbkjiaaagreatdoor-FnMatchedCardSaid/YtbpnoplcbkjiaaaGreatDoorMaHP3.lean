/-
 Plain lemmas on the models, part 3.
-/
import Derived.Test.YtbpnoplcbkjiaaaGreatDoorMaHP2
namespace Go.Proofs.Tryz
open Go.Av
set_option maxRecDepth 100000
set_option linter.unusedSimpArgs false
set_option linter.unusedVariables false
def fq (k:Int):Bool:=decide (k≥1)&&decide (k≤15)
def isS (k:Int):Bool:=decide (k≥20)&&decide (k≤34)
def xE (k:Int):Bool:=k==1||(k==5||k==6)
theorem pF (k:Int):ji k=some (fq k):=by unfold ji;rw [Aa];rfl
theorem nQ (k:Int):qU k=some (fq k):=by unfold qU;rw [Dj];rfl
theorem alA (k:Int):Kt k=some (isS k):=by unfold Kt;rw [Aa];rfl
theorem alB (k:Int):zf k=some (isS k):=by unfold zf;rw [Dj];rfl
theorem Uy (k:Int):Gr k=some (xE k):=by
 unfold Gr xE
 cases (k==1)<;>cases (k==5)<;>rfl
theorem Uz (k:Int):FY k=some (xE k):=by
 unfold FY xE
 cases (k==1)<;>cases (k==5)<;>rfl
theorem alC {k:Int} (h:xE k=true):fq k=true:=by
 unfold xE at h
 simp only [Bool.or_eq_true,beq_iff_eq] at h
 rcases h with rfl | rfl | rfl<;>rfl
theorem alD (n:ak) (k:Nat) (kd:Int) (hf:FK n) (hk:k < n.Kids.length) (hl:n.Kids.length≤400):∃ b:Bool,iA n (k:Int) kd=some b∧kF n (k:Int) kd=some b:=by
 have hw:IntKind.wrap .i64 ((n.Kids.length:Int) - 1)=(n.Kids.length:Int) - 1:=wrap64 (by omega) (by omega)
 obtain ⟨f28,f29,f30,f31,f42,f43,_,_⟩:=hf
 obtain ⟨kind,op,text,other,kids⟩:=n
 simp only at hk hl hw f28 f29 f30 f31 f42 f43
 have hEL:=@alC kd
 rcases Decidable.em (kind=9) with rfl | h9
 ·refine ⟨xE kd,?_,?_⟩<;>simp only [iA,jN,kF,kE,Int.reduceBEq,cond_true,Uy,Uz,au]
 rcases Decidable.em (kind=10) with rfl | h10
 ·refine ⟨xE kd,?_,?_⟩<;>simp only [iA,jN,kF,kE,Int.reduceBEq,cond_true,cond_false,Uy,Uz,au]
 rcases Decidable.em (kind=15) with rfl | xD
 ·simp only [iA,jN,kF,kE,Int.reduceBEq,cond_true,cond_false,Uy,Uz,pF,nQ,au]
  generalize fq kd=e at*
  generalize xE kd=l at*
  by_cases h0:k=0
  ·subst h0
   have d1:decide (((0:Nat):Int) > 0)=false:=by simp
   have d2:(((0:Nat):Int)==0)=true:=by simp
   rw [d1,d2]
   cases e<;>cases l<;>first | exact ⟨_,rfl,rfl⟩ | exact absurd (hEL rfl) (by simp)
  ·have d1:decide ((k:Int) > 0)=true:=by simp;omega
   have d2:((k:Int)==0)=false:=by simp;omega
   rw [d1,d2]
   cases e<;>exact ⟨_,rfl,rfl⟩
 rcases Decidable.em (kind=28) with rfl | Pw
 ·simp only [iA,jN,kF,jh,kE,mU,Int.reduceBEq,cond_true,cond_false,pF,nQ,au]
  by_cases h0:k=0
  ·subst h0
   have d1:decide (((0:Nat):Int) > 0)=false:=by simp
   have d2:(((0:Nat):Int)==0)=true:=by simp
   rw [d1,d2]
   cases fq kd<;>exact ⟨_,rfl,rfl⟩
  ·have d1:decide ((k:Int) > 0)=true:=by simp;omega
   have d2:((k:Int)==0)=false:=by simp;omega
   rw [d1,d2]
   exact ⟨_,rfl,rfl⟩
 rcases Decidable.em (kind=29) with rfl | Px
 ·have hlen:=f29 rfl
  simp only [iA,jN,kF,jh,kE,mU,Int.reduceBEq,cond_true,cond_false,pF,nQ,au]
  rcases (show k=0∨k=1 by omega) with rfl | rfl
  ·cases fq kd<;>exact ⟨_,rfl,rfl⟩
  ·exact ⟨_,rfl,rfl⟩
 rcases Decidable.em (kind=30) with rfl | Py
 ·have hlen:=f30 rfl
  simp only [iA,jN,kF,jh,kE,mU,Int.reduceBEq,cond_true,cond_false,pF,nQ,au]
  rcases (show k=0∨k=1 by omega) with rfl | rfl
  ·cases (kd==33)<;>exact ⟨_,rfl,rfl⟩
  ·exact ⟨_,rfl,rfl⟩
 rcases Decidable.em (kind=31) with rfl | h31
 ·have hlen:=f31 rfl
  simp only [iA,jN,kF,jh,kE,mU,Int.reduceBEq,cond_true,cond_false,pF,nQ,au,hw,hlen]
  rcases (show k=0∨k=1∨k=2∨k=3 by omega) with rfl | rfl | rfl | rfl
  ·cases fq kd<;>cases (kd==16)<;>exact ⟨_,rfl,rfl⟩
  ·cases fq kd<;>cases (kd==16)<;>exact ⟨_,rfl,rfl⟩
  ·cases fq kd<;>cases (kd==16)<;>exact ⟨_,rfl,rfl⟩
  ·exact ⟨_,rfl,rfl⟩
 rcases Decidable.em (kind=32) with rfl | h32
 ·simp only [iA,jN,oM,kF,jh,kE,mU,qb,Int.reduceBEq,cond_true,cond_false]
  exact ⟨_,rfl,rfl⟩
 rcases Decidable.em (kind=40) with rfl | Dt
 ·simp only [iA,jN,oM,kF,jh,kE,mU,qb,Int.reduceBEq,cond_true,cond_false]
  exact ⟨_,rfl,rfl⟩
 rcases Decidable.em (kind=41) with rfl | Du
 ·simp only [iA,jN,oM,kF,jh,kE,mU,qb,Int.reduceBEq,cond_true,cond_false]
  exact ⟨_,rfl,rfl⟩
 rcases Decidable.em (kind=33) with rfl | fJ
 ·simp only [iA,jN,oM,kF,jh,kE,mU,qb,Int.reduceBEq,cond_true,cond_false,alA,alB,au]
  exact ⟨_,rfl,rfl⟩
 rcases Decidable.em (kind=42) with rfl | Pz
 ·simp only [iA,jN,oM,kF,jh,kE,mU,qb,Int.reduceBEq,cond_true,cond_false,pF,nQ,au,hw]
  rcases f42 rfl with ⟨rfl,hlen⟩ | ⟨rfl,hlen⟩ | ⟨rfl,hlen⟩<;>rw [hlen]
  ·obtain rfl:k=0:=by omega
   cases fq kd<;>exact ⟨_,rfl,rfl⟩
  ·obtain rfl:k=0:=by omega
   cases (kd==33)<;>exact ⟨_,rfl,rfl⟩
  ·rcases (show k=0∨k=1 by omega) with rfl | rfl
   ·cases fq kd<;>exact ⟨_,rfl,rfl⟩
   ·cases (kd==33)<;>exact ⟨_,rfl,rfl⟩
 rcases Decidable.em (kind=43) with rfl | h43
 ·simp only [iA,jN,oM,kF,jh,kE,mU,qb,Int.reduceBEq,cond_true,cond_false,pF,nQ,au,hw]
  rcases f43 rfl with ⟨rfl,hlen⟩ | ⟨rfl,hlen⟩<;>rw [hlen]
  ·rcases (show k=0∨k=1 by omega) with rfl | rfl
   ·cases fq kd<;>exact ⟨_,rfl,rfl⟩
   ·cases fq kd<;>exact ⟨_,rfl,rfl⟩
  ·rcases (show k=0∨k=1∨k=2 by omega) with rfl | rfl | rfl
   ·cases fq kd<;>exact ⟨_,rfl,rfl⟩
   ·cases fq kd<;>exact ⟨_,rfl,rfl⟩
   ·cases (kd==33)<;>exact ⟨_,rfl,rfl⟩
 rcases Decidable.em (kind=44) with rfl | gX
 ·simp only [iA,jN,oM,kF,jh,kE,mU,qb,Int.reduceBEq,cond_true,cond_false,au,hw]
  cases ((k:Int)==(kids.length:Int) - 1)<;>cases (kd==33)<;>exact ⟨_,rfl,rfl⟩
 rcases Decidable.em (kind=45) with rfl | h45
 ·simp only [iA,jN,oM,kF,jh,kE,mU,qb,Oq,Aa,Dj,Int.reduceBEq,cond_true,cond_false,au]
  cases (decide (kd≥40)&&decide (kd≤44))<;>exact ⟨_,rfl,rfl⟩
 have e:∀ k,kind≠k→(kind==k)=false:=fun k h=>by simpa using h
 refine ⟨fq kd,?_,?_⟩
 ·simp only [iA,jN,oM,e 9 h9,e 10 h10,e 15 xD,e 28 Pw,e 29 Px,e 30 Py,e 31 h31,e 32 h32,e 40 Dt,e 41 Du,e 33 fJ,e 42 Pz,e 43 h43,e 44 gX,e 45 h45,cond_false,pF,au]
 ·simp only [kF,jh,kE,mU,qb,e 9 h9,e 10 h10,e 15 xD,e 28 Pw,e 29 Px,e 30 Py,e 31 h31,e 32 h32,e 40 Dt,e 41 Du,e 33 fJ,e 42 Pz,e 43 h43,e 44 gX,e 45 h45,cond_false,nQ,au]
mutual
def aB:aj→Nat
 | ⟨_,_,_,_,ks⟩=>aD ks+1
def aD:List aj→Nat
 | []=>0
 | t::ts=>aB t+aD ts
end
mutual
def av (b:Nat):aj→List ak
 | ⟨k,o,t,p,ks⟩=>bK b ks++[⟨k,o,t,p,dI b ks⟩]
def bK (b:Nat):List aj→List ak
 | []=>[]
 | t::ts=>av b t++bK (b+aB t) ts
def dI (b:Nat):List aj→List Int
 | []=>[]
 | t::ts=>(((b+aB t:Nat):Int) - 1)::dI (b+aB t) ts
end
mutual
theorem aj.ind {P:aj→Prop} (h:∀ t:aj,(∀ k,k∈t.kids→P k)→P t):∀ t,P t
 | ⟨k,o,x,y,ks⟩=>h ⟨k,o,x,y,ks⟩ (aj.inds h ks)
theorem aj.inds {P:aj→Prop} (h:∀ t:aj,(∀ k,k∈t.kids→P k)→P t):∀ (ks:List aj) k,k∈ks→P k
 | [],k,hk=>by cases hk
 | t::ts,k,hk=>(List.mem_cons.1 hk).elim (fun e=>e ▸ aj.ind h t) (aj.inds h ts k)
end
mutual
theorem bD:∀ (t:aj) (b:Nat),(av b t).length=aB t
 | ⟨k,o,x,y,ks⟩,b=>by rw [av,aB,List.length_append,Dv ks b];rfl
theorem Dv:∀ (ts:List aj) (b:Nat),(bK b ts).length=aD ts
 | [],b=>by rw [bK,aD];rfl
 | t::ts,b=>by rw [bK,aD,List.length_append,bD t b,Dv ts _]
end
theorem fZ (t:aj):1≤aB t:=by cases t;rw [aB];omega
theorem kK (t:aj):aB t=aD t.kids+1:=by cases t;rw [aB]
theorem jO:∀ ts:List aj,ts.length≤aD ts
 | []=>by simp [aD]
 | t::ts=>by have:=fZ t;have:=jO ts;rw [aD];simp only [List.length_cons];omega
theorem jP:∀ {ts:List aj} {t:aj},t∈ts→aB t≤aD ts
 | t'::ts,t,h=>by
  rw [aD]
  rcases List.mem_cons.1 h with rfl | h
  ·omega
  ·have:=jP h;omega
theorem xC:∀ (a b:List aj),aD (a++b)=aD a+aD b
 | [],b=>by simp [aD]
 | t::a,b=>by rw [List.cons_append,aD,aD,xC a b];omega
theorem abY:∀ (a b:List aj) (s:Nat),bK s (a++b)=bK s a++bK (s+aD a) b
 | [],b,s=>by simp [bK,aD]
 | t::a,b,s=>by rw [List.cons_append,bK,bK,aD,abY a b,List.append_assoc,Nat.add_assoc]
theorem UA:∀ (a b:List aj) (s:Nat),dI s (a++b)=dI s a++dI (s+aD a) b
 | [],b,s=>by simp [dI,aD]
 | t::a,b,s=>by rw [List.cons_append,dI,dI,aD,UA a b,Nat.add_assoc];rfl
theorem uw:∀ (ts:List aj) (b:Nat),(dI b ts).length=ts.length
 | [],b=>rfl
 | t::ts,b=>by rw [dI,List.length_cons,List.length_cons,uw ts _]
def nR (d:Int) (x:ak):ak:=⟨x.Kind,x.Op,x.Text,x.Other,x.Kids.map (·+d)⟩
theorem abZ (x:ak):nR 0 x=x:=by
 unfold nR
 cases x
 simp
theorem alF (d e:Int) (x:ak):nR d (nR e x)=nR (e+d) x:=by
 unfold nR
 simp only [List.map_map,ak.mk.injEq,true_and]
 refine List.map_congr_left fun k _=>?_
 simp only [Function.comp_apply]
 omega
theorem alG (l:List ak):l.map (nR 0)=l:=(List.map_congr_left fun x _=>abZ x).trans (List.map_id l)
mutual
theorem Dl:∀ (t:aj) (b d:Nat),av (b+d) t=(av b t).map (nR d)
 | ⟨k,o,x,y,ks⟩,b,d=>by
  rw [av,av,List.map_append,acd ks b d,ace ks b d]
  rfl
theorem acd:∀ (ts:List aj) (b d:Nat),bK (b+d) ts=(bK b ts).map (nR d)
 | [],b,d=>rfl
 | t::ts,b,d=>by
  rw [bK,bK,List.map_append,Dl t b d,Nat.add_right_comm,acd ts _ d]
theorem ace:∀ (ts:List aj) (b d:Nat),dI (b+d) ts=(dI b ts).map (·+(d:Int))
 | [],b,d=>rfl
 | t::ts,b,d=>by
  rw [dI,dI,List.map_cons,Nat.add_right_comm,ace ts _ d]
  congr 1
  omega
end
theorem acf (t:aj) (b:Nat):(av b t).map (nR (-(b:Int)))=av 0 t:=by
 have:=Dl t 0 b
 rw [Nat.zero_add] at this
 rw [this,List.map_map]
 refine (List.map_congr_left fun x _=>?_).trans (List.map_id _)
 simp only [Function.comp_apply,alF]
 rw [show (b:Int)+ -(b:Int)=0 by omega,abZ]
 rfl
theorem acg:∀ (ts:List aj) (b:Nat) (k:Int),k∈dI b ts→0≤k∧k < b+aD ts
 | [],b,k,h=>by cases h
 | t::ts,b,k,h=>by
  rw [dI] at h
  rw [aD]
  have:=fZ t
  rcases List.mem_cons.1 h with rfl | h
  ·omega
  ·have:=acg ts _ k h;omega
mutual
theorem GN:∀ (t:aj) (b:Nat) (x:ak),x∈av b t→∀ k,k∈x.Kids→0≤k∧k < b+aB t
 | ⟨kd,o,x,y,ks⟩,b,n,h,k,hk=>by
  rw [av] at h
  rw [aB]
  rcases List.mem_append.1 h with h | h
  ·have:=ach ks b n h k hk;omega
  ·rw [List.mem_singleton.1 h] at hk
   have:=acg ks b k hk;omega
theorem ach:∀ (ts:List aj) (b:Nat) (x:ak),x∈bK b ts→∀ k,k∈x.Kids→0≤k∧k < b+aD ts
 | [],b,n,h,k,hk=>by rw [bK] at h;cases h
 | t::ts,b,n,h,k,hk=>by
  rw [bK] at h
  rw [aD]
  rcases List.mem_append.1 h with h | h
  ·have:=GN t b n h k hk;omega
  ·have:=ach ts _ n h k hk;omega
end
mutual
def TA (a:List ak):aj→Nat→Nat→Prop
 | ⟨kd,op,x,y,ts⟩,s,i=>∃ n,a[i]?=some n∧n.Kind=kd∧n.Op=op∧n.Text=x∧n.Other=y∧KA a ts n.Kids s i
def KA (a:List ak):List aj→List Int→Nat→Nat→Prop
 | [],ks,s,e=>ks=[]∧s=e
 | t::ts,ks,s,e=>∃ (k:Nat) (ks':List Int),ks=(k:Int)::ks'∧s≤k∧k < e∧TA a t s k∧KA a ts ks' (k+1) e
end
def part (a:List ak) (s e:Nat):List ak:=(a.drop s).take (e - s)
theorem aci {a:List ak} {s m e:Nat} (h1:s≤m) (h2:m≤e):part a s m++part a m e=part a s e:=by
 unfold part
 rw [show e - s=(m - s)+(e - m) by omega,List.take_add,List.drop_drop,show s+(m - s)=m by omega]
theorem alH {a:List ak} {i:Nat} {n:ak} (h:a[i]?=some n):part a i (i+1)=[n]:=by
 obtain ⟨hi,rfl⟩:=List.getElem?_eq_some_iff.1 h
 unfold part
 rw [show i+1 - i=1 by omega,List.drop_eq_getElem_cons hi]
 rfl
theorem alI (a:List ak) (i:Nat):part a i i=[]:=by
 unfold part
 simp
theorem abH (a:List ak):part a 0 a.length=a:=by
 unfold part
 simp
theorem TA.lt {a:List ak} {t:aj} {s i:Nat} (h:TA a t s i):i < a.length:=by
 cases t
 rw [TA] at h
 obtain ⟨n,hn,_⟩:=h
 exact (List.getElem?_eq_some_iff.1 hn).1
mutual
theorem TA.part {a:List ak}:∀ {t:aj} {s i:Nat},TA a t s i→s≤i∧aB t=i+1 - s∧part a s (i+1)=av s t
 | ⟨kd,op,x,y,ts⟩,s,i,h=>by
  rw [TA] at h
  obtain ⟨n,hn,rfl,rfl,rfl,rfl,hk⟩:=h
  obtain ⟨h1,h2,h3,h4⟩:=KA.part hk
  refine ⟨h1,by rw [aB];omega,?_⟩
  rw [av,← h3,← h4,← aci h1 (Nat.le_succ i),alH hn]
theorem KA.part {a:List ak}:∀ {ts:List aj} {ks:List Int} {s e:Nat},KA a ts ks s e→s≤e∧aD ts=e - s∧Go.Proofs.Tryz.part a s e=bK s ts∧ks=dI s ts
 | [],ks,s,e,h=>by
  rw [KA] at h
  obtain ⟨rfl,rfl⟩:=h
  exact ⟨Nat.le_refl _,by rw [aD];omega,by rw [alI,bK],by rw [dI]⟩
 | t::ts,ks,s,e,h=>by
  rw [KA] at h
  obtain ⟨k,ks',rfl,h1,h2,ht,hk⟩:=h
  obtain ⟨g1,g2,g3⟩:=TA.part ht
  obtain ⟨k1,k2,k3,k4⟩:=KA.part hk
  have e1:s+aB t=k+1:=by omega
  refine ⟨by omega,by rw [aD];omega,?_,?_⟩
  ·rw [bK,e1,← g3,← k3,aci (by omega) (by omega)]
  ·rw [dI,e1,← k4]
   congr 1
   omega
end
mutual
theorem TA.uniq {a:List ak}:∀ {t t':aj} {s s' i:Nat},TA a t s i→TA a t' s' i→t=t'∧s=s'
 | ⟨kd,op,x,y,ts⟩,⟨kd',op',x',y',ts'⟩,s,s',i,h,h'=>by
  rw [TA] at h h'
  obtain ⟨n,hn,rfl,rfl,rfl,rfl,hk⟩:=h
  obtain ⟨n',hn',rfl,rfl,rfl,rfl,hk'⟩:=h'
  rw [hn] at hn'
  cases hn'
  obtain ⟨rfl,rfl⟩:=KA.uniq hk hk'
  exact ⟨rfl,rfl⟩
theorem KA.uniq {a:List ak}:∀ {ts ts':List aj} {ks:List Int} {s s' e:Nat},KA a ts ks s e→KA a ts' ks s' e→ts=ts'∧s=s'
 | [],[],ks,s,s',e,h,h'=>by
  rw [KA] at h h'
  exact ⟨rfl,h.2.trans h'.2.symm⟩
 | [],t'::ts',ks,s,s',e,h,h'=>by
  simp only [KA] at h h'
  obtain ⟨k,ks',e1,_⟩:=h'
  rw [h.1] at e1;cases e1
 | t::ts,[],ks,s,s',e,h,h'=>by
  simp only [KA] at h h'
  obtain ⟨k,ks',e1,_⟩:=h
  rw [h'.1] at e1;cases e1
 | t::ts,t'::ts',ks,s,s',e,h,h'=>by
  rw [KA] at h h'
  obtain ⟨k,ks',rfl,_,_,ht,hk⟩:=h
  obtain ⟨k2,ks2,e1,_,_,ht',hk'⟩:=h'
  injection e1 with e1 e2
  have:k=k2:=by omega
  subst this
  subst e2
  obtain ⟨rfl,rfl⟩:=TA.uniq ht ht'
  obtain ⟨rfl,_⟩:=KA.uniq hk hk'
  exact ⟨rfl,rfl⟩
end
theorem KA.of {a:List ak} {r:List Int} {e:Nat} (ih:∀ k s:Nat,k < e→r[k]?=some (s:Int)→∃ t,TA a t s k):∀ (ks:List Int) (s:Nat),Go.Av.Kids r (s:Int) (e:Int) ks→∃ ts,KA a ts ks s e
  | [],s,h=>by
    simp only [Go.Av.Kids] at h
    exact ⟨[],by rw [KA];exact ⟨rfl,by omega⟩⟩
  | k::ks,s,h=>by
    obtain ⟨h0,h1,h2,h3,h4⟩:=h
    obtain ⟨kn,rfl⟩:=Int.eq_ofNat_of_zero_le (show 0≤k by omega)
    rw [Int.toNat_natCast] at h3
    obtain ⟨t,ht⟩:=ih kn s (by omega) h3
    obtain ⟨ts,hts⟩:=KA.of ih ks (kn+1) (by (have:((kn+1:Nat):Int)=(kn:Int)+1:=by omega);rw [this];exact h4)
    exact ⟨t::ts,by rw [KA];exact ⟨kn,ks,rfl,by omega,by omega,ht,hts⟩⟩
theorem TA.of {a:List ak} {r:List Int} (hl:Low r) (hk:∀ (i:Nat) (hi:i < a.length),∃ s,r[i]?=some s∧Go.Av.Kids r s (i:Int) a[i].Kids):∀ (i s:Nat),i < a.length→r[i]?=some (s:Int)→∃ t,TA a t s i:=by
 intro i
 induction i using Nat.strongRecOn with
 | ind i ih=>
  intro s hi hs
  obtain ⟨s',hs',hks⟩:=hk i hi
  rw [hs] at hs'
  cases hs'
  obtain ⟨ts,hts⟩:=KA.of (a:=a) (r:=r) (e:=i) (fun k s hk' hr=>ih k hk' s (by omega) hr) _ _ hks
  exact ⟨⟨a[i].Kind,a[i].Op,a[i].Text,a[i].Other,ts⟩,by rw [TA];exact ⟨a[i],List.getElem?_eq_getElem hi,rfl,rfl,rfl,rfl,hts⟩⟩
theorem fT {a:List ak} (h:fM a=true):1≤a.length∧a.length≤400∧∃ r,starts (gF a) []=some r∧r.length=a.length∧Low r∧
  (∀ i,i < a.length→∃ (t:aj) (s:Nat),r[i]?=some (s:Int)∧TA a t s i)∧∃ t,TA a t 0 (a.length - 1):=by
 unfold fM at h
 simp only [Bool.and_eq_true,decide_eq_true_eq] at h
 obtain ⟨⟨h1,h2⟩,h3⟩:=h
 cases hst:starts (gF a) [] with
 | none=>rw [hst] at h3;cases h3
 | some r=>
  rw [hst] at h3
  obtain ⟨⟨m,hm,hml⟩,hl,hk⟩:=RQ _ (fun j s h=>by simp at h) hst
  have hrl:r.length=a.length:=by rw [hm];simp [hml,gF]
  have hk':∀ (i:Nat) (hi:i < a.length),∃ s,r[i]?=some s∧Go.Av.Kids r s (i:Int) a[i].Kids:=fun i hi=>by
   obtain ⟨s,e1,e2⟩:=hk i a[i].Kids (by simp [gF,List.getElem?_eq_getElem hi])
   simp only [List.length_nil,Nat.zero_add] at e1 e2
   exact ⟨s,e1,e2⟩
  refine ⟨h1,h2,r,rfl,hrl,hl,fun i hi=>?_,?_⟩
  ·obtain ⟨s,hs,_⟩:=hk' i hi
   have:=(hl i s hs).1
   obtain ⟨sn,rfl⟩:=Int.eq_ofNat_of_zero_le this
   obtain ⟨t,ht⟩:=TA.of hl hk' i sn hi hs
   exact ⟨t,sn,hs,ht⟩
  ·have:r[a.length - 1]?=some ((0:Nat):Int):=by simpa [GK] using h3
   exact TA.of hl hk' (a.length - 1) 0 (by omega) this
theorem Lb {a:List ak} (h:fM a=true):∀ x,x∈a→x.Kids.length≤400∧∀ k,k∈x.Kids→0≤k∧k < a.length:=by
 obtain ⟨h1,h2,r,_,_,_,hT,t,ht⟩:=fT h
 obtain ⟨g1,g2,g3⟩:=ht.part
 rw [show a.length - 1+1=a.length by omega,abH] at g3
 intro x hx
 constructor
 ·obtain ⟨i,hi,rfl⟩:=List.getElem_of_mem hx
  obtain ⟨t',s,_,ht'⟩:=hT i hi
  cases t'
  rw [TA] at ht'
  obtain ⟨n,hn,_,_,_,_,hk⟩:=ht'
  rw [List.getElem?_eq_getElem hi] at hn
  cases hn
  obtain ⟨k1,k2,k3,k4⟩:=hk.part
  have:=jO ‹List aj›
  rw [k4,uw]
  omega
 ·intro k hk
  rw [g3] at hx
  have:=GN t 0 x hx k hk
  omega
theorem acj (a:List ak) (e:ak) (M i:Nat):∀ (ts:List aj) (j n s:Nat) (acc:List aj),(∀ t,t∈ts→∀ s k:Nat,TA a t s k→k < i→(wM M).qc a (k:Int)=some t)→KA a ts (e.Kids.drop j) s i→acc.length=j→j≤e.Kids.length→e.Kids.length≤100000→ts.length < n→
  zi M (wM M) n (a,e,(j:Int),acc)=some ⟨e.Kind,e.Op,e.Text,e.Other,acc++ts⟩
 | [],j,n,s,acc,ih,h,ha,hj,he,hn=>by
  simp only [KA] at h
  obtain ⟨n,rfl⟩:∃ m,n=m+1:=⟨n - 1,by simp at hn;omega⟩
  have hlt: ¬j < e.Kids.length:=by
   intro hlt
   rw [drop_cons hlt] at h
   cases h.1
  rw [zi]
  simp only [bT hlt,cond_false,List.append_nil]
 | t::ts,j,n,s,acc,ih,h,ha,hj,he,hn=>by
  simp only [KA] at h
  obtain ⟨k,ks',hd,h1,h2,ru,hka⟩:=h
  simp only [List.length_cons] at hn
  obtain ⟨n,rfl⟩:∃ m,n=m+1:=⟨n - 1,by omega⟩
  have hlt:j < e.Kids.length:=by
   cases Nat.lt_or_ge j e.Kids.length with
   | inl h=>exact h
   | inr h=>rw [List.drop_of_length_le h] at hd;cases hd
  rw [drop_cons hlt] at hd
  injection hd with hd1 hd2
  rw [zi]
  simp only [bN hlt,cond_true,aP hlt,hd1,au]
  rw [ih t (by simp) s k ru h2,au,gq (by simp;omega),au,wrap64 (by omega) (by omega)]
  have:=acj a e M i ts (j+1) n (k+1) (acc++[t]) (fun t' h'=>ih t' (by simp [h'])) (hd2 ▸ hka) (by simp [ha]) (by omega) he (by omega)
  rw [List.append_assoc] at this
  exact this
theorem abz (a:List ak):∀ (t:aj) (s i N:Nat),TA a t s i→i≤100000→2*aB t+2≤N→(wM N).qc a (i:Int)=some t:=by
 intro t
 induction t using aj.ind with
 | h t ih=>
  intro s i N h hi hN
  obtain ⟨M,rfl⟩:∃ M,N=M+1:=⟨N - 1,by omega⟩
  obtain ⟨kd,op,x,y,ts⟩:=t
  have hsz:=(TA.part h).2.1
  rw [TA] at h
  obtain ⟨n,hn,rfl,rfl,rfl,rfl,hk⟩:=h
  obtain ⟨h1,h2,h3,h4⟩:=hk.part
  have hkl:n.Kids.length=ts.length:=by rw [h4,uw]
  have htl:=jO ts
  rw [aB] at hsz hN
  show JM M (wM M) a (i:Int)=_
  unfold JM
  rw [je hn,au]
  have:=acj a n M i ts 0 M s [] (fun t' ht' s' k ru hki=>ih t' ht' s' k M ru (by omega) (by have:=jP ht';omega)) (by simpa using hk) rfl (by omega) (by omega) (by omega)
  simpa using this
theorem Ac (N:Nat) (a:List ak) (hN:1000 < N) {t:aj} (h:TA a t 0 (a.length - 1)) (h1:1≤a.length) (h2:a.length≤400):oK N a=some t:=by
 obtain ⟨_,hs,_⟩:=h.part
 unfold oK
 rw [wrap64 (by omega) (by omega),show (a.length:Int) - 1=((a.length - 1:Nat):Int) by omega]
 have:=abz a t 0 (a.length - 1) N h (by omega) (by omega)
 show Option.bind ((wM N).qc a _) _=_
 rw [this]
 rfl
theorem acn (t:aj) (G:Nat):∀ (ts:List aj) (j n:Nat) (acc:List ak) (ids:List Int),(∀ k,k∈ts→∀ acc:List ak,acc.length+aB k≤1000000→(wV G).rW k acc=some (acc++av acc.length k))→t.kids.drop j=ts→ts.length < n→
  acc.length+aD ts≤999999→ids.length+ts.length≤1000000→t.kids.length≤1000000→
  zn G (wV G) n (t,(j:Int),acc,ids)=some (acc++bK acc.length ts++[⟨t.kind,t.op,t.text,t.other,ids++dI acc.length ts⟩])
 | [],j,n,acc,ids,ih,hd,hn,hacc,aco,htl=>by
  obtain ⟨n,rfl⟩:∃ m,n=m+1:=⟨n - 1,by simp at hn;omega⟩
  have hj: ¬j < t.kids.length:=by
   intro h
   rw [drop_cons h] at hd
   cases hd
  rw [zn]
  simp only [bT hj,cond_false]
  rw [gq (by simp;omega),au]
  simp [bK,dI]
 | k::ts,j,n,acc,ids,ih,hd,hn,hacc,aco,htl=>by
  simp only [List.length_cons] at hn aco
  rw [aD] at hacc
  obtain ⟨n,rfl⟩:∃ m,n=m+1:=⟨n - 1,by omega⟩
  have hj:j < t.kids.length:=by
   cases Nat.lt_or_ge j t.kids.length with
   | inl h=>exact h
   | inr h=>rw [List.drop_of_length_le h] at hd;cases hd
  rw [drop_cons hj] at hd
  injection hd with hd1 hd2
  have hsz:=fZ k
  have hlen:(acc++av acc.length k).length=acc.length+aB k:=by rw [List.length_append,bD]
  rw [zn]
  simp only [bN hj,cond_true,aP hj,hd1,au]
  rw [ih k (by simp) acc (by omega),au,hlen,wrap64 (by omega) (by omega),gq (by simp;omega),au,wrap64 (by omega) (by omega)]
  have:=acn t G ts (j+1) n (acc++av acc.length k) (ids++[((acc.length+aB k:Nat):Int) - 1]) (fun k' h'=>ih k' (by simp [h'])) hd2 (by omega) (by rw [hlen];omega) (by simp;omega) htl
  rw [hlen] at this
  rw [show ((j:Int)+1)=((j+1:Nat):Int) by omega,this,bK,dI]
  simp only [List.append_assoc,List.cons_append,List.nil_append]
theorem alJ:∀ (t:aj) (N:Nat) (acc:List ak),2*aB t+2≤N→acc.length+aB t≤1000000→(wV N).rW t acc=some (acc++av acc.length t):=by
 intro t
 induction t using aj.ind with
 | h t ih=>
  intro N acc hN ha
  obtain ⟨M,rfl⟩:∃ M,N=M+1:=⟨N - 1,by omega⟩
  have hsz:=kK t
  have htl:=jO t.kids
  show JX M (wV M) t acc=_
  unfold JX
  have:=acn t M t.kids 0 M acc [] (fun k hk acc' ha'=>ih k hk M acc' (by have:=jP hk;omega) ha') rfl (by omega) (by omega) (by simp;omega) (by omega)
  refine Eq.trans this ?_
  obtain ⟨kd,op,x,y,ts⟩:=t
  rw [av]
  simp
theorem Uj (N:Nat) (t:aj) (hN:2*aB t+2≤N) (h:aB t≤1000000):zq N t=some (av 0 t):=by
 unfold zq
 have:=alJ t N [] hN (by simpa using h)
 show Option.bind ((wV N).rW t []) _=_
 rw [this]
 simp
theorem alK (N:Nat) (kb:(List ak×Int×Int×List ak)→Option (List ak)) (a:List ak) (d:Int) (i:Nat) (hi:i < a.length) (hi2:i≤1048576) (out:List ak) (ho:out.length=i) (hk:a[i].Kids.length≤1048576)
  (hr:∀ k,k∈a[i].Kids→ -9223372036854775808≤k+d∧k+d≤9223372036854775807):
  ∀ (n j:Nat) (ks:List Int),a[i].Kids.length - j < n→j≤a[i].Kids.length→ks.length=j→
   Bp N kb n (a,d,(i:Int),out,a[i],(j:Int),ks)=kb (a,d,((i+1:Nat):Int),out++[⟨a[i].Kind,a[i].Op,a[i].Text,a[i].Other,ks++(a[i].Kids.drop j).map (·+d)⟩]):=by
 intro n
 induction n with
 | zero=>intro j ks h;omega
 | succ n ih=>
  intro j ks hn hj hks
  rw [Bp,aP hi,au]
  by_cases h:j < a[i].Kids.length
  ·have hx:=hr _ (List.getElem_mem h)
   simp only [bN h,cond_true,aP hi,aP h,au,jH h (by simp only [maxLen];omega)]
   rw [wrap64 hx.1 hx.2,gq (by simp;omega),au,ih (j+1) _ (by omega) (by omega) (by simp [hks]),drop_cons h]
   simp only [List.map_cons,List.append_assoc,List.cons_append,List.nil_append]
  ·simp only [bT h,cond_false]
   rw [gq (by simp;omega),au,drop_nil h,wrap64 (by omega) (by omega)]
   simp
theorem alL (N:Nat) (a:List ak) (d:Int) (hN:1048577 < N) (ha:a.length≤1048576) (hs:∀ x,x∈a→x.Kids.length≤1048576) (hr:∀ x,x∈a→∀ k,k∈x.Kids→ -9223372036854775808≤k+d∧k+d≤9223372036854775807):
  ∀ (n i:Nat) (out:List ak),a.length - i < n→i≤a.length→out.length=i→wB N n (a,d,(i:Int),out)=some (out++(a.drop i).map (nR d)):=by
 intro n
 induction n with
 | zero=>intro i out h;omega
 | succ n ih=>
  intro i out hn hi ho
  rw [wB]
  by_cases h:i < a.length
  ·have hx:=hs _ (List.getElem_mem h)
   simp only [bN h,cond_true,aP h,au]
   have:=alK N (wB N n) a d i h (by omega) out ho (by omega) (hr _ (List.getElem_mem h)) N 0 [] (by omega) (by omega) rfl
   simp only [List.drop_zero,List.nil_append] at this
   refine Eq.trans this ?_
   rw [ih (i+1) _ (by omega) (by omega) (by simp [ho]),drop_cons h]
   simp only [List.map_cons,List.append_assoc,List.cons_append,List.nil_append,nR]
  ·simp only [bT h,cond_false]
   rw [drop_nil h]
   simp
theorem UC (N:Nat) (a:List ak) (d:Int) (hN:1048577 < N) (ha:a.length≤1048576) (hs:∀ x,x∈a→x.Kids.length≤1048576) (hr:∀ x,x∈a→∀ k,k∈x.Kids→ -9223372036854775808≤k+d∧k+d≤9223372036854775807):
  yM N a d=some (a.map (nR d)):=by
 have:=alL N a d hN ha hs hr N 0 [] (by omega) (by omega) rfl
 rw [List.drop_zero,List.nil_append] at this
 exact this
mutual
theorem KY:∀ (t:aj) (b:Nat) (x:ak),x∈av b t→x.Kids.length < aB t
 | ⟨kd,o,x,y,ks⟩,b,n,h=>by
  rw [av] at h
  rw [aB]
  rcases List.mem_append.1 h with h | h
  ·have:=acp ks b n h;omega
  ·rw [List.mem_singleton.1 h]
   have:=jO ks
   simp only [uw]
   omega
theorem acp:∀ (ts:List aj) (b:Nat) (x:ak),x∈bK b ts→x.Kids.length < aD ts
 | [],b,n,h=>by rw [bK] at h;cases h
 | t::ts,b,n,h=>by
  rw [bK] at h
  rw [aD]
  rcases List.mem_append.1 h with h | h
  ·have:=KY t b n h;omega
  ·have:=acp ts _ n h;omega
end
theorem alM (N:Nat) (t:aj) (b d:Nat) (hN:1048577 < N) (h:b+d+aB t≤1000000):yM N (av b t) (d:Int)=some (av (b+d) t):=by
 rw [Dl]
 exact UC N _ _ hN (by rw [bD];omega) (fun x hx=>by have:=KY t b x hx;omega) fun x hx k hk=>by have:=GN t b x hx k hk;omega
theorem alN (N:Nat) (t:aj) (b:Nat) (hN:1048577 < N) (h:b+aB t≤1000000):yM N (av b t) (-(b:Int))=some (av 0 t):=by
 rw [← acf t b]
 exact UC N _ _ hN (by rw [bD];omega) (fun x hx=>by have:=KY t b x hx;omega) fun x hx k hk=>by have:=GN t b x hx k hk;omega
theorem abe (N:Nat) (a:List ak) (hN:1048577 < N) (hs:∀ x,x∈a→bZ x) (hsh:fM a=true) {t:aj} {s i:Nat} (h:TA a t s i):Gt N a (i:Int)=some (av 0 t):=by
 obtain ⟨h1,h2,r,hst,hrl,hl,hT,_⟩:=fT hsh
 have hi:=h.lt
 obtain ⟨t',s',hr,ht'⟩:=hT i hi
 obtain ⟨rfl,rfl⟩:=TA.uniq h ht'
 obtain ⟨g1,g2,g3⟩:=h.part
 unfold Gt
 rw [aaU N a hN h2 hs,hst]
 simp only [au]
 rw [je hr,au,wrap64 (by omega) (by omega),show (i:Int)+1=((i+1:Nat):Int) by omega,ahi (by omega) (by omega),au,au,wrap64 (by omega) (by omega),show (0:Int) - (s:Int)= -(s:Int) by omega]
 have e:(a.drop s).take (i+1 - s)=av s t:=g3
 rw [e,alN N t s hN (by omega)]
 rfl
theorem acr (N:Nat) (n0:ak) (ts:List aj) (hN:1048577 < N) (hsz:aD ts≤900000):∀ (rest done:List aj) (n:Nat),done++rest=ts→rest.length < n→
  yN N n (ts.map (av 0),n0,(done.length:Int),bK 0 done,dI 0 done)=some (av 0 ⟨n0.Kind,n0.Op,n0.Text,n0.Other,ts⟩)
 | [],done,n,hd,hn=>by
  obtain ⟨n,rfl⟩:∃ m,n=m+1:=⟨n - 1,by simp at hn;omega⟩
  rw [List.append_nil] at hd
  subst hd
  have hl:=jO done
  have: ¬done.length < (done.map (av 0)).length:=by simp
  rw [yN]
  simp only [bT this,cond_false]
  rw [gq (by rw [Dv];simp;omega),au,av]
 | t::rest,done,n,hd,hn=>by
  simp only [List.length_cons] at hn
  obtain ⟨n,rfl⟩:∃ m,n=m+1:=⟨n - 1,by omega⟩
  have hlt:done.length < (ts.map (av 0)).length:=by rw [← hd];simp
  have hlt2:done.length < ts.length:=by simpa using hlt
  have hx:(ts.map (av 0))[done.length]'hlt=av 0 t:=by simp [← hd]
  have hsum:aD done+aB t+aD rest=aD ts:=by rw [← hd,xC,aD];omega
  have hl:=jO done
  have hp:=fZ t
  rw [yN]
  simp only [bN hlt,cond_true,aP hlt,au,hx,Dv]
  have hsh:=alM N t 0 (aD done) hN (by omega)
  rw [Nat.zero_add] at hsh
  rw [hsh,au,gq (by rw [Dv,bD];omega),au,List.length_append,Dv,bD,wrap64 (n:=((aD done+aB t:Nat):Int) - 1) (by omega) (by omega),gq (by rw [uw];simp;omega),au,wrap64 (by omega) (by omega)]
  have:=acr N n0 ts hN hsz rest (done++[t]) n (by simpa using hd) (by omega)
  rw [abY,UA,Nat.zero_add] at this
  simp only [bK,dI,List.append_nil,List.length_append,List.length_cons,List.length_nil] at this
  exact this
theorem Ab (N:Nat) (n0:ak) (ts:List aj) (hN:1048577 < N) (hsz:aD ts≤900000):iw N n0 (ts.map (av 0))=some (av 0 ⟨n0.Kind,n0.Op,n0.Text,n0.Other,ts⟩):=
 acr N n0 ts hN hsz ts [] N rfl (by have:=jO ts;omega)
mutual
def dO:aj→Nat
 | ⟨_,_,_,_,ks⟩=>eP ks+1
def eP:List aj→Nat
 | []=>0
 | t::ts=>max (dO t) (eP ts)
end
mutual
theorem UD:∀ t:aj,dO t≤aB t
 | ⟨k,o,x,y,ks⟩=>by have:=acs ks;rw [dO,aB];omega
theorem acs:∀ ts:List aj,eP ts≤aD ts
 | []=>by rw [eP,aD];omega
 | t::ts=>by have:=UD t;have:=acs ts;rw [eP,aD];omega
end
theorem Qv (t:aj):dO t=eP t.kids+1:=by cases t;rw [dO]
theorem acu (t:aj) (G:Nat) (hsz:aB t≤100000):∀ (ts:List aj) (j n m:Nat),(∀ k,k∈ts→(zl G).qg k=some (dO k:Int))→t.kids.drop j=ts→ts.length < n→m≤100000→
  zk G (zl G) n (t,(m:Int),(j:Int))=some (((max m (eP ts)+1:Nat):Int))
 | [],j,n,m,ih,hd,hn,hm=>by
  obtain ⟨n,rfl⟩:∃ m,n=m+1:=⟨n - 1,by simp at hn;omega⟩
  have hj: ¬j < t.kids.length:=by
   intro h
   rw [drop_cons h] at hd
   cases hd
  rw [zk]
  simp only [bT hj,cond_false]
  rw [wrap64 (by omega) (by omega),eP]
  congr 1
  omega
 | k::ts,j,n,m,ih,hd,hn,hm=>by
  simp only [List.length_cons] at hn
  obtain ⟨n,rfl⟩:∃ m,n=m+1:=⟨n - 1,by omega⟩
  have hj:j < t.kids.length:=by
   cases Nat.lt_or_ge j t.kids.length with
   | inl h=>exact h
   | inr h=>rw [List.drop_of_length_le h] at hd;cases hd
  have hjl:t.kids.length≤100000:=by have:=jO t.kids;have:=kK t;omega
  have hmem:k∈t.kids:=by
   have:k∈t.kids.drop j:=by rw [hd];simp
   exact List.mem_of_mem_drop this
  have hkd:dO k≤100000:=by have:=UD k;have:=jP hmem;have:=kK t;omega
  rw [drop_cons hj] at hd
  injection hd with hd1 hd2
  rw [zk]
  simp only [bN hj,cond_true,aP hj,hd1,au]
  rw [ih k (by simp),au,wrap64 (by omega) (by omega)]
  have hmax:(if (dO k:Int) > (m:Int) then (dO k:Int) else (m:Int))=((max m (dO k):Nat):Int):=by split<;>omega
  rw [hmax,show ((j:Int)+1)=((j+1:Nat):Int) by omega,acu t G hsz ts (j+1) n (max m (dO k)) (fun k' h'=>ih k' (by simp [h'])) hd2 (by omega) (by omega),eP,Nat.max_assoc]
theorem alO:∀ (t:aj) (N:Nat),2*aB t+2≤N→aB t≤100000→(zl N).qg t=some (dO t:Int):=by
 intro t
 induction t using aj.ind with
 | h t ih=>
  intro N hN hsz
  obtain ⟨M,rfl⟩:∃ M,N=M+1:=⟨N - 1,by omega⟩
  have h1:=kK t
  have h2:=jO t.kids
  show JO M (zl M) t=_
  unfold JO
  have:=acu t M hsz t.kids 0 M 0 (fun k hk=>ih k hk M (by have:=jP hk;omega) (by have:=jP hk;omega)) rfl (by omega) (by omega)
  refine Eq.trans this ?_
  rw [Qv,Nat.zero_max]
def acv (a:List ak) (d:List Int):Prop:=∀ (j:Nat) (v:Int),d[j]?=some v→∃ t s,TA a t s j∧v=dO t
theorem acw (N:Nat) (kb:(List ak×Int×List Int)→Option Int) (a:List ak) (ha:a.length≤400) (i:Nat) (hi:i < a.length) (d:List Int) (hd:d.length=i) (hok:acv a d) (hkl:a[i].Kids.length≤400):∀ (ts:List aj) (j n s m:Nat),KA a ts (a[i].Kids.drop j) s i→j≤a[i].Kids.length→ts.length < n→m≤1000→aD ts≤400→
  zy N kb n (a,(i:Int),d,(m:Int),(j:Int))=kb (a,((i+1:Nat):Int),d++[((max m (eP ts+(if ts=[] then 0 else 1)):Nat):Int)])
 | [],j,n,s,m,h,hj,hn,hm,hsz=>by
  simp only [KA] at h
  obtain ⟨n,rfl⟩:∃ m,n=m+1:=⟨n - 1,by simp at hn;omega⟩
  have hlt: ¬j < a[i].Kids.length:=by
   intro hlt
   rw [drop_cons hlt] at h
   cases h.1
  rw [zy,aP hi,au]
  simp only [bT hlt,cond_false]
  rw [gq (by simp;omega),au,wrap64 (by omega) (by omega),eP]
  simp
 | t::ts,j,n,s,m,h,hj,hn,hm,hsz=>by
  simp only [KA] at h
  obtain ⟨k,ks',hdk,h1,h2,ru,hka⟩:=h
  simp only [List.length_cons] at hn
  rw [aD] at hsz
  obtain ⟨n,rfl⟩:∃ m,n=m+1:=⟨n - 1,by omega⟩
  have hlt:j < a[i].Kids.length:=by
   cases Nat.lt_or_ge j a[i].Kids.length with
   | inl h=>exact h
   | inr h=>rw [List.drop_of_length_le h] at hdk;cases hdk
  rw [drop_cons hlt] at hdk
  injection hdk with hd1 hd2
  have hkd:k < d.length:=by omega
  obtain ⟨t',s',ht',hv⟩:=hok k d[k] (List.getElem?_eq_getElem hkd)
  obtain ⟨rfl,rfl⟩:=TA.uniq ru ht'
  have hdl:=UD t
  rw [zy,aP hi,au]
  simp only [bN hlt,cond_true,aP hi,aP hlt,au,hd1]
  rw [aP hkd,au,hv,wrap64 (n:=1+(dO t:Int)) (by omega) (by omega),wrap64 (by omega) (by omega)]
  have hmax:(if 1+(dO t:Int) > (m:Int) then 1+(dO t:Int) else (m:Int))=((max m (dO t+1):Nat):Int):=by split<;>omega
  rw [hmax,show ((j:Int)+1)=((j+1:Nat):Int) by omega,acw N kb a ha i hi d hd hok hkl ts (j+1) n (k+1) _ (hd2 ▸ hka) (by omega) (by omega) (by omega) (by omega),eP]
  have e:max (max m (dO t+1)) (eP ts+(if ts=[] then 0 else 1))=max m (max (dO t) (eP ts)+(if t::ts=[] then 0 else 1)):=by
   have h3:(t::ts=[])=False:=by simp
   simp only [h3,if_false]
   split
   ·subst_vars
    rw [eP]
    omega
   ·omega
  rw [e]
theorem alP (N:Nat) (a:List ak) (hN:1000 < N) (ha:a.length≤400) (h1:1≤a.length) (hT:∀ i,i < a.length→∃ (t:aj) (s:Nat),TA a t s i) {t0:aj} (h0:TA a t0 0 (a.length - 1)):∀ (n i:Nat) (d:List Int),a.length - i < n→i≤a.length→d.length=i→acv a d→
  wY N n (a,(i:Int),d)=some (dO t0:Int):=by
 intro n
 induction n with
 | zero=>intro i d h;omega
 | succ n ih=>
  intro i d hn hi hd hok
  rw [wY]
  by_cases h:i < a.length
  ·obtain ⟨t,s,ht⟩:=hT i h
   have htp:=ht.part
   obtain ⟨kd,op,x,y,ts⟩:=t
   have ht2:=ht
   rw [TA] at ht2
   obtain ⟨n0,hn0,_,_,_,_,hk⟩:=ht2
   rw [List.getElem?_eq_getElem h] at hn0
   cases hn0
   obtain ⟨k1,k2,k3,k4⟩:=hk.part
   have hl:=jO ts
   have hkl:a[i].Kids.length=ts.length:=by rw [k4,uw]
   rw [aB] at htp
   have:=acw N (wY N n) a ha i h d hd hok (by omega) ts 0 N s 1 (by simpa using hk) (by omega) (by omega) (by omega) (by omega)
   simp only [bN h,cond_true]
   refine Eq.trans this ?_
   have e:max 1 (eP ts+(if ts=[] then 0 else 1))=dO ⟨a[i].Kind,a[i].Op,a[i].Text,a[i].Other,ts⟩:=by
    rw [dO]
    split
    ·subst_vars
     rw [eP]
     rfl
    ·omega
   refine ih (i+1) _ (by omega) (by omega) (by simp [hd]) fun j v hv=>?_
   rw [List.getElem?_append] at hv
   split at hv
   ·exact hok j v hv
   ·rename_i hj
    have hji:j=i:=by
     have:=(List.getElem?_eq_some_iff.1 hv).1
     simp at this
     omega
    subst hji
    rw [hd,Nat.sub_self] at hv
    simp only [List.getElem?_cons_zero,Option.some.injEq] at hv
    refine ⟨_,_,ht,?_⟩
    rw [← hv,e]
    simp_all [dO]
  ·simp only [bT h,cond_false]
   have hia:i=a.length:=by omega
   have hlt:a.length - 1 < d.length:=by omega
   obtain ⟨t',s',ht',hv⟩:=hok (a.length - 1) _ (List.getElem?_eq_getElem hlt)
   obtain ⟨rfl,_⟩:=TA.uniq h0 ht'
   have hx:=aP hlt
   rw [wrap64 (by omega) (by omega),show (a.length:Int) - 1=((a.length - 1:Nat):Int) by omega,hx,au,hv]
theorem MP (N:Nat) (a:List ak) (hN:1048577 < N) (hs:∀ x,x∈a→bZ x) (hsh:fM a=true) {t:aj} (ht:TA a t 0 (a.length - 1)):Kc N a=some (dO t:Int):=by
 obtain ⟨h1,h2,r,_,_,_,hT,_⟩:=fT hsh
 unfold Kc
 rw [Pb N a hN hs,hsh,au]
 exact alP N a (by omega) h2 h1 (fun i hi=>by obtain ⟨t,s,_,h⟩:=hT i hi;exact ⟨t,s,h⟩) ht N 0 [] (by omega) (by omega) rfl (fun j v h=>by simp at h)
theorem alQ (N:Nat) (a:List ak) (hN:1048577 < N) (ha:a.length≤400) (i:Nat) (hi:i < a.length) (hf:FK a[i]) (hkl:a[i].Kids.length≤400) (hkr:∀ k,k∈a[i].Kids→0≤k∧k < a.length) (fD kb2:(List ak×Int)→Option Bool) (c:Bool)
  (hkb:∃ b:Bool,fD (a,((i+1:Nat):Int))=some b∧kb2 (a,((i+1:Nat):Int))=some (b&&c)):∀ (n j:Nat),a[i].Kids.length - j < n→j≤a[i].Kids.length→
  ∃ b:Bool,oN N fD n (a,(i:Int),(j:Int))=some b∧Ch N kb2 n (a,(i:Int),a[i],(j:Int))=some (b&&c):=by
 intro n
 induction n with
 | zero=>intro j h;omega
 | succ n ih=>
  intro j hn hj
  rw [oN,Ch,aP hi,au]
  by_cases h:j < a[i].Kids.length
  ·have hk:=hkr _ (List.getElem_mem h)
   have hk2:a[i].Kids[j].toNat < a.length:=by omega
   have hx:ix a a[i].Kids[j]=some a[a[i].Kids[j].toNat]:=by
    have:=aP hk2
    rwa [Int.toNat_of_nonneg hk.1] at this
   obtain ⟨b,b1,b2⟩:=alD a[i] j a[a[i].Kids[j].toNat].Kind hf h hkl
   simp only [bN h,cond_true,aP hi,aP h,au,hx,b1,b2]
   cases b with
   | false=>exact ⟨false,rfl,rfl⟩
   | true=>
    simp only [Bool.not_true,cond_false]
    rw [wrap64 (by omega) (by omega),show ((j:Int)+1)=((j+1:Nat):Int) by omega]
    exact ih (j+1) (by omega) (by omega)
  ·simp only [bT h,cond_false]
   rw [wrap64 (by omega) (by omega)]
   exact hkb
def acz (a:List ak):Prop:=∀ x,x∈a→FK x∧bX x.Kind
theorem alR (N:Nat) (a:List ak) (hN:1048577+400 < N) (ha:a.length≤400) (hs:∀ x,x∈a→bZ x) (hk:∀ x,x∈a→x.Kids.length≤400∧∀ k,k∈x.Kids→0≤k∧k < a.length) (c:Bool) (hc:Option.bind (oK N a) (fun r=>(qg N r).bind fun q=>some (decide (q≤40)))=some c):∀ (n i:Nat),a.length - i < n→i≤a.length→
  ∃ b:Bool,jy N n (a,(i:Int))=some b∧uZ N n (a,(i:Int))=some (b&&c)∧(b=true→∀ x,x∈a.drop i→FK x∧bX x.Kind):=by
 intro n
 induction n with
 | zero=>intro i h;omega
 | succ n ih=>
  intro i hn hi
  rw [jy,uZ]
  by_cases h:i < a.length
  ·have hx:=List.getElem_mem h
   obtain ⟨hk1,hk2⟩:=hk _ hx
   obtain ⟨b,b1,b2,b3⟩:=alb N a[i] (by omega) (hs _ hx) hk1
   simp only [bN h,cond_true,aP h,au,b1,b2]
   cases b with
   | false=>exact ⟨false,rfl,rfl,fun h=>by cases h⟩
   | true=>
    simp only [Bool.not_true,cond_false]
    obtain ⟨q,q1,q2,q3⟩:=ih (i+1) (by omega) (by omega)
    obtain ⟨b',e1,e2⟩:=alQ N a (by omega) ha i h (b3 rfl).1 hk1 hk2 (jy N n) (uZ N n) c ⟨q,q1,q2⟩ N 0 (by omega) (by omega)
    refine ⟨b',e1,e2,fun hb x hx=>?_⟩
    rw [drop_cons h] at hx
    rcases List.mem_cons.1 hx with rfl | hx
    ·exact b3 rfl
    ·refine q3 ?_ x hx
     subst hb
     have:∀ (m j:Nat),a[i].Kids.length - j < m→j≤a[i].Kids.length→oN N (jy N n) m (a,(i:Int),(j:Int))=some true→q=true:=by
      intro m
      induction m with
      | zero=>intro j h;omega
      | succ m Dq=>
       intro j hm hj hh
       rw [oN,aP h,au] at hh
       by_cases hlt:j < a[i].Kids.length
       ·simp only [bN hlt,cond_true,aP h,aP hlt,au] at hh
        obtain ⟨y1,_,hh⟩:=Option.bind_eq_some_iff.1 hh
        obtain ⟨y2,_,hh⟩:=Option.bind_eq_some_iff.1 hh
        cases y2 with
        | false=>cases hh
        | true=>
         simp only [Bool.not_true,cond_false] at hh
         rw [wrap64 (by omega) (by omega),show ((j:Int)+1)=((j+1:Nat):Int) by omega] at hh
         exact Dq (j+1) (by omega) (by omega) hh
       ·simp only [bT hlt,cond_false] at hh
        rw [wrap64 (by omega) (by omega)] at hh
        have hh':jy N n (a,((i+1:Nat):Int))=some true:=hh
        rw [q1] at hh'
        exact Option.some.inj hh'
     exact this N 0 (by omega) (by omega) e1
  ·simp only [bT h,cond_false]
   refine ⟨true,rfl,by rw [hc,Bool.true_and],fun _ x hx=>?_⟩
   rw [drop_nil h] at hx
   cases hx
theorem qI (N:Nat) (a:List ak) (hN:1048577+400 < N) (hs:∀ x,x∈a→bZ x):∃ b:Bool,bM N a=some b∧kZ N a=some b∧(b=true→fM a=true∧acz a):=by
 unfold bM kZ
 rw [Pb N a (by omega) hs,aaV N a (by omega)]
 simp only [au]
 cases hsh:fM a with
 | false=>exact ⟨false,rfl,rfl,fun h=>by cases h⟩
 | true=>
  obtain ⟨h1,h2,r,_,_,_,hT,t,ht⟩:=fT hsh
  have hd:=MP N a (by omega) hs hsh ht
  obtain ⟨_,hsz,_⟩:=ht.part
  have hdi:qg N t=some (dO t:Int):=alO t N (by omega) (by omega)
  have hc:Option.bind (oK N a) (fun r=>(qg N r).bind fun q=>some (decide (q≤40)))=some (decide ((dO t:Int)≤40)):=by
   rw [Ac N a (by omega) ht h1 h2,au,hdi,au]
  obtain ⟨b,b1,b2,b3⟩:=alR N a hN h2 hs (Lb hsh) _ hc N 0 (by omega) (by omega)
  have b1':jy N N (a,0)=some b:=b1
  have b2':uZ N N (a,0)=some (b&&decide ((dO t:Int)≤40)):=b2
  simp only [Bool.not_true,cond_false,hd,au,b1',b2']
  by_cases hle:(dO t:Int)≤40
  ·have e1:decide ((dO t:Int) > 40)=false:=by simp;omega
   have e2:decide ((dO t:Int)≤40)=true:=by simp;omega
   simp only [e1,e2,cond_false,au,Bool.and_true]
   exact ⟨b,rfl,rfl,fun hb=>⟨trivial,fun x hx=>b3 hb x (by simpa using hx)⟩⟩
  ·have e1:decide ((dO t:Int) > 40)=true:=by simp;omega
   have e2:decide ((dO t:Int)≤40)=false:=by simp;omega
   simp only [e1,e2,cond_true,au,Bool.and_false]
   exact ⟨false,rfl,rfl,fun h=>by cases h⟩
def Ie (x:ak):Prop:=∀ k,k∈x.Kids→ -9223372036854775808≤k∧k≤9223372036854775807
theorem alS (l:List Int) (h:l.length≤1048576):KN l=some l:=by
 unfold KN
 rw [gq (by simp;omega),au,List.nil_append]
theorem alT (N:Nat) (a:List ak) (ha:a.length≤1048576) (hs:∀ x,x∈a→bZ x):∀ (n i:Nat),a.length - i < n→i≤a.length→CU N n (a,(i:Int),a.take i)=some a:=by
 intro n
 induction n with
 | zero=>intro i h;omega
 | succ n ih=>
  intro i hn hi
  rw [CU]
  by_cases h:i < a.length
  ·have hx:=hs _ (List.getElem_mem h)
   unfold bZ at hx
   simp only [bN h,cond_true,aP h,au]
   rw [alS _ (by omega),au,gq (by simp;omega),au,wrap64 (by omega) (by omega)]
   have e:a.take i++[(⟨a[i].Kind,a[i].Op,a[i].Text,a[i].Other,a[i].Kids⟩:ak)]=a.take (i+1):=by
    rw [List.take_add_one,List.getElem?_eq_getElem h]
    rfl
   rw [e]
   exact ih (i+1) (by omega) (by omega)
  ·simp only [bT h,cond_false]
   rw [List.take_of_length_le (by omega)]
theorem akf (N:Nat) (a:List ak) (hN:1048577 < N) (ha:a.length≤1048576) (hs:∀ x,x∈a→bZ x):zQ N a=some a:=
 alT N a ha hs N 0 (by omega) (by omega)
theorem Ig (N:Nat) (a:List ak) (hN:1048577 < N) (ha:a.length≤1048576) (hs:∀ x,x∈a→bZ x) (hi:∀ x,x∈a→Ie x):vR N a=some a:=by
 unfold vR
 rw [UC N a 0 hN ha (fun x hx=>by have:=hs x hx;unfold bZ at this;omega) fun x hx k hk=>by have:=hi x hx k hk;omega,au,alG]
theorem Po (N:Nat) (a:List ak) (hN:1048577+400 < N) (hs:∀ x,x∈a→bZ x):∃ b:Bool,fG N a=some b∧qh N a=some b∧(b=true→fM a=true∧acz a):=by
 obtain ⟨b,b1,b2,b3⟩:=qI N a hN hs
 unfold fG qh
 rw [b1,b2]
 simp only [au]
 cases b with
 | false=>exact ⟨false,rfl,rfl,fun h=>by cases h⟩
 | true=>
  obtain ⟨h1,h2⟩:=b3 rfl
  obtain ⟨l1,l2,_⟩:=fT h1
  have hlt:a.length - 1 < a.length:=by omega
  have hx:=aP hlt
  rw [wrap64 (by omega) (by omega),show (a.length:Int) - 1=((a.length - 1:Nat):Int) by omega,hx]
  simp only [cond_true,au,pF,nQ]
  exact ⟨_,rfl,rfl,fun _=>⟨h1,h2⟩⟩
theorem TA.node {a:List ak} {t:aj} {s i:Nat} (h:TA a t s i):∃ n,a[i]?=some n∧t.kind=n.Kind∧t.op=n.Op∧t.text=n.Text∧t.other=n.Other∧KA a t.kids n.Kids s i∧t.kids.length=n.Kids.length:=by
 obtain ⟨kd,op,x,y,ts⟩:=t
 rw [TA] at h
 obtain ⟨n,hn,rfl,rfl,rfl,rfl,hk⟩:=h
 have h4:=hk.part.2.2.2
 exact ⟨n,hn,rfl,rfl,rfl,rfl,hk,by rw [h4,uw]⟩
theorem KA.get {a:List ak}:∀ {ts:List aj} {ks:List Int} {s e:Nat},KA a ts ks s e→∀ (j:Nat) (t:aj),ts[j]?=some t→∃ k s':Nat,ks[j]?=some (k:Int)∧TA a t s' k∧k < e
 | [],ks,s,e,h,j,t,hj=>by simp at hj
 | t0::ts,ks,s,e,h,j,t,hj=>by
  rw [KA] at h
  obtain ⟨k,ks',rfl,h1,h2,ht,hk⟩:=h
  cases j with
  | zero=>
   simp only [List.getElem?_cons_zero,Option.some.injEq] at hj
   subst hj
   exact ⟨k,s,rfl,ht,h2⟩
  | succ j=>
   simp only [List.getElem?_cons_succ] at hj ⊢
   exact KA.get hk j t hj
theorem alU {t:aj} {b:Nat} (hsz:aB t≤1000000) (ht:∀ x,x∈av b t→x.Text.length≤1048576∧x.Other.length≤1048576):∀ x,x∈av b t→bZ x:=fun x hx=>by
 have:=KY t b x hx
 have:=ht x hx
 unfold bZ
 omega
def tx (x:ak):Prop:=x.Text.length≤1048576∧x.Other.length≤1048576
def bO (t:aj):Prop:=∀ x,x∈av 0 t→tx x
theorem acA {t:aj} (h:bO t) (b:Nat):∀ x,x∈av b t→tx x:=fun x hx=>by
 have e:=Dl t 0 b
 rw [Nat.zero_add] at e
 rw [e] at hx
 obtain ⟨y,hy,rfl⟩:=List.mem_map.1 hx
 exact h y hy
theorem alV {ts:List aj} (h:∀ t,t∈ts→bO t):∀ (b:Nat) x,x∈bK b ts→tx x:=by
 induction ts with
 | nil=>intro b x hx;rw [bK] at hx;cases hx
 | cons t ts ih=>
  intro b x hx
  rw [bK] at hx
  rcases List.mem_append.1 hx with hx | hx
  ·exact acA (h t (by simp)) b x hx
  ·exact ih (fun t' h'=>h t' (by simp [h'])) _ x hx
theorem Pn {kd op:Int} {x y:List UInt8} {ts:List aj} (h:∀ t,t∈ts→bO t) (hx:x.length≤1048576) (hy:y.length≤1048576):bO ⟨kd,op,x,y,ts⟩:=fun n hn=>by
 rw [av] at hn
 rcases List.mem_append.1 hn with hn | hn
 ·exact alV h 0 n hn
 ·rw [List.mem_singleton.1 hn]
  exact ⟨hx,hy⟩
theorem vP {a:List ak} (hs:∀ x,x∈a→bZ x) {t:aj} {s i:Nat} (h:TA a t s i):bO t:=by
 have h3:=h.part.2.2
 intro x hx
 rw [← acf t s,← h3] at hx
 obtain ⟨y,hy,rfl⟩:=List.mem_map.1 hx
 have:y∈a:=by
  unfold part at hy
  exact List.mem_of_mem_drop (List.mem_of_mem_take hy)
 have:=hs y this
 unfold bZ at this
 exact ⟨this.1,this.2.1⟩
theorem jf {t:aj} (hsz:aB t≤1000000) (ht:bO t) (b:Nat):∀ x,x∈av b t→bZ x:=
 alU hsz fun x hx=>acA ht b x hx
end Go.Proofs.Tryz
