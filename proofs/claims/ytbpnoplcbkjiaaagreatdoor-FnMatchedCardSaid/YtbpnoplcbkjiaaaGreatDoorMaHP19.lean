/-
 Plain lemmas on the models, part 19.
-/
import Derived.Test.YtbpnoplcbkjiaaaGreatDoorMaHP18
namespace Go.Proofs.Tryz
open Go.Av
set_option maxRecDepth 100000
set_option linter.unusedSimpArgs false
set_option linter.unusedVariables false
theorem akT (N:Nat) (a:List ak) (kb:(List ak×Int)→Option Bool) (i:Nat) (hi:i < a.length) (hi2:i≤100000) (hkl:a[i].Kids.length≤100000):∀ (m j:Nat),a[i].Kids.length - j < m→j≤a[i].Kids.length→oN N kb m (a,(i:Int),(j:Int))=some true→
  kb (a,((i+1:Nat):Int))=some true∧∀ (q:Nat) (hq:q < a[i].Kids.length),j≤q→∃ y,ix a a[i].Kids[q]=some y∧iA a[i] (q:Int) y.Kind=some true:=by
 intro m
 induction m with
 | zero=>intro j h;omega
 | succ m Dq=>
  intro j hm hj hh
  rw [oN,aP hi,au] at hh
  by_cases hlt:j < a[i].Kids.length
  ·simp only [bN hlt,cond_true,aP hi,aP hlt,au] at hh
   obtain ⟨y1,h1,hh⟩:=Option.bind_eq_some_iff.1 hh
   obtain ⟨y2,h2,hh⟩:=Option.bind_eq_some_iff.1 hh
   cases y2 with
   | false=>cases hh
   | true=>
    simp only [Bool.not_true,cond_false] at hh
    rw [wrap64 (by omega) (by omega),show ((j:Int)+1)=((j+1:Nat):Int) by omega] at hh
    obtain ⟨r1,r2⟩:=Dq (j+1) (by omega) (by omega) hh
    refine ⟨r1,fun q hq hjq=>?_⟩
    by_cases hqj:q=j
    ·subst hqj;exact ⟨y1,h1,h2⟩
    ·exact r2 q hq (by omega)
  ·simp only [bT hlt,cond_false] at hh
   rw [wrap64 (by omega) (by omega)] at hh
   exact ⟨hh,fun q hq hjq=>by omega⟩
def Pv (N:Nat) (a:List ak) (x:ak):Prop:=qm N x=some true∧∀ (q:Nat) (hq:q < x.Kids.length),∃ y,ix a x.Kids[q]=some y∧iA x (q:Int) y.Kind=some true
theorem akU (N:Nat) (a:List ak) (ha:a.length≤400) (hk:∀ x,x∈a→x.Kids.length≤400) (hN:500 < N):∀ (n i:Nat),a.length - i < n→i≤a.length→jy N n (a,(i:Int))=some true→∀ x,x∈a.drop i→Pv N a x:=by
 intro n
 induction n with
 | zero=>intro i h;omega
 | succ n ih=>
  intro i hn hi h x hx
  rw [jy] at h
  by_cases hlt:i < a.length
  ·simp only [bN hlt,cond_true,aP hlt,au] at h
   obtain ⟨b,hb,h⟩:=Option.bind_eq_some_iff.1 h
   cases b with
   | false=>cases h
   | true=>
    simp only [Bool.not_true,cond_false] at h
    have hkl:=hk _ (List.getElem_mem hlt)
    obtain ⟨h1,h2⟩:=akT N a (jy N n) i hlt (by omega) (by omega) N 0 (by omega) (by omega) h
    rw [drop_cons hlt] at hx
    rcases List.mem_cons.1 hx with rfl | hx
    ·exact ⟨hb,fun q hq=>h2 q hq (by omega)⟩
    ·exact ih (i+1) (by omega) (by omega) h1 x hx
  ·rw [drop_nil hlt] at hx
   cases hx
theorem WL (N:Nat) (a:List ak) (hN:500 < N) (hsh:fM a=true) (h:bM N a=some true):∀ x,x∈a→Pv N a x:=by
 unfold bM at h
 obtain ⟨y,_,h⟩:=Option.bind_eq_some_iff.1 h
 cases y with
 | true=>cases h
 | false=>
  rw [cond_false] at h
  intro x hx
  have h2:=(fT hsh).2.1
  exact akU N a h2 (fun z hz=>(Lb hsh z hz).1) hN N 0 (by omega) (by omega) h x (by rw [List.drop_zero];exact hx)
mutual
def qE (P:aj→Prop):aj→Prop
 | ⟨k,o,x,y,ts⟩=>P ⟨k,o,x,y,ts⟩∧uz P ts
def uz (P:aj→Prop):List aj→Prop
 | []=>True
 | t::ts=>qE P t∧uz P ts
end
theorem abQ {P:aj→Prop}:∀ {ts:List aj},(∀ t,t∈ts→qE P t)→uz P ts
 | [],_=>by rw [uz];trivial
 | t::ts,h=>by rw [uz];exact ⟨h t (by simp),abQ fun u hu=>h u (by simp [hu])⟩
theorem qE.head {P:aj→Prop} {t:aj} (h:qE P t):P t:=by
 obtain ⟨k,o,x,y,ts⟩:=t
 rw [qE] at h
 exact h.1
mutual
theorem TA.sub {a:List ak} {P:aj→Prop}:∀ {t:aj} {s i:Nat},TA a t s i→qE P t→∀ j,s≤j→j≤i→∃ u s',TA a u s' j∧s≤s'∧P u
 | ⟨kd,op,x,y,ts⟩,s,i,h,hp,j,h1,h2=>by
  by_cases hj:j=i
  ·subst hj
   exact ⟨_,s,h,Nat.le_refl _,hp.head⟩
  ·rw [TA] at h
   rw [qE] at hp
   obtain ⟨n,hn,rfl,rfl,rfl,rfl,hk⟩:=h
   exact KA.sub hk hp.2 j h1 (by omega)
theorem KA.sub {a:List ak} {P:aj→Prop}:∀ {ts:List aj} {ks:List Int} {s e:Nat},KA a ts ks s e→uz P ts→∀ j,s≤j→j < e→∃ u s',TA a u s' j∧s≤s'∧P u
 | [],ks,s,e,h,hp,j,h1,h2=>by
  rw [KA] at h
  omega
 | t::ts,ks,s,e,h,hp,j,h1,h2=>by
  rw [KA] at h
  rw [uz] at hp
  obtain ⟨k,ks',rfl,g1,g2,ht,hk⟩:=h
  have hs:=ht.part.1
  by_cases hj:j≤k
  ·exact TA.sub ht hp.1 j h1 hj
  ·obtain ⟨u,s',r1,r2,r3⟩:=KA.sub hk hp.2 j (by omega) h2
   exact ⟨u,s',r1,by omega,r3⟩
end
theorem KA.mem {a:List ak}:∀ {ts:List aj} {ks:List Int} {s e:Nat},KA a ts ks s e→∀ k:Int,k∈ks→∃ n:Nat,k=n∧s≤n∧n < e
 | [],ks,s,e,h,k,hk=>by
  rw [KA] at h
  rw [h.1] at hk
  cases hk
 | t::ts,ks,s,e,h,k,hk=>by
  rw [KA] at h
  obtain ⟨k0,ks',rfl,g1,g2,ht,hk'⟩:=h
  have hs:=ht.part.1
  rcases List.mem_cons.1 hk with rfl | hk
  ·exact ⟨k0,rfl,hs,g2⟩
  ·obtain ⟨n,r1,r2,r3⟩:=KA.mem hk' k hk
   exact ⟨n,r1,by omega,r3⟩
theorem Qz (N:Nat) (k o:Int) (x y:List UInt8) (ks ks':List Int) (h:ks.length=ks'.length):qm N ⟨k,o,x,y,ks⟩=qm N ⟨k,o,x,y,ks'⟩:=by
 have h1:vv ⟨k,o,x,y,ks⟩=vv ⟨k,o,x,y,ks'⟩:=by
  simp only [vv,zF,wZ,ql,vo,zD,zC,h]
 have h2:Gg ⟨k,o,x,y,ks⟩=Gg ⟨k,o,x,y,ks'⟩:=rfl
 have h3:Gq N ⟨k,o,x,y,ks⟩=Gq N ⟨k,o,x,y,ks'⟩:=rfl
 unfold qm
 rw [h1,h2,h3]
 simp only [h]
theorem QA (k o:Int) (x y:List UInt8) (ks ks':List Int) (h:ks.length=ks'.length) (q kd:Int):iA ⟨k,o,x,y,ks⟩ q kd=iA ⟨k,o,x,y,ks'⟩ q kd:=by
 simp only [iA,jN,oM,h]
def RT (N:Nat) (t:aj):Prop:=qm N ⟨t.kind,t.op,t.text,t.other,List.replicate t.kids.length 0⟩=some true∧
 ∀ (q:Nat) (u:aj),t.kids[q]?=some u→iA ⟨t.kind,t.op,t.text,t.other,List.replicate t.kids.length 0⟩ (q:Int) u.kind=some true
theorem akV (N:Nat) (a:List ak) (kb:(List ak×Int)→Option Bool) (i:Nat) (hi:i < a.length) (hkl:a[i].Kids.length≤100000) (hk:∀ (q:Nat) (hq:q < a[i].Kids.length),∃ y,ix a a[i].Kids[q]=some y∧iA a[i] (q:Int) y.Kind=some true):∀ (m j:Nat),a[i].Kids.length - j < m→j≤a[i].Kids.length→
  oN N kb m (a,(i:Int),(j:Int))=kb (a,IntKind.wrap .i64 ((i:Int)+1)):=by
 intro m
 induction m with
 | zero=>intro j h;omega
 | succ m Dq=>
  intro j hm hj
  rw [oN,aP hi,au]
  by_cases hlt:j < a[i].Kids.length
  ·obtain ⟨y,h1,h2⟩:=hk j hlt
   simp only [bN hlt,cond_true,aP hi,aP hlt,au,h1,h2,Bool.not_true,cond_false]
   rw [wrap64 (by omega) (by omega),show ((j:Int)+1)=((j+1:Nat):Int) by omega]
   exact Dq (j+1) (by omega) (by omega)
  ·simp only [bT hlt,cond_false]
theorem akW (N:Nat) (a:List ak) (ha:a.length≤400) (hN:500 < N) (hk:∀ x,x∈a→x.Kids.length≤400) (hr:∀ x,x∈a→Pv N a x):∀ (n i:Nat),a.length - i < n→i≤a.length→jy N n (a,(i:Int))=some true:=by
 intro n
 induction n with
 | zero=>intro i h;omega
 | succ n ih=>
  intro i hn hi
  rw [jy]
  by_cases hlt:i < a.length
  ·obtain ⟨h1,h2⟩:=hr _ (List.getElem_mem hlt)
   have hkl:=hk _ (List.getElem_mem hlt)
   simp only [bN hlt,cond_true,aP hlt,au,h1,Bool.not_true,cond_false]
   have:=akV N a (jy N n) i hlt (by omega) h2 N 0 (by omega) (by omega)
   refine Eq.trans this ?_
   rw [wrap64 (by omega) (by omega),show ((i:Int)+1)=((i+1:Nat):Int) by omega]
   exact ih (i+1) (by omega) (by omega)
  ·simp only [bT hlt,cond_false]
theorem WO (N:Nat) (t:aj) (hN:1048577 < N) (hsz:aB t≤400) (hd:dO t≤40) (hs:∀ x,x∈av 0 t→bZ x) (hall:qE (RT N) t):bM N (av 0 t)=some true:=by
 have hsh:=AL t hsz
 have hT:=jF t
 have hll:=bD t 0
 have hpos:=fZ t
 have akX:=MP N (av 0 t) hN hs hsh hT
 unfold bM
 rw [Pb N _ hN hs,hsh,akX]
 have hle:decide ((dO t:Int) > 40)=false:=by simp;omega
 simp only [au,Bool.not_true,cond_false,hle]
 have hr:∀ x,x∈av 0 t→Pv N (av 0 t) x:=fun x hx=>by
  obtain ⟨i,hi⟩:=List.getElem?_of_mem hx
  have hlt:=(List.getElem?_eq_some_iff.1 hi).1
  obtain ⟨u,s',hu,_,h1,h2⟩:=TA.sub hT hall i (by omega) (by omega)
  obtain ⟨n,hn,e1,e2,e3,e4,hka,hkl⟩:=hu.node
  rw [hi] at hn
  have:=Option.some.inj hn
  subst this
  obtain ⟨xk,xo,xx,xy,Lg⟩:=x
  obtain ⟨uk,uo,ux,uy,qF⟩:=u
  have e1:uk=xk:=e1
  have e2:uo=xo:=e2
  have e3:ux=xx:=e3
  have e4:uy=xy:=e4
  subst e1 e2 e3 e4
  have hl:(List.replicate qF.length (0:Int)).length=Lg.length:=by rw [List.length_replicate];exact hkl
  refine ⟨(Qz N _ _ _ _ _ _ hl).symm.trans h1,fun q hq=>?_⟩
  have hq2:q < qF.length:=by have hkl:qF.length=Lg.length:=hkl;have hq:q < Lg.length:=hq;omega
  have hv:qF[q]?=some qF[q]:=List.getElem?_eq_getElem hq2
  obtain ⟨k,s2,hk,hTx,_⟩:=hka.get q _ hv
  obtain ⟨_,hk⟩:=List.getElem?_eq_some_iff.1 hk
  obtain ⟨m,hm,m1,_⟩:=hTx.node
  refine ⟨m,?_,?_⟩
  ·have hk:Lg[q]=(k:Int):=hk
   show ix (av 0 _) Lg[q]=some m
   rw [hk];exact je hm
  ·rw [← m1]
   exact (QA _ _ _ _ _ _ hl _ _).symm.trans (h2 q _ hv)
 have:=akW N (av 0 t) (by omega) (by omega) (fun x hx=>(Lb hsh x hx).1) hr N 0 (by omega) (by omega)
 have akY:jy N N (av 0 t,0)=some true:=this
 simp only [akY,au]
theorem uz.mem {P:aj→Prop}:∀ {ts:List aj},uz P ts→∀ t,t∈ts→qE P t
 | [],_,t,h=>by cases h
 | u::ts,h,t,ht=>by
  rw [uz] at h
  rcases List.mem_cons.1 ht with rfl | ht
  ·exact h.1
  ·exact uz.mem h.2 t ht
theorem KA.abR {a:List ak}:∀ {ts:List aj} {ks:List Int} {s e:Nat},KA a ts ks s e→∀ t,t∈ts→∃ s' k:Nat,TA a t s' k∧k < e
 | [],ks,s,e,h,t,ht=>by cases ht
 | u::ts,ks,s,e,h,t,ht=>by
  simp only [KA] at h
  obtain ⟨k,ks',_,h1,h2,ru,hka⟩:=h
  rcases List.mem_cons.1 ht with rfl | ht
  ·exact ⟨s,k,ru,h2⟩
  ·exact KA.abR hka t ht
theorem TA.all {a:List ak} {P:aj→Prop} (hP:∀ u s j,TA a u s j→P u):∀ (t:aj) (s i:Nat),TA a t s i→qE P t:=by
 refine aj.ind fun t ih=>?_
 intro s i h
 obtain ⟨n,hn,e1,e2,e3,e4,hka,hkl⟩:=h.node
 have ht:=hP t s i h
 obtain ⟨k,o,x,y,ts⟩:=t
 rw [qE]
 refine ⟨ht,abQ fun u hu=>?_⟩
 obtain ⟨s',k,hu2,_⟩:=hka.abR u hu
 exact ih u hu s' k hu2
end Go.Proofs.Tryz
