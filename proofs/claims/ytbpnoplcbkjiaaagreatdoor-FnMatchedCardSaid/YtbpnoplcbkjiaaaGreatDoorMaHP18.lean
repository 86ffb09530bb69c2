/-
 Plain lemmas on the models, part 18.
-/
import Derived.Test.YtbpnoplcbkjiaaaGreatDoorMaHP17
namespace Go.Proofs.Tryz
open Go.Av
set_option maxRecDepth 100000
set_option linter.unusedSimpArgs false
set_option linter.unusedVariables false
def vS (t:aj):Prop:=t.kind=1→t.kids=[]
def XL (L:List ak):Prop:=∃ t,L=av 0 t∧aB t≤10000∧bO t
def Dn (m d:Nat) (L:List ak):Prop:=∃ t,L=av 0 t∧Gd m d t∧allT vS t
theorem Dp {m d:Nat} {t:aj} (h:Gd m d t):bO t:=fun x hx=>by
 obtain ⟨h1,h2⟩:=h.2.2 x hx
 exact ⟨by omega,by omega⟩
theorem El {P:aj→Prop} {t:aj} (h:P t) (hk:∀ k,k∈t.kids→allT P k):allT P t:=by
 have key:∀ ts:List aj,(∀ k,k∈ts→allT P k)→sF P ts:=by
  intro ts
  induction ts with
  | nil=>intro _;rw [sF];trivial
  | cons u ts ih=>
   intro h
   rw [sF]
   exact ⟨h u (by simp),ih fun k hk=>h k (by simp [hk])⟩
 obtain ⟨k,o,x,y,ks⟩:=t
 rw [allT]
 exact ⟨h,key ks hk⟩
theorem QJ {t:aj} (hz:aB t≤400) (h:allT vS t):∀ x,x∈av 0 t→x.Kind=1→x.Kids=[]:=fun x hx hk=>by
 obtain ⟨i,hi,rfl⟩:=List.getElem_of_mem hx
 obtain ⟨q1,_,r,_,_,_,r4,_⟩:=fT (AL t hz)
 obtain ⟨w,s',_,hw⟩:=r4 i hi
 obtain ⟨m,m1,m2,_,_,_,m6,m7⟩:=hw.node
 rw [List.getElem?_eq_getElem hi] at m1
 cases m1
 have:=MQ t 0 _ (jF t) h w s' i hw (by omega) (by omega)
 have hk0:=this (by rw [m2];exact hk)
 rw [hk0] at m7
 exact List.length_eq_zero_iff.1 m7.symm
def wP:Nat→Nat
 | 0=>1
 | d+1=>2*wP d+1
section
set_option linter.unusedSectionVars false
variable (b:List UInt8) (hb:b.length≤1048576) (N:Nat) (hN:18446744073709551657+2097152≤N)
include hb hN
theorem Ut (d:Nat) (hd:d≤3) (deep:Int) (hdp:deep.toNat=d) (g1: -1000≤deep) (g2:deep≤1000) (i h:Int) (h0:0≤i) (h1:i≤(b.length:Int)):Dr b (fun L=>∃ t,L=av 0 t∧Gd 64 12 t) (eD N deep b i h):=by
 obtain ⟨i,rfl⟩:=Int.eq_ofNat_of_zero_le h0
 have hp:pw d≤64∧oP d≤12:=by
  have:d=0∨d=1∨d=2∨d=3:=by omega
  rcases this with rfl | rfl | rfl | rfl<;>decide
 exact Sm.dr (by omega) (abM b hb N d (by omega) (by omega) deep hdp g1 g2 i h (by omega)) (jQ d) fun t ht=>⟨t,rfl,ht.mono hp.1 hp.2⟩
theorem akN (i h:Int) (h0:0≤i) (h1:i≤(b.length:Int)):Dr b (fun L=>∃ t,L=av 0 t∧Gd 64 12 t) (yQ b i h):=by
 obtain ⟨i,rfl⟩:=Int.eq_ofNat_of_zero_le h0
 exact Sm.dr (by omega) (Uu b hb i h (by omega)) Uv fun t ht=>⟨t,rfl,ht.mono (by omega) (by omega)⟩
omit hN in
theorem akO:∀ (d M:Nat),d≤2→1050000+d≤M→∀ (i h:Int),0≤i→i≤(b.length:Int)→Dr b (Dn (wP d) (d+1)) ((Br M).mR (d:Int) b i h):=by
 intro d
 induction d with
 | zero=>
  intro M hd hM i h h0 h1
  obtain ⟨M,rfl⟩:∃ m,M=m+1:=⟨M - 1,by omega⟩
  show Dr b _ (Bq M (Br M) ((0:Nat):Int) b i h)
  unfold Bq
  rw [show decide (((0:Nat):Int)≤0)=true from rfl,cond_true,au]
  dsimp only
  rw [cond_true]
  exact Dr.bind (Uw b hb 20 _ i h h0 h1 (by decide) (by decide)) fun x i h hx h0 h1=>Dr.some ⟨⟨1,0,x,[],[]⟩,rfl,Gd.mk hx jA (by simp [aD,wP]) (by simp [eP]) (fun t ht=>by cases ht),El (fun _=>rfl) fun k hk=>by cases hk⟩ h0 h1
 | succ d ih=>
  intro M hd hM i h h0 h1
  obtain ⟨M,rfl⟩:∃ m,M=m+1:=⟨M - 1,by omega⟩
  have hw1:1≤wP d:=by cases d<;>simp [wP]
  have hw2:wP d≤7:=by
   have:d=0∨d=1:=by omega
   rcases this with rfl | rfl<;>decide
  have hwr:IntKind.wrap .i64 (((d+1:Nat):Int) - 1)=(d:Int):=by rw [wrap64 (by omega) (by omega)];omega
  have sub:=fun i h h0 h1=>ih M (by omega) (by omega) i h h0 h1
  show Dr b _ (Bq M (Br M) ((d+1:Nat):Int) b i h)
  unfold Bq
  rw [decide_eq_false (show¬((d+1:Nat):Int)≤0 by omega),cond_false,hwr]
  refine Dr.bind (Dr.sG (Ld b hb 3 i h h0 h1)) fun y i h _ h0 h1=>?_
  dsimp only
  have leaf:∀ (k:Int) (x:List UInt8),x.length≤20→Dn (wP (d+1)) (d+1+1) [(⟨k,0,x,[],[]⟩:ak)]:=fun k x hx=>⟨⟨k,0,x,[],[]⟩,rfl,Gd.mk hx jA (by simp [aD,wP]) (by simp [eP]) (fun t ht=>by cases ht),El (fun _=>rfl) fun k hk=>by cases hk⟩
  refine Dr.cond (fun _=>?_) fun _=>?_
  ·exact Dr.bind (Uw b hb 20 _ i h h0 h1 (by decide) (by decide)) fun x i h hx h0 h1=>Dr.some (leaf 1 x hx) h0 h1
  ·refine Dr.bind (Lf b hb 5 i h h0 h1) fun r i h _ h0 h1=>?_
   dsimp only
   refine Dr.cond (fun _=>?_) fun _=>Dr.cond (fun _=>?_) fun _=>?_
   ·refine Dr.bind (sub i h h0 h1) fun L i h hL h0 h1=>?_
    obtain ⟨t,rfl,ht,hk⟩:=hL
    dsimp only
    have hz:=ht.1
    have hdp:=ht.2.1
    have hm:=Ab M ⟨11,61,[],[],[]⟩ [t] (by omega) (by simp only [aD];omega)
    have hm':iw M ⟨11,61,[],[],[]⟩ [av 0 t]=some (av 0 ⟨11,61,[],[],[t]⟩):=hm
    rw [hm',au]
    exact Dr.some ⟨_,rfl,Gd.mk jA jA (by simp only [aD,wP];omega) (by simp only [eP];omega) (fun u hu=>by rw [List.mem_singleton.1 hu];exact ht.2.2),El (fun h=>by cases h) fun k hk'=>by rw [List.mem_singleton.1 hk'];exact hk⟩ h0 h1
   ·exact Dr.bind (Uw b hb 20 _ i h h0 h1 (by decide) (by decide)) fun x i h hx h0 h1=>Dr.some (leaf 2 x hx) h0 h1
   ·refine Dr.bind (abN b hb (P:=fun _=>True) _ i h h0 h1 (by decide) fun _ _=>trivial) fun o i h _ h0 h1=>?_
    dsimp only
    refine Dr.bind (sub i h h0 h1) fun L i h hL h0 h1=>?_
    dsimp only
    refine Dr.bind (sub i h h0 h1) fun L2 i h hL2 h0 h1=>?_
    obtain ⟨t,rfl,ht,hk⟩:=hL
    obtain ⟨u,rfl,hu,hk2⟩:=hL2
    dsimp only
    have hz:=ht.1
    have hdp:=ht.2.1
    have hz2:=hu.1
    have auo:=hu.2.1
    have hm:=Ab M ⟨12,o,[],[],[]⟩ [t,u] (by omega) (by simp only [aD];omega)
    have hm':iw M ⟨12,o,[],[],[]⟩ [av 0 t,av 0 u]=some (av 0 ⟨12,o,[],[],[t,u]⟩):=hm
    rw [hm',au]
    refine Dr.some ⟨_,rfl,Gd.mk jA jA (by simp only [aD,wP];omega) (by simp only [eP];omega) (fun v hv=>?_),El (fun h=>by cases h) fun k hk'=>?_⟩ h0 h1
    ·simp only [List.mem_cons,List.not_mem_nil,or_false] at hv
     rcases hv with rfl | rfl
     ·exact ht.2.2
     ·exact hu.2.2
    ·have hk':k∈[t,u]:=hk'
     simp only [List.mem_cons,List.not_mem_nil,or_false] at hk'
     rcases hk' with rfl | rfl
     ·exact hk
     ·exact hk2
theorem abO {tp:aj} (hp:Gd 7 3 tp) (hk:allT vS tp) (g:List aM) (hl:g.length≤10) (hg:∀ f,f∈g→Gd 64 12 f.tree):lW N (av 0 tp) (IntKind.wrap .i64 (((av 0 tp).length:Int) - 1)) (HF g)=some (av 0 (dL g tp))∧aB (dL g tp)≤2800∧bO (dL g tp):=by
 have hz:=hp.1
 have hpz:=fZ tp
 have hg':∀ f,f∈g→aB f.tree≤400∧bO f.tree:=fun f hf=>⟨by have:=(hg f hf).1;omega,Dp (hg f hf)⟩
 have h1:=Ue (av 0 tp) g (by omega) hg' (QJ (by omega) hk) tp 0 ((av 0 tp).length - 1) N (jF tp) (by omega) (by omega)
 have hw:IntKind.wrap .i64 (((av 0 tp).length:Int) - 1)=(((av 0 tp).length - 1:Nat):Int):=by
  rw [bD,wrap64 (by omega) (by omega)];omega
 rw [hw]
 exact ⟨h1,by have:=Pj g (fun f hf=>(hg' f hf).1) tp;omega,Pm g (fun f hf=>(hg' f hf).2) tp (Dp hp)⟩
theorem akP {tp:aj} (hp:Gd 7 3 tp) (hk:allT vS tp):∀ (n c:Nat) (i h:Int) (g:List aM),c < n→g.length+c=4→(∀ f,f∈g→Gd 64 12 f.tree)→0≤i→i≤(b.length:Int)→
  Dr b XL (qQ N b n (av 0 tp,(g.length:Int),i,h,HF g)):=by
 intro n
 induction n with
 | zero=>intro c i h g hc;omega
 | succ n ih=>
  intro c i h g hc hgc hg h0 h1
  rw [qQ]
  cases c with
  | succ c=>
   have hlt:decide (((g.length:Nat):Int) < 4)=true:=by simp;omega
   rw [hlt,cond_true]
   have hx:∃ x:List UInt8,ix ([[97],[98],[120],[121]]:List (List UInt8)) (g.length:Int)=some x:=by
    have:g.length=0∨g.length=1∨g.length=2∨g.length=3:=by omega
    rcases this with e | e | e | e<;>rw [e]<;>exact ⟨_,rfl⟩
   obtain ⟨x,hx⟩:=hx
   rw [hx,au]
   refine Dr.bind (Lf b hb 3 i h h0 h1) fun r i h hr h0 h1=>?_
   dsimp only
   have hr2:0≤r∧r≤2:=⟨hr.1,by rcases hr.2 with h | h<;>omega⟩
   refine Dr.bind (Ut b hb N hN r.toNat (by omega) r rfl (by omega) (by omega) i h h0 h1) fun L i h hL h0 h1=>?_
   obtain ⟨t,rfl,ht⟩:=hL
   dsimp only
   have hhl:(HF g).length=g.length:=by unfold HF;simp
   rw [gq (by rw [hhl];simp;omega),au,wrap64 (by omega) (by omega)]
   have e1:HF g++[(⟨x,av 0 t⟩:fA)]=HF (g++[⟨x,t⟩]):=by unfold HF;simp
   have e2:((g.length:Nat):Int)+1=((g++[(⟨x,t⟩:aM)]).length:Int):=by simp
   rw [e1,e2]
   exact ih c i h (g++[⟨x,t⟩]) (by omega) (by simp;omega) (fun f hf=>by
    rcases List.mem_append.1 hf with hf | hf
    ·exact hg f hf
    ·rw [List.mem_singleton.1 hf];exact ht) h0 h1
  | zero=>
   have hlt:decide (((g.length:Nat):Int) < 4)=false:=by simp;omega
   rw [hlt,cond_false]
   obtain ⟨f1,f2,f3⟩:=abO b hb N hN hp hk g (by omega) hg
   rw [f1,au]
   have k3:∀ (L:List ak) (i h:Int),XL L→0≤i→i≤(b.length:Int)→Dr b XL (FD N b (qQ N b n) (i,h,L)):=fun L i h hL h0 h1=>by
    unfold FD
    dsimp only
    refine Dr.bind (Ld b hb 5 i h h0 h1) fun y i h _ h0 h1=>?_
    dsimp only
    refine Dr.cond (fun _=>Dr.sG ((ajI b hb N hN i h h0 h1).imp ?_)) fun _=>Dr.some hL h0 h1
    rintro L ⟨t,rfl,ht⟩
    exact ⟨t,rfl,by have:=ht.1;omega,Dp ht⟩
   have k2:∀ (t:aj) (i h:Int),aB t≤3000→bO t→0≤i→i≤(b.length:Int)→Dr b XL (FE N b (qQ N b n) (i,h,av 0 t)):=fun t i h hz hx h0 h1=>by
    unfold FE
    dsimp only
    refine Dr.bind (Ld b hb 2 i h h0 h1) fun y i h _ h0 h1=>?_
    dsimp only
    refine Dr.cond (fun _=>?_) fun _=>k3 _ i h ⟨t,rfl,by omega,hx⟩ h0 h1
    refine Dr.bind (akQ b hb i h h0 h1) fun o i h _ h0 h1=>?_
    dsimp only
    refine Dr.bind (Ut b hb N hN 1 (by omega) 1 rfl (by omega) (by omega) i h h0 h1) fun L i h hL h0 h1=>?_
    obtain ⟨u,rfl,hu⟩:=hL
    dsimp only
    have hz2:=hu.1
    have hm:=Ab N ⟨12,o,[],[],[]⟩ [t,u] (by omega) (by simp only [aD];omega)
    have hm':iw N ⟨12,o,[],[],[]⟩ [av 0 t,av 0 u]=some (av 0 ⟨12,o,[],[],[t,u]⟩):=hm
    rw [hm',au]
    exact k3 _ i h ⟨_,rfl,by simp only [aB,aD];omega,Pn (fun v hv=>by
     simp only [List.mem_cons,List.not_mem_nil,or_false] at hv
     rcases hv with rfl | rfl
     ·exact hx
     ·exact Dp hu) (by simp) (by simp)⟩ h0 h1
   refine Dr.bind (Ld b hb 2 i h h0 h1) fun y i h _ h0 h1=>?_
   dsimp only
   refine Dr.cond (fun _=>?_) fun _=>k2 _ i h (by omega) f3 h0 h1
   have hm:=Ab N ⟨11,61,[],[],[]⟩ [dL g tp] (by omega) (by simp only [aD];omega)
   have hm':iw N ⟨11,61,[],[],[]⟩ [av 0 (dL g tp)]=some (av 0 ⟨11,61,[],[],[dL g tp]⟩):=hm
   rw [hm',au]
   exact k2 _ i h (by simp only [aB,aD];omega) (Pn (fun v hv=>by rw [List.mem_singleton.1 hv];exact f3) (by simp) (by simp)) h0 h1
theorem abP {tp:aj} (hp:Gd 7 3 tp) (hk:allT vS tp) (i h:Int) (h0:0≤i) (h1:i≤(b.length:Int)):Dr b XL (Jk N (av 0 tp) b i h):=
 akP b hb N hN hp hk N 4 i h [] (by omega) rfl (fun f hf=>by cases hf) h0 h1
theorem Ux (i h:Int) (h0:0≤i) (h1:i≤(b.length:Int)):Dr b (Dn 7 3) (mR N 2 b i h):=akO b hb 2 N (by omega) (by omega) i h h0 h1
theorem akR:∃ p x:List ak,Jl N b=some (p,x)∧Dn 7 3 p∧XL x:=by
 obtain ⟨h,e1⟩:=aaW b hb N (by omega)
 obtain ⟨p,i1,h1,e2,hp,a0,a1⟩:=Ux b hb N hN 0 h (by omega) (by omega)
 obtain ⟨tp,rfl,hp1,hp2⟩:=hp
 obtain ⟨x,i2,h2,e3,hx,b0,b1⟩:=abP b hb N hN hp1 hp2 i1 h1 a0 a1
 obtain ⟨y,i3,h3,e4,_,c0,c1⟩:=Ld b hb 2 i2 h2 b0 b1
 unfold Jl
 rw [e1,au]
 dsimp only
 rw [e2,au]
 dsimp only
 rw [e3,au]
 dsimp only
 rw [e4,au]
 dsimp only
 have hpt:Dn 7 3 (av 0 tp):=⟨tp,rfl,hp1,hp2⟩
 cases y with
 | false=>exact ⟨_,_,rfl,hpt,hx⟩
 | true=>
  obtain ⟨L,i4,h4,e5,⟨u,rfl,hu⟩,d0,d1⟩:=akN b hb N hN i3 h3 c0 c1
  obtain ⟨L2,i5,h5,e6,⟨v,rfl,hv⟩,_,_⟩:=Ut b hb N hN 1 (by omega) 1 rfl (by omega) (by omega) i4 h4 d0 d1
  obtain ⟨f1,f2,f3⟩:=abO b hb N hN hp1 hp2 [⟨[97],u⟩,⟨[98],v⟩] (by simp) (fun f hf=>by
   simp only [List.mem_cons,List.not_mem_nil,or_false] at hf
   rcases hf with rfl | rfl
   ·exact hu
   ·exact hv)
  have Di:lW N (av 0 tp) (IntKind.wrap .i64 (((av 0 tp).length:Int) - 1)) [(⟨[97],av 0 u⟩:fA),(⟨[98],av 0 v⟩:fA)]=_:=f1
  rw [cond_true,e5,au]
  dsimp only
  rw [e6,au]
  dsimp only
  rw [Di,au]
  exact ⟨_,_,rfl,hpt,⟨_,rfl,by omega,f3⟩⟩
theorem akS:∃ l p r:List ak,KM N b=some (l,p,r)∧XL l∧Dn 7 3 p∧Dn 7 3 r:=by
 obtain ⟨h,e1⟩:=aaW b hb N (by omega)
 obtain ⟨p,i1,h1,e2,hp,a0,a1⟩:=Ux b hb N hN 0 h (by omega) (by omega)
 obtain ⟨tp,rfl,hp1,hp2⟩:=hp
 obtain ⟨x,i2,h2,e3,hx,b0,b1⟩:=abP b hb N hN hp1 hp2 i1 h1 a0 a1
 obtain ⟨r,i3,h3,e4,hr,_,_⟩:=Ux b hb N hN i2 h2 b0 b1
 unfold KM
 rw [e1,au]
 dsimp only
 rw [e2,au]
 dsimp only
 rw [e3,au]
 dsimp only
 rw [e4,au]
 exact ⟨_,_,_,rfl,hx,⟨tp,rfl,hp1,hp2⟩,hr⟩
end
end Go.Proofs.Tryz
