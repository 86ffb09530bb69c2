/-
 Plain lemmas on the models, part 11.
-/
import Derived.Test.YtbpnoplcbkjiaaaGreatDoorMaHP10
namespace Go.Proofs.Tryz
open Go.Av
set_option maxRecDepth 100000
set_option linter.unusedSimpArgs false
set_option linter.unusedVariables false
def hB (k:Int) (t:List UInt8):Bool:=k==1&&match t with
 | [c]=>decide (((c.toNat:Int))≥97)&&decide (((c.toNat:Int))≤122)
 | _=>false
theorem TV (n:ak):BI n=some (hB n.Kind n.Text):=by
 obtain ⟨k,o,t,p,ks⟩:=n
 unfold BI hB
 simp only
 cases hk:(k==1) with
 | false=>rfl
 | true=>
  match t with
  | []=>rfl
  | [c]=>
   have hc:=UInt8.toNat_lt c
   have e:ix [c] 0=some c:=rfl
   have e1:((([c]:List UInt8).length:Int)==1)=true:=rfl
   rw [cond_true,e1,cond_true,e,au,wrap64 (by omega) (by omega),Aa]
   rfl
  | a::b::r=>
   have e:(((a::b::r).length:Int)==1)=false:=by simp;omega
   rw [cond_true,e]
   rfl
theorem TW (n:ak):Ci n=some (hB n.Kind n.Text):=by
 obtain ⟨k,o,t,p,ks⟩:=n
 unfold Ci hB
 simp only
 cases hk:(k==1) with
 | false=>rfl
 | true=>
  match t with
  | []=>rfl
  | [c]=>
   have e:ix [c] 0=some c:=rfl
   have e1:((([c]:List UInt8).length:Int)==1)=true:=rfl
   rw [cond_true,e1,cond_true,e,au,au]
   show _=some (decide (((c.toNat:Int))≥97)&&decide (((c.toNat:Int))≤122))
   cases decide (((c.toNat:Int))≥97)<;>rfl
  | a::b::r=>
   have e:(((a::b::r).length:Int)==1)=false:=by simp;omega
   rw [cond_true,e]
   rfl
theorem KX (t:aj):FZ t=some (hB t.kind t.text):=by
 unfold FZ
 rw [TW]
 rfl
mutual
theorem aaY:∀ (t t':aj) (b:Nat),av b t=av b t'→t=t'
 | ⟨k,o,x,y,ks⟩,⟨k',o',x',y',ks'⟩,b,h=>by
  rw [av,av] at h
  obtain ⟨h1,h2⟩:=List.append_inj' h rfl
  simp only [List.cons.injEq,ak.mk.injEq,and_true] at h2
  obtain ⟨rfl,rfl,rfl,rfl,h3⟩:=h2
  rw [aaZ ks ks' b h1 h3]
theorem aaZ:∀ (ts ts':List aj) (b:Nat),bK b ts=bK b ts'→dI b ts=dI b ts'→ts=ts'
 | [],[],b,_,_=>rfl
 | [],t'::ts',b,_,h=>by simp [dI] at h
 | t::ts,[],b,_,h=>by simp [dI] at h
 | t::ts,t'::ts',b,h1,h2=>by
  rw [dI,dI] at h2
  injection h2 with e1 e2
  have e:aB t=aB t':=by omega
  rw [bK,bK] at h1
  obtain ⟨g1,g2⟩:=List.append_inj h1 (by rw [bD,bD,e])
  rw [← e] at g2 e2
  rw [aaY t t' b g1,aaZ ts ts' _ g2 e2]
end
mutual
def mX:aj→aj→Bool
 | ⟨k,o,x,y,ks⟩,⟨k',o',x',y',ks'⟩=>k==k'&&(o==o'&&(x==x'&&(y==y'&&qZ ks ks')))
def qZ:List aj→List aj→Bool
 | [],[]=>true
 | t::ts,t'::ts'=>mX t t'&&qZ ts ts'
 | [],_::_=>false
 | _::_,[]=>false
end
mutual
theorem Pf:∀ (t t':aj),mX t t'=true↔t=t'
 | ⟨k,o,x,y,ks⟩,⟨k',o',x',y',ks'⟩=>by
  rw [mX]
  simp only [Bool.and_eq_true,beq_iff_eq,abb ks ks',aj.mk.injEq]
theorem abb:∀ (ts ts':List aj),qZ ts ts'=true↔ts=ts'
 | [],[]=>by simp [qZ]
 | [],_::_=>by simp [qZ]
 | _::_,[]=>by simp [qZ]
 | t::ts,t'::ts'=>by
  rw [qZ]
  simp only [Bool.and_eq_true,Pf t t',abb ts ts',List.cons.injEq]
end
theorem TY:∀ (ts ts':List aj),ts.length≠ts'.length→qZ ts ts'=false
 | [],[],h=>absurd rfl h
 | [],_::_,_=>rfl
 | _::_,[],_=>rfl
 | t::ts,t'::ts',h=>by
  rw [qZ,TY ts ts' (by simpa using h),Bool.and_false]
theorem ajM (N:Nat) (a b:List Int) (hl:a.length=b.length) (hm:a.length≤1048576):∀ (n i:Nat),a.length - i < n→i≤a.length→CG N n (a,b,(i:Int))=some (decide (a.drop i=b.drop i)):=by
 intro n
 induction n with
 | zero=>intro i h;omega
 | succ n ih=>
  intro i hn hi
  rw [CG]
  by_cases h:i < a.length
  ·have h':i < b.length:=by omega
   simp only [bN h,cond_true,aP h,aP h',au]
   rw [drop_cons h,drop_cons h']
   by_cases he:a[i]=b[i]
   ·have hb:(a[i] !=b[i])=false:=by simpa using he
    rw [hb,cond_false,jH h (by simp only [maxLen];omega),ih (i+1) (by omega) (by omega)]
    simp only [List.cons.injEq,he,true_and]
   ·have hb:(a[i] !=b[i])=true:=by simpa using he
    rw [hb,cond_true]
    simp only [List.cons.injEq,he,false_and,decide_false]
  ·have h': ¬i < b.length:=by omega
   simp only [bT h,cond_false]
   rw [drop_nil h,drop_nil h']
   simp
theorem ajN (N:Nat) (a b:List Int) (hm:a.length≤1048576) (hN:1048577 < N):Kw N a b=some (decide (a=b)):=by
 unfold Kw
 by_cases hl:a.length=b.length
 ·have e:((a.length:Int) !=(b.length:Int))=false:=by simp [hl]
  rw [e,cond_false]
  exact ajM N a b hl hm N 0 (by omega) (by omega)
 ·have e:((a.length:Int) !=(b.length:Int))=true:=by simp;omega
  rw [e,cond_true]
  have:a≠b:=fun h=>hl (by rw [h])
  simp [this]
theorem ajO (N:Nat) (a b:List ak) (hN:1048577 < N) (hl:a.length=b.length) (hm:a.length≤1048576) (hk:∀ x,x∈a→x.Kids.length≤1048576):∀ (n i:Nat),a.length - i < n→i≤a.length→CJ N n (a,b,(i:Int))=some (decide (a.drop i=b.drop i)):=by
 intro n
 induction n with
 | zero=>intro i h;omega
 | succ n ih=>
  intro i hn hi
  rw [CJ]
  by_cases h:i < a.length
  ·have h':i < b.length:=by omega
   have hki:=hk _ (List.getElem_mem h)
   simp only [bN h,cond_true,aP h,aP h',au]
   rw [drop_cons h,drop_cons h',jH h (by simp only [maxLen];omega),ih (i+1) (by omega) (by omega)]
   generalize a[i]=x at hki
   generalize b[i]=y
   obtain ⟨k,o,t,p,ks⟩:=x
   obtain ⟨k',o',t',p',ks'⟩:=y
   simp only at hki
   simp only [ajN N ks ks' hki hN,au]
   by_cases e1:k=k'
   ·subst e1
    by_cases e2:o=o'
    ·subst e2
     by_cases e3:t=t'
     ·subst e3
      by_cases e4:p=p'
      ·subst e4
       by_cases e5:ks=ks'
       ·subst e5
        simp only [bne_self_eq_false,beq_self_eq_true,Bool.not_true,cond_false,decide_true,au,List.cons.injEq,true_and]
       ·simp only [bne_self_eq_false,beq_self_eq_true,Bool.not_true,Bool.not_false,cond_true,cond_false,e5,decide_false,au,List.cons.injEq,ak.mk.injEq,true_and,false_and]
      ·have b4:(p==p')=false:=by simpa using e4
       simp only [bne_self_eq_false,beq_self_eq_true,Bool.not_true,Bool.not_false,b4,cond_true,cond_false,e4,decide_false,au,List.cons.injEq,ak.mk.injEq,true_and,false_and]
     ·have b3:(t==t')=false:=by simpa using e3
      simp only [bne_self_eq_false,Bool.not_false,b3,cond_true,cond_false,e3,decide_false,au,List.cons.injEq,ak.mk.injEq,true_and,false_and]
    ·have b2:(o !=o')=true:=by simpa using e2
     simp only [bne_self_eq_false,b2,cond_true,cond_false,e2,decide_false,au,List.cons.injEq,ak.mk.injEq,true_and,false_and]
   ·have b1:(k !=k')=true:=by simpa using e1
    simp only [b1,cond_true,e1,decide_false,au,List.cons.injEq,ak.mk.injEq,false_and]
  ·have h': ¬i < b.length:=by omega
   simp only [bT h,cond_false]
   rw [drop_nil h,drop_nil h']
   simp
theorem Ua (N:Nat) (a b:List ak) (hN:1048577 < N) (hm:a.length≤1048576) (hk:∀ x,x∈a→x.Kids.length≤1048576):nO N a b=some (decide (a=b)):=by
 unfold nO
 by_cases hl:a.length=b.length
 ·have e:((a.length:Int) !=(b.length:Int))=false:=by simp [hl]
  rw [e,cond_false]
  exact ajO N a b hN hl hm hk N 0 (by omega) (by omega)
 ·have e:((a.length:Int) !=(b.length:Int))=true:=by simp;omega
  rw [e,cond_true]
  have:a≠b:=fun h=>hl (by rw [h])
  simp [this]
theorem ajP (N:Nat) (t t':aj) (hN:1048577 < N) (hsz:aB t≤1048576):nO N (av 0 t) (av 0 t')=some (mX t t'):=by
 rw [Ua N _ _ hN (by rw [bD];exact hsz) (fun x hx=>by have:=KY t 0 x hx;omega)]
 congr 1
 rw [Bool.eq_iff_iff,decide_eq_true_iff,Pf]
 exact ⟨aaY t t' 0,fun h=>by rw [h]⟩
def nD (a b:aj):Bool:=a.kind==b.kind&&(a.op==b.op&&(a.text==b.text&&(a.other==b.other&&((a.kids.length:Int)==(b.kids.length:Int)))))
theorem KZ (a b:aj):Ga a b=some (nD a b):=by
 unfold Ga nD
 cases (a.kind==b.kind)<;>cases (a.op==b.op)<;>cases (a.text==b.text)<;>cases (a.other==b.other)<;>rfl
theorem ajQ (M:Nat) (us vs:List aj) (hl:us.length=vs.length) (hm:us.length≤1048576) (ih:∀ t,t∈us→∀ t',(qX M).rV t t'=some (mX t t')):∀ (n i:Nat),us.length - i < n→i≤us.length→
  Cm M (qX M) n (vs,us,(i:Int))=some (qZ (us.drop i) (vs.drop i)):=by
 intro n
 induction n with
 | zero=>intro i h;omega
 | succ n ihn=>
  intro i hn hi
  rw [Cm]
  by_cases h:i < us.length
  ·have h':i < vs.length:=by omega
   simp only [bN h,cond_true,aP h,aP h',au]
   rw [drop_cons h,drop_cons h',ih _ (List.getElem_mem h),au,jH h (by simp only [maxLen];omega),qZ]
   cases mX us[i] vs[i] with
   | false=>rfl
   | true=>
    simp only [Bool.not_true,cond_false,Bool.true_and]
    exact ihn (i+1) (by omega) (by omega)
  ·have h': ¬i < vs.length:=by omega
   simp only [bT h,cond_false]
   rw [drop_nil h,drop_nil h',qZ]
theorem ajR:∀ (t t':aj) (N:Nat),2*aB t+2≤N→aB t≤1048576→(qX N).rV t t'=some (mX t t'):=by
 intro t
 induction t using aj.ind with
 | h t ih=>
  intro t' N hN hsz
  have hs:=kK t
  have htl:=jO t.kids
  obtain ⟨M,rfl⟩:∃ M,N=M+2:=⟨N - 2,by omega⟩
  show JU (M+1) (qX (M+1)) t t'=_
  unfold JU
  rw [KZ]
  have hE:(qX (M+1)).Ck t.kids t'.kids=some (qZ t.kids t'.kids):=by
   show JR M (qX M) t.kids t'.kids=_
   unfold JR
   by_cases hl:t.kids.length=t'.kids.length
   ·have e:((t.kids.length:Int) !=(t'.kids.length:Int))=false:=by simp [hl]
    rw [e,cond_false]
    exact ajQ M t.kids t'.kids hl (by omega) (fun k hk k'=>ih k hk k' M (by have:=jP hk;omega) (by have:=jP hk;omega)) M 0 (by omega) (by omega)
   ·have e:((t.kids.length:Int) !=(t'.kids.length:Int))=true:=by simp;omega
    rw [e,cond_true,TY _ _ hl]
  simp only [hE,au]
  obtain ⟨k,o,x,y,ks⟩:=t
  obtain ⟨k',o',x',y',ks'⟩:=t'
  rw [mX]
  unfold nD
  simp only
  cases (k==k')<;>cases (o==o')<;>cases (x==x')<;>cases (y==y')<;>try rfl
  by_cases hl:ks.length=ks'.length
  ·have e:((ks.length:Int)==(ks'.length:Int))=true:=by simp [hl]
   rw [e];rfl
  ·have e:((ks.length:Int)==(ks'.length:Int))=false:=by simp;omega
   rw [e,TY _ _ hl];rfl
def HF (g:List aM):List fA:=g.map fun f=>(⟨f.name,av 0 f.tree⟩:fA)
theorem ajS (N:Nat) (g:List aM) (name:List UInt8) (hm:g.length≤1048576):∀ (n i:Nat),g.length - i < n→i≤g.length→
  BJ N (HF g) n (name,(i:Int))=some (match (g.drop i).find? (fun f=>f.name==name) with
   | some f=>(av 0 f.tree,true)
   | none=>([],false)):=by
 intro n
 induction n with
 | zero=>intro i h;omega
 | succ n ih=>
  intro i hn hi
  rw [BJ]
  have hHl:(HF g).length=g.length:=by simp [HF]
  by_cases h:i < g.length
  ·have h':i < (HF g).length:=by omega
   have hx:(HF g)[i]=(⟨g[i].name,av 0 g[i].tree⟩:fA):=by simp [HF]
   simp only [bN h',cond_true,aP h',au,hx]
   rw [drop_cons h,List.find?_cons,jH h (by simp only [maxLen];omega)]
   cases (g[i].name==name) with
   | true=>rfl
   | false=>
    simp only [cond_false]
    exact ih (i+1) (by omega) (by omega)
  ·have h': ¬i < (HF g).length:=by omega
   simp only [bT h',cond_false]
   rw [drop_nil h]
   rfl
theorem abd (N:Nat) (g:List aM) (name:List UInt8) (hm:g.length≤1048576) (hN:1048577 < N):Jd N name (HF g)=some (match g.find? (fun f=>f.name==name) with
   | some f=>(av 0 f.tree,true)
   | none=>([],false)):=ajS N g name hm N 0 (by omega) (by omega)
theorem Uc (M:Nat) (g:List aM) (t x:aj) (hm:g.length≤1048576) (hs:∀ f,f∈g→2*aB f.tree+2≤M∧aB f.tree≤1048576):∀ (n i:Nat),g.length - i < n→i≤g.length→
  wQ M (mW M) n (g,t,x,(i:Int))=match (g.drop i).find? (fun f=>f.name==t.text) with
   | some f=>some (g,mX f.tree x)
   | none=>some (g++[⟨t.text,x⟩],true):=by
 intro n
 induction n with
 | zero=>intro i h;omega
 | succ n ih=>
  intro i hn hi
  rw [wQ]
  by_cases h:i < g.length
  ·obtain ⟨s1,s2⟩:=hs _ (List.getElem_mem h)
   simp only [bN h,cond_true,aP h,au]
   rw [drop_cons h,List.find?_cons,jH h (by simp only [maxLen];omega)]
   cases (g[i].name==t.text) with
   | true=>
    simp only [cond_true]
    have:=ajR g[i].tree x M s1 s2
    unfold rV
    rw [this]
    rfl
   | false=>
    simp only [cond_false]
    exact ih (i+1) (by omega) (by omega)
  ·simp only [bT h,cond_false]
   rw [drop_nil h,gq (by simp;omega)]
   rfl
def GInv (l:List ak) (g:List aM):Prop:=∀ f,f∈g→fq f.tree.kind=true∧(∃ s k,TA l f.tree s k)∧f.name.length=1
theorem ajU {k:Int} {t:List UInt8} (h:hB k t=true):t.length=1:=by
 unfold hB at h
 match t with
 | []=>simp at h
 | [c]=>rfl
 | a::b::r=>simp at h
theorem ajV (p l:List ak) (M:Nat) (t x:aj) (n m:ak) (i j:Nat) (hp:p[i]?=some n) (hx:l[j]?=some m) {sp ep sx ex:Nat} (hkp:KA p t.kids n.Kids sp ep) (hkx:KA l x.kids m.Kids sx ex) (hl:t.kids.length=x.kids.length) (hm:t.kids.length≤1048576)
  (ih:∀ tk,tk∈t.kids→∀ (xk:aj) (s k s' k':Nat) (g:List aM),TA p tk s k→TA l xk s' k'→GInv l g→g.length+aB tk≤1000→
   ∃ g' b h,(mW M).kG tk xk g=some (g',b)∧(zL M).mo p (k:Int) l (k':Int) (HF g)=some (h,b)∧(b=true→h=HF g'∧GInv l g'∧g'.length≤g.length+aB tk)):
  ∀ (r q:Nat) (g:List aM),t.kids.length - q < r→q≤t.kids.length→GInv l g→g.length+aD (t.kids.drop q)≤1000→
   ∃ g' b h,qj M (mW M) r (t,x,(q:Int),g)=some (g',b)∧CK M (zL M) r (p,(i:Int),l,(j:Int),(q:Int),HF g)=some (h,b)∧(b=true→h=HF g'∧GInv l g'∧g'.length≤g.length+aD (t.kids.drop q)):=by
 have hpl:n.Kids.length=t.kids.length:=by rw [hkp.part.2.2.2,uw]
 have hxl:m.Kids.length=x.kids.length:=by rw [hkx.part.2.2.2,uw]
 intro r
 induction r with
 | zero=>intro q g h;omega
 | succ r ihr=>
  intro q g hr hq hg hsz
  rw [qj,CK,je hp,je hx]
  simp only [au]
  by_cases h:q < t.kids.length
  ·have h1:q < n.Kids.length:=by omega
   have h2:q < x.kids.length:=by omega
   have h3:q < m.Kids.length:=by omega
   obtain ⟨k,s,e1,ta,_⟩:=hkp.get q t.kids[q] (List.getElem?_eq_getElem h)
   obtain ⟨k',s',e2,Ud,_⟩:=hkx.get q x.kids[q] (List.getElem?_eq_getElem h2)
   rw [drop_cons h,aD] at hsz
   obtain ⟨g',b,hh,b1,b2,b3⟩:=ih _ (List.getElem_mem h) _ s k s' k' g ta Ud hg (by omega)
   simp only [bN h,bN h1,cond_true,aP h,aP h2,je e1,je e2,au,b1,b2]
   cases b with
   | false=>exact ⟨[],false,hh,rfl,rfl,fun h=>by cases h⟩
   | true=>
    obtain ⟨c1,c2,c3⟩:=b3 rfl
    subst c1
    simp only [Bool.not_true,cond_false]
    rw [jH h (by simp only [maxLen];omega)]
    obtain ⟨g2,b,h2,d1,d2,d3⟩:=ihr (q+1) g' (by omega) (by omega) c2 (by omega)
    refine ⟨g2,b,h2,d1,d2,fun hb=>?_⟩
    obtain ⟨f1,f2,f3⟩:=d3 hb
    refine ⟨f1,f2,?_⟩
    rw [drop_cons h,aD]
    omega
  ·have h1: ¬q < n.Kids.length:=by omega
   simp only [bT h,bT h1,cond_false]
   exact ⟨g,true,HF g,rfl,rfl,fun _=>⟨rfl,hg,by omega⟩⟩
theorem Ph (p l:List ak) (hs:∀ z,z∈l→bZ z) (hsh:fM l=true):∀ (t x:aj) (sp i sx j N:Nat) (g:List aM),TA p t sp i→TA l x sx j→GInv l g→g.length+aB t≤1000→1048577+1000+2*aB t≤N→aB t≤400→
  ∃ g' b h,(mW N).kG t x g=some (g',b)∧(zL N).mo p (i:Int) l (j:Int) (HF g)=some (h,b)∧(b=true→h=HF g'∧GInv l g'∧g'.length≤g.length+aB t):=by
 obtain ⟨l1,l2,_,_,_,_,hT,t0,ht0⟩:=fT hsh
 have hsz0:∀ {y:aj} {s k:Nat},TA l y s k→aB y≤400:=fun h=>by have:=h.part.2.1;have:=h.lt;omega
 intro t
 induction t using aj.ind with
 | h t ih=>
  intro x sp i sx j N g hp hx hg hgl hN hsz
  obtain ⟨M,rfl⟩:∃ M,N=M+1:=⟨N - 1,by omega⟩
  have hst:=kK t
  have htl:=jO t.kids
  obtain ⟨n,hn,n1,n2,n3,n4,nk,GL⟩:=hp.node
  obtain ⟨m,hm,m1,m2,m3,m4,mk,mkl⟩:=hx.node
  show ∃ g' b h,uj M (mW M) t x g=some (g',b)∧KC M (zL M) p (i:Int) l (j:Int) (HF g)=some (h,b)∧_
  unfold uj KC
  rw [KX,je hn,je hm]
  simp only [au,TV,n1,n3]
  cases hh:hB n.Kind n.Text with
  | true=>
   have hgs:∀ f,f∈g→2*aB f.tree+2≤M∧aB f.tree≤1048576:=fun f hf=>by
    obtain ⟨_,⟨s,k,hk⟩,_⟩:=hg f hf
    have:=hsz0 hk
    omega
   have hgo:=Uc M g t x (by omega) hgs M 0 (by omega) (by omega)
   rw [List.drop_zero,n3] at hgo
   simp only [cond_true,abe M l (by omega) hs hsh hx,au,abd M g n.Text (by omega) (by omega),nQ,pF,m1]
   cases La:g.find? (fun f=>f.name==n.Text) with
   | some f=>
    rw [La] at hgo
    have hf:f∈g:=List.mem_of_find?_eq_some La
    obtain ⟨fe,⟨s,k,hk⟩,_⟩:=hg f hf
    have aui:=hsz0 hk
    simp only [cond_true,ajP M f.tree x (by omega) (by omega),au]
    cases he:fq m.Kind with
    | true=>
     simp only [Bool.not_true,cond_false]
     refine ⟨g,mX f.tree x,HF g,hgo,rfl,fun _=>⟨rfl,hg,by omega⟩⟩
    | false=>
     simp only [Bool.not_false,cond_true]
     have hne:mX f.tree x=false:=by
      cases hq:mX f.tree x with
      | false=>rfl
      | true=>
       have:=(Pf _ _).1 hq
       rw [this,m1,he] at fe
       cases fe
     rw [hne]
     exact ⟨[],false,HF g,rfl,rfl,fun h=>by cases h⟩
   | none=>
    rw [La] at hgo
    simp only [cond_false]
    rw [gq (by simp [HF];omega)]
    simp only [au]
    have hHF:HF g++[(⟨n.Text,av 0 x⟩:fA)]=HF (g++[⟨n.Text,x⟩]):=by simp [HF]
    cases he:fq m.Kind with
    | true=>
     simp only [Bool.not_true,cond_false]
     refine ⟨g++[⟨n.Text,x⟩],true,_,hgo,rfl,fun _=>⟨hHF,fun f hf=>?_,by simp;omega⟩⟩
     rcases List.mem_append.1 hf with hf | hf
     ·exact hg f hf
     ·rw [List.mem_singleton.1 hf]
      exact ⟨by rw [m1];exact he,⟨sx,j,hx⟩,ajU hh⟩
    | false=>
     simp only [Bool.not_false,cond_true]
     exact ⟨[],false,_,rfl,rfl,fun h=>by cases h⟩
  | false=>
   simp only [cond_false,KZ,au]
   have hal:nD t x=(n.Kind==m.Kind&&(n.Op==m.Op&&(n.Text==m.Text&&(n.Other==m.Other&&((n.Kids.length:Int)==(m.Kids.length:Int)))))):=by
    unfold nD
    rw [n1,n2,n3,n4,GL,m1,m2,m3,m4,mkl]
   rw [hal]
   have hch:(bif n.Kind !=m.Kind then some true else bif n.Op !=m.Op then some true else bif !(n.Text==m.Text) then some true else bif !(n.Other==m.Other) then some true else some ((n.Kids.length:Int) !=(m.Kids.length:Int)))=
     some (!(n.Kind==m.Kind&&(n.Op==m.Op&&(n.Text==m.Text&&(n.Other==m.Other&&((n.Kids.length:Int)==(m.Kids.length:Int))))))):=by
    unfold bne
    cases (n.Kind==m.Kind)<;>cases (n.Op==m.Op)<;>cases (n.Text==m.Text)<;>cases (n.Other==m.Other)<;>rfl
   rw [hch]
   simp only [au]
   cases hab:(n.Kind==m.Kind&&(n.Op==m.Op&&(n.Text==m.Text&&(n.Other==m.Other&&((n.Kids.length:Int)==(m.Kids.length:Int)))))) with
   | false=>exact ⟨[],false,HF g,rfl,rfl,fun h=>by cases h⟩
   | true=>
    simp only [Bool.not_true,cond_false]
    simp only [Bool.and_eq_true,beq_iff_eq] at hab
    have hkl:t.kids.length=x.kids.length:=by omega
    have:=ajV p l M t x n m i j hn hm nk mk hkl (by omega) (fun tk htk xk s k s' k' g' ta Ud hg' hsz'=>ih tk htk xk s k s' k' M g' ta Ud hg' hsz' (by have:=jP htk;omega) (by have:=jP htk;omega)) M 0 g (by omega) (by omega) hg (by rw [List.drop_zero];omega)
    obtain ⟨g',b,h,c1,c2,c3⟩:=this
    refine ⟨g',b,h,c1,c2,fun hb=>?_⟩
    obtain ⟨d1,d2,d3⟩:=c3 hb
    rw [List.drop_zero] at d3
    exact ⟨d1,d2,by omega⟩
theorem ajY (p:List ak) (t x:aj) (N:Nat) (ht:fq t.kind=true) (hx:fq x.kind=false):kG (N+1) t x []=some ([],false):=by
 show uj N (mW N) t x []=_
 unfold uj
 rw [KX]
 simp only [au,nQ,hx,KZ]
 cases hB t.kind t.text with
 | true=>rfl
 | false=>
  have:(t.kind==x.kind)=false:=by
   cases h:(t.kind==x.kind) with
   | false=>rfl
   | true=>
    rw [beq_iff_eq] at h
    rw [h,hx] at ht
    cases ht
  unfold nD
  rw [this]
  rfl
mutual
def dL (g:List aM):aj→aj
 | ⟨k,o,x,y,ks⟩=>if hB k x=true then (match g.find? (fun f=>f.name==x) with | some f=>f.tree | none=>⟨k,o,x,y,ks⟩) else ⟨k,o,x,y,iH g ks⟩
def iH (g:List aM):List aj→List aj
 | []=>[]
 | t::ts=>dL g t::iH g ts
end
mutual
theorem Pj (g:List aM) (hg:∀ f,f∈g→aB f.tree≤400):∀ t:aj,aB (dL g t)≤400*aB t
 | ⟨k,o,x,y,ks⟩=>by
  rw [dL]
  have hs:aB ⟨k,o,x,y,ks⟩=aD ks+1:=kK _
  split
  ·split
   ·rename_i f hf
    have:=hg f (List.mem_of_find?_eq_some hf)
    omega
   ·omega
  ·have:=Pk g hg ks
   rw [kK]
   simp only
   omega
theorem Pk (g:List aM) (hg:∀ f,f∈g→aB f.tree≤400):∀ ts:List aj,aD (iH g ts)≤400*aD ts
 | []=>by simp [iH,aD]
 | t::ts=>by
  rw [iH,aD,aD]
  have:=Pj g hg t
  have:=Pk g hg ts
  omega
end
theorem ajZ {k o:Int} {x y:List UInt8} {ks:List aj} (h:bO ⟨k,o,x,y,ks⟩):(∀ t,t∈ks→bO t)∧x.length≤1048576∧y.length≤1048576:=by
 have hk:∀ (ts:List aj) (b:Nat),(∀ z,z∈bK b ts→tx z)→∀ t,t∈ts→bO t:=by
  intro ts
  induction ts with
  | nil=>intro b _ t ht;cases ht
  | cons u ts ih=>
   intro b hz t ht
   rw [bK] at hz
   rcases List.mem_cons.1 ht with rfl | ht
   ·intro z hzz
    have e:=Dl t 0 b
    rw [Nat.zero_add] at e
    have:=hz (nR (b:Int) z) (List.mem_append.2 (.inl (by rw [e];exact List.mem_map_of_mem hzz)))
    exact this
   ·exact ih _ (fun z hzz=>hz z (List.mem_append.2 (.inr hzz))) t ht
 have hall:∀ z,z∈bK 0 ks++[(⟨k,o,x,y,dI 0 ks⟩:ak)]→tx z:=fun z hz=>h z (by rw [av];exact hz)
 have hlast:=hall ⟨k,o,x,y,dI 0 ks⟩ (by simp)
 exact ⟨hk ks 0 fun z hz=>hall z (List.mem_append.2 (.inl hz)),hlast.1,hlast.2⟩
mutual
theorem Pm (g:List aM) (hg:∀ f,f∈g→bO f.tree):∀ t:aj,bO t→bO (dL g t)
 | ⟨k,o,x,y,ks⟩,h=>by
  rw [dL]
  split
  ·split
   ·rename_i f hf
    exact hg f (List.mem_of_find?_eq_some hf)
   ·exact h
  ·obtain ⟨h1,h2,h3⟩:=ajZ h
   exact Pn (abf g hg ks h1) h2 h3
theorem abf (g:List aM) (hg:∀ f,f∈g→bO f.tree):∀ ts:List aj,(∀ t,t∈ts→bO t)→∀ t,t∈iH g ts→bO t
 | [],_,t,ht=>by rw [iH] at ht;cases ht
 | u::ts,h,t,ht=>by
  rw [iH] at ht
  rcases List.mem_cons.1 ht with rfl | ht
  ·exact Pm g hg u (h u (by simp))
  ·exact abf g hg ts (fun v hv=>h v (by simp [hv])) t ht
end
theorem akb (M:Nat) (g:List aM) (t:aj) (hm:g.length≤1048576):∀ (n i:Nat),g.length - i < n→i≤g.length→
  CS M (xA M) n (g,t,(i:Int))=some (match (g.drop i).find? (fun f=>f.name==t.text) with
   | some f=>f.tree
   | none=>t):=by
 intro n
 induction n with
 | zero=>intro i h;omega
 | succ n ih=>
  intro i hn hi
  rw [CS]
  by_cases h:i < g.length
  ·simp only [bN h,cond_true,aP h,au]
   rw [drop_cons h,List.find?_cons,jH h (by simp only [maxLen];omega)]
   cases (g[i].name==t.text) with
   | true=>rfl
   | false=>
    simp only [cond_false]
    exact ih (i+1) (by omega) (by omega)
  ·simp only [bT h,cond_false]
   rw [drop_nil h]
   rfl
theorem abg (M:Nat) (g:List aM) (t:aj) (ht:t.kids.length≤100000) (ih:∀ k,k∈t.kids→(xA M).nP k g=some (dL g k)):∀ (ts:List aj) (n j:Nat) (acc:List aj),t.kids.drop j=ts→ts.length < n→acc.length≤j→j≤t.kids.length→
  zM M (xA M) n (g,t,(j:Int),acc)=some ⟨t.kind,t.op,t.text,t.other,acc++iH g ts⟩
 | [],n,j,acc,hd,hn,ha,hj=>by
  obtain ⟨n,rfl⟩:∃ m,n=m+1:=⟨n - 1,by simp at hn;omega⟩
  have hlt: ¬j < t.kids.length:=by
   intro h
   rw [drop_cons h] at hd
   cases hd
  rw [zM]
  simp only [bT hlt,cond_false,OM,au,iH,List.append_nil]
 | k::ts,n,j,acc,hd,hn,ha,hj=>by
  simp only [List.length_cons] at hn
  obtain ⟨n,rfl⟩:∃ m,n=m+1:=⟨n - 1,by omega⟩
  have hlt:j < t.kids.length:=by
   cases Nat.lt_or_ge j t.kids.length with
   | inl h=>exact h
   | inr h=>rw [List.drop_of_length_le h] at hd;cases hd
  rw [drop_cons hlt] at hd
  injection hd with hd1 hd2
  rw [zM]
  simp only [bN hlt,cond_true,aP hlt,au,ih _ (List.getElem_mem hlt)]
  rw [gq (by simp;omega),au,jH hlt (by simp only [maxLen];omega)]
  have:=abg M g t ht ih ts n (j+1) (acc++[dL g t.kids[j]]) hd2 (by omega) (by simp;omega) (by omega)
  refine Eq.trans this ?_
  rw [← hd1,iH,List.append_assoc]
  rfl
theorem abh (g:List aM) (hm:g.length≤1000):∀ (t:aj) (N:Nat),2*aB t+2+1000≤N→aB t≤100000→(xA N).nP t g=some (dL g t):=by
 intro t
 induction t using aj.ind with
 | h t ih=>
  intro N hN hsz
  obtain ⟨M,rfl⟩:∃ M,N=M+1:=⟨N - 1,by omega⟩
  have hs:=kK t
  have htl:=jO t.kids
  show KH M (xA M) t g=_
  unfold KH
  rw [KX,au]
  have h1:=akb M g t (by omega) M 0 (by omega) (by omega)
  have h2:=abg M g t (by omega) (fun k hk=>ih k hk M (by have:=jP hk;omega) (by have:=jP hk;omega)) t.kids M 0 [] rfl (by omega) (by simp) (by omega)
  obtain ⟨k,o,x,y,ks⟩:=t
  rw [dL]
  simp only at h1 h2 ⊢
  cases hh:hB k x with
  | true=>
   rw [cond_true,if_pos rfl]
   refine Eq.trans h1 ?_
   rw [List.drop_zero]
  | false=>
   rw [cond_false,if_neg (by simp)]
   exact h2
theorem QG (t:aj) (h:aB t≤1000000):∀ x,x∈av 0 t→Ie x:=fun x hx k hk=>by
 have:=GN t 0 x hx k hk
 omega
theorem abj (M:Nat) (r:List ak) (g:List aM) (t:aj) (n:ak) (i:Nat) (hr:r[i]?=some n) {s e:Nat} (hk:KA r t.kids n.Kids s e) (hM:1048577 < M) (hl:t.kids.length≤100000) (hsz:aD (iH g t.kids)≤900000)
  (ih:∀ k,k∈t.kids→∀ s' i':Nat,TA r k s' i'→(yX M).lW r (i':Int) (HF g)=some (av 0 (dL g k))):∀ (ts:List aj) (f j:Nat) (acc:List aj),t.kids.drop j=ts→ts.length < f→acc.length≤j→j≤t.kids.length→acc++iH g ts=iH g t.kids→
  yV M (yX M) (HF g) f (r,(i:Int),(j:Int),acc.map (av 0))=some (av 0 ⟨n.Kind,n.Op,n.Text,n.Other,iH g t.kids⟩)
 | [],f,j,acc,hd,hf,ha,hj,he=>by
  obtain ⟨f,rfl⟩:∃ m,f=m+1:=⟨f - 1,by simp at hf;omega⟩
  have hkl:n.Kids.length=t.kids.length:=by rw [hk.part.2.2.2,uw]
  have hlt: ¬j < n.Kids.length:=by
   intro h
   rw [drop_cons (by omega)] at hd
   cases hd
  rw [iH,List.append_nil] at he
  subst he
  rw [yV]
  simp only [je hr,au,bT hlt,cond_false,Ab M n _ hM hsz]
 | k::ts,f,j,acc,hd,hf,ha,hj,he=>by
  simp only [List.length_cons] at hf
  obtain ⟨f,rfl⟩:∃ m,f=m+1:=⟨f - 1,by omega⟩
  have hlt:j < t.kids.length:=by
   cases Nat.lt_or_ge j t.kids.length with
   | inl h=>exact h
   | inr h=>rw [List.drop_of_length_le h] at hd;cases hd
  have hkl:n.Kids.length=t.kids.length:=by rw [hk.part.2.2.2,uw]
  have hlt2:j < n.Kids.length:=by omega
  rw [drop_cons hlt] at hd
  injection hd with hd1 hd2
  obtain ⟨i',s',e1,ta,_⟩:=hk.get j t.kids[j] (List.getElem?_eq_getElem hlt)
  rw [yV]
  simp only [je hr,au,bN hlt2,cond_true,je e1,ih _ (List.getElem_mem hlt) s' i' ta]
  rw [gq (by simp;omega),au,jH hlt2 (by simp only [maxLen];omega)]
  have e:acc.map (av 0)++[av 0 (dL g t.kids[j])]=(acc++[dL g t.kids[j]]).map (av 0):=by simp
  rw [e]
  refine abj M r g t n i hr hk hM hl hsz ih ts f (j+1) _ hd2 (by omega) (by simp;omega) (by omega) ?_
  rw [← he,← hd1,iH,List.append_assoc]
  rfl
theorem Ue (r:List ak) (g:List aM) (hm:g.length≤1000) (hg:∀ f,f∈g→aB f.tree≤400∧bO f.tree) (hnk:∀ x,x∈r→x.Kind=1→x.Kids=[]):∀ (t:aj) (s i N:Nat),TA r t s i→aB t≤400→1048577+1000+2*aB t≤N→
  (yX N).lW r (i:Int) (HF g)=some (av 0 (dL g t)):=by
 intro t
 induction t using aj.ind with
 | h t ih=>
  intro s i N hp hsz hN
  obtain ⟨M,rfl⟩:∃ M,N=M+1:=⟨N - 1,by omega⟩
  have hs:=kK t
  have htl:=jO t.kids
  obtain ⟨n,hn,n1,n2,n3,n4,nk,GL⟩:=hp.node
  have hf:=Pk g (fun f hf=>(hg f hf).1) t.kids
  have hloop:=abj M r g t n i hn nk (by omega) (by omega) (by omega) (fun k hk s' i' ta=>ih k hk s' i' M ta (by have:=jP hk;omega) (by have:=jP hk;omega)) t.kids M 0 [] rfl (by omega) (by simp) (by omega) rfl
  show Jf M (yX M) r (i:Int) (HF g)=_
  unfold Jf Je
  rw [je hn]
  simp only [au,TV]
  obtain ⟨k,o,x,y,ks⟩:=t
  simp only at n1 n2 n3 n4 nk GL hloop
  subst n1 n2 n3 n4
  rw [dL]
  cases hh:hB n.Kind n.Text with
  | true=>
   simp only [cond_true,abd M g n.Text (by omega) (by omega),au,if_pos]
   cases La:g.find? (fun f=>f.name==n.Text) with
   | some f=>
    obtain ⟨f1,f2⟩:=hg f (List.mem_of_find?_eq_some La)
    have hp1:=fZ f.tree
    have hlen:decide (((av 0 f.tree).length:Int) > 0)=true:=by rw [bD];simp;omega
    simp only [cond_true,au,hlen]
    rw [Ig M _ (by omega) (by rw [bD];omega) (jf (by omega) f2 0) (QG _ (by omega)),au]
   | none=>
    simp only [cond_false,au]
    have hk1:n.Kind=1:=by
     unfold hB at hh
     simp only [Bool.and_eq_true,beq_iff_eq] at hh
     exact hh.1
    have hk0:ks=[]:=by
     have:=hnk n (List.mem_of_getElem? hn) hk1
     rw [this] at GL
     exact List.length_eq_zero_iff.1 GL
    subst hk0
    rw [iH] at hloop
    exact hloop
  | false=>
   rw [cond_false,if_neg (by simp)]
   exact hloop
theorem abk (G:Nat) (t:aj) (ht:aB t≤1000000) (ih:∀ k,k∈t.kids→(CW G).qp k=some (aB k:Int)):∀ (ts:List aj) (n j m:Nat),t.kids.drop j=ts→ts.length < n→j≤t.kids.length→m+aD ts≤1000000→
  zR G (CW G) n (t,(m:Int),(j:Int))=some ((m+aD ts:Nat):Int)
 | [],n,j,m,hd,hn,hj,hm=>by
  obtain ⟨n,rfl⟩:∃ q,n=q+1:=⟨n - 1,by simp at hn;omega⟩
  have hlt: ¬j < t.kids.length:=by
   intro h
   rw [drop_cons h] at hd
   cases hd
  rw [zR]
  simp only [bT hlt,cond_false,aD,Nat.add_zero]
 | k::ts,n,j,m,hd,hn,hj,hm=>by
  simp only [List.length_cons] at hn
  rw [aD] at hm
  obtain ⟨n,rfl⟩:∃ q,n=q+1:=⟨n - 1,by omega⟩
  have hlt:j < t.kids.length:=by
   cases Nat.lt_or_ge j t.kids.length with
   | inl h=>exact h
   | inr h=>rw [List.drop_of_length_le h] at hd;cases hd
  have htl:=jO t.kids
  have hs:=kK t
  rw [drop_cons hlt] at hd
  injection hd with hd1 hd2
  rw [zR]
  simp only [bN hlt,cond_true,aP hlt,au,hd1,ih k (by rw [← hd1];exact List.getElem_mem hlt)]
  rw [wrap64 (n:=(m:Int)+(aB k:Int)) (by omega) (by omega),jH hlt (by simp only [maxLen];omega)]
  have:=abk G t ht ih ts n (j+1) (m+aB k) hd2 (by omega) (by omega) (by omega)
  refine Eq.trans this ?_
  rw [aD,Nat.add_assoc]
theorem abl:∀ (t:aj) (N:Nat),2*aB t+2≤N→aB t≤1000000→(CW N).qp t=some (aB t:Int):=by
 intro t
 induction t using aj.ind with
 | h t ih=>
  intro N hN hsz
  obtain ⟨M,rfl⟩:∃ M,N=M+1:=⟨N - 1,by omega⟩
  have hs:=kK t
  have htl:=jO t.kids
  have:=abk M t hsz (fun k hk=>ih k hk M (by have:=jP hk;omega) (by have:=jP hk;omega)) t.kids M 0 1 rfl (by omega) (by omega) (by omega)
  refine Eq.trans this ?_
  rw [hs,Nat.add_comm]
abbrev edR (M:Nat) (a:List ak) (k:Int) (f:Bool) (p r:aj):Option (List aj×Bool):=
 (zU M).rY a k f p.kind p.op p.text p.other p.kids r.kind r.op r.text r.other r.kids
abbrev Uf (M:Nat) (k:Int) (t:aj) (f:Bool) (p r:aj):Option (List aj×Bool):=
 KP M k t f p.kind p.op p.text p.other p.kids r.kind r.op r.text r.other r.kids
def Ug (N:Nat) (p r x:List ak):Option (List ak):=
 (mo N p (IntKind.wrap .i64 ((p.length:Int) - 1)) x (IntKind.wrap .i64 ((x.length:Int) - 1)) []).bind fun q=>bif q.2 then (lW N r (IntKind.wrap .i64 ((r.length:Int) - 1)) q.1).bind fun y=>(bif (decide ((y.length:Int) > 400)) then some [] else (some y)) else (bif (decide ((x.length:Int) > 400)) then some [] else (some x))
structure AO (p r:List ak) (tp tr:aj):Prop where
 htp:TA p tp 0 (p.length - 1)
 p1:1≤p.length
 p2:p.length≤400
 htr:TA r tr 0 (r.length - 1)
 r1:1≤r.length
 r2:r.length≤400
 rx:bO tr
 nk:∀ x,x∈r→x.Kind=1→x.Kids=[]
theorem Uh (t:aj):(⟨t.kind,t.op,t.text,t.other,t.kids⟩:aj)=t:=by cases t;rfl
theorem akc {p r:List ak} {tp tr:aj} (h:AO p r tp tr) (N:Nat) (k:Int) (t:aj) (f:Bool) (hN:1048577+3000 < N) (hsz:aB t≤500000) (htx:bO t):
  ∃ u f',Uf N k t f tp tr=some ([u],f')∧(f'=true→f=true∧aB u≤400∧aB t≤400)∧(f=true→aB t≤400→Ug N p r (av 0 t)=some (if f'=true then av 0 u else []))∧(f=false→u=t)∧(aB t > 400→u=t)∧aB u≤aB t+160000∧bO u:=by
 obtain ⟨h1,p1,p2,h2,r1,r2,rx,nk⟩:=h
 have hp:aB tp≤400:=by have:=h1.part.2.1;omega
 have hr:aB tr≤400:=by have:=h2.part.2.1;omega
 unfold Uf KP
 cases f with
 | false=>
  simp only [cond_false,au,Bool.not_false,cond_true]
  exact ⟨t,false,rfl,(fun h=>by cases h),(fun h=>by cases h),fun _=>rfl,fun _=>rfl,by omega,htx⟩
 | true=>
  have hsi:qp N t=some (aB t:Int):=abl t N (by omega) (by omega)
  simp only [cond_true,hsi,au]
  by_cases hc:aB t≤400
  ·have d:decide ((aB t:Int)≤400)=true:=by simp;omega
   rw [d]
   simp only [Bool.not_true,cond_false]
   have hsm:=jf (t:=t) (by omega) htx 0
   obtain ⟨g,b,hh,c1,c2,c3⟩:=Ph p (av 0 t) hsm (AL t hc) tp t 0 (p.length - 1) 0 ((av 0 t).length - 1) N [] h1 (jF t) (fun f hf=>by cases hf) (by simp;omega) (by omega) hp
   have d1:kG N tp t []=some (g,b):=c1
   have hl:=fZ t
   have d2:mo N p (IntKind.wrap .i64 ((p.length:Int) - 1)) (av 0 t) (IntKind.wrap .i64 (((av 0 t).length:Int) - 1)) []=some (hh,b):=by
    rw [bD] at c2 ⊢
    rw [wrap64 (by omega) (by omega),wrap64 (by omega) (by omega),show (p.length:Int) - 1=((p.length - 1:Nat):Int) by omega,show (aB t:Int) - 1=((aB t - 1:Nat):Int) by omega]
    exact c2
   unfold Ug
   rw [d2]
   have d1':kG N ⟨tp.kind,tp.op,tp.text,tp.other,tp.kids⟩ t []=some (g,b):=by rw [Uh];exact d1
   rw [d1']
   simp only [au]
   cases b with
   | false=>
    have d3:decide (((av 0 t).length:Int) > 400)=false:=by rw [bD];simp;omega
    simp only [Bool.not_false,cond_true,cond_false,d3]
    exact ⟨t,true,rfl,fun _=>⟨by trivial,hc,hc⟩,fun _ _=>(by rw [if_pos rfl]),fun _=>rfl,fun _=>rfl,by omega,htx⟩
   | true=>
    obtain ⟨rfl,gi,gl⟩:=c3 rfl
    have hg:∀ f,f∈g→aB f.tree≤400∧bO f.tree:=fun f hf=>by
     obtain ⟨_,⟨s,q,hq⟩,_⟩:=gi f hf
     have h3:=hq.part.2.1
     have h4:=hq.lt
     rw [bD] at h4
     exact ⟨by omega,vP hsm hq⟩
    have hgl:g.length≤1000:=by simp at gl;omega
    have e1:nP N tr g=some (dL g tr):=abh g hgl tr N (by omega) (by omega)
    have Et:nP N ⟨tr.kind,tr.op,tr.text,tr.other,tr.kids⟩ g=some (dL g tr):=by rw [Uh];exact e1
    have e2:lW N r (IntKind.wrap .i64 ((r.length:Int) - 1)) (HF g)=some (av 0 (dL g tr)):=by
     rw [wrap64 (by omega) (by omega),show (r.length:Int) - 1=((r.length - 1:Nat):Int) by omega]
     exact Ue r g hgl hg nk tr 0 (r.length - 1) N h2 hr (by omega)
    have hfs:=Pj g (fun f hf=>(hg f hf).1) tr
    have e3:qp N (dL g tr)=some (aB (dL g tr):Int):=abl _ N (by omega) (by omega)
    simp only [Bool.not_true,cond_false,cond_true,Et,e2,e3,au,bD]
    refine ⟨dL g tr,decide ((aB (dL g tr):Int)≤400),rfl,fun hf=>⟨by trivial,(by have:=of_decide_eq_true hf;omega),hc⟩,fun _ _=>?_,(fun h=>by cases h),(fun h=>by omega),by omega,Pm g (fun f hf=>(hg f hf).2) tr rx⟩
    by_cases hle:aB (dL g tr)≤400
    ·have d4:decide ((aB (dL g tr):Int)≤400)=true:=by simp;omega
     have d5:decide ((aB (dL g tr):Int) > 400)=false:=by simp;omega
     rw [d4,d5,cond_false,if_pos rfl]
    ·have d4:decide ((aB (dL g tr):Int)≤400)=false:=by simp;omega
     have d5:decide ((aB (dL g tr):Int) > 400)=true:=by simp;omega
     rw [d4,d5,cond_true,if_neg (by simp)]
  ·have d:decide ((aB t:Int)≤400)=false:=by simp;omega
   rw [d]
   simp only [Bool.not_false,cond_true]
   exact ⟨t,false,rfl,(fun h=>by cases h),(fun _ h=>by omega),fun _=>rfl,fun _=>rfl,by omega,htx⟩
def Bd (f f':Bool):Nat:=if f=true∧f'=false then 160400 else 0
theorem abn {p r:List ak} {tp tr:aj} (f0:Bool) (a:List ak) (M i:Nat) (e:ak) (he:a[i]?=some e) (hM:1048577 < M) (hek:e.Kids.length≤400):∀ (ts:List aj) (j n n' s:Nat) (acc:List aj) (f:Bool),
  (∀ t,t∈ts→∀ (s k:Nat) (f:Bool),TA a t s k→k < i→∃ u f',edR M a (k:Int) f tp tr=some ([u],f')∧(f'=true→f=true∧aB u≤400)∧(f=true→(rZ M).lM a (k:Int) p r=some (if f'=true then av 0 u else []))∧aB u≤401*aB t+Bd f f'∧bO u)→
  KA a ts (e.Kids.drop j) s i→acc.length≤j→j≤e.Kids.length→ts.length < n→ts.length < n'→(∀ q,q∈acc→bO q)→aD ts≤400→
  ∃ res fe,zS M (zU M) f0 tp.kind tp.op tp.text tp.other tp.kids tr.kind tr.op tr.text tr.other tr.kids n (a,(i:Int),e,(j:Int),f,acc)=Option.bind (Uf M (i:Int) ⟨e.Kind,e.Op,e.Text,e.Other,acc++res⟩ fe tp tr) (fun q=>some (q.1,q.2))∧
   (fe=true→f=true)∧aD res≤401*aD ts+Bd f fe∧(∀ q,q∈acc++res→bO q)∧
   (f=true→1+aD acc≤400→qw M (rZ M) n' (a,(i:Int),p,r,((1+aD acc:Nat):Int),(j:Int),acc.map (av 0))=if fe=true∧1+aD (acc++res)≤400 then Ug M p r (av 0 ⟨e.Kind,e.Op,e.Text,e.Other,acc++res⟩) else some [])
 | [],j,n,n',s,acc,f,ih,h,ha,hj,hn,hn',htx,hts=>by
  simp only [KA] at h
  obtain ⟨n,rfl⟩:∃ m,n=m+1:=⟨n - 1,by simp at hn;omega⟩
  obtain ⟨n',rfl⟩:∃ m,n'=m+1:=⟨n' - 1,by simp at hn';omega⟩
  have hlt: ¬j < e.Kids.length:=by
   intro hlt
   rw [drop_cons hlt] at h
   cases h.1
  refine ⟨[],f,?_,id,by simp [aD],by simpa using htx,fun hf hsz=>?_⟩
  ·rw [zS]
   simp only [bT hlt,cond_false,List.append_nil]
  ·rw [qw,List.append_nil,if_pos ⟨hf,hsz⟩]
   simp only [je he,au,bT hlt,cond_false,Ab M e acc hM (by omega)]
   rfl
 | t::ts,j,n,n',s,acc,f,ih,h,ha,hj,hn,hn',htx,hts=>by
  simp only [KA] at h
  obtain ⟨k,ks',hd,h1,h2,ru,hka⟩:=h
  simp only [List.length_cons] at hn hn'
  rw [aD] at hts
  obtain ⟨n,rfl⟩:∃ m,n=m+1:=⟨n - 1,by omega⟩
  obtain ⟨n',rfl⟩:∃ m,n'=m+1:=⟨n' - 1,by omega⟩
  have hlt:j < e.Kids.length:=by
   cases Nat.lt_or_ge j e.Kids.length with
   | inl h=>exact h
   | inr h=>rw [List.drop_of_length_le h] at hd;cases hd
  rw [drop_cons hlt] at hd
  injection hd with hd1 hd2
  obtain ⟨u,f1,u1,u2,u3,u4,u5⟩:=ih t (by simp) s k f ru h2
  have hx:ix e.Kids (j:Int)=some (k:Int):=by rw [aP hlt,hd1]
  obtain ⟨res,fe,v1,v2,v3,v4,v5⟩:=abn f0 a M i e he hM hek ts (j+1) n n' (k+1) (acc++[u]) f1 (fun t' h'=>ih t' (by simp [h'])) (hd2 ▸ hka) (by simp;omega) (by omega) (by omega) (by omega) (fun q hq=>(List.mem_append.1 hq).elim (htx q) fun h=>by rw [List.mem_singleton.1 h];exact u5) (by omega)
  have eu:acc++[u]++res=acc++(u::res):=by simp
  rw [eu] at v1 v4 v5
  have hpu:=fZ u
  refine ⟨u::res,fe,?_,fun h=>(u2 (v2 h)).1,?_,v4,fun hf hsz=>?_⟩
  ·rw [zS]
   simp only [bN hlt,cond_true,hx,au]
   have Ui:(zU M).rY a (k:Int) f tp.kind tp.op tp.text tp.other tp.kids tr.kind tr.op tr.text tr.other tr.kids=some ([u],f1):=u1
   rw [Ui,au,gq (by simp;omega),au,jH hlt (by simp only [maxLen];omega)]
   exact v1
  ·rw [aD,aD]
   unfold Bd at u4 v3 ⊢
   cases f<;>cases f1<;>cases fe<;>simp_all<;>omega
  ·rw [qw]
   simp only [je he,au,bN hlt,cond_true,hx]
   rw [u3 hf,au]
   have hsz2:aD (acc++[u])=aD acc+aB u:=by rw [xC,aD,aD];omega
   have htot:aD (acc++(u::res))=aD acc+aB u+aD res:=by rw [xC,aD];omega
   cases f1 with
   | false=>
    rw [if_neg (by simp)]
    have hne: ¬(fe=true∧1+aD (acc++(u::res))≤400):=fun hh=>by have:=v2 hh.1;cases this
    rw [if_neg hne]
    rfl
   | true=>
    have hu4:=(u2 rfl).2
    rw [if_pos rfl,bD]
    have hz:((aB u:Int)==0)=false:=by simp;omega
    rw [hz,cond_false,au,wrap64 (n:=((1+aD acc:Nat):Int)+(aB u:Int)) (by omega) (by omega)]
    by_cases hg:1+aD acc+aB u > 400
    ·have d:decide (((1+aD acc:Nat):Int)+(aB u:Int) > 400)=true:=by simp;omega
     have hne: ¬(fe=true∧1+aD (acc++(u::res))≤400):=fun hh=>by omega
     rw [d,cond_true,if_neg hne]
    ·have d:decide (((1+aD acc:Nat):Int)+(aB u:Int) > 400)=false:=by simp;omega
     have hml:(acc.map (av 0)).length≤400:=by simp;omega
     rw [d,cond_false,gq (by simp;omega),au,jH hlt (by simp only [maxLen];omega)]
     have:=v5 rfl (by omega)
     rw [hsz2,List.map_append,List.map_cons,List.map_nil,show 1+(aD acc+aB u)=1+aD acc+aB u by omega] at this
     exact this
theorem akd {p r:List ak} {tp tr:aj} (hpr:AO p r tp tr) (a:List ak) (hs:∀ z,z∈a→bZ z) (hk:∀ z,z∈a→z.Kids.length≤400):∀ (t:aj) (s i N:Nat) (f:Bool),TA a t s i→aB t≤400→1048577+3000+2*aB t+2≤N→
  ∃ u f',edR N a (i:Int) f tp tr=some ([u],f')∧(f'=true→f=true∧aB u≤400)∧(f=true→(rZ N).lM a (i:Int) p r=some (if f'=true then av 0 u else []))∧aB u≤401*aB t+Bd f f'∧bO u:=by
 intro t
 induction t using aj.ind with
 | h t ih=>
  intro s i N f ru hsz hN
  obtain ⟨M,rfl⟩:∃ M,N=M+1:=⟨N - 1,by omega⟩
  have hst:=kK t
  have htl:=jO t.kids
  obtain ⟨e,he,n1,n2,n3,n4,nk,GL⟩:=ru.node
  have hea:=List.mem_of_getElem? he
  have hsm:=hs e hea
  unfold bZ at hsm
  obtain ⟨res,fe,v1,v2,v3,v4,v5⟩:=abn (p:=p) (r:=r) (tp:=tp) (tr:=tr) f a M i e he (by omega) (hk e hea) t.kids 0 M M s [] f
   (fun k hk' s' k' f' ta _=>ih k hk' s' k' M f' ta (by have:=jP hk';omega) (by have:=jP hk';omega)) (by rw [List.drop_zero];exact nk) (by simp) (by omega) (by omega) (by omega) (fun q hq=>by cases hq) (by omega)
  rw [List.nil_append] at v1 v4 v5
  have hbd:Bd f fe≤160400:=by unfold Bd;split<;>omega
  have htn:bO ⟨e.Kind,e.Op,e.Text,e.Other,res⟩:=Pn v4 hsm.1 hsm.2.1
  have ake:aB ⟨e.Kind,e.Op,e.Text,e.Other,res⟩=aD res+1:=kK _
  obtain ⟨u,f',w1,w2,w3,w4,w5,w6,w7⟩:=akc hpr M (i:Int) ⟨e.Kind,e.Op,e.Text,e.Other,res⟩ fe (by omega) (by omega) htn
  refine ⟨u,f',?_,fun h=>⟨v2 (w2 h).1,(w2 h).2.1⟩,fun hf=>?_,?_,w7⟩
  ·show KR M (zU M) a (i:Int) f tp.kind tp.op tp.text tp.other tp.kids tr.kind tr.op tr.text tr.other tr.kids=_
   unfold KR
   rw [je he,au]
   refine Eq.trans v1 ?_
   rw [w1]
   rfl
  ·show Da M (rZ M) a (i:Int) p r=_
   unfold Da
   refine Eq.trans (v5 hf (by simp [aD])) ?_
   by_cases hc:fe=true∧1+aD res≤400
   ·rw [if_pos hc]
    exact w3 hc.1 (by omega)
   ·rw [if_neg hc]
    cases f' with
    | false=>rw [if_neg (by simp)]
    | true=>
     have:=w2 rfl
     exact absurd ⟨this.1,by omega⟩ hc
  ·unfold Bd at v3 ⊢
   by_cases hff:fe=false∨aD res+1 > 400
   ·have hu:u=⟨e.Kind,e.Op,e.Text,e.Other,res⟩:=by
     rcases hff with h | h
     ·exact w4 h
     ·exact w5 (by omega)
    rw [hu,ake]
    cases f<;>cases f'<;>cases fe<;>simp_all<;>omega
   ·have hfe:fe=true:=by
     cases fe with
     | true=>rfl
     | false=>exact absurd (.inl rfl) hff
    have hf:=v2 hfe
    subst hfe hf
    cases f' with
    | true=>have:=(w2 rfl).2.1;simp;omega
    | false=>simp;omega
theorem abq (N:Nat) (a p r:List ak) (hN:1048577+10000 < N) (ha:a.length≤1048576) (hs:∀ x,x∈a→bZ x) (hi:∀ x,x∈a→Ie x) (hsp:∀ x,x∈p→bZ x) (hsr:∀ x,x∈r→bZ x):
  ∃ b,rE N a p r=some b∧zV N a p r=some b∧b.1.length≤1048576∧∀ x,x∈b.1→bZ x:=by
 obtain ⟨b,b1,b2,b3⟩:=qI N a (by omega) hs
 obtain ⟨c,c1,c2,c3⟩:=Po N p (by omega) hsp
 obtain ⟨d,d1,d2,d3⟩:=Po N r (by omega) hsr
 have hc1:=Ig N a (by omega) ha hs hi
 have hc2:=akf N a (by omega) ha hs
 unfold rE zV OQ
 rw [b1,b2,c1,c2,d1,d2]
 simp only [au]
 cases b with
 | false=>
  simp only [Bool.not_false,cond_true,au,hc1,hc2]
  exact ⟨_,rfl,rfl,ha,hs⟩
 | true=>
  cases c with
  | false=>
   simp only [Bool.not_true,Bool.not_false,cond_true,cond_false,au,hc1,hc2]
   exact ⟨_,rfl,rfl,ha,hs⟩
  | true=>
   cases d with
   | false=>
    simp only [Bool.not_true,Bool.not_false,cond_true,cond_false,au,hc1,hc2]
    exact ⟨_,rfl,rfl,ha,hs⟩
   | true=>
    obtain ⟨hsh,_⟩:=b3 rfl
    obtain ⟨akg,_⟩:=c3 rfl
    obtain ⟨abr,_⟩:=d3 rfl
    obtain ⟨l1,l2,_,_,_,_,_,t,ht⟩:=fT hsh
    obtain ⟨p1,p2,_,_,_,_,_,tp,htp⟩:=fT akg
    obtain ⟨r1,r2,_,_,_,_,_,tr,htr⟩:=fT abr
    have hlt:p.length - 1 < p.length:=by omega
    have hx:ix p (IntKind.wrap .i64 ((p.length:Int) - 1))=some p[p.length - 1]:=by
     rw [wrap64 (by omega) (by omega),show (p.length:Int) - 1=((p.length - 1:Nat):Int) by omega,aP hlt]
    simp only [Bool.not_true,cond_false,hx,au,TV,TW]
    cases hB p[p.length - 1].Kind p[p.length - 1].Text with
    | true=>
     simp only [cond_true,au,hc1,hc2]
     exact ⟨_,rfl,rfl,ha,hs⟩
    | false=>
     have akh:bM N r=some true:=by
      unfold fG at d1
      obtain ⟨q,hq,hd⟩:=Option.bind_eq_some_iff.1 d1
      obtain ⟨q',hq',hd'⟩:=Option.bind_eq_some_iff.1 hq
      cases q' with
      | true=>exact hq'
      | false=>
       simp only [cond_false,Option.some.injEq] at hd'
       subst hd'
       simp only [Option.some.injEq] at hd
       cases hd
     have hpr:AO p r tp tr:=⟨htp,p1,p2,htr,r1,r2,vP hsr htr,abt N r (by omega) abr akh⟩
     have hsz:aB t≤400:=by have:=ht.part.2.1;omega
     obtain ⟨u,f',u1,u2,u3,u4,u5⟩:=akd hpr a hs (fun z hz=>(Lb hsh z hz).1) t 0 (a.length - 1) N true ht hsz (by omega)
     have u3:=u3 rfl
     have hbd:Bd true f'≤160400:=by unfold Bd;split<;>omega
     have hw:IntKind.wrap .i64 ((a.length:Int) - 1)=((a.length - 1:Nat):Int):=by
      rw [wrap64 (by omega) (by omega)];omega
     have e1:rY N a ((a.length - 1:Nat):Int) true tp.kind tp.op tp.text tp.other tp.kids tr.kind tr.op tr.text tr.other tr.kids=some ([u],f'):=u1
     have e2:lM N a ((a.length - 1:Nat):Int) p r=some (if f'=true then av 0 u else []):=u3
     have hwi:(decide ((0:Int)≥0)&&decide ((0:Int)≤((a.length - 1:Nat):Int)))=true:=by simp
     have hx0:ix [u] 0=some u:=rfl
     have hne:((([u]:List aj).length:Int) !=1)=false:=rfl
     have EI:=Uj N u (by omega) (by omega)
     have hsm:=jf (t:=u) (by omega) u5 0
     obtain ⟨q,q1,q2,_⟩:=qI N (av 0 u) (by omega) hsm
     simp only [cond_false,au,Ac N p (by omega) htp p1 p2,Ac N r (by omega) htr r1 r2,hw,Dj,hwi,Bool.not_true,e1,e2,hne,hx0,EI,q2]
     unfold Em
     cases f' with
     | false=>
      have q0:bM N []=some false:=by
       unfold bM
       rw [Pb N [] (by omega) (fun x hx=>by cases hx)]
       rfl
      rw [if_neg (by simp),q0]
      simp only [au,Bool.not_false,cond_true,hc1]
      cases q<;>simp only [Bool.not_true,Bool.not_false,cond_true,cond_false,au,hc2]<;>exact ⟨_,rfl,rfl,ha,hs⟩
     | true=>
      rw [if_pos rfl,q1]
      have hu:=(u2 rfl).2
      cases q with
      | false=>
       simp only [Bool.not_true,Bool.not_false,cond_true,cond_false,au,hc1,hc2]
       exact ⟨_,rfl,rfl,ha,hs⟩
      | true=>
       simp only [Bool.not_true,cond_true,cond_false,au]
       exact ⟨_,rfl,rfl,by simp only [bD];omega,hsm⟩
mutual
def fQ:aj→aj→List aM→Option (List aM)
 | ⟨k,o,x,y,ks⟩,u,g=>bif hB k x then (bif fq u.kind then (match g.find? (fun f=>f.name==x) with
   | some f=>bif mX f.tree u then some g else none
   | none=>some (g++[⟨x,u⟩])) else none) else (bif nD ⟨k,o,x,y,ks⟩ u then sj ks u.kids g else none)
def sj:List aj→List aj→List aM→Option (List aM)
 | [],_,g=>some g
 | t::ts,u::us,g=>(match fQ t u g with
   | some g'=>sj ts us g'
   | none=>none)
 | _::_,[],_=>none
end
theorem MR (t u:aj) (g:List aM):fQ t u g=bif hB t.kind t.text then (bif fq u.kind then (match g.find? (fun f=>f.name==t.text) with
   | some f=>bif mX f.tree u then some g else none
   | none=>some (g++[⟨t.text,u⟩])) else none) else (bif nD t u then sj t.kids u.kids g else none):=by
 cases t;rw [fQ]
def Uk (M:Nat) (t u:aj) (g:List aM):Prop:=∃ g'' b,(mW M).kG t u g=some (g'',b)∧(match fQ t u g with
   | some g'=>g''=g'∧b=true
   | none=>b=false)
def Dm (g:List aM):Prop:=g.length≤1000∧∀ f,f∈g→aB f.tree≤400
theorem abu (M:Nat) (t u:aj) (hl:t.kids.length=u.kids.length) (hk:t.kids.length≤100000):∀ (ts us:List aj) (n j:Nat) (g:List aM),t.kids.drop j=ts→u.kids.drop j=us→ts.length < n→j≤t.kids.length→Dm g→g.length+aD ts≤1000→
  (∀ k v g,k∈ts→v∈us→Dm g→g.length+aB k≤1000→Uk M k v g∧∀ g',fQ k v g=some g'→Dm g'∧g'.length≤g.length+aB k)→
  ∃ g'' b,qj M (mW M) n (t,u,(j:Int),g)=some (g'',b)∧(match sj ts us g with
   | some g'=>g''=g'∧b=true∧Dm g'∧g'.length≤g.length+aD ts
   | none=>b=false)
 | [],us,n,j,g,hd,hu,hn,hj,hg,hs,ih=>by
  obtain ⟨n,rfl⟩:∃ m,n=m+1:=⟨n - 1,by simp at hn;omega⟩
  have hlt: ¬j < t.kids.length:=by
   intro h
   rw [drop_cons h] at hd
   cases hd
  rw [qj]
  simp only [bT hlt,cond_false]
  rw [sj]
  exact ⟨g,true,rfl,rfl,rfl,hg,by omega⟩
 | k::ts,us,n,j,g,hd,hu,hn,hj,hg,hs,ih=>by
  simp only [List.length_cons] at hn
  obtain ⟨n,rfl⟩:∃ m,n=m+1:=⟨n - 1,by omega⟩
  have hlt:j < t.kids.length:=by
   cases Nat.lt_or_ge j t.kids.length with
   | inl h=>exact h
   | inr h=>rw [List.drop_of_length_le h] at hd;cases hd
  have hlu:j < u.kids.length:=by omega
  rw [drop_cons hlt] at hd
  injection hd with hd1 hd2
  rw [drop_cons hlu] at hu
  subst hu
  rw [aD] at hs
  obtain ⟨⟨g'',b,e,hm⟩,hG⟩:=ih k u.kids[j] g List.mem_cons_self List.mem_cons_self hg (by omega)
  rw [qj]
  simp only [bN hlt,cond_true,aP hlt,aP hlu,au,hd1,e]
  rw [sj]
  cases hq:fQ k u.kids[j] g with
  | none=>
   rw [hq] at hm
   have hm:b=false:=hm
   subst hm
   exact ⟨[],false,rfl,rfl⟩
  | some g'=>
   rw [hq] at hm
   obtain ⟨rfl,rfl⟩:=hm
   obtain ⟨G1,G2⟩:=hG g'' hq
   simp only [Bool.not_true,cond_false]
   rw [wrap64 (by omega) (by omega),show (j:Int)+1=((j+1:Nat):Int) by omega]
   obtain ⟨q,c,e2,h2⟩:=abu M t u hl hk ts (u.kids.drop (j+1)) n (j+1) g'' hd2 rfl (by omega) (by omega) G1 (by omega) fun k' v' g' hk' hv'=>ih k' v' g' (List.mem_cons_of_mem _ hk') (List.mem_cons_of_mem _ hv')
   refine ⟨q,c,e2,?_⟩
   show (match sj ts (u.kids.drop (j+1)) g'' with
    | some g'=>q=g'∧c=true∧Dm g'∧g'.length≤g.length+aD (k::ts)
    | none=>c=false)
   cases hr:sj ts (u.kids.drop (j+1)) g'' with
   | none=>rw [hr] at h2;exact h2
   | some g3=>
    rw [hr] at h2
    exact ⟨h2.1,h2.2.1,h2.2.2.1,by rw [aD];have:=h2.2.2.2;omega⟩
theorem aki:∀ (t u:aj) (M:Nat) (g:List aM),Dm g→g.length+aB t≤1000→1048577+2*aB t≤M→aB u≤400→aB t≤400→
  Uk M t u g∧∀ g',fQ t u g=some g'→Dm g'∧g'.length≤g.length+aB t:=by
 intro t
 induction t using aj.ind with
 | h t ih=>
  intro u M g hg hs hM hu ht
  obtain ⟨M,rfl⟩:∃ m,M=m+1:=⟨M - 1,by omega⟩
  have hsz:=kK t
  have hkl:=jO t.kids
  rw [MR]
  unfold Uk
  rw [MR]
  show (∃ g'' b,uj M (mW M) t u g=some (g'',b)∧_)∧_
  unfold uj
  rw [KX,au]
  cases hh:hB t.kind t.text with
  | true=>
   simp only [cond_true,nQ,au]
   cases he:fq u.kind with
   | false=>exact ⟨⟨[],false,rfl,rfl⟩,fun g' h=>by cases h⟩
   | true=>
    simp only [Bool.not_true,cond_false,cond_true]
    have abw:=Uc M g t u (by have:=hg.1;omega) (fun f hf=>by have:=hg.2 f hf;omega) M 0 (by have:=hg.1;omega) (by omega)
    rw [List.drop_zero] at abw
    have akj:wQ M (mW M) M (g,t,u,0)=_:=abw
    rw [akj]
    cases hf:g.find? (fun f=>f.name==t.text) with
    | none=>
     refine ⟨⟨_,true,rfl,rfl,rfl⟩,fun g' h=>?_⟩
     cases h
     refine ⟨⟨by rw [List.length_append,List.length_singleton];have:=fZ t;omega,fun f hf=>?_⟩,by rw [List.length_append,List.length_singleton];have:=fZ t;omega⟩
     rcases List.mem_append.1 hf with h | h
     ·exact hg.2 f h
     ·rw [List.mem_singleton.1 h]
      exact hu
    | some f=>
     simp only []
     cases mX f.tree u with
     | true=>exact ⟨⟨g,true,rfl,rfl,rfl⟩,fun g' h=>by cases h;exact ⟨hg,by omega⟩⟩
     | false=>exact ⟨⟨g,false,rfl,rfl⟩,fun g' h=>by cases h⟩
  | false=>
   simp only [cond_false,KZ,au]
   cases ha:nD t u with
   | false=>exact ⟨⟨[],false,rfl,rfl⟩,fun g' h=>by cases h⟩
   | true=>
    simp only [Bool.not_true,cond_false,cond_true]
    have hlen:t.kids.length=u.kids.length:=by
     unfold nD at ha
     simp only [Bool.and_eq_true,beq_iff_eq] at ha
     omega
    have aul:=kK u
    obtain ⟨q,c,e,h2⟩:=abu M t u hlen (by omega) t.kids u.kids M 0 g (by simp) (by simp) (by omega) (by omega) hg (by omega) fun k v g hk hv hg hgs=>by
     have h3:=jP hk
     have h4:=jP hv
     exact ih k hk v M g hg hgs (by omega) (by omega) (by omega)
    have e':qj M (mW M) M (t,u,0,g)=some (q,c):=e
    rw [e']
    cases hr:sj t.kids u.kids g with
    | none=>rw [hr] at h2;exact ⟨⟨q,c,rfl,h2⟩,fun g' h=>by cases h⟩
    | some g3=>
     rw [hr] at h2
     exact ⟨⟨q,c,rfl,h2.1,h2.2.1⟩,fun g' h=>by cases h;exact ⟨h2.2.2.1,by have:=h2.2.2.2;omega⟩⟩
def Ext (g g':List aM):Prop:=∃ e,g'=g++e
theorem Ext.refl (g:List aM):Ext g g:=⟨[],by simp⟩
theorem Ext.trans {a b c:List aM} (h:Ext a b) (h':Ext b c):Ext a c:=by
 obtain ⟨x,rfl⟩:=h
 obtain ⟨y,rfl⟩:=h'
 exact ⟨x++y,by rw [List.append_assoc]⟩
theorem Ext.find {g g':List aM} (h:Ext g g') {p:aM→Bool} {f:aM} (hf:g.find? p=some f):g'.find? p=some f:=by
 obtain ⟨e,rfl⟩:=h
 rw [List.find?_append,hf];rfl
theorem QC {t u:aj} (h:nD t u=true):t.kind=u.kind∧t.op=u.op∧t.text=u.text∧t.other=u.other∧t.kids.length=u.kids.length:=by
 unfold nD at h
 simp only [Bool.and_eq_true,beq_iff_eq] at h
 obtain ⟨h1,h2,h3,h4,h5⟩:=h
 exact ⟨h1,h2,h3,h4,by omega⟩
theorem akk:∀ (t u:aj) (g g':List aM),fQ t u g=some g'→Ext g g'∧∀ g2,Ext g' g2→dL g2 t=u:=by
 intro t
 induction t using aj.ind with
 | h t ih=>
  intro u g g' h
  obtain ⟨k,o,x,y,ks⟩:=t
  rw [fQ] at h
  cases hh:hB k x with
  | true=>
   rw [hh,cond_true] at h
   cases he:fq u.kind with
   | false=>rw [he,cond_false] at h;cases h
   | true=>
    rw [he,cond_true] at h
    cases hf:g.find? (fun f=>f.name==x) with
    | none=>
     rw [hf] at h
     have h:some (g++[⟨x,u⟩])=some g':=h
     cases h
     refine ⟨⟨_,rfl⟩,fun g2 hg2=>?_⟩
     have:(g++[(⟨x,u⟩:aM)]).find? (fun f=>f.name==x)=some ⟨x,u⟩:=by
      rw [List.find?_append,hf]
      simp
     rw [dL,if_pos hh,hg2.find this]
    | some f=>
     rw [hf] at h
     have h:(bif mX f.tree u then some g else none)=some g':=h
     cases hq:mX f.tree u with
     | false=>rw [hq] at h;cases h
     | true=>
      rw [hq] at h
      cases h
      refine ⟨.refl _,fun g2 hg2=>?_⟩
      rw [dL,if_pos hh,hg2.find hf]
      exact (Pf _ _).1 hq
  | false=>
   rw [hh,cond_false] at h
   cases ha:nD ⟨k,o,x,y,ks⟩ u with
   | false=>rw [ha,cond_false] at h;cases h
   | true=>
    rw [ha,cond_true] at h
    obtain ⟨a1,a2,a3,a4,a5⟩:=QC ha
    have key:∀ (ts us:List aj) (g g':List aM),(∀ k,k∈ts→k∈ks)→ts.length=us.length→sj ts us g=some g'→Ext g g'∧∀ g2,Ext g' g2→iH g2 ts=us:=by
     intro ts
     induction ts with
     | nil=>
      intro us g g' _ hl h
      rw [sj] at h
      cases h
      have:us=[]:=List.length_eq_zero_iff.1 (by simpa using hl.symm)
      subst this
      exact ⟨.refl _,fun g2 _=>by rw [iH]⟩
     | cons v ts ih2=>
      intro us g g' hm hl h
      cases us with
      | nil=>simp at hl
      | cons w us=>
       rw [sj] at h
       cases hq:fQ v w g with
       | none=>rw [hq] at h;cases h
       | some g1=>
        rw [hq] at h
        obtain ⟨e1,f1⟩:=ih v (hm v (by simp)) w g g1 hq
        obtain ⟨e2,f2⟩:=ih2 us g1 g' (fun k hk=>hm k (by simp [hk])) (by simpa using hl) h
        exact ⟨e1.trans e2,fun g2 hg2=>by rw [iH,f1 g2 (e2.trans hg2),f2 g2 hg2]⟩
    obtain ⟨e,f⟩:=key ks u.kids g g' (fun k hk=>hk) a5 h
    refine ⟨e,fun g2 hg2=>?_⟩
    rw [dL,if_neg (by rw [hh];simp),f g2 hg2]
    obtain ⟨k',o',x',y',ks'⟩:=u
    have a1:k=k':=a1
    have a2:o=o':=a2
    have a3:x=x':=a3
    have a4:y=y':=a4
    subst a1 a2 a3 a4
    rfl
theorem abx {t u:aj} {g:List aM} (h:fQ t u []=some g):dL g t=u:=(akk t u [] g h).2 g (.refl g)
end Go.Proofs.Tryz
