/-
 Plain lemmas on the models, part 14.
-/
import Derived.Test.YtbpnoplcbkjiaaaGreatDoorMaHP13
namespace Go.Proofs.Tryz
open Go.Av
set_option maxRecDepth 100000
set_option linter.unusedSimpArgs false
set_option linter.unusedVariables false
mutual
def allT (P:aj→Prop):aj→Prop
 | ⟨k,o,x,y,ks⟩=>P ⟨k,o,x,y,ks⟩∧sF P ks
def sF (P:aj→Prop):List aj→Prop
 | []=>True
 | t::ts=>allT P t∧sF P ts
end
mutual
theorem Un {a:List ak} {P:aj→Prop} (h:∀ (t:aj) (s i:Nat),TA a t s i→P t):∀ (t:aj) (s i:Nat),TA a t s i→allT P t
 | ⟨k,o,x,y,ks⟩,s,i,ht=>by
  have h1:=h _ s i ht
  rw [TA] at ht
  obtain ⟨n,_,_,_,_,_,hk⟩:=ht
  rw [allT]
  exact ⟨h1,abA h ks _ s i hk⟩
theorem abA {a:List ak} {P:aj→Prop} (h:∀ (t:aj) (s i:Nat),TA a t s i→P t):∀ (ts:List aj) (ks:List Int) (s e:Nat),KA a ts ks s e→sF P ts
 | [],ks,s,e,_=>by rw [sF];trivial
 | t::ts,ks,s,e,hk=>by
  rw [KA] at hk
  obtain ⟨k,ks',_,_,_,h1,h2⟩:=hk
  rw [sF]
  exact ⟨Un h t s k h1,abA h ts ks' (k+1) e h2⟩
end
mutual
theorem MQ {a:List ak} {P:aj→Prop}:∀ (v:aj) (s i:Nat),TA a v s i→allT P v→∀ (w:aj) (s' j:Nat),TA a w s' j→s≤j→j≤i→P w
 | ⟨k,o,x,y,ks⟩,s,i,hv,hp,w,s',j,hw,h1,h2=>by
  rw [allT] at hp
  by_cases e:j=i
  ·subst e
   obtain ⟨rfl,_⟩:=TA.uniq hw hv
   exact hp.1
  ·rw [TA] at hv
   obtain ⟨n,_,_,_,_,_,hk⟩:=hv
   exact abB ks _ s i hk hp.2 w s' j hw h1 (by omega)
theorem abB {a:List ak} {P:aj→Prop}:∀ (ts:List aj) (ks:List Int) (s e:Nat),KA a ts ks s e→sF P ts→∀ (w:aj) (s' j:Nat),TA a w s' j→s≤j→j < e→P w
 | [],ks,s,e,hk,_,w,s',j,_,h1,h2=>by
  rw [KA] at hk
  omega
 | t::ts,ks,s,e,hk,hp,w,s',j,hw,h1,h2=>by
  rw [KA] at hk
  obtain ⟨k,ks',_,g1,g2,g3,g4⟩:=hk
  rw [sF] at hp
  by_cases hj:j≤k
  ·exact MQ t s k g3 hp.1 w s' j hw h1 hj
  ·exact abB ts ks' (k+1) e g4 hp.2 w s' j hw (by omega) h2
end
def lq (g:List aM) (h:List fA) (x:List UInt8):Prop:=
 match h.find? (fun f=>f.Name==x) with
 | none=>g.find? (fun f=>f.name==x)=none
 | some f=>if f.Part.length=0 then g.find? (fun f=>f.name==x)=none else ∃ e,g.find? (fun f=>f.name==x)=some e∧f.Part=av 0 e.tree
theorem abC:∀ (ts:List aj) (b:Nat),b+aD ts≤1000000000→Pp b (ts.map (av 0))=bK b ts
 | [],b,_=>by rw [bK];rfl
 | t::ts,b,h=>by
  rw [aD] at h
  rw [List.map_cons,Pp,bK,bD,abC ts _ (by omega)]
  congr 1
  have e:=Dl t 0 b
  rw [Nat.zero_add] at e
  rw [e]
  refine List.map_congr_left fun x hx=>akr fun k hk=>?_
  have:=GN t 0 x hx k hk
  omega
theorem abD:∀ (ts:List aj) (b:Nat),Pq b (ts.map (av 0))=dI b ts
 | [],b=>by rw [dI];rfl
 | t::ts,b=>by
  rw [List.map_cons,Pq,dI,bD,abD ts]
theorem aks (k o:Int) (x y:List UInt8) (ts:List aj) (h:aD ts≤1000000000):GQ k o x y (ts.map (av 0))=av 0 ⟨k,o,x,y,ts⟩:=by
 unfold GQ
 rw [abC ts 0 (by omega),abD,av]
mutual
theorem Uo (g:List aM) (h:List fA) (hg:∀ f,f∈g→aB f.tree≤400):∀ t:aj,aB t≤400→allT (fun t=>hB t.kind t.text=true→lq g h t.text∧t.kids=[]) t→Um h t=av 0 (dL g t)
 | ⟨k,o,x,y,ks⟩,hsz,ha=>by
  rw [allT] at ha
  have hs:aB ⟨k,o,x,y,ks⟩=aD ks+1:=kK _
  have hks:=abE g h hg ks (by omega) ha.2
  have hbig:=Pk g hg ks
  have hm:GQ k o x y (Ad h ks)=av 0 ⟨k,o,x,y,iH g ks⟩:=by rw [hks,aks _ _ _ _ _ (by omega)]
  rw [Um,dL]
  cases hh:hB k x with
  | false=>
   simp only [Bool.false_eq_true,if_false]
   exact hm
  | true=>
   obtain ⟨h1,h2⟩:=ha.1 hh
   simp only at h1 h2
   subst h2
   have hm2:GQ k o x y (Ad h [])=av 0 ⟨k,o,x,y,[]⟩:=by rw [hm,iH]
   unfold lq at h1
   simp only [if_true]
   cases hf:h.find? (fun f=>f.Name==x) with
   | none=>
    rw [hf] at h1
    simp only at h1
    rw [h1]
    exact hm2
   | some f=>
    rw [hf] at h1
    simp only at h1
    by_cases hz:f.Part.length=0
    ·rw [if_pos hz] at h1
     simp only [if_pos hz,h1]
     exact hm2
    ·rw [if_neg hz] at h1
     obtain ⟨e,e1,e2⟩:=h1
     simp only [if_neg hz,e1]
     exact e2
theorem abE (g:List aM) (h:List fA) (hg:∀ f,f∈g→aB f.tree≤400):∀ ts:List aj,aD ts≤400→sF (fun t=>hB t.kind t.text=true→lq g h t.text∧t.kids=[]) ts→Ad h ts=(iH g ts).map (av 0)
 | [],_,_=>by rw [Ad,iH];rfl
 | t::ts,hsz,ha=>by
  rw [sF] at ha
  rw [aD] at hsz
  rw [Ad,iH,List.map_cons,Uo g h hg t (by omega) ha.1,abE g h hg ts (by omega) ha.2]
end
theorem akt (zs:List (List UInt8)) (x:List UInt8) (hx:x∈zs):x∈Go.Lib.compact zs:=by
 have key:∀ j,j < zs.length→zs.toArray[j]! ∈Go.Lib.compact zs:=by
  intro j
  induction j with
  | zero=>
   intro hj
   refine List.mem_map.2 ⟨0,List.mem_filter.2 ⟨by simpa using hj,?_⟩,rfl⟩
   simp [Go.Lib.keeps]
  | succ j ih=>
   intro hj
   by_cases hk:Go.Lib.keeps zs.toArray (j+1)=true
   ·exact List.mem_map.2 ⟨j+1,List.mem_filter.2 ⟨by simpa using hj,hk⟩,rfl⟩
   ·have:=ih (by omega)
    have e:zs.toArray[j+1]! =zs.toArray[j]! :=by
     simp [Go.Lib.keeps] at hk
     simpa using hk
    rw [e];exact this
 obtain ⟨j,hj,rfl⟩:=List.getElem_of_mem hx
 have:=key j hj
 simpa [hj] using this
theorem aku (l:List (List UInt8)) (x:List UInt8):x∈iE l↔x∈l:=by
 unfold iE
 exact List.mem_mergeSort
theorem akv (l:List (List UInt8)) (hl:l.length≤1048576):∃ r,KE l=some r∧(∀ x,x∈l→x∈r)∧r.length≤1048576:=by
 unfold KE Tq Tt EX EY
 have h1:=YQ l
 have h2:=Go.Lib.compact_length_le (iE l)
 simp only [hl,if_true,au,h1]
 exact ⟨_,rfl,fun x hx=>akt _ x ((aku l x).2 hx),by omega⟩
theorem akw (n:ak) (l:List (List UInt8)) (hl:l.length≤1000000):∃ r,KD n.Kind n.Op n.Text n.Other n.Kids l=some r∧r.length≤l.length+2∧(∀ x,x∈l→x∈r)∧(n.Kind=1→n.Text∈r):=by
 have h1:∀ (k:Int) (l:List (List UInt8)),l.length≤1000001→∃ r,Gv k n.Op n.Text n.Other n.Kids l=some r∧r.length≤l.length+1∧∀ x,x∈l→x∈r:=by
  intro k l hl
  unfold Gv OH
  cases (k==32) with
  | false=>exact ⟨l,rfl,by omega,fun x hx=>hx⟩
  | true=>
   have e:app 16 l [n.Other]=some (l++[n.Other]):=gq (by simp;omega)
   simp only [cond_true,e,au]
   exact ⟨_,rfl,by simp,fun x hx=>List.mem_append_left _ hx⟩
 have h2:∀ (k:Int) (b:Bool),∃ r,um k n.Op n.Text n.Other n.Kids (l,b)=some r∧r.length≤l.length+2∧(∀ x,x∈l→x∈r)∧(b=true→n.Text∈r):=by
  intro k b
  unfold um OG
  cases b with
  | false=>
   obtain ⟨r,r1,r2,r3⟩:=h1 k l (by omega)
   exact ⟨r,r1,by omega,r3,fun h=>by cases h⟩
  | true=>
   have e:app 16 l [n.Text]=some (l++[n.Text]):=gq (by simp;omega)
   simp only [cond_true,e,au]
   obtain ⟨r,r1,r2,r3⟩:=h1 k (l++[n.Text]) (by simp;omega)
   exact ⟨r,r1,by simp at r2;omega,fun x hx=>r3 x (List.mem_append_left _ hx),fun _=>r3 _ (by simp)⟩
 have h3:∀ (k:Int) (b:Bool),(n.Kind=1→b=true)→∃ r,um k n.Op n.Text n.Other n.Kids (l,b)=some r∧r.length≤l.length+2∧(∀ x,x∈l→x∈r)∧(n.Kind=1→n.Text∈r):=by
  intro k b hb
  obtain ⟨r,r1,r2,r3,r4⟩:=h2 k b
  exact ⟨r,r1,r2,r3,fun h=>r4 (hb h)⟩
 unfold KD
 cases h:(n.Kind==1) with
 | true=>exact h3 _ _ fun _=>rfl
 | false=>
  have hn:n.Kind≠1:=fun e=>by rw [e] at h;cases h
  simp only [cond_false]
  have h4:∀ b:Bool,∃ r,um n.Kind n.Op n.Text n.Other n.Kids (l,b)=some r∧r.length≤l.length+2∧(∀ x,x∈l→x∈r)∧(n.Kind=1→n.Text∈r):=fun b=>h3 _ b fun e=>absurd e hn
  cases (n.Kind==5) with
  | true=>exact h4 true
  | false=>
   simp only [cond_false]
   cases (n.Kind==13) with
   | true=>exact h4 true
   | false=>
    simp only [cond_false]
    cases (n.Kind==27) with
    | true=>exact h4 true
    | false=>exact h4 (n.Kind==32)
theorem akx (N:Nat) (a:List ak) (ha:a.length≤400):∀ (n i:Nat) (l:List (List UInt8)),a.length - i < n→i≤a.length→l.length≤2*i→∃ r,CP N n (a,(i:Int),l)=some r∧(∀ x,x∈l→x∈r)∧(∀ x,x∈a.drop i→x.Kind=1→x.Text∈r)∧r.length≤1048576:=by
 intro n
 induction n with
 | zero=>intro i l h;omega
 | succ n ih=>
  intro i l hn hi hl
  rw [CP]
  by_cases h:i < a.length
  ·obtain ⟨r,r1,r2,r3,r4⟩:=akw a[i] l (by omega)
   simp only [bN h,cond_true,aP h,au,r1,jH h (by simp only [maxLen];omega)]
   obtain ⟨q,q1,q2,q3,q4⟩:=ih (i+1) r (by omega) (by omega) (by omega)
   refine ⟨q,q1,fun x hx=>q2 x (r3 x hx),fun x hx hk=>?_,q4⟩
   rw [drop_cons h] at hx
   rcases List.mem_cons.1 hx with rfl | hx
   ·exact q2 _ (r4 hk)
   ·exact q3 x hx hk
  ·simp only [bT h,cond_false]
   obtain ⟨r,r1,r2,r3⟩:=akv l (by omega)
   rw [r1]
   exact ⟨r,rfl,r2,(fun x hx=>by rw [drop_nil h] at hx;cases hx),r3⟩
end Go.Proofs.Tryz
