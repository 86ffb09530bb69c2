/-
 Plain lemmas on the models, part 12.
-/
import Derived.Test.YtbpnoplcbkjiaaaGreatDoorMaHP11
namespace Go.Proofs.Tryz
open Go.Av
set_option maxRecDepth 100000
set_option linter.unusedSimpArgs false
set_option linter.unusedVariables false
def akl (h:fA):Prop:=h.Name.length≤1048576∧h.Part.length≤1048576∧∀ x,x∈h.Part→bZ x
theorem aby (N:Nat) (g:List aM) (b:Bool) (hN:3000 < N) (hm:g.length≤1000) (hs:∀ f,f∈g→aB f.tree≤400):∀ (n i:Nat),g.length - i < n→i≤g.length→Cq N n ((g,b),(i:Int),(HF g).take i)=some (HF g,b):=by
 intro n
 induction n with
 | zero=>intro i h;omega
 | succ n ih=>
  intro i hn hi
  have hHl:(HF g).length=g.length:=by simp [HF]
  rw [Cq]
  by_cases h:i < g.length
  ·have hf:=hs _ (List.getElem_mem h)
   have h':i < (HF g).length:=by omega
   have hx:(HF g)[i]=(⟨g[i].name,av 0 g[i].tree⟩:fA):=by simp [HF]
   simp only [bN h,cond_true,aP h,au,Uj N g[i].tree (by omega) (by omega)]
   rw [gq (by simp;omega),au,jH h (by simp only [maxLen];omega)]
   have e:(HF g).take i++[(⟨g[i].name,av 0 g[i].tree⟩:fA)]=(HF g).take (i+1):=by
    rw [List.take_add_one,List.getElem?_eq_getElem h',hx]
    rfl
   rw [e]
   exact ih (i+1) (by omega) (by omega)
  ·simp only [bT h,cond_false]
   rw [List.take_of_length_le (by omega)]
theorem akm (M:Nat) (R:Cn) (t x:aj):∀ (r:Nat) (q:Int) (g g':List aM),qj M R r (t,x,q,g)=some (g',false)→g'=[]:=by
 intro r
 induction r with
 | zero=>intro q g g' h;rw [qj] at h;cases h
 | succ r ih=>
  intro q g g' h
  rw [qj] at h
  cases hc:decide (q < (t.kids.length:Int)) with
  | false=>
   rw [hc,cond_false] at h
   cases h
  | true=>
   rw [hc,cond_true] at h
   obtain ⟨e1,_,h⟩:=Option.bind_eq_some_iff.1 h
   obtain ⟨e2,_,h⟩:=Option.bind_eq_some_iff.1 h
   obtain ⟨⟨a,b⟩,_,h⟩:=Option.bind_eq_some_iff.1 h
   cases b with
   | false=>
    simp only [Bool.not_false,cond_true,Option.some.injEq,Prod.mk.injEq] at h
    exact h.1.symm
   | true=>exact ih _ _ _ h
theorem akn (N:Nat) (t x:aj) (g:List aM) (h:kG (N+2) t x []=some (g,false)):g=[]:=by
 have h:uj (N+1) (mW (N+1)) t x []=some (g,false):=h
 unfold uj at h
 rw [KX] at h
 simp only [au,nQ,KZ] at h
 cases hh:hB t.kind t.text with
 | true=>
  rw [hh] at h
  simp only [cond_true] at h
  cases he:fq x.kind with
  | false=>
   rw [he] at h
   simp only [Bool.not_false,cond_true,Option.some.injEq,Prod.mk.injEq] at h
   exact h.1.symm
  | true=>
   rw [he] at h
   have:=Uc (N+1) [] t x (by simp) (fun f hf=>by cases hf) (N+1) 0 (by simp) (by simp)
   simp only [Bool.not_true,cond_false] at h
   have e:wQ (N+1) (mW (N+1)) (N+1) ([],t,x,0)=some ([⟨t.text,x⟩],true):=this
   rw [e] at h
   cases h
 | false=>
  rw [hh] at h
  simp only [cond_false] at h
  cases ha:nD t x with
  | false=>
   rw [ha] at h
   simp only [Bool.not_false,cond_true,Option.some.injEq,Prod.mk.injEq] at h
   exact h.1.symm
  | true=>
   rw [ha] at h
   simp only [Bool.not_true,cond_false] at h
   exact akm _ _ _ _ _ _ _ _ h
theorem ako (N:Nat) (p l:List ak) (hN:1048577+3000 < N) (hsp:∀ z,z∈p→bZ z) (hs:∀ z,z∈l→bZ z):
  ∃ r,pG N p l=some r∧Gf N p l=some r∧r.1.length≤1000∧∀ h,h∈r.1→akl h:=by
 obtain ⟨b,b1,b2,b3⟩:=Po N p (by omega) hsp
 obtain ⟨c,c1,c2,c3⟩:=Po N l (by omega) hs
 unfold pG Gf
 rw [b1,b2,c1,c2]
 simp only [au]
 cases b with
 | false=>exact ⟨([],false),rfl,rfl,by simp,fun h hh=>by cases hh⟩
 | true=>
  cases c with
  | false=>exact ⟨([],false),rfl,rfl,by simp,fun h hh=>by cases hh⟩
  | true=>
   obtain ⟨hsp2,_⟩:=b3 rfl
   obtain ⟨hsh,_⟩:=c3 rfl
   obtain ⟨p1,p2,_,_,_,_,_,tp,htp⟩:=fT hsp2
   obtain ⟨l1,l2,_,_,_,_,_,tx,htx⟩:=fT hsh
   have hsz:aB tp≤400:=by have:=htp.part.2.1;omega
   obtain ⟨g,b,hh,d1,d2,d3⟩:=Ph p l hs hsh tp tx 0 (p.length - 1) 0 (l.length - 1) N [] htp htx (fun f hf=>by cases hf) (by simp;omega) (by omega) hsz
   have e1:kG N tp tx []=some (g,b):=d1
   have e2:mo N p (IntKind.wrap .i64 ((p.length:Int) - 1)) l (IntKind.wrap .i64 ((l.length:Int) - 1)) []=some (hh,b):=by
    rw [wrap64 (by omega) (by omega),wrap64 (by omega) (by omega),show (p.length:Int) - 1=((p.length - 1:Nat):Int) by omega,show (l.length:Int) - 1=((l.length - 1:Nat):Int) by omega]
    exact d2
   simp only [Bool.not_true,cond_false,Ac N p (by omega) htp p1 p2,Ac N l (by omega) htx l1 l2,au,e1,e2]
   cases b with
   | false=>
    have hg:g=[]:=by
     obtain ⟨M,rfl⟩:∃ M,N=M+2:=⟨N - 2,by omega⟩
     exact akn M tp tx g e1
    subst hg
    have:=aby N [] false (by omega) (by simp) (fun f hf=>by cases hf) N 0 (by simp;omega) (by simp)
    exact ⟨([],false),rfl,this,by simp,fun h hh=>by cases hh⟩
   | true=>
    obtain ⟨f1,f2,f3⟩:=d3 rfl
    subst f1
    have hgl:g.length≤400:=by simpa using Nat.le_trans f3 (by simpa using hsz)
    have hgs:∀ f,f∈g→aB f.tree≤400:=fun f hf=>by
     obtain ⟨_,⟨s,k,hk⟩,_⟩:=f2 f hf
     have:=hk.part.2.1
     have:=hk.lt
     omega
    have:=aby N g true (by omega) (by omega) hgs N 0 (by omega) (by omega)
    refine ⟨(HF g,true),rfl,this,by simp [HF];omega,fun h hh=>?_⟩
    obtain ⟨f,hf,rfl⟩:=List.mem_map.1 hh
    obtain ⟨_,⟨s,k,hk⟩,hn⟩:=f2 f hf
    have:=hgs f hf
    refine ⟨by simp only;omega,by simp only [bD];omega,jf (by omega) (vP hs hk) 0⟩
theorem Lc (N:Nat) (a:List ak) (hN:1048577+400 < N) (hs:∀ x,x∈a→bZ x):∃ b:Bool,fG N a=some b∧qh N a=some b∧(b=true→fM a=true∧∀ t,TA a t 0 (a.length - 1)→fq t.kind=true):=by
 obtain ⟨b,b1,b2,b3⟩:=qI N a hN hs
 unfold fG qh
 rw [b1,b2]
 simp only [au]
 cases b with
 | false=>exact ⟨false,rfl,rfl,fun h=>by cases h⟩
 | true=>
  obtain ⟨h1,h2⟩:=b3 rfl
  obtain ⟨l1,l2,_⟩:=fT h1
  have hlt:a.length - 1 < a.length:=by omega
  have hx:=aP hlt
  rw [wrap64 (by omega) (by omega),show (a.length:Int) - 1=((a.length - 1:Nat):Int) by omega,hx]
  simp only [cond_true,au,pF,nQ]
  refine ⟨_,rfl,rfl,fun h=>⟨h1,fun t ht=>?_⟩⟩
  obtain ⟨n,hn,e1,_⟩:=ht.node
  rw [List.getElem?_eq_getElem hlt] at hn
  cases hn
  rw [e1]
  exact h
theorem akp (p l:List ak) (N:Nat) (tp:aj) (hN:1048577+3000 < N) (hs:∀ z,z∈l→bZ z) (hsh:fM l=true) (htp:TA p tp 0 (p.length - 1)) (hp1:1≤p.length) (hpl:p.length≤400) (hpe:fq tp.kind=true) (hsz:aB tp≤400):
  ∀ (n j:Nat) (acc:List Int),l.length - j < n→j≤l.length→acc.length≤j→
   ∃ r,uq N n (l,tp,(j:Int),acc)=some r∧om N n (l,p,(j:Int),acc)=some r∧r.length≤l.length:=by
 obtain ⟨l1,l2,_,_,_,_,hT,_⟩:=fT hsh
 intro n
 induction n with
 | zero=>intro j acc h;omega
 | succ n ih=>
  intro j acc hn hj ha
  rw [uq,om]
  by_cases h:j < l.length
  ·obtain ⟨x,s,_,hx⟩:=hT j h
   obtain ⟨m,hm,m1,_⟩:=hx.node
   obtain ⟨g,b,hh,c1,c2,_⟩:=Ph p l hs hsh tp x 0 (p.length - 1) s j N [] htp hx (fun f hf=>by cases hf) (by simp;omega) (by omega) hsz
   have d1:kG N tp x []=some (g,b):=c1
   have d2:mo N p (IntKind.wrap .i64 ((p.length:Int) - 1)) l (j:Int) []=some (hh,b):=by
    rw [wrap64 (by omega) (by omega),show (p.length:Int) - 1=((p.length - 1:Nat):Int) by omega]
    exact c2
   have ru:qc N l (j:Int)=some x:=abz l x s j N hx (by omega) (by have:=hx.part.2.1;omega)
   simp only [bN h,cond_true,je hm,au,nQ,d2,ru,d1]
   have next:∀ acc:List Int,acc.length≤j+1→∃ r,Db N (uq N n) (l,(j:Int),tp,acc)=some r∧uI N (om N n) (l,p,(j:Int),acc)=some r∧r.length≤l.length:=fun acc ha=>by
    unfold Db uI
    simp only [jH h (by simp only [maxLen];omega)]
    exact ih (j+1) acc (by omega) (by omega) ha
   cases he:fq m.Kind with
   | false=>
    have hb:b=false:=by
     obtain ⟨M,rfl⟩:∃ M,N=M+1:=⟨N - 1,by omega⟩
     have:=ajY p tp x M hpe (by rw [m1];exact he)
     rw [d1] at this
     cases this
     rfl
    subst hb
    simp only [Bool.not_false,cond_true,cond_false]
    exact next acc (by omega)
   | true=>
    simp only [Bool.not_true,cond_false]
    cases b with
    | false=>
     simp only [cond_false]
     exact next acc (by omega)
    | true=>
     simp only [cond_true]
     rw [gq (by simp;omega),au]
     simp only [au]
     exact next _ (by simp;omega)
  ·simp only [bT h,cond_false]
   exact ⟨acc,rfl,rfl,by omega⟩
theorem akq (N:Nat) (l p:List ak) (hN:1048577+3000 < N) (hs:∀ z,z∈l→bZ z) (hsp:∀ z,z∈p→bZ z):
  ∃ r,oO N l p=some r∧Dc N l p=some r∧r.length≤1048576:=by
 obtain ⟨b,b1,b2,b3⟩:=qI N l (by omega) hs
 obtain ⟨c,c1,c2,c3⟩:=Lc N p (by omega) hsp
 unfold oO Dc
 rw [b1,b2,c1,c2]
 simp only [au]
 cases b with
 | false=>exact ⟨[],rfl,rfl,by simp⟩
 | true=>
  cases c with
  | false=>exact ⟨[],rfl,rfl,by simp⟩
  | true=>
   obtain ⟨hsh,_⟩:=b3 rfl
   obtain ⟨hsp2,hpe⟩:=c3 rfl
   obtain ⟨p1,p2,_,_,_,_,_,tp,htp⟩:=fT hsp2
   have hl2:=(fT hsh).2.1
   simp only [Bool.not_true,cond_false,Ac N p (by omega) htp p1 p2,au]
   have hsz:aB tp≤400:=by have:=htp.part.2.1;omega
   obtain ⟨r,r1,r2,r3⟩:=akp p l N tp hN hs hsh htp p1 p2 (hpe tp htp) hsz N 0 [] (by omega) (by omega) (by simp)
   exact ⟨r,r2,r1,by omega⟩
end Go.Proofs.Tryz
