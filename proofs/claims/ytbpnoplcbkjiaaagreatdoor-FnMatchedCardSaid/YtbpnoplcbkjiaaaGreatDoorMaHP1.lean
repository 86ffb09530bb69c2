/-
 Plain lemmas on the models, part 1.
-/
import Derived.Test.YtbpnoplcbkjiaaaGreatDoorMaHL1
namespace Go.Proofs.Tryz
open Go.Av
set_option maxRecDepth 100000
set_option linter.unusedSimpArgs false
set_option linter.unusedVariables false
def eX (s:List UInt8) (i:Nat):Int:=match s[i]? with | some b=>(b.toNat:Int) | none=>-1
theorem ajb (b:UInt8):(b.toNat:Int) < 256:=by have:=b.toNat_lt;omega
theorem TN (b:UInt8):IntKind.wrap .i64 ((b.toNat:Nat):Int)=(b.toNat:Int):=by have:=ajb b;exact wrap64 (by omega) (by omega)
theorem TP {s:List UInt8} {i:Nat} (h:i < s.length):eX s i=(s[i].toNat:Int):=by
 unfold eX
 rw [List.getElem?_eq_getElem h]
theorem TQ {s:List UInt8} {i:Nat} (h: ¬i < s.length):eX s i= -1:=by
 unfold eX
 rw [List.getElem?_eq_none (by omega)]
theorem KU {s:List UInt8} {i:Nat} (h:eX s i≠ -1):i < s.length:=by
 cases Nat.lt_or_ge i s.length with
 | inl h=>exact h
 | inr h'=>exact absurd (TQ (by omega)) h
theorem KV (a b c:Int):ku a b c=some (decide (a≥b)&&decide (a≤c)):=by
 unfold ku
 by_cases h:a≥b<;>simp [h]
theorem GD (a b c:Int):gW a b c=some (decide (a≥b)&&decide (a≤c)):=by
 unfold gW
 by_cases h:a≥b<;>simp [h]
theorem GH (s:List UInt8) (hs:s.length≤1048576) (i:Nat):uX s (i:Int)=some (eX s i):=by
 unfold uX
 rw [KV,wrap64 (by omega) (by omega),au,decide_eq_true (by omega:(i:Int)≥0),Bool.true_and]
 by_cases h:i < s.length
 ·rw [decide_eq_true (by omega),Bool.not_true,cond_false,aP h,au,TP h,TN]
 ·rw [decide_eq_false (by omega),Bool.not_false,cond_true,TQ h]
theorem GI (s:List UInt8) (i:Nat):rX s (i:Int)=some (eX s i):=by
 unfold rX
 rw [decide_eq_false (by omega: ¬(i:Int) < 0),cond_false,au]
 by_cases h:i < s.length
 ·rw [decide_eq_false (by omega),cond_false,aP h,au,TP h,TN]
 ·rw [decide_eq_true (by omega),cond_true,TQ h]
def GJ (c:Int):Bool:=decide (c≥48)&&decide (c≤57)
theorem aaK (c:Int):Gi c=some (GJ c):=by
 unfold Gi
 rw [GD]
 rfl
theorem aaL (c:Int):FJ c=some (GJ c):=by
 unfold FJ GJ
 by_cases h:c≥48<;>simp [h]
def Dh (c:Int):Bool:=(decide (c≥97)&&decide (c≤122))||((decide (c≥65)&&decide (c≤90))||c==95)
theorem aaM (c:Int):Gh c=some (Dh c):=by
 unfold Gh Dh
 rw [GD,GD]
 cases (decide (c≥97)&&decide (c≤122))<;>cases (decide (c≥65)&&decide (c≤90))<;>rfl
theorem aaN (c:Int):FI c=some (Dh c):=by
 unfold FI Dh
 cases decide (c≥97)<;>cases decide (c≤122)<;>cases decide (c≥65)<;>cases decide (c≤90)<;>rfl
def KW (c:Int):Bool:=Dh c||GJ c
theorem ajc (c:Int):Ki c=some (KW c):=by
 unfold Ki KW
 rw [aaM,aaK]
 cases Dh c<;>rfl
theorem ajd (c:Int):Jq c=some (KW c):=by
 unfold Jq KW
 rw [aaN,aaL]
 cases Dh c<;>rfl
theorem aje {s:List UInt8} {i:Nat} (h:GJ (eX s i)=true):i < s.length:=by
 refine KU fun e=>?_
 rw [e] at h
 cases h
theorem vC {s:List UInt8} (hs:s.length≤1048576) {i:Nat} (h:i≤s.length+1):IntKind.wrap .i64 ((i:Int)+1)=((i+1:Nat):Int):=by
 rw [wrap64 (by omega) (by omega)];omega
theorem ajf (N M:Nat) (s:List UInt8) (hs:s.length≤1048576):∀ (n m i:Nat),s.length - i < n→s.length - i < m→i≤s.length→∃ r:Nat,Cw N n (s,(i:Int))=some (r:Int)∧BZ M m (s,(i:Int))=some (r:Int)∧i≤r∧r≤s.length:=by
 intro n
 induction n with
 | zero=>intro m i h;omega
 | succ n ih=>
  intro m i hn hm hi
  obtain ⟨m,rfl⟩:∃ k,m=k+1:=⟨m - 1,by omega⟩
  rw [Cw,BZ,GI,GH s hs,au,au,aaK,aaL,au,au]
  cases h:GJ (eX s i) with
  | false=>exact ⟨i,rfl,rfl,Nat.le_refl _,hi⟩
  | true=>
   have:=aje h
   rw [cond_true,cond_true,vC hs (by omega)]
   obtain ⟨r,h1,h2,h3,h4⟩:=ih m (i+1) (by omega) (by omega) (by omega)
   exact ⟨r,h1,h2,by omega,h4⟩
theorem TR (N:Nat) (s:List UInt8) (hs:s.length≤1048576) (hN:s.length < N) (i:Nat) (hi:i≤s.length):∃ r:Nat,Cx N s (i:Int)=some (r:Int)∧FL N s (i:Int)=some (r:Int)∧i≤r∧r≤s.length:=
 ajf N N s hs N N i (by omega) (by omega) hi
theorem aaO (N:Nat) (s:List UInt8) (hs:s.length≤1048576) (hN:s.length < N) (a y:Nat) (z:Int) (hy:y≤s.length) (hay:a≤y) (hz:(((y:Int)==(a:Int))=true)↔((z==0)=true)):
  ∃ r:Int,Gl N (s,(a:Int),(y:Int))=some r∧Ca N (s,(y:Int),z)=some r∧(r= -1∨(a < r∧r≤s.length)):=by
 simp only [Gl,Ca]
 cases he:((y:Int)==(a:Int)) with
 | true=>
  rw [hz.1 he]
  exact ⟨-1,rfl,rfl,.inl rfl⟩
 | false=>
  have hz0:(z==0)=false:=by
   cases h:(z==0) with
   | false=>rfl
   | true=>rw [hz.2 h] at he;cases he
  have hne: ¬(y:Int)=a:=by simpa using he
  have hcond:((some (eX s y)).bind fun kY=>bif (kY==101) then some true else ((some (eX s y)).bind fun iy=>some (iy==69)))=some (eX s y==101||eX s y==69):=by
   cases h:(eX s y==101)<;>simp [h]
  have ajg:(bif (eX s y==101) then some true else some (eX s y==69))=some (eX s y==101||eX s y==69):=by
   cases (eX s y==101)<;>rfl
  rw [hz0,cond_false,cond_false,GI,GH s hs,hcond,au,au,ajg,au]
  have hdone:∃ r:Int,Ko N (y:Int)=some r∧Jv N (y:Int)=some r∧(r= -1∨(a < r∧r≤s.length)):=⟨y,rfl,rfl,.inr ⟨by omega,by omega⟩⟩
  cases hE:(eX s y==101||eX s y==69) with
  | false=>exact hdone
  | true=>
   have hlt:y < s.length:=by
    refine KU fun e=>?_
    rw [e] at hE
    cases hE
   have hk3:∀ x:Nat,x≤s.length→y≤x→∃ r:Int,Gj N (s,(y:Int),(x:Int))=some r∧FM N (s,(y:Int),(x:Int))=some r∧(r= -1∨(a < r∧r≤s.length)):=by
    intro x hx hyx
    obtain ⟨r,h1,h2,h3,h4⟩:=TR N s hs hN x hx
    simp only [Gj,FM,h1,h2,au]
    by_cases hr:(r:Int) > x
    ·rw [decide_eq_true hr]
     exact ⟨r,rfl,rfl,.inr ⟨by omega,by omega⟩⟩
    ·rw [decide_eq_false hr]
     exact hdone
   have hs1:=vC hs (i:=y) (by omega)
   have hs2:=vC hs (i:=y+1) (by omega)
   have hsg:((some (eX s (y+1))).bind fun Cy=>bif (Cy==43) then some true else ((some (eX s (y+1))).bind fun Cz=>some (Cz==45)))=some (eX s (y+1)==43||eX s (y+1)==45):=by
    cases h:(eX s (y+1)==43)<;>simp [h]
   have ajh:(bif (eX s (y+1)==43) then some true else some (eX s (y+1)==45))=some (eX s (y+1)==43||eX s (y+1)==45):=by
    cases (eX s (y+1)==43)<;>rfl
   simp only [cond_true,hs1,hs2,GI,GH s hs,au] at hsg ajh ⊢
   simp only [hsg,au]
   cases hS:(eX s (y+1)==43||eX s (y+1)==45) with
   | true=>
    have:y+1 < s.length:=by
     refine KU fun e=>?_
     rw [e] at hS
     cases hS
    exact hk3 (y+1+1) (by omega) (by omega)
   | false=>exact hk3 (y+1) (by omega) (by omega)
theorem aji (N:Nat) (s:List UInt8) (hs:s.length≤1048576) (hN:s.length < N) (i:Nat) (hi:i < s.length):
  ∃ r:Int,Gm N s (i:Int)=some r∧FN N s (i:Int)=some r∧(r= -1∨(i < r∧r≤s.length)):=by
 unfold Gm FN
 obtain ⟨r,h1,h2,h3,h4⟩:=TR N s hs hN i (by omega)
 rw [KV,wrap64 (n:=(s.length:Int) - 1) (by omega) (by omega),decide_eq_false (by omega: ¬(i:Int) < 0),decide_eq_true (by omega:(i:Int)≥0),decide_eq_true (by omega:(i:Int)≤(s.length:Int) - 1),cond_false,au,Bool.and_self,Bool.not_true,cond_false,h1,h2,au,au,GI,GH s hs,au,au]
 cases hd:(eX s r==46) with
 | false=>
  rw [cond_false,cond_false,wrap64 (n:=(r:Int) - i) (by omega) (by omega)]
  refine aaO N s hs hN i r _ h4 h3 ?_
  constructor
  ·intro h;have:=eq_of_beq h;rw [this];simp
  ·intro h;have:=eq_of_beq h;exact beq_iff_eq.2 (by omega)
 | true=>
  have hlt:r < s.length:=by
   refine KU fun e=>?_
   rw [e] at hd
   cases hd
  obtain ⟨q,g1,g2,g3,g4⟩:=TR N s hs hN (r+1) (by omega)
  rw [cond_true,cond_true,vC hs (by omega),g1,g2,au,au,wrap64 (n:=(r:Int) - i) (by omega) (by omega),wrap64 (n:=(q:Int) - r) (by omega) (by omega),wrap64 (n:=(q:Int) - r - 1) (by omega) (by omega),wrap64 (by omega) (by omega)]
  have ajj:=aaO N s hs hN i q ((r:Int) - i+((q:Int) - r - 1)) g4 (by omega)
  by_cases he:(r:Int)=i∧(q:Int)=((r+1:Nat):Int)
  ·have e1:((r:Int)==(i:Int))=true:=beq_iff_eq.2 he.1
   have e2:((q:Int)==((r+1:Nat):Int))=true:=beq_iff_eq.2 he.2
   have e3:(((r:Int) - i+((q:Int) - r - 1))==0)=true:=beq_iff_eq.2 (by omega)
   simp only [e1,e2,cond_true,au,Ca,e3]
   exact ⟨-1,rfl,rfl,.inl rfl⟩
  ·have hc:(bif ((r:Int)==(i:Int)) then some ((q:Int)==((r+1:Nat):Int)) else some false)=some false:=by
    cases e1:((r:Int)==(i:Int)) with
    | false=>rfl
    | true=>
     have e2:((q:Int)==((r+1:Nat):Int))=false:=by
      cases e2:((q:Int)==((r+1:Nat):Int)) with
      | false=>rfl
      | true=>exact absurd ⟨eq_of_beq e1,eq_of_beq e2⟩ he
     rw [e2];rfl
   rw [hc,au,cond_false]
   refine ajj ?_
   have n1:((q:Int)==(i:Int))=false:=by
    cases e:((q:Int)==(i:Int)) with
    | false=>rfl
    | true=>have:=eq_of_beq e;omega
   have n2:(((r:Int) - i+((q:Int) - r - 1))==0)=false:=by
    cases e:(((r:Int) - i+((q:Int) - r - 1))==0) with
    | false=>rfl
    | true=>have:=eq_of_beq e;exact absurd ⟨by omega,by omega⟩ he
   rw [n1,n2]
theorem ajk (N M:Nat) (s:List UInt8) (hs:s.length≤1048576) (q:Int) (hq:q≠10) (hq2:q≠92):∀ (n m i:Nat),s.length+1 - i < n→s.length+1 - i < m→i≤s.length+1→
  ∃ r:Int,xq N n (s,q,(i:Int))=some r∧uY M m (s,q,(i:Int))=some r∧(r= -1∨(i < r∧r≤s.length)):=by
 intro n
 induction n with
 | zero=>intro m i h;omega
 | succ n ih=>
  intro m i hn hm hi
  obtain ⟨m,rfl⟩:∃ k,m=k+1:=⟨m - 1,by omega⟩
  rw [xq,uY]
  by_cases h:i < s.length
  ·simp only [bN h,cond_true,aP h,au,TN,vC hs (by omega:i≤s.length+1)]
   have hge:=ih m
   by_cases h10:(s[i].toNat:Int)=10
   ·have e1:((s[i].toNat:Int)==q)=false:=by
     cases e:((s[i].toNat:Int)==q) with
     | false=>rfl
     | true=>have:=eq_of_beq e;omega
    have e2:((s[i].toNat:Int)==10)=true:=beq_iff_eq.2 h10
    have e3:((s[i].toNat:Int) !=10)=false:=by rw [bne,e2];rfl
    rw [e1,e2,e3]
    exact ⟨-1,rfl,rfl,.inl rfl⟩
   ·have e2:((s[i].toNat:Int)==10)=false:=by
     cases e:((s[i].toNat:Int)==10) with
     | false=>rfl
     | true=>exact absurd (eq_of_beq e) h10
    have e3:((s[i].toNat:Int) !=10)=true:=by rw [bne,e2];rfl
    rw [e2,e3]
    simp only [cond_true,cond_false]
    cases e1:((s[i].toNat:Int)==q) with
    | true=>exact ⟨((i+1:Nat):Int),rfl,rfl,.inr ⟨by omega,by omega⟩⟩
    | false=>
     simp only [cond_false]
     cases e4:((s[i].toNat:Int)==92) with
     | false=>
      simp only [cond_false,au,Gn,Cb,vC hs (by omega:i≤s.length+1)]
      obtain ⟨r,h1,h2,h3⟩:=hge (i+1) (by omega) (by omega) (by omega)
      exact ⟨r,h1,h2,h3.imp id fun h=>⟨by omega,h.2⟩⟩
     | true=>
      rw [cond_true,cond_true,GI,GH s hs,au,au,au]
      cases e5:(eX s (i+1)==10) with
      | true=>
       have e6:(eX s (i+1) !=10)=false:=by rw [bne,e5];rfl
       have hlt:i+1 < s.length:=by
        refine KU fun e=>?_
        rw [e] at e5
        cases e5
       have ajl:((s[i+1].toNat:Int) !=10)=false:=by
        rw [TP hlt] at e6;exact e6
       rw [e6]
       obtain ⟨m,rfl⟩:∃ k,m=k+1:=⟨m - 1,by omega⟩
       simp only [cond_true,cond_false,Cb,vC hs (by omega:i≤s.length+1)]
       rw [uY]
       simp only [bN hlt,cond_true,aP hlt,au,ajl,cond_false]
       exact ⟨-1,rfl,rfl,.inl rfl⟩
      | false=>
       have e6:(eX s (i+1) !=10)=true:=by rw [bne,e5];rfl
       rw [e6]
       simp only [cond_true,cond_false,Gn,Cb,vC hs (by omega:i+1≤s.length+1)]
       obtain ⟨r,h1,h2,h3⟩:=hge (i+1+1) (by omega) (by omega) (by omega)
       exact ⟨r,h1,h2,h3.imp id fun h=>⟨by omega,h.2⟩⟩
  ·simp only [bT h,cond_false,au]
   exact ⟨-1,rfl,rfl,.inl rfl⟩
theorem aaP (N:Nat) (s:List UInt8) (hs:s.length≤1048576) (hN:s.length+2 < N) (q:Int) (hq:q≠10) (hq2:q≠92) (i:Nat) (hi:i < s.length):
  ∃ r:Int,Gp N s (i:Int) q=some r∧FP N s (i:Int) q=some r∧(r= -1∨(i < r∧r≤s.length)):=by
 unfold Gp FP
 rw [GI,GH s hs,au,au,vC hs (by omega)]
 cases (eX s i !=q) with
 | true=>exact ⟨-1,rfl,rfl,.inl rfl⟩
 | false=>
  obtain ⟨r,h1,h2,h3⟩:=ajk N N s hs q hq hq2 N N (i+1) (by omega) (by omega) (by omega)
  exact ⟨r,h1,h2,h3.imp id fun h=>⟨by omega,h.2⟩⟩
theorem ajm (N:Nat) (s:List UInt8) (hs:s.length≤1048576) (hN:s.length+2 < N) (i:Nat) (hi:i < s.length):
  ∃ r:Int,CB N s (i:Int)=some r∧FQ N s (i:Int)=some r∧(r= -1∨(i < r∧r≤s.length)):=by
 obtain ⟨r,h1,h2,h3⟩:=aaP N s hs hN 34 (by decide) (by decide) i hi
 unfold CB FQ
 rw [h1,h2]
 exact ⟨r,rfl,rfl,h3⟩
theorem ajn (N:Nat) (s:List UInt8) (hs:s.length≤1048576) (hN:s.length+2 < N) (i:Nat) (hi:i < s.length):
  ∃ r:Int,CF N s (i:Int)=some r∧FR N s (i:Int)=some r∧(r= -1∨(i < r∧r≤s.length)):=by
 obtain ⟨r,h1,h2,h3⟩:=aaP N s hs hN 47 (by decide) (by decide) i hi
 unfold CF FR
 simp only [h1,h2,au]
 cases (r==IntKind.wrap .i64 ((i:Int)+2)) with
 | true=>exact ⟨-1,rfl,rfl,.inl rfl⟩
 | false=>exact ⟨r,rfl,rfl,h3⟩
theorem ajo (N M:Nat) (s:List UInt8) (hs:s.length≤1048576):∀ (n m i:Nat),s.length - i < n→s.length - i < m→i≤s.length→∃ b:Bool,zG N n (s,(i:Int))=some b∧BP M m (s,(i:Int))=some b:=by
 intro n
 induction n with
 | zero=>intro m i h;omega
 | succ n ih=>
  intro m i hn hm hi
  obtain ⟨m,rfl⟩:∃ k,m=k+1:=⟨m - 1,by omega⟩
  rw [zG,BP]
  by_cases h:i < s.length
  ·simp only [bN h,cond_true,aP h,au,ajc,ajd,vC hs (by omega:i≤s.length+1)]
   cases KW (IntKind.wrap .i64 ((s[i].toNat:Nat):Int)) with
   | false=>exact ⟨false,rfl,rfl⟩
   | true=>exact ih m (i+1) (by omega) (by omega) (by omega)
  ·simp only [bT h,cond_false,GD,KV,au]
   cases hc:(decide ((s.length:Int)≥1)&&decide ((s.length:Int)≤12)) with
   | false=>exact ⟨false,rfl,rfl⟩
   | true=>
    have h0:0 < s.length:=by
     simp only [Bool.and_eq_true,decide_eq_true_eq] at hc
     omega
    have e:ix s 0=some s[0]:=aP h0
    simp only [cond_true,e,au,aaM,aaN]
    exact ⟨_,rfl,rfl⟩
theorem ajp (N:Nat) (s:List UInt8) (hs:s.length≤1048576) (hN:s.length < N):∃ b:Bool,Kj N s=some b∧Og N s=some b:=
 ajo N N s hs N N 0 (by omega) (by omega) (by omega)
theorem aaQ:Kk=some mK:=rfl
theorem ajq:OB=some pJ:=rfl
theorem ajr:OD=some sQ:=rfl
theorem ajs (N M:Nat) (l:List (List UInt8)) (x:List UInt8) (hl:l.length≤1048576):∀ (n m i:Nat),l.length - i < n→l.length - i < m→i≤l.length→
  ∃ r:Int,Ct N n (l,x,(i:Int))=some r∧uW M m (l,x,(i:Int))=some r∧(-1≤r∧(0≤r→x∈l))∧r < l.length:=by
 intro n
 induction n with
 | zero=>intro m i h;omega
 | succ n ih=>
  intro m i hn hm hi
  obtain ⟨m,rfl⟩:∃ k,m=k+1:=⟨m - 1,by omega⟩
  rw [Ct,uW]
  by_cases h:i < l.length
  ·have hst:IntKind.wrap .i64 ((i:Int)+1)=((i+1:Nat):Int):=jH h (by simp only [maxLen];omega)
   have hc:(x==l[i])=(l[i]==x):=by
    cases e:(l[i]==x) with
    | true=>have:=eq_of_beq e;subst this;simp
    | false=>
     have: ¬l[i]=x:=by simpa using e
     simpa using fun e=>this e.symm
   simp only [bN h,cond_true,aP h,au,hst,hc]
   cases he:(l[i]==x) with
   | true=>exact ⟨(i:Int),rfl,rfl,⟨by omega,fun _=>by have:=eq_of_beq he;rw [← this];exact List.getElem_mem h⟩,by omega⟩
   | false=>exact ih m (i+1) (by omega) (by omega) (by omega)
  ·simp only [bT h,cond_false]
   exact ⟨-1,rfl,rfl,⟨by omega,fun h=>by omega⟩,by omega⟩
theorem aaR (N:Nat) (l:List (List UInt8)) (x:List UInt8) (hl:l.length≤1048576) (hN:l.length < N):∃ r:Int,Kl N l x=some r∧BU N l x=some r∧(-1≤r∧(0≤r→x∈l))∧r < l.length:=
 ajs N N l x hl N N 0 (by omega) (by omega) (by omega)
theorem ajt (N:Nat) (x:List UInt8) (hN:100 < N):∃ r:Int,Km N x=some r∧Js N x=some r∧(r=0∨(10≤r∧r≤26)):=by
 obtain ⟨r,h1,h2,h3,h4⟩:=aaR N mK x (by decide) (by have:mK.length=17:=rfl;omega)
 have hl:mK.length=17:=rfl
 unfold Km Js
 rw [aaQ,au,h1,h2]
 simp only [au]
 by_cases h:r < 0
 ·rw [decide_eq_true h]
  exact ⟨0,rfl,rfl,.inl rfl⟩
 ·rw [decide_eq_false h,wrap64 (n:=10+r) (by omega) (by omega)]
  exact ⟨10+r,rfl,rfl,.inr (by omega)⟩
theorem TS (N:Nat) (x:List UInt8) (hN:100 < N):∃ b:Bool,Cu N x=some b∧BX N x=some b∧(b=true→x∈pJ):=by
 obtain ⟨r,h1,h2,h3,h4⟩:=aaR N pJ x (by decide) (by have:pJ.length=21:=rfl;omega)
 unfold Cu BX uh
 rw [ajq,au,h1,h2]
 exact ⟨_,rfl,rfl,fun h=>h3.2 (by simpa using h)⟩
theorem aju (b:UInt8):(((b).toNat:Int)==10)=(b==10):=by
 cases h:(b==10) with
 | true=>have:=eq_of_beq h;subst this;rfl
 | false=>
  have hne:b≠10:=by simpa using h
  have: ¬b.toNat=10:=fun e=>hne (UInt8.toNat.inj e)
  simp;omega
theorem ajv (N:Nat) (t:List UInt8) (ht:t.length≤maxLen):∀ (n i:Nat),t.length - i < n→i≤t.length→Cv N n (t,(i:Int))=some (!(t.drop i).contains 10):=by
 intro n
 induction n with
 | zero=>intro i h;omega
 | succ n ih=>
  intro i hn hi
  rw [Cv]
  by_cases h:i < t.length
  ·simp only [bN h,cond_true,aP h,au,aju,jH h ht]
   rw [ih (i+1) (by omega) (by omega),drop_cons h,List.contains_cons]
   by_cases he:t[i]=10
   ·simp [he]
   ·have h1:(t[i]==10)=false:=by simpa using he
    have h2:((10:UInt8)==t[i])=false:=by simpa using fun e=>he e.symm
    rw [h1,h2,cond_false,Bool.false_or]
  ·simp only [bT h,cond_false]
   rw [drop_nil h]
   rfl
theorem ajw (N:Nat) (t:List UInt8) (hN:t.length < N) (ht:t.length≤maxLen):Kn N t=some (!t.contains 10):=by
 unfold Kn
 have:=ajv N t ht N 0 (by omega) (by omega)
 simpa using this
theorem ajx (l:List UInt8) (c:UInt8):decide (Go.Lib.indexByte l c≥0)=l.contains c:=by
 induction l with
 | nil=>rfl
 | cons b l ih=>
  rw [List.contains_cons]
  unfold Go.Lib.indexByte
  by_cases h:(b==c)=true
  ·have:(c==b)=true:=by have:=eq_of_beq h;subst this;simp
   simp [h,this]
  ·have hf:(b==c)=false:=by simpa using h
   have hf2:(c==b)=false:=by
    have: ¬b=c:=by simpa using hf
    simpa using fun e=>this e.symm
   rw [hf,hf2,Bool.false_or,← ih]
   have hge:=Go.Lib.indexByte_ge l c
   simp only [Bool.false_eq_true,if_false]
   split
   ·rename_i he
    have:Go.Lib.indexByte l c= -1:=by simpa using he
    rw [this]
   ·rename_i he
    have: ¬Go.Lib.indexByte l c= -1:=by simpa using he
    have h1:Go.Lib.indexByte l c≥0:=by omega
    have h2:Go.Lib.indexByte l c+1≥0:=by omega
    simp [h1,h2]
theorem ajy (t:List UInt8):Ju t=some (t.contains 10):=by
 have h0:Jt t=some (Go.Lib.indexByte t 10):=by
  unfold Jt
  by_cases h:(([10]:List UInt8)==t)=true
  ·have:=eq_of_beq h
   subst this
   rfl
  ·have hf:(([10]:List UInt8)==t)=false:=by simpa using h
   rw [hf,cond_false]
   rfl
 unfold Ju Oh
 rw [h0,au,au,ajx]
theorem ajz (k:Int):∃ x:List UInt8,Kr k=some x∧JA k=some x∧(k=0→x=[]):=by
 have hkw:Jy k=some (decide (k≥10)&&decide (k≤26)):=by
  unfold Jy
  rw [KV]
  rfl
 have hsg:Jz k=some (decide (k≥30)&&decide (k≤68)):=by
  unfold Jz
  rw [KV]
  rfl
 unfold Kr JA
 rw [GD,GD,hkw,hsg,aaQ,ajr]
 simp only [au]
 cases h1:(k==1) with
 | true=>exact ⟨[10],rfl,rfl,fun h=>by subst h;cases h1⟩
 | false=>
  cases h2:(decide (k≥10)&&decide (k≤26)) with
  | true=>
   simp only [Bool.and_eq_true,decide_eq_true_eq] at h2
   obtain ⟨j,rfl⟩:∃ j:Nat,k=(j:Int)+10:=⟨(k - 10).toNat,by omega⟩
   have hl:mK.length=17:=rfl
   have hw:IntKind.wrap .i64 ((j:Int)+10 - 10)=(j:Int):=by rw [wrap64 (by omega) (by omega)];omega
   rw [cond_false,cond_true,hw,aP (by omega)]
   exact ⟨_,rfl,rfl,fun h=>by omega⟩
  | false=>
   cases h3:(decide (k≥30)&&decide (k≤68)) with
   | true=>
    simp only [Bool.and_eq_true,decide_eq_true_eq] at h3
    obtain ⟨j,rfl⟩:∃ j:Nat,k=(j:Int)+30:=⟨(k - 30).toNat,by omega⟩
    have hl:sQ.length=39:=rfl
    have hw:IntKind.wrap .i64 ((j:Int)+30 - 30)=(j:Int):=by rw [wrap64 (by omega) (by omega)];omega
    rw [cond_false,cond_false,cond_true,hw,aP (by omega)]
    exact ⟨_,rfl,rfl,fun h=>by omega⟩
   | false=>exact ⟨[],rfl,rfl,fun _=>rfl⟩
theorem TT (N:Nat) (x:List UInt8) (hx:x.length≤1048576) (hN:x.length+200 < N):∃ b:Bool,zH N x=some b∧rU N x=some b∧(x=[]→b=false):=by
 unfold zH rU
 obtain ⟨q,h1,h2⟩:=ajp N x hx (by omega)
 obtain ⟨r,g1,g2,_⟩:=ajt N x (by omega)
 obtain ⟨c,f1,f2,_⟩:=TS N x (by omega)
 have hq:x=[]→q=false:=by
  intro e
  subst e
  unfold Kj at h1
  obtain ⟨M,rfl⟩:∃ m,N=m+1:=⟨N - 1,by omega⟩
  rw [zG] at h1
  have e1:decide ((0:Int) < (([]:List UInt8).length:Int))=false:=rfl
  have e2:gW (([]:List UInt8).length:Int) 1 12=some false:=rfl
  rw [e1,cond_false,e2] at h1
  simpa using h1.symm
 rw [h1,h2,au,au]
 cases hqv:q with
 | false=>exact ⟨false,rfl,rfl,fun _=>rfl⟩
 | true=>
  rw [cond_true,cond_true,g1,g2,au,au]
  cases (r==0) with
  | false=>exact ⟨false,rfl,rfl,fun _=>rfl⟩
  | true=>
   rw [cond_true,cond_true,f1,f2]
   exact ⟨!c,rfl,rfl,fun e=>by rw [hq e] at hqv;cases hqv⟩
theorem TU (x:List UInt8):(x==[])=true↔x=[]:=by simp
theorem OZ (N:Nat) (t:jJ) (ht:t.Text.length≤1048576) (hN:t.Text.length+200 < N):∃ b:Bool,zJ N t=some b∧FU N t=some b∧(t.Kind=0→b=false):=by
 obtain ⟨sp,s1,s2,s3⟩:=ajz t.Kind
 obtain ⟨nb,n1,n2,n3⟩:=TT N t.Text ht hN
 obtain ⟨bb,b1,b2,b3⟩:=TS N t.Text (by omega)
 have hk1:∀ y:Bool,¬t.Text=[]→∃ b:Bool,zI N (t,y)=some b∧FT N (t,y)=some b∧(t.Kind=0→y=false→b=false):=by
  intro y hne
  have hbn:(t.Text==[])=false:=by
   cases e:(t.Text==[]) with
   | false=>rfl
   | true=>exact absurd ((TU _).1 e) hne
  simp only [zI,FT]
  rw [n1,n2,b1,b2,s1,s2,hbn]
  cases y with
  | true=>exact ⟨nb,rfl,rfl,fun _ h=>by cases h⟩
  | false=>
   cases h8:(t.Kind==8) with
   | true=>
    refine ⟨bb,rfl,rfl,fun h=>?_⟩
    rw [h] at h8
    cases h8
   | false=>
    have hc:(sp==t.Text)=(t.Text==sp):=by
     cases e:(t.Text==sp) with
     | true=>have:=eq_of_beq e;rw [this];simp
     | false=>
      have: ¬t.Text=sp:=by simpa using e
      simpa using fun e=>this e.symm
    refine ⟨t.Text==sp,by rw [← hc];rfl,rfl,fun h _=>?_⟩
    rw [s3 h]
    exact hbn
 unfold zJ FU
 by_cases hne:t.Text=[]
 ·have e0:(t.Text==[])=true:=(TU _).2 hne
  rw [e0,cond_true]
  refine ⟨false,?_,rfl,fun _=>rfl⟩
  have hl:decide ((t.Text.length:Int) > 0)=false:=by rw [hne];rfl
  have hst:CB N t.Text 0=some (-1):=by
   rw [hne]
   rfl
  have hre:CF N t.Text 0=some (-1):=by
   rw [hne]
   rfl
  have hm1:((-1:Int)==(t.Text.length:Int))=false:=by rw [hne];rfl
  rw [hl,hst,hre]
  have hk:∀ y,zI N (t,y)=some false:=by
   intro y
   simp only [zI]
   rw [n1,n3 hne,b1,s1,e0]
   have hbb:bb=false:=by
    cases h:bb with
    | false=>rfl
    | true=>
     have:=b3 h
     rw [hne] at this
     exact absurd this (by decide)
   rw [hbb]
   cases y<;>cases (t.Kind==8)<;>rfl
  simp only [au,cond_false,hm1,hk]
  cases (t.Kind==2)<;>cases (t.Kind==3)<;>cases (t.Kind==4)<;>cases (t.Kind==5)<;>cases (t.Kind==6)<;>rfl
 ·have e0:(t.Text==[])=false:=by
   cases e:(t.Text==[]) with
   | false=>rfl
   | true=>exact absurd ((TU _).1 e) hne
  have hpos:0 < t.Text.length:=by
   cases Nat.eq_zero_or_pos t.Text.length with
   | inl h=>exact absurd (List.length_eq_zero_iff.1 h) hne
   | inr h=>exact h
  have hl:decide ((t.Text.length:Int) > 0)=true:=decide_eq_true (by omega)
  rw [e0,cond_false,hl]
  simp only [cond_true]
  cases h2:(t.Kind==2) with
  | true=>
   have e:ix t.Text 0=some t.Text[0]:=aP hpos
   have hp:=ajw N t.Text (by omega) (by simp only [maxLen];omega)
   have hc:=ajy t.Text
   rw [cond_true,cond_true,e,hp,hc]
   simp only [au]
   refine ⟨((t.Text[0].toNat:Int)==35)&&!t.Text.contains 10,?_,?_,fun h=>?_⟩
   ·cases ((t.Text[0].toNat:Int)==35)<;>rfl
   ·cases ((t.Text[0].toNat:Int)==35)<;>rfl
   ·rw [h] at h2
    cases h2
  | false=>
   rw [cond_false,cond_false]
   cases h3:(t.Kind==3) with
   | true=>
    obtain ⟨r,f1,f2,_⟩:=aji N t.Text ht (by omega) 0 hpos
    have Di:Gm N t.Text 0=some r:=f1
    have f2':FN N t.Text 0=some r:=f2
    rw [cond_true,cond_true,Di,f2']
    refine ⟨_,rfl,rfl,fun h=>?_⟩
    rw [h] at h3
    cases h3
   | false=>
    rw [cond_false,cond_false]
    cases h4:(t.Kind==4) with
    | true=>
     obtain ⟨r,f1,f2,_⟩:=ajm N t.Text ht (by omega) 0 hpos
     have Di:CB N t.Text 0=some r:=f1
     have f2':FQ N t.Text 0=some r:=f2
     rw [cond_true,cond_true,Di,f2']
     refine ⟨_,rfl,rfl,fun h=>?_⟩
     rw [h] at h4
     cases h4
    | false=>
     rw [cond_false,cond_false]
     cases h5:(t.Kind==5) with
     | true=>
      obtain ⟨r,f1,f2,_⟩:=ajn N t.Text ht (by omega) 0 hpos
      have Di:CF N t.Text 0=some r:=f1
      have f2':FR N t.Text 0=some r:=f2
      rw [cond_true,cond_true,Di,f2']
      refine ⟨_,rfl,rfl,fun h=>?_⟩
      rw [h] at h5
      cases h5
     | false=>
      rw [cond_false,cond_false]
      cases h6:(t.Kind==6) with
      | true=>
       obtain ⟨b,k1,k2,k3⟩:=hk1 true hne
       refine ⟨b,k1,k2,fun h=>?_⟩
       rw [h] at h6
       cases h6
      | false=>
       obtain ⟨b,k1,k2,k3⟩:=hk1 (t.Kind==7) hne
       refine ⟨b,k1,k2,fun h=>k3 h ?_⟩
       rw [h]
       rfl
def gF (a:List ak):List (List Int):=a.map (·.Kids)
theorem aaT {a:List ak} {i:Nat} (h:i < a.length):(gF a).drop i=a[i].Kids::(gF a).drop (i+1):=by
 have h':i < (gF a).length:=by simpa [gF] using h
 rw [drop_cons h']
 simp [gF]
theorem ajB (N:Nat) (kb:(List ak×Int×List Int)→Option (List Int×Bool)) (a:List ak) (i:Nat) (hi:i < a.length) (hi2:i≤100000) (out:List Int) (ho:out.length=i) (hl:Low out) (hk:a[i].Kids.length≤1048576):
  ∀ (n j:Nat) (at_:Int),j < n→j≤a[i].Kids.length→0≤at_→at_≤i→
   Cr N kb n (a,(i:Int),out,at_,(j:Int) - 1)=match walk out at_ (a[i].Kids.take j).reverse with
    | none=>some ([],false)
    | some s=>kb (a,((i+1:Nat):Int),out++[s]):=by
 intro n
 induction n with
 | zero=>intro j at_ h;omega
 | succ n ih=>
  intro j at_ hn hj h0 h1
  rw [Cr]
  cases j with
  | zero=>
   have:decide (((0:Nat):Int) - 1≥0)=false:=by simp
   simp only [this,cond_false,List.take_zero,List.reverse_nil,walk]
   rw [gq (by simp [ho];omega),au,wrap64 (by omega) (by omega)]
   rfl
  | succ j=>
   have hjk:j < a[i].Kids.length:=by omega
   rw [ahk hjk]
   simp only [ahl,cond_true,ahm,aP hi,aP hjk,au]
   rw [wrap64 (n:=at_ - 1) (by omega) (by omega)]
   unfold walk
   by_cases hc:a[i].Kids[j]≠at_ - 1
   ·have h2:(a[i].Kids[j] !=at_ - 1)=true:=by simpa using hc
    rw [h2,cond_true,au,cond_true,if_pos (.inr hc)]
   ·have h2:(a[i].Kids[j] !=at_ - 1)=false:=by simpa using hc
    rw [h2,cond_false,au]
    by_cases hz:at_=0
    ·have h3:(at_==0)=true:=by simpa using hz
     rw [h3,cond_true,if_pos (.inl hz)]
    ·have h3:(at_==0)=false:=by simpa using hz
     rw [h3,cond_false,if_neg (fun h=>h.elim hz hc)]
     have hlt:(at_ - 1).toNat < out.length:=by omega
     have hx:ix out (at_ - 1)=some out[(at_ - 1).toNat]:=by
      have:=aP hlt
      rwa [Int.toNat_of_nonneg (by omega)] at this
     rw [hx,au,List.getElem?_eq_getElem hlt]
     have hlow:=hl _ _ (List.getElem?_eq_getElem hlt)
     rw [wrap64 (by omega) (by omega)]
     exact ih j _ (by omega) (by omega) hlow.1 (by omega)
theorem ajC (N:Nat) (a:List ak) (hN:1048577 < N) (ha:a.length≤100000) (hk:∀ x,x∈a→x.Kids.length≤1048576):∀ (n i:Nat) (out:List Int),a.length - i < n→i≤a.length→out.length=i→Low out→
  zx N n (a,(i:Int),out)=match starts ((gF a).drop i) out with
   | none=>some ([],false)
   | some r=>some (r,true):=by
 intro n
 induction n with
 | zero=>intro i out h;omega
 | succ n ih=>
  intro i out hn hi ho hl
  rw [zx]
  by_cases h:i < a.length
  ·have hkl:=hk _ (List.getElem_mem h)
   simp only [bN h,cond_true,aP h,au]
   rw [wrap64 (n:=(a[i].Kids.length:Int) - 1) (by omega) (by omega),ajB N _ a i h (by omega) out ho hl hkl N _ _ (by omega) (Nat.le_refl _) (by omega) (by omega),List.take_length,aaT h,starts,ho]
   cases hw:walk out (i:Int) a[i].Kids.reverse with
   | none=>rfl
   | some s=>
    have hs:=ND hl _ (by omega) hw
    simp only [au]
    exact ih (i+1) _ (by omega) (by omega) (by simp [ho]) (hl.snoc hs.1 (by omega))
  ·simp only [bT h,cond_false]
   have:(gF a).drop i=[]:=drop_nil (by simpa [gF] using h)
   rw [this]
   rfl
theorem ajD (N:Nat) (kb:(List ak×Int×List Int)→Option (List Int×Bool)) (a:List ak) (e:ak) (i:Nat) (hi:i < a.length) (hi2:i≤100000) (out st:List Int) (ho:out.length=i) (hst:st.take i=out) (hsl:st.length=a.length) (hl:Low out):
  ∀ (ks:List Int) (at_:Int),0≤at_→at_≤i→
   yZ N kb a (i:Int) e st ks (at_ - 1)=match walk out at_ ks with
    | none=>some ([],false)
    | some s=>kb (a,((i+1:Nat):Int),st.set i s):=by
 intro ks
 have hil:i < st.length:=by omega
 induction ks with
 | nil=>
  intro at_ h0 h1
  rw [yZ]
  simp only [walk]
  rw [aP hil,au,wrap64 (n:=at_ - 1+1) (by omega) (by omega),ahh hil,au,wrap64 (by omega) (by omega),Int.sub_add_cancel]
  rfl
 | cons k ks ih=>
  intro at_ h0 h1
  rw [yZ]
  unfold walk
  by_cases hz:at_=0
  ·have h3:decide (at_ - 1 < 0)=true:=by simp;omega
   rw [h3,cond_true,au,cond_true,if_pos (.inl hz)]
  ·have h3:decide (at_ - 1 < 0)=false:=by simp;omega
   rw [h3,cond_false,au]
   by_cases hc:k≠at_ - 1
   ·have h2:(k !=at_ - 1)=true:=by simpa using hc
    rw [h2,cond_true,if_pos (.inr hc)]
   ·have h2:(k !=at_ - 1)=false:=by simpa using hc
    have hk:k=at_ - 1:=Decidable.of_not_not hc
    rw [h2,cond_false,if_neg (fun h=>h.elim hz hc)]
    have hlt:(at_ - 1).toNat < out.length:=by omega
    have hlt2:(at_ - 1).toNat < st.length:=by omega
    have hx:ix st k=some st[(at_ - 1).toNat]:=by
     have:=aP hlt2
     rw [Int.toNat_of_nonneg (by omega)] at this
     rw [hk];exact this
    have he:out[(at_ - 1).toNat]?=some st[(at_ - 1).toNat]:=by
     rw [← hst,List.getElem?_take,if_pos (by omega),List.getElem?_eq_getElem hlt2]
    rw [hx,au,he]
    have hlow:=hl _ _ he
    rw [wrap64 (n:=st[(at_ - 1).toNat] - 1) (by omega) (by omega)]
    exact ih _ hlow.1 (by omega)
def GK (r:List Int) (n:Nat):Bool:=r[n - 1]?==some 0
theorem ajE (N:Nat) (a:List ak) (ha:a.length≤100000) (h1:1≤a.length):∀ (n i:Nat) (out st:List Int),a.length - i < n→i≤a.length→out.length=i→st.take i=out→st.length=a.length→Low out→
  ∃ st',wI N n (a,(i:Int),st)=some (st',match starts ((gF a).drop i) out with
   | none=>false
   | some r=>GK r a.length)∧∀ r,starts ((gF a).drop i) out=some r→st'=r:=by
 intro n
 induction n with
 | zero=>intro i out st h;omega
 | succ n ih=>
  intro i out st hn hi ho hst hsl hl
  rw [wI]
  by_cases h:i < a.length
  ·simp only [bN h,cond_true,aP h,au]
   rw [wrap64 (n:=(i:Int) - 1) (by omega) (by omega),ajD N _ a a[i] i h (by omega) out st ho hst hsl hl _ _ (by omega) (by omega),aaT h,starts,ho]
   cases hw:walk out (i:Int) a[i].Kids.reverse with
   | none=>exact ⟨[],rfl,fun r h=>by cases h⟩
   | some s=>
    have hs:=ND hl _ (by omega) hw
    simp only [au]
    refine ih (i+1) _ _ (by omega) (by omega) (by simp [ho]) ?_ (by simpa using hsl) (hl.snoc hs.1 (by omega))
    rw [List.take_add_one,List.take_set_of_le (Nat.le_refl i),hst,List.getElem?_set_self (by omega)]
    rfl
  ·simp only [bT h,cond_false]
   have:(gF a).drop i=[]:=drop_nil (by simpa [gF] using h)
   rw [this]
   have hia:i=a.length:=by omega
   have hso:st=out:=by rw [← hst,List.take_of_length_le (by omega)]
   have hlt:a.length - 1 < st.length:=by omega
   have hx:ix st ((a.length:Int) - 1)=some st[a.length - 1]:=by
    have:=aP hlt
    rwa [show ((a.length - 1:Nat):Int)=(a.length:Int) - 1 by omega] at this
   rw [wrap64 (n:=(a.length:Int) - 1) (by omega) (by omega),hx,au]
   refine ⟨st,?_,fun r hr=>by rw [hso];exact Option.some.inj hr⟩
   simp only [starts,GK,← hso,List.getElem?_eq_getElem hlt]
   congr 2
def fM (a:List ak):Bool:=
 (decide (1≤a.length)&&decide (a.length≤400))&&(match starts (gF a) [] with
  | none=>false
  | some r=>GK r a.length)
theorem Dj (a b c:Int):ku a b c=some (decide (a≥b)&&decide (a≤c)):=by
 unfold ku
 cases decide (a≥b)<;>rfl
theorem Aa (a b c:Int):gW a b c=some (decide (a≥b)&&decide (a≤c)):=by
 unfold gW
 cases decide (a≥b)<;>rfl
theorem ajF {a:List ak} (hs:∀ x,x∈a→bZ x):∀ x,x∈a→x.Kids.length≤1048576:=fun x hx=>by
 have:=hs x hx;unfold bZ at this;omega
theorem aaU (N:Nat) (a:List ak) (hN:1048577 < N) (ha:a.length≤400) (hs:∀ x,x∈a→bZ x):Ka N a=match starts (gF a) [] with
  | none=>some ([],false)
  | some r=>some (r,true):=by
 have:=ajC N a hN (by omega) (ajF hs) N 0 [] (by omega) (by omega) rfl (fun j s h=>by simp at h)
 rw [List.drop_zero] at this
 exact this
theorem Pb (N:Nat) (a:List ak) (hN:1048577 < N) (hs:∀ x,x∈a→bZ x):vO N a=some (fM a):=by
 unfold vO fM
 rw [Aa,au]
 by_cases h1:1≤a.length
 ·by_cases h2:a.length≤400
  ·have e1:decide ((a.length:Int)≥1)=true:=by simp;omega
   have e2:decide ((a.length:Int)≤400)=true:=by simp;omega
   simp only [e1,e2,Bool.and_self,Bool.not_true,cond_false,h1,h2,decide_true,Bool.true_and,aaU N a hN h2 hs]
   cases hst:starts (gF a) [] with
   | none=>rfl
   | some r=>
    obtain ⟨⟨m,hm,hml⟩,_,_⟩:=RQ _ (fun j s h=>by simp at h) hst
    have hrl:r.length=a.length:=by rw [hm];simp [hml,gF]
    have hlt:a.length - 1 < r.length:=by omega
    have hx:ix r ((a.length:Int) - 1)=some r[a.length - 1]:=by
     have:=aP hlt
     rwa [show ((a.length - 1:Nat):Int)=(a.length:Int) - 1 by omega] at this
    simp only [au,cond_true]
    rw [wrap64 (n:=(a.length:Int) - 1) (by omega) (by omega),hx,au,au]
    simp only [GK,List.getElem?_eq_getElem hlt]
    congr 1
  ·have e2:decide ((a.length:Int)≤400)=false:=by simp;omega
   simp [e2,h2]
 ·have e1:decide ((a.length:Int)≥1)=false:=by simp;omega
  simp [e1,h1]
theorem ajG (N:Nat) (a:List ak) (hN:1048577 < N):∃ st,Jp N a=some (st,fM a)∧(a.length≤400→∀ r,starts (gF a) []=some r→st=r∨a=[]):=by
 unfold Jp fM
 rw [Dj,au]
 by_cases h1:1≤a.length
 ·by_cases h2:a.length≤400
  ·have e1:decide ((a.length:Int)≥1)=true:=by simp;omega
   have e2:decide ((a.length:Int)≤400)=true:=by simp;omega
   obtain ⟨st',hst',hr⟩:=ajE N a (by omega) h1 N 0 [] (List.replicate a.length 0) (by omega) (by omega) rfl (by simp) (by simp) (fun j s h=>by simp at h)
   rw [List.drop_zero] at hst' hr
   simp only [e1,e2,Bool.and_self,Bool.not_true,cond_false]
   rw [ahj (by omega) (by simp only [maxLen];omega),au]
   have jG:wI N N (a,0,List.replicate a.length 0)=_:=hst'
   rw [jG]
   exact ⟨st',by simp [h1,h2],fun _ r h=>.inl (hr r h)⟩
  ·have e2:decide ((a.length:Int)≤400)=false:=by simp;omega
   exact ⟨[],by simp [e2,h2],fun h=>absurd h h2⟩
 ·have e1:decide ((a.length:Int)≥1)=false:=by simp;omega
  refine ⟨[],by simp [e1,h1],fun _ r _=>.inr ?_⟩
  cases a with
  | nil=>rfl
  | cons=>simp at h1
theorem aaV (N:Nat) (a:List ak) (hN:1048577 < N):FH N a=some (fM a):=by
 obtain ⟨st,h,_⟩:=ajG N a hN
 unfold FH
 rw [h]
 rfl
end Go.Proofs.Tryz
