/-
 Plain lemmas on the models, part 1.
-/
import Derived.Test.YtobpmdjghijneaaGreatDoorFuGL1
namespace Go.Proofs.Tryz
open Go.Av
set_option maxRecDepth 100000
set_option linter.all false
def jr (s:List UInt8) (i:Nat):Int:=match s[i]? with|some b=>(b.toNat:Int)|none=>-1
def apT (b:UInt8):(b.toNat:Int) < 256:=by have:=b.toNat_lt;omega
def acU (b:UInt8):IntKind.wrap .i64 ((b.toNat:Nat):Int)=(b.toNat:Int):=by have:=apT b;exact wrap64 ah ah
def acV {s:List UInt8} {i:Nat} (h:i < s.length):jr s i=(s[i].toNat:Int):=by
 unfold jr;rw [eY h]
def acW {s:List UInt8} {i:Nat} (h: ¬i < s.length):jr s i= -1:=by
 unfold jr;rw [zo ah]
def Vv {s:List UInt8} {i:Nat} (h:jr s i≠ -1):i < s.length:=by
 cases vP i s.length with
 | inl h=>exact h
 | inr h'=>exact absurd (acW ah) h
def Vw (a b c:Int):qA a b c=some (decide (a>=b)&&decide (a<=c)):=by
 unfold qA;by_cases h:a>=b<;>simp [h]
def EI (a b c:Int):oD a b c=some (decide (a>=b)&&decide (a<=c)):=by
 unfold oD;by_cases h:a>=b<;>simp [h]
def QJ (s:List UInt8) (hs:s.length<=1048576) (i:Nat):El s (i:Int)=some (jr s i):=by
 unfold El;rw [Vw,wrap64 ah ah,aB,kL (by omega:(i:Int)>=0),Ae];by_cases h:i < s.length
 .rw [kL ah,nN,aI,dn h,aB,acV h,acU]
 .rw [tH ah,mg,aO,acW h]
def QK (s:List UInt8) (i:Nat):Bp s (i:Int)=some (jr s i):=by
 unfold Bp;rw [tH (by omega: ¬(i:Int) < 0),aI,aB];by_cases h:i < s.length
 .rw [tH ah,aI,dn h,aB,acV h,acU]
 .rw [kL ah,aO,acW h]
def QL (c:Int):Bool:=decide (c>=48)&&decide (c<=57)
def aiB (c:Int):Qq c=some (QL c):=by
 unfold Qq;rw [EI];rfl
def aiC (c:Int):PV c=some (QL c):=by
 unfold PV QL;by_cases h:c>=48<;>simp [h]
def Nc (c:Int):Bool:=(decide (c>=97)&&decide (c<=122))||((decide (c>=65)&&decide (c<=90))||c==95)
def aiD (c:Int):Qp c=some (Nc c):=by
 unfold Qp Nc;rw [EI,EI];cases (decide (c>=97)&&decide (c<=122))<;>cases (decide (c>=65)&&decide (c<=90))<;>rfl
def aiE (c:Int):PU c=some (Nc c):=by
 unfold PU Nc;cases decide (c>=97)<;>cases decide (c<=122)<;>cases decide (c>=65)<;>cases decide (c<=90)<;>rfl
def Vx (c:Int):Bool:=Nc c||QL c
def apU (c:Int):UH c=some (Vx c):=by
 unfold UH Vx;rw [aiD,aiB];cases Nc c<;>rfl
def apV (c:Int):TT c=some (Vx c):=by
 unfold TT Vx;rw [aiE,aiC];cases Nc c<;>rfl
def apW {s:List UInt8} {i:Nat} (h:QL (jr s i)=true):i < s.length:=by
 refine Vv fun e=>?_;rw [e] at h;cases h
def EJ {s:List UInt8} (hs:s.length<=1048576) {i:Nat} (h:i<=s.length+1):IntKind.wrap .i64 ((i:Int)+1)=((i+1:Nat):Int):=by
 rw [wrap64 ah ah];omega
def apX (N M:Nat) (s:List UInt8) (hs:s.length<=1048576):∀ (n m i:Nat),s.length - i < n->s.length - i < m->i<=s.length->∃ r:Nat,Mr N n (s,(i:Int))=some (r:Int)/\LV M m (s,(i:Int))=some (r:Int)/\i<=r/\r<=s.length:=by
 intro n;induction n with
 | zero=>intro m i h;omega
 | succ n ih=>
  intro m i hn hm hi;obtain ⟨m,rfl⟩:∃ k,m=k+1:=⟨m - 1,ah⟩
  rw [Mr,LV,QK,QJ s hs,aB,aB,aiB,aiC,aB,aB];cases h:QL (jr s i) with
  | false=>exact ⟨i,rfl,rfl,dX _,hi⟩
  | true=>
   have:=apW h;rw [aO,aO,EJ hs ah];obtain ⟨r,h1,h2,h3,h4⟩:=ih m (i+1) ah ah ah;exact ⟨r,h1,h2,ah,h4⟩
def acX (N:Nat) (s:List UInt8) (hs:s.length<=1048576) (hN:s.length < N) (i:Nat) (hi:i<=s.length):∃ r:Nat,Ms N s (i:Int)=some (r:Int)/\PX N s (i:Int)=some (r:Int)/\i<=r/\r<=s.length:=
 apX N N s hs N N i ah ah hi
def aiF (N:Nat) (s:List UInt8) (hs:s.length<=1048576) (hN:s.length < N) (a y:Nat) (z:Int) (hy:y<=s.length) (hay:a<=y) (hz:(((y:Int)==(a:Int))=true)↔((z==0)=true)):
  ∃ r:Int,Qs N (s,(a:Int),(y:Int))=some r/\LW N (s,(y:Int),z)=some r/\(r= -1\/(a < r/\r<=s.length)):=by
 simp only [Qs,LW];cases he:((y:Int)==(a:Int)) with
 | true=>
  rw [hz.1 he];exact ⟨-1,rfl,rfl,.inl rfl⟩
 | false=>
  have hz0:(z==0)=false:=by
   cases h:(z==0) with
   | false=>rfl
   | true=>rw [hz.2 h] at he;cases he
  have hne: ¬(y:Int)=a:=by simpa using he
  have hcond:((some<|jr s y).bind fun fG=>bif (fG==101) then some true else ((some<|jr s y).bind fun mO=>some<|mO==69))=some (jr s y==101||jr s y==69):=by
   cases h:(jr s y==101)<;>simp [h]
  have apY:(bif (jr s y==101) then some true else some (jr s y==69))=some (jr s y==101||jr s y==69):=by
   cases (jr s y==101)<;>rfl
  rw [hz0,aI,aI,QK,QJ s hs,hcond,aB,aB,apY,aB];have hdone:∃ r:Int,UO N (y:Int)=some r/\Ua N (y:Int)=some r/\(r= -1\/(a < r/\r<=s.length)):=⟨y,rfl,rfl,.inr ⟨ah,ah⟩⟩
  cases hE:(jr s y==101||jr s y==69) with
  | false=>exact hdone
  | true=>
   have hlt:y < s.length:=by
    refine Vv fun e=>?_;rw [e] at hE;cases hE
   have hk3:∀ x:Nat,x<=s.length->y<=x->∃ r:Int,Qr N (s,(y:Int),(x:Int))=some r/\PY N (s,(y:Int),(x:Int))=some r/\(r= -1\/(a < r/\r<=s.length)):=by
    intro x hx hyx;obtain ⟨r,h1,h2,h3,h4⟩:=acX N s hs hN x hx;simp only [Qr,PY,h1,h2,aB];by_cases hr:(r:Int) > x
    .rw [kL hr];exact ⟨r,rfl,rfl,.inr ⟨ah,ah⟩⟩
    .rw [tH hr];exact hdone
   have hs1:=EJ hs (i:=y) ah;have hs2:=EJ hs (i:=y+1) ah;have hsg:((some<|jr s<|y+1).bind fun wV=>bif (wV==43) then some true else ((some<|jr s<|y+1).bind fun cB=>some<|cB==45))=some (jr s (y+1)==43||jr s (y+1)==45):=by
    cases h:(jr s (y+1)==43)<;>simp [h]
   have apZ:(bif (jr s (y+1)==43) then some true else some (jr s (y+1)==45))=some (jr s (y+1)==43||jr s (y+1)==45):=by
    cases (jr s (y+1)==43)<;>rfl
   simp only [aO,hs1,hs2,QK,QJ s hs,aB] at hsg apZ ⊢;simp only [hsg,aB];cases hS:(jr s (y+1)==43||jr s (y+1)==45) with
   | true=>
    have:y+1 < s.length:=by
     refine Vv fun e=>?_;rw [e] at hS;cases hS
    exact hk3 (y+1+1) ah ah
   | false=>exact hk3 (y+1) ah ah
def aqa (N:Nat) (s:List UInt8) (hs:s.length<=1048576) (hN:s.length < N) (i:Nat) (hi:i < s.length):
  ∃ r:Int,Qt N s (i:Int)=some r/\PZ N s (i:Int)=some r/\(r= -1\/(i < r/\r<=s.length)):=by
 unfold Qt PZ;obtain ⟨r,h1,h2,h3,h4⟩:=acX N s hs hN i ah;rw [Vw,wrap64 (n:=(s.length:Int) - 1) ah ah,tH (by omega: ¬(i:Int) < 0),kL (by omega:(i:Int)>=0),kL (by omega:(i:Int)<=(s.length:Int) - 1),aI,aB,Af,nN,aI,h1,h2,aB,aB,QK,QJ s hs,aB,aB];cases hd:(jr s r==46) with
 | false=>
  rw [aI,aI,wrap64 (n:=(r:Int) - i) ah ah];refine aiF N s hs hN i r _ h4 h3 ?_;constructor
  .intro h;have:=eq_of_beq h;rw [this];simp
  .intro h;have:=eq_of_beq h;exact qj.2 ah
 | true=>
  have hlt:r < s.length:=by
   refine Vv fun e=>?_;rw [e] at hd;cases hd
  obtain ⟨q,g1,g2,g3,g4⟩:=acX N s hs hN (r+1) ah;rw [aO,aO,EJ hs ah,g1,g2,aB,aB,wrap64 (n:=(r:Int) - i) ah ah,wrap64 (n:=(q:Int) - r) ah ah,wrap64 (n:=(q:Int) - r - 1) ah ah,wrap64 ah ah];have aqb:=aiF N s hs hN i q ((r:Int) - i+((q:Int) - r - 1)) g4 ah;by_cases he:(r:Int)=i/\(q:Int)=((r+1:Nat):Int)
  .have e1:((r:Int)==(i:Int))=true:=qj.2 he.1;have e2:((q:Int)==((r+1:Nat):Int))=true:=qj.2 he.2;have e3:(((r:Int) - i+((q:Int) - r - 1))==0)=true:=qj.2 ah;simp only [e1,e2,aO,aB,LW,e3];exact ⟨-1,rfl,rfl,.inl rfl⟩
  .have hc:(bif ((r:Int)==(i:Int)) then some ((q:Int)==((r+1:Nat):Int)) else some false)=some false:=by
    cases e1:((r:Int)==(i:Int)) with
    | false=>rfl
    | true=>
     have e2:((q:Int)==((r+1:Nat):Int))=false:=by
      cases e2:((q:Int)==((r+1:Nat):Int)) with
      | false=>rfl
      | true=>exact absurd ⟨eq_of_beq e1,eq_of_beq e2⟩ he
     rw [e2];rfl
   rw [hc,aB,aI];refine aqb ?_;have n1:((q:Int)==(i:Int))=false:=by
    cases e:((q:Int)==(i:Int)) with
    | false=>rfl
    | true=>have:=eq_of_beq e;omega
   have n2:(((r:Int) - i+((q:Int) - r - 1))==0)=false:=by
    cases e:(((r:Int) - i+((q:Int) - r - 1))==0) with
    | false=>rfl
    | true=>have:=eq_of_beq e;exact absurd ⟨ah,ah⟩ he
   rw [n1,n2]
def aqc (N M:Nat) (s:List UInt8) (hs:s.length<=1048576) (q:Int) (hq:q≠10) (hq2:q≠92):∀ (n m i:Nat),s.length+1 - i < n->s.length+1 - i < m->i<=s.length+1->
  ∃ r:Int,Gn N n (s,q,(i:Int))=some r/\Em M m (s,q,(i:Int))=some r/\(r= -1\/(i < r/\r<=s.length)):=by
 intro n;induction n with
 | zero=>intro m i h;omega
 | succ n ih=>
  intro m i hn hm hi;obtain ⟨m,rfl⟩:∃ k,m=k+1:=⟨m - 1,ah⟩
  rw [Gn,Em];by_cases h:i < s.length
  .simp only [iL h,aO,dn h,aB,acU,EJ hs (by omega:i<=s.length+1)];have hge:=ih m;by_cases h10:(s[i].toNat:Int)=10
   .have e1:((s[i].toNat:Int)==q)=false:=by
     cases e:((s[i].toNat:Int)==q) with
     | false=>rfl
     | true=>have:=eq_of_beq e;omega
    have e2:((s[i].toNat:Int)==10)=true:=qj.2 h10;have e3:((s[i].toNat:Int) !=10)=false:=by rw [bne,e2];rfl
    rw [e1,e2,e3];exact ⟨-1,rfl,rfl,.inl rfl⟩
   .have e2:((s[i].toNat:Int)==10)=false:=by
     cases e:((s[i].toNat:Int)==10) with
     | false=>rfl
     | true=>exact absurd (eq_of_beq e) h10
    have e3:((s[i].toNat:Int) !=10)=true:=by rw [bne,e2];rfl
    rw [e2,e3];simp only [aO,aI];cases e1:((s[i].toNat:Int)==q) with
    | true=>exact ⟨((i+1:Nat):Int),rfl,rfl,.inr ⟨ah,ah⟩⟩
    | false=>
     simp only [aI];cases e4:((s[i].toNat:Int)==92) with
     | false=>
      simp only [aI,aB,Qv,LY,EJ hs (by omega:i<=s.length+1)];obtain ⟨r,h1,h2,h3⟩:=hge (i+1) ah ah ah;exact ⟨r,h1,h2,h3.imp id fun h=>⟨ah,h.2⟩⟩
     | true=>
      rw [aO,aO,QK,QJ s hs,aB,aB,aB];cases e5:(jr s (i+1)==10) with
      | true=>
       have e6:(jr s (i+1) !=10)=false:=by rw [bne,e5];rfl
       have hlt:i+1 < s.length:=by
        refine Vv fun e=>?_;rw [e] at e5;cases e5
       have aqd:((s[i+1].toNat:Int) !=10)=false:=by
        rw [acV hlt] at e6;exact e6
       rw [e6];obtain ⟨m,rfl⟩:∃ k,m=k+1:=⟨m - 1,ah⟩
       simp only [aO,aI,LY,EJ hs (by omega:i<=s.length+1)];rw [Em];simp only [iL hlt,aO,dn hlt,aB,aqd,aI];exact ⟨-1,rfl,rfl,.inl rfl⟩
      | false=>
       have e6:(jr s (i+1) !=10)=true:=by rw [bne,e5];rfl
       rw [e6];simp only [aO,aI,Qv,LY,EJ hs (by omega:i+1<=s.length+1)];obtain ⟨r,h1,h2,h3⟩:=hge (i+1+1) ah ah ah;exact ⟨r,h1,h2,h3.imp id fun h=>⟨ah,h.2⟩⟩
  .simp only [jN h,aI,aB];exact ⟨-1,rfl,rfl,.inl rfl⟩
def aiG (N:Nat) (s:List UInt8) (hs:s.length<=1048576) (hN:s.length+2 < N) (q:Int) (hq:q≠10) (hq2:q≠92) (i:Nat) (hi:i < s.length):
  ∃ r:Int,Qw N s (i:Int) q=some r/\Qa N s (i:Int) q=some r/\(r= -1\/(i < r/\r<=s.length)):=by
 unfold Qw Qa;rw [QK,QJ s hs,aB,aB,EJ hs ah];cases (jr s i !=q) with
 | true=>exact ⟨-1,rfl,rfl,.inl rfl⟩
 | false=>
  obtain ⟨r,h1,h2,h3⟩:=aqc N N s hs q hq hq2 N N (i+1) ah ah ah;exact ⟨r,h1,h2,h3.imp id fun h=>⟨ah,h.2⟩⟩
def aqe (N:Nat) (s:List UInt8) (hs:s.length<=1048576) (hN:s.length+2 < N) (i:Nat) (hi:i < s.length):
  ∃ r:Int,Mt N s (i:Int)=some r/\Qb N s (i:Int)=some r/\(r= -1\/(i < r/\r<=s.length)):=by
 obtain ⟨r,h1,h2,h3⟩:=aiG N s hs hN 34 aJ aJ i hi;unfold Mt Qb;rw [h1,h2];exact ⟨r,rfl,rfl,h3⟩
def aqf (N:Nat) (s:List UInt8) (hs:s.length<=1048576) (hN:s.length+2 < N) (i:Nat) (hi:i < s.length):
  ∃ r:Int,Mv N s (i:Int)=some r/\Qc N s (i:Int)=some r/\(r= -1\/(i < r/\r<=s.length)):=by
 obtain ⟨r,h1,h2,h3⟩:=aiG N s hs hN 47 aJ aJ i hi;unfold Mv Qc;simp only [h1,h2,aB];cases (r==IntKind.wrap .i64 ((i:Int)+2)) with
 | true=>exact ⟨-1,rfl,rfl,.inl rfl⟩
 | false=>exact ⟨r,rfl,rfl,h3⟩
def aqg (N M:Nat) (s:List UInt8) (hs:s.length<=1048576):∀ (n m i:Nat),s.length - i < n->s.length - i < m->i<=s.length->∃ b:Bool,JG N n (s,(i:Int))=some b/\LJ M m (s,(i:Int))=some b:=by
 intro n;induction n with
 | zero=>intro m i h;omega
 | succ n ih=>
  intro m i hn hm hi;obtain ⟨m,rfl⟩:∃ k,m=k+1:=⟨m - 1,ah⟩
  rw [JG,LJ];by_cases h:i < s.length
  .simp only [iL h,aO,dn h,aB,apU,apV,EJ hs (by omega:i<=s.length+1)];cases Vx (IntKind.wrap .i64 ((s[i].toNat:Nat):Int)) with
   | false=>exact ⟨false,rfl,rfl⟩
   | true=>exact ih m (i+1) ah ah ah
  .simp only [jN h,aI,EI,Vw,aB];cases hc:(decide ((s.length:Int)>=1)&&decide ((s.length:Int)<=12)) with
   | false=>exact ⟨false,rfl,rfl⟩
   | true=>
    have h0:0 < s.length:=by
     simp only [dP,mP] at hc;omega
    have e:ix s 0=some s[0]:=dn h0;simp only [aO,e,aB,aiD,aiE];exact ⟨_,rfl,rfl⟩
def aqh (N:Nat) (s:List UInt8) (hs:s.length<=1048576) (hN:s.length < N):∃ b:Bool,UJ N s=some b/\Yx N s=some b:=
 aqg N N s hs N N 0 ah ah ah
def Ze:UK=some qX:=rfl
def aqi:YO=some yQ:=rfl
def acY:YQ=some yP:=rfl
def aqj (N M:Nat) (l:List (List UInt8)) (x:List UInt8) (hl:l.length<=1048576):∀ (n m i:Nat),l.length - i < n->l.length - i < m->i<=l.length->
  ∃ r:Int,Ml N n (l,x,(i:Int))=some r/\Jl M m (l,x,(i:Int))=some r/\(-1<=r/\(0<=r->x∈l))/\r < l.length:=by
 intro n;induction n with
 | zero=>intro m i h;omega
 | succ n ih=>
  intro m i hn hm hi;obtain ⟨m,rfl⟩:∃ k,m=k+1:=⟨m - 1,ah⟩
  rw [Ml,Jl];by_cases h:i < l.length
  .have hst:IntKind.wrap .i64 ((i:Int)+1)=((i+1:Nat):Int):=Vy h (by simp only [maxLen];omega);have hc:(x==l[i])=(l[i]==x):=by
    cases e:(l[i]==x) with
    | true=>have:=eq_of_beq e;subst this;simp
    | false=>
     have: ¬l[i]=x:=by simpa using e
     simpa using fun e=>this e.symm
   simp only [iL h,aO,dn h,aB,hst,hc];cases he:(l[i]==x) with
   | true=>exact ⟨(i:Int),rfl,rfl,⟨ah,fun _=>by have:=eq_of_beq he;rw [<- this];exact nO h⟩,ah⟩
   | false=>exact ih m (i+1) ah ah ah
  .simp only [jN h,aI];exact ⟨-1,rfl,rfl,⟨ah,fun h=>ah⟩,ah⟩
def aiH (N:Nat) (l:List (List UInt8)) (x:List UInt8) (hl:l.length<=1048576) (hN:l.length < N):∃ r:Int,UL N l x=some r/\PW N l x=some r/\(-1<=r/\(0<=r->x∈l))/\r < l.length:=
 aqj N N l x hl N N 0 ah ah ah
def aqk (N:Nat) (x:List UInt8) (hN:100 < N):∃ r:Int,UM N x=some r/\TV N x=some r/\(r=0\/(10<=r/\r<=26)):=by
 obtain ⟨r,h1,h2,h3,h4⟩:=aiH N qX x aJ (by have:qX.length=17:=rfl;omega);have hl:qX.length=17:=rfl;unfold UM TV;rw [Ze,aB,h1,h2];simp only [aB];by_cases h:r < 0
 .rw [kL h];exact ⟨0,rfl,rfl,.inl rfl⟩
 .rw [tH h,wrap64 (n:=10+r) ah ah];exact ⟨10+r,rfl,rfl,.inr ah⟩
def acZ (N:Nat) (x:List UInt8) (hN:100 < N):∃ b:Bool,Gm N x=some b/\LQ N x=some b/\(b=true->x∈yQ):=by
 obtain ⟨r,h1,h2,h3,h4⟩:=aiH N yQ x aJ (by have:yQ.length=21:=rfl;omega);unfold Gm LQ LP;rw [aqi,aB,h1,h2];exact ⟨_,rfl,rfl,fun h=>h3.2<|by simpa using h⟩
def aql (b:UInt8):(((b).toNat:Int)==10)=(b==10):=by
 cases h:(b==10) with
 | true=>have:=eq_of_beq h;subst this;rfl
 | false=>
  have hne:b≠10:=by simpa using h
  have: ¬b.toNat=10:=fun e=>hne (UInt8.toNat.inj e);simp;omega
def aqm (N:Nat) (t:List UInt8) (ht:t.length<=maxLen):∀ (n i:Nat),t.length - i < n->i<=t.length->Mq N n (t,(i:Int))=some (!(t.drop i).contains 10):=by
 intro n;induction n with
 | zero=>intro i h;omega
 | succ n ih=>
  intro i hn hi;rw [Mq];by_cases h:i < t.length
  .simp only [iL h,aO,dn h,aB,aql,Vy h ht];rw [ih (i+1) ah ah,drop_cons h,List.contains_cons];by_cases he:t[i]=10
   .simp [he]
   .have h1:(t[i]==10)=false:=by simpa using he
    have h2:((10:UInt8)==t[i])=false:=by simpa using fun e=>he e.symm
    rw [h1,h2,aI,Vz]
  .simp only [jN h,aI];rw [drop_nil h];rfl
def aqn (N:Nat) (t:List UInt8) (hN:t.length < N) (ht:t.length<=maxLen):UN N t=some (!t.contains 10):=by
 unfold UN;have:=aqm N t ht N 0 ah ah;simpa using this
def aqo (l:List UInt8) (c:UInt8):decide (Go.Lib.indexByte l c>=0)=l.contains c:=by
 induction l with
 | nil=>rfl
 | cons b l ih=>
  rw [List.contains_cons];unfold Go.Lib.indexByte;by_cases h:(b==c)=true
  .have:(c==b)=true:=by have:=eq_of_beq h;subst this;simp
   simp [h,this]
  .have hf:(b==c)=false:=by simpa using h
   have hf2:(c==b)=false:=by
    have: ¬b=c:=by simpa using hf
    simpa using fun e=>this e.symm
   rw [hf,hf2,Vz,<- ih];have hge:=Go.Lib.indexByte_ge l c;simp only [Bool.false_eq_true,if_false];split
   .rename_i he;have:Go.Lib.indexByte l c= -1:=by simpa using he
    rw [this]
   .rename_i he;have: ¬Go.Lib.indexByte l c= -1:=by simpa using he
    have h1:Go.Lib.indexByte l c>=0:=ah;have h2:Go.Lib.indexByte l c+1>=0:=ah;simp [h1,h2]
def aqp (t:List UInt8):TY t=some (t.contains 10):=by
 have h0:TW t=some (Go.Lib.indexByte t 10):=by
  unfold TW;by_cases h:(([10]:List UInt8)==t)=true
  .have:=eq_of_beq h;subst this;rfl
  .have hf:(([10]:List UInt8)==t)=false:=by simpa using h
   rw [hf,aI];rfl
 unfold TY Yy;rw [h0,aB,aB,aqo]
def aqr (k:Int):∃ x:List UInt8,CG k=some x/\(k=0->x=[]):=by
 unfold CG;rw [EI,EI,Ze,acY];simp only [aB];cases h1:(k==1) with
 | true=>exact ⟨[10],rfl,fun h=>by subst h;cases h1⟩
 | false=>
  cases h2:(decide (k>=10)&&decide (k<=26)) with
  | true=>
   simp only [dP,mP] at h2;obtain ⟨j,rfl⟩:∃ j:Nat,k=(j:Int)+10:=⟨(k - 10).toNat,ah⟩
   have hl:qX.length=17:=rfl;have hw:IntKind.wrap .i64 ((j:Int)+10 - 10)=(j:Int):=by rw [wrap64 ah ah];omega
   rw [aI,aO,hw,dn ah];exact ⟨_,rfl,fun h=>ah⟩
  | false=>
   cases h3:(decide (k>=30)&&decide (k<=68)) with
   | true=>
    simp only [dP,mP] at h3;obtain ⟨j,rfl⟩:∃ j:Nat,k=(j:Int)+30:=⟨(k - 30).toNat,ah⟩
    have hl:yP.length=39:=rfl;have hw:IntKind.wrap .i64 ((j:Int)+30 - 30)=(j:Int):=by rw [wrap64 ah ah];omega
    rw [aI,aI,aO,hw,dn ah];exact ⟨_,rfl,fun h=>ah⟩
   | false=>exact ⟨[],rfl,fun _=>rfl⟩
def aiI (k:Int):∃ x:List UInt8,CG k=some x/\LZ k=some x/\(k=0->x=[]):=by
 have hkw:Uc k=some (decide (k>=10)&&decide (k<=26)):=by
  unfold Uc;rw [Vw];rfl
 have hsg:Ud k=some (decide (k>=30)&&decide (k<=68)):=by
  unfold Ud;rw [Vw];rfl
 unfold CG LZ;rw [EI,EI,hkw,hsg,Ze,acY];simp only [aB];cases h1:(k==1) with
 | true=>exact ⟨[10],rfl,rfl,fun h=>by subst h;cases h1⟩
 | false=>
  cases h2:(decide (k>=10)&&decide (k<=26)) with
  | true=>
   simp only [dP,mP] at h2;obtain ⟨j,rfl⟩:∃ j:Nat,k=(j:Int)+10:=⟨(k - 10).toNat,ah⟩
   have hl:qX.length=17:=rfl;have hw:IntKind.wrap .i64 ((j:Int)+10 - 10)=(j:Int):=by rw [wrap64 ah ah];omega
   rw [aI,aO,hw,dn ah];exact ⟨_,rfl,rfl,fun h=>ah⟩
  | false=>
   cases h3:(decide (k>=30)&&decide (k<=68)) with
   | true=>
    simp only [dP,mP] at h3;obtain ⟨j,rfl⟩:∃ j:Nat,k=(j:Int)+30:=⟨(k - 30).toNat,ah⟩
    have hl:yP.length=39:=rfl;have hw:IntKind.wrap .i64 ((j:Int)+30 - 30)=(j:Int):=by rw [wrap64 ah ah];omega
    rw [aI,aI,aO,hw,dn ah];exact ⟨_,rfl,rfl,fun h=>ah⟩
   | false=>exact ⟨[],rfl,rfl,fun _=>rfl⟩
def ada (N:Nat) (x:List UInt8) (hx:x.length<=1048576) (hN:x.length+200 < N):∃ b:Bool,CF N x=some b/\Bg N x=some b/\(x=[]->b=false):=by
 unfold CF Bg;obtain ⟨q,h1,h2⟩:=aqh N x hx ah;obtain ⟨r,g1,g2,_⟩:=aqk N x ah;obtain ⟨c,f1,f2,_⟩:=acZ N x ah;have hq:x=[]->q=false:=by
  intro e;subst e;unfold UJ at h1;obtain ⟨M,rfl⟩:∃ m,N=m+1:=⟨N - 1,ah⟩
  rw [JG] at h1;have e1:decide ((0:Int) < (([]:List UInt8).length:Int))=false:=rfl;have e2:oD (([]:List UInt8).length:Int) 1 12=some false:=rfl;rw [e1,aI,e2] at h1;simpa using h1.symm
 rw [h1,h2,aB,aB];cases hqv:q with
 | false=>exact ⟨false,rfl,rfl,fun _=>rfl⟩
 | true=>
  rw [aO,aO,g1,g2,aB,aB];cases (r==0) with
  | false=>exact ⟨false,rfl,rfl,fun _=>rfl⟩
  | true=>
   rw [aO,aO,f1,f2];exact ⟨!c,rfl,rfl,fun e=>by rw [hq e] at hqv;cases hqv⟩
def adb (x:List UInt8):(x==[])=true↔x=[]:=aA
def QM (N:Nat) (t:aC) (ht:t.Text.length<=1048576) (hN:t.Text.length+200 < N):∃ b:Bool,sZ N t=some b/\Ma N t=some b/\(t.Kind=0->b=false):=by
 obtain ⟨sp,s1,s2,s3⟩:=aiI t.Kind;obtain ⟨nb,n1,n2,n3⟩:=ada N t.Text ht hN;obtain ⟨bb,b1,b2,b3⟩:=acZ N t.Text ah;have hk1:∀ y:Bool,¬t.Text=[]->∃ b:Bool,Aa N (t,y)=some b/\Qd N (t,y)=some b/\(t.Kind=0->y=false->b=false):=by
  intro y hne;have hbn:(t.Text==[])=false:=by
   cases e:(t.Text==[]) with
   | false=>rfl
   | true=>exact absurd ((adb _).1 e) hne
  simp only [Aa,Qd];rw [n1,n2,b1,b2,s1,s2,hbn];cases y with
  | true=>exact ⟨nb,rfl,rfl,fun _ h=>by cases h⟩
  | false=>
   cases h8:(t.Kind==8) with
   | true=>
    refine ⟨bb,rfl,rfl,fun h=>?_⟩;rw [h] at h8;cases h8
   | false=>
    have hc:(sp==t.Text)=(t.Text==sp):=by
     cases e:(t.Text==sp) with
     | true=>have:=eq_of_beq e;rw [this];simp
     | false=>
      have: ¬t.Text=sp:=by simpa using e
      simpa using fun e=>this e.symm
    refine ⟨t.Text==sp,by rw [<- hc];rfl,rfl,fun h _=>?_⟩;rw [s3 h];exact hbn
 unfold sZ Ma;by_cases hne:t.Text=[]
 .have e0:(t.Text==[])=true:=(adb _).2 hne;rw [e0,aO];refine ⟨false,?_,rfl,fun _=>rfl⟩;have hl:decide ((t.Text.length:Int) > 0)=false:=by rw [hne];rfl
  have hst:Mt N t.Text 0=some (-1):=by
   rw [hne];rfl
  have hre:Mv N t.Text 0=some (-1):=by
   rw [hne];rfl
  have hm1:((-1:Int)==(t.Text.length:Int))=false:=by rw [hne];rfl
  rw [hl,hst,hre];have hk:∀ y,Aa N (t,y)=some false:=by
   intro y;simp only [Aa];rw [n1,n3 hne,b1,s1,e0];have hbb:bb=false:=by
    cases h:bb with
    | false=>rfl
    | true=>
     have:=b3 h;rw [hne] at this;exact absurd this aJ
   rw [hbb];cases y<;>cases (t.Kind==8)<;>rfl
  simp only [aB,aI,hm1,hk];cases (t.Kind==2)<;>cases (t.Kind==3)<;>cases (t.Kind==4)<;>cases (t.Kind==5)<;>cases (t.Kind==6)<;>rfl
 .have e0:(t.Text==[])=false:=by
   cases e:(t.Text==[]) with
   | false=>rfl
   | true=>exact absurd ((adb _).1 e) hne
  have hpos:0 < t.Text.length:=by
   cases VA t.Text.length with
   | inl h=>exact absurd (GX.1 h) hne
   | inr h=>exact h
  have hl:decide ((t.Text.length:Int) > 0)=true:=kL ah;rw [e0,aI,hl];simp only [aO];cases h2:(t.Kind==2) with
  | true=>
   have e:ix t.Text 0=some t.Text[0]:=dn hpos;have hp:=aqn N t.Text ah (by simp only [maxLen];omega);have hc:=aqp t.Text;rw [aO,aO,e,hp,hc];simp only [aB];refine ⟨((t.Text[0].toNat:Int)==35)&&!t.Text.contains 10,?_,?_,fun h=>?_⟩
   .cases ((t.Text[0].toNat:Int)==35)<;>rfl
   .cases ((t.Text[0].toNat:Int)==35)<;>rfl
   .rw [h] at h2;cases h2
  | false=>
   rw [aI,aI];cases h3:(t.Kind==3) with
   | true=>
    obtain ⟨r,f1,f2,_⟩:=aqa N t.Text ht ah 0 hpos;have VB:Qt N t.Text 0=some r:=f1;have f2':PZ N t.Text 0=some r:=f2;rw [aO,aO,VB,f2'];refine ⟨_,rfl,rfl,fun h=>?_⟩;rw [h] at h3;cases h3
   | false=>
    rw [aI,aI];cases h4:(t.Kind==4) with
    | true=>
     obtain ⟨r,f1,f2,_⟩:=aqe N t.Text ht ah 0 hpos;have VB:Mt N t.Text 0=some r:=f1;have f2':Qb N t.Text 0=some r:=f2;rw [aO,aO,VB,f2'];refine ⟨_,rfl,rfl,fun h=>?_⟩;rw [h] at h4;cases h4
    | false=>
     rw [aI,aI];cases h5:(t.Kind==5) with
     | true=>
      obtain ⟨r,f1,f2,_⟩:=aqf N t.Text ht ah 0 hpos;have VB:Mv N t.Text 0=some r:=f1;have f2':Qc N t.Text 0=some r:=f2;rw [aO,aO,VB,f2'];refine ⟨_,rfl,rfl,fun h=>?_⟩;rw [h] at h5;cases h5
     | false=>
      rw [aI,aI];cases h6:(t.Kind==6) with
      | true=>
       obtain ⟨b,k1,k2,k3⟩:=hk1 true hne;refine ⟨b,k1,k2,fun h=>?_⟩;rw [h] at h6;cases h6
      | false=>
       obtain ⟨b,k1,k2,k3⟩:=hk1 (t.Kind==7) hne;refine ⟨b,k1,k2,fun h=>k3 h ?_⟩;rw [h];rfl
def qD (a:List aD):List (List Int):=a.map (·.Kids)
def aiK {a:List aD} {i:Nat} (h:i < a.length):(qD a).drop i=a[i].Kids::(qD a).drop (i+1):=by
 have h':i < (qD a).length:=by simpa [qD] using h
 rw [drop_cons h'];simp [qD]
def aqt (N:Nat) (kb:(List aD×Int×List Int)->Option (List Int×Bool)) (a:List aD) (i:Nat) (hi:i < a.length) (hi2:i<=100000) (out:List Int) (ho:out.length=i) (hl:Low out) (hk:a[i].Kids.length<=1048576):
  ∀ (n j:Nat) (at_:Int),j < n->j<=a[i].Kids.length->0<=at_->at_<=i->
   Mj N kb n (a,(i:Int),out,at_,(j:Int) - 1)=match walk out at_ (a[i].Kids.take j).reverse with
    | none=>some ([],false)
    | some s=>kb (a,((i+1:Nat):Int),out++[s]):=by
 intro n;induction n with
 | zero=>intro j at_ h;omega
 | succ n ih=>
  intro j at_ hn hj h0 h1;rw [Mj];cases j with
  | zero=>
   have:decide (((0:Nat):Int) - 1>=0)=false:=aA;simp only [this,aI,List.take_zero,List.reverse_nil,walk];rw [pz (by simp [ho];omega),aB,wrap64 ah ah];rfl
  | succ j=>
   have hjk:j < a[i].Kids.length:=ah;rw [aqu hjk];simp only [aqv,aO,aqw,dn hi,dn hjk,aB];rw [wrap64 (n:=at_ - 1) ah ah];unfold walk;by_cases hc:a[i].Kids[j]≠at_ - 1
   .have h2:(a[i].Kids[j] !=at_ - 1)=true:=by simpa using hc
    rw [h2,aO,aB,aO,bZ<|.inr hc]
   .have h2:(a[i].Kids[j] !=at_ - 1)=false:=by simpa using hc
    rw [h2,aI,aB];by_cases hz:at_=0
    .have h3:(at_==0)=true:=by simpa using hz
     rw [h3,aO,bZ<|.inl hz]
    .have h3:(at_==0)=false:=by simpa using hz
     rw [h3,aI,bI fun h=>h.elim hz hc];have hlt:(at_ - 1).toNat < out.length:=ah;have hx:ix out (at_ - 1)=some out[(at_ - 1).toNat]:=by
      have:=dn hlt;rwa [ade ah] at this
     rw [hx,aB,eY hlt];have hlow:=hl _ _ (eY hlt);rw [wrap64 ah ah];exact ih j _ ah ah hlow.1 ah
def aqx (N:Nat) (a:List aD) (hN:1048577 < N) (ha:a.length<=100000) (hk:∀ x,x∈a->x.Kids.length<=1048576):∀ (n i:Nat) (out:List Int),a.length - i < n->i<=a.length->out.length=i->Low out->
  JB N n (a,(i:Int),out)=match starts ((qD a).drop i) out with
   | none=>some ([],false)
   | some r=>some (r,true):=by
 intro n;induction n with
 | zero=>intro i out h;omega
 | succ n ih=>
  intro i out hn hi ho hl;rw [JB];by_cases h:i < a.length
  .have hkl:=hk _ (nO h);simp only [iL h,aO,dn h,aB];rw [wrap64 (n:=(a[i].Kids.length:Int) - 1) ah ah,aqt N _ a i h ah out ho hl hkl N _ _ ah (dX _) ah ah,List.take_length,aiK h,starts,ho];cases hw:walk out (i:Int) a[i].Kids.reverse with
   | none=>rfl
   | some s=>
    have hs:=Zf hl _ ah hw;simp only [aB];exact ih (i+1) _ ah ah (by simp [ho]) (hl.snoc hs.1 ah)
  .simp only [jN h,aI];have:(qD a).drop i=[]:=drop_nil (by simpa [qD] using h);rw [this];rfl
def aqy (N:Nat) (kb:(List aD×Int×List Int)->Option (List Int×Bool)) (a:List aD) (e:aD) (i:Nat) (hi:i < a.length) (hi2:i<=100000) (out st:List Int) (ho:out.length=i) (hst:st.take i=out) (hsl:st.length=a.length) (hl:Low out):
  ∀ (ks:List Int) (at_:Int),0<=at_->at_<=i->
   Jk N kb a (i:Int) e st ks (at_ - 1)=match walk out at_ ks with
    | none=>some ([],false)
    | some s=>kb (a,((i+1:Nat):Int),st.set i s):=by
 intro ks;have hil:i < st.length:=ah;induction ks with
 | nil=>
  intro at_ h0 h1;rw [Jk];simp only [walk];rw [dn hil,aB,wrap64 (n:=at_ - 1+1) ah ah,adf hil,aB,wrap64 ah ah,Int.sub_add_cancel];rfl
 | cons k ks ih=>
  intro at_ h0 h1;rw [Jk];unfold walk;by_cases hz:at_=0
  .have h3:decide (at_ - 1 < 0)=true:=bE;rw [h3,aO,aB,aO,bZ<|.inl hz]
  .have h3:decide (at_ - 1 < 0)=false:=bE;rw [h3,aI,aB];by_cases hc:k≠at_ - 1
   .have h2:(k !=at_ - 1)=true:=by simpa using hc
    rw [h2,aO,bZ<|.inr hc]
   .have h2:(k !=at_ - 1)=false:=by simpa using hc
    have hk:k=at_ - 1:=Decidable.of_not_not hc;rw [h2,aI,bI fun h=>h.elim hz hc];have hlt:(at_ - 1).toNat < out.length:=ah;have hlt2:(at_ - 1).toNat < st.length:=ah;have hx:ix st k=some st[(at_ - 1).toNat]:=by
     have:=dn hlt2;rw [ade ah] at this;rw [hk];exact this
    have he:out[(at_ - 1).toNat]?=some st[(at_ - 1).toNat]:=by
     rw [<- hst,zq,bZ ah,eY hlt2]
    rw [hx,aB,he];have hlow:=hl _ _ he;rw [wrap64 (n:=st[(at_ - 1).toNat] - 1) ah ah];exact ih _ hlow.1 ah
def VD (r:List Int) (n:Nat):Bool:=r[n - 1]?==some 0
def aqz (N:Nat) (a:List aD) (ha:a.length<=100000) (h1:1<=a.length):∀ (n i:Nat) (out st:List Int),a.length - i < n->i<=a.length->out.length=i->st.take i=out->st.length=a.length->Low out->
  ∃ st',FZ N n (a,(i:Int),st)=some (st',match starts ((qD a).drop i) out with
   | none=>false
   | some r=>VD r a.length)/\∀ r,starts ((qD a).drop i) out=some r->st'=r:=by
 intro n;induction n with
 | zero=>intro i out st h;omega
 | succ n ih=>
  intro i out st hn hi ho hst hsl hl;rw [FZ];by_cases h:i < a.length
  .simp only [iL h,aO,dn h,aB];rw [wrap64 (n:=(i:Int) - 1) ah ah,aqy N _ a a[i] i h ah out st ho hst hsl hl _ _ ah ah,aiK h,starts,ho];cases hw:walk out (i:Int) a[i].Kids.reverse with
   | none=>exact ⟨[],rfl,fun r h=>by cases h⟩
   | some s=>
    have hs:=Zf hl _ ah hw;simp only [aB];refine ih (i+1) _ _ ah ah (by simp [ho]) ?_ (by simpa using hsl) (hl.snoc hs.1 ah);rw [Zg,List.take_set_of_le<|dX i,hst,aiL ah];rfl
  .simp only [jN h,aI];have:(qD a).drop i=[]:=drop_nil (by simpa [qD] using h);rw [this];have hia:i=a.length:=ah;have hso:st=out:=by rw [<- hst,aiM ah]
   have hlt:a.length - 1 < st.length:=ah;have hx:ix st ((a.length:Int) - 1)=some st[a.length - 1]:=by
    have:=dn hlt;rwa [show ((a.length - 1:Nat):Int)=(a.length:Int) - 1 by omega] at this
   rw [wrap64 (n:=(a.length:Int) - 1) ah ah,hx,aB];refine ⟨st,?_,fun r hr=>by rw [hso];exact lF hr⟩;simp only [starts,VD,<- hso,eY hlt];congr 2
def uN (a:List aD):Bool:=
 (decide (1<=a.length)&&decide (a.length<=400))&&(match starts (qD a) [] with
  | none=>false
  | some r=>VD r a.length)
def JZ (a b c:Int):qA a b c=some (decide (a>=b)&&decide (a<=c)):=by
 unfold qA;cases decide (a>=b)<;>rfl
def EK (a b c:Int):oD a b c=some (decide (a>=b)&&decide (a<=c)):=by
 unfold oD;cases decide (a>=b)<;>rfl
def aqA {a:List aD} (hs:∀ x,x∈a->vC x):∀ x,x∈a->x.Kids.length<=1048576:=fun x hx=>by
 have:=hs x hx;unfold vC at this;omega
def aqB (N:Nat) (a:List aD) (hN:1048577 < N) (ha:a.length<=400) (hs:∀ x,x∈a->vC x):YM N a=match starts (qD a) [] with
  | none=>some ([],false)
  | some r=>some (r,true):=by
 have:=aqx N a hN ah (aqA hs) N 0 [] ah ah rfl (fun j s h=>by simp at h);rw [EL] at this;exact this
def aiN (N:Nat) (a:List aD) (hN:1048577 < N) (hs:∀ x,x∈a->vC x):Ql N a=some (uN a):=by
 unfold Ql uN;rw [EK,aB];by_cases h1:1<=a.length
 .by_cases h2:a.length<=400
  .have e1:decide ((a.length:Int)>=1)=true:=bE;have e2:decide ((a.length:Int)<=400)=true:=bE;simp only [e1,e2,Af,nN,aI,h1,h2,BD,Ae,aqB N a hN h2 hs];cases hst:starts (qD a) [] with
   | none=>rfl
   | some r=>
    obtain ⟨⟨m,hm,hml⟩,_,_⟩:=adg _ (fun j s h=>by simp at h) hst;have hrl:r.length=a.length:=by rw [hm];simp [hml,qD]
    have hlt:a.length - 1 < r.length:=ah;have hx:ix r ((a.length:Int) - 1)=some r[a.length - 1]:=by
     have:=dn hlt;rwa [show ((a.length - 1:Nat):Int)=(a.length:Int) - 1 by omega] at this
    simp only [aB,aO];rw [wrap64 (n:=(a.length:Int) - 1) ah ah,hx,aB,aB];simp only [VD,eY hlt];congr 1
  .have e2:decide ((a.length:Int)<=400)=false:=bE;simp [e2,h2]
 .have e1:decide ((a.length:Int)>=1)=false:=bE;simp [e1,h1]
def aqC (N:Nat) (a:List aD) (hN:1048577 < N):∃ st,TR N a=some (st,uN a)/\(a.length<=400->∀ r,starts (qD a) []=some r->st=r\/a=[]):=by
 unfold TR uN;rw [JZ,aB];by_cases h1:1<=a.length
 .by_cases h2:a.length<=400
  .have e1:decide ((a.length:Int)>=1)=true:=bE;have e2:decide ((a.length:Int)<=400)=true:=bE;obtain ⟨st',hst',hr⟩:=aqz N a ah h1 N 0 [] (List.replicate a.length 0) ah ah rfl aA aA (fun j s h=>by simp at h);rw [EL] at hst' hr;simp only [e1,e2,Af,nN,aI];rw [aqD ah (by simp only [maxLen];omega),aB];have qE:FZ N N (a,0,List.replicate a.length 0)=_:=hst';rw [qE];exact ⟨st',by simp [h1,h2],fun _ r h=>.inl<|hr r h⟩
  .have e2:decide ((a.length:Int)<=400)=false:=bE;exact ⟨[],by simp [e2,h2],fun h=>absurd h h2⟩
 .have e1:decide ((a.length:Int)>=1)=false:=bE;refine ⟨[],by simp [e1,h1],fun _ r _=>.inr ?_⟩;cases a with
  | nil=>rfl
  | cons=>simp at h1
def aqE (N:Nat) (a:List aD) (hN:1048577 < N):TS N a=some (uN a):=by
 obtain ⟨st,h,_⟩:=aqC N a hN;unfold TS;rw [h];rfl
def atF (op:Int):∃ (b:Bool) (l:Int),Et op=some b/\Bh op=some l/\(l !=0)=b:=by
 rcases jI (op=60) with rfl|h60
 .exact ⟨true,_,rfl,rfl,rfl⟩
 rcases jI (op=57) with rfl|h57
 .exact ⟨true,_,rfl,rfl,rfl⟩
 rcases jI (op=58) with rfl|iN
 .exact ⟨true,_,rfl,rfl,rfl⟩
 rcases jI (op=59) with rfl|wh
 .exact ⟨true,_,rfl,rfl,rfl⟩
 rcases jI (op=55) with rfl|h55
 .exact ⟨true,_,rfl,rfl,rfl⟩
 rcases jI (op=56) with rfl|tN
 .exact ⟨true,_,rfl,rfl,rfl⟩
 rcases jI (op=99) with rfl|pG
 .exact ⟨true,_,rfl,rfl,rfl⟩
 rcases jI (op=63) with rfl|h63
 .exact ⟨true,_,rfl,rfl,rfl⟩
 rcases jI (op=48) with rfl|h48
 .exact ⟨true,_,rfl,rfl,rfl⟩
 rcases jI (op=47) with rfl|h47
 .exact ⟨true,_,rfl,rfl,rfl⟩
 rcases jI (op=50) with rfl|h50
 .exact ⟨true,_,rfl,rfl,rfl⟩
 rcases jI (op=62) with rfl|h62
 .exact ⟨true,_,rfl,rfl,rfl⟩
 rcases jI (op=49) with rfl|wm
 .exact ⟨true,_,rfl,rfl,rfl⟩
 rcases jI (op=67) with rfl|h67
 .exact ⟨true,_,rfl,rfl,rfl⟩
 rcases jI (op=46) with rfl|h46
 .exact ⟨true,_,rfl,rfl,rfl⟩
 rcases jI (op=45) with rfl|h45
 .exact ⟨true,_,rfl,rfl,rfl⟩
 rcases jI (op=44) with rfl|mW
 .exact ⟨true,_,rfl,rfl,rfl⟩
 have e:∀ k,op≠k->(op==k)=false:=fun k h=>by simpa using h
 refine ⟨false,0,?_,?_,rfl⟩
 .unfold Et;rw [e 60 h60,e 57 h57,e 58 iN,e 59 wh,e 55 h55,e 56 tN,e 99 pG,e 63 h63,e 48 h48,e 47 h47,e 50 h50,e 62 h62,e 49 wm,e 67 h67,e 46 h46,e 45 h45,e 44 mW];rfl
 .unfold Bh Uf Gb Ue Qe;simp only [e 60 h60,e 57 h57,e 58 iN,e 59 wh,e 55 h55,e 56 tN,e 99 pG,e 63 h63,e 48 h48,e 47 h47,e 50 h50,e 62 h62,e 49 wm,e 67 h67,e 46 h46,e 45 h45,e 44 mW,aI]
def atG (N:Nat) (t:List UInt8) (hN:100 < N):LP N [[],[62],[62,62],[124]] t=some (t==[]||(t==[62]||(t==[62,62]||t==[124]))):=by
 obtain ⟨N,rfl⟩:∃ M,N=M+5:=⟨N - 5,ah⟩
 unfold LP PW;rcases jI (t=[]) with rfl|h1
 .rfl
 rcases jI (t=[62]) with rfl|h2
 .rfl
 rcases jI (t=[62,62]) with rfl|h3
 .rfl
 rcases jI (t=[124]) with rfl|h4
 .rfl
 have e:∀ k:List UInt8,t≠k->(t==k)=false:=fun k h=>by simpa using h
 have i0:ix [([]:List UInt8),[62],[62,62],[124]] 0=some []:=rfl;have i1:ix [([]:List UInt8),[62],[62,62],[124]] 1=some [62]:=rfl;have i2:ix [([]:List UInt8),[62],[62,62],[124]] 2=some [62,62]:=rfl;have i3:ix [([]:List UInt8),[62],[62,62],[124]] 3=some [124]:=rfl;have w1:IntKind.wrap .i64 ((0:Int)+1)=1:=rfl;have w2:IntKind.wrap .i64 ((1:Int)+1)=2:=rfl;have w3:IntKind.wrap .i64 ((2:Int)+1)=3:=rfl;have w4:IntKind.wrap .i64 ((3:Int)+1)=4:=rfl;have d:∀ k:Int,k < 4->decide (k < ((List.length [([]:List UInt8),[62],[62,62],[124]]:Nat):Int))=true:=fun k h=>kL h;have d4:decide ((4:Int) < ((List.length [([]:List UInt8),[62],[62,62],[124]]:Nat):Int))=false:=rfl;simp only [Jl,d 0 ah,d 1 ah,d 2 ah,d 3 ah,d4,i0,i1,i2,i3,w1,w2,w3,w4,e _ h1,e _ h2,e _ h3,e _ h4,aO,aI,aB,Bool.or_false,Bool.or_self];rfl
def FK (n:aD):Prop:=
 (n.Kind=28->2<=n.Kids.length/\n.Kids.length<=3)/\(n.Kind=29->n.Kids.length=2)/\(n.Kind=30->n.Kids.length=2)/\(n.Kind=31->n.Kids.length=4)/\
 (n.Kind=42->n.Op=1/\n.Kids.length=1\/n.Op=2/\n.Kids.length=1\/n.Op=3/\n.Kids.length=2)/\(n.Kind=43->n.Op=1/\n.Kids.length=2\/n.Op=3/\n.Kids.length=3)/\
 (n.Kind=12->n.Kids.length=2/\n.Text=[]/\n.Other=[])/\(n.Kind=11->n.Kids.length=1/\n.Text=[]/\n.Other=[])
def fM (k:Int):Prop:=(1<=k/\k<=16)\/(20<=k/\k<=34)\/(40<=k/\k<=45)
def FK.other {n:aD} (h:n.Kind≠28/\n.Kind≠29/\n.Kind≠30/\n.Kind≠31/\n.Kind≠42/\n.Kind≠43/\n.Kind≠12/\n.Kind≠11):FK n:=
 ⟨fun e=>absurd e h.1,fun e=>absurd e h.2.1,fun e=>absurd e h.2.2.1,fun e=>absurd e h.2.2.2.1,fun e=>absurd e h.2.2.2.2.1,fun e=>absurd e h.2.2.2.2.2.1,fun e=>absurd e h.2.2.2.2.2.2.1,fun e=>absurd e h.2.2.2.2.2.2.2⟩
def Dm {l:Nat} {c1 c2:Bool} {m k:Nat} (h1:decide ((l:Int)>=(m:Int))=c1) (h2:decide ((l:Int)<=(k:Int))=c2) (h:(c1&&c2)=true):m<=l/\l<=k:=by
 subst h1 h2;simp only [dP,mP] at h;omega
set_option maxHeartbeats 8000000 in
def atH (N:Nat) (n:aD) (hN:1048576+300 < N) (hn:vC n) (hk:n.Kids.length<=400):∃ b:Bool,za N n=some b/\Qg N n=some b/\(b=true->FK n/\fM n.Kind):=by
 obtain ⟨kind,op,text,other,kids⟩:=n;unfold vC at hn;simp only at hn hk;obtain ⟨bn,n1,n2,_⟩:=ada N text ah ah;obtain ⟨bo,o1,o2,_⟩:=ada N other ah ah;obtain ⟨bb,b1,b2,_⟩:=acZ N text ah;obtain ⟨t2,t2a,t2b,_⟩:=QM N ⟨2,text,0⟩ tO tO;obtain ⟨t3,t3a,t3b,_⟩:=QM N ⟨3,text,0⟩ tO tO;obtain ⟨t4,t4a,t4b,_⟩:=QM N ⟨4,text,0⟩ tO tO;obtain ⟨t5,t5a,t5b,_⟩:=QM N ⟨5,text,0⟩ tO tO;obtain ⟨ob,ol,ob1,ob2,ob3⟩:=atF op;have hr:=atG N other ah;have x2:ix [(3:Int),4,5] (IntKind.wrap .i64<|(2:Int) - 2)=some 3:=rfl;have x3:ix [(3:Int),4,5] (IntKind.wrap .i64<|(3:Int) - 2)=some 4:=rfl;have x4:ix [(3:Int),4,5] (IntKind.wrap .i64<|(4:Int) - 2)=some 5:=rfl;have hl0:decide ((kids.length:Int)>=0)=true:=aA;have hlm:decide ((kids.length:Int)<=400)=true:=bE;rcases Classical.em (kind=1\/kind=2\/kind=3\/kind=4\/kind=5\/kind=6\/kind=7\/kind=8\/kind=9\/kind=10\/kind=11\/kind=12\/kind=13\/kind=14\/kind=15\/kind=16\/kind=20\/kind=21\/kind=22\/kind=23\/kind=24\/kind=25\/kind=26\/kind=27\/kind=28\/kind=29\/kind=30\/kind=31\/kind=32\/kind=33\/kind=34\/kind=40\/kind=41\/kind=42\/kind=43\/kind=44\/kind=45) with hall|hall
 rotate_left
 .skip
  have h1:kind≠1:=fun h=>hall (by simp [h]);have h2:kind≠2:=fun h=>hall (by simp [h]);have h3:kind≠3:=fun h=>hall (by simp [h]);have h4:kind≠4:=fun h=>hall (by simp [h]);have h5:kind≠5:=fun h=>hall (by simp [h]);have h6:kind≠6:=fun h=>hall (by simp [h]);have h7:kind≠7:=fun h=>hall (by simp [h]);have h8:kind≠8:=fun h=>hall (by simp [h]);have h9:kind≠9:=fun h=>hall (by simp [h]);have h10:kind≠10:=fun h=>hall (by simp [h]);have h11:kind≠11:=fun h=>hall (by simp [h]);have h12:kind≠12:=fun h=>hall (by simp [h]);have ZO:kind≠13:=fun h=>hall (by simp [h]);have oL:kind≠14:=fun h=>hall (by simp [h]);have Dl:kind≠15:=fun h=>hall (by simp [h]);have h16:kind≠16:=fun h=>hall (by simp [h]);have h20:kind≠20:=fun h=>hall (by simp [h]);have h21:kind≠21:=fun h=>hall (by simp [h]);have h22:kind≠22:=fun h=>hall (by simp [h]);have h23:kind≠23:=fun h=>hall (by simp [h]);have EY:kind≠24:=fun h=>hall (by simp [h]);have h25:kind≠25:=fun h=>hall (by simp [h]);have Rs:kind≠26:=fun h=>hall (by simp [h]);have h27:kind≠27:=fun h=>hall (by simp [h]);have Dn:kind≠28:=fun h=>hall (by simp [h]);have ZP:kind≠29:=fun h=>hall (by simp [h]);have xq:kind≠30:=fun h=>hall (by simp [h]);have h31:kind≠31:=fun h=>hall (by simp [h]);have h32:kind≠32:=fun h=>hall (by simp [h]);have jw:kind≠33:=fun h=>hall (by simp [h]);have Zj:kind≠34:=fun h=>hall (by simp [h]);have xk:kind≠40:=fun h=>hall (by simp [h]);have lG:kind≠41:=fun h=>hall (by simp [h]);have ZQ:kind≠42:=fun h=>hall (by simp [h]);have h43:kind≠43:=fun h=>hall (by simp [h]);have mW:kind≠44:=fun h=>hall (by simp [h]);have h45:kind≠45:=fun h=>hall (by simp [h]);have e:∀ k,kind≠k->(kind==k)=false:=fun k h=>by simpa using h
  have r1:(decide (kind>=1)&&decide (kind<=16))=false:=by
   cases h:(decide (kind>=1)&&decide (kind<=16)) with
   | false=>rfl
   | true=>simp only [dP,mP] at h;omega
  have r1b:(decide (kind>=1)&&decide (kind<=15))=false:=by
   cases h:(decide (kind>=1)&&decide (kind<=15)) with
   | false=>rfl
   | true=>simp only [dP,mP] at h;omega
  have r2:(decide (kind>=20)&&decide (kind<=34))=false:=by
   cases h:(decide (kind>=20)&&decide (kind<=34)) with
   | false=>rfl
   | true=>simp only [dP,mP] at h;omega
  have r3:(decide (kind>=40)&&decide (kind<=45))=false:=by
   cases h:(decide (kind>=40)&&decide (kind<=45)) with
   | false=>rfl
   | true=>simp only [dP,mP] at h;omega
  refine ⟨false,?_,?_,fun h=>by cases h⟩
  .simp only [za,Er,Qo,Mk,Bn,JF,Qn,Qm,EK,r1,r2,r3,aB,aI,e 1 h1,e 2 h2,e 3 h3,e 4 h4,e 5 h5,e 6 h6,e 7 h7,e 8 h8,e 9 h9,e 10 h10,e 11 h11,e 12 h12,e 13 ZO,e 14 oL,e 15 Dl,e 16 h16,e 20 h20,e 21 h21,e 22 h22,e 23 h23,e 24 EY,e 25 h25,e 26 Rs,e 27 h27,e 28 Dn,e 29 ZP,e 30 xq,e 31 h31,e 32 h32,e 33 jw,e 34 Zj,e 40 xk,e 41 lG,e 42 ZQ,e 43 h43,e 44 mW,e 45 h45]
  .simp only [Qg,Cx,Jo,JZ,r1b,r2,r3,e 16 h16,aB,aI]
 rcases hall with rfl|rfl|rfl|rfl|rfl|rfl|rfl|rfl|rfl|rfl|rfl|rfl|rfl|rfl|rfl|rfl|rfl|rfl|rfl|rfl|rfl|rfl|rfl|rfl|rfl|rfl|rfl|rfl|rfl|rfl|rfl|rfl|rfl|rfl|rfl|rfl|rfl;all_goals simp only [za,Er,Qo,Mk,Bn,JF,Qn,Qm,CB,UG,UQ,Eu,Qg,Md,Cx,Jo,Yz,Qf,Uh,Ug,YA,xR,Uj,Ui,YB,Jp,Um,Uk,Ul,En,Mc,Bo,EK,JZ,aB,aO,aI,Int.reduceBEq,Int.reduceGE,Int.reduceLE,BD,aei,BO,Ae,aej,VJ,Af,n1,n2,o1,o2,b1,b2,t2a,t2b,t3a,t3b,t4a,t4b,t5a,t5b,ob1,ob2,ob3,hr,hl0,x2,x3,x4]
 .skip
  generalize (op==0)=c1;generalize (text==[])=c2;generalize (other==[])=c3;generalize g2:(decide<|(kids.length:Int)<=0)=c7;cases c1<;>cases c2<;>cases c3<;>cases c7<;>cases bn<;>exact ⟨_,rfl,rfl,fun _=>⟨FK.other aA,by simp [fM]⟩⟩
 .skip
  generalize (op==0)=c1;generalize (text==[])=c2;generalize (other==[])=c3;generalize g2:(decide<|(kids.length:Int)<=0)=c7;cases c1<;>cases c2<;>cases c3<;>cases c7<;>cases t3<;>exact ⟨_,rfl,rfl,fun _=>⟨FK.other aA,by simp [fM]⟩⟩
 .skip
  generalize (op==0)=c1;generalize (text==[])=c2;generalize (other==[])=c3;generalize g2:(decide<|(kids.length:Int)<=0)=c7;cases c1<;>cases c2<;>cases c3<;>cases c7<;>cases t4<;>exact ⟨_,rfl,rfl,fun _=>⟨FK.other aA,by simp [fM]⟩⟩
 .skip
  generalize (op==0)=c1;generalize (text==[])=c2;generalize (other==[])=c3;generalize g2:(decide<|(kids.length:Int)<=0)=c7;cases c1<;>cases c2<;>cases c3<;>cases c7<;>cases t5<;>exact ⟨_,rfl,rfl,fun _=>⟨FK.other aA,by simp [fM]⟩⟩
 .skip
  generalize (op==0)=c1;generalize (text==[])=c2;generalize (other==[])=c3;generalize g1:(decide<|(kids.length:Int)>=1)=c6;generalize g2:(decide<|(kids.length:Int)<=6)=c7;cases c1<;>cases c2<;>cases c3<;>cases c6<;>cases c7<;>cases bn<;>exact ⟨_,rfl,rfl,fun _=>⟨FK.other aA,by simp [fM]⟩⟩
 .skip
  generalize (op==0)=c1;generalize (text==[])=c2;generalize (other==[])=c3;generalize g1:(decide<|(kids.length:Int)>=1)=c6;generalize g2:(decide<|(kids.length:Int)<=1)=c7;cases c1<;>cases c2<;>cases c3<;>cases c6<;>cases c7<;>exact ⟨_,rfl,rfl,fun _=>⟨FK.other aA,by simp [fM]⟩⟩
 .skip
  generalize (op==0)=c1;generalize (text==[])=c2;generalize (other==[])=c3;generalize g2:(decide<|(kids.length:Int)<=6)=c7;cases c1<;>cases c2<;>cases c3<;>cases c7<;>cases bn<;>exact ⟨_,rfl,rfl,fun _=>⟨FK.other aA,by simp [fM]⟩⟩
 .skip
  generalize (op==0)=c1;generalize (text==[])=c2;generalize (other==[])=c3;generalize g2:(decide<|(kids.length:Int)<=6)=c7;cases c1<;>cases c2<;>cases c3<;>cases c7<;>cases bb<;>exact ⟨_,rfl,rfl,fun _=>⟨FK.other aA,by simp [fM]⟩⟩
 .skip
  generalize (op==51)=c1;generalize (op==52)=c2;generalize (text==[])=c3;generalize (other==[])=c4;generalize g1:(decide<|(kids.length:Int)>=1)=c6;generalize g2:(decide<|(kids.length:Int)<=1)=c7;cases c1<;>cases c2<;>cases c3<;>cases c4<;>cases c6<;>cases c7<;>first|exact ⟨_,rfl,rfl,fun _=>⟨FK.other aA,by simp [fM]⟩⟩|exact ⟨_,rfl,(show some (decide ((kids.length:Int)>=1)&&decide ((kids.length:Int)<=1))=some _ by rw [g1,g2]),fun _=>⟨FK.other aA,by simp [fM]⟩⟩
 .skip
  generalize (op==51)=c1;generalize (op==52)=c2;generalize (text==[])=c3;generalize (other==[])=c4;generalize g1:(decide<|(kids.length:Int)>=1)=c6;generalize g2:(decide<|(kids.length:Int)<=1)=c7;cases c1<;>cases c2<;>cases c3<;>cases c4<;>cases c6<;>cases c7<;>first|exact ⟨_,rfl,rfl,fun _=>⟨FK.other aA,by simp [fM]⟩⟩|exact ⟨_,rfl,(show some (decide ((kids.length:Int)>=1)&&decide ((kids.length:Int)<=1))=some _ by rw [g1,g2]),fun _=>⟨FK.other aA,by simp [fM]⟩⟩
 .skip
  generalize (op==55)=c1;generalize (op==56)=c2;generalize (op==61)=c3;generalize gT:(text==[])=c4;generalize gO:(other==[])=c5;generalize g1:(decide<|(kids.length:Int)>=1)=c6;generalize g2:(decide<|(kids.length:Int)<=1)=c7;have K:c4=true->c5=true->(c6&&c7)=true->FK ⟨11,op,text,other,kids⟩:=fun hT hO h=>by
   have:=Dm (m:=1) (k:=1) g1 g2 h;have eT:text=[]:=by simpa [hT] using gT
   have eO:other=[]:=by simpa [hO] using gO
   exact ⟨aA,aA,aA,aA,aA,aA,aA,fun _=>⟨tO,eT,eO⟩⟩
  cases c1<;>cases c2<;>cases c3<;>cases c4<;>cases c5<;>cases c6<;>cases c7<;>first|exact ⟨_,rfl,rfl,fun h=>by first|(cases h;done)|exact ⟨K rfl rfl rfl,by simp [fM]⟩⟩|exact ⟨_,rfl,(show some (decide ((kids.length:Int)>=1)&&decide ((kids.length:Int)<=1))=some _ by rw [g1,g2]),fun h=>by first|(cases h;done)|exact ⟨K rfl rfl rfl,by simp [fM]⟩⟩
 .skip
  generalize (op==0)=c1;generalize gT:(text==[])=c2;generalize gO:(other==[])=c3;generalize g1:(decide<|(kids.length:Int)>=2)=c6;generalize g2:(decide<|(kids.length:Int)<=2)=c7;have K:c2=true->c3=true->(c6&&c7)=true->FK ⟨12,op,text,other,kids⟩:=fun hT hO h=>by
   have:=Dm (m:=2) (k:=2) g1 g2 h;have eT:text=[]:=by simpa [hT] using gT
   have eO:other=[]:=by simpa [hO] using gO
   exact ⟨aA,aA,aA,aA,aA,aA,fun _=>⟨tO,eT,eO⟩,aA⟩
  cases c1<;>cases c2<;>cases c3<;>cases c6<;>cases c7<;>cases ob<;>exact ⟨_,rfl,rfl,fun h=>by first|(cases h;done)|exact ⟨K rfl rfl rfl,by simp [fM]⟩⟩
 .skip
  generalize (op==0)=c1;generalize (text==[])=c2;generalize (other==[])=c3;generalize g1:(decide<|(kids.length:Int)>=1)=c6;generalize g2:(decide<|(kids.length:Int)<=6)=c7;cases c1<;>cases c2<;>cases c3<;>cases c6<;>cases c7<;>cases bn<;>exact ⟨_,rfl,rfl,fun _=>⟨FK.other aA,by simp [fM]⟩⟩
 .skip
  generalize (op==0)=c1;generalize (text==[])=c2;generalize (other==[])=c3;generalize g1:(decide<|(kids.length:Int)>=3)=c6;generalize g2:(decide<|(kids.length:Int)<=3)=c7;cases c1<;>cases c2<;>cases c3<;>cases c6<;>cases c7<;>exact ⟨_,rfl,rfl,fun _=>⟨FK.other aA,by simp [fM]⟩⟩
 .skip
  generalize (op==54)=c1;generalize (decide<|op>=38)=c2;generalize (decide<|op<=43)=c3;generalize (text==[])=c4;generalize (other==[])=c5;generalize g1:(decide<|(kids.length:Int)>=2)=c6;generalize g2:(decide<|(kids.length:Int)<=2)=c7;cases c1<;>cases c2<;>cases c3<;>cases c4<;>cases c5<;>cases c6<;>cases c7<;>first|exact ⟨_,rfl,rfl,fun _=>⟨FK.other aA,by simp [fM]⟩⟩|exact ⟨_,rfl,(show some (decide ((kids.length:Int)>=2)&&decide ((kids.length:Int)<=2))=some _ by rw [g1,g2]),fun _=>⟨FK.other aA,by simp [fM]⟩⟩
 .skip
  generalize (op==0)=c1;generalize (text==[])=c2;generalize (other==[])=c3;generalize g2:(decide<|(kids.length:Int)<=0)=c7;cases c1<;>cases c2<;>cases c3<;>cases c7<;>exact ⟨_,rfl,rfl,fun _=>⟨FK.other aA,by simp [fM]⟩⟩
 .skip
  generalize (op==0)=c1;generalize (text==[])=c2;generalize (other==[])=c3;generalize g1:(decide<|(kids.length:Int)>=1)=c6;generalize g2:(decide<|(kids.length:Int)<=1)=c7;cases c1<;>cases c2<;>cases c3<;>cases c6<;>cases c7<;>exact ⟨_,rfl,rfl,fun _=>⟨FK.other aA,by simp [fM]⟩⟩
 .by_cases q0:op=0
  .subst q0;have w:IntKind.wrap .i64 ((0:Int)+1)=1:=rfl;simp only [Int.reduceBEq,Int.reduceGE,Int.reduceLE,BD,w,aB,aO,Af,hl0];generalize (text==[])=c1;generalize (other==[])=c2;generalize (other==[62])=c3;generalize (other==[62,62])=c4;generalize (other==[124])=c5;generalize (decide<|(kids.length:Int)>=1)=c6;generalize (decide<|(kids.length:Int)<=7)=c7;generalize (decide<|(kids.length:Int)<=6)=c8;cases c1<;>cases c2<;>cases c3<;>cases c4<;>cases c5<;>first
    | exact ⟨_,rfl,rfl,fun _=>⟨FK.other aA,by simp [fM]⟩⟩
    | (cases c6<;>cases c7<;>cases c8<;>exact ⟨_,rfl,rfl,fun _=>⟨FK.other aA,by simp [fM]⟩⟩)
  by_cases q1:op=1
  .subst q1;have w:IntKind.wrap .i64 ((1:Int)+1)=2:=rfl;simp only [Int.reduceBEq,Int.reduceGE,Int.reduceLE,BD,w,aB,aO,aI,Af,hl0];generalize (text==[])=c1;generalize (other==[])=c2;generalize (other==[62])=c3;generalize (other==[62,62])=c4;generalize (other==[124])=c5;generalize (decide<|(kids.length:Int)>=1)=c6;generalize (decide<|(kids.length:Int)>=2)=c9;generalize (decide<|(kids.length:Int)<=7)=c7;generalize (decide<|(kids.length:Int)<=6)=c8;cases c1<;>cases c2<;>cases c3<;>cases c4<;>cases c5<;>first
    | exact ⟨_,rfl,rfl,fun _=>⟨FK.other aA,by simp [fM]⟩⟩
    | (cases c6<;>cases c7<;>cases c8<;>cases c9<;>exact ⟨_,rfl,rfl,fun _=>⟨FK.other aA,by simp [fM]⟩⟩)
  have e0:(op==0)=false:=by simpa using q0
  have e1:(op==1)=false:=by simpa using q1
  have e2:(decide (op>=0)&&decide (op<=1))=false:=by
   cases h:(decide (op>=0)&&decide (op<=1)) with
   | false=>rfl
   | true=>simp only [dP,mP] at h;omega
  simp only [e0,e1,e2,aI,aB];refine ⟨false,?_,?_,fun h=>by cases h⟩
  .cases (other==[])<;>rfl
  .cases (other==[])<;>rfl
 .skip
  generalize (op==0)=c1;generalize (text==[])=c2;generalize (other==[])=c3;generalize g2:(decide<|(kids.length:Int)<=0)=c7;cases c1<;>cases c2<;>cases c3<;>cases c7<;>exact ⟨_,rfl,rfl,fun _=>⟨FK.other aA,by simp [fM]⟩⟩
 .skip
  generalize (op==0)=c1;generalize (text==[])=c2;generalize (other==[])=c3;generalize g2:(decide<|(kids.length:Int)<=1)=c7;cases c1<;>cases c2<;>cases c3<;>cases c7<;>exact ⟨_,rfl,rfl,fun _=>⟨FK.other aA,by simp [fM]⟩⟩
 .skip
  generalize (op==0)=c1;generalize (text==[])=c2;generalize (other==[])=c3;generalize g2:(decide<|(kids.length:Int)<=1)=c7;cases c1<;>cases c2<;>cases c3<;>cases c7<;>exact ⟨_,rfl,rfl,fun _=>⟨FK.other aA,by simp [fM]⟩⟩
 .skip
  generalize (op==0)=c1;generalize (text==[])=c2;generalize (other==[])=c3;generalize g2:(decide<|(kids.length:Int)<=0)=c7;cases c1<;>cases c2<;>cases c3<;>cases c7<;>exact ⟨_,rfl,rfl,fun _=>⟨FK.other aA,by simp [fM]⟩⟩
 .skip
  generalize (op==0)=c1;generalize (text==[])=c2;generalize (other==[])=c3;generalize g2:(decide<|(kids.length:Int)<=0)=c7;cases c1<;>cases c2<;>cases c3<;>cases c7<;>exact ⟨_,rfl,rfl,fun _=>⟨FK.other aA,by simp [fM]⟩⟩
 .skip
  generalize (op==0)=c1;generalize (text==[])=c2;generalize (other==[])=c3;generalize g2:(decide<|(kids.length:Int)<=6)=c7;cases c1<;>cases c2<;>cases c3<;>cases c7<;>cases bn<;>exact ⟨_,rfl,rfl,fun _=>⟨FK.other aA,by simp [fM]⟩⟩
 .skip
  generalize (op==0)=c1;generalize (text==[])=c2;generalize (other==[])=c3;generalize g1:(decide<|(kids.length:Int)>=2)=c6;generalize g2:(decide<|(kids.length:Int)<=3)=c7;have K:(c6&&c7)=true->FK ⟨28,op,text,other,kids⟩:=fun h=>by
   have:=Dm (m:=2) (k:=3) g1 g2 h;exact ⟨fun _=>tO,aA,aA,aA,aA,aA,aA,aA⟩
  cases c1<;>cases c2<;>cases c3<;>cases c6<;>cases c7<;>exact ⟨_,rfl,rfl,fun h=>by first|(cases h;done)|exact ⟨K rfl,by simp [fM]⟩⟩
 .skip
  generalize (op==0)=c1;generalize (text==[])=c2;generalize (other==[])=c3;generalize g1:(decide<|(kids.length:Int)>=2)=c6;generalize g2:(decide<|(kids.length:Int)<=2)=c7;have K:(c6&&c7)=true->FK ⟨29,op,text,other,kids⟩:=fun h=>by
   have:=Dm (m:=2) (k:=2) g1 g2 h;exact ⟨aA,fun _=>tO,aA,aA,aA,aA,aA,aA⟩
  cases c1<;>cases c2<;>cases c3<;>cases c6<;>cases c7<;>exact ⟨_,rfl,rfl,fun h=>by first|(cases h;done)|exact ⟨K rfl,by simp [fM]⟩⟩
 .skip
  generalize (op==0)=c1;generalize (text==[])=c2;generalize (other==[])=c3;generalize g1:(decide<|(kids.length:Int)>=2)=c6;generalize g2:(decide<|(kids.length:Int)<=2)=c7;have K:(c6&&c7)=true->FK ⟨30,op,text,other,kids⟩:=fun h=>by
   have:=Dm (m:=2) (k:=2) g1 g2 h;exact ⟨aA,aA,fun _=>tO,aA,aA,aA,aA,aA⟩
  cases c1<;>cases c2<;>cases c3<;>cases c6<;>cases c7<;>exact ⟨_,rfl,rfl,fun h=>by first|(cases h;done)|exact ⟨K rfl,by simp [fM]⟩⟩
 .skip
  generalize (op==0)=c1;generalize (text==[])=c2;generalize (other==[])=c3;generalize g1:(decide<|(kids.length:Int)>=4)=c6;generalize g2:(decide<|(kids.length:Int)<=4)=c7;have K:(c6&&c7)=true->FK ⟨31,op,text,other,kids⟩:=fun h=>by
   have:=Dm (m:=4) (k:=4) g1 g2 h;exact ⟨aA,aA,aA,fun _=>tO,aA,aA,aA,aA⟩
  cases c1<;>cases c2<;>cases c3<;>cases c6<;>cases c7<;>exact ⟨_,rfl,rfl,fun h=>by first|(cases h;done)|exact ⟨K rfl,by simp [fM]⟩⟩
 .skip
  generalize (op==0)=c1;generalize (text==[])=c2;generalize (other==[])=c3;generalize g1:(decide<|(kids.length:Int)>=1)=c6;generalize g2:(decide<|(kids.length:Int)<=1)=c7;cases c1<;>cases c2<;>cases c3<;>cases c6<;>cases c7<;>cases bn<;>cases bo<;>exact ⟨_,rfl,rfl,fun _=>⟨FK.other aA,by simp [fM]⟩⟩
 .simp only [hlm,ZR,BD,Af];generalize (op==0)=c1;generalize (text==[])=c2;generalize (other==[])=c3;cases c1<;>cases c2<;>cases c3<;>exact ⟨_,rfl,rfl,fun _=>⟨FK.other aA,by simp [fM]⟩⟩
 .skip
  generalize (op==0)=c1;generalize (text==[])=c2;generalize (other==[])=c3;generalize g2:(decide<|(kids.length:Int)<=0)=c7;cases c1<;>cases c2<;>cases c3<;>cases c7<;>cases t2<;>exact ⟨_,rfl,rfl,fun _=>⟨FK.other aA,by simp [fM]⟩⟩
 .skip
  generalize (op==0)=c1;generalize (text==[])=c2;generalize (other==[])=c3;generalize g1:(decide<|(kids.length:Int)>=1)=c6;generalize g2:(decide<|(kids.length:Int)<=1)=c7;cases c1<;>cases c2<;>cases c3<;>cases c6<;>cases c7<;>exact ⟨_,rfl,rfl,fun _=>⟨FK.other aA,by simp [fM]⟩⟩
 .skip
  generalize (op==0)=c1;generalize (text==[])=c2;generalize (other==[])=c3;generalize g1:(decide<|(kids.length:Int)>=1)=c6;generalize g2:(decide<|(kids.length:Int)<=1)=c7;cases c1<;>cases c2<;>cases c3<;>cases c6<;>cases c7<;>exact ⟨_,rfl,rfl,fun _=>⟨FK.other aA,by simp [fM]⟩⟩
 .by_cases q1:op=1
  .subst q1;have w:IntKind.wrap .i64 ((1:Int)+IntKind.wrap .i64 (Int.tdiv (1:Int) 3))=1:=rfl;simp only [Int.reduceBEq,Int.reduceGE,Int.reduceLE,BD,w,aB,aO,aI,Af];generalize (text==[])=c1;generalize (other==[])=c2;generalize g1:(decide<|(kids.length:Int)>=1)=c6;generalize g2:(decide<|(kids.length:Int)<=1)=c7;have K:(c6&&c7)=true->FK ⟨42,1,text,other,kids⟩:=fun h=>by
    have:=Dm (m:=1) (k:=1) g1 g2 h;refine ⟨aA,aA,aA,aA,fun _=>.inl ⟨rfl,tO⟩,aA,aA,aA⟩
   cases c1<;>cases c2<;>cases c6<;>cases c7<;>exact ⟨_,rfl,rfl,fun h=>by first|(cases h;done)|exact ⟨K rfl,by simp [fM]⟩⟩
  by_cases q2:op=2
  .subst q2;have w:IntKind.wrap .i64 ((1:Int)+IntKind.wrap .i64 (Int.tdiv (2:Int) 3))=1:=rfl;simp only [Int.reduceBEq,Int.reduceGE,Int.reduceLE,BD,w,aB,aO,aI,Af];generalize (text==[])=c1;generalize (other==[])=c2;generalize g1:(decide<|(kids.length:Int)>=1)=c6;generalize g2:(decide<|(kids.length:Int)<=1)=c7;have K:(c6&&c7)=true->FK ⟨42,2,text,other,kids⟩:=fun h=>by
    have:=Dm (m:=1) (k:=1) g1 g2 h;refine ⟨aA,aA,aA,aA,fun _=>.inr<|.inl ⟨rfl,tO⟩,aA,aA,aA⟩
   cases c1<;>cases c2<;>cases c6<;>cases c7<;>exact ⟨_,rfl,rfl,fun h=>by first|(cases h;done)|exact ⟨K rfl,by simp [fM]⟩⟩
  by_cases q3:op=3
  .subst q3;have w:IntKind.wrap .i64 ((1:Int)+IntKind.wrap .i64 (Int.tdiv (3:Int) 3))=2:=rfl;simp only [Int.reduceBEq,Int.reduceGE,Int.reduceLE,BD,w,aB,aO,aI,Af];generalize (text==[])=c1;generalize (other==[])=c2;generalize g1:(decide<|(kids.length:Int)>=2)=c6;generalize g2:(decide<|(kids.length:Int)<=2)=c7;have K:(c6&&c7)=true->FK ⟨42,3,text,other,kids⟩:=fun h=>by
    have:=Dm (m:=2) (k:=2) g1 g2 h;refine ⟨aA,aA,aA,aA,fun _=>.inr<|.inr ⟨rfl,tO⟩,aA,aA,aA⟩
   cases c1<;>cases c2<;>cases c6<;>cases c7<;>exact ⟨_,rfl,rfl,fun h=>by first|(cases h;done)|exact ⟨K rfl,by simp [fM]⟩⟩
  have e2:(decide (op>=1)&&decide (op<=3))=false:=by
   cases h:(decide (op>=1)&&decide (op<=3)) with
   | false=>rfl
   | true=>simp only [dP,mP] at h;omega
  have e3:(op==3)=false:=by simpa using q3
  simp only [e2,e3,aI,aB];exact ⟨false,rfl,rfl,fun h=>by cases h⟩
 .by_cases q1:op=1
  .subst q1;have w:IntKind.wrap .i64 ((2:Int)+IntKind.wrap .i64 (Int.tdiv (1:Int) 3))=2:=rfl;simp only [Int.reduceBEq,Int.reduceGE,Int.reduceLE,BD,w,aB,aO,aI,Af];generalize (text==[])=c1;generalize (other==[])=c2;generalize g1:(decide<|(kids.length:Int)>=2)=c6;generalize g2:(decide<|(kids.length:Int)<=2)=c7;have K:(c6&&c7)=true->FK ⟨43,1,text,other,kids⟩:=fun h=>by
    have:=Dm (m:=2) (k:=2) g1 g2 h;refine ⟨aA,aA,aA,aA,aA,fun _=>.inl ⟨rfl,tO⟩,aA,aA⟩
   cases c1<;>cases c2<;>cases c6<;>cases c7<;>exact ⟨_,rfl,rfl,fun h=>by first|(cases h;done)|exact ⟨K rfl,by simp [fM]⟩⟩
  by_cases q3:op=3
  .subst q3;have w:IntKind.wrap .i64 ((2:Int)+IntKind.wrap .i64 (Int.tdiv (3:Int) 3))=3:=rfl;simp only [Int.reduceBEq,Int.reduceGE,Int.reduceLE,BD,w,aB,aO,aI,Af];generalize (text==[])=c1;generalize (other==[])=c2;generalize g1:(decide<|(kids.length:Int)>=3)=c6;generalize g2:(decide<|(kids.length:Int)<=3)=c7;have K:(c6&&c7)=true->FK ⟨43,3,text,other,kids⟩:=fun h=>by
    have:=Dm (m:=3) (k:=3) g1 g2 h;refine ⟨aA,aA,aA,aA,aA,fun _=>.inr ⟨rfl,tO⟩,aA,aA⟩
   cases c1<;>cases c2<;>cases c6<;>cases c7<;>exact ⟨_,rfl,rfl,fun h=>by first|(cases h;done)|exact ⟨K rfl,by simp [fM]⟩⟩
  have e1:(op==1)=false:=by simpa using q1
  have e3:(op==3)=false:=by simpa using q3
  simp only [e1,e3,aI,aB];exact ⟨false,rfl,rfl,fun h=>by cases h⟩
 .skip
  generalize (op==0)=c1;generalize (text==[])=c2;generalize (other==[])=c3;generalize g1:(decide<|(kids.length:Int)>=1)=c6;generalize g2:(decide<|(kids.length:Int)<=7)=c7;cases c1<;>cases c2<;>cases c3<;>cases c6<;>cases c7<;>cases bn<;>exact ⟨_,rfl,rfl,fun _=>⟨FK.other aA,by simp [fM]⟩⟩
 .simp only [hlm,ZR,BD,Af];generalize (op==0)=c1;generalize (text==[])=c2;generalize (other==[])=c3;cases c1<;>cases c2<;>cases c3<;>exact ⟨_,rfl,rfl,fun _=>⟨FK.other aA,by simp [fM]⟩⟩
def iC (k:Int):Bool:=decide (k>=1)&&decide (k<=15)
def isS (k:Int):Bool:=decide (k>=20)&&decide (k<=34)
def gQ (k:Int):Bool:=k==1||(k==5||k==6)
def Dj (k:Int):oF k=some (iC k):=by unfold oF;rw [EK];rfl
def Hu (k:Int):Cx k=some (iC k):=by unfold Cx;rw [JZ];rfl
def atU (k:Int):UR k=some (isS k):=by unfold UR;rw [EK];rfl
def atV (k:Int):Jo k=some (isS k):=by unfold Jo;rw [JZ];rfl
def Wq (k:Int):JI k=some (gQ k):=by
 unfold JI gQ;cases (k==1)<;>cases (k==5)<;>rfl
def aek (k:Int):Qh k=some (gQ k):=by
 unfold Qh gQ;cases (k==1)<;>cases (k==5)<;>rfl
def ael {k:Int} (h:gQ k=true):iC k=true:=by
 unfold gQ at h;simp only [mX,qj] at h;rcases h with rfl|rfl|rfl<;>rfl
def atW (n:aD) (k:Nat) (kd:Int) (hf:FK n) (hk:k < n.Kids.length) (hl:n.Kids.length<=400):∃ b:Bool,nL n (k:Int) kd=some b/\rJ n (k:Int) kd=some b:=by
 have hw:IntKind.wrap .i64 ((n.Kids.length:Int) - 1)=(n.Kids.length:Int) - 1:=wrap64 ah ah;obtain ⟨f28,f29,f30,f31,f42,f43,_,_⟩:=hf;obtain ⟨kind,op,text,other,kids⟩:=n;simp only at hk hl hw f28 f29 f30 f31 f42 f43;have hEL:=@ael kd;rcases jI (kind=9) with rfl|h9
 .refine ⟨gQ kd,?_,?_⟩<;>simp only [nL,rQ,rJ,rH,Int.reduceBEq,aO,Wq,aek,aB]
 rcases jI (kind=10) with rfl|h10
 .refine ⟨gQ kd,?_,?_⟩<;>simp only [nL,rQ,rJ,rH,Int.reduceBEq,aO,aI,Wq,aek,aB]
 rcases jI (kind=15) with rfl|Dl
 .simp only [nL,rQ,rJ,rH,Int.reduceBEq,aO,aI,Wq,aek,Dj,Hu,aB];generalize iC kd=e at*;generalize gQ kd=l at*;by_cases h0:k=0
  .subst h0;have d1:decide (((0:Nat):Int) > 0)=false:=aA;have d2:(((0:Nat):Int)==0)=true:=aA;rw [d1,d2];cases e<;>cases l<;>first|exact ⟨_,rfl,rfl⟩|exact absurd (hEL rfl) aA
  .have d1:decide ((k:Int) > 0)=true:=bE;have d2:((k:Int)==0)=false:=bE;rw [d1,d2];cases e<;>exact ⟨_,rfl,rfl⟩
 rcases jI (kind=28) with rfl|Dn
 .simp only [nL,rQ,rJ,oW,rH,vJ,Int.reduceBEq,aO,aI,Dj,Hu,aB];by_cases h0:k=0
  .subst h0;have d1:decide (((0:Nat):Int) > 0)=false:=aA;have d2:(((0:Nat):Int)==0)=true:=aA;rw [d1,d2];cases iC kd<;>exact ⟨_,rfl,rfl⟩
  .have d1:decide ((k:Int) > 0)=true:=bE;have d2:((k:Int)==0)=false:=bE;rw [d1,d2];exact ⟨_,rfl,rfl⟩
 rcases jI (kind=29) with rfl|ZP
 .have hlen:=f29 rfl;simp only [nL,rQ,rJ,oW,rH,vJ,Int.reduceBEq,aO,aI,Dj,Hu,aB];rcases (show k=0\/k=1 by omega) with rfl|rfl
  .cases iC kd<;>exact ⟨_,rfl,rfl⟩
  .exact ⟨_,rfl,rfl⟩
 rcases jI (kind=30) with rfl|xq
 .have hlen:=f30 rfl;simp only [nL,rQ,rJ,oW,rH,vJ,Int.reduceBEq,aO,aI,Dj,Hu,aB];rcases (show k=0\/k=1 by omega) with rfl|rfl
  .cases (kd==33)<;>exact ⟨_,rfl,rfl⟩
  .exact ⟨_,rfl,rfl⟩
 rcases jI (kind=31) with rfl|h31
 .have hlen:=f31 rfl;simp only [nL,rQ,rJ,oW,rH,vJ,Int.reduceBEq,aO,aI,Dj,Hu,aB,hw,hlen];rcases (show k=0\/k=1\/k=2\/k=3 by omega) with rfl|rfl|rfl|rfl
  .cases iC kd<;>cases (kd==16)<;>exact ⟨_,rfl,rfl⟩
  .cases iC kd<;>cases (kd==16)<;>exact ⟨_,rfl,rfl⟩
  .cases iC kd<;>cases (kd==16)<;>exact ⟨_,rfl,rfl⟩
  .exact ⟨_,rfl,rfl⟩
 rcases jI (kind=32) with rfl|h32
 .simp only [nL,rQ,ze,rJ,oW,rH,vJ,yY,Int.reduceBEq,aO,aI];exact ⟨_,rfl,rfl⟩
 rcases jI (kind=40) with rfl|xk
 .simp only [nL,rQ,ze,rJ,oW,rH,vJ,yY,Int.reduceBEq,aO,aI];exact ⟨_,rfl,rfl⟩
 rcases jI (kind=41) with rfl|lG
 .simp only [nL,rQ,ze,rJ,oW,rH,vJ,yY,Int.reduceBEq,aO,aI];exact ⟨_,rfl,rfl⟩
 rcases jI (kind=33) with rfl|jw
 .simp only [nL,rQ,ze,rJ,oW,rH,vJ,yY,Int.reduceBEq,aO,aI,atU,atV,aB];exact ⟨_,rfl,rfl⟩
 rcases jI (kind=42) with rfl|ZQ
 .simp only [nL,rQ,ze,rJ,oW,rH,vJ,yY,Int.reduceBEq,aO,aI,Dj,Hu,aB,hw];rcases f42 rfl with ⟨rfl,hlen⟩|⟨rfl,hlen⟩|⟨rfl,hlen⟩<;>rw [hlen]
  .obtain rfl:k=0:=ah;cases iC kd<;>exact ⟨_,rfl,rfl⟩
  .obtain rfl:k=0:=ah;cases (kd==33)<;>exact ⟨_,rfl,rfl⟩
  .rcases (show k=0\/k=1 by omega) with rfl|rfl
   .cases iC kd<;>exact ⟨_,rfl,rfl⟩
   .cases (kd==33)<;>exact ⟨_,rfl,rfl⟩
 rcases jI (kind=43) with rfl|h43
 .simp only [nL,rQ,ze,rJ,oW,rH,vJ,yY,Int.reduceBEq,aO,aI,Dj,Hu,aB,hw];rcases f43 rfl with ⟨rfl,hlen⟩|⟨rfl,hlen⟩<;>rw [hlen]
  .rcases (show k=0\/k=1 by omega) with rfl|rfl
   .cases iC kd<;>exact ⟨_,rfl,rfl⟩
   .cases iC kd<;>exact ⟨_,rfl,rfl⟩
  .rcases (show k=0\/k=1\/k=2 by omega) with rfl|rfl|rfl
   .cases iC kd<;>exact ⟨_,rfl,rfl⟩
   .cases iC kd<;>exact ⟨_,rfl,rfl⟩
   .cases (kd==33)<;>exact ⟨_,rfl,rfl⟩
 rcases jI (kind=44) with rfl|mW
 .simp only [nL,rQ,ze,rJ,oW,rH,vJ,yY,Int.reduceBEq,aO,aI,aB,hw];cases ((k:Int)==(kids.length:Int) - 1)<;>cases (kd==33)<;>exact ⟨_,rfl,rfl⟩
 rcases jI (kind=45) with rfl|h45
 .simp only [nL,rQ,ze,rJ,oW,rH,vJ,yY,YC,EK,JZ,Int.reduceBEq,aO,aI,aB];cases (decide (kd>=40)&&decide (kd<=44))<;>exact ⟨_,rfl,rfl⟩
 have e:∀ k,kind≠k->(kind==k)=false:=fun k h=>by simpa using h
 refine ⟨iC kd,?_,?_⟩
 .simp only [nL,rQ,ze,e 9 h9,e 10 h10,e 15 Dl,e 28 Dn,e 29 ZP,e 30 xq,e 31 h31,e 32 h32,e 40 xk,e 41 lG,e 33 jw,e 42 ZQ,e 43 h43,e 44 mW,e 45 h45,aI,Dj,aB]
 .simp only [rJ,oW,rH,vJ,yY,e 9 h9,e 10 h10,e 15 Dl,e 28 Dn,e 29 ZP,e 30 xq,e 31 h31,e 32 h32,e 40 xk,e 41 lG,e 33 jw,e 42 ZQ,e 43 h43,e 44 mW,e 45 h45,aI,Hu,aB]
mutual
def aX:av->Nat
 | ⟨_,_,_,_,ks⟩=>aT ks+1
def aT:List av->Nat
 | []=>0
 | t::ts=>aX t+aT ts
end
mutual
def bX (b:Nat):av->List aD
 | ⟨k,o,t,p,ks⟩=>jU b ks++[⟨k,o,t,p,nV b ks⟩]
def jU (b:Nat):List av->List aD
 | []=>[]
 | t::ts=>bX b t++jU (b+aX t) ts
def nV (b:Nat):List av->List Int
 | []=>[]
 | t::ts=>(((b+aX t:Nat):Int) - 1)::nV (b+aX t) ts
end
mutual
def Ag {P:av->Prop} (h:∀ t:av,(∀ k,k∈t.kids->P k)->P t):∀ t,P t
 | ⟨k,o,x,y,ks⟩=>h ⟨k,o,x,y,ks⟩ (akl h ks)
def akl {P:av->Prop} (h:∀ t:av,(∀ k,k∈t.kids->P k)->P t):∀ (ks:List av) k,k∈ks->P k
 | [],k,hk=>by cases hk
 | t::ts,k,hk=>(iO.1 hk).elim (fun e=>e ▸ Ag h t) (akl h ts k)
end
mutual
def AY:∀ (t:av) (b:Nat),(bX b t).length=aX t
 | ⟨k,o,x,y,ks⟩,b=>by rw [bX,aX,jB,Rt ks b];rfl
def Rt:∀ (ts:List av) (b:Nat),(jU b ts).length=aT ts
 | [],b=>by rw [jU,aT];rfl
 | t::ts,b=>by rw [jU,aT,jB,AY t b,Rt ts _]
end
def vB (t:av):1<=aX t:=by cases t;rw [aX];omega
def Np (t:av):aX t=aT t.kids+1:=by cases t;rw [aX]
def zy:∀ ts:List av,ts.length<=aT ts
 | []=>by simp [aT]
 | t::ts=>by have:=vB t;have:=zy ts;rw [aT];simp only [jG];omega
def Hf:∀ {ts:List av} {t:av},t∈ts->aX t<=aT ts
 | t'::ts,t,h=>by
  rw [aT];rcases iO.1 h with rfl|h
  .omega
  .have:=Hf h;omega
def Hr:∀ (a b:List av),aT (a++b)=aT a+aT b
 | [],b=>by simp [aT]
 | t::a,b=>by rw [Hq,aT,aT,Hr a b];omega
def akm:∀ (a b:List av) (s:Nat),jU s (a++b)=jU s a++jU (s+aT a) b
 | [],b,s=>by simp [jU,aT]
 | t::a,b,s=>by rw [Hq,jU,jU,aT,akm a b,nC,Kk]
def akn:∀ (a b:List av) (s:Nat),nV s (a++b)=nV s a++nV (s+aT a) b
 | [],b,s=>by simp [nV,aT]
 | t::a,b,s=>by rw [Hq,nV,nV,aT,akn a b,Kk];rfl
def Nw:∀ (ts:List av) (b:Nat),(nV b ts).length=ts.length
 | [],b=>rfl
 | t::ts,b=>by rw [nV,jG,jG,Nw ts _]
def BP (d:Int) (x:aD):aD:=⟨x.Kind,x.Op,x.Text,x.Other,x.Kids.map (·+d)⟩
def atY (x:aD):BP 0 x=x:=by
 unfold BP;cases x;simp
def atZ (d e:Int) (x:aD):BP d (BP e x)=BP (e+d) x:=by
 unfold BP;simp only [IY,aD.mk.injEq,true_and];refine yR fun k _=>?_;simp only [Function.comp_apply];omega
mutual
def ZC:∀ (t:av) (b d:Nat),bX (b+d) t=(bX b t).map (BP d)
 | ⟨k,o,x,y,ks⟩,b,d=>by
  rw [bX,bX,Dh,ako ks b d,akp ks b d];rfl
def ako:∀ (ts:List av) (b d:Nat),jU (b+d) ts=(jU b ts).map (BP d)
 | [],b,d=>rfl
 | t::ts,b,d=>by
  rw [jU,jU,Dh,ZC t b d,ZT,ako ts _ d]
def akp:∀ (ts:List av) (b d:Nat),nV (b+d) ts=(nV b ts).map (·+(d:Int))
 | [],b,d=>rfl
 | t::ts,b,d=>by
  rw [nV,nV,kM,ZT,akp ts _ d];congr 1;omega
end
def aua (t:av) (b:Nat):(bX b t).map (BP<|-(b:Int))=bX 0 t:=by
 have:=ZC t 0 b;rw [rW] at this;rw [this,IY];refine (yR fun x _=>?_).trans (Ny _);simp only [Function.comp_apply,atZ];rw [show (b:Int)+ -(b:Int)=0 by omega,atY];rfl
def akq:∀ (ts:List av) (b:Nat) (k:Int),k∈nV b ts->0<=k/\k < b+aT ts
 | [],b,k,h=>by cases h
 | t::ts,b,k,h=>by
  rw [nV] at h;rw [aT];have:=vB t;rcases iO.1 h with rfl|h
  .omega
  .have:=akq ts _ k h;omega
mutual
def ZM:∀ (t:av) (b:Nat) (x:aD),x∈bX b t->∀ k,k∈x.Kids->0<=k/\k < b+aX t
 | ⟨kd,o,x,y,ks⟩,b,n,h,k,hk=>by
  rw [bX] at h;rw [aX];rcases lH.1 h with h|h
  .have:=akr ks b n h k hk;omega
  .rw [vW.1 h] at hk;have:=akq ks b k hk;omega
def akr:∀ (ts:List av) (b:Nat) (x:aD),x∈jU b ts->∀ k,k∈x.Kids->0<=k/\k < b+aT ts
 | [],b,n,h,k,hk=>by rw [jU] at h;cases h
 | t::ts,b,n,h,k,hk=>by
  rw [jU] at h;rw [aT];rcases lH.1 h with h|h
  .have:=ZM t b n h k hk;omega
  .have:=akr ts _ n h k hk;omega
end
mutual
def TA (a:List aD):av->Nat->Nat->Prop
 | ⟨kd,op,x,y,ts⟩,s,i=>∃ n,a[i]?=some n/\n.Kind=kd/\n.Op=op/\n.Text=x/\n.Other=y/\KA a ts n.Kids s i
def KA (a:List aD):List av->List Int->Nat->Nat->Prop
 | [],ks,s,e=>ks=[]/\s=e
 | t::ts,ks,s,e=>∃ (k:Nat) (ks':List Int),ks=(k:Int)::ks'/\s<=k/\k < e/\TA a t s k/\KA a ts ks' (k+1) e
end
def part (a:List aD) (s e:Nat):List aD:=(a.drop s).take (e - s)
def aks {a:List aD} {s m e:Nat} (h1:s<=m) (h2:m<=e):part a s m++part a m e=part a s e:=by
 unfold part;rw [show e - s=(m - s)+(e - m) by omega,List.take_add,Ws,show s+(m - s)=m by omega]
def aub {a:List aD} {i:Nat} {n:aD} (h:a[i]?=some n):part a i (i+1)=[n]:=by
 obtain ⟨hi,rfl⟩:=dB.1 h;unfold part;rw [show i+1 - i=1 by omega,EN hi];rfl
def auc (a:List aD) (i:Nat):part a i i=[]:=by
 unfold part;simp
def ajj (a:List aD):part a 0 a.length=a:=by
 unfold part;simp
def TA.lt {a:List aD} {t:av} {s i:Nat} (h:TA a t s i):i < a.length:=by
 cases t;rw [TA] at h;obtain ⟨n,hn,_⟩:=h;exact (dB.1 hn).1
mutual
def TA.part {a:List aD}:∀ {t:av} {s i:Nat},TA a t s i->s<=i/\aX t=i+1 - s/\part a s (i+1)=bX s t
 | ⟨kd,op,x,y,ts⟩,s,i,h=>by
  rw [TA] at h;obtain ⟨n,hn,rfl,rfl,rfl,rfl,hk⟩:=h;obtain ⟨h1,h2,h3,h4⟩:=KA.part hk;refine ⟨h1,by rw [aX];omega,?_⟩;rw [bX,<- h3,<- h4,<- aks h1 (Nat.le_succ i),aub hn]
def KA.part {a:List aD}:∀ {ts:List av} {ks:List Int} {s e:Nat},KA a ts ks s e->s<=e/\aT ts=e - s/\Go.Proofs.Tryz.part a s e=jU s ts/\ks=nV s ts
 | [],ks,s,e,h=>by
  rw [KA] at h;obtain ⟨rfl,rfl⟩:=h;exact ⟨dX _,by rw [aT];omega,by rw [auc,jU],by rw [nV]⟩
 | t::ts,ks,s,e,h=>by
  rw [KA] at h;obtain ⟨k,ks',rfl,h1,h2,ht,hk⟩:=h;obtain ⟨g1,g2,g3⟩:=TA.part ht;obtain ⟨k1,k2,k3,k4⟩:=KA.part hk;have e1:s+aX t=k+1:=ah;refine ⟨ah,by rw [aT];omega,?_,?_⟩
  .rw [jU,e1,<- g3,<- k3,aks ah ah]
  .rw [nV,e1,<- k4];congr 1;omega
end
mutual
def aem {a:List aD}:∀ {t t':av} {s s' i:Nat},TA a t s i->TA a t' s' i->t=t'/\s=s'
 | ⟨kd,op,x,y,ts⟩,⟨kd',op',x',y',ts'⟩,s,s',i,h,h'=>by
  rw [TA] at h h';obtain ⟨n,hn,rfl,rfl,rfl,rfl,hk⟩:=h;obtain ⟨n',hn',rfl,rfl,rfl,rfl,hk'⟩:=h';rw [hn] at hn';cases hn';obtain ⟨rfl,rfl⟩:=akt hk hk';exact ⟨rfl,rfl⟩
def akt {a:List aD}:∀ {ts ts':List av} {ks:List Int} {s s' e:Nat},KA a ts ks s e->KA a ts' ks s' e->ts=ts'/\s=s'
 | [],[],ks,s,s',e,h,h'=>by
  rw [KA] at h h';exact ⟨rfl,h.2.trans h'.2.symm⟩
 | [],t'::ts',ks,s,s',e,h,h'=>by
  simp only [KA] at h h';obtain ⟨k,ks',e1,_⟩:=h';rw [h.1] at e1;cases e1
 | t::ts,[],ks,s,s',e,h,h'=>by
  simp only [KA] at h h';obtain ⟨k,ks',e1,_⟩:=h;rw [h'.1] at e1;cases e1
 | t::ts,t'::ts',ks,s,s',e,h,h'=>by
  rw [KA] at h h';obtain ⟨k,ks',rfl,_,_,ht,hk⟩:=h;obtain ⟨k2,ks2,e1,_,_,ht',hk'⟩:=h';injection e1 with e1 e2;have:k=k2:=ah;subst this;subst e2;obtain ⟨rfl,rfl⟩:=aem ht ht';obtain ⟨rfl,_⟩:=akt hk hk';exact ⟨rfl,rfl⟩
end
def aku {a:List aD} {r:List Int} {e:Nat} (ih:∀ k s:Nat,k < e->r[k]?=some (s:Int)->∃ t,TA a t s k):∀ (ks:List Int) (s:Nat),Go.Av.Kids r (s:Int) (e:Int) ks->∃ ts,KA a ts ks s e
  | [],s,h=>by
    simp only [Go.Av.Kids] at h;exact ⟨[],by rw [KA];exact ⟨rfl,ah⟩⟩
  | k::ks,s,h=>by
    obtain ⟨h0,h1,h2,h3,h4⟩:=h;obtain ⟨kn,rfl⟩:=qJ (show 0<=k by omega);rw [BL] at h3;obtain ⟨t,ht⟩:=ih kn s ah h3;obtain ⟨ts,hts⟩:=aku ih ks (kn+1) (by (have:((kn+1:Nat):Int)=(kn:Int)+1:=by omega);rw [this];exact h4);exact ⟨t::ts,by rw [KA];exact ⟨kn,ks,rfl,ah,ah,ht,hts⟩⟩
def akv {a:List aD} {r:List Int} (hl:Low r) (hk:∀ (i:Nat) (hi:i < a.length),∃ s,r[i]?=some s/\Go.Av.Kids r s (i:Int) a[i].Kids):∀ (i s:Nat),i < a.length->r[i]?=some (s:Int)->∃ t,TA a t s i:=by
 intro i;induction i using Nat.strongRecOn with
 | ind i ih=>
  intro s hi hs;obtain ⟨s',hs',hks⟩:=hk i hi;rw [hs] at hs';cases hs';obtain ⟨ts,hts⟩:=aku (a:=a) (r:=r) (e:=i) (fun k s hk' hr=>ih k hk' s ah hr) _ _ hks;exact ⟨⟨a[i].Kind,a[i].Op,a[i].Text,a[i].Other,ts⟩,by rw [TA];exact ⟨a[i],eY hi,rfl,rfl,rfl,rfl,hts⟩⟩
def IX {a:List aD} (h:uN a=true):1<=a.length/\a.length<=400/\∃ r,starts (qD a) []=some r/\r.length=a.length/\Low r/\
  (∀ i,i < a.length->∃ (t:av) (s:Nat),r[i]?=some (s:Int)/\TA a t s i)/\∃ t,TA a t 0 (a.length - 1):=by
 unfold uN at h;simp only [dP,mP] at h;obtain ⟨⟨h1,h2⟩,h3⟩:=h;cases hst:starts (qD a) [] with
 | none=>rw [hst] at h3;cases h3
 | some r=>
  rw [hst] at h3;obtain ⟨⟨m,hm,hml⟩,hl,hk⟩:=adg _ (fun j s h=>by simp at h) hst;have hrl:r.length=a.length:=by rw [hm];simp [hml,qD]
  have hk':∀ (i:Nat) (hi:i < a.length),∃ s,r[i]?=some s/\Go.Av.Kids r s (i:Int) a[i].Kids:=fun i hi=>by
   obtain ⟨s,e1,e2⟩:=hk i a[i].Kids (by simp [qD,eY hi]);simp only [vV,rW] at e1 e2;exact ⟨s,e1,e2⟩
  refine ⟨h1,h2,r,rfl,hrl,hl,fun i hi=>?_,?_⟩
  .obtain ⟨s,hs,_⟩:=hk' i hi;have:=(hl i s hs).1;obtain ⟨sn,rfl⟩:=qJ this;obtain ⟨t,ht⟩:=akv hl hk' i sn hi hs;exact ⟨t,sn,hs,ht⟩
  .have:r[a.length - 1]?=some ((0:Nat):Int):=by simpa [VD] using h3
   exact akv hl hk' (a.length - 1) 0 ah this
def ads {a:List aD} (h:uN a=true):∀ x,x∈a->x.Kids.length<=400/\∀ k,k∈x.Kids->0<=k/\k < a.length:=by
 obtain ⟨h1,h2,r,_,_,_,hT,t,ht⟩:=IX h;obtain ⟨g1,g2,g3⟩:=ht.part;rw [show a.length - 1+1=a.length by omega,ajj] at g3;intro x hx;constructor
 .obtain ⟨i,hi,rfl⟩:=List.getElem_of_mem hx;obtain ⟨t',s,_,ht'⟩:=hT i hi;cases t';rw [TA] at ht';obtain ⟨n,hn,_,_,_,_,hk⟩:=ht';rw [eY hi] at hn;cases hn;obtain ⟨k1,k2,k3,k4⟩:=hk.part;have:=zy ‹List av›;rw [k4,Nw];omega
 .intro k hk;rw [g3] at hx;have:=ZM t 0 x hx k hk;omega
def akw (a:List aD) (e:aD) (M i:Nat):∀ (ts:List av) (j n s:Nat) (acc:List av),(∀ t,t∈ts->∀ s k:Nat,TA a t s k->k < i->(Gc M).Bj a (k:Int)=some t)->KA a ts (e.Kids.drop j) s i->acc.length=j->j<=e.Kids.length->e.Kids.length<=100000->ts.length < n->
  Jr M (Gc M) n (a,e,(j:Int),acc)=some ⟨e.Kind,e.Op,e.Text,e.Other,acc++ts⟩
 | [],j,n,s,acc,ih,h,ha,hj,he,hn=>by
  simp only [KA] at h;obtain ⟨n,rfl⟩:∃ m,n=m+1:=⟨n - 1,by simp at hn;omega⟩
  have hlt: ¬j < e.Kids.length:=by
   intro hlt;rw [drop_cons hlt] at h;cases h.1
  rw [Jr];simp only [jN hlt,aI,pJ]
 | t::ts,j,n,s,acc,ih,h,ha,hj,he,hn=>by
  simp only [KA] at h;obtain ⟨k,ks',hd,h1,h2,Wt,hka⟩:=h;simp only [jG] at hn;obtain ⟨n,rfl⟩:∃ m,n=m+1:=⟨n - 1,ah⟩
  have hlt:j < e.Kids.length:=by
   cases vP j e.Kids.length with
   | inl h=>exact h
   | inr h=>rw [CZ h] at hd;cases hd
  rw [drop_cons hlt] at hd;injection hd with hd1 hd2;rw [Jr];simp only [iL hlt,aO,dn hlt,hd1,aB];rw [ih t aA s k Wt h2,aB,pz bE,aB,wrap64 ah ah];have:=akw a e M i ts (j+1) n (k+1) (acc++[t]) (fun t' h'=>ih t'<|by simp [h']) (hd2 ▸ hka) (by simp [ha]) ah he ah;rw [nC] at this;exact this
def aud (a:List aD):∀ (t:av) (s i N:Nat),TA a t s i->i<=100000->2*aX t+2<=N->(Gc N).Bj a (i:Int)=some t:=by
 intro t;induction t using Ag with
 | h t ih=>
  intro s i N h hi hN;obtain ⟨M,rfl⟩:∃ M,N=M+1:=⟨N - 1,ah⟩
  obtain ⟨kd,op,x,y,ts⟩:=t;have hsz:=(TA.part h).2.1;rw [TA] at h;obtain ⟨n,hn,rfl,rfl,rfl,rfl,hk⟩:=h;obtain ⟨h1,h2,h3,h4⟩:=hk.part;have hkl:n.Kids.length=ts.length:=by rw [h4,Nw]
  have htl:=zy ts;rw [aX] at hsz hN;show Uo M (Gc M) a (i:Int)=_;unfold Uo;rw [adu hn,aB];have:=akw a n M i ts 0 M s [] (fun t' ht' s' k Wt hki=>ih t' ht' s' k M Wt ah (by have:=Hf ht';omega)) (by simpa using hk) rfl ah ah ah;simpa using this
def abP (N:Nat) (a:List aD) (hN:1000 < N) {t:av} (h:TA a t 0 (a.length - 1)) (h1:1<=a.length) (h2:a.length<=400):Js N a=some t:=by
 obtain ⟨_,hs,_⟩:=h.part;unfold Js;rw [wrap64 ah ah,show (a.length:Int) - 1=((a.length - 1:Nat):Int) by omega];have:=aud a t 0 (a.length - 1) N h ah ah;show Option.bind ((Gc N).Bj a _) _=_;rw [this];rfl
def akx (t:av) (G:Nat):∀ (ts:List av) (j n:Nat) (acc:List aD) (ids:List Int),(∀ k,k∈ts->∀ acc:List aD,acc.length+aX k<=1000000->(GQ G).Bz k acc=some (acc++bX acc.length k))->t.kids.drop j=ts->ts.length < n->
  acc.length+aT ts<=999999->ids.length+ts.length<=1000000->t.kids.length<=1000000->
  JW G (GQ G) n (t,(j:Int),acc,ids)=some (acc++jU acc.length ts++[⟨t.kind,t.op,t.text,t.other,ids++nV acc.length ts⟩])
 | [],j,n,acc,ids,ih,hd,hn,hacc,aky,htl=>by
  obtain ⟨n,rfl⟩:∃ m,n=m+1:=⟨n - 1,by simp at hn;omega⟩
  have hj: ¬j < t.kids.length:=by
   intro h;rw [drop_cons h] at hd;cases hd
  rw [JW];simp only [jN hj,aI];rw [pz bE,aB];simp [jU,nV]
 | k::ts,j,n,acc,ids,ih,hd,hn,hacc,aky,htl=>by
  simp only [jG] at hn aky;rw [aT] at hacc;obtain ⟨n,rfl⟩:∃ m,n=m+1:=⟨n - 1,ah⟩
  have hj:j < t.kids.length:=by
   cases vP j t.kids.length with
   | inl h=>exact h
   | inr h=>rw [CZ h] at hd;cases hd
  rw [drop_cons hj] at hd;injection hd with hd1 hd2;have hsz:=vB k;have hlen:(acc++bX acc.length k).length=acc.length+aX k:=by rw [jB,AY]
  rw [JW];simp only [iL hj,aO,dn hj,hd1,aB];rw [ih k aA acc ah,aB,hlen,wrap64 ah ah,pz bE,aB,wrap64 ah ah];have:=akx t G ts (j+1) n (acc++bX acc.length k) (ids++[((acc.length+aX k:Nat):Int) - 1]) (fun k' h'=>ih k'<|by simp [h']) hd2 ah (by rw [hlen];omega) bE htl;rw [hlen] at this;rw [show ((j:Int)+1)=((j+1:Nat):Int) by omega,this,jU,nV];simp only [nC,Hq,Hz]
def aue:∀ (t:av) (N:Nat) (acc:List aD),2*aX t+2<=N->acc.length+aX t<=1000000->(GQ N).Bz t acc=some (acc++bX acc.length t):=by
 intro t;induction t using Ag with
 | h t ih=>
  intro N acc hN ha;obtain ⟨M,rfl⟩:∃ M,N=M+1:=⟨N - 1,ah⟩
  have hsz:=Np t;have htl:=zy t.kids;show Vp M (GQ M) t acc=_;unfold Vp;have:=akx t M t.kids 0 M acc [] (fun k hk acc' ha'=>ih k hk M acc' (by have:=Hf hk;omega) ha') rfl ah ah bE ah;refine Ht this ?_;obtain ⟨kd,op,x,y,ts⟩:=t;rw [bX];simp
def atA (N:Nat) (t:av) (hN:2*aX t+2<=N) (h:aX t<=1000000):QC N t=some (bX 0 t):=by
 unfold QC;have:=aue t N [] hN (by simpa using h);show Option.bind ((GQ N).Bz t []) _=_;rw [this];simp
def auf (N:Nat) (kb:(List aD×Int×Int×List aD)->Option (List aD)) (a:List aD) (d:Int) (i:Nat) (hi:i < a.length) (hi2:i<=1048576) (out:List aD) (ho:out.length=i) (hk:a[i].Kids.length<=1048576)
  (hr:∀ k,k∈a[i].Kids-> -9223372036854775808<=k+d/\k+d<=9223372036854775807):
  ∀ (n j:Nat) (ks:List Int),a[i].Kids.length - j < n->j<=a[i].Kids.length->ks.length=j->
   Lh N kb n (a,d,(i:Int),out,a[i],(j:Int),ks)=kb (a,d,((i+1:Nat):Int),out++[⟨a[i].Kind,a[i].Op,a[i].Text,a[i].Other,ks++(a[i].Kids.drop j).map (·+d)⟩]):=by
 intro n;induction n with
 | zero=>intro j ks h;omega
 | succ n ih=>
  intro j ks hn hj hks;rw [Lh,dn hi,aB];by_cases h:j < a[i].Kids.length
  .have hx:=hr _ (nO h);simp only [iL h,aO,dn hi,dn h,aB,Vy h<|by simp only [maxLen];omega];rw [wrap64 hx.1 hx.2,pz bE,aB,ih (j+1) _ ah ah (by simp [hks]),drop_cons h];simp only [kM,nC,Hq,Hz]
  .simp only [jN h,aI];rw [pz bE,aB,drop_nil h,wrap64 ah ah];simp
def aug (N:Nat) (a:List aD) (d:Int) (hN:1048577 < N) (ha:a.length<=1048576) (hs:∀ x,x∈a->x.Kids.length<=1048576) (hr:∀ x,x∈a->∀ k,k∈x.Kids-> -9223372036854775808<=k+d/\k+d<=9223372036854775807):
  ∀ (n i:Nat) (out:List aD),a.length - i < n->i<=a.length->out.length=i->FV N n (a,d,(i:Int),out)=some (out++(a.drop i).map (BP d)):=by
 intro n;induction n with
 | zero=>intro i out h;omega
 | succ n ih=>
  intro i out hn hi ho;rw [FV];by_cases h:i < a.length
  .have hx:=hs _ (nO h);simp only [iL h,aO,dn h,aB];have:=auf N (FV N n) a d i h ah out ho ah (hr _<|nO h) N 0 [] ah ah rfl;simp only [EL,Hz] at this;refine Ht this ?_;rw [ih (i+1) _ ah ah (by simp [ho]),drop_cons h];simp only [kM,nC,Hq,Hz,BP]
  .simp only [jN h,aI];rw [drop_nil h];simp
def auh (N:Nat) (a:List aD) (d:Int) (hN:1048577 < N) (ha:a.length<=1048576) (hs:∀ x,x∈a->x.Kids.length<=1048576) (hr:∀ x,x∈a->∀ k,k∈x.Kids-> -9223372036854775808<=k+d/\k+d<=9223372036854775807):
  Tp N a d=some (a.map<|BP d):=by
 have:=aug N a d hN ha hs hr N 0 [] ah ah rfl;rw [EL,Hz] at this;exact this
mutual
def ZL:∀ (t:av) (b:Nat) (x:aD),x∈bX b t->x.Kids.length < aX t
 | ⟨kd,o,x,y,ks⟩,b,n,h=>by
  rw [bX] at h;rw [aX];rcases lH.1 h with h|h
  .have:=akz ks b n h;omega
  .rw [vW.1 h];have:=zy ks;simp only [Nw];omega
def akz:∀ (ts:List av) (b:Nat) (x:aD),x∈jU b ts->x.Kids.length < aT ts
 | [],b,n,h=>by rw [jU] at h;cases h
 | t::ts,b,n,h=>by
  rw [jU] at h;rw [aT];rcases lH.1 h with h|h
  .have:=ZL t b n h;omega
  .have:=akz ts _ n h;omega
end
def aui (N:Nat) (t:av) (b d:Nat) (hN:1048577 < N) (h:b+d+aX t<=1000000):Tp N (bX b t) (d:Int)=some (bX (b+d) t):=by
 rw [ZC];exact auh N _ _ hN (by rw [AY];omega) (fun x hx=>by have:=ZL t b x hx;omega) fun x hx k hk=>by have:=ZM t b x hx k hk;omega
def akA (N:Nat) (n0:aD) (ts:List av) (hN:1048577 < N) (hsz:aT ts<=900000):∀ (rest done:List av) (n:Nat),done++rest=ts->rest.length < n->
  Jb N n (ts.map<|bX 0,n0,(done.length:Int),jU 0 done,nV 0 done)=some (bX 0 ⟨n0.Kind,n0.Op,n0.Text,n0.Other,ts⟩)
 | [],done,n,hd,hn=>by
  obtain ⟨n,rfl⟩:∃ m,n=m+1:=⟨n - 1,by simp at hn;omega⟩
  rw [pJ] at hd;subst hd;have hl:=zy done;have: ¬done.length < (done.map<|bX 0).length:=aA;rw [Jb];simp only [jN this,aI];rw [pz (by rw [Rt];simp;omega),aB,bX]
 | t::rest,done,n,hd,hn=>by
  simp only [jG] at hn;obtain ⟨n,rfl⟩:∃ m,n=m+1:=⟨n - 1,ah⟩
  have hlt:done.length < (ts.map<|bX 0).length:=by rw [<- hd];simp
  have hlt2:done.length < ts.length:=by simpa using hlt
  have hx:(ts.map<|bX 0)[done.length]'hlt=bX 0 t:=by simp [<- hd]
  have hsum:aT done+aX t+aT rest=aT ts:=by rw [<- hd,Hr,aT];omega
  have hl:=zy done;have hp:=vB t;rw [Jb];simp only [iL hlt,aO,dn hlt,aB,hx,Rt];have hsh:=aui N t 0 (aT done) hN ah;rw [rW] at hsh;rw [hsh,aB,pz (by rw [Rt,AY];omega),aB,jB,Rt,AY,wrap64 (n:=((aT done+aX t:Nat):Int) - 1) ah ah,pz (by rw [Nw];simp;omega),aB,wrap64 ah ah];have:=akA N n0 ts hN hsz rest (done++[t]) n (by simpa using hd) ah;rw [akm,akn,rW] at this;simp only [jU,nV,pJ,jB,jG,vV] at this;exact this
def ajB (N:Nat) (n0:aD) (ts:List av) (hN:1048577 < N) (hsz:aT ts<=900000):iH N n0 (ts.map<|bX 0)=some (bX 0 ⟨n0.Kind,n0.Op,n0.Text,n0.Other,ts⟩):=
 akA N n0 ts hN hsz ts [] N rfl (by have:=zy ts;omega)
mutual
def je:av->Nat
 | ⟨_,_,_,_,ks⟩=>jg ks+1
def jg:List av->Nat
 | []=>0
 | t::ts=>max (je t) (jg ts)
end
mutual
def aen:∀ t:av,je t<=aX t
 | ⟨k,o,x,y,ks⟩=>by have:=akB ks;rw [je,aX];omega
def akB:∀ ts:List av,jg ts<=aT ts
 | []=>by rw [jg,aT];omega
 | t::ts=>by have:=aen t;have:=akB ts;rw [jg,aT];omega
end
def auj (t:av):je t=jg t.kids+1:=by cases t;rw [je]
def akC (t:av) (G:Nat) (hsz:aX t<=100000):∀ (ts:List av) (j n m:Nat),(∀ k,k∈ts->(Ju G).vK k=some (je k:Int))->t.kids.drop j=ts->ts.length < n->m<=100000->
  Jt G (Ju G) n (t,(m:Int),(j:Int))=some (((max m (jg ts)+1:Nat):Int))
 | [],j,n,m,ih,hd,hn,hm=>by
  obtain ⟨n,rfl⟩:∃ m,n=m+1:=⟨n - 1,by simp at hn;omega⟩
  have hj: ¬j < t.kids.length:=by
   intro h;rw [drop_cons h] at hd;cases hd
  rw [Jt];simp only [jN hj,aI];rw [wrap64 ah ah,jg];congr 1;omega
 | k::ts,j,n,m,ih,hd,hn,hm=>by
  simp only [jG] at hn;obtain ⟨n,rfl⟩:∃ m,n=m+1:=⟨n - 1,ah⟩
  have hj:j < t.kids.length:=by
   cases vP j t.kids.length with
   | inl h=>exact h
   | inr h=>rw [CZ h] at hd;cases hd
  have hjl:t.kids.length<=100000:=by have:=zy t.kids;have:=Np t;omega
  have hmem:k∈t.kids:=by
   have:k∈t.kids.drop j:=by rw [hd];simp
   exact List.mem_of_mem_drop this
  have hkd:je k<=100000:=by have:=aen k;have:=Hf hmem;have:=Np t;omega
  rw [drop_cons hj] at hd;injection hd with hd1 hd2;rw [Jt];simp only [iL hj,aO,dn hj,hd1,aB];rw [ih k aA,aB,wrap64 ah ah];have hmax:(if (je k:Int) > (m:Int) then (je k:Int) else (m:Int))=((max m (je k):Nat):Int):=by split<;>omega
  rw [hmax,show ((j:Int)+1)=((j+1:Nat):Int) by omega,akC t G hsz ts (j+1) n (max m<|je k) (fun k' h'=>ih k'<|by simp [h']) hd2 ah ah,jg,Nat.max_assoc]
def ake:∀ (t:av) (N:Nat),2*aX t+2<=N->aX t<=100000->(Ju N).vK t=some (je t:Int):=by
 intro t;induction t using Ag with
 | h t ih=>
  intro N hN hsz;obtain ⟨M,rfl⟩:∃ M,N=M+1:=⟨N - 1,ah⟩
  have h1:=Np t;have h2:=zy t.kids;show Ur M (Ju M) t=_;unfold Ur;have:=akC t M hsz t.kids 0 M 0 (fun k hk=>ih k hk M (by have:=Hf hk;omega) (by have:=Hf hk;omega)) rfl ah ah;refine Ht this ?_;rw [auj,Nat.zero_max]
def akD (a:List aD) (d:List Int):Prop:=∀ (j:Nat) (v:Int),d[j]?=some v->∃ t s,TA a t s j/\v=je t
def akE (N:Nat) (kb:(List aD×Int×List Int)->Option Int) (a:List aD) (ha:a.length<=400) (i:Nat) (hi:i < a.length) (d:List Int) (hd:d.length=i) (hok:akD a d) (hkl:a[i].Kids.length<=400):∀ (ts:List av) (j n s m:Nat),KA a ts (a[i].Kids.drop j) s i->j<=a[i].Kids.length->ts.length < n->m<=1000->aT ts<=400->
  JC N kb n (a,(i:Int),d,(m:Int),(j:Int))=kb (a,((i+1:Nat):Int),d++[((max m (jg ts+(if ts=[] then 0 else 1)):Nat):Int)])
 | [],j,n,s,m,h,hj,hn,hm,hsz=>by
  simp only [KA] at h;obtain ⟨n,rfl⟩:∃ m,n=m+1:=⟨n - 1,by simp at hn;omega⟩
  have hlt: ¬j < a[i].Kids.length:=by
   intro hlt;rw [drop_cons hlt] at h;cases h.1
  rw [JC,dn hi,aB];simp only [jN hlt,aI];rw [pz bE,aB,wrap64 ah ah,jg];simp
 | t::ts,j,n,s,m,h,hj,hn,hm,hsz=>by
  simp only [KA] at h;obtain ⟨k,ks',hdk,h1,h2,Wt,hka⟩:=h;simp only [jG] at hn;rw [aT] at hsz;obtain ⟨n,rfl⟩:∃ m,n=m+1:=⟨n - 1,ah⟩
  have hlt:j < a[i].Kids.length:=by
   cases vP j a[i].Kids.length with
   | inl h=>exact h
   | inr h=>rw [CZ h] at hdk;cases hdk
  rw [drop_cons hlt] at hdk;injection hdk with hd1 hd2;have hkd:k < d.length:=ah;obtain ⟨t',s',ht',hv⟩:=hok k d[k] (eY hkd);obtain ⟨rfl,rfl⟩:=aem Wt ht';have hdl:=aen t;rw [JC,dn hi,aB];simp only [iL hlt,aO,dn hi,dn hlt,aB,hd1];rw [dn hkd,aB,hv,wrap64 (n:=1+(je t:Int)) ah ah,wrap64 ah ah];have hmax:(if 1+(je t:Int) > (m:Int) then 1+(je t:Int) else (m:Int))=((max m (je t+1):Nat):Int):=by split<;>omega
  rw [hmax,show ((j:Int)+1)=((j+1:Nat):Int) by omega,akE N kb a ha i hi d hd hok hkl ts (j+1) n (k+1) _ (hd2 ▸ hka) ah ah ah ah,jg];have e:max (max m<|je t+1) (jg ts+(if ts=[] then 0 else 1))=max m (max (je t) (jg ts)+(if t::ts=[] then 0 else 1)):=by
   have h3:(t::ts=[])=False:=aA;simp only [h3,if_false];split
   .subst_vars;rw [jg];omega
   .omega
  rw [e]
def auk (N:Nat) (a:List aD) (hN:1000 < N) (ha:a.length<=400) (h1:1<=a.length) (hT:∀ i,i < a.length->∃ (t:av) (s:Nat),TA a t s i) {t0:av} (h0:TA a t0 0 (a.length - 1)):∀ (n i:Nat) (d:List Int),a.length - i < n->i<=a.length->d.length=i->akD a d->
  Gl N n (a,(i:Int),d)=some (je t0:Int):=by
 intro n;induction n with
 | zero=>intro i d h;omega
 | succ n ih=>
  intro i d hn hi hd hok;rw [Gl];by_cases h:i < a.length
  .obtain ⟨t,s,ht⟩:=hT i h;have htp:=ht.part;obtain ⟨kd,op,x,y,ts⟩:=t;have ht2:=ht;rw [TA] at ht2;obtain ⟨n0,hn0,_,_,_,_,hk⟩:=ht2;rw [eY h] at hn0;cases hn0;obtain ⟨k1,k2,k3,k4⟩:=hk.part;have hl:=zy ts;have hkl:a[i].Kids.length=ts.length:=by rw [k4,Nw]
   rw [aX] at htp;have:=akE N (Gl N n) a ha i h d hd hok ah ts 0 N s 1 (by simpa using hk) ah ah ah ah;simp only [iL h,aO];refine Ht this ?_;have e:max 1 (jg ts+(if ts=[] then 0 else 1))=je ⟨a[i].Kind,a[i].Op,a[i].Text,a[i].Other,ts⟩:=by
    rw [je];split
    .subst_vars;rw [jg];rfl
    .omega
   refine ih (i+1) _ ah ah (by simp [hd]) fun j v hv=>?_;rw [List.getElem?_append] at hv;split at hv
   .exact hok j v hv
   .rename_i hj;have hji:j=i:=by
     have:=(dB.1 hv).1;simp at this;omega
    subst hji;rw [hd,aeo] at hv;simp only [Kl,iD] at hv;refine ⟨_,_,ht,?_⟩;rw [<- hv,e];simp_all [je]
  .simp only [jN h,aI];have hia:i=a.length:=ah;have hlt:a.length - 1 < d.length:=ah;obtain ⟨t',s',ht',hv⟩:=hok (a.length - 1) _ (eY hlt);obtain ⟨rfl,_⟩:=aem h0 ht';have hx:=dn hlt;rw [wrap64 ah ah,show (a.length:Int) - 1=((a.length - 1:Nat):Int) by omega,hx,aB,hv]
def aji (N:Nat) (a:List aD) (hN:1048577 < N) (hs:∀ x,x∈a->vC x) (hsh:uN a=true) {t:av} (ht:TA a t 0 (a.length - 1)):UF N a=some (je t:Int):=by
 obtain ⟨h1,h2,r,_,_,_,hT,_⟩:=IX hsh;unfold UF;rw [aiN N a hN hs,hsh,aB];exact auk N a ah h2 h1 (fun i hi=>by obtain ⟨t,s,_,h⟩:=hT i hi;exact ⟨t,s,h⟩) ht N 0 [] ah ah rfl (fun j v h=>by simp at h)
def aul (N:Nat) (a:List aD) (hN:1048577 < N) (ha:a.length<=400) (i:Nat) (hi:i < a.length) (hf:FK a[i]) (hkl:a[i].Kids.length<=400) (hkr:∀ k,k∈a[i].Kids->0<=k/\k < a.length) (gF YV:(List aD×Int)->Option Bool) (c:Bool)
  (hkb:∃ b:Bool,gF (a,((i+1:Nat):Int))=some b/\YV (a,((i+1:Nat):Int))=some (b&&c)):∀ (n j:Nat),a[i].Kids.length - j < n->j<=a[i].Kids.length->
  ∃ b:Bool,CJ N gF n (a,(i:Int),(j:Int))=some b/\Mf N YV n (a,(i:Int),a[i],(j:Int))=some (b&&c):=by
 intro n;induction n with
 | zero=>intro j h;omega
 | succ n ih=>
  intro j hn hj;rw [CJ,Mf,dn hi,aB];by_cases h:j < a[i].Kids.length
  .have hk:=hkr _ (nO h);have hk2:a[i].Kids[j].toNat < a.length:=ah;have hx:ix a a[i].Kids[j]=some a[a[i].Kids[j].toNat]:=by
    have:=dn hk2;rwa [ade hk.1] at this
   obtain ⟨b,b1,b2⟩:=atW a[i] j a[a[i].Kids[j].toNat].Kind hf h hkl;simp only [iL h,aO,dn hi,dn h,aB,hx,b1,b2];cases b with
   | false=>exact ⟨false,rfl,rfl⟩
   | true=>
    simp only [nN,aI];rw [wrap64 ah ah,show ((j:Int)+1)=((j+1:Nat):Int) by omega];exact ih (j+1) ah ah
  .simp only [jN h,aI];rw [wrap64 ah ah];exact hkb
def aum (a:List aD):Prop:=∀ x,x∈a->FK x/\fM x.Kind
def aun (N:Nat) (a:List aD) (hN:1048577+400 < N) (ha:a.length<=400) (hs:∀ x,x∈a->vC x) (hk:∀ x,x∈a->x.Kids.length<=400/\∀ k,k∈x.Kids->0<=k/\k < a.length) (c:Bool) (hc:Option.bind (Js N a) (fun r=>(vK N r).bind fun q=>some<|decide<|q<=40)=some c):∀ (n i:Nat),a.length - i < n->i<=a.length->
  ∃ b:Bool,xW N n (a,(i:Int))=some b/\Eo N n (a,(i:Int))=some (b&&c)/\(b=true->∀ x,x∈a.drop i->FK x/\fM x.Kind):=by
 intro n;induction n with
 | zero=>intro i h;omega
 | succ n ih=>
  intro i hn hi;rw [xW,Eo];by_cases h:i < a.length
  .have hx:=nO h;obtain ⟨hk1,hk2⟩:=hk _ hx;obtain ⟨b,b1,b2,b3⟩:=atH N a[i] ah (hs _ hx) hk1;simp only [iL h,aO,dn h,aB,b1,b2];cases b with
   | false=>exact ⟨false,rfl,rfl,fun h=>by cases h⟩
   | true=>
    simp only [nN,aI];obtain ⟨q,q1,q2,q3⟩:=ih (i+1) ah ah;obtain ⟨b',e1,e2⟩:=aul N a ah ha i h (b3 rfl).1 hk1 hk2 (xW N n) (Eo N n) c ⟨q,q1,q2⟩ N 0 ah ah;refine ⟨b',e1,e2,fun hb x hx=>?_⟩;rw [drop_cons h] at hx;rcases iO.1 hx with rfl|hx
    .exact b3 rfl
    .refine q3 ?_ x hx;subst hb;have:∀ (m j:Nat),a[i].Kids.length - j < m->j<=a[i].Kids.length->CJ N (xW N n) m (a,(i:Int),(j:Int))=some true->q=true:=by
      intro m;induction m with
      | zero=>intro j h;omega
      | succ m ihm=>
       intro j hm hj hh;rw [CJ,dn h,aB] at hh;by_cases hlt:j < a[i].Kids.length
       .simp only [iL hlt,aO,dn h,dn hlt,aB] at hh;obtain ⟨y1,_,hh⟩:=pK.1 hh;obtain ⟨y2,_,hh⟩:=pK.1 hh;cases y2 with
        | false=>cases hh
        | true=>
         simp only [nN,aI] at hh;rw [wrap64 ah ah,show ((j:Int)+1)=((j+1:Nat):Int) by omega] at hh;exact ihm (j+1) ah ah hh
       .simp only [jN hlt,aI] at hh;rw [wrap64 ah ah] at hh;have hh':xW N n (a,((i+1:Nat):Int))=some true:=hh;rw [q1] at hh';exact lF hh'
     exact this N 0 ah ah e1
  .simp only [jN h,aI];refine ⟨true,rfl,by rw [hc,Ae],fun _ x hx=>?_⟩;rw [drop_nil h] at hx;cases hx
def ato (N:Nat) (a:List aD) (hN:1048577+400 < N) (hs:∀ x,x∈a->vC x):∃ b:Bool,xI N a=some b/\Us N a=some b/\(b=true->uN a=true/\aum a):=by
 unfold xI Us;rw [aiN N a ah hs,aqE N a ah];simp only [aB];cases hsh:uN a with
 | false=>exact ⟨false,rfl,rfl,fun h=>by cases h⟩
 | true=>
  obtain ⟨h1,h2,r,_,_,_,hT,t,ht⟩:=IX hsh;have hd:=aji N a ah hs hsh ht;obtain ⟨_,hsz,_⟩:=ht.part;have hdi:vK N t=some (je t:Int):=ake t N ah ah;have hc:Option.bind (Js N a) (fun r=>(vK N r).bind fun q=>some<|decide<|q<=40)=some (decide<|(je t:Int)<=40):=by
   rw [abP N a ah ht h1 h2,aB,hdi,aB]
  obtain ⟨b,b1,b2,b3⟩:=aun N a hN h2 hs (ads hsh) _ hc N 0 ah ah;have b1':xW N N (a,0)=some b:=b1;have b2':Eo N N (a,0)=some (b&&decide ((je t:Int)<=40)):=b2;simp only [nN,aI,hd,aB,b1',b2'];by_cases hle:(je t:Int)<=40
  .have e1:decide ((je t:Int) > 40)=false:=bE;have e2:decide ((je t:Int)<=40)=true:=bE;simp only [e1,e2,aI,aB,BO];exact ⟨b,rfl,rfl,fun hb=>⟨trivial,fun x hx=>b3 hb x<|by simpa using hx⟩⟩
  .have e1:decide ((je t:Int) > 40)=true:=bE;have e2:decide ((je t:Int)<=40)=false:=bE;simp only [e1,e2,aO,aB,aej];exact ⟨false,rfl,rfl,fun h=>by cases h⟩
def TA.node {a:List aD} {t:av} {s i:Nat} (h:TA a t s i):∃ n,a[i]?=some n/\t.kind=n.Kind/\t.op=n.Op/\t.text=n.Text/\t.other=n.Other/\KA a t.kids n.Kids s i/\t.kids.length=n.Kids.length:=by
 obtain ⟨kd,op,x,y,ts⟩:=t;rw [TA] at h;obtain ⟨n,hn,rfl,rfl,rfl,rfl,hk⟩:=h;have h4:=hk.part.2.2.2;exact ⟨n,hn,rfl,rfl,rfl,rfl,hk,by rw [h4,Nw]⟩
def KA.get {a:List aD}:∀ {ts:List av} {ks:List Int} {s e:Nat},KA a ts ks s e->∀ (j:Nat) (t:av),ts[j]?=some t->∃ k s':Nat,ks[j]?=some (k:Int)/\TA a t s' k/\k < e
 | [],ks,s,e,h,j,t,hj=>by simp at hj
 | t0::ts,ks,s,e,h,j,t,hj=>by
  rw [KA] at h;obtain ⟨k,ks',rfl,h1,h2,ht,hk⟩:=h;cases j with
  | zero=>
   simp only [Kl,iD] at hj;subst hj;exact ⟨k,s,rfl,ht,h2⟩
  | succ j=>
   simp only [Nz] at hj ⊢;exact KA.get hk j t hj
def tx (x:aD):Prop:=x.Text.length<=1048576/\x.Other.length<=1048576
def Ta (t:av):Prop:=∀ x,x∈bX 0 t->tx x
def arp {a:List aD} (hs:∀ x,x∈a->vC x) {t:av} {s i:Nat} (h:TA a t s i):Ta t:=by
 have h3:=h.part.2.2;intro x hx;rw [<- aua t s,<- h3] at hx;obtain ⟨y,hy,rfl⟩:=rY.1 hx;have:y∈a:=by
  unfold part at hy;exact List.mem_of_mem_drop (aeg hy)
 have:=hs y this;unfold vC at this;exact ⟨this.1,this.2.1⟩
def PR (a:List aD) (b:Nat) (l:List aD):Prop:=∀ (i:Nat) (x:aD),l[i]?=some x->a[b+i]?=some x
def PR.left {a l1 l2:List aD} {b:Nat} (h:PR a b (l1++l2)):PR a b l1:=fun i x hx=>h i x (by rw [uR (dB.1 hx).1];exact hx)
def PR.right {a l1 l2:List aD} {b:Nat} (h:PR a b (l1++l2)):PR a (b+l1.length) l2:=fun i x hx=>by
 have:=h (l1.length+i) x (by rw [uS ah,auo];exact hx);rw [Kk];exact this
def akF (o:Int):Bh o=Nb o:=rfl
def akG (o:Int):∃ v,Nb o=some v/\v<=12:=by
 have h:∀ {c:Bool} {x y:Option Int},(∃ v,x=some v/\v<=12)->(∃ v,y=some v/\v<=12)->∃ v,(bif c then x else y)=some v/\v<=12:=fun {c x y} hx hy=>by
  cases c
  .exact hy
  .exact hx
 have h4:∀ b,∃ v,QH (o,b)=some v/\v<=12:=fun b=>h ⟨10,rfl,aJ⟩ (h ⟨12,rfl,aJ⟩ ⟨0,rfl,aJ⟩);have h3:∀ b,∃ v,Vt (o,b)=some v/\v<=12:=fun b=>h ⟨9,rfl,aJ⟩ (h (h4 _)<|h (h4 _)<|h4 _);have h2:∀ b,∃ v,GU (o,b)=some v/\v<=12:=fun b=>h ⟨7,rfl,aJ⟩ (h ⟨8,rfl,aJ⟩<|h (h3 _)<|h3 _);have h1:∀ b,∃ v,Vu (o,b)=some v/\v<=12:=fun b=>h ⟨6,rfl,aJ⟩ (h (h2 _)<|h (h2 _)<|h (h2 _)<|h (h2 _)<|h (h2 _)<|h2 _);exact h ⟨3,rfl,aJ⟩ (h ⟨4,rfl,aJ⟩<|h (h1 _)<|h1 _)
def bA (o:Int):Int:=(Nb o).getD 0
def ZU (o:Int):Nb o=some (bA o):=by
 obtain ⟨v,h,_⟩:=akG o;unfold bA;rw [h];rfl
def Ka (o:Int):bA o<=12:=by
 obtain ⟨v,h,h2⟩:=akG o;unfold bA;rw [h];exact h2
def lv (k o:Int):Int:=
 bif k==15 then 1 else bif k==14 then 2 else bif k==13 then 5 else bif k==12 then bA o else bif k==11 then 11 else bif k==9||k==10 then 13 else bif k==6 then 14 else
 bif k==1||(k==2||(k==3||(k==4||(k==5||(k==7||k==8))))) then 15 else 0
def aup (n:aD):aiA n=some (lv n.Kind n.Op):=by
 have h2:∀ b:Bool,JX b=some (bif b then 15 else 0):=fun b=>by cases b<;>rfl
 unfold aiA lv;rw [ZU];cases n.Kind==15
 .cases n.Kind==14
  .cases n.Kind==13
   .cases n.Kind==12
    .cases n.Kind==11
     .simp only [aI,acN];cases n.Kind==9
      .cases n.Kind==10
       .cases n.Kind==6
        .cases n.Kind==1
         .cases n.Kind==2
          .cases n.Kind==3
           .cases n.Kind==4
            .cases n.Kind==5
             .cases n.Kind==7
              .cases n.Kind==8<;>rfl
              .rfl
             .rfl
            .rfl
           .rfl
          .rfl
         .rfl
        .rfl
       .rfl
      .rfl
     .rfl
    .rfl
   .rfl
  .rfl
 .rfl
def adA (n:aD):Mh n=some (lv n.Kind n.Op):=aup n
def posB (p:aL):Bool:=(decide (p.Level>=1)&&decide (p.Level<=15))&&(!p.Ct||p.Level==14)
def Ti (p:aL):Jv p=some (posB p):=by
 unfold Jv posB;rw [JZ,aB];cases (decide (p.Level>=1)&&decide (p.Level<=15))<;>cases p.Ct<;>rfl
def mh (k o:Int) (p:aL):Bool:=
 !(!posB p||lv k o==0)&&(!(p.aY&&k==13)&&(!(p.bg&&(k==12&&o==62))&&(!(p.jS&&(k==11||(k==9||k==4)))&&((p.Ct&&k==9)||decide (lv k o>=p.Level)))))
def Zp (c d:Bool):(bif c then some true else some d)=some (c||d):=by cases c<;>rfl
def adz (c d:Bool):(bif c then some d else some false)=some (c&&d):=by cases c<;>rfl
def auq (c d:Bool):(bif c then some false else some d)=some (!c&&d):=by cases c<;>rfl
def aur (c a d:Bool):(bif c then some (a||d) else some d)=some ((c&&a)||d):=by cases c<;>rfl
def ark (n:aD) (p:aL):Uv n p=some (mh n.Kind n.Op p):=by
 unfold Uv mh;rw [Ti,adA];simp only [aB,Zp,adz,auq,aur]
def jO (o:Int):Int×Int:=
 bif bA o==3 then (3,4) else bif bA o==4 then (4,5) else bif bA o==6 then (7,7) else bif bA o==7 then (8,8) else bif bA o==8 then (8,9) else bif bA o==9 then (9,10) else bif bA o==10 then (10,11) else (13,11)
def aus (o:Int) (k:Nat):Uw o (k:Int)=some (bif decide (k > 0) then (jO o).2 else (jO o).1):=by
 unfold Uw jO;rw [akF,ZU,aB];have hk:((k:Int)==0)=!decide (k > 0):=by
  by_cases h:k=0
  .subst h;rfl
  .have h1:((k:Int)==0)=false:=bE;have h2:decide (k > 0)=true:=bE;rw [h1,h2];rfl
 cases bA o==3<;>cases bA o==4<;>cases bA o==6<;>cases bA o==7<;>cases bA o==8<;>cases bA o==9<;>cases bA o==10<;>simp only [aO,aI,Cy,hk]<;>cases decide (k > 0)<;>rfl
def fU (kd o:Int) (n:Nat) (k:Nat) (p:aL):aL:=
 bif kd==15 then (bif decide (k > 0) then ⟨1,false,p.aY,p.bg,false⟩ else ⟨14,false,p.aY,p.bg,p.jS⟩)
 else bif kd==14 then (bif decide (k > 0) then ⟨2,false,p.aY,p.bg,false⟩ else ⟨3,false,p.aY,p.bg,p.jS⟩)
 else bif kd==13 then (bif decide (n > 1) then ⟨1,false,false,false,false⟩ else ⟨5,false,p.aY,p.bg,p.jS⟩)
 else bif kd==12 then (bif decide (k > 0) then ⟨(jO o).2,false,p.aY,p.bg,o==99⟩ else ⟨(jO o).1,false,p.aY,p.bg,p.jS⟩)
 else bif kd==11 then ⟨11,false,p.aY,p.bg,false⟩
 else bif kd==9||kd==10 then ⟨14,false,p.aY,p.bg,false⟩
 else bif kd==6 then ⟨14,true,p.aY,p.bg,false⟩ else ⟨1,false,false,false,false⟩
def ari (n:aD) (k:Nat) (p:aL) (hk:k < n.Kids.length) (hl:n.Kids.length<=1000000) (hp:posB p=true) (he:iC n.Kind=true) (hlv:lv n.Kind n.Op≠0) (h12:n.Kind=12->n.Kids.length=2):Qi n (k:Int) p=some (fU n.Kind n.Op n.Kids.length k p):=by
 have h0:(lv n.Kind n.Op==0)=false:=by simpa using hlv
 have h1:(decide ((k:Int)>=0)&&decide ((k:Int)<=(n.Kids.length:Int) - 1))=true:=bE;have hg:decide ((k:Int) > 0)=decide (k > 0):=by by_cases h:k > 0<;>simp [h]
 have hz:((k:Int)==0)=!decide (k > 0):=by
  by_cases h:k=0
  .subst h;rfl
  .have h1:((k:Int)==0)=false:=bE;have h2:decide (k > 0)=true:=bE;rw [h1,h2];rfl
 have hn:decide ((n.Kids.length:Int) > 1)=decide (n.Kids.length > 1):=by by_cases h:n.Kids.length > 1<;>simp [h]<;>omega
 have ho:(bA n.Op==15)=false:=by have:=Ka n.Op;simp;omega
 unfold Qi fU;rw [wrap64 ah ah,JZ,Ti,adA,hp,h1];simp only [aB,nN,aI,h0,adz,Zp,hn];unfold YG;simp only [aus,aB,hg,Mi,Ux,hz];have hc:n.Kind=1\/n.Kind=2\/n.Kind=3\/n.Kind=4\/n.Kind=5\/n.Kind=6\/n.Kind=7\/n.Kind=8\/n.Kind=9\/n.Kind=10\/n.Kind=11\/n.Kind=12\/n.Kind=13\/n.Kind=14\/n.Kind=15:=by
  unfold iC at he;simp only [dP,mP] at he;omega
 rcases hc with e|e|e|e|e|e|e|e|e|e|e|e|e|e|e<;>simp only [e]
 case inr.inr.inr.inr.inr.inr.inr.inr.inr.inr.inr.inl=>
  have hk2:k < 2:=by have:=h12 e;omega
  have hk1:((k:Int)==1)=decide (k > 0):=by
   by_cases h:k=0
   .subst h;rfl
   .have h':k=1:=ah;subst h';rfl
  have aut:lv 12 n.Op=bA n.Op:=rfl;simp only [aut,ho,hk1];cases decide (k > 0)<;>cases p.jS<;>rfl
 case inr.inr.inr.inr.inr.inr.inr.inr.inr.inr.inr.inr.inl=>
  have hk0:decide (n.Kids.length > 1)=false->k=0:=fun h=>by simp at h;omega
  cases hq:decide (n.Kids.length > 1)
  .have e:=hk0 hq;subst e;cases p.jS<;>rfl
  .rfl
 case inr.inr.inr.inr.inr.inr.inr.inr.inr.inr.inr.inr.inr.inl=>
  by_cases h:k=0
  .subst h;cases p.jS<;>rfl
  .have h2:decide (k > 0)=true:=bE;rw [h2];cases (k:Int)==1<;>rfl
 case inr.inr.inr.inr.inr.inr.inr.inr.inr.inr.inr.inr.inr.inr=>
  by_cases h:k=0
  .subst h;cases p.jS<;>rfl
  .have h2:decide (k > 0)=true:=bE;rw [h2];cases (k:Int)==1<;>rfl
 all_goals rfl
def auu (N:Nat) (a:List aD) (kb:(List aD×Int)->Option Bool) (i:Nat) (hi:i < a.length) (hi2:i<=100000) (hkl:a[i].Kids.length<=100000):∀ (m j:Nat),a[i].Kids.length - j < m->j<=a[i].Kids.length->CJ N kb m (a,(i:Int),(j:Int))=some true->
  kb (a,((i+1:Nat):Int))=some true/\∀ (q:Nat) (hq:q < a[i].Kids.length),j<=q->∃ y,ix a a[i].Kids[q]=some y/\nL a[i] (q:Int) y.Kind=some true:=by
 intro m;induction m with
 | zero=>intro j h;omega
 | succ m ihm=>
  intro j hm hj hh;rw [CJ,dn hi,aB] at hh;by_cases hlt:j < a[i].Kids.length
  .simp only [iL hlt,aO,dn hi,dn hlt,aB] at hh;obtain ⟨y1,h1,hh⟩:=pK.1 hh;obtain ⟨y2,h2,hh⟩:=pK.1 hh;cases y2 with
   | false=>cases hh
   | true=>
    simp only [nN,aI] at hh;rw [wrap64 ah ah,show ((j:Int)+1)=((j+1:Nat):Int) by omega] at hh;obtain ⟨r1,r2⟩:=ihm (j+1) ah ah hh;refine ⟨r1,fun q hq hjq=>?_⟩;by_cases hqj:q=j
    .subst hqj;exact ⟨y1,h1,h2⟩
    .exact r2 q hq ah
  .simp only [jN hlt,aI] at hh;rw [wrap64 ah ah] at hh;exact ⟨hh,fun q hq hjq=>ah⟩
def akH (N:Nat) (a:List aD) (x:aD):Prop:=za N x=some true/\∀ (q:Nat) (hq:q < x.Kids.length),∃ y,ix a x.Kids[q]=some y/\nL x (q:Int) y.Kind=some true
def auv (N:Nat) (a:List aD) (ha:a.length<=400) (hk:∀ x,x∈a->x.Kids.length<=400) (hN:500 < N):∀ (n i:Nat),a.length - i < n->i<=a.length->xW N n (a,(i:Int))=some true->∀ x,x∈a.drop i->akH N a x:=by
 intro n;induction n with
 | zero=>intro i h;omega
 | succ n ih=>
  intro i hn hi h x hx;rw [xW] at h;by_cases hlt:i < a.length
  .simp only [iL hlt,aO,dn hlt,aB] at h;obtain ⟨b,hb,h⟩:=pK.1 h;cases b with
   | false=>cases h
   | true=>
    simp only [nN,aI] at h;have hkl:=hk _ (nO hlt);obtain ⟨h1,h2⟩:=auu N a (xW N n) i hlt ah ah N 0 ah ah h;rw [drop_cons hlt] at hx;rcases iO.1 hx with rfl|hx
    .exact ⟨hb,fun q hq=>h2 q hq ah⟩
    .exact ih (i+1) ah ah h1 x hx
  .rw [drop_nil hlt] at hx;cases hx
def aiZ (N:Nat) (a:List aD) (hN:500 < N) (hsh:uN a=true) (h:xI N a=some true):∀ x,x∈a->akH N a x:=by
 unfold xI at h;obtain ⟨y,_,h⟩:=pK.1 h;cases y with
 | true=>cases h
 | false=>
  rw [aI] at h;intro x hx;have h2:=(IX hsh).2.1;exact auv N a h2 (fun z hz=>(ads hsh z hz).1) hN N 0 ah ah h x (by rw [EL];exact hx)
def adv (N:Nat) (n:aD) (h:za N n=some true):∃ lo hi,Er n=some (lo,hi)/\CB n=some true/\lo<=(n.Kids.length:Int)/\(n.Kids.length:Int)<=hi:=by
 unfold za at h;obtain ⟨⟨lo,hi⟩,h1,h⟩:=bind_some h;obtain ⟨y6,h2,h⟩:=bind_some h;obtain ⟨y13,h3,h⟩:=bind_some h;cases h;rcases Nk h3 with ⟨_,h3⟩|⟨_,h3⟩
 .obtain ⟨bM,ho,h3⟩:=bind_some h3;rcases Nk h3 with ⟨hc,h3⟩|⟨_,h3⟩
  .subst hc;obtain ⟨eU,_,h3⟩:=bind_some h3;rcases Nk h3 with ⟨_,h3⟩|⟨_,h3⟩
   .obtain ⟨r16,hl,h3⟩:=bind_some h3;cases h3;rw [EK] at hl;have hl:=lF hl;simp only [dP,mP] at hl;exact ⟨lo,hi,h1,ho,ah,ah⟩
   .cases h3
  .cases h3
 .cases h3
def Ar (n:aD):Prop:=
 (n.Kind=1\/n.Kind=2\/n.Kind=3\/n.Kind=4->n.Kids.length=0)/\(n.Kind=5\/n.Kind=13->1<=n.Kids.length)/\(n.Kind=6\/n.Kind=9\/n.Kind=10\/n.Kind=11->n.Kids.length=1)/\
 (n.Kind=12\/n.Kind=15->n.Kids.length=2)/\(n.Kind=14->n.Kids.length=3)
def auw (o:Int) (h:Et o=some true):bA o≠0:=by
 have hk:∀ b,rP b=some b:=fun b=>by cases b<;>rfl
 unfold Et at h;simp only [hk] at h;have hc:o=60\/o=57\/o=58\/o=59\/o=55\/o=56\/o=99\/o=63\/o=48\/o=47\/o=50\/o=62\/o=49\/o=67\/o=46\/o=45\/o=44:=by
  have key:∀ (c:Int) (x:Option Bool),(bif (o==c) then some (o==c) else x)=some true->o=c\/x=some true:=fun c x h=>by
   cases hoc:o==c with
   | true=>exact .inl (by simpa using hoc)
   | false=>rw [hoc] at h;exact .inr h
  rcases key _ _ h with e|h;· exact .inl e
  rcases key _ _ h with e|h;· simp [e]
  rcases key _ _ h with e|h;· simp [e]
  rcases key _ _ h with e|h;· simp [e]
  rcases key _ _ h with e|h;· simp [e]
  rcases key _ _ h with e|h;· simp [e]
  rcases key _ _ h with e|h;· simp [e]
  rcases key _ _ h with e|h;· simp [e]
  rcases key _ _ h with e|h;· simp [e]
  rcases key _ _ h with e|h;· simp [e]
  rcases key _ _ h with e|h;· simp [e]
  rcases key _ _ h with e|h;· simp [e]
  rcases key _ _ h with e|h;· simp [e]
  rcases key _ _ h with e|h;· simp [e]
  rcases key _ _ h with e|h;· simp [e]
  rcases key _ _ h with e|h;· simp [e]
  have:=lF h;have e:o=44:=by simpa using this
  simp [e]
 rcases hc with e|e|e|e|e|e|e|e|e|e|e|e|e|e|e|e|e<;>subst e<;>decide
def aqV (N:Nat) (n:aD) (h:za N n=some true) (he:iC n.Kind=true):Ar n/\lv n.Kind n.Op≠0:=by
 obtain ⟨lo,hi,h1,h2,h3,h4⟩:=adv N n h;have hc:n.Kind=1\/n.Kind=2\/n.Kind=3\/n.Kind=4\/n.Kind=5\/n.Kind=6\/n.Kind=7\/n.Kind=8\/n.Kind=9\/n.Kind=10\/n.Kind=11\/n.Kind=12\/n.Kind=13\/n.Kind=14\/n.Kind=15:=by
  unfold iC at he;simp only [dP,mP] at he;omega
 have many:∀ (a b:Int),Er n=some (a,b)->a<=(n.Kids.length:Int)/\(n.Kids.length:Int)<=b:=fun a b hm=>by
  rw [hm] at h1;cases h1;exact ⟨h3,h4⟩
 have val:∀ (c:Int) (r:Int×Int),n.Kind=c->(∀ m:aD,m.Kind=c->Er m=some r)->r.1<=(n.Kids.length:Int)/\(n.Kids.length:Int)<=r.2:=fun c r e hm=>many _ _ (hm n e);have step:∀ (c:Int),n.Kind=c->Er n=Er ⟨c,n.Op,n.Text,n.Other,n.Kids⟩:=fun c e=>by
  obtain ⟨k,o,x,y,ks⟩:=n;subst e;rfl
 have opS:n.Kind=12->CB n=Option.bind (Et n.Op) (fun uG=>some uG):=fun e=>by
  obtain ⟨k,o,x,y,ks⟩:=n;subst e;rfl
 unfold Ar;rcases hc with e|e|e|e|e|e|e|e|e|e|e|e|e|e|e;all_goals
  have hm:=step _ e;simp only [e]
 case inl=>
  have hq:=many 0 0 (hm.trans rfl);refine ⟨⟨fun h=>ah,fun h=>ah,fun h=>ah,fun h=>ah,fun h=>ah⟩,?_⟩;intro h;have h:(15:Int)=0:=h;omega
 case inr.inl=>
  have hq:=many 0 0 (hm.trans rfl);refine ⟨⟨fun h=>ah,fun h=>ah,fun h=>ah,fun h=>ah,fun h=>ah⟩,?_⟩;intro h;have h:(15:Int)=0:=h;omega
 case inr.inr.inl=>
  have hq:=many 0 0 (hm.trans rfl);refine ⟨⟨fun h=>ah,fun h=>ah,fun h=>ah,fun h=>ah,fun h=>ah⟩,?_⟩;intro h;have h:(15:Int)=0:=h;omega
 case inr.inr.inr.inl=>
  have hq:=many 0 0 (hm.trans rfl);refine ⟨⟨fun h=>ah,fun h=>ah,fun h=>ah,fun h=>ah,fun h=>ah⟩,?_⟩;intro h;have h:(15:Int)=0:=h;omega
 case inr.inr.inr.inr.inl=>
  have hq:=many 1 6 (hm.trans rfl);refine ⟨⟨fun h=>ah,fun h=>ah,fun h=>ah,fun h=>ah,fun h=>ah⟩,?_⟩;intro h;have h:(15:Int)=0:=h;omega
 case inr.inr.inr.inr.inr.inl=>
  have hq:=many 1 1 (hm.trans rfl);refine ⟨⟨fun h=>ah,fun h=>ah,fun h=>ah,fun h=>ah,fun h=>ah⟩,?_⟩;intro h;have h:(14:Int)=0:=h;omega
 case inr.inr.inr.inr.inr.inr.inl=>
  have hq:=many 0 6 (hm.trans rfl);refine ⟨⟨fun h=>ah,fun h=>ah,fun h=>ah,fun h=>ah,fun h=>ah⟩,?_⟩;intro h;have h:(15:Int)=0:=h;omega
 case inr.inr.inr.inr.inr.inr.inr.inl=>
  have hq:=many 0 6 (hm.trans rfl);refine ⟨⟨fun h=>ah,fun h=>ah,fun h=>ah,fun h=>ah,fun h=>ah⟩,?_⟩;intro h;have h:(15:Int)=0:=h;omega
 case inr.inr.inr.inr.inr.inr.inr.inr.inl=>
  have hq:=many 1 1 (hm.trans rfl);refine ⟨⟨fun h=>ah,fun h=>ah,fun h=>ah,fun h=>ah,fun h=>ah⟩,?_⟩;intro h;have h:(13:Int)=0:=h;omega
 case inr.inr.inr.inr.inr.inr.inr.inr.inr.inl=>
  have hq:=many 1 1 (hm.trans rfl);refine ⟨⟨fun h=>ah,fun h=>ah,fun h=>ah,fun h=>ah,fun h=>ah⟩,?_⟩;intro h;have h:(13:Int)=0:=h;omega
 case inr.inr.inr.inr.inr.inr.inr.inr.inr.inr.inl=>
  have hq:=many 1 1 (hm.trans rfl);refine ⟨⟨fun h=>ah,fun h=>ah,fun h=>ah,fun h=>ah,fun h=>ah⟩,?_⟩;intro h;have h:(11:Int)=0:=h;omega
 case inr.inr.inr.inr.inr.inr.inr.inr.inr.inr.inr.inl=>
  have hq:=many 2 2 (hm.trans rfl);refine ⟨⟨fun h=>ah,fun h=>ah,fun h=>ah,fun h=>ah,fun h=>ah⟩,?_⟩;have h5:=opS e;rw [h2] at h5;have h6:Et n.Op=some true:=by
   cases hb:Et n.Op with
   | none=>rw [hb] at h5;cases h5
   | some v=>rw [hb] at h5;cases h5;rfl
  exact auw n.Op h6
 case inr.inr.inr.inr.inr.inr.inr.inr.inr.inr.inr.inr.inl=>
  have hq:=many 1 6 (hm.trans rfl);refine ⟨⟨fun h=>ah,fun h=>ah,fun h=>ah,fun h=>ah,fun h=>ah⟩,?_⟩;intro h;have h:(5:Int)=0:=h;omega
 case inr.inr.inr.inr.inr.inr.inr.inr.inr.inr.inr.inr.inr.inl=>
  have hq:=many 3 3 (hm.trans rfl);refine ⟨⟨fun h=>ah,fun h=>ah,fun h=>ah,fun h=>ah,fun h=>ah⟩,?_⟩;intro h;have h:(2:Int)=0:=h;omega
 case inr.inr.inr.inr.inr.inr.inr.inr.inr.inr.inr.inr.inr.inr=>
  have hq:=many 2 2 (hm.trans rfl);refine ⟨⟨fun h=>ah,fun h=>ah,fun h=>ah,fun h=>ah,fun h=>ah⟩,?_⟩;intro h;have h:(1:Int)=0:=h;omega
def aqX (x:aD) (q:Nat) (kd:Int) (h:nL x (q:Int) kd=some true) (he:iC x.Kind=true):iC kd=true/\((x.Kind=9\/x.Kind=10\/(x.Kind=15/\q=0))->gQ kd=true):=by
 have hc:x.Kind=1\/x.Kind=2\/x.Kind=3\/x.Kind=4\/x.Kind=5\/x.Kind=6\/x.Kind=7\/x.Kind=8\/x.Kind=9\/x.Kind=10\/x.Kind=11\/x.Kind=12\/x.Kind=13\/x.Kind=14\/x.Kind=15:=by
  unfold iC at he;simp only [dP,mP] at he;omega
 have other:nL x (q:Int) kd=Option.bind (oF kd) (fun r=>some r)->iC kd=true:=fun e=>by
  rw [e,Dj] at h;exact lF h
 have target:nL x (q:Int) kd=Option.bind (JI kd) (fun r=>some r)->gQ kd=true:=fun e=>by
  rw [e,Wq] at h;exact lF h
 obtain ⟨k,o,s,t,ks⟩:=x;rcases hc with e|e|e|e|e|e|e|e|e|e|e|e|e|e|e<;>(have e:k=_:=e;subst e)
 case inr.inr.inr.inr.inr.inr.inr.inr.inl=>
  have:=target rfl;exact ⟨ael this,fun _=>this⟩
 case inr.inr.inr.inr.inr.inr.inr.inr.inr.inl=>
  have:=target rfl;exact ⟨ael this,fun _=>this⟩
 case inr.inr.inr.inr.inr.inr.inr.inr.inr.inr.inr.inr.inr.inr=>
  have e:nL ⟨15,o,s,t,ks⟩ (q:Int) kd=((oF kd).bind fun ig=>bif ig then bif (decide<|(q:Int) > 0) then some true else ((JI kd).bind fun iq=>some iq) else (some false)).bind fun JK=>some JK:=rfl;rw [e,Dj,Wq] at h;simp only [aB] at h;cases hk:iC kd with
  | false=>rw [hk] at h;cases h
  | true=>
   rw [hk] at h;refine ⟨rfl,fun hh=>?_⟩;have hq:q=0:=by
    rcases hh with h'|h'|h'
    .have h':(15:Int)=9:=h';omega
    .have h':(15:Int)=10:=h';omega
    .exact h'.2
   subst hq;cases hl:gQ kd with
   | true=>rfl
   | false=>rw [hl] at h;cases h
 all_goals
  refine ⟨other rfl,fun hh=>?_⟩;exfalso;simp at hh
def aqY (N:Nat) (n:aD) (h:za N n=some true) (hk:n.Kind=15):n.Op≠99:=by
 obtain ⟨_,_,_,h2,_,_⟩:=adv N n h;have e:CB n=Option.bind (Bo n.Op) (fun iI=>some iI):=by
  obtain ⟨k,o,x,y,ks⟩:=n;have hk:k=15:=hk;subst hk;rfl
 intro pG;rw [e,pG] at h2;unfold Bo at h2;rw [EK] at h2;have h2:=lF h2;revert h2;decide
mutual
def allT (P:av->Prop):av->Prop
 | ⟨k,o,x,y,ks⟩=>P ⟨k,o,x,y,ks⟩/\zu P ks
def zu (P:av->Prop):List av->Prop
 | []=>True
 | t::ts=>allT P t/\zu P ts
end
mutual
def abQ {P Q:av->Prop} (h:∀ t,P t->Q t):∀ t:av,allT P t->allT Q t
 | ⟨k,o,x,y,ks⟩,ht=>by
  rw [allT] at ht ⊢;exact ⟨h _ ht.1,akI h ks ht.2⟩
def akI {P Q:av->Prop} (h:∀ t,P t->Q t):∀ ts:List av,zu P ts->zu Q ts
 | [],_=>by rw [zu];trivial
 | t::ts,ht=>by
  rw [zu] at ht ⊢;exact ⟨abQ h t ht.1,akI h ts ht.2⟩
end
def Db (n:Nat):List Int:=(List.range n).map fun (i:Nat)=>(i:Int)
def Kc (t:av):aD:=⟨t.kind,t.op,t.text,t.other,Db t.kids.length⟩
def VN (n:Nat):(Db n).length=n:=by simp [Db]
def auy (n:Nat):Db (n+1)=Db n++[(n:Int)]:=by simp [Db,Wu]
def auz (N:Nat) (t:av) (hl:t.kids.length<=100000):∀ (n i:Nat),t.kids.length - i < n->i<=t.kids.length->Mg N n (t,(i:Int),Db i)=some (Kc t):=by
 intro n;induction n with
 | zero=>intro i h;omega
 | succ n ih=>
  intro i hn hi;rw [Mg];by_cases h:i < t.kids.length
  .simp only [iL h,aO];rw [pz (by rw [VN];simp;omega),aB,wrap64 ah ah,<- auy];exact ih (i+1) ah ah
  .simp only [jN h,aI];have:i=t.kids.length:=ah;subst this;rfl
def aje (N:Nat) (t:av) (hl:t.kids.length<=100000) (hN:t.kids.length < N):Uu N t=some (Kc t):=
 auz N t hl N 0 ah ah
def vT (l:List aC) (b:Bool) (toks:List aC) (sp:List bP) (h:toks.length+l.length<=1000000):jM l b toks sp=some (toks++l):=by
 unfold jM;rw [pz ah,aB]
def aes (p q:aL):Prop:=p.Level=14/\q.Level=14/\p.Ct=q.Ct/\p.jS=q.jS
def aeu (p q:aL):Prop:=p=q\/aes p q
def ZV (k:Int) (p q:aL):Prop:=p=q\/k<=9
def kinds {k:Int} (he:iC k=true):k=1\/k=2\/k=3\/k=4\/k=5\/k=6\/k=7\/k=8\/k=9\/k=10\/k=11\/k=12\/k=13\/k=14\/k=15:=by
 unfold iC at he;simp only [dP,mP] at he;omega
def akJ {k o:Int} {p q:aL} (he:iC k=true) (h:aes p q):mh k o p=mh k o q/\(mh k o p=true->k<=9):=by
 obtain ⟨h1,h2,h3,h4⟩:=h;have hp:posB p=posB q:=by unfold posB;rw [h1,h2,h3]
 have ho:=Ka o;have low:lv k o < 14->(k==9)=false->∀ r:aL,r.Level=14->mh k o r=false:=fun hl h9 r hr=>by
  unfold mh;rw [h9,hr];have:decide (lv k o>=14)=false:=bE;rw [this];simp
 rcases kinds he with e|e|e|e|e|e|e|e|e|e|e|e|e|e|e<;>subst e
 case inr.inr.inr.inr.inr.inr.inr.inr.inr.inl=>
  have l:lv 10 o < 14:=by show (13:Int) < 14;decide
  rw [low l rfl p h1,low l rfl q h2];exact ⟨rfl,fun h=>by cases h⟩
 case inr.inr.inr.inr.inr.inr.inr.inr.inr.inr.inl=>
  have l:lv 11 o < 14:=by show (11:Int) < 14;decide
  rw [low l rfl p h1,low l rfl q h2];exact ⟨rfl,fun h=>by cases h⟩
 case inr.inr.inr.inr.inr.inr.inr.inr.inr.inr.inr.inl=>
  have l:lv 12 o < 14:=by show bA o < 14;omega
  rw [low l rfl p h1,low l rfl q h2];exact ⟨rfl,fun h=>by cases h⟩
 case inr.inr.inr.inr.inr.inr.inr.inr.inr.inr.inr.inr.inl=>
  have l:lv 13 o < 14:=by show (5:Int) < 14;decide
  rw [low l rfl p h1,low l rfl q h2];exact ⟨rfl,fun h=>by cases h⟩
 case inr.inr.inr.inr.inr.inr.inr.inr.inr.inr.inr.inr.inr.inl=>
  have l:lv 14 o < 14:=by show (2:Int) < 14;decide
  rw [low l rfl p h1,low l rfl q h2];exact ⟨rfl,fun h=>by cases h⟩
 case inr.inr.inr.inr.inr.inr.inr.inr.inr.inr.inr.inr.inr.inr=>
  have l:lv 15 o < 14:=by show (1:Int) < 14;decide
  rw [low l rfl p h1,low l rfl q h2];exact ⟨rfl,fun h=>by cases h⟩
 all_goals
  refine ⟨?_,fun _=>aJ⟩;unfold mh;rw [hp,h1,h2,h3,h4];simp
def auA {k o:Int} {p q:aL} (he:iC k=true) (h:aeu p q):mh k o p=mh k o q/\(mh k o p=true->ZV k p q):=by
 rcases h with rfl|h
 .exact ⟨rfl,fun _=>.inl rfl⟩
 .obtain ⟨h1,h2⟩:=akJ (o:=o) he h;exact ⟨h1,fun hf=>.inr<|h2 hf⟩
def auB {k o:Int} {n j:Nat} {p q:aL} (he:iC k=true) (h:ZV k p q):aeu (fU k o n j p) (fU k o n j q):=by
 rcases h with rfl|h9
 .exact .inl rfl
 .rcases kinds he with e|e|e|e|e|e|e|e|e|e|e|e|e|e|e<;>subst e<;>first
   | exact .inl rfl
   | exact .inr ⟨rfl,rfl,rfl,rfl⟩
   | (exfalso;omega)
def VG {k o:Int} {n j:Nat} {p:aL} (he:iC k=true):posB (fU k o n j p)=true:=by
 have hs:∀ o,posB ⟨(jO o).1,false,p.aY,p.bg,p.jS⟩=true/\posB ⟨(jO o).2,false,p.aY,p.bg,o==99⟩=true:=fun o=>by
  unfold jO posB;cases bA o==3<;>cases bA o==4<;>cases bA o==6<;>cases bA o==7<;>cases bA o==8<;>cases bA o==9<;>cases bA o==10<;>exact ⟨rfl,rfl⟩
 rcases kinds he with e|e|e|e|e|e|e|e|e|e|e|e|e|e|e<;>subst e
 case inr.inr.inr.inr.inr.inr.inr.inr.inr.inr.inr.inl=>
  unfold fU;cases decide (j > 0)
  .exact (hs o).1
  .exact (hs o).2
 case inr.inr.inr.inr.inr.inr.inr.inr.inr.inr.inr.inr.inl=>
  unfold fU;cases decide (n > 1)<;>rfl
 all_goals (unfold fU;first|rfl|(cases decide (j > 0)<;>rfl))
def spl (k:Int):List UInt8:=(CG k).getD []
def ajb (k:Int):CG k=some (spl k):=by
 obtain ⟨x,h,_⟩:=aqr k;unfold spl;rw [h];rfl
def auC (k:Int):LZ k=some (spl k):=by
 obtain ⟨x,h1,h2,_⟩:=aiI k;unfold spl;rw [h1,h2];rfl
def sg (k:Int):aC:=⟨k,spl k,0⟩
def zx (k:Int):nJ k=some (sg k):=by unfold nJ;rw [auC];rfl
def bU:aL:=⟨1,false,false,false,false⟩
def tgt (k:Int) (j:Nat):Bool:=((j:Int)==0)&&((k==9)||((k==10)||(k==15)))
def vQ (f:Bool) (k o:Int) (p:aL):Bool:=bif f then (lv k o !=15||k==4) else !mh k o p
def qH (b:Bool) (x y:List aC):List aC:=bif b then sg 32::(y++[sg 33]) else x
def dS:Bool->List (List aC)->List aC
 | _,[]=>[]
 | b,x::xs=>(bif b then [sg 36] else [])++(x++dS true xs)
def jd (k o:Int) (x:List UInt8) (l:List (List aC)):List aC:=
 bif k==1 then [⟨6,x,0⟩] else bif k==2 then [⟨3,x,0⟩] else bif k==3 then [⟨4,x,0⟩] else bif k==4 then [⟨5,x,0⟩]
 else bif k==5 then ⟨6,x,0⟩::sg 34::(dS false l++[sg 35])
 else bif k==7 then ⟨7,x,0⟩::sg 32::(dS false l++[sg 33])
 else bif k==8 then ⟨8,x,0⟩::sg 32::(dS false l++[sg 33])
 else bif k==9 then sg o::l.getD 0 []
 else bif k==11 then sg o::l.getD 0 []
 else bif k==6 then sg 68::l.getD 0 []
 else bif k==10 then l.getD 0 []++[sg o]
 else bif k==13 then (bif decide (l.length > 1) then sg 32::(dS false l++[sg 33]) else l.getD 0 [])++[sg 24,⟨6,x,0⟩]
 else bif k==14 then l.getD 0 []++(sg 65::(l.getD 1 []++(sg 66::l.getD 2 [])))
 else l.getD 0 []++((bif o==99 then [] else [sg o])++l.getD 1 [])
mutual
def dI (f:Bool):av->aL->List aC
 | ⟨k,o,x,y,ks⟩,p=>jd k o x (bG f k o ks.length 0 p ks)
def bG (f:Bool) (k o:Int) (n j:Nat) (p:aL):List av->List (List aC)
 | []=>[]
 | t::ts=>(bif tgt k j then dI f t (fU k o n j p) else qH (vQ f t.kind t.op<|fU k o n j p) (dI f t<|fU k o n j p) (dI f t bU))::bG f k o n (j+1) p ts
end
def bT (f:Bool) (t:av) (p:aL):List aC:=qH (vQ f t.kind t.op p) (dI f t p) (dI f t bU)
def bS (f:Bool) (k o:Int) (n j:Nat) (p:aL) (t:av):List aC:=bif tgt k j then dI f t (fU k o n j p) else bT f t (fU k o n j p)
def iA (f:Bool) (k o:Int) (n j:Nat) (p:aL) (t:av) (ts:List av):bG f k o n j p (t::ts)=bS f k o n j p t::bG f k o n (j+1) p ts:=by rw [bG];rfl
def VH (f:Bool) (k o:Int) (n:Nat) (p:aL):∀ (ts:List av) (j:Nat),(bG f k o n j p ts).length=ts.length
 | [],j=>by rw [bG];rfl
 | t::ts,j=>by rw [iA,jG,VH f k o n p ts,jG]
def iM (f:Bool) (t:av) (p:aL):dI f t p=jd t.kind t.op t.text (bG f t.kind t.op t.kids.length 0 p t.kids):=by
 obtain ⟨k,o,x,y,ks⟩:=t;rw [dI]
def Zi {α:Type} {l:List α} (h:l.length=2):∃ a b,l=[a,b]:=by
 match l,h with
 | [a,b],_=>exact ⟨a,b,rfl⟩
def aiT {α:Type} {l:List α} (h:l.length=3):∃ a b c,l=[a,b,c]:=by
 match l,h with
 | [a,b,c],_=>exact ⟨a,b,c,rfl⟩
structure GN (t:av):Prop where
 e:iC t.kind=true
 lv:lv t.kind t.op≠0
 a0:t.kind=1\/t.kind=2\/t.kind=3\/t.kind=4->t.kids.length=0
 a1:t.kind=6\/t.kind=9\/t.kind=10\/t.kind=11->t.kids.length=1
 a2:t.kind=12\/t.kind=15->t.kids.length=2
 a3:t.kind=14->t.kids.length=3
 ai:t.kind=5\/t.kind=13->1<=t.kids.length
 le:t.kids.length<=400
 ke:∀ k,k∈t.kids->iC k.kind=true
 kl:∀ k,t.kids[0]?=some k->t.kind=9\/t.kind=10\/t.kind=15->gQ k.kind=true
 op:t.kind=15->t.op≠99
def sM {P:av->Prop} {t:av} (h:allT P t):P t:=by
 obtain ⟨k,o,x,y,ks⟩:=t;rw [allT] at h;exact h.1
def BF {P:av->Prop} {t:av} (h:allT P t):∀ k,k∈t.kids->allT P k:=by
 have key:∀ ts:List av,zu P ts->∀ k,k∈ts->allT P k:=by
  intro ts;induction ts with
  | nil=>intro _ k hk;cases hk
  | cons u ts ih=>
   intro h k hk;rw [zu] at h;rcases iO.1 hk with rfl|hk
   .exact h.1
   .exact ih h.2 k hk
 obtain ⟨k,o,x,y,ks⟩:=t;rw [allT] at h;exact key ks h.2
def aiQ {k:Int} (h:gQ k=true):k<=9:=by
 unfold gQ at h;simp only [mX,qj] at h;omega
def aiP (f:Bool):∀ t:av,allT GN t->(∀ p q,ZV t.kind p q->dI f t p=dI f t q)/\(∀ p q,aeu p q->bT f t p=bT f t q):=by
 intro t;induction t using Ag with
 | h t ih=>
  intro h;have g:=sM h;have hk:=BF h;have hB:∀ p q,ZV t.kind p q->dI f t p=dI f t q:=fun p q hr=>by
   have key:∀ (ts:List av) (j:Nat),(∀ k,k∈ts->k∈t.kids)->(j=0->∀ k,ts[0]?=some k->t.kids[0]?=some k)->bG f t.kind t.op t.kids.length j p ts=bG f t.kind t.op t.kids.length j q ts:=by
    intro ts;induction ts with
    | nil=>intro j _ _;rw [bG,bG]
    | cons u ts ih2=>
     intro j hm h0;have hu:=hm u aA;have hrel:=auB (o:=t.op) (n:=t.kids.length) (j:=j) g.e hr;rw [iA,iA,ih2 (j+1) (fun k hk=>hm k<|by simp [hk]) fun e=>ah];congr 1;unfold bS;cases ht:tgt t.kind j with
     | true=>
      have hj:j=0:=by
       unfold tgt at ht;simp only [dP,qj] at ht;omega
      have Ru:u.kind<=9:=aiQ (g.kl u (h0 hj u rfl) (by
       unfold tgt at ht;simp only [dP,mX,qj] at ht;exact ht.2))
      exact (ih u hu<|hk u hu).1 _ _ (.inr Ru)
     | false=>exact (ih u hu<|hk u hu).2 _ _ hrel
   rw [iM,iM,key t.kids 0 (fun k hk=>hk) fun _ k hk=>hk]
  refine ⟨hB,fun p q hr=>?_⟩;obtain ⟨h1,h2⟩:=auA (o:=t.op) g.e hr;unfold bT vQ;rw [h1];cases f with
  | false=>
   cases hf:mh t.kind t.op q with
   | true=>exact hB p q (h2<|by rw [h1];exact hf)
   | false=>rfl
  | true=>
   cases hx:(lv t.kind t.op !=15||t.kind==4) with
   | true=>rfl
   | false=>
    simp only [aO,qH,aI,hx];simp only [Nh,bne_eq_false_iff_eq] at hx;refine hB p q (.inr ?_);have hl:=hx.1;have ho:=Ka t.op;rcases kinds g.e with e|e|e|e|e|e|e|e|e|e|e|e|e|e|e<;>rw [e] at hl ⊢<;>first
     | decide
     | (exfalso;simp [lv] at hl;done)
     | (exfalso;simp [lv] at hl;omega)
def adC:∀ (l:List (List aC)) (b:Bool),(dS b l).length<=(l.map List.length).sum+l.length
 | [],b=>by simp [dS]
 | x::xs,b=>by
  have:=adC xs true;rw [dS];cases b<;>simp only [aO,aI,jB,kM,Wp,jG,vV]<;>omega
def auD (l:List (List aC)) (j:Nat):(l.getD j []).length<=(l.map List.length).sum:=by
 induction l generalizing j with
 | nil=>simp
 | cons x l ih=>
  cases j with
  | zero=>simp
  | succ j=>
   have:=ih j;simp only [List.getD_cons_succ,kM,Wp];omega
def auE (k o:Int) (x:List UInt8) (l:List (List aC)) (h2:k≠14->(l.getD 0 []).length+(l.getD 1 []).length<=(l.map List.length).sum) (h3:(l.getD 0 []).length+(l.getD 1 []).length+(l.getD 2 []).length<=(l.map List.length).sum):(jd k o x l).length<=(l.map List.length).sum+l.length+4:=by
 have c:=adC l false;have g0:=auD l 0;have key:∀ (b:Bool) (x y:List aC) (n:Nat),x.length<=n->y.length<=n->(bif b then x else y).length<=n:=fun b x y n hx hy=>by cases b<;>assumption
 unfold jd;repeat' (refine key _ _ _ _ ?_ ?_)
 all_goals (try simp only [jB,jG,vV])
 all_goals (try omega)
 .have:=key (decide<|l.length > 1) (sg 32::(dS false l++[sg 33])) (l.getD 0 []) ((l.map List.length).sum+l.length+2) (by simp only [jB,jG,vV];omega) ah;omega
 .have:=key (o==99) [] [sg o] 1 aA aA;by_cases h:k=14
  .omega
  .have:=h2 h;omega
def auF (l:List (List aC)):(l.getD 0 []).length+(l.getD 1 []).length+(l.getD 2 []).length<=(l.map List.length).sum:=by
 match l with
 | []=>simp
 | [a]=>simp
 | [a,b]=>simp
 | a::b::c::r=>simp;omega
def ajX (k o:Int) (x:List UInt8) (l:List (List aC)):(jd k o x l).length<=(l.map List.length).sum+l.length+4:=by
 have h:=auF l;exact auE k o x l (fun _=>ah) h
mutual
def QT (f:Bool):∀ (t:av) (p:aL),(dI f t p).length+4<=8*aX t
 | ⟨k,o,x,y,ks⟩,p=>by
  have h1:=ajX k o x (bG f k o ks.length 0 p ks);have h2:=adD f k o ks.length p ks 0;have h3:=VH f k o ks.length p ks 0;rw [dI,aX];omega
def adD (f:Bool) (k o:Int) (n:Nat) (p:aL):∀ (ts:List av) (j:Nat),((bG f k o n j p ts).map List.length).sum+ts.length<=8*aT ts
 | [],j=>by rw [bG];simp
 | t::ts,j=>by
  have h1:=adD f k o n p ts (j+1);have h2:=QT f t (fU k o n j p);have h3:=QT f t bU;rw [bG,aT];simp only [kM,Wp,jG];cases tgt k j<;>simp only [aO,aI]
  .unfold qH;cases vQ f t.kind t.op (fU k o n j p)<;>simp only [aO,aI,jG,jB,vV]<;>omega
  .omega
end
def auG (f:Bool) (t:av) (p:aL):(bT f t p).length+2<=8*aX t:=by
 have h2:=QT f t p;have h3:=QT f t bU;unfold bT qH;cases vQ f t.kind t.op p<;>simp only [aO,aI,jG,jB,vV]<;>omega
def EO (f:Bool) (k o:Int) (n j:Nat) (p:aL) (t:av):(bS f k o n j p t).length+2<=8*aX t:=by
 unfold bS;have h1:=QT f t (fU k o n j p);have h2:=auG f t (fU k o n j p);cases tgt k j<;>simp only [aO,aI]<;>omega
def kd (l:List aC) (i:Nat):Int:=(l[i]?.map (·.Kind)).getD 0
def dY (l:List aC) (i:Nat) (b:Bool) (ns:List (List UInt8)):fH l (i:Int) b ns=some (kd l i):=by
 unfold fH kd;by_cases h:i < l.length
 .have:decide ((i:Int)>=(l.length:Int))=false:=bE;rw [this,aI,dn h,aB,eY h];rfl
 .have:decide ((i:Int)>=(l.length:Int))=true:=bE;rw [this,aO,zo ah];rfl
def akK {α β γ δ:Type} (x:Option (α×β×γ×δ)):(Option.bind x fun r=>some (r.1,r.2.1,r.2.2.1,r.2.2.2))=x:=by
 cases x<;>rfl
def aev {l:List aC} {i:Nat} (h:kd l i≠0):i < l.length:=by
 cases vP i l.length with
 | inl h=>exact h
 | inr g=>exfalso;apply h;unfold kd;rw [zo ah];rfl
def BG {l:List aC} {i:Nat} (h:i < l.length):kd l i=l[i].Kind:=by unfold kd;rw [eY h];rfl
def ZW {k:Int} {l:List aC} {i:Nat} (ns:List (List UInt8)) (hi:i<=100000) (h:kd l i=k):JM k l (i:Int) false ns=some (true,((i+1:Nat):Int),false):=by
 unfold JM;have e:(kd l i !=k)=false:=by simp [h]
 simp only [aI,dY,aB,e];rw [wrap64 ah ah];rfl
def NA {l:List aC} {i:Nat} (b:Bool) (ns:List (List UInt8)) (hi:i < l.length) (hl:l.length<=100000):Ez l (i:Int) b ns=some (l[i].Text,((i+1:Nat):Int)):=by
 unfold Ez;rw [dn hi,aB,wrap64 ah ah];rfl
def ZX {l:List aC} {i:Nat} (ns:List (List UInt8)) (hi:i < l.length) (hl:l.length<=100000) (h:kd l i=6):JN l (i:Int) false ns=some (l[i].Text,((i+1:Nat):Int),false):=by
 unfold JN;have e:(kd l i !=6)=false:=by simp [h]
 simp only [aI,dY,aB,e,NA false ns hi hl]
def auH (k:Int):Ev k=MW k:=by
 unfold Ev MW;rfl
def auI (k:Int):Ew k=MV k:=by
 unfold Ew MV;rfl
def mQ (k:Int):Bool:=k==32||(k==34||k==30)
def nU (k:Int):Bool:=k==33||(k==35||k==31)
def ZY (k:Int):Ev k=some (mQ k):=by
 unfold Ev mQ;cases (k==32)<;>cases (k==34)<;>rfl
def clI (k:Int):Ew k=some (nU k):=by
 unfold Ew nU;cases (k==33)<;>cases (k==35)<;>rfl
def opS (k:Int):MW k=some (mQ k):=by rw [<- auH];exact ZY k
def clS (k:Int):MV k=some (nU k):=by rw [<- auI];exact clI k
def VK {k:Int} (h:mQ k=true):nU k=false/\(k==36)=false:=by
 unfold mQ at h;simp only [mX,qj] at h;rcases h with h|h|h<;>subst h<;>decide
def pF (R:eu) (v:Int) (r:bH) (l:List aC) (i:Int) (b:Bool) (ns:List (List UInt8)):Option (fq×Int×Bool×List (List UInt8)):=
 bif v==1 then R.qC r l i b ns else bif v==2 then R.uJ r l i b ns else bif v==3 then R.Bv r l i b ns else bif v==4 then R.zm r l i b ns
 else bif v==5 then R.zl r l i b ns else bif v==6 then R.Bu r l i b ns else bif v==7 then R.xZ r l i b ns else bif v==8 then R.xY r l i b ns
 else bif v==9 then R.zk r l i b ns else bif v==10 then R.zi r l i b ns else bif v==11 then R.rU r l i b ns else bif v==12 then R.Bt r l i b ns
 else bif v==13 then R.Br l i b ns else bif v==14 then R.rT l i b ns else R.CU l i b ns
def dO (q:aL):bH:=⟨q.aY,q.bg⟩
def eF (t:av) (h:Bool):fq:=⟨t,!h&&gQ t.kind⟩
def RdM (l:List aC) (M:Nat) (q:aL) (i j:Nat) (t:av) (h:Bool):Prop:=∀ ns:List (List UInt8),pF (aS M) q.Level (dO q) l (i:Int) false ns=some (eF t h,(j:Int),false,ns)
def nD {l:List aC} {M:Nat} {q:aL} {i j:Nat} {t:av} {h:Bool} {v:Int} (hq:q.Level=v) (e:∀ ns:List (List UInt8),pF (aS M) v (dO q) l (i:Int) false ns=some (eF t h,(j:Int),false,ns)):RdM l M q i j t h:=fun ns=>by rw [hq];exact e ns
def Rd (l:List aC) (q:aL) (i j:Nat) (t:av) (h:Bool):Prop:=∀ M,1100000+100*(l.length - i)+4*(16 - q.Level.toNat)<=M->RdM l M q i j t h
def aZ (q:aL) (lv:Int):aL:=⟨lv,false,q.aY,q.bg,false⟩
def uT (k:Int):Bool:=k==3||(k==4||(k==6||(k==7||(k==8||(k==32||k==68)))))
def qG (k:Int):Bool:=(Bo k).getD false
def aja (k:Int):Bo k=some (qG k):=by
 unfold qG Bo;rw [EK];cases (k==54)<;>rfl
def akL (k:Int):Mc k=some (qG k):=(show Mc k=Bo k from rfl).trans (aja k)
def Wv (k:Int):En k=some (k==51||k==52):=by
 unfold En;cases (k==51)<;>rfl
def akM (k:Int):Qy k=some (uT k):=by
 unfold Qy Ey uT;cases (k==3)<;>cases (k==4)<;>cases (k==6)<;>cases (k==7)<;>cases (k==8)<;>cases (k==32)<;>cases (k==68)<;>rfl
def Rv (k:Int):Bh k=some (bA k):=by rw [akF];exact ZU k
def cont (lv:Int) (q:aL) (k:Int):Bool:=
 bif lv==1 then qG k else bif lv==2 then k==65 else bif lv==5 then k==24&&!q.aY
 else bif lv==8 then uT k else bif lv==12 then k==60 else bif lv==13 then (k==51||k==52)
 else bif lv==11 then false else bif lv==14 then false else bif lv==15 then false
 else k !=0&&(k !=99&&(bA k==lv&&(k !=62||!q.bg)))
def qK (k v:Int):Prop:=(v=3->k=44)/\(v=4->k=45)/\(v=6->k=67\/k=46)/\(v=7->k≠0/\k≠99)/\(v=9->k≠0/\k≠99/\k≠62)/\(v=10->k≠0/\k≠99/\k≠62)
def Rw (k:Int):qK k (bA k):=by
 have c:∀ {c:Bool} {x y:Option Int},(c=true->∃ v,x=some v/\qK k v)->(c=false->∃ v,y=some v/\qK k v)->∃ v,(bif c then x else y)=some v/\qK k v:=fun {c x y} hx hy=>by
  cases c
  .exact hy rfl
  .exact hx rfl
 have e:∀ {z:Int},(k==z)=true->k=z:=fun h=>by simpa using h
 have q0:∃ v:Int,(some 0:Option Int)=some v/\qK k v:=⟨0,rfl,by unfold qK;omega⟩
 have kW:∃ v:Int,(some 12:Option Int)=some v/\qK k v:=⟨12,rfl,by unfold qK;omega⟩
 have q8:∃ v:Int,(some 8:Option Int)=some v/\qK k v:=⟨8,rfl,by unfold qK;omega⟩
 have h4:∀ z:Int,k=z/\(z=57\/z=58)\/z=59->∃ v,QH (k,k==z)=some v/\qK k v:=fun z hz=>c (fun h=>⟨10,rfl,by have:=e h;unfold qK;omega⟩) fun h=>c (fun _=>kW) fun _=>q0;have h3:∀ z:Int,k=z/\z=55\/z=56->∃ v,Vt (k,k==z)=some v/\qK k v:=fun z hz=>c (fun h=>⟨9,rfl,by have:=e h;unfold qK;omega⟩) fun h=>c (fun h=>h4 57<|.inl ⟨e h,.inl rfl⟩) fun _=>c (fun h=>h4 58<|.inl ⟨e h,.inr rfl⟩) fun _=>h4 59 (.inr rfl);have h2:∀ z:Int,k=z/\(z=63\/z=48\/z=47\/z=50\/z=62)\/z=49->∃ v,GU (k,k==z)=some v/\qK k v:=fun z hz=>c (fun h=>⟨7,rfl,by have:=e h;unfold qK;omega⟩) fun h=>c (fun _=>q8) fun _=>c (fun h=>h3 55<|.inl ⟨e h,rfl⟩) fun _=>h3 56 (.inr rfl);have h1:∀ z:Int,k=z/\z=67\/z=46->∃ v,Vu (k,k==z)=some v/\qK k v:=fun z hz=>c (fun h=>⟨6,rfl,by have:=e h;unfold qK;omega⟩) fun h=>c (fun h=>h2 63<|.inl ⟨e h,ah⟩) fun _=>c (fun h=>h2 48<|.inl ⟨e h,ah⟩) fun _=>c (fun h=>h2 47<|.inl ⟨e h,ah⟩) fun _=>c (fun h=>h2 50<|.inl ⟨e h,ah⟩) fun _=>c (fun h=>h2 62<|.inl ⟨e h,ah⟩) fun _=>h2 49 (.inr rfl);have h0:∃ v,Nb k=some v/\qK k v:=c (fun h=>⟨3,rfl,by have:=e h;unfold qK;omega⟩) fun h=>c (fun h=>⟨4,rfl,by have:=e h;unfold qK;omega⟩) fun h=>c (fun h=>h1 67<|.inl ⟨e h,rfl⟩) fun _=>h1 46 (.inr rfl);obtain ⟨v,h5,h6⟩:=h0;rw [ZU] at h5;cases h5;exact h6
def akN (q:aL) (k:Int):cont 3 q k=(k==44):=by
 cases h:k==44 with
 | true=>rw [eq_of_beq h];rfl
 | false=>
  have hq:=(Rw k).1;show (k !=0&&(k !=99&&(bA k==3&&(k !=62||!q.bg))))=false;have:(bA k==3)=false:=by
   have: ¬bA k=3:=fun e=>by have:=hq e;subst this;cases h
   simpa using this
  rw [this];simp
def akO (q:aL) (k:Int):cont 4 q k=(k==45):=by
 cases h:k==45 with
 | true=>rw [eq_of_beq h];rfl
 | false=>
  have hq:=(Rw k).2.1;show (k !=0&&(k !=99&&(bA k==4&&(k !=62||!q.bg))))=false;have:(bA k==4)=false:=by
   have: ¬bA k=4:=fun e=>by have:=hq e;subst this;cases h
   simpa using this
  rw [this];simp
def akP (q:aL) (k:Int):cont 6 q k=(k==67||k==46):=by
 cases h:k==67 with
 | true=>rw [eq_of_beq h];rfl
 | false=>
  cases h2:k==46 with
  | true=>rw [eq_of_beq h2];rfl
  | false=>
   have hq:=(Rw k).2.2.1;show (k !=0&&(k !=99&&(bA k==6&&(k !=62||!q.bg))))=false;have:(bA k==6)=false:=by
    have: ¬bA k=6:=fun e=>by
     rcases hq e with e|e<;>subst e
     .cases h
     .cases h2
    simpa using this
   rw [this];simp
def auK (q:aL) (k:Int):cont 7 q k=(bA k==7&&(k !=62||!q.bg)):=by
 cases h:bA k==7 with
 | true=>
  have hq:=(Rw k).2.2.2.1 (eq_of_beq h);have h1:(k !=0)=true:=by simpa using hq.1
  have h2:(k !=99)=true:=by simpa using hq.2
  show (k !=0&&(k !=99&&(bA k==7&&(k !=62||!q.bg))))=_;rw [h,h1,h2];rfl
 | false=>
  show (k !=0&&(k !=99&&(bA k==7&&(k !=62||!q.bg))))=_;rw [h];simp
def aae (q:aL) (k v:Int) (hv:v=9\/v=10):cont v q k=(bA k==v):=by
 have hd:cont v q k=(k !=0&&(k !=99&&(bA k==v&&(k !=62||!q.bg)))):=by rcases hv with rfl|rfl<;>rfl
 rw [hd];cases h:bA k==v with
 | true=>
  have e:=eq_of_beq h;have hq:k≠0/\k≠99/\k≠62:=by
   rcases hv with rfl|rfl
   .exact (Rw k).2.2.2.2.1 e
   .exact (Rw k).2.2.2.2.2 e
  have h1:(k !=0)=true:=by simpa using hq.1
  have h2:(k !=99)=true:=by simpa using hq.2.1
  have h3:(k !=62)=true:=by simpa using hq.2.2
  rw [h1,h2,h3];rfl
 | false=>simp
section
variable (l:List aC) (q:aL) (i j:Nat) (t:av) (h:Bool) (hsz:aX t<=400)
theorem auL (hq:q.Level=1) (hr:Rd l (aZ q 2) i j t h) (hc:cont 1 q (kd l j)=false) (hsz:aX t<=400):Rd l q i j t h:=by
 intro M hM;obtain ⟨M,rfl⟩:∃ m,M=m+1:=⟨M - 1,ah⟩
 refine nD hq fun ns=>?_;have hc:qG (kd l j)=false:=hc;have e:=hr M (by rw [hq] at hM;show _+4*(16 - (2:Int).toNat)<=M;have:(2:Int).toNat=2:=rfl;have:(1:Int).toNat=1:=rfl;omega) ns;have e':(aS M).uJ (dO q) l (i:Int) false ns=some (eF t h,(j:Int),false,ns):=e;show MS M (aS M) (dO q) l (i:Int) false ns=_;unfold MS;rw [e'];simp only [aB,aI,dY,akL,hc];unfold eF;cases (!h&&gQ t.kind)<;>rfl
theorem auM (hq:q.Level=2) (hr:Rd l (aZ q 3) i j t h) (hc:cont 2 q (kd l j)=false):Rd l q i j t h:=by
 intro M hM;obtain ⟨M,rfl⟩:∃ m,M=m+1:=⟨M - 1,ah⟩
 refine nD hq fun ns=>?_;have hc:(kd l j==65)=false:=hc;have hc2:(kd l j !=65)=true:=by rw [bne,hc];rfl
 have e:=hr M (by rw [hq] at hM;show _+4*(16 - (3:Int).toNat)<=M;have:(2:Int).toNat=2:=rfl;have:(3:Int).toNat=3:=rfl;omega) ns;have e':(aS M).Bv (dO q) l (i:Int) false ns=some (eF t h,(j:Int),false,ns):=e;show MR M (aS M) (dO q) l (i:Int) false ns=_;unfold MR;rw [e'];simp only [aB,aI,dY,hc2,aO]
theorem akQ (hq:q.Level=12) (hr:Rd l (aZ q 13) i j t h) (hc:cont 12 q (kd l j)=false):Rd l q i j t h:=by
 intro M hM;obtain ⟨M,rfl⟩:∃ m,M=m+1:=⟨M - 1,ah⟩
 refine nD hq fun ns=>?_;have hc:(kd l j==60)=false:=hc;have hc2:(kd l j !=60)=true:=by rw [bne,hc];rfl
 have e:=hr M (by rw [hq] at hM;show _+4*(16 - (13:Int).toNat)<=M;have:(12:Int).toNat=12:=rfl;have:(13:Int).toNat=13:=rfl;omega) ns;have e':(aS M).Br l (i:Int) false ns=some (eF t h,(j:Int),false,ns):=e;show MJ M (aS M) (dO q) l (i:Int) false ns=_;unfold MJ;rw [e'];simp only [aB,aI,dY,hc2,aO]
theorem akR {k:Int} (hk:(k==56||(k==55||k==61))=false):(bif (k !=55) then bif (k !=56) then some (k !=61) else some false else some false)=some true:=by
 rw [Nh,Nh] at hk;rw [bne,bne,bne,hk.1,hk.2.1,hk.2.2];rfl
theorem auN (hq:q.Level=11) (hr:Rd l (aZ q 13) i j t h) (hc:cont 12 q (kd l j)=false) (hk:(kd l i==56||(kd l i==55||kd l i==61))=false):Rd l q i j t h:=by
 intro M hM;obtain ⟨M,rfl⟩:∃ m,M=m+1:=⟨M - 1,ah⟩
 refine nD hq fun ns=>?_;have e:=akQ l (aZ q 12) i j t h rfl hr hc M (by rw [hq] at hM;show _+4*(16 - (12:Int).toNat)<=M;have:(11:Int).toNat=11:=rfl;have:(12:Int).toNat=12:=rfl;omega) ns;have e':(aS M).Bt (dO q) l (i:Int) false ns=some (eF t h,(j:Int),false,ns):=e;show Gv M (aS M) (dO q) l (i:Int) false ns=_;unfold Gv;rw [dY];simp only [aB,aI,akR hk,aO,e']
theorem auO (hq:q.Level=13) (hr:Rd l (aZ q 14) i j t h) (hc:cont 13 q (kd l j)=false) (hk:(kd l i==51||kd l i==52)=false):Rd l q i j t h:=by
 intro M hM;obtain ⟨M,rfl⟩:∃ m,M=m+1:=⟨M - 1,ah⟩
 refine nD hq fun ns=>?_;have hc:(kd l j==51||kd l j==52)=false:=hc;have e:=hr M (by rw [hq] at hM;show _+4*(16 - (14:Int).toNat)<=M;have:(14:Int).toNat=14:=rfl;have:(13:Int).toNat=13:=rfl;omega) ns;have e':(aS M).rT l (i:Int) false ns=some (eF t h,(j:Int),false,ns):=e;show Gu M (aS M) l (i:Int) false ns=_;unfold Gu;rw [dY];simp only [aB,mg,aO,Wv,hk,aI,e',dY,hc];unfold eF;cases (!h&&gQ t.kind)<;>rfl
theorem auP (hq:q.Level=14) (hr:Rd l (aZ q 15) i j t h) (hk:kd l i≠68):Rd l q i j t h:=by
 intro M hM;obtain ⟨M,rfl⟩:∃ m,M=m+1:=⟨M - 1,ah⟩
 refine nD hq fun ns=>?_;have hk2:(kd l i !=68)=true:=by simpa using hk
 have e:=hr M (by rw [hq] at hM;show _+4*(16 - (15:Int).toNat)<=M;have:(14:Int).toNat=14:=rfl;have:(15:Int).toNat=15:=rfl;omega) ns;have e':(aS M).CU l (i:Int) false ns=some (eF t h,(j:Int),false,ns):=e;show CV M (aS M) l (i:Int) false ns=_;unfold CV;rw [dY];simp only [aB,aI,hk2,aO,e']
end
def Ln (l:List aC) (a f:Nat):Prop:=a<=f/\(∀ k,a<=k->k < f->kd l k=1)/\kd l f≠1/\kd l f≠2
def akS (l:List aC) (hl:l.length<=3000) (N':Nat) (ns:List (List UInt8)):∀ (n a f fuel:Nat),f - a<=n->n < fuel->Ln l a f->CS N' l false fuel ((a:Int),ns)=some ((f:Int),ns)
 | 0,a,f,fuel,h1,h2,h=>by
  obtain ⟨fuel,rfl⟩:∃ m,fuel=m+1:=⟨fuel - 1,ah⟩
  have e:a=f:=by have:=h.1;omega
  subst e;have e1:(kd l a==1)=false:=by simpa using h.2.2.1
  have e2:(kd l a==2)=false:=by simpa using h.2.2.2
  rw [CS];simp only [dY,aB,mg,aO,e1,aI,e2]
 | n+1,a,f,fuel,h1,h2,h=>by
  obtain ⟨fuel,rfl⟩:∃ m,fuel=m+1:=⟨fuel - 1,ah⟩
  by_cases e:a=f
  .subst e;have e1:(kd l a==1)=false:=by simpa using h.2.2.1
   have e2:(kd l a==2)=false:=by simpa using h.2.2.2
   rw [CS];simp only [dY,aB,mg,aO,e1,aI,e2]
  .have hlt:a < f:=by have:=h.1;omega
   have e1:kd l a=1:=h.2.1 a (dX _) hlt;have ha:=aev (l:=l) (i:=a) (by rw [e1];decide);rw [CS];simp only [mg,aO,dY,aB,e1,adw];unfold Vb;simp only [];rw [wrap64 ah ah,show (a:Int)+1=((a+1:Nat):Int) by omega];exact akS l hl N' ns n (a+1) f fuel ah ah ⟨ah,fun k g1 g2=>h.2.1 k ah g2,h.2.2⟩
def Ln.le {l:List aC} {a f:Nat} (h:Ln l a f) (ha:a<=l.length):f<=l.length:=by
 by_cases e:a=f
 .omega
 .have h1:=h.1;have:=aev (l:=l) (i:=f - 1) (by rw [h.2.1 (f - 1) ah ah];decide);omega
def aew (l:List aC) (hl:l.length<=3000) {N a f:Nat} (ns:List (List UInt8)) (hN:3000 < N) (ha:a<=l.length) (h:Ln l a f):MF N l (a:Int) false ns=some ((f:Int),ns):=by
 unfold MF;have:=h.le ha;rw [akS l hl N ns (f - a) a f N ah ah h]
def Dq (lv most:Int) (sd:Int×Int):Prop:=(lv=3/\most=3000/\sd=(3,4))\/(lv=4/\most=3000/\sd=(4,5))\/(lv=6/\most=1/\sd=(7,7))\/(lv=7/\most=1/\sd=(8,8))\/(lv=8/\most=3000/\sd=(8,9))\/(lv=9/\most=3000/\sd=(9,10))\/(lv=10/\most=3000/\sd=(10,11))
def Ww {lv most:Int} {sd:Int×Int} (hc:Dq lv most sd):3<=lv/\lv<=10/\lv < sd.2/\sd.2<=11/\most<=3000:=by
 rcases hc with ⟨rfl,rfl,rfl⟩|⟨rfl,rfl,rfl⟩|⟨rfl,rfl,rfl⟩|⟨rfl,rfl,rfl⟩|⟨rfl,rfl,rfl⟩|⟨rfl,rfl,rfl⟩|⟨rfl,rfl,rfl⟩<;>decide
def EZ (M:Nat) (lv:Int) (l:List aC) (n:Nat) (r:bH) (j:Int) (t:av) (h:Bool) (ns:List (List UInt8)):Option (fq×Int×Bool×List (List UInt8)):=
 bif lv==3 then GL M (aS M) l n (r,j,false,t.kind,t.op,t.text,t.other,t.kids,(!h&&gQ t.kind),ns)
 else bif lv==4 then GK M (aS M) l n (r,j,false,t.kind,t.op,t.text,t.other,t.kids,(!h&&gQ t.kind),ns)
 else bif lv==8 then Gy M (aS M) l n (r,j,false,t.kind,t.op,t.text,t.other,t.kids,(!h&&gQ t.kind),ns)
 else bif lv==9 then Gx M (aS M) l n (r,j,false,t.kind,t.op,t.text,t.other,t.kids,(!h&&gQ t.kind),ns)
 else Gw M (aS M) l n (r,j,false,t.kind,t.op,t.text,t.other,t.kids,(!h&&gQ t.kind),ns)
def akT (M:Nat) (l:List aC) (n:Nat) (r:bH) (j:Int) (t:av) (h:Bool) (ns:List (List UInt8)):EZ M 3 l n r j t h ns=GL M (aS M) l n (r,j,false,t.kind,t.op,t.text,t.other,t.kids,(!h&&gQ t.kind),ns):=rfl
def akU (M:Nat) (l:List aC) (n:Nat) (r:bH) (j:Int) (t:av) (h:Bool) (ns:List (List UInt8)):EZ M 4 l n r j t h ns=GK M (aS M) l n (r,j,false,t.kind,t.op,t.text,t.other,t.kids,(!h&&gQ t.kind),ns):=rfl
def akV (M:Nat) (l:List aC) (n:Nat) (r:bH) (j:Int) (t:av) (h:Bool) (ns:List (List UInt8)):EZ M 8 l n r j t h ns=Gy M (aS M) l n (r,j,false,t.kind,t.op,t.text,t.other,t.kids,(!h&&gQ t.kind),ns):=rfl
def akW (M:Nat) (l:List aC) (n:Nat) (r:bH) (j:Int) (t:av) (h:Bool) (ns:List (List UInt8)):EZ M 9 l n r j t h ns=Gx M (aS M) l n (r,j,false,t.kind,t.op,t.text,t.other,t.kids,(!h&&gQ t.kind),ns):=rfl
def akX (M:Nat) (l:List aC) (n:Nat) (r:bH) (j:Int) (t:av) (h:Bool) (ns:List (List UInt8)):EZ M 10 l n r j t h ns=Gw M (aS M) l n (r,j,false,t.kind,t.op,t.text,t.other,t.kids,(!h&&gQ t.kind),ns):=rfl
def Ch (l:List aC) (lv:Int) (_:Int) (_:Int×Int) (q:aL) (i j:Nat) (t:av) (h:Bool) (c:Nat):Prop:=
 (lv≠6/\lv≠7/\∀ (M:Nat) (ns:List (List UInt8)),1100000+100*(l.length - i)+4*(16 - lv.toNat)<=M+1->pF (aS<|M+1) lv (dO q) l (i:Int) false ns=EZ M lv l (M - c) (dO q) (j:Int) t h ns)\/
 ((lv=6\/lv=7)/\(c=0/\Rd l (aZ q<|lv+1) i j t h\/c=1/\Rd l (aZ q lv) i j t h))
def auQ {lv:Int} (l:List aC) (q:aL) (i j:Nat) (t:av) (h:Bool) (hv:lv=3\/lv=4\/lv=8\/lv=9\/lv=10) (M:Nat) (ns:List (List UInt8)) (hr:RdM l M (aZ q<|lv+1) i j t h):pF (aS<|M+1) lv (dO q) l (i:Int) false ns=EZ M lv l M (dO q) (j:Int) t h ns:=by
 have e:=hr ns;rcases hv with rfl|rfl|rfl|rfl|rfl
 .have e':(aS M).zm (dO q) l (i:Int) false ns=some (eF t h,(j:Int),false,ns):=e;show Vk M (aS M) (dO q) l (i:Int) false ns=_;unfold Vk;rw [e'];rfl
 .have e':(aS M).zl (dO q) l (i:Int) false ns=some (eF t h,(j:Int),false,ns):=e;show Vj M (aS M) (dO q) l (i:Int) false ns=_;unfold Vj;rw [e'];rfl
 .have e':(aS M).zk (dO q) l (i:Int) false ns=some (eF t h,(j:Int),false,ns):=e;show Vh M (aS M) (dO q) l (i:Int) false ns=_;unfold Vh;rw [e'];rfl
 .have e':(aS M).zi (dO q) l (i:Int) false ns=some (eF t h,(j:Int),false,ns):=e;show Vg M (aS M) (dO q) l (i:Int) false ns=_;unfold Vg;rw [e'];rfl
 .have e':(aS M).rU (dO q) l (i:Int) false ns=some (eF t h,(j:Int),false,ns):=e;show Vf M (aS M) (dO q) l (i:Int) false ns=_;unfold Vf;rw [e'];rfl
def Ch.first {l:List aC} {lv most:Int} {sd:Int×Int} (hc:Dq lv most sd) {q:aL} {i j:Nat} {t:av} {h:Bool} (hr:Rd l (aZ q<|lv+1) i j t h):Ch l lv most sd q i j t h 0:=by
 have hb:=Ww hc;by_cases hv:lv=6\/lv=7
 .exact .inr ⟨hv,.inl ⟨rfl,hr⟩⟩
 .refine .inl ⟨ah,ah,fun M ns hM=>auQ l q i j t h ?_ M ns (hr M<|by show _+4*(16 - (lv+1).toNat)<=M;omega)⟩;rcases hc with ⟨rfl,_⟩|⟨rfl,_⟩|⟨rfl,_⟩|⟨rfl,_⟩|⟨rfl,_⟩|⟨rfl,_⟩|⟨rfl,_⟩<;>omega
def auR {lv:Int} (l:List aC) (M n:Nat) (q:aL) (j:Nat) (t:av) (h:Bool) (ns:List (List UInt8)) (hv:lv=3\/lv=4\/lv=8\/lv=9\/lv=10) (hs:cont lv q (kd l j)=false):EZ M lv l (n+1) (dO q) (j:Int) t h ns=some (eF t h,(j:Int),false,ns):=by
 obtain ⟨k,o,x,y,ks⟩:=t;rcases hv with rfl|rfl|rfl|rfl|rfl
 .rw [akN] at hs;rw [akT,GL];simp only [mg,aO,dY,aB,hs,aI];rfl
 .rw [akO] at hs;rw [akU,GK];simp only [mg,aO,dY,aB,hs,aI];rfl
 .have hs:uT (kd l j)=false:=hs;rw [akV,Gy];simp only [mg,aO,dY,aB,akM,hs,aI];rfl
 .rw [aae q _ 9<|.inl rfl] at hs;rw [akW,Gx];simp only [mg,aO,dY,aB,Rv,hs,aI];rfl
 .rw [aae q _ 10<|.inr rfl] at hs;rw [akX,Gw];simp only [mg,aO,dY,aB,Rv,hs,aI];rfl
def auS {lv most:Int} {sd:Int×Int} (hc:Dq lv most sd) (l:List aC) (hl:l.length<=3000) (M n:Nat) (hM:1048577 < M) (q:aL) (j j2:Nat) (h hb:Bool) (ns:List (List UInt8)) (t u:av) (hgo:cont lv q (kd l j)=true) (hv:lv≠6/\lv≠7)
  (f0 f:Nat) (op:Int) (hf:lv=8/\f0=j/\op=99\/lv≠8/\f0=j+1/\op=kd l j/\j < l.length) (hj0:j<=l.length) (hln:(lv=3\/lv=4)/\Ln l f0 f\/ ¬(lv=3\/lv=4)/\f=f0) (hr:RdM l M (aZ q sd.2) f j2 u hb):
  EZ M lv l (n+1) (dO q) (j:Int) t h ns=EZ M lv l n (dO q) (j2:Int) ⟨12,op,[],[],[t,u]⟩ false ns:=by
 have e:=hr ns;obtain ⟨k,o,x,y,ks⟩:=t;rcases hc with ⟨rfl,rfl,rfl⟩|⟨rfl,rfl,rfl⟩|⟨rfl,rfl,rfl⟩|⟨rfl,rfl,rfl⟩|⟨rfl,rfl,rfl⟩|⟨rfl,rfl,rfl⟩|⟨rfl,rfl,rfl⟩
 .rcases hf with ⟨h8,_⟩|⟨_,rfl,rfl,hj⟩
  .exact absurd h8 aJ
  rcases hln with ⟨_,hln⟩|⟨h3,_⟩
  .rw [akN] at hgo;have hk:kd l j=44:=eq_of_beq hgo;have e':(aS M).zm (dO q) l (f:Int) false ns=some (eF u hb,(j2:Int),false,ns):=e;rw [akT,GL];simp only [mg,aO,dY,aB,hgo];rw [wrap64 ah ah,show (j:Int)+1=((j+1:Nat):Int) by omega,aew l hl ns ah (show j+1<=l.length by omega) hln,aB];dsimp only;rw [e',hk];rfl
  .exact absurd (Or.inl rfl) h3
 .rcases hf with ⟨h8,_⟩|⟨_,rfl,rfl,hj⟩
  .exact absurd h8 aJ
  rcases hln with ⟨_,hln⟩|⟨h3,_⟩
  .rw [akO] at hgo;have hk:kd l j=45:=eq_of_beq hgo;have e':(aS M).zl (dO q) l (f:Int) false ns=some (eF u hb,(j2:Int),false,ns):=e;rw [akU,GK];simp only [mg,aO,dY,aB,hgo];rw [wrap64 ah ah,show (j:Int)+1=((j+1:Nat):Int) by omega,aew l hl ns ah (show j+1<=l.length by omega) hln,aB];dsimp only;rw [e',hk];rfl
  .exact absurd (Or.inr rfl) h3
 .exact absurd rfl hv.1
 .exact absurd rfl hv.2
 .rcases hf with ⟨_,rfl,rfl⟩|⟨h8,_⟩
  .rcases hln with ⟨h3,_⟩|⟨_,rfl⟩
   .exact absurd h3 aJ
   have hgo:uT (kd l f)=true:=hgo;have e':(aS M).zk (dO q) l (f:Int) false ns=some (eF u hb,(j2:Int),false,ns):=e;rw [akV,Gy];simp only [mg,aO,dY,aB,akM,hgo,e'];rfl
  .exact absurd rfl h8
 .rcases hf with ⟨h8,_⟩|⟨_,rfl,rfl,hj⟩
  .exact absurd h8 aJ
  rcases hln with ⟨h3,_⟩|⟨_,rfl⟩
  .exact absurd h3 aJ
  rw [aae q _ 9<|.inl rfl] at hgo;have e':(aS M).zi (dO q) l ((j+1:Nat):Int) false ns=some (eF u hb,(j2:Int),false,ns):=e;rw [akW,Gx];simp only [mg,aO,dY,aB,Rv,hgo];rw [wrap64 ah ah,show (j:Int)+1=((j+1:Nat):Int) by omega,e'];rfl
 .rcases hf with ⟨h8,_⟩|⟨_,rfl,rfl,hj⟩
  .exact absurd h8 aJ
  rcases hln with ⟨h3,_⟩|⟨_,rfl⟩
  .exact absurd h3 aJ
  rw [aae q _ 10<|.inr rfl] at hgo;have e':(aS M).rU (dO q) l ((j+1:Nat):Int) false ns=some (eF u hb,(j2:Int),false,ns):=e;rw [akX,Gw];simp only [mg,aO,dY,aB,Rv,hgo];rw [wrap64 ah ah,show (j:Int)+1=((j+1:Nat):Int) by omega,e'];rfl
def auT {l:List aC} (hl:l.length<=3000) {q:aL} (hq:q.Level=6) {i j j2:Nat} {t u:av} {h hb:Bool} (hr:Rd l (aZ q 7) i j t h) (hgo:cont 6 q (kd l j)=true) (hij:i<=j) (hj:j < l.length) (hr2:Rd l (aZ q 7) (j+1) j2 u hb):Rd l q i j2 ⟨12,kd l j,[],[],[t,u]⟩ false:=by
 intro M hM;obtain ⟨M,rfl⟩:∃ m,M=m+1:=⟨M - 1,ah⟩
 refine nD hq fun ns=>?_;have n6:(6:Int).toNat=6:=rfl;have n7:(7:Int).toNat=7:=rfl;have e:=hr M (by rw [hq] at hM;show _+4*(16 - (7:Int).toNat)<=M;omega) ns;have e2:=hr2 M (by rw [hq] at hM;show _+4*(16 - (7:Int).toNat)<=M;omega) ns;have e':(aS M).xZ (dO q) l (i:Int) false ns=some (eF t h,(j:Int),false,ns):=e;have e2':(aS M).xZ (dO q) l ((j+1:Nat):Int) false ns=some (eF u hb,(j2:Int),false,ns):=e2;rw [akP] at hgo;have hc:(bif (kd l j !=67) then some (kd l j !=46) else some false)=some false:=by
  cases h6:kd l j==67 with
  | true=>rw [bne,h6];rfl
  | false=>rw [h6,Vz] at hgo;rw [bne,bne,h6,hgo];rfl
 show MN M (aS M) (dO q) l (i:Int) false ns=_;unfold MN;rw [e'];simp only [aB,aI,dY,hc];rw [wrap64 ah ah,show (j:Int)+1=((j+1:Nat):Int) by omega,e2'];rfl
def auU {l:List aC} {q:aL} (hq:q.Level=6) {i j:Nat} {t:av} {h:Bool} (hr:Rd l (aZ q 7) i j t h) (hs:cont 6 q (kd l j)=false):Rd l q i j t h:=by
 intro M hM;obtain ⟨M,rfl⟩:∃ m,M=m+1:=⟨M - 1,ah⟩
 refine nD hq fun ns=>?_;have n6:(6:Int).toNat=6:=rfl;have n7:(7:Int).toNat=7:=rfl;have e:=hr M (by rw [hq] at hM;show _+4*(16 - (7:Int).toNat)<=M;omega) ns;have e':(aS M).xZ (dO q) l (i:Int) false ns=some (eF t h,(j:Int),false,ns):=e;rw [akP,Nh] at hs;have hc:(bif (kd l j !=67) then some (kd l j !=46) else some false)=some true:=by rw [bne,bne,hs.1,hs.2];rfl
 show MN M (aS M) (dO q) l (i:Int) false ns=_;unfold MN;rw [e'];simp only [aB,aI,dY,hc,aO]
def akY (q:aL) (k:Int):(bif (bA k !=7) then some true else bif (dO q).dA then some (k==62) else some false)=some (!cont 7 q k):=by
 rw [auK];show (bif (bA k !=7) then some true else bif q.bg then some (k==62) else some false)=_;rw [bne,bne];cases (bA k==7)<;>cases q.bg<;>cases (k==62)<;>rfl
def auV {l:List aC} (hl:l.length<=3000) {q:aL} (hq:q.Level=7) {i j j2:Nat} {t u:av} {h hb:Bool} (hr:Rd l (aZ q 8) i j t h) (hgo:cont 7 q (kd l j)=true) (hij:i<=j) (hj:j < l.length) (hr2:Rd l (aZ q 8) (j+1) j2 u hb):Rd l q i j2 ⟨12,kd l j,[],[],[t,u]⟩ false:=by
 intro M hM;obtain ⟨M,rfl⟩:∃ m,M=m+1:=⟨M - 1,ah⟩
 refine nD hq fun ns=>?_;have n6:(8:Int).toNat=8:=rfl;have n7:(7:Int).toNat=7:=rfl;have e:=hr M (by rw [hq] at hM;show _+4*(16 - (8:Int).toNat)<=M;omega) ns;have e2:=hr2 M (by rw [hq] at hM;show _+4*(16 - (8:Int).toNat)<=M;omega) ns;have e':(aS M).xY (dO q) l (i:Int) false ns=some (eF t h,(j:Int),false,ns):=e;have e2':(aS M).xY (dO q) l ((j+1:Nat):Int) false ns=some (eF u hb,(j2:Int),false,ns):=e2;show ML M (aS M) (dO q) l (i:Int) false ns=_;unfold ML;rw [e'];simp only [aB,aI,dY,Rv,akY,hgo,nN];rw [wrap64 ah ah,show (j:Int)+1=((j+1:Nat):Int) by omega,e2'];rfl
def auW {l:List aC} {q:aL} (hq:q.Level=7) {i j:Nat} {t:av} {h:Bool} (hr:Rd l (aZ q 8) i j t h) (hs:cont 7 q (kd l j)=false):Rd l q i j t h:=by
 intro M hM;obtain ⟨M,rfl⟩:∃ m,M=m+1:=⟨M - 1,ah⟩
 refine nD hq fun ns=>?_;have n6:(8:Int).toNat=8:=rfl;have n7:(7:Int).toNat=7:=rfl;have e:=hr M (by rw [hq] at hM;show _+4*(16 - (8:Int).toNat)<=M;omega) ns;have e':(aS M).xY (dO q) l (i:Int) false ns=some (eF t h,(j:Int),false,ns):=e;show ML M (aS M) (dO q) l (i:Int) false ns=_;unfold ML;rw [e'];simp only [aB,aI,dY,Rv,akY,hs,mg,aO]
def aex {l:List aC} (hl:l.length<=3000) {lv most:Int} {sd:Int×Int} (hc:Dq lv most sd) {q:aL} {i j:Nat} {t:av} {h:Bool} {c:Nat} (hch:Ch l lv most sd q i j t h c) (hcm:(c:Int) < most) {j2:Nat} {hb:Bool} {u:av} (hz:aX t+aX u<=1000) (hgo:cont lv q (kd l j)=true)
  (f0 f:Nat) (op:Int) (hf:lv=8/\f0=j/\op=99\/lv≠8/\f0=j+1/\op=kd l j/\j < l.length) (hj0:j<=l.length) (hln:(lv=3\/lv=4)/\Ln l f0 f\/ ¬(lv=3\/lv=4)/\f=f0) (hij:i < f) (hfl:f<=l.length) (hr:Rd l (aZ q sd.2) f j2 u hb):Ch l lv most sd q i j2 ⟨12,op,[],[],[t,u]⟩ false (c+1):=by
 have hb:=Ww hc;rcases hch with ⟨h6,h7,hch⟩|⟨hv,hch⟩
 .refine .inl ⟨h6,h7,fun M ns hM=>?_⟩;rw [hch M ns hM];obtain ⟨n,hn⟩:∃ n,M - c=n+1:=⟨M - c - 1,ah⟩
  rw [hn,auS hc l hl M n ah q j j2 h _ ns t u hgo ⟨h6,h7⟩ f0 f op hf hj0 hln (hr M<|by show _+4*(16 - sd.2.toNat)<=M;omega),show M - (c+1)=n by omega]
 .refine .inr ⟨hv,.inr ?_⟩;rcases hf with ⟨h8,_⟩|⟨_,rfl,rfl,hj⟩
  .omega
  rcases hln with ⟨h3,_⟩|⟨_,rfl⟩
  .omega
  rcases hch with ⟨rfl,hr1⟩|⟨rfl,_⟩
  .refine ⟨rfl,?_⟩;rcases hc with ⟨rfl,_⟩|⟨rfl,_⟩|⟨rfl,_,rfl⟩|⟨rfl,_,rfl⟩|⟨rfl,_⟩|⟨rfl,_⟩|⟨rfl,_⟩
   .omega
   .omega
   .exact auT hl (q:=aZ q 6) rfl hr1 hgo ah hj hr
   .exact auV hl (q:=aZ q 7) rfl hr1 hgo ah hj hr
   .omega
   .omega
   .omega
  .exfalso;rcases hc with ⟨rfl,_⟩|⟨rfl,_⟩|⟨rfl,rfl,_⟩|⟨rfl,rfl,_⟩|⟨rfl,_⟩|⟨rfl,_⟩|⟨rfl,_⟩<;>omega
def auX {l:List aC} {q:aL} {lv:Int} (hq:q.Level=lv) {i j:Nat} {t:av} {h:Bool} (hr:Rd l (aZ q lv) i j t h):Rd l q i j t h:=fun M hM ns=>by
 have e:=hr M (by rw [hq] at hM;exact hM) ns;rw [hq];exact e
def Ch.done {l:List aC} {lv most:Int} {sd:Int×Int} (hc:Dq lv most sd) {q:aL} (hq:q.Level=lv) {i j:Nat} {t:av} {h:Bool} {c:Nat} (hch:Ch l lv most sd q i j t h c) (hcm:(c:Int)<=most) (hs:cont lv q (kd l j)=false\/most=1/\ ¬(c:Int) < most):Rd l q i j t h:=by
 have hb:=Ww hc;rcases hch with ⟨h6,h7,hch⟩|⟨hv,hch⟩
 .intro M hM;rw [hq] at hM;obtain ⟨M,rfl⟩:∃ m,M=m+1:=⟨M - 1,ah⟩
  refine nD hq fun ns=>?_;rw [hch M ns hM];obtain ⟨n,hn⟩:∃ n,M - c=n+1:=⟨M - c - 1,ah⟩
  rw [hn];have hv:lv=3\/lv=4\/lv=8\/lv=9\/lv=10:=by rcases hc with ⟨rfl,_⟩|⟨rfl,_⟩|⟨rfl,_⟩|⟨rfl,_⟩|⟨rfl,_⟩|⟨rfl,_⟩|⟨rfl,_⟩<;>omega
  have hs:cont lv q (kd l j)=false:=by
   rcases hs with hs|hs
   .exact hs
   .exfalso;rcases hc with ⟨rfl,rfl,_⟩|⟨rfl,rfl,_⟩|⟨rfl,_⟩|⟨rfl,_⟩|⟨rfl,rfl,_⟩|⟨rfl,rfl,_⟩|⟨rfl,rfl,_⟩<;>omega
  exact auR l M n q j t h ns hv hs
 .rcases hch with ⟨rfl,hr⟩|⟨rfl,hr⟩
  .have hs:cont lv q (kd l j)=false:=by
    rcases hs with hs|hs
    .exact hs
    .exfalso;rcases hc with ⟨rfl,_⟩|⟨rfl,_⟩|⟨rfl,rfl,_⟩|⟨rfl,rfl,_⟩|⟨rfl,_⟩|⟨rfl,_⟩|⟨rfl,_⟩<;>omega
   rcases hv with rfl|rfl
   .exact auU hq hr hs
   .exact auW hq hr hs
  .exact auX hq hr
def uU {j n:Nat} (h:j<=n) (hn:n<=100000):IntKind.wrap .i64 ((j:Int)+1)=((j+1:Nat):Int):=by rw [wrap64 ah ah];omega
section
variable (l:List aC) (hl:l.length<=3000) (q:aL)
include hl
theorem auY (hq:q.Level=1) {i j j2:Nat} {t u:av} {h2:Bool} (hr:Rd l (aZ q 2) i j t false) (hL:gQ t.kind=true) (ha:qG (kd l j)=true) (hij:i<=j) (hj:j < l.length) (hr2:Rd l (aZ q 1) (j+1) j2 u h2) (hz:aX t+aX u<=1000):Rd l q i j2 ⟨15,kd l j,[],[],[t,u]⟩ false:=by
 intro M hM;obtain ⟨M,rfl⟩:∃ m,M=m+1:=⟨M - 1,ah⟩
 refine nD hq fun ns=>?_;have n1:(1:Int).toNat=1:=rfl;have n2:(2:Int).toNat=2:=rfl;have e:=hr M (by rw [hq] at hM;show _+4*(16 - (2:Int).toNat)<=M;omega) ns;have e2:=hr2 M (by rw [hq] at hM;show _+4*(16 - (1:Int).toNat)<=M;omega) ns;have e':(aS M).uJ (dO q) l (i:Int) false ns=some (⟨t,true⟩,(j:Int),false,ns):=by
  have e:_=some ((⟨t,!false&&gQ t.kind⟩:fq),(j:Int),false,ns):=e;rw [hL] at e;exact e
 have e2':(aS M).qC (dO q) l ((j+1:Nat):Int) false ns=some (eF u h2,(j2:Int),false,ns):=e2;show MS M (aS M) (dO q) l (i:Int) false ns=_;unfold MS;rw [e'];simp only [aB,aI,dY,akL,ha,nN,uU (Ai hj) (show l.length<=100000 by omega),e2'];rfl
theorem auZ (hq:q.Level=2) {i j j2 j3:Nat} {t u v:av} {h1 h2 h3:Bool} (hr:Rd l (aZ q 3) i j t h1) (ha:kd l j=65) (hij:i<=j) (hj:j < l.length) (hr2:Rd l (aZ q 2) (j+1) j2 u h2) (hb:kd l j2=66) (hj2:j < j2) (hj3:j2 < l.length) (hr3:Rd l (aZ q 2) (j2+1) j3 v h3) (hz:aX t+aX u+aX v<=1000):Rd l q i j3 ⟨14,0,[],[],[t,u,v]⟩ false:=by
 intro M hM;obtain ⟨M,rfl⟩:∃ m,M=m+1:=⟨M - 1,ah⟩
 refine nD hq fun ns=>?_;have n2:(2:Int).toNat=2:=rfl;have n3:(3:Int).toNat=3:=rfl;have e:=hr M (by rw [hq] at hM;show _+4*(16 - (3:Int).toNat)<=M;omega) ns;have e2:=hr2 M (by rw [hq] at hM;show _+4*(16 - (2:Int).toNat)<=M;omega) ns;have e3:=hr3 M (by rw [hq] at hM;show _+4*(16 - (2:Int).toNat)<=M;omega) ns;have e':(aS M).Bv (dO q) l (i:Int) false ns=some (eF t h1,(j:Int),false,ns):=e;have e2':(aS M).uJ (dO q) l ((j+1:Nat):Int) false ns=some (eF u h2,(j2:Int),false,ns):=e2;have e3':(aS M).uJ (dO q) l ((j2+1:Nat):Int) false ns=some (eF v h3,(j3:Int),false,ns):=e3;have c65:(kd l j !=65)=false:=by rw [ha];rfl
 show MR M (aS M) (dO q) l (i:Int) false ns=_;unfold MR;rw [e'];simp only [aB,aI,dY,c65,uU (Ai hj) (show l.length<=100000 by omega),e2',ZW ns (show j2<=100000 by omega) hb,e3'];rfl
theorem avb {k:Int} (hk:(k==56||(k==55||k==61))=true):(bif (k !=55) then bif (k !=56) then some (k !=61) else some false else some false)=some false:=by
 rw [bne,bne,bne];revert hk;cases (k==55)<;>cases (k==56)<;>cases (k==61)<;>simp
theorem avc (hq:q.Level=11) {i j:Nat} {t:av} {h1:Bool} (hk:(kd l i==56||(kd l i==55||kd l i==61))=true) (hi:i < l.length) (hr:Rd l (aZ q 11) (i+1) j t h1) (hz:aX t<=1000):Rd l q i j ⟨11,kd l i,[],[],[t]⟩ false:=by
 intro M hM;obtain ⟨M,rfl⟩:∃ m,M=m+1:=⟨M - 1,ah⟩
 refine nD hq fun ns=>?_;have n1:(11:Int).toNat=11:=rfl;have e:=hr M (by rw [hq] at hM;show _+4*(16 - (11:Int).toNat)<=M;omega) ns;have e':(aS M).rU (dO q) l ((i+1:Nat):Int) false ns=some (eF t h1,(j:Int),false,ns):=e;show Gv M (aS M) (dO q) l (i:Int) false ns=_;unfold Gv;rw [dY];simp only [aB,aI,avb l hl hk,uU (Ai hi) (show l.length<=100000 by omega),e'];rfl
theorem akZ (hq:q.Level=12) {i j j2:Nat} {t u:av} {h1 h2:Bool} (hr:Rd l (aZ q 13) i j t h1) (ha:kd l j=60) (hij:i<=j) (hj:j < l.length) (hr2:Rd l (aZ q 11) (j+1) j2 u h2) (hz:aX t+aX u<=1000):Rd l q i j2 ⟨12,60,[],[],[t,u]⟩ false:=by
 intro M hM;obtain ⟨M,rfl⟩:∃ m,M=m+1:=⟨M - 1,ah⟩
 refine nD hq fun ns=>?_;have n1:(11:Int).toNat=11:=rfl;have n2:(12:Int).toNat=12:=rfl;have n3:(13:Int).toNat=13:=rfl;have e:=hr M (by rw [hq] at hM;show _+4*(16 - (13:Int).toNat)<=M;omega) ns;have e2:=hr2 M (by rw [hq] at hM;show _+4*(16 - (11:Int).toNat)<=M;omega) ns;have e':(aS M).Br l (i:Int) false ns=some (eF t h1,(j:Int),false,ns):=e;have e2':(aS M).rU (dO q) l ((j+1:Nat):Int) false ns=some (eF u h2,(j2:Int),false,ns):=e2;have c60:(kd l j !=60)=false:=by rw [ha];rfl
 show MJ M (aS M) (dO q) l (i:Int) false ns=_;unfold MJ;rw [e'];simp only [aB,aI,dY,c60,uU (Ai hj) (show l.length<=100000 by omega),e2'];rfl
theorem ave (hq:q.Level=11) {i j j2:Nat} {t u:av} {h1 h2:Bool} (hk:(kd l i==56||(kd l i==55||kd l i==61))=false) (hr:Rd l (aZ q 13) i j t h1) (ha:kd l j=60) (hij:i<=j) (hj:j < l.length) (hr2:Rd l (aZ q 11) (j+1) j2 u h2) (hz:aX t+aX u<=1000):Rd l q i j2 ⟨12,60,[],[],[t,u]⟩ false:=by
 intro M hM;obtain ⟨M,rfl⟩:∃ m,M=m+1:=⟨M - 1,ah⟩
 refine nD hq fun ns=>?_;have n1:(11:Int).toNat=11:=rfl;have n2:(12:Int).toNat=12:=rfl;have e:=akZ l hl (aZ q 12) rfl hr ha hij hj hr2 hz M (by rw [hq] at hM;show _+4*(16 - (12:Int).toNat)<=M;omega) ns;have e':(aS M).Bt (dO q) l (i:Int) false ns=some (eF ⟨12,60,[],[],[t,u]⟩ false,(j2:Int),false,ns):=e;show Gv M (aS M) (dO q) l (i:Int) false ns=_;unfold Gv;rw [dY];simp only [aB,aI,akR hk,aO,e']
theorem avf (hq:q.Level=15) {i j:Nat} {t:av} {h1:Bool} (ha:kd l i=32) (hi:i < l.length) (hr:Rd l bU (i+1) j t h1) (hb:kd l j=33) (hj:j < l.length):Rd l q i (j+1) t true:=by
 intro M hM;obtain ⟨M,rfl⟩:∃ m,M=m+1:=⟨M - 1,ah⟩
 refine nD hq fun ns=>?_;have n1:(1:Int).toNat=1:=rfl;have e:=hr M (by rw [hq] at hM;show _+4*(16 - (1:Int).toNat)<=M;omega) ns;have e':(aS M).qC ⟨false,false⟩ l ((i+1:Nat):Int) false ns=some (eF t h1,(j:Int),false,ns):=e;show vM M (aS M) l (i:Int) false ns=_;unfold vM;rw [aI,dY,aB,ha];show Option.bind ((aS M).qC ⟨false,false⟩ l (IntKind.wrap .i64<|(i:Int)+1) false ns) _=_;rw [uU (Ai hi) (show l.length<=100000 by omega),e',aB];dsimp only;rw [ZW ns (show j<=100000 by omega) hb];rfl
theorem avg {M:Nat} {i j:Nat} {t:av} {h1:Bool} {ns:List (List UInt8)} (h6:kd l i=6) (e:(aS<|M+2).rT l (i:Int) false ns=some (eF t h1,(j:Int),false,ns)):(aS M).zh l (i:Int) false ns=some (eF t h1,(j:Int),false,ns):=by
 have ef:CV (M+1) (aS<|M+1) l (i:Int) false ns=some (eF t h1,(j:Int),false,ns):=e;unfold CV at ef;have Wx:(kd l i !=68)=true:=by rw [h6];rfl
 rw [dY] at ef;simp only [aB,aI,Wx,aO] at ef;rw [akK] at ef;have ep:vM M (aS M) l (i:Int) false ns=some (eF t h1,(j:Int),false,ns):=ef;unfold vM at ep;rw [aI,dY,aB,h6] at ep;have ep:Option.bind ((aS M).zh l (i:Int) false ns) (fun uF=>some (uF.1,uF.2.1,uF.2.2.1,uF.2.2.2))=some (eF t h1,(j:Int),false,ns):=ep;rw [akK] at ep;exact ep
theorem ala {M i j:Nat} {t:av} {h1:Bool} (ns:List (List UInt8)) (hi:i < l.length) (hk:(kd l (i+1)==6||kd l (i+1)==68)=true) (hr:Rd l (aZ q 14) (i+1) j t h1) (hM:1100000+100*(l.length - (i+1))+10<=M):Ve (M+1) (aS<|M+1) l (i:Int) false ns=some ((⟨⟨9,kd l i,[],[],[t]⟩,false⟩:fq),(j:Int),false,ns):=by
 have n2:(14:Int).toNat=14:=rfl;have el:(aS<|M+1).MG l ((i+1:Nat):Int) false ns=some (eF t h1,(j:Int),false,ns):=by
  show Vd M (aS M) l ((i+1:Nat):Int) false ns=_;unfold Vd;rw [aI,dY,aB];cases h68:kd l (i+1)==68 with
  | true=>
   have e:=hr M (by show _+4*(16 - (14:Int).toNat)<=M;omega) ns;have e':(aS M).rT l ((i+1:Nat):Int) false ns=some (eF t h1,(j:Int),false,ns):=e;rw [aO,e'];rfl
  | false=>
   rw [h68,Bool.or_false] at hk;have e:=hr (M+2) (by show _+4*(16 - (14:Int).toNat)<=M+2;omega) ns;have e':(aS<|M+2).rT l ((i+1:Nat):Int) false ns=some (eF t h1,(j:Int),false,ns):=e;rw [aI,aB,hk,aO,avg l hl (eq_of_beq hk) e'];rfl
 unfold Ve;rw [dY,aB,uU (Ai hi) (show l.length<=100000 by omega),el];rfl
theorem avh (hq:q.Level=13) {i j:Nat} {t:av} {h1:Bool} (hs:(kd l i==51||kd l i==52)=true) (hi:i < l.length) (hk:(kd l (i+1)==6||kd l (i+1)==68)=true) (hr:Rd l (aZ q 14) (i+1) j t h1) (hz:aX t<=1000):Rd l q i j ⟨9,kd l i,[],[],[t]⟩ false:=by
 intro M hM;obtain ⟨M,rfl⟩:∃ m,M=m+3:=⟨M - 3,ah⟩
 refine nD hq fun ns=>?_;have n1:(13:Int).toNat=13:=rfl;have e:=ala l hl q (M:=M) ns hi hk hr (by rw [hq,n1] at hM;omega);have e:(aS<|M+2).Ab l (i:Int) false ns=_:=e;show Gu (M+2) (aS<|M+2) l (i:Int) false ns=_;unfold Gu;rw [dY];simp only [aB,mg,aO,Wv,hs,e];rfl
theorem avi (hq:q.Level=13) {i j:Nat} {t:av} (hr:Rd l (aZ q 14) i j t false) (hL:gQ t.kind=true) (hk:(kd l i==51||kd l i==52)=false) (hs:(kd l j==51||kd l j==52)=true) (hij:i<=j) (hj:j < l.length) (hz:aX t<=1000):Rd l q i (j+1) ⟨10,kd l j,[],[],[t]⟩ false:=by
 intro M hM;obtain ⟨M,rfl⟩:∃ m,M=m+1:=⟨M - 1,ah⟩
 refine nD hq fun ns=>?_;have n1:(13:Int).toNat=13:=rfl;have n2:(14:Int).toNat=14:=rfl;have e:=hr M (by rw [hq] at hM;show _+4*(16 - (14:Int).toNat)<=M;omega) ns;have e':(aS M).rT l (i:Int) false ns=some (⟨t,true⟩,(j:Int),false,ns):=by
  have e:_=some ((⟨t,!false&&gQ t.kind⟩:fq),(j:Int),false,ns):=e;rw [hL] at e;exact e
 show Gu M (aS M) l (i:Int) false ns=_;unfold Gu;rw [dY];simp only [aB,mg,aO,Wv,hk,aI,e',nN,dY,hs,uU (Ai hj)<|show l.length<=100000 by omega];rfl
theorem avj (hq:q.Level=14) {i j:Nat} {t:av} {h1:Bool} (ha:kd l i=68) (hi:i < l.length) (hk:(kd l (i+1)==51||kd l (i+1)==52)=false) (hr:Rd l (aZ q 14) (i+1) j t h1) (hz:aX t<=1000):Rd l q i j ⟨6,0,[],[],[t]⟩ false:=by
 intro M hM;obtain ⟨M,rfl⟩:∃ m,M=m+1:=⟨M - 1,ah⟩
 refine nD hq fun ns=>?_;have n2:(14:Int).toNat=14:=rfl;have e:=hr M (by rw [hq] at hM;show _+4*(16 - (14:Int).toNat)<=M;omega) ns;have e':(aS M).rT l ((i+1:Nat):Int) false ns=some (eF t h1,(j:Int),false,ns):=e;have Wx:(kd l i !=68)=false:=by rw [ha];rfl
 show CV M (aS M) l (i:Int) false ns=_;unfold CV;rw [dY];simp only [aB,aI,Wx,uU (Ai hi) (show l.length<=100000 by omega),dY,Wv,hk,e'];cases t;rfl
theorem avk (hq:q.Level=14) {i j:Nat} {t:av} {h1:Bool} (ha:kd l i=68) (hi:i+1 < l.length) (hs:(kd l (i+1)==51||kd l (i+1)==52)=true) (hk:(kd l (i+1+1)==6||kd l (i+1+1)==68)=true) (hr:Rd l (aZ q 14) (i+1+1) j t h1) (hz:aX t<=900):Rd l q i j ⟨6,0,[],[],[⟨9,kd l<|i+1,[],[],[t]⟩]⟩ false:=by
 intro M hM;obtain ⟨M,rfl⟩:∃ m,M=m+3:=⟨M - 3,ah⟩
 refine nD hq fun ns=>?_;have n2:(14:Int).toNat=14:=rfl;have e:=ala l hl q (M:=M) (i:=i+1) ns hi hk hr (by rw [hq,n2] at hM;omega);have e:(aS<|M+2).Ab l ((i+1:Nat):Int) false ns=_:=e;have Wx:(kd l i !=68)=false:=by rw [ha];rfl
 show CV (M+2) (aS<|M+2) l (i:Int) false ns=_;unfold CV;rw [dY];simp only [aB,aI,Wx,uU (show i<=l.length by omega) (show l.length<=100000 by omega),dY,Wv,hs,aO,e];rfl
theorem avl (hq:q.Level=15) {i:Nat} (k:Int) (hk:k=3\/k=4\/k=5) (ha:kd l i=k) (hi:i < l.length):Rd l q i (i+1) ⟨k - 1,0,l[i].Text,[],[]⟩ false:=by
 intro M hM;obtain ⟨M,rfl⟩:∃ m,M=m+1:=⟨M - 1,ah⟩
 refine nD hq fun ns=>?_;show vM M (aS M) l (i:Int) false ns=_;unfold vM;rw [aI,dY,aB,ha,NA false ns hi ah];rcases hk with rfl|rfl|rfl<;>rfl
theorem avm (hq:q.Level=15) {i:Nat} (ha:kd l i=6) (hi:i < l.length) (hn:kd l (i+1)≠34):Rd l q i (i+1) ⟨1,0,l[i].Text,[],[]⟩ false:=by
 intro M hM;obtain ⟨M,rfl⟩:∃ m,M=m+2:=⟨M - 2,ah⟩
 refine nD hq fun ns=>?_;have c34:(kd l (i+1)==34)=false:=by simpa using hn
 have e:(aS<|M+1).zh l (i:Int) false ns=some (eF ⟨1,0,l[i].Text,[],[]⟩ false,((i+1:Nat):Int),false,ns):=by
  show MI M (aS M) l (i:Int) false ns=_;unfold MI;rw [NA false ns hi ah,aB];dsimp only;rw [dY,aB,c34];rfl
 show vM (M+1) (aS<|M+1) l (i:Int) false ns=_;unfold vM;rw [aI,dY,aB,ha];show Option.bind ((aS<|M+1).zh l (i:Int) false ns) _=_;rw [e];rfl
end
def Km (l:List aC) (en:Int):Nat->Nat->List av->Prop
 | _,_,[]=>False
 | i,j,[t]=>∃ (h:Bool) (k:Nat),Rd l bU i k t h/\i < k/\k < l.length/\kd l k=en/\j=k+1
 | i,j,t::u::ts=>∃ (h:Bool) (k f:Nat),Rd l bU i k t h/\i < k/\k < l.length/\kd l k=36/\Ln l (k+1) f/\Km l en f j (u::ts)
section
variable (l:List aC) (hl:l.length<=3000)
include hl
theorem alb (en:Int) (hen:en≠36) (M:Nat) (ns:List (List UInt8)):∀ (ts:List av) (i j n:Nat) (parts:List av),Km l en i j ts->parts.length+ts.length<=6->ts.length<=n->1100000+100*(l.length - i)+60<=M->∃ k:Nat,j=k+1/\k < l.length/\kd l k=en/\JO M (aS M) l n (⟨false,false⟩,(i:Int),false,parts,ns)=some (parts++ts,(k:Int),false,ns)
 | [],i,j,n,parts,h,_,_,_=>by cases h
 | [t],i,j,n,parts,h,hp,hn,hM=>by
  obtain ⟨hh,k,hr,hik,hk,he,rfl⟩:=h;obtain ⟨n,rfl⟩:∃ m,n=m+1:=⟨n - 1,by simp at hn;omega⟩
  have e:=hr M (by show _+4*(16 - (1:Int).toNat)<=M;have:(1:Int).toNat=1:=rfl;omega) ns;have e':(aS M).qC ⟨false,false⟩ l (i:Int) false ns=some (eF t hh,(k:Int),false,ns):=e;have c36:(kd l k !=36)=true:=by rw [he];simpa using hen
  simp only [Rp] at hp;refine ⟨k,rfl,hk,he,?_⟩;rw [JO];simp only [mg,aO,e',aB];rw [pz bE,aB,aI,dY,aB,aB,c36,aO];rfl
 | t::u::ts,i,j,n,parts,h,hp,hn,hM=>by
  obtain ⟨hh,k,f,hr,hik,hk,he,g1,hrest⟩:=h;have gl:=g1.1;simp only [jG] at hp hn;obtain ⟨n,rfl⟩:∃ m,n=m+1:=⟨n - 1,ah⟩
  have e:=hr M (by show _+4*(16 - (1:Int).toNat)<=M;have:(1:Int).toNat=1:=rfl;omega) ns;have e':(aS M).qC ⟨false,false⟩ l (i:Int) false ns=some (eF t hh,(k:Int),false,ns):=e;have c36:(kd l k !=36)=false:=by rw [he];rfl
  obtain ⟨k2,k2a,k2b,k2c,ih⟩:=alb en hen M ns (u::ts) f j n (parts++[t]) hrest bE bE ah;have c6:((((parts++[t]).length:Nat):Int)==6)=false:=by
   simp;omega
  refine ⟨k2,k2a,k2b,k2c,?_⟩;rw [JO];simp only [mg,aO,e',aB];rw [pz bE,aB,aI,dY,aB,aB,c36,aI];have c6':((((parts++[(eF t hh).tree]).length:Nat):Int)==6)=false:=c6;rw [c6',aI,uU (Ai hk) (show l.length<=100000 by omega),aew l hl ns ah (show k+1<=l.length by omega) g1,aB];refine Ht ih ?_;simp
theorem aez (en:Int) (hen:en=33\/en=35) (M:Nat) (ns:List (List UInt8)) (ts:List av) (i j:Nat) (h:Km l en i j ts) (ht:ts.length<=6) (hne:kd l i≠en\/en=35) (hM:1100000+100*(l.length - i)+60<=M):MO (M+1) (aS<|M+1) en l (i:Int) false ns=some (ts,(j:Int),false,ns):=by
 obtain ⟨k,rfl,hk,he,e⟩:=alb l hl en ah M ns ts i j M [] h (by simpa using ht) ah hM;have e':(aS<|M+1).MH ⟨false,false⟩ l (i:Int) false ns=some (ts,(k:Int),false,ns):=e;have hc:(bif (kd l i==en) then some (en==33) else some false)=some false:=by
  rcases hne with h|h
  .have:(kd l i==en)=false:=by simpa using h
   rw [this];rfl
  .subst h;cases (kd l i==35)<;>rfl
 unfold MO;rw [dY,aB,hc,aB,aI,e',aB];dsimp only;rw [ZW ns (show k<=100000 by omega) he];rfl
theorem avr (q:aL) (hq:q.Level=15) {i j:Nat} (ts:List av) (ha:kd l i=6) (hb:kd l (i+1)=34) (hi:i+1 < l.length) (h:Km l 35 (i+2) j ts) (ht:ts.length<=6) (hz:aT ts<=1000):Rd l q i j ⟨5,0,(l[i]' ah).Text,[],ts⟩ false:=by
 intro M hM;obtain ⟨M,rfl⟩:∃ m,M=m+4:=⟨M - 4,ah⟩
 refine nD hq fun ns=>?_;have n15:(15:Int).toNat=15:=rfl;rw [hq,n15] at hM;have e0:=aez l hl 35 (.inr rfl) M ns ts (i+2) j h ht (.inr rfl) ah;have Wy:(aS<|M+2).Ac 35 l ((i+2:Nat):Int) false ns=_:=e0;have c34:(kd l (i+1)==34)=true:=by rw [hb];rfl
 have e:(aS<|M+3).zh l (i:Int) false ns=some (eF ⟨5,0,(l[i]' ah).Text,[],ts⟩ false,(j:Int),false,ns):=by
  show MI (M+2) (aS<|M+2) l (i:Int) false ns=_;unfold MI;rw [NA false ns ah ah,aB];dsimp only;rw [dY,aB,c34,aO,uU (show i+1<=l.length by omega) (show l.length<=100000 by omega),Wy];rfl
 show vM (M+3) (aS<|M+3) l (i:Int) false ns=_;unfold vM;rw [aI,dY,aB,ha];show Option.bind ((aS<|M+3).zh l (i:Int) false ns) _=_;rw [e];rfl
theorem alc (q:aL) (hq:q.Level=15) {i j:Nat} (k:Int) (hk:k=7\/k=8) (ts:List av) (ha:kd l i=k) (hb:kd l (i+1)=32) (hi:i+2 < l.length) (h:ts=[]/\kd l (i+2)=33/\j=i+3\/kd l (i+2)≠33/\Km l 33 (i+2) j ts) (ht:ts.length<=6) (hz:aT ts<=1000):Rd l q i j ⟨k,0,(l[i]' ah).Text,[],ts⟩ false:=by
 intro M hM;obtain ⟨M,rfl⟩:∃ m,M=m+3:=⟨M - 3,ah⟩
 refine nD hq fun ns=>?_;have n15:(15:Int).toNat=15:=rfl;rw [hq,n15] at hM;have e0:MO (M+1) (aS<|M+1) 33 l ((i+2:Nat):Int) false ns=some (ts,(j:Int),false,ns):=by
  rcases h with ⟨rfl,h2,rfl⟩|⟨h2,h3⟩
  .unfold MO;rw [dY,aB,h2,uU (show i+2<=l.length by omega)<|show l.length<=100000 by omega];rfl
  .exact aez l hl 33 (.inl rfl) M ns ts (i+2) j h3 ht (.inl h2) ah
 have Wy:(aS<|M+2).Ac 33 l ((i+2:Nat):Int) false ns=_:=e0;have hk2:∀ v:Int,QB (M+2) (aS<|M+2) l (((l[i]' ah).Text,((i+1:Nat):Int)),false,ns,v)=some ((⟨⟨v,0,(l[i]' ah).Text,[],ts⟩,false⟩:fq),(j:Int),false,ns):=fun v=>by
  unfold QB;dsimp only;rw [ZW ns (show i+1<=100000 by omega) hb,aB];dsimp only;rw [aO,Wy];rfl
 show vM (M+2) (aS<|M+2) l (i:Int) false ns=_;unfold vM;rw [aI,dY,aB,ha];have c32:(kd l (i+1) !=32)=false:=by rw [hb];rfl
 rcases hk with rfl|rfl
 .show EB (M+2) (aS<|M+2) l (7,(i:Int),false,ns,true)=_;unfold EB;dsimp only;rw [aO,NA false ns ah ah,aB];exact hk2 7
 .show EB (M+2) (aS<|M+2) l (8,(i:Int),false,ns,true)=_;unfold EB;dsimp only;rw [aO,NA false ns ah ah,aB];dsimp only;have hno:(bif ((l[i]' ah).Text==[108,101,110,103,116,104]) then (fH l ((i+1:Nat):Int) false ns).bind fun sU=>some (sU !=32) else some false)=some false:=by
   rw [dY,aB,c32];cases ((l[i]' ah).Text==[108,101,110,103,116,104])<;>rfl
  rw [hno];exact hk2 8
theorem avs (q:aL) (hq:q.Level=15) {i:Nat} (ha:kd l i=8) (hi:i < l.length) (hb:kd l (i+1)≠32) (hx:l[i].Text=[108,101,110,103,116,104]):Rd l q i (i+1) ⟨8,0,l[i].Text,[],[]⟩ false:=by
 intro M hM;obtain ⟨M,rfl⟩:∃ m,M=m+1:=⟨M - 1,ah⟩
 refine nD hq fun ns=>?_;have c32:(kd l (i+1) !=32)=true:=by simpa using hb
 show vM M (aS M) l (i:Int) false ns=_;unfold vM;rw [aI,dY,aB,ha];show EB M (aS M) l (8,(i:Int),false,ns,true)=_;unfold EB;dsimp only;rw [aO,NA false ns hi ah,aB];dsimp only;have hno:(bif (l[i].Text==[108,101,110,103,116,104]) then (fH l ((i+1:Nat):Int) false ns).bind fun sU=>some (sU !=32) else some false)=some true:=by
  rw [dY,aB,c32,hx];rfl
 rw [hno];rfl
end
def Sg (l:List aC) (i:Nat) (x:List aC):Prop:=∃ r,l.drop i=x++r
def Sg.left {l:List aC} {i:Nat} {x y:List aC} (h:Sg l i (x++y)):Sg l i x:=by
 obtain ⟨r,hr⟩:=h;exact ⟨y++r,by rw [hr,nC]⟩
def Sg.right {l:List aC} {i:Nat} {x y:List aC} (h:Sg l i (x++y)):Sg l (i+x.length) y:=by
 obtain ⟨r,hr⟩:=h;exact ⟨r,by rw [<- Ws,hr,nC,List.drop_left' rfl]⟩
def Sg.tl {l:List aC} {i:Nat} {t:aC} {y:List aC} (h:Sg l i (t::y)):Sg l (i+1) y:=Sg.right (x:=[t]) h
def Sg.hd {l:List aC} {i:Nat} {t:aC} {y:List aC} (h:Sg l i (t::y)):∃ hi:i < l.length,l[i]=t:=by
 obtain ⟨r,hr⟩:=h;have hi:i < l.length:=by
  have:=congrArg List.length hr;simp at this;omega
 refine ⟨hi,?_⟩;rw [EN hi] at hr;exact (List.cons.inj hr).1
def Sg.kd {l:List aC} {i:Nat} {t:aC} {y:List aC} (h:Sg l i (t::y)):kd l i=t.Kind:=by
 obtain ⟨hi,e⟩:=h.hd;rw [BG hi,e]
def Sg.len {l:List aC} {i:Nat} {x:List aC} (h:Sg l i x) (hi:i<=l.length):i+x.length<=l.length:=by
 obtain ⟨r,hr⟩:=h;have:=congrArg List.length hr;simp at this;omega
def Sg.all (l:List aC):Sg l 0 l:=⟨[],aA⟩
def jC (q:aL) (k:Int):Prop:=k≠34/\∀ lv:Int,q.Level<=lv->cont lv q k=false
def jC.up {q q':aL} {k:Int} (h:jC q k) (hl:q.Level<=q'.Level) (h1:q'.aY=q.aY) (h2:q'.bg=q.bg):jC q' k:=
 ⟨h.1,fun lv hv=>by
  have:=h.2 lv ah;unfold cont at this ⊢;rw [h1,h2];exact this⟩
def atz (q:aL):jC q 0:=⟨aJ,fun lv _=>by
 unfold cont;by_cases h1:lv=1
 .subst h1;rfl
 have e1:(lv==1)=false:=by simpa using h1
 by_cases h2:lv=2
 .subst h2;rfl
 have e2:(lv==2)=false:=by simpa using h2
 rw [e1,e2];cases (lv==5)<;>cases (lv==8)<;>cases (lv==12)<;>cases (lv==13)<;>cases (lv==11)<;>cases (lv==14)<;>cases (lv==15)<;>rfl⟩
def qm (l:List aC) (i:Nat) (c:Bool):Prop:=∀ (M:Nat) (ns:List (List UInt8)),5000<=M->(bif (kd l i==32) then (ME M l (i:Int) false ns).bind fun iI=>some iI else some false)=some c
def InS (l:List aC) (q:aL) (i j:Nat) (t:av) (c:Nat):Prop:=∃ (nm:List UInt8) (ks:List av),t=⟨13,0,nm,[],ks⟩/\∀ (M:Nat) (ns:List (List UInt8)),1100000+100*(l.length - i)+44<=M+1->
 ∃ n,M - c<=n/\((∃ r:fq×Int×Bool×List (List UInt8),r.2.2.2=ns/\pF (aS<|M+1) 5 (dO q) l (i:Int) false ns=JU M (aS M) l n (dO q,r,(j:Int),false,nm,ks))\/
  ∃ r:List av×Int×Bool×List (List UInt8),r.2.2.2=ns/\pF (aS<|M+1) 5 (dO q) l (i:Int) false ns=JR M (aS M) l n (dO q,r,(j:Int),false,nm,ks))
def Am (l:List aC) (q:aL) (i j:Nat) (t:av) (h:Bool) (c:Nat):Prop:=(Rd l (aZ q 6) i j t h/\(q.aY=false->qm l i false))\/(h=false/\InS l q i j t c)
def ald (l:List aC) (q:aL) {i j:Nat} {t:av} {h:Bool} (hcm:q.aY=false->qm l i false) (hr:Rd l (aZ q 6) i j t h):Am l q i j t h 0:=.inl ⟨hr,hcm⟩
def aeA {l:List aC} {q:aL} {i M:Nat} {ns:List (List UInt8)} {c:Bool} (hM:5000<=M) (hcm:q.aY=false->qm l i c) (hn:q.aY=true->c=false):(bif (!false) then (fH l (i:Int) false ns).bind fun gM=>bif (gM==32) then bif (!(dO q).dw) then (ME M l (i:Int) false ns).bind fun iI=>some iI else some false else some false else some false)=some c:=by
 rw [mg,aO,dY,aB];show (bif (kd l i==32) then bif (!q.aY) then (ME M l (i:Int) false ns).bind fun iI=>some iI else some false else some false)=_;cases hq:q.aY with
 | true=>rw [hn hq];cases (kd l i==32)<;>rfl
 | false=>exact hcm hq M ns hM
def NC {l:List aC} {q:aL} {j:Nat} (ns:List (List UInt8)):(bif (!false) then (fH l (j:Int) false ns).bind fun Jz=>bif (Jz==24) then some (!(dO q).dw) else some false else some false)=some (cont 5 q<|kd l j):=by
 rw [mg,aO,dY,aB];show _=some (kd l j==24&&!q.aY);cases (kd l j==24)<;>rfl
section
variable (l:List aC) (hl:l.length<=3000)
include hl
theorem avu (q:aL) (hn:q.aY=false) {i k:Nat} (ts:List av) (hcm:qm l i true) (ha:kd l i=32) (hi:i < l.length) (h:Km l 33 (i+1) k ts) (ht:ts.length<=6) (hne:kd l (i+1)≠33) (hk:i < k) (hk2:k+1 < l.length) (hin:kd l k=24) (hnm:kd l (k+1)=6) (hz:aT ts<=1000):Am l q i (k+2) ⟨13,0,(l[k+1]'hk2).Text,[],ts⟩ false 0:=by
 refine .inr ⟨rfl,_,ts,rfl,fun M ns hM=>?_⟩;obtain ⟨M,rfl⟩:∃ m,M=m+2:=⟨M - 2,ah⟩
 have e0:=aez l hl 33 (.inl rfl) M ns ts (i+1) k h ht (.inl hne) ah;have Wy:(aS<|M+2).Ac 33 l ((i+1:Nat):Int) false ns=_:=e0;have hg:cont 5 q (kd l k)=true:=by show (kd l k==24&&!q.aY)=true;rw [hin,hn];rfl
 have c24:(kd l k !=24)=false:=by rw [hin];rfl
 have hnn:neN ts=some false:=by
  cases ts with
  | nil=>exact h.elim
  | cons _ _=>rfl
 refine ⟨M+2,ah,.inr ⟨(ts,(k:Int),false,ns),rfl,?_⟩⟩;show GJ (M+2) (aS<|M+2) (dO q) l (i:Int) false ns=_;unfold GJ;rw [aeA ah (fun _=>hcm) (fun e=>by rw [hn] at e;cases e),aB,aO,uU (Ai hi) (show l.length<=100000 by omega),Wy,aB];dsimp only;have EY:(bif (!false) then (fH l (k:Int) false ns).bind fun jm=>some (jm !=24) else some false)=some false:=by rw [mg,aO,dY,aB,c24]
 rw [EY,aB,aI,NC,aB,hg,aO,hnn,aB,uU (show k<=l.length by omega) (show l.length<=100000 by omega),ZX ns hk2 ah hnm,aB]
theorem avv (q:aL) (hn:q.aY=false) {i j:Nat} {t:av} {h:Bool} {c:Nat} (hch:Am l q i j t h c) (hc:c<=3000) (hj:j+1 < l.length) (hin:kd l j=24) (hnm:kd l (j+1)=6) (hz:aX t<=1000):Am l q i (j+2) ⟨13,0,(l[j+1]'hj).Text,[],[t]⟩ false (c+1):=by
 refine .inr ⟨rfl,_,[t],rfl,fun M ns hM=>?_⟩;have hg:cont 5 q (kd l j)=true:=by show (kd l j==24&&!q.aY)=true;rw [hin,hn];rfl
 have n6:(6:Int).toNat=6:=rfl;rcases hch with ⟨hr,hcm⟩|⟨_,nm,ks,rfl,hs⟩
 .have e:=hr M (by show _+4*(16 - (6:Int).toNat)<=M;omega) ns;have e':(aS M).Bu (dO q) l (i:Int) false ns=some (eF t h,(j:Int),false,ns):=e;refine ⟨M,ah,.inl ⟨(eF t h,(j:Int),false,ns),rfl,?_⟩⟩;show GJ M (aS M) (dO q) l (i:Int) false ns=_;unfold GJ;rw [aeA ah hcm fun _=>rfl,aB,aI,e',aB];dsimp only;rw [NC,aB,hg,aO,uU (show j<=l.length by omega) (show l.length<=100000 by omega),ZX ns hj ah hnm,aB];rfl
 .obtain ⟨n,hn1,hs⟩:=hs M ns hM;obtain ⟨n,rfl⟩:∃ k,n=k+1:=⟨n - 1,ah⟩
  refine ⟨n,ah,?_⟩;rcases hs with ⟨r,hr,hs⟩|⟨r,hr,hs⟩
  .refine .inl ⟨r,hr,hs.trans ?_⟩;rw [JU,hr,NC,aB,hg,aO,uU (show j<=l.length by omega) (show l.length<=100000 by omega),ZX ns hj ah hnm,aB]
  .refine .inr ⟨r,hr,hs.trans ?_⟩;rw [JR,hr,NC,aB,hg,aO,uU (show j<=l.length by omega) (show l.length<=100000 by omega),ZX ns hj ah hnm,aB]
omit hl in
theorem Am.done (q:aL) (hq:q.Level=5) {i j:Nat} {t:av} {h:Bool} {c:Nat} (hch:Am l q i j t h c) (hc:c<=3000) (hs:cont 5 q (kd l j)=false):Rd l q i j t h:=by
 intro M hM;have n5:(5:Int).toNat=5:=rfl;have n6:(6:Int).toNat=6:=rfl;rw [hq,n5] at hM;obtain ⟨M,rfl⟩:∃ m,M=m+1:=⟨M - 1,ah⟩
 refine nD hq fun ns=>?_;rcases hch with ⟨hr,hcm⟩|⟨rfl,nm,ks,rfl,hx⟩
 .have e:=hr M (by show _+4*(16 - (6:Int).toNat)<=M;omega) ns;have e':(aS M).Bu (dO q) l (i:Int) false ns=some (eF t h,(j:Int),false,ns):=e;show GJ M (aS M) (dO q) l (i:Int) false ns=_;unfold GJ;rw [aeA ah hcm fun _=>rfl,aB,aI,e',aB];dsimp only;rw [NC,aB,hs,aI]
 .obtain ⟨n,hn1,hx⟩:=hx M ns ah;obtain ⟨n,rfl⟩:∃ k,n=k+1:=⟨n - 1,ah⟩
  rcases hx with ⟨r,hr,hx⟩|⟨r,hr,hx⟩
  .rw [hx,JU,hr,NC,aB,hs,aI];rfl
  .rw [hx,JR,hr,NC,aB,hs,aI];rfl
end
def inn:Nat->List aC->Bool
 | d,[]=>d==0
 | d,t::ts=>bif mQ t.Kind then inn (d+1) ts else bif nU t.Kind then !(d==0)&&inn (d - 1) ts else (bif d==0&&t.Kind==36 then false else inn d ts)
def aaf (l:List aC) (M:Nat) (i:Int) (ns:List (List UInt8)) (L:List aC) (kb:(List aC×Int×Int)->Option Bool) (j D:Nat) (hj:j<=3000) (hD:1<=D):Gr M l i false ns kb (L,(j:Int),(D:Int))=kb (L,(D:Int),((j+1:Nat):Int)):=by
 unfold Gr;dsimp only;rw [tH (show¬(D:Int)<=0 by omega),aI,uU hj ah]
def aag (l:List aC) (hl:l.length<=3000) (M i:Nat) (ns:List (List UInt8)) (L:List aC) (hL:L=l.drop i) (r:Bool):∀ (x:List aC) (d j n:Nat) (c:aC),Sg l (i+j) (x++[c])->nU c.Kind=true/\r=false\/c.Kind=36/\r=true->inn d x=true->x.length < n->d+x.length<=4000->zf M l (i:Int) false ns n (L,((d+1:Nat):Int),(j:Int))=some r
 | [],d,j,n,c,hs,hc,hi,hn,hd=>by
  obtain ⟨n,rfl⟩:∃ m,n=m+1:=⟨n - 1,by simp at hn;omega⟩
  have hs:Sg l (i+j) (c::[]):=hs;obtain ⟨hj,hk⟩:=hs.hd;have hd0:d=0:=by simpa [inn] using hi
  subst hd0;have ND:j < L.length:=by rw [hL];simp;omega
  have Wz:L[j]=c:=by subst hL;rw [List.getElem_drop];exact hk
  rw [zf,iL ND,aO,dn ND,aB,Wz,ZY,aB];rcases hc with ⟨hc,rfl⟩|⟨hc,rfl⟩
  .have hop:mQ c.Kind=false:=by
    cases h:mQ c.Kind with
    | false=>rfl
    | true=>rw [(VK h).1] at hc;cases hc
   rw [hop,aI,clI,aB,hc,aO];unfold Gr;rfl
  .rw [hc,show mQ 36=false from rfl,aI,clI,aB,show nU 36=false from rfl,aI];rfl
 | t::x,d,j,n,c,hs,hc,hi,hn,hd=>by
  simp only [jG] at hn hd;obtain ⟨n,rfl⟩:∃ m,n=m+1:=⟨n - 1,ah⟩
  have hs:Sg l (i+j) (t::(x++[c])):=hs;obtain ⟨hj,hk⟩:=hs.hd;have htl:Sg l (i+(j+1)) (x++[c]):=hs.tl;have ND:j < L.length:=by rw [hL];simp;omega
  have Wz:L[j]=t:=by subst hL;rw [List.getElem_drop];exact hk
  rw [inn] at hi;rw [zf,iL ND,aO,dn ND,aB,Wz,ZY,aB];cases ho:mQ t.Kind with
  | true=>
   rw [ho,aO] at hi;rw [aO,wrap64 ah ah,show ((d+1:Nat):Int)+1=((d+1+1:Nat):Int) by omega,aaf l M i ns L _ j (d+1+1) ah ah];exact aag l hl M i ns L hL r x (d+1) (j+1) n c htl hc hi ah ah
  | false=>
   rw [ho,aI] at hi;rw [aI,clI,aB];cases hcl:nU t.Kind with
   | true=>
    rw [hcl,aO] at hi;cases d with
    | zero=>cases hi
    | succ d=>
     have hi:inn d x=true:=by simpa using hi
     rw [aO,wrap64 ah ah,show ((d+1+1:Nat):Int) - 1=((d+1:Nat):Int) by omega,aaf l M i ns L _ j (d+1) ah ah];exact aag l hl M i ns L hL r x d (j+1) n c htl hc hi ah ah
   | false=>
    rw [hcl,aI] at hi;have h36:(d==0&&t.Kind==36)=false:=by
     cases h:(d==0&&t.Kind==36) with
     | true=>rw [h,aO] at hi;cases hi
     | false=>rfl
    rw [h36,aI] at hi;have hb:(bif (t.Kind==36) then some (((d+1:Nat):Int)==1) else some false)=some false:=by
     cases h:t.Kind==36 with
     | false=>rfl
     | true=>
      rw [h,BO] at h36;have: ¬d=0:=by simpa using h36
      have:(((d+1:Nat):Int)==1)=false:=bE;rw [this];rfl
    rw [aI,hb,aB,aI,aaf l M i ns L _ j (d+1) ah ah];exact aag l hl M i ns L hL r x d (j+1) n c htl hc hi ah ah
def ale (l:List aC) (hl:l.length<=3000) (i:Nat) (o c:aC) (x:List aC) (r:Bool) (hs:Sg l i (o::(x++[c]))) (ho:o.Kind=32) (hc:nU c.Kind=true/\r=false\/c.Kind=36/\r=true) (hi:inn 0 x=true):qm l i r:=by
 intro M ns hM;obtain ⟨hj,hk⟩:=hs.hd;have hlen:=hs.tl.len ah;simp only [jB,Rp] at hlen;obtain ⟨M,rfl⟩:∃ m,M=m+1:=⟨M - 1,ah⟩
 have hkd:kd l i=32:=by rw [BG hj,hk,ho]
 have hcut:=ajV (l:=l) (a:=i) (b:=l.length) ah (dX _);have ht:(l.drop i).take (l.length - i)=l.drop i:=aiM aA;rw [ht] at hcut;have ND:0 < (l.drop i).length:=bE;have Wz:(l.drop i)[0]=o:=by rw [List.getElem_drop];exact hk
 have e0:ix (l.drop i) 0=some (l.drop i)[0]:=dn ND;rw [hkd,show ((32:Int)==32)=true from rfl,aO];unfold ME;rw [hcut,aB,zf,kL (show (0:Int) < ((l.drop i).length:Int) by omega),aO,e0,aB,Wz,ZY,ho,aB,show mQ 32=true from rfl,aO];have:=aaf l (M+1) (i:Int) ns (l.drop i) (zf (M+1) l (i:Int) false ns M) 0 1 ah ah;have this:Gr (M+1) l (i:Int) false ns (zf (M+1) l (i:Int) false ns M) (l.drop i,0,IntKind.wrap .i64<|0+1)=_:=this;rw [this,aag l hl (M+1) i ns (l.drop i) rfl r x 0 (0+1) M c hs.tl hc hi ah ah];rfl
def avw (l:List aC) (hl:l.length<=3000) (i:Nat) (o c:aC) (x:List aC) (hs:Sg l i (o::(x++[c]))) (ho:o.Kind=32) (hc:nU c.Kind=true) (hi:inn 0 x=true):qm l i false:=ale l hl i o c x false hs ho (.inl ⟨hc,rfl⟩) hi
def avx (l:List aC) (hl:l.length<=3000) (i:Nat) (o c:aC) (x:List aC) (hs:Sg l i (o::(x++[c]))) (ho:o.Kind=32) (hc:c.Kind=36) (hi:inn 0 x=true):qm l i true:=ale l hl i o c x true hs ho (.inr ⟨hc,rfl⟩) hi
def avy (l:List aC) (i:Nat) (h:kd l i≠32):qm l i false:=by
 intro M ns hM;have:(kd l i==32)=false:=by simpa using h
 rw [this];rfl
def aqR (k:Int):MW k=some (mQ k):=opS k
def aqS (k:Int):MV k=some (nU k):=clS k
def NG {lv most:Int} {sd:Int×Int} (hc:Dq lv most sd) (hm:0<=most) {l:List aC} {q:aL} {i j:Nat} {t:av} {h:Bool} (hr:Rd l (aZ q<|lv+1) i j t h) (hn:cont lv q (kd l j)=false):Rd l (aZ q lv) i j t h:=
 Ch.done hc (q:=aZ q lv) rfl (Ch.first hc (q:=aZ q lv) hr) (by simpa using hm) (.inl hn)
def alf {l:List aC} {q:aL} {i j:Nat} {t:av} {h:Bool} (lv:Int) (h1:1<=lv) (h10:lv<=10) (hsz:aX t<=400) (hr:Rd l (aZ q<|lv+1) i j t h) (hn:cont lv q (kd l j)=false) (hcm:lv=5->q.aY=false->qm l i false):Rd l (aZ q lv) i j t h:=by
 have:lv=1\/lv=2\/lv=3\/lv=4\/lv=5\/lv=6\/lv=7\/lv=8\/lv=9\/lv=10:=ah;rcases this with rfl|rfl|rfl|rfl|rfl|rfl|rfl|rfl|rfl|rfl
 .exact auL l (aZ q 1) i j t h rfl hr hn hsz
 .exact auM l (aZ q 2) i j t h rfl hr hn
 .exact NG (.inl ⟨rfl,rfl,rfl⟩) ah hr hn
 .exact NG (.inr<|.inl ⟨rfl,rfl,rfl⟩) ah hr hn
 .exact Am.done l (aZ q 5) rfl (ald l (aZ q 5) (hcm rfl) hr) ah hn
 .exact NG (.inr<|.inr<|.inl ⟨rfl,rfl,rfl⟩) ah hr hn
 .exact NG (.inr<|.inr<|.inr<|.inl ⟨rfl,rfl,rfl⟩) ah hr hn
 .exact NG (.inr<|.inr<|.inr<|.inr<|.inl ⟨rfl,rfl,rfl⟩) ah hr hn
 .exact NG (.inr<|.inr<|.inr<|.inr<|.inr<|.inl ⟨rfl,rfl,rfl⟩) ah hr hn
 .exact NG (.inr<|.inr<|.inr<|.inr<|.inr<|.inr ⟨rfl,rfl,rfl⟩) ah hr hn
def down {l:List aC} {q:aL} {i j:Nat} {t:av} {h:Bool} (hsz:aX t<=400) (hcm:q.aY=false->qm l i false):∀ (n:Nat) (b:Int),1<=b->b+n<=11->Rd l (aZ q<|b+n) i j t h->(∀ lv:Int,b<=lv->cont lv q (kd l j)=false)->Rd l (aZ q b) i j t h
 | 0,b,_,_,hr,_=>by
  have:b+((0:Nat):Int)=b:=ah;rw [this] at hr;exact hr
 | n+1,b,h1,h2,hr,hn=>by
  have hr':Rd l (aZ q<|(b+1)+(n:Int)) i j t h:=by
   have:b+((n+1:Nat):Int)=(b+1)+(n:Int):=ah;rw [<- this];exact hr
  exact alf b h1 ah hsz (down hsz hcm n (b+1) ah ah hr' fun lv hv=>hn lv ah) (hn b ah) fun _=>hcm
def avz {l:List aC} {q:aL} {i j:Nat} {t:av} {h:Bool} (hr:Rd l (aZ q 15) i j t h) (hk:kd l i≠68):Rd l (aZ q 14) i j t h:=auP l (aZ q 14) i j t h rfl hr hk
def avA {l:List aC} {q:aL} {i j:Nat} {t:av} {h:Bool} (hr:Rd l (aZ q 14) i j t h) (hk:(kd l i==51||kd l i==52)=false) (hc:cont 13 q (kd l j)=false):Rd l (aZ q 13) i j t h:=auO l (aZ q 13) i j t h rfl hr hc hk
def avB {l:List aC} {q:aL} {i j:Nat} {t:av} {h:Bool} (hr:Rd l (aZ q 13) i j t h) (hc:cont 12 q (kd l j)=false):Rd l (aZ q 12) i j t h:=akQ l (aZ q 12) i j t h rfl hr hc
def avC {l:List aC} {q:aL} {i j:Nat} {t:av} {h:Bool} (hr:Rd l (aZ q 13) i j t h) (hc:cont 12 q (kd l j)=false) (hk:(kd l i==56||(kd l i==55||kd l i==61))=false):Rd l (aZ q 11) i j t h:=auN l (aZ q 11) i j t h rfl hr hc hk
def NH (k:Int):Bool:=!mQ k&&(!nU k&&!(k==36))
def avD {t:aC} (h:NH t.Kind=true) (d:Nat) (y:List aC):inn d (t::y)=inn d y:=by
 unfold NH at h;simp only [dP,lI] at h;rw [inn,h.1,aI,h.2.1,aI,h.2.2,aej,aI]
def avE {t:aC} (h:mQ t.Kind=true) (d:Nat) (y:List aC):inn d (t::y)=inn (d+1) y:=by
 rw [inn,h,aO]
def avF {t:aC} (h:nU t.Kind=true) (d:Nat) (y:List aC):inn (d+1) (t::y)=inn d y:=by
 have hop:mQ t.Kind=false:=by
  cases ho:mQ t.Kind with
  | false=>rfl
  | true=>rw [(VK ho).1] at h;cases h
 rw [inn,hop,aI,h,aO];simp
end Go.Proofs.Tryz
