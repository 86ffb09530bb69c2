/-
 Plain lemmas on the models, part 1.
-/
import Derived.Test.YtpehbmgfhfpgbaaGreatDoorOnGL1
namespace Go.Proofs.Tryz
open Go.Av
set_option maxRecDepth 100000
set_option linter.all false
def jG (s:List UInt8) (i:Nat):Int:=match s[i]? with|some b=>(b.toNat:Int)|none=>-1
def auY (b:UInt8):(b.toNat:Int) < 256:=by have:=b.toNat_lt;omega
def afG (b:UInt8):IntKind.wrap .i64 ((b.toNat:Nat):Int)=(b.toNat:Int):=by have:=auY b;exact wrap64 ah ah
def afH {s:List UInt8} {i:Nat} (h:i < s.length):jG s i=(s[i].toNat:Int):=by
 unfold jG;rw [eZ h]
def afI {s:List UInt8} {i:Nat} (h: ¬i < s.length):jG s i= -1:=by
 unfold jG;rw [Bz ah]
def Xe {s:List UInt8} {i:Nat} (h:jG s i≠ -1):i < s.length:=by
 cases vZ i s.length with
 | inl h=>exact h
 | inr h'=>exact absurd (afI ah) h
def Xf (a b c:Int):rC a b c=some (decide (a>=b)&&decide (a<=c)):=by
 unfold rC;by_cases h:a>=b<;>simp [h]
def FE (a b c:Int):oP a b c=some (decide (a>=b)&&decide (a<=c)):=by
 unfold oP;by_cases h:a>=b<;>simp [h]
def Sw (s:List UInt8) (hs:s.length<=1048576) (i:Nat):Fa s (i:Int)=some (jG s i):=by
 unfold Fa;rw [Xf,wrap64 ah ah,aB,mH (by omega:(i:Int)>=0),BF];by_cases h:i < s.length
 .rw [mH ah,mI,aI,dx h,aB,afH h,afG]
 .rw [uL ah,lF,aM,afI h]
def Sy (s:List UInt8) (i:Nat):Ce s (i:Int)=some (jG s i):=by
 unfold Ce;rw [uL (by omega: ¬(i:Int) < 0),aI,aB];by_cases h:i < s.length
 .rw [uL ah,aI,dx h,aB,afH h,afG]
 .rw [mH ah,aM,afI h]
def SA (c:Int):Bool:=decide (c>=48)&&decide (c<=57)
def alP (c:Int):RX c=some (SA c):=by
 unfold RX;rw [FE];rfl
def alQ (c:Int):Rt c=some (SA c):=by
 unfold Rt SA;by_cases h:c>=48<;>simp [h]
def Oo (c:Int):Bool:=(decide (c>=97)&&decide (c<=122))||((decide (c>=65)&&decide (c<=90))||c==95)
def alR (c:Int):RU c=some (Oo c):=by
 unfold RU Oo;rw [FE,FE];cases (decide (c>=97)&&decide (c<=122))<;>cases (decide (c>=65)&&decide (c<=90))<;>rfl
def alS (c:Int):Rs c=some (Oo c):=by
 unfold Rs Oo;cases decide (c>=97)<;>cases decide (c<=122)<;>cases decide (c>=65)<;>cases decide (c<=90)<;>rfl
def Xg (c:Int):Bool:=Oo c||SA c
def auZ (c:Int):Wp c=some (Xg c):=by
 unfold Wp Xg;rw [alR,alP];cases Oo c<;>rfl
def ava (c:Int):Vt c=some (Xg c):=by
 unfold Vt Xg;rw [alS,alQ];cases Oo c<;>rfl
def avb {s:List UInt8} {i:Nat} (h:SA (jG s i)=true):i < s.length:=by
 refine Xe fun e=>?_;rw [e] at h;cases h
def FH {s:List UInt8} (hs:s.length<=1048576) {i:Nat} (h:i<=s.length+1):IntKind.wrap .i64 ((i:Int)+1)=((i+1:Nat):Int):=by
 rw [wrap64 ah ah];omega
def avc (N M:Nat) (s:List UInt8) (hs:s.length<=1048576):∀ (n m i:Nat),s.length - i < n->s.length - i < m->i<=s.length->∃ r:Nat,NH N n (s,(i:Int))=some (r:Int)/\Nl M m (s,(i:Int))=some (r:Int)/\i<=r/\r<=s.length:=by
 intro n;induction n with
 | zero=>intro m i h;omega
 | succ n ih=>
  intro m i hn hm hi;obtain ⟨m,rfl⟩:∃ k,m=k+1:=⟨m - 1,ah⟩
  rw [NH,Nl,Sy,Sw s hs,aB,aB,alP,alQ,aB,aB];cases h:SA (jG s i) with
  | false=>exact ⟨i,rfl,rfl,eD _,hi⟩
  | true=>
   have:=avb h;rw [aM,aM,FH hs ah];obtain ⟨r,h1,h2,h3,h4⟩:=ih m (i+1) ah ah ah;exact ⟨r,h1,h2,ah,h4⟩
def afJ (N:Nat) (s:List UInt8) (hs:s.length<=1048576) (hN:s.length < N) (i:Nat) (hi:i<=s.length):∃ r:Nat,NI N s (i:Int)=some (r:Int)/\Rv N s (i:Int)=some (r:Int)/\i<=r/\r<=s.length:=
 avc N N s hs N N i ah ah hi
def alT (N:Nat) (s:List UInt8) (hs:s.length<=1048576) (hN:s.length < N) (a y:Nat) (z:Int) (hy:y<=s.length) (hay:a<=y) (hz:(((y:Int)==(a:Int))=true)↔((z==0)=true)):
  ∃ r:Int,RZ N (s,(a:Int),(y:Int))=some r/\Nn N (s,(y:Int),z)=some r/\(r= -1\/(a < r/\r<=s.length)):=by
 simp only [RZ,Nn];cases he:((y:Int)==(a:Int)) with
 | true=>
  rw [hz.1 he];exact ⟨-1,rfl,rfl,.inl rfl⟩
 | false=>
  have hz0:(z==0)=false:=by
   cases h:(z==0) with
   | false=>rfl
   | true=>rw [hz.2 h] at he;cases he
  have hne: ¬(y:Int)=a:=by simpa using he
  have hcond:((some<|jG s y).bind fun fZ=>bif (fZ==101) then some true else ((some<|jG s y).bind fun nD=>some<|nD==69))=some (jG s y==101||jG s y==69):=by
   cases h:(jG s y==101)<;>simp [h]
  have avd:(bif (jG s y==101) then some true else some (jG s y==69))=some (jG s y==101||jG s y==69):=by
   cases (jG s y==101)<;>rfl
  rw [hz0,aI,aI,Sy,Sw s hs,hcond,aB,aB,avd,aB];have hdone:∃ r:Int,Ww N (y:Int)=some r/\Vy N (y:Int)=some r/\(r= -1\/(a < r/\r<=s.length)):=⟨y,rfl,rfl,.inr ⟨ah,ah⟩⟩
  cases hE:(jG s y==101||jG s y==69) with
  | false=>exact hdone
  | true=>
   have hlt:y < s.length:=by
    refine Xe fun e=>?_;rw [e] at hE;cases hE
   have hk3:∀ x:Nat,x<=s.length->y<=x->∃ r:Int,RY N (s,(y:Int),(x:Int))=some r/\Rw N (s,(y:Int),(x:Int))=some r/\(r= -1\/(a < r/\r<=s.length)):=by
    intro x hx hyx;obtain ⟨r,h1,h2,h3,h4⟩:=afJ N s hs hN x hx;simp only [RY,Rw,h1,h2,aB];by_cases hr:(r:Int) > x
    .rw [mH hr];exact ⟨r,rfl,rfl,.inr ⟨ah,ah⟩⟩
    .rw [uL hr];exact hdone
   have hs1:=FH hs (i:=y) ah;have hs2:=FH hs (i:=y+1) ah;have hsg:((some<|jG s<|y+1).bind fun xO=>bif (xO==43) then some true else ((some<|jG s<|y+1).bind fun cB=>some<|cB==45))=some (jG s (y+1)==43||jG s (y+1)==45):=by
    cases h:(jG s (y+1)==43)<;>simp [h]
   have ave:(bif (jG s (y+1)==43) then some true else some (jG s (y+1)==45))=some (jG s (y+1)==43||jG s (y+1)==45):=by
    cases (jG s (y+1)==43)<;>rfl
   simp only [aM,hs1,hs2,Sy,Sw s hs,aB] at hsg ave ⊢;simp only [hsg,aB];cases hS:(jG s (y+1)==43||jG s (y+1)==45) with
   | true=>
    have:y+1 < s.length:=by
     refine Xe fun e=>?_;rw [e] at hS;cases hS
    exact hk3 (y+1+1) ah ah
   | false=>exact hk3 (y+1) ah ah
def avf (N:Nat) (s:List UInt8) (hs:s.length<=1048576) (hN:s.length < N) (i:Nat) (hi:i < s.length):
  ∃ r:Int,Sb N s (i:Int)=some r/\Rx N s (i:Int)=some r/\(r= -1\/(i < r/\r<=s.length)):=by
 unfold Sb Rx;obtain ⟨r,h1,h2,h3,h4⟩:=afJ N s hs hN i ah;rw [Xf,wrap64 (n:=(s.length:Int) - 1) ah ah,uL (by omega: ¬(i:Int) < 0),mH (by omega:(i:Int)>=0),mH (by omega:(i:Int)<=(s.length:Int) - 1),aI,aB,zw,mI,aI,h1,h2,aB,aB,Sy,Sw s hs,aB,aB];cases hd:(jG s r==46) with
 | false=>
  rw [aI,aI,wrap64 (n:=(r:Int) - i) ah ah];refine alT N s hs hN i r _ h4 h3 ?_;constructor
  .intro h;have:=eq_of_beq h;rw [this];simp
  .intro h;have:=eq_of_beq h;exact oZ.2 ah
 | true=>
  have hlt:r < s.length:=by
   refine Xe fun e=>?_;rw [e] at hd;cases hd
  obtain ⟨q,g1,g2,g3,g4⟩:=afJ N s hs hN (r+1) ah;rw [aM,aM,FH hs ah,g1,g2,aB,aB,wrap64 (n:=(r:Int) - i) ah ah,wrap64 (n:=(q:Int) - r) ah ah,wrap64 (n:=(q:Int) - r - 1) ah ah,wrap64 ah ah];have avg:=alT N s hs hN i q ((r:Int) - i+((q:Int) - r - 1)) g4 ah;by_cases he:(r:Int)=i/\(q:Int)=((r+1:Nat):Int)
  .have e1:((r:Int)==(i:Int))=true:=oZ.2 he.1;have e2:((q:Int)==((r+1:Nat):Int))=true:=oZ.2 he.2;have e3:(((r:Int) - i+((q:Int) - r - 1))==0)=true:=oZ.2 ah;simp only [e1,e2,aM,aB,Nn,e3];exact ⟨-1,rfl,rfl,.inl rfl⟩
  .have hc:(bif ((r:Int)==(i:Int)) then some ((q:Int)==((r+1:Nat):Int)) else some false)=some false:=by
    cases e1:((r:Int)==(i:Int)) with
    | false=>rfl
    | true=>
     have e2:((q:Int)==((r+1:Nat):Int))=false:=by
      cases e2:((q:Int)==((r+1:Nat):Int)) with
      | false=>rfl
      | true=>exact absurd ⟨eq_of_beq e1,eq_of_beq e2⟩ he
     rw [e2];rfl
   rw [hc,aB,aI];refine avg ?_;have n1:((q:Int)==(i:Int))=false:=by
    cases e:((q:Int)==(i:Int)) with
    | false=>rfl
    | true=>have:=eq_of_beq e;omega
   have n2:(((r:Int) - i+((q:Int) - r - 1))==0)=false:=by
    cases e:(((r:Int) - i+((q:Int) - r - 1))==0) with
    | false=>rfl
    | true=>have:=eq_of_beq e;exact absurd ⟨ah,ah⟩ he
   rw [n1,n2]
def avh (N M:Nat) (s:List UInt8) (hs:s.length<=1048576) (q:Int) (hq:q≠10) (hq2:q≠92):∀ (n m i:Nat),s.length+1 - i < n->s.length+1 - i < m->i<=s.length+1->
  ∃ r:Int,Hr N n (s,q,(i:Int))=some r/\Fb M m (s,q,(i:Int))=some r/\(r= -1\/(i < r/\r<=s.length)):=by
 intro n;induction n with
 | zero=>intro m i h;omega
 | succ n ih=>
  intro m i hn hm hi;obtain ⟨m,rfl⟩:∃ k,m=k+1:=⟨m - 1,ah⟩
  rw [Hr,Fb];by_cases h:i < s.length
  .simp only [iT h,aM,dx h,aB,afG,FH hs (by omega:i<=s.length+1)];have hge:=ih m;by_cases h10:(s[i].toNat:Int)=10
   .have e1:((s[i].toNat:Int)==q)=false:=by
     cases e:((s[i].toNat:Int)==q) with
     | false=>rfl
     | true=>have:=eq_of_beq e;omega
    have e2:((s[i].toNat:Int)==10)=true:=oZ.2 h10;have e3:((s[i].toNat:Int) !=10)=false:=by rw [bne,e2];rfl
    rw [e1,e2,e3];exact ⟨-1,rfl,rfl,.inl rfl⟩
   .have e2:((s[i].toNat:Int)==10)=false:=by
     cases e:((s[i].toNat:Int)==10) with
     | false=>rfl
     | true=>exact absurd (eq_of_beq e) h10
    have e3:((s[i].toNat:Int) !=10)=true:=by rw [bne,e2];rfl
    rw [e2,e3];simp only [aM,aI];cases e1:((s[i].toNat:Int)==q) with
    | true=>exact ⟨((i+1:Nat):Int),rfl,rfl,.inr ⟨ah,ah⟩⟩
    | false=>
     simp only [aI];cases e4:((s[i].toNat:Int)==92) with
     | false=>
      simp only [aI,aB,Sc,Np,FH hs (by omega:i<=s.length+1)];obtain ⟨r,h1,h2,h3⟩:=hge (i+1) ah ah ah;exact ⟨r,h1,h2,h3.imp id fun h=>⟨ah,h.2⟩⟩
     | true=>
      rw [aM,aM,Sy,Sw s hs,aB,aB,aB];cases e5:(jG s (i+1)==10) with
      | true=>
       have e6:(jG s (i+1) !=10)=false:=by rw [bne,e5];rfl
       have hlt:i+1 < s.length:=by
        refine Xe fun e=>?_;rw [e] at e5;cases e5
       have avi:((s[i+1].toNat:Int) !=10)=false:=by
        rw [afH hlt] at e6;exact e6
       rw [e6];obtain ⟨m,rfl⟩:∃ k,m=k+1:=⟨m - 1,ah⟩
       simp only [aM,aI,Np,FH hs (by omega:i<=s.length+1)];rw [Fb];simp only [iT hlt,aM,dx hlt,aB,avi,aI];exact ⟨-1,rfl,rfl,.inl rfl⟩
      | false=>
       have e6:(jG s (i+1) !=10)=true:=by rw [bne,e5];rfl
       rw [e6];simp only [aM,aI,Sc,Np,FH hs (by omega:i+1<=s.length+1)];obtain ⟨r,h1,h2,h3⟩:=hge (i+1+1) ah ah ah;exact ⟨r,h1,h2,h3.imp id fun h=>⟨ah,h.2⟩⟩
  .simp only [jZ h,aI,aB];exact ⟨-1,rfl,rfl,.inl rfl⟩
def alU (N:Nat) (s:List UInt8) (hs:s.length<=1048576) (hN:s.length+2 < N) (q:Int) (hq:q≠10) (hq2:q≠92) (i:Nat) (hi:i < s.length):
  ∃ r:Int,Sd N s (i:Int) q=some r/\Ry N s (i:Int) q=some r/\(r= -1\/(i < r/\r<=s.length)):=by
 unfold Sd Ry;rw [Sy,Sw s hs,aB,aB,FH hs ah];cases (jG s i !=q) with
 | true=>exact ⟨-1,rfl,rfl,.inl rfl⟩
 | false=>
  obtain ⟨r,h1,h2,h3⟩:=avh N N s hs q hq hq2 N N (i+1) ah ah ah;exact ⟨r,h1,h2,h3.imp id fun h=>⟨ah,h.2⟩⟩
def avj (N:Nat) (s:List UInt8) (hs:s.length<=1048576) (hN:s.length+2 < N) (i:Nat) (hi:i < s.length):
  ∃ r:Int,NJ N s (i:Int)=some r/\Rz N s (i:Int)=some r/\(r= -1\/(i < r/\r<=s.length)):=by
 obtain ⟨r,h1,h2,h3⟩:=alU N s hs hN 34 aJ aJ i hi;unfold NJ Rz;rw [h1,h2];exact ⟨r,rfl,rfl,h3⟩
def avk (N:Nat) (s:List UInt8) (hs:s.length<=1048576) (hN:s.length+2 < N) (i:Nat) (hi:i < s.length):
  ∃ r:Int,NK N s (i:Int)=some r/\RA N s (i:Int)=some r/\(r= -1\/(i < r/\r<=s.length)):=by
 obtain ⟨r,h1,h2,h3⟩:=alU N s hs hN 47 aJ aJ i hi;unfold NK RA;simp only [h1,h2,aB];cases (r==IntKind.wrap .i64 ((i:Int)+2)) with
 | true=>exact ⟨-1,rfl,rfl,.inl rfl⟩
 | false=>exact ⟨r,rfl,rfl,h3⟩
def avl (N M:Nat) (s:List UInt8) (hs:s.length<=1048576):∀ (n m i:Nat),s.length - i < n->s.length - i < m->i<=s.length->∃ b:Bool,Kt N n (s,(i:Int))=some b/\Ng M m (s,(i:Int))=some b:=by
 intro n;induction n with
 | zero=>intro m i h;omega
 | succ n ih=>
  intro m i hn hm hi;obtain ⟨m,rfl⟩:∃ k,m=k+1:=⟨m - 1,ah⟩
  rw [Kt,Ng];by_cases h:i < s.length
  .simp only [iT h,aM,dx h,aB,auZ,ava,FH hs (by omega:i<=s.length+1)];cases Xg (IntKind.wrap .i64 ((s[i].toNat:Nat):Int)) with
   | false=>exact ⟨false,rfl,rfl⟩
   | true=>exact ih m (i+1) ah ah ah
  .simp only [jZ h,aI,FE,Xf,aB];cases hc:(decide ((s.length:Int)>=1)&&decide ((s.length:Int)<=12)) with
   | false=>exact ⟨false,rfl,rfl⟩
   | true=>
    have h0:0 < s.length:=by
     simp only [dP,lQ] at hc;omega
    have e:ix s 0=some s[0]:=dx h0;simp only [aM,e,aB,alR,alS];exact ⟨_,rfl,rfl⟩
def avm (N:Nat) (s:List UInt8) (hs:s.length<=1048576) (hN:s.length < N):∃ b:Bool,Wq N s=some b/\aax N s=some b:=
 avl N N s hs N N 0 ah ah ah
def abm:Ws=some rR:=rfl
def avn:aaP=some zq:=rfl
def afK:aaR=some zo:=rfl
def avo (N M:Nat) (l:List (List UInt8)) (x:List UInt8) (hl:l.length<=1048576):∀ (n m i:Nat),l.length - i < n->l.length - i < m->i<=l.length->
  ∃ r:Int,ND N n (l,x,(i:Int))=some r/\JX M m (l,x,(i:Int))=some r/\(-1<=r/\(0<=r->x∈l))/\r < l.length:=by
 intro n;induction n with
 | zero=>intro m i h;omega
 | succ n ih=>
  intro m i hn hm hi;obtain ⟨m,rfl⟩:∃ k,m=k+1:=⟨m - 1,ah⟩
  rw [ND,JX];by_cases h:i < l.length
  .have hst:IntKind.wrap .i64 ((i:Int)+1)=((i+1:Nat):Int):=MB h (by simp only [maxLen];omega);have hc:(x==l[i])=(l[i]==x):=by
    cases e:(l[i]==x) with
    | true=>have:=eq_of_beq e;subst this;simp
    | false=>
     have: ¬l[i]=x:=by simpa using e
     simpa using fun e=>this e.symm
   simp only [iT h,aM,dx h,aB,hst,hc];cases he:(l[i]==x) with
   | true=>exact ⟨(i:Int),rfl,rfl,⟨ah,fun _=>by have:=eq_of_beq he;rw [<- this];exact nW h⟩,ah⟩
   | false=>exact ih m (i+1) ah ah ah
  .simp only [jZ h,aI];exact ⟨-1,rfl,rfl,⟨ah,fun h=>ah⟩,ah⟩
def alV (N:Nat) (l:List (List UInt8)) (x:List UInt8) (hl:l.length<=1048576) (hN:l.length < N):∃ r:Int,Wt N l x=some r/\Ru N l x=some r/\(-1<=r/\(0<=r->x∈l))/\r < l.length:=
 avo N N l x hl N N 0 ah ah ah
def avp (N:Nat) (x:List UInt8) (hN:100 < N):∃ r:Int,Wu N x=some r/\Vv N x=some r/\(r=0\/(10<=r/\r<=26)):=by
 obtain ⟨r,h1,h2,h3,h4⟩:=alV N rR x aJ (by have:rR.length=17:=rfl;omega);have hl:rR.length=17:=rfl;unfold Wu Vv;rw [abm,aB,h1,h2];simp only [aB];by_cases h:r < 0
 .rw [mH h];exact ⟨0,rfl,rfl,.inl rfl⟩
 .rw [uL h,wrap64 (n:=10+r) ah ah];exact ⟨10+r,rfl,rfl,.inr ah⟩
def afL (N:Nat) (x:List UInt8) (hN:100 < N):∃ b:Bool,Hq N x=some b/\Nk N x=some b/\(b=true->x∈zq):=by
 obtain ⟨r,h1,h2,h3,h4⟩:=alV N zq x aJ (by have:zq.length=21:=rfl;omega);unfold Hq Nk Nj;rw [avn,aB,h1,h2];exact ⟨_,rfl,rfl,fun h=>h3.2<|by simpa using h⟩
def avq (b:UInt8):(((b).toNat:Int)==10)=(b==10):=by
 cases h:(b==10) with
 | true=>have:=eq_of_beq h;subst this;rfl
 | false=>
  have hne:b≠10:=by simpa using h
  have: ¬b.toNat=10:=fun e=>hne (UInt8.toNat.inj e);simp;omega
def avr (N:Nat) (t:List UInt8) (ht:t.length<=maxLen):∀ (n i:Nat),t.length - i < n->i<=t.length->NG N n (t,(i:Int))=some (!(t.drop i).contains 10):=by
 intro n;induction n with
 | zero=>intro i h;omega
 | succ n ih=>
  intro i hn hi;rw [NG];by_cases h:i < t.length
  .simp only [iT h,aM,dx h,aB,avq,MB h ht];rw [ih (i+1) ah ah,drop_cons h,List.contains_cons];by_cases he:t[i]=10
   .simp [he]
   .have h1:(t[i]==10)=false:=by simpa using he
    have h2:((10:UInt8)==t[i])=false:=by simpa using fun e=>he e.symm
    rw [h1,h2,aI,Uf]
  .simp only [jZ h,aI];rw [drop_nil h];rfl
def avs (N:Nat) (t:List UInt8) (hN:t.length < N) (ht:t.length<=maxLen):Wv N t=some (!t.contains 10):=by
 unfold Wv;have:=avr N t ht N 0 ah ah;simpa using this
def avt (l:List UInt8) (c:UInt8):decide (Go.Lib.indexByte l c>=0)=l.contains c:=by
 induction l with
 | nil=>rfl
 | cons b l ih=>
  rw [List.contains_cons];unfold Go.Lib.indexByte;by_cases h:(b==c)=true
  .have:(c==b)=true:=by have:=eq_of_beq h;subst this;simp
   simp [h,this]
  .have hf:(b==c)=false:=by simpa using h
   have hf2:(c==b)=false:=by
    have: ¬b=c:=by simpa using hf
    simpa using fun e=>this e.symm
   rw [hf,hf2,Uf,<- ih];have hge:=Go.Lib.indexByte_ge l c;simp only [Bool.false_eq_true,if_false];split
   .rename_i he;have:Go.Lib.indexByte l c= -1:=by simpa using he
    rw [this]
   .rename_i he;have: ¬Go.Lib.indexByte l c= -1:=by simpa using he
    have h1:Go.Lib.indexByte l c>=0:=ah;have h2:Go.Lib.indexByte l c+1>=0:=ah;simp [h1,h2]
def avu (t:List UInt8):Vx t=some (t.contains 10):=by
 have h0:Vw t=some (Go.Lib.indexByte t 10):=by
  unfold Vw;by_cases h:(([10]:List UInt8)==t)=true
  .have:=eq_of_beq h;subst this;rfl
  .have hf:(([10]:List UInt8)==t)=false:=by simpa using h
   rw [hf,aI];rfl
 unfold Vx aay;rw [h0,aB,aB,avt]
def avv (k:Int):∃ x:List UInt8,DC k=some x/\(k=0->x=[]):=by
 unfold DC;rw [FE,FE,abm,afK];simp only [aB];cases h1:(k==1) with
 | true=>exact ⟨[10],rfl,fun h=>by subst h;cases h1⟩
 | false=>
  cases h2:(decide (k>=10)&&decide (k<=26)) with
  | true=>
   simp only [dP,lQ] at h2;obtain ⟨j,rfl⟩:∃ j:Nat,k=(j:Int)+10:=⟨(k - 10).toNat,ah⟩
   have hl:rR.length=17:=rfl;have hw:IntKind.wrap .i64 ((j:Int)+10 - 10)=(j:Int):=by rw [wrap64 ah ah];omega
   rw [aI,aM,hw,dx ah];exact ⟨_,rfl,fun h=>ah⟩
  | false=>
   cases h3:(decide (k>=30)&&decide (k<=68)) with
   | true=>
    simp only [dP,lQ] at h3;obtain ⟨j,rfl⟩:∃ j:Nat,k=(j:Int)+30:=⟨(k - 30).toNat,ah⟩
    have hl:zo.length=39:=rfl;have hw:IntKind.wrap .i64 ((j:Int)+30 - 30)=(j:Int):=by rw [wrap64 ah ah];omega
    rw [aI,aI,aM,hw,dx ah];exact ⟨_,rfl,fun h=>ah⟩
   | false=>exact ⟨[],rfl,fun _=>rfl⟩
def alW (k:Int):∃ x:List UInt8,DC k=some x/\Nq k=some x/\(k=0->x=[]):=by
 have hkw:Vz k=some (decide (k>=10)&&decide (k<=26)):=by
  unfold Vz;rw [Xf];rfl
 have hsg:VA k=some (decide (k>=30)&&decide (k<=68)):=by
  unfold VA;rw [Xf];rfl
 unfold DC Nq;rw [FE,FE,hkw,hsg,abm,afK];simp only [aB];cases h1:(k==1) with
 | true=>exact ⟨[10],rfl,rfl,fun h=>by subst h;cases h1⟩
 | false=>
  cases h2:(decide (k>=10)&&decide (k<=26)) with
  | true=>
   simp only [dP,lQ] at h2;obtain ⟨j,rfl⟩:∃ j:Nat,k=(j:Int)+10:=⟨(k - 10).toNat,ah⟩
   have hl:rR.length=17:=rfl;have hw:IntKind.wrap .i64 ((j:Int)+10 - 10)=(j:Int):=by rw [wrap64 ah ah];omega
   rw [aI,aM,hw,dx ah];exact ⟨_,rfl,rfl,fun h=>ah⟩
  | false=>
   cases h3:(decide (k>=30)&&decide (k<=68)) with
   | true=>
    simp only [dP,lQ] at h3;obtain ⟨j,rfl⟩:∃ j:Nat,k=(j:Int)+30:=⟨(k - 30).toNat,ah⟩
    have hl:zo.length=39:=rfl;have hw:IntKind.wrap .i64 ((j:Int)+30 - 30)=(j:Int):=by rw [wrap64 ah ah];omega
    rw [aI,aI,aM,hw,dx ah];exact ⟨_,rfl,rfl,fun h=>ah⟩
   | false=>exact ⟨[],rfl,rfl,fun _=>rfl⟩
def afM (N:Nat) (x:List UInt8) (hx:x.length<=1048576) (hN:x.length+200 < N):∃ b:Bool,Dz N x=some b/\BX N x=some b/\(x=[]->b=false):=by
 unfold Dz BX;obtain ⟨q,h1,h2⟩:=avm N x hx ah;obtain ⟨r,g1,g2,_⟩:=avp N x ah;obtain ⟨c,f1,f2,_⟩:=afL N x ah;have hq:x=[]->q=false:=by
  intro e;subst e;unfold Wq at h1;obtain ⟨M,rfl⟩:∃ m,N=m+1:=⟨N - 1,ah⟩
  rw [Kt] at h1;have e1:decide ((0:Int) < (([]:List UInt8).length:Int))=false:=rfl;have e2:oP (([]:List UInt8).length:Int) 1 12=some false:=rfl;rw [e1,aI,e2] at h1;simpa using h1.symm
 rw [h1,h2,aB,aB];cases hqv:q with
 | false=>exact ⟨false,rfl,rfl,fun _=>rfl⟩
 | true=>
  rw [aM,aM,g1,g2,aB,aB];cases (r==0) with
  | false=>exact ⟨false,rfl,rfl,fun _=>rfl⟩
  | true=>
   rw [aM,aM,f1,f2];exact ⟨!c,rfl,rfl,fun e=>by rw [hq e] at hqv;cases hqv⟩
def afN (x:List UInt8):(x==[])=true↔x=[]:=aA
def SB (N:Nat) (t:aG) (ht:t.Text.length<=1048576) (hN:t.Text.length+200 < N):∃ b:Bool,uf N t=some b/\Nr N t=some b/\(t.Kind=0->b=false):=by
 obtain ⟨sp,s1,s2,s3⟩:=alW t.Kind;obtain ⟨nb,n1,n2,n3⟩:=afM N t.Text ht hN;obtain ⟨bb,b1,b2,b3⟩:=afL N t.Text ah;have hk1:∀ y:Bool,¬t.Text=[]->∃ b:Bool,Ba N (t,y)=some b/\RB N (t,y)=some b/\(t.Kind=0->y=false->b=false):=by
  intro y hne;have hbn:(t.Text==[])=false:=by
   cases e:(t.Text==[]) with
   | false=>rfl
   | true=>exact absurd ((afN _).1 e) hne
  simp only [Ba,RB];rw [n1,n2,b1,b2,s1,s2,hbn];cases y with
  | true=>exact ⟨nb,rfl,rfl,fun _ h=>by cases h⟩
  | false=>
   cases h8:(t.Kind==8) with
   | true=>
    refine ⟨bb,rfl,rfl,fun h=>?_⟩;rw [h] at h8;cases h8
   | false=>
    have hc:(sp==t.Text)=(t.Text==sp):=by
     cases e:(t.Text==sp) with
     | true=>have:=eq_of_beq e;rw [this];simp
     | false=>
      have: ¬t.Text=sp:=by simpa using e
      simpa using fun e=>this e.symm
    refine ⟨t.Text==sp,by rw [<- hc];rfl,rfl,fun h _=>?_⟩;rw [s3 h];exact hbn
 unfold uf Nr;by_cases hne:t.Text=[]
 .have e0:(t.Text==[])=true:=(afN _).2 hne;rw [e0,aM];refine ⟨false,?_,rfl,fun _=>rfl⟩;have hl:decide ((t.Text.length:Int) > 0)=false:=by rw [hne];rfl
  have hst:NJ N t.Text 0=some (-1):=by
   rw [hne];rfl
  have hre:NK N t.Text 0=some (-1):=by
   rw [hne];rfl
  have hm1:((-1:Int)==(t.Text.length:Int))=false:=by rw [hne];rfl
  rw [hl,hst,hre];have hk:∀ y,Ba N (t,y)=some false:=by
   intro y;simp only [Ba];rw [n1,n3 hne,b1,s1,e0];have hbb:bb=false:=by
    cases h:bb with
    | false=>rfl
    | true=>
     have:=b3 h;rw [hne] at this;exact absurd this aJ
   rw [hbb];cases y<;>cases (t.Kind==8)<;>rfl
  simp only [aB,aI,hm1,hk];cases (t.Kind==2)<;>cases (t.Kind==3)<;>cases (t.Kind==4)<;>cases (t.Kind==5)<;>cases (t.Kind==6)<;>rfl
 .have e0:(t.Text==[])=false:=by
   cases e:(t.Text==[]) with
   | false=>rfl
   | true=>exact absurd ((afN _).1 e) hne
  have hpos:0 < t.Text.length:=by
   cases Ua t.Text.length with
   | inl h=>exact absurd (Gc.1 h) hne
   | inr h=>exact h
  have hl:decide ((t.Text.length:Int) > 0)=true:=mH ah;rw [e0,aI,hl];simp only [aM];cases h2:(t.Kind==2) with
  | true=>
   have e:ix t.Text 0=some t.Text[0]:=dx hpos;have hp:=avs N t.Text ah (by simp only [maxLen];omega);have hc:=avu t.Text;rw [aM,aM,e,hp,hc];simp only [aB];refine ⟨((t.Text[0].toNat:Int)==35)&&!t.Text.contains 10,?_,?_,fun h=>?_⟩
   .cases ((t.Text[0].toNat:Int)==35)<;>rfl
   .cases ((t.Text[0].toNat:Int)==35)<;>rfl
   .rw [h] at h2;cases h2
  | false=>
   rw [aI,aI];cases h3:(t.Kind==3) with
   | true=>
    obtain ⟨r,f1,f2,_⟩:=avf N t.Text ht ah 0 hpos;have Xh:Sb N t.Text 0=some r:=f1;have f2':Rx N t.Text 0=some r:=f2;rw [aM,aM,Xh,f2'];refine ⟨_,rfl,rfl,fun h=>?_⟩;rw [h] at h3;cases h3
   | false=>
    rw [aI,aI];cases h4:(t.Kind==4) with
    | true=>
     obtain ⟨r,f1,f2,_⟩:=avj N t.Text ht ah 0 hpos;have Xh:NJ N t.Text 0=some r:=f1;have f2':Rz N t.Text 0=some r:=f2;rw [aM,aM,Xh,f2'];refine ⟨_,rfl,rfl,fun h=>?_⟩;rw [h] at h4;cases h4
    | false=>
     rw [aI,aI];cases h5:(t.Kind==5) with
     | true=>
      obtain ⟨r,f1,f2,_⟩:=avk N t.Text ht ah 0 hpos;have Xh:NK N t.Text 0=some r:=f1;have f2':RA N t.Text 0=some r:=f2;rw [aM,aM,Xh,f2'];refine ⟨_,rfl,rfl,fun h=>?_⟩;rw [h] at h5;cases h5
     | false=>
      rw [aI,aI];cases h6:(t.Kind==6) with
      | true=>
       obtain ⟨b,k1,k2,k3⟩:=hk1 true hne;refine ⟨b,k1,k2,fun h=>?_⟩;rw [h] at h6;cases h6
      | false=>
       obtain ⟨b,k1,k2,k3⟩:=hk1 (t.Kind==7) hne;refine ⟨b,k1,k2,fun h=>k3 h ?_⟩;rw [h];rfl
def rE (a:List aC):List (List Int):=a.map (·.Kids)
def alY {a:List aC} {i:Nat} (h:i < a.length):(rE a).drop i=a[i].Kids::(rE a).drop (i+1):=by
 have h':i < (rE a).length:=by simpa [rE] using h
 rw [drop_cons h'];simp [rE]
def avx (N:Nat) (kb:(List aC×Int×List Int)->Option (List Int×Bool)) (a:List aC) (i:Nat) (hi:i < a.length) (hi2:i<=100000) (out:List Int) (ho:out.length=i) (hl:Low out) (hk:a[i].Kids.length<=1048576):
  ∀ (n j:Nat) (at_:Int),j < n->j<=a[i].Kids.length->0<=at_->at_<=i->
   NA N kb n (a,(i:Int),out,at_,(j:Int) - 1)=match walk out at_ (a[i].Kids.take j).reverse with
    | none=>some ([],false)
    | some s=>kb (a,((i+1:Nat):Int),out++[s]):=by
 intro n;induction n with
 | zero=>intro j at_ h;omega
 | succ n ih=>
  intro j at_ hn hj h0 h1;rw [NA];cases j with
  | zero=>
   have:decide (((0:Nat):Int) - 1>=0)=false:=aA;simp only [this,aI,List.take_zero,List.reverse_nil,walk];rw [pG (by simp [ho];omega),aB,wrap64 ah ah];rfl
  | succ j=>
   have hjk:j < a[i].Kids.length:=ah;rw [asW hjk];simp only [asX,aM,asY,dx hi,dx hjk,aB];rw [wrap64 (n:=at_ - 1) ah ah];unfold walk;by_cases hc:a[i].Kids[j]≠at_ - 1
   .have h2:(a[i].Kids[j] !=at_ - 1)=true:=by simpa using hc
    rw [h2,aM,aB,aM,bQ<|.inr hc]
   .have h2:(a[i].Kids[j] !=at_ - 1)=false:=by simpa using hc
    rw [h2,aI,aB];by_cases hz:at_=0
    .have h3:(at_==0)=true:=by simpa using hz
     rw [h3,aM,bQ<|.inl hz]
    .have h3:(at_==0)=false:=by simpa using hz
     rw [h3,aI,bA fun h=>h.elim hz hc];have hlt:(at_ - 1).toNat < out.length:=ah;have hx:ix out (at_ - 1)=some out[(at_ - 1).toNat]:=by
      have:=dx hlt;rwa [acZ ah] at this
     rw [hx,aB,eZ hlt];have hlow:=hl _ _ (eZ hlt);rw [wrap64 ah ah];exact ih j _ ah ah hlow.1 ah
def avy (N:Nat) (a:List aC) (hN:1048577 < N) (ha:a.length<=100000) (hk:∀ x,x∈a->x.Kids.length<=1048576):∀ (n i:Nat) (out:List Int),a.length - i < n->i<=a.length->out.length=i->Low out->
  Km N n (a,(i:Int),out)=match starts ((rE a).drop i) out with
   | none=>some ([],false)
   | some r=>some (r,true):=by
 intro n;induction n with
 | zero=>intro i out h;omega
 | succ n ih=>
  intro i out hn hi ho hl;rw [Km];by_cases h:i < a.length
  .have hkl:=hk _ (nW h);simp only [iT h,aM,dx h,aB];rw [wrap64 (n:=(a[i].Kids.length:Int) - 1) ah ah,avx N _ a i h ah out ho hl hkl N _ _ ah (eD _) ah ah,List.take_length,alY h,starts,ho];cases hw:walk out (i:Int) a[i].Kids.reverse with
   | none=>rfl
   | some s=>
    have hs:=ZO hl _ ah hw;simp only [aB];exact ih (i+1) _ ah ah (by simp [ho]) (hl.snoc hs.1 ah)
  .simp only [jZ h,aI];have:(rE a).drop i=[]:=drop_nil (by simpa [rE] using h);rw [this];rfl
def avz (N:Nat) (kb:(List aC×Int×List Int)->Option (List Int×Bool)) (a:List aC) (e:aC) (i:Nat) (hi:i < a.length) (hi2:i<=100000) (out st:List Int) (ho:out.length=i) (hst:st.take i=out) (hsl:st.length=a.length) (hl:Low out):
  ∀ (ks:List Int) (at_:Int),0<=at_->at_<=i->
   JW N kb a (i:Int) e st ks (at_ - 1)=match walk out at_ ks with
    | none=>some ([],false)
    | some s=>kb (a,((i+1:Nat):Int),st.set i s):=by
 intro ks;have hil:i < st.length:=ah;induction ks with
 | nil=>
  intro at_ h0 h1;rw [JW];simp only [walk];rw [dx hil,aB,wrap64 (n:=at_ - 1+1) ah ah,aez hil,aB,wrap64 ah ah,Int.sub_add_cancel];rfl
 | cons k ks ih=>
  intro at_ h0 h1;rw [JW];unfold walk;by_cases hz:at_=0
  .have h3:decide (at_ - 1 < 0)=true:=bF;rw [h3,aM,aB,aM,bQ<|.inl hz]
  .have h3:decide (at_ - 1 < 0)=false:=bF;rw [h3,aI,aB];by_cases hc:k≠at_ - 1
   .have h2:(k !=at_ - 1)=true:=by simpa using hc
    rw [h2,aM,bQ<|.inr hc]
   .have h2:(k !=at_ - 1)=false:=by simpa using hc
    have hk:k=at_ - 1:=Decidable.of_not_not hc;rw [h2,aI,bA fun h=>h.elim hz hc];have hlt:(at_ - 1).toNat < out.length:=ah;have hlt2:(at_ - 1).toNat < st.length:=ah;have hx:ix st k=some st[(at_ - 1).toNat]:=by
     have:=dx hlt2;rw [acZ ah] at this;rw [hk];exact this
    have he:out[(at_ - 1).toNat]?=some st[(at_ - 1).toNat]:=by
     rw [<- hst,yj,bQ ah,eZ hlt2]
    rw [hx,aB,he];have hlow:=hl _ _ he;rw [wrap64 (n:=st[(at_ - 1).toNat] - 1) ah ah];exact ih _ hlow.1 ah
def Xi (r:List Int) (n:Nat):Bool:=r[n - 1]?==some 0
def avA (N:Nat) (a:List aC) (ha:a.length<=100000) (h1:1<=a.length):∀ (n i:Nat) (out st:List Int),a.length - i < n->i<=a.length->out.length=i->st.take i=out->st.length=a.length->Low out->
  ∃ st',GU N n (a,(i:Int),st)=some (st',match starts ((rE a).drop i) out with
   | none=>false
   | some r=>Xi r a.length)/\∀ r,starts ((rE a).drop i) out=some r->st'=r:=by
 intro n;induction n with
 | zero=>intro i out st h;omega
 | succ n ih=>
  intro i out st hn hi ho hst hsl hl;rw [GU];by_cases h:i < a.length
  .simp only [iT h,aM,dx h,aB];rw [wrap64 (n:=(i:Int) - 1) ah ah,avz N _ a a[i] i h ah out st ho hst hsl hl _ _ ah ah,alY h,starts,ho];cases hw:walk out (i:Int) a[i].Kids.reverse with
   | none=>exact ⟨[],rfl,fun r h=>by cases h⟩
   | some s=>
    have hs:=ZO hl _ ah hw;simp only [aB];refine ih (i+1) _ _ ah ah (by simp [ho]) ?_ (by simpa using hsl) (hl.snoc hs.1 ah);rw [YI,List.take_set_of_le<|eD i,hst,aiD ah];rfl
  .simp only [jZ h,aI];have:(rE a).drop i=[]:=drop_nil (by simpa [rE] using h);rw [this];have hia:i=a.length:=ah;have hso:st=out:=by rw [<- hst,aiJ ah]
   have hlt:a.length - 1 < st.length:=ah;have hx:ix st ((a.length:Int) - 1)=some st[a.length - 1]:=by
    have:=dx hlt;rwa [show ((a.length - 1:Nat):Int)=(a.length:Int) - 1 by omega] at this
   rw [wrap64 (n:=(a.length:Int) - 1) ah ah,hx,aB];refine ⟨st,?_,fun r hr=>by rw [hso];exact lD hr⟩;simp only [starts,Xi,<- hso,eZ hlt];congr 2
def vG (a:List aC):Bool:=
 (decide (1<=a.length)&&decide (a.length<=400))&&(match starts (rE a) [] with
  | none=>false
  | some r=>Xi r a.length)
def KS (a b c:Int):rC a b c=some (decide (a>=b)&&decide (a<=c)):=by
 unfold rC;cases decide (a>=b)<;>rfl
def DU (a b c:Int):oP a b c=some (decide (a>=b)&&decide (a<=c)):=by
 unfold oP;cases decide (a>=b)<;>rfl
def avB {a:List aC} (hs:∀ x,x∈a->yB x):∀ x,x∈a->x.Kids.length<=1048576:=fun x hx=>by
 have:=hs x hx;unfold yB at this;omega
def avC (N:Nat) (a:List aC) (hN:1048577 < N) (ha:a.length<=400) (hs:∀ x,x∈a->yB x):aaN N a=match starts (rE a) [] with
  | none=>some ([],false)
  | some r=>some (r,true):=by
 have:=avy N a hN ah (avB hs) N 0 [] ah ah rfl (fun j s h=>by simp at h);rw [Js] at this;exact this
def alZ (N:Nat) (a:List aC) (hN:1048577 < N) (hs:∀ x,x∈a->yB x):RO N a=some (vG a):=by
 unfold RO vG;rw [DU,aB];by_cases h1:1<=a.length
 .by_cases h2:a.length<=400
  .have e1:decide ((a.length:Int)>=1)=true:=bF;have e2:decide ((a.length:Int)<=400)=true:=bF;simp only [e1,e2,zw,mI,aI,h1,h2,Aq,BF,avC N a hN h2 hs];cases hst:starts (rE a) [] with
   | none=>rfl
   | some r=>
    obtain ⟨⟨m,hm,hml⟩,_,_⟩:=aeA _ (fun j s h=>by simp at h) hst;have hrl:r.length=a.length:=by rw [hm];simp [hml,rE]
    have hlt:a.length - 1 < r.length:=ah;have hx:ix r ((a.length:Int) - 1)=some r[a.length - 1]:=by
     have:=dx hlt;rwa [show ((a.length - 1:Nat):Int)=(a.length:Int) - 1 by omega] at this
    simp only [aB,aM];rw [wrap64 (n:=(a.length:Int) - 1) ah ah,hx,aB,aB];simp only [Xi,eZ hlt];congr 1
  .have e2:decide ((a.length:Int)<=400)=false:=bF;simp [e2,h2]
 .have e1:decide ((a.length:Int)>=1)=false:=bF;simp [e1,h1]
def avD (N:Nat) (a:List aC) (hN:1048577 < N):∃ st,Vr N a=some (st,vG a)/\(a.length<=400->∀ r,starts (rE a) []=some r->st=r\/a=[]):=by
 unfold Vr vG;rw [KS,aB];by_cases h1:1<=a.length
 .by_cases h2:a.length<=400
  .have e1:decide ((a.length:Int)>=1)=true:=bF;have e2:decide ((a.length:Int)<=400)=true:=bF;obtain ⟨st',hst',hr⟩:=avA N a ah h1 N 0 [] (List.replicate a.length 0) ah ah rfl aA aA (fun j s h=>by simp at h);rw [Js] at hst' hr;simp only [e1,e2,zw,mI,aI];rw [asU ah (by simp only [maxLen];omega),aB];have oF:GU N N (a,0,List.replicate a.length 0)=_:=hst';rw [oF];exact ⟨st',by simp [h1,h2],fun _ r h=>.inl<|hr r h⟩
  .have e2:decide ((a.length:Int)<=400)=false:=bF;exact ⟨[],by simp [e2,h2],fun h=>absurd h h2⟩
 .have e1:decide ((a.length:Int)>=1)=false:=bF;refine ⟨[],by simp [e1,h1],fun _ r _=>.inr ?_⟩;cases a with
  | nil=>rfl
  | cons=>simp at h1
def avE (N:Nat) (a:List aC) (hN:1048577 < N):Vs N a=some (vG a):=by
 obtain ⟨st,h,_⟩:=avD N a hN;unfold Vs;rw [h];rfl
def ayE (op:Int):∃ (b:Bool) (l:Int),Fp op=some b/\BZ op=some l/\(l !=0)=b:=by
 rcases jR (op=60) with rfl|h60
 .exact ⟨true,_,rfl,rfl,rfl⟩
 rcases jR (op=57) with rfl|h57
 .exact ⟨true,_,rfl,rfl,rfl⟩
 rcases jR (op=58) with rfl|je
 .exact ⟨true,_,rfl,rfl,rfl⟩
 rcases jR (op=59) with rfl|xk
 .exact ⟨true,_,rfl,rfl,rfl⟩
 rcases jR (op=55) with rfl|h55
 .exact ⟨true,_,rfl,rfl,rfl⟩
 rcases jR (op=56) with rfl|uy
 .exact ⟨true,_,rfl,rfl,rfl⟩
 rcases jR (op=99) with rfl|rG
 .exact ⟨true,_,rfl,rfl,rfl⟩
 rcases jR (op=63) with rfl|h63
 .exact ⟨true,_,rfl,rfl,rfl⟩
 rcases jR (op=48) with rfl|h48
 .exact ⟨true,_,rfl,rfl,rfl⟩
 rcases jR (op=47) with rfl|h47
 .exact ⟨true,_,rfl,rfl,rfl⟩
 rcases jR (op=50) with rfl|h50
 .exact ⟨true,_,rfl,rfl,rfl⟩
 rcases jR (op=62) with rfl|h62
 .exact ⟨true,_,rfl,rfl,rfl⟩
 rcases jR (op=49) with rfl|xq
 .exact ⟨true,_,rfl,rfl,rfl⟩
 rcases jR (op=67) with rfl|h67
 .exact ⟨true,_,rfl,rfl,rfl⟩
 rcases jR (op=46) with rfl|h46
 .exact ⟨true,_,rfl,rfl,rfl⟩
 rcases jR (op=45) with rfl|h45
 .exact ⟨true,_,rfl,rfl,rfl⟩
 rcases jR (op=44) with rfl|nH
 .exact ⟨true,_,rfl,rfl,rfl⟩
 have e:∀ k,op≠k->(op==k)=false:=fun k h=>by simpa using h
 refine ⟨false,0,?_,?_,rfl⟩
 .unfold Fp;rw [e 60 h60,e 57 h57,e 58 je,e 59 xk,e 55 h55,e 56 uy,e 99 rG,e 63 h63,e 48 h48,e 47 h47,e 50 h50,e 62 h62,e 49 xq,e 67 h67,e 46 h46,e 45 h45,e 44 nH];rfl
 .unfold BZ VD GX VB RF;simp only [e 60 h60,e 57 h57,e 58 je,e 59 xk,e 55 h55,e 56 uy,e 99 rG,e 63 h63,e 48 h48,e 47 h47,e 50 h50,e 62 h62,e 49 xq,e 67 h67,e 46 h46,e 45 h45,e 44 nH,aI]
def ayF (N:Nat) (t:List UInt8) (hN:100 < N):Nj N [[],[62],[62,62],[124]] t=some (t==[]||(t==[62]||(t==[62,62]||t==[124]))):=by
 obtain ⟨N,rfl⟩:∃ M,N=M+5:=⟨N - 5,ah⟩
 unfold Nj Ru;rcases jR (t=[]) with rfl|h1
 .rfl
 rcases jR (t=[62]) with rfl|h2
 .rfl
 rcases jR (t=[62,62]) with rfl|h3
 .rfl
 rcases jR (t=[124]) with rfl|h4
 .rfl
 have e:∀ k:List UInt8,t≠k->(t==k)=false:=fun k h=>by simpa using h
 have i0:ix [([]:List UInt8),[62],[62,62],[124]] 0=some []:=rfl;have i1:ix [([]:List UInt8),[62],[62,62],[124]] 1=some [62]:=rfl;have i2:ix [([]:List UInt8),[62],[62,62],[124]] 2=some [62,62]:=rfl;have i3:ix [([]:List UInt8),[62],[62,62],[124]] 3=some [124]:=rfl;have w1:IntKind.wrap .i64 ((0:Int)+1)=1:=rfl;have w2:IntKind.wrap .i64 ((1:Int)+1)=2:=rfl;have w3:IntKind.wrap .i64 ((2:Int)+1)=3:=rfl;have w4:IntKind.wrap .i64 ((3:Int)+1)=4:=rfl;have d:∀ k:Int,k < 4->decide (k < ((List.length [([]:List UInt8),[62],[62,62],[124]]:Nat):Int))=true:=fun k h=>mH h;have d4:decide ((4:Int) < ((List.length [([]:List UInt8),[62],[62,62],[124]]:Nat):Int))=false:=rfl;simp only [JX,d 0 ah,d 1 ah,d 2 ah,d 3 ah,d4,i0,i1,i2,i3,w1,w2,w3,w4,e _ h1,e _ h2,e _ h3,e _ h4,aM,aI,aB,Bool.or_false,Bool.or_self];rfl
def FK (n:aC):Prop:=
 (n.Kind=28->2<=n.Kids.length/\n.Kids.length<=3)/\(n.Kind=29->n.Kids.length=2)/\(n.Kind=30->n.Kids.length=2)/\(n.Kind=31->n.Kids.length=4)/\
 (n.Kind=42->n.Op=1/\n.Kids.length=1\/n.Op=2/\n.Kids.length=1\/n.Op=3/\n.Kids.length=2)/\(n.Kind=43->n.Op=1/\n.Kids.length=2\/n.Op=3/\n.Kids.length=3)/\
 (n.Kind=12->n.Kids.length=2/\n.Text=[]/\n.Other=[])/\(n.Kind=11->n.Kids.length=1/\n.Text=[]/\n.Other=[])
def gG (k:Int):Prop:=(1<=k/\k<=16)\/(20<=k/\k<=34)\/(40<=k/\k<=45)
def FK.other {n:aC} (h:n.Kind≠28/\n.Kind≠29/\n.Kind≠30/\n.Kind≠31/\n.Kind≠42/\n.Kind≠43/\n.Kind≠12/\n.Kind≠11):FK n:=
 ⟨fun e=>absurd e h.1,fun e=>absurd e h.2.1,fun e=>absurd e h.2.2.1,fun e=>absurd e h.2.2.2.1,fun e=>absurd e h.2.2.2.2.1,fun e=>absurd e h.2.2.2.2.2.1,fun e=>absurd e h.2.2.2.2.2.2.1,fun e=>absurd e h.2.2.2.2.2.2.2⟩
def Ec {l:Nat} {c1 c2:Bool} {m k:Nat} (h1:decide ((l:Int)>=(m:Int))=c1) (h2:decide ((l:Int)<=(k:Int))=c2) (h:(c1&&c2)=true):m<=l/\l<=k:=by
 subst h1 h2;simp only [dP,lQ] at h;omega
set_option maxHeartbeats 8000000 in
def ayG (N:Nat) (n:aC) (hN:1048576+300 < N) (hn:yB n) (hk:n.Kids.length<=400):∃ b:Bool,zS N n=some b/\RH N n=some b/\(b=true->FK n/\gG n.Kind):=by
 obtain ⟨kind,op,text,other,kids⟩:=n;unfold yB at hn;simp only at hn hk;obtain ⟨bn,n1,n2,_⟩:=afM N text ah ah;obtain ⟨bo,o1,o2,_⟩:=afM N other ah ah;obtain ⟨bb,b1,b2,_⟩:=afL N text ah;obtain ⟨t2,t2a,t2b,_⟩:=SB N ⟨2,text,0⟩ tF tF;obtain ⟨t3,t3a,t3b,_⟩:=SB N ⟨3,text,0⟩ tF tF;obtain ⟨t4,t4a,t4b,_⟩:=SB N ⟨4,text,0⟩ tF tF;obtain ⟨t5,t5a,t5b,_⟩:=SB N ⟨5,text,0⟩ tF tF;obtain ⟨ob,ol,ob1,ob2,ob3⟩:=ayE op;have hr:=ayF N other ah;have x2:ix [(3:Int),4,5] (IntKind.wrap .i64<|(2:Int) - 2)=some 3:=rfl;have x3:ix [(3:Int),4,5] (IntKind.wrap .i64<|(3:Int) - 2)=some 4:=rfl;have x4:ix [(3:Int),4,5] (IntKind.wrap .i64<|(4:Int) - 2)=some 5:=rfl;have hl0:decide ((kids.length:Int)>=0)=true:=aA;have hlm:decide ((kids.length:Int)<=400)=true:=bF;rcases Classical.em (kind=1\/kind=2\/kind=3\/kind=4\/kind=5\/kind=6\/kind=7\/kind=8\/kind=9\/kind=10\/kind=11\/kind=12\/kind=13\/kind=14\/kind=15\/kind=16\/kind=20\/kind=21\/kind=22\/kind=23\/kind=24\/kind=25\/kind=26\/kind=27\/kind=28\/kind=29\/kind=30\/kind=31\/kind=32\/kind=33\/kind=34\/kind=40\/kind=41\/kind=42\/kind=43\/kind=44\/kind=45) with hall|hall
 rotate_left
 .skip
  have h1:kind≠1:=fun h=>hall (by simp [h]);have h2:kind≠2:=fun h=>hall (by simp [h]);have h3:kind≠3:=fun h=>hall (by simp [h]);have h4:kind≠4:=fun h=>hall (by simp [h]);have h5:kind≠5:=fun h=>hall (by simp [h]);have h6:kind≠6:=fun h=>hall (by simp [h]);have h7:kind≠7:=fun h=>hall (by simp [h]);have h8:kind≠8:=fun h=>hall (by simp [h]);have h9:kind≠9:=fun h=>hall (by simp [h]);have h10:kind≠10:=fun h=>hall (by simp [h]);have h11:kind≠11:=fun h=>hall (by simp [h]);have h12:kind≠12:=fun h=>hall (by simp [h]);have h13:kind≠13:=fun h=>hall (by simp [h]);have qb:kind≠14:=fun h=>hall (by simp [h]);have Iz:kind≠15:=fun h=>hall (by simp [h]);have h16:kind≠16:=fun h=>hall (by simp [h]);have h20:kind≠20:=fun h=>hall (by simp [h]);have h21:kind≠21:=fun h=>hall (by simp [h]);have h22:kind≠22:=fun h=>hall (by simp [h]);have h23:kind≠23:=fun h=>hall (by simp [h]);have EI:kind≠24:=fun h=>hall (by simp [h]);have h25:kind≠25:=fun h=>hall (by simp [h]);have Tt:kind≠26:=fun h=>hall (by simp [h]);have h27:kind≠27:=fun h=>hall (by simp [h]);have Ed:kind≠28:=fun h=>hall (by simp [h]);have h29:kind≠29:=fun h=>hall (by simp [h]);have xS:kind≠30:=fun h=>hall (by simp [h]);have h31:kind≠31:=fun h=>hall (by simp [h]);have h32:kind≠32:=fun h=>hall (by simp [h]);have jX:kind≠33:=fun h=>hall (by simp [h]);have DW:kind≠34:=fun h=>hall (by simp [h]);have Eb:kind≠40:=fun h=>hall (by simp [h]);have mq:kind≠41:=fun h=>hall (by simp [h]);have h42:kind≠42:=fun h=>hall (by simp [h]);have h43:kind≠43:=fun h=>hall (by simp [h]);have nH:kind≠44:=fun h=>hall (by simp [h]);have h45:kind≠45:=fun h=>hall (by simp [h]);have e:∀ k,kind≠k->(kind==k)=false:=fun k h=>by simpa using h
  have r1:(decide (kind>=1)&&decide (kind<=16))=false:=by
   cases h:(decide (kind>=1)&&decide (kind<=16)) with
   | false=>rfl
   | true=>simp only [dP,lQ] at h;omega
  have r1b:(decide (kind>=1)&&decide (kind<=15))=false:=by
   cases h:(decide (kind>=1)&&decide (kind<=15)) with
   | false=>rfl
   | true=>simp only [dP,lQ] at h;omega
  have r2:(decide (kind>=20)&&decide (kind<=34))=false:=by
   cases h:(decide (kind>=20)&&decide (kind<=34)) with
   | false=>rfl
   | true=>simp only [dP,lQ] at h;omega
  have r3:(decide (kind>=40)&&decide (kind<=45))=false:=by
   cases h:(decide (kind>=40)&&decide (kind<=45)) with
   | false=>rfl
   | true=>simp only [dP,lQ] at h;omega
  refine ⟨false,?_,?_,fun h=>by cases h⟩
  .simp only [zS,Fh,RS,NC,Cb,Kr,RQ,RP,DU,r1,r2,r3,aB,aI,e 1 h1,e 2 h2,e 3 h3,e 4 h4,e 5 h5,e 6 h6,e 7 h7,e 8 h8,e 9 h9,e 10 h10,e 11 h11,e 12 h12,e 13 h13,e 14 qb,e 15 Iz,e 16 h16,e 20 h20,e 21 h21,e 22 h22,e 23 h23,e 24 EI,e 25 h25,e 26 Tt,e 27 h27,e 28 Ed,e 29 h29,e 30 xS,e 31 h31,e 32 h32,e 33 jX,e 34 DW,e 40 Eb,e 41 mq,e 42 h42,e 43 h43,e 44 nH,e 45 h45]
  .simp only [RH,Dv,JY,KS,r1b,r2,r3,e 16 h16,aB,aI]
 rcases hall with rfl|rfl|rfl|rfl|rfl|rfl|rfl|rfl|rfl|rfl|rfl|rfl|rfl|rfl|rfl|rfl|rfl|rfl|rfl|rfl|rfl|rfl|rfl|rfl|rfl|rfl|rfl|rfl|rfl|rfl|rfl|rfl|rfl|rfl|rfl|rfl|rfl;all_goals simp only [zS,Fh,RS,NC,Cb,Kr,RQ,RP,Dy,Wo,Wx,Fq,RH,Nt,Dv,JY,aaz,RG,VF,VE,aaA,yI,VH,VG,aaB,JZ,VK,VI,VJ,AX,Ns,Cc,DU,KS,aB,aM,aI,Int.reduceBEq,Int.reduceGE,Int.reduceLE,Aq,Gt,BG,BF,acP,YV,zw,n1,n2,o1,o2,b1,b2,t2a,t2b,t3a,t3b,t4a,t4b,t5a,t5b,ob1,ob2,ob3,hr,hl0,x2,x3,x4]
 .skip
  generalize (op==0)=c1;generalize (text==[])=c2;generalize (other==[])=c3;generalize g2:(decide<|(kids.length:Int)<=0)=c7;cases c1<;>cases c2<;>cases c3<;>cases c7<;>cases bn<;>exact ⟨_,rfl,rfl,fun _=>⟨FK.other aA,by simp [gG]⟩⟩
 .skip
  generalize (op==0)=c1;generalize (text==[])=c2;generalize (other==[])=c3;generalize g2:(decide<|(kids.length:Int)<=0)=c7;cases c1<;>cases c2<;>cases c3<;>cases c7<;>cases t3<;>exact ⟨_,rfl,rfl,fun _=>⟨FK.other aA,by simp [gG]⟩⟩
 .skip
  generalize (op==0)=c1;generalize (text==[])=c2;generalize (other==[])=c3;generalize g2:(decide<|(kids.length:Int)<=0)=c7;cases c1<;>cases c2<;>cases c3<;>cases c7<;>cases t4<;>exact ⟨_,rfl,rfl,fun _=>⟨FK.other aA,by simp [gG]⟩⟩
 .skip
  generalize (op==0)=c1;generalize (text==[])=c2;generalize (other==[])=c3;generalize g2:(decide<|(kids.length:Int)<=0)=c7;cases c1<;>cases c2<;>cases c3<;>cases c7<;>cases t5<;>exact ⟨_,rfl,rfl,fun _=>⟨FK.other aA,by simp [gG]⟩⟩
 .skip
  generalize (op==0)=c1;generalize (text==[])=c2;generalize (other==[])=c3;generalize g1:(decide<|(kids.length:Int)>=1)=c6;generalize g2:(decide<|(kids.length:Int)<=6)=c7;cases c1<;>cases c2<;>cases c3<;>cases c6<;>cases c7<;>cases bn<;>exact ⟨_,rfl,rfl,fun _=>⟨FK.other aA,by simp [gG]⟩⟩
 .skip
  generalize (op==0)=c1;generalize (text==[])=c2;generalize (other==[])=c3;generalize g1:(decide<|(kids.length:Int)>=1)=c6;generalize g2:(decide<|(kids.length:Int)<=1)=c7;cases c1<;>cases c2<;>cases c3<;>cases c6<;>cases c7<;>exact ⟨_,rfl,rfl,fun _=>⟨FK.other aA,by simp [gG]⟩⟩
 .skip
  generalize (op==0)=c1;generalize (text==[])=c2;generalize (other==[])=c3;generalize g2:(decide<|(kids.length:Int)<=6)=c7;cases c1<;>cases c2<;>cases c3<;>cases c7<;>cases bn<;>exact ⟨_,rfl,rfl,fun _=>⟨FK.other aA,by simp [gG]⟩⟩
 .skip
  generalize (op==0)=c1;generalize (text==[])=c2;generalize (other==[])=c3;generalize g2:(decide<|(kids.length:Int)<=6)=c7;cases c1<;>cases c2<;>cases c3<;>cases c7<;>cases bb<;>exact ⟨_,rfl,rfl,fun _=>⟨FK.other aA,by simp [gG]⟩⟩
 .skip
  generalize (op==51)=c1;generalize (op==52)=c2;generalize (text==[])=c3;generalize (other==[])=c4;generalize g1:(decide<|(kids.length:Int)>=1)=c6;generalize g2:(decide<|(kids.length:Int)<=1)=c7;cases c1<;>cases c2<;>cases c3<;>cases c4<;>cases c6<;>cases c7<;>first|exact ⟨_,rfl,rfl,fun _=>⟨FK.other aA,by simp [gG]⟩⟩|exact ⟨_,rfl,(show some (decide ((kids.length:Int)>=1)&&decide ((kids.length:Int)<=1))=some _ by rw [g1,g2]),fun _=>⟨FK.other aA,by simp [gG]⟩⟩
 .skip
  generalize (op==51)=c1;generalize (op==52)=c2;generalize (text==[])=c3;generalize (other==[])=c4;generalize g1:(decide<|(kids.length:Int)>=1)=c6;generalize g2:(decide<|(kids.length:Int)<=1)=c7;cases c1<;>cases c2<;>cases c3<;>cases c4<;>cases c6<;>cases c7<;>first|exact ⟨_,rfl,rfl,fun _=>⟨FK.other aA,by simp [gG]⟩⟩|exact ⟨_,rfl,(show some (decide ((kids.length:Int)>=1)&&decide ((kids.length:Int)<=1))=some _ by rw [g1,g2]),fun _=>⟨FK.other aA,by simp [gG]⟩⟩
 .skip
  generalize (op==55)=c1;generalize (op==56)=c2;generalize (op==61)=c3;generalize gT:(text==[])=c4;generalize gO:(other==[])=c5;generalize g1:(decide<|(kids.length:Int)>=1)=c6;generalize g2:(decide<|(kids.length:Int)<=1)=c7;have K:c4=true->c5=true->(c6&&c7)=true->FK ⟨11,op,text,other,kids⟩:=fun hT hO h=>by
   have:=Ec (m:=1) (k:=1) g1 g2 h;have eT:text=[]:=by simpa [hT] using gT
   have eO:other=[]:=by simpa [hO] using gO
   exact ⟨aA,aA,aA,aA,aA,aA,aA,fun _=>⟨tF,eT,eO⟩⟩
  cases c1<;>cases c2<;>cases c3<;>cases c4<;>cases c5<;>cases c6<;>cases c7<;>first|exact ⟨_,rfl,rfl,fun h=>by first|(cases h;done)|exact ⟨K rfl rfl rfl,by simp [gG]⟩⟩|exact ⟨_,rfl,(show some (decide ((kids.length:Int)>=1)&&decide ((kids.length:Int)<=1))=some _ by rw [g1,g2]),fun h=>by first|(cases h;done)|exact ⟨K rfl rfl rfl,by simp [gG]⟩⟩
 .skip
  generalize (op==0)=c1;generalize gT:(text==[])=c2;generalize gO:(other==[])=c3;generalize g1:(decide<|(kids.length:Int)>=2)=c6;generalize g2:(decide<|(kids.length:Int)<=2)=c7;have K:c2=true->c3=true->(c6&&c7)=true->FK ⟨12,op,text,other,kids⟩:=fun hT hO h=>by
   have:=Ec (m:=2) (k:=2) g1 g2 h;have eT:text=[]:=by simpa [hT] using gT
   have eO:other=[]:=by simpa [hO] using gO
   exact ⟨aA,aA,aA,aA,aA,aA,fun _=>⟨tF,eT,eO⟩,aA⟩
  cases c1<;>cases c2<;>cases c3<;>cases c6<;>cases c7<;>cases ob<;>exact ⟨_,rfl,rfl,fun h=>by first|(cases h;done)|exact ⟨K rfl rfl rfl,by simp [gG]⟩⟩
 .skip
  generalize (op==0)=c1;generalize (text==[])=c2;generalize (other==[])=c3;generalize g1:(decide<|(kids.length:Int)>=1)=c6;generalize g2:(decide<|(kids.length:Int)<=6)=c7;cases c1<;>cases c2<;>cases c3<;>cases c6<;>cases c7<;>cases bn<;>exact ⟨_,rfl,rfl,fun _=>⟨FK.other aA,by simp [gG]⟩⟩
 .skip
  generalize (op==0)=c1;generalize (text==[])=c2;generalize (other==[])=c3;generalize g1:(decide<|(kids.length:Int)>=3)=c6;generalize g2:(decide<|(kids.length:Int)<=3)=c7;cases c1<;>cases c2<;>cases c3<;>cases c6<;>cases c7<;>exact ⟨_,rfl,rfl,fun _=>⟨FK.other aA,by simp [gG]⟩⟩
 .skip
  generalize (op==54)=c1;generalize (decide<|op>=38)=c2;generalize (decide<|op<=43)=c3;generalize (text==[])=c4;generalize (other==[])=c5;generalize g1:(decide<|(kids.length:Int)>=2)=c6;generalize g2:(decide<|(kids.length:Int)<=2)=c7;cases c1<;>cases c2<;>cases c3<;>cases c4<;>cases c5<;>cases c6<;>cases c7<;>first|exact ⟨_,rfl,rfl,fun _=>⟨FK.other aA,by simp [gG]⟩⟩|exact ⟨_,rfl,(show some (decide ((kids.length:Int)>=2)&&decide ((kids.length:Int)<=2))=some _ by rw [g1,g2]),fun _=>⟨FK.other aA,by simp [gG]⟩⟩
 .skip
  generalize (op==0)=c1;generalize (text==[])=c2;generalize (other==[])=c3;generalize g2:(decide<|(kids.length:Int)<=0)=c7;cases c1<;>cases c2<;>cases c3<;>cases c7<;>exact ⟨_,rfl,rfl,fun _=>⟨FK.other aA,by simp [gG]⟩⟩
 .skip
  generalize (op==0)=c1;generalize (text==[])=c2;generalize (other==[])=c3;generalize g1:(decide<|(kids.length:Int)>=1)=c6;generalize g2:(decide<|(kids.length:Int)<=1)=c7;cases c1<;>cases c2<;>cases c3<;>cases c6<;>cases c7<;>exact ⟨_,rfl,rfl,fun _=>⟨FK.other aA,by simp [gG]⟩⟩
 .by_cases q0:op=0
  .subst q0;have w:IntKind.wrap .i64 ((0:Int)+1)=1:=rfl;simp only [Int.reduceBEq,Int.reduceGE,Int.reduceLE,Aq,w,aB,aM,zw,hl0];generalize (text==[])=c1;generalize (other==[])=c2;generalize (other==[62])=c3;generalize (other==[62,62])=c4;generalize (other==[124])=c5;generalize (decide<|(kids.length:Int)>=1)=c6;generalize (decide<|(kids.length:Int)<=7)=c7;generalize (decide<|(kids.length:Int)<=6)=c8;cases c1<;>cases c2<;>cases c3<;>cases c4<;>cases c5<;>first
    | exact ⟨_,rfl,rfl,fun _=>⟨FK.other aA,by simp [gG]⟩⟩
    | (cases c6<;>cases c7<;>cases c8<;>exact ⟨_,rfl,rfl,fun _=>⟨FK.other aA,by simp [gG]⟩⟩)
  by_cases q1:op=1
  .subst q1;have w:IntKind.wrap .i64 ((1:Int)+1)=2:=rfl;simp only [Int.reduceBEq,Int.reduceGE,Int.reduceLE,Aq,w,aB,aM,aI,zw,hl0];generalize (text==[])=c1;generalize (other==[])=c2;generalize (other==[62])=c3;generalize (other==[62,62])=c4;generalize (other==[124])=c5;generalize (decide<|(kids.length:Int)>=1)=c6;generalize (decide<|(kids.length:Int)>=2)=c9;generalize (decide<|(kids.length:Int)<=7)=c7;generalize (decide<|(kids.length:Int)<=6)=c8;cases c1<;>cases c2<;>cases c3<;>cases c4<;>cases c5<;>first
    | exact ⟨_,rfl,rfl,fun _=>⟨FK.other aA,by simp [gG]⟩⟩
    | (cases c6<;>cases c7<;>cases c8<;>cases c9<;>exact ⟨_,rfl,rfl,fun _=>⟨FK.other aA,by simp [gG]⟩⟩)
  have e0:(op==0)=false:=by simpa using q0
  have e1:(op==1)=false:=by simpa using q1
  have e2:(decide (op>=0)&&decide (op<=1))=false:=by
   cases h:(decide (op>=0)&&decide (op<=1)) with
   | false=>rfl
   | true=>simp only [dP,lQ] at h;omega
  simp only [e0,e1,e2,aI,aB];refine ⟨false,?_,?_,fun h=>by cases h⟩
  .cases (other==[])<;>rfl
  .cases (other==[])<;>rfl
 .skip
  generalize (op==0)=c1;generalize (text==[])=c2;generalize (other==[])=c3;generalize g2:(decide<|(kids.length:Int)<=0)=c7;cases c1<;>cases c2<;>cases c3<;>cases c7<;>exact ⟨_,rfl,rfl,fun _=>⟨FK.other aA,by simp [gG]⟩⟩
 .skip
  generalize (op==0)=c1;generalize (text==[])=c2;generalize (other==[])=c3;generalize g2:(decide<|(kids.length:Int)<=1)=c7;cases c1<;>cases c2<;>cases c3<;>cases c7<;>exact ⟨_,rfl,rfl,fun _=>⟨FK.other aA,by simp [gG]⟩⟩
 .skip
  generalize (op==0)=c1;generalize (text==[])=c2;generalize (other==[])=c3;generalize g2:(decide<|(kids.length:Int)<=1)=c7;cases c1<;>cases c2<;>cases c3<;>cases c7<;>exact ⟨_,rfl,rfl,fun _=>⟨FK.other aA,by simp [gG]⟩⟩
 .skip
  generalize (op==0)=c1;generalize (text==[])=c2;generalize (other==[])=c3;generalize g2:(decide<|(kids.length:Int)<=0)=c7;cases c1<;>cases c2<;>cases c3<;>cases c7<;>exact ⟨_,rfl,rfl,fun _=>⟨FK.other aA,by simp [gG]⟩⟩
 .skip
  generalize (op==0)=c1;generalize (text==[])=c2;generalize (other==[])=c3;generalize g2:(decide<|(kids.length:Int)<=0)=c7;cases c1<;>cases c2<;>cases c3<;>cases c7<;>exact ⟨_,rfl,rfl,fun _=>⟨FK.other aA,by simp [gG]⟩⟩
 .skip
  generalize (op==0)=c1;generalize (text==[])=c2;generalize (other==[])=c3;generalize g2:(decide<|(kids.length:Int)<=6)=c7;cases c1<;>cases c2<;>cases c3<;>cases c7<;>cases bn<;>exact ⟨_,rfl,rfl,fun _=>⟨FK.other aA,by simp [gG]⟩⟩
 .skip
  generalize (op==0)=c1;generalize (text==[])=c2;generalize (other==[])=c3;generalize g1:(decide<|(kids.length:Int)>=2)=c6;generalize g2:(decide<|(kids.length:Int)<=3)=c7;have K:(c6&&c7)=true->FK ⟨28,op,text,other,kids⟩:=fun h=>by
   have:=Ec (m:=2) (k:=3) g1 g2 h;exact ⟨fun _=>tF,aA,aA,aA,aA,aA,aA,aA⟩
  cases c1<;>cases c2<;>cases c3<;>cases c6<;>cases c7<;>exact ⟨_,rfl,rfl,fun h=>by first|(cases h;done)|exact ⟨K rfl,by simp [gG]⟩⟩
 .skip
  generalize (op==0)=c1;generalize (text==[])=c2;generalize (other==[])=c3;generalize g1:(decide<|(kids.length:Int)>=2)=c6;generalize g2:(decide<|(kids.length:Int)<=2)=c7;have K:(c6&&c7)=true->FK ⟨29,op,text,other,kids⟩:=fun h=>by
   have:=Ec (m:=2) (k:=2) g1 g2 h;exact ⟨aA,fun _=>tF,aA,aA,aA,aA,aA,aA⟩
  cases c1<;>cases c2<;>cases c3<;>cases c6<;>cases c7<;>exact ⟨_,rfl,rfl,fun h=>by first|(cases h;done)|exact ⟨K rfl,by simp [gG]⟩⟩
 .skip
  generalize (op==0)=c1;generalize (text==[])=c2;generalize (other==[])=c3;generalize g1:(decide<|(kids.length:Int)>=2)=c6;generalize g2:(decide<|(kids.length:Int)<=2)=c7;have K:(c6&&c7)=true->FK ⟨30,op,text,other,kids⟩:=fun h=>by
   have:=Ec (m:=2) (k:=2) g1 g2 h;exact ⟨aA,aA,fun _=>tF,aA,aA,aA,aA,aA⟩
  cases c1<;>cases c2<;>cases c3<;>cases c6<;>cases c7<;>exact ⟨_,rfl,rfl,fun h=>by first|(cases h;done)|exact ⟨K rfl,by simp [gG]⟩⟩
 .skip
  generalize (op==0)=c1;generalize (text==[])=c2;generalize (other==[])=c3;generalize g1:(decide<|(kids.length:Int)>=4)=c6;generalize g2:(decide<|(kids.length:Int)<=4)=c7;have K:(c6&&c7)=true->FK ⟨31,op,text,other,kids⟩:=fun h=>by
   have:=Ec (m:=4) (k:=4) g1 g2 h;exact ⟨aA,aA,aA,fun _=>tF,aA,aA,aA,aA⟩
  cases c1<;>cases c2<;>cases c3<;>cases c6<;>cases c7<;>exact ⟨_,rfl,rfl,fun h=>by first|(cases h;done)|exact ⟨K rfl,by simp [gG]⟩⟩
 .skip
  generalize (op==0)=c1;generalize (text==[])=c2;generalize (other==[])=c3;generalize g1:(decide<|(kids.length:Int)>=1)=c6;generalize g2:(decide<|(kids.length:Int)<=1)=c7;cases c1<;>cases c2<;>cases c3<;>cases c6<;>cases c7<;>cases bn<;>cases bo<;>exact ⟨_,rfl,rfl,fun _=>⟨FK.other aA,by simp [gG]⟩⟩
 .simp only [hlm,YS,Aq,zw];generalize (op==0)=c1;generalize (text==[])=c2;generalize (other==[])=c3;cases c1<;>cases c2<;>cases c3<;>exact ⟨_,rfl,rfl,fun _=>⟨FK.other aA,by simp [gG]⟩⟩
 .skip
  generalize (op==0)=c1;generalize (text==[])=c2;generalize (other==[])=c3;generalize g2:(decide<|(kids.length:Int)<=0)=c7;cases c1<;>cases c2<;>cases c3<;>cases c7<;>cases t2<;>exact ⟨_,rfl,rfl,fun _=>⟨FK.other aA,by simp [gG]⟩⟩
 .skip
  generalize (op==0)=c1;generalize (text==[])=c2;generalize (other==[])=c3;generalize g1:(decide<|(kids.length:Int)>=1)=c6;generalize g2:(decide<|(kids.length:Int)<=1)=c7;cases c1<;>cases c2<;>cases c3<;>cases c6<;>cases c7<;>exact ⟨_,rfl,rfl,fun _=>⟨FK.other aA,by simp [gG]⟩⟩
 .skip
  generalize (op==0)=c1;generalize (text==[])=c2;generalize (other==[])=c3;generalize g1:(decide<|(kids.length:Int)>=1)=c6;generalize g2:(decide<|(kids.length:Int)<=1)=c7;cases c1<;>cases c2<;>cases c3<;>cases c6<;>cases c7<;>exact ⟨_,rfl,rfl,fun _=>⟨FK.other aA,by simp [gG]⟩⟩
 .by_cases q1:op=1
  .subst q1;have w:IntKind.wrap .i64 ((1:Int)+IntKind.wrap .i64 (Int.tdiv (1:Int) 3))=1:=rfl;simp only [Int.reduceBEq,Int.reduceGE,Int.reduceLE,Aq,w,aB,aM,aI,zw];generalize (text==[])=c1;generalize (other==[])=c2;generalize g1:(decide<|(kids.length:Int)>=1)=c6;generalize g2:(decide<|(kids.length:Int)<=1)=c7;have K:(c6&&c7)=true->FK ⟨42,1,text,other,kids⟩:=fun h=>by
    have:=Ec (m:=1) (k:=1) g1 g2 h;refine ⟨aA,aA,aA,aA,fun _=>.inl ⟨rfl,tF⟩,aA,aA,aA⟩
   cases c1<;>cases c2<;>cases c6<;>cases c7<;>exact ⟨_,rfl,rfl,fun h=>by first|(cases h;done)|exact ⟨K rfl,by simp [gG]⟩⟩
  by_cases q2:op=2
  .subst q2;have w:IntKind.wrap .i64 ((1:Int)+IntKind.wrap .i64 (Int.tdiv (2:Int) 3))=1:=rfl;simp only [Int.reduceBEq,Int.reduceGE,Int.reduceLE,Aq,w,aB,aM,aI,zw];generalize (text==[])=c1;generalize (other==[])=c2;generalize g1:(decide<|(kids.length:Int)>=1)=c6;generalize g2:(decide<|(kids.length:Int)<=1)=c7;have K:(c6&&c7)=true->FK ⟨42,2,text,other,kids⟩:=fun h=>by
    have:=Ec (m:=1) (k:=1) g1 g2 h;refine ⟨aA,aA,aA,aA,fun _=>.inr<|.inl ⟨rfl,tF⟩,aA,aA,aA⟩
   cases c1<;>cases c2<;>cases c6<;>cases c7<;>exact ⟨_,rfl,rfl,fun h=>by first|(cases h;done)|exact ⟨K rfl,by simp [gG]⟩⟩
  by_cases q3:op=3
  .subst q3;have w:IntKind.wrap .i64 ((1:Int)+IntKind.wrap .i64 (Int.tdiv (3:Int) 3))=2:=rfl;simp only [Int.reduceBEq,Int.reduceGE,Int.reduceLE,Aq,w,aB,aM,aI,zw];generalize (text==[])=c1;generalize (other==[])=c2;generalize g1:(decide<|(kids.length:Int)>=2)=c6;generalize g2:(decide<|(kids.length:Int)<=2)=c7;have K:(c6&&c7)=true->FK ⟨42,3,text,other,kids⟩:=fun h=>by
    have:=Ec (m:=2) (k:=2) g1 g2 h;refine ⟨aA,aA,aA,aA,fun _=>.inr<|.inr ⟨rfl,tF⟩,aA,aA,aA⟩
   cases c1<;>cases c2<;>cases c6<;>cases c7<;>exact ⟨_,rfl,rfl,fun h=>by first|(cases h;done)|exact ⟨K rfl,by simp [gG]⟩⟩
  have e2:(decide (op>=1)&&decide (op<=3))=false:=by
   cases h:(decide (op>=1)&&decide (op<=3)) with
   | false=>rfl
   | true=>simp only [dP,lQ] at h;omega
  have e3:(op==3)=false:=by simpa using q3
  simp only [e2,e3,aI,aB];exact ⟨false,rfl,rfl,fun h=>by cases h⟩
 .by_cases q1:op=1
  .subst q1;have w:IntKind.wrap .i64 ((2:Int)+IntKind.wrap .i64 (Int.tdiv (1:Int) 3))=2:=rfl;simp only [Int.reduceBEq,Int.reduceGE,Int.reduceLE,Aq,w,aB,aM,aI,zw];generalize (text==[])=c1;generalize (other==[])=c2;generalize g1:(decide<|(kids.length:Int)>=2)=c6;generalize g2:(decide<|(kids.length:Int)<=2)=c7;have K:(c6&&c7)=true->FK ⟨43,1,text,other,kids⟩:=fun h=>by
    have:=Ec (m:=2) (k:=2) g1 g2 h;refine ⟨aA,aA,aA,aA,aA,fun _=>.inl ⟨rfl,tF⟩,aA,aA⟩
   cases c1<;>cases c2<;>cases c6<;>cases c7<;>exact ⟨_,rfl,rfl,fun h=>by first|(cases h;done)|exact ⟨K rfl,by simp [gG]⟩⟩
  by_cases q3:op=3
  .subst q3;have w:IntKind.wrap .i64 ((2:Int)+IntKind.wrap .i64 (Int.tdiv (3:Int) 3))=3:=rfl;simp only [Int.reduceBEq,Int.reduceGE,Int.reduceLE,Aq,w,aB,aM,aI,zw];generalize (text==[])=c1;generalize (other==[])=c2;generalize g1:(decide<|(kids.length:Int)>=3)=c6;generalize g2:(decide<|(kids.length:Int)<=3)=c7;have K:(c6&&c7)=true->FK ⟨43,3,text,other,kids⟩:=fun h=>by
    have:=Ec (m:=3) (k:=3) g1 g2 h;refine ⟨aA,aA,aA,aA,aA,fun _=>.inr ⟨rfl,tF⟩,aA,aA⟩
   cases c1<;>cases c2<;>cases c6<;>cases c7<;>exact ⟨_,rfl,rfl,fun h=>by first|(cases h;done)|exact ⟨K rfl,by simp [gG]⟩⟩
  have e1:(op==1)=false:=by simpa using q1
  have e3:(op==3)=false:=by simpa using q3
  simp only [e1,e3,aI,aB];exact ⟨false,rfl,rfl,fun h=>by cases h⟩
 .skip
  generalize (op==0)=c1;generalize (text==[])=c2;generalize (other==[])=c3;generalize g1:(decide<|(kids.length:Int)>=1)=c6;generalize g2:(decide<|(kids.length:Int)<=7)=c7;cases c1<;>cases c2<;>cases c3<;>cases c6<;>cases c7<;>cases bn<;>exact ⟨_,rfl,rfl,fun _=>⟨FK.other aA,by simp [gG]⟩⟩
 .simp only [hlm,YS,Aq,zw];generalize (op==0)=c1;generalize (text==[])=c2;generalize (other==[])=c3;cases c1<;>cases c2<;>cases c3<;>exact ⟨_,rfl,rfl,fun _=>⟨FK.other aA,by simp [gG]⟩⟩
def jd (k:Int):Bool:=decide (k>=1)&&decide (k<=15)
def isS (k:Int):Bool:=decide (k>=20)&&decide (k<=34)
def iG (k:Int):Bool:=k==1||(k==5||k==6)
def Ea (k:Int):pU k=some (jd k):=by unfold pU;rw [DU];rfl
def Iy (k:Int):Dv k=some (jd k):=by unfold Dv;rw [KS];rfl
def ayS (k:Int):Wy k=some (isS k):=by unfold Wy;rw [DU];rfl
def ayT (k:Int):JY k=some (isS k):=by unfold JY;rw [KS];rfl
def XI (k:Int):Ku k=some (iG k):=by
 unfold Ku iG;cases (k==1)<;>cases (k==5)<;>rfl
def agN (k:Int):RI k=some (iG k):=by
 unfold RI iG;cases (k==1)<;>cases (k==5)<;>rfl
def agO {k:Int} (h:iG k=true):jd k=true:=by
 unfold iG at h;simp only [lS,oZ] at h;rcases h with rfl|rfl|rfl<;>rfl
def ayU (n:aC) (k:Nat) (kd:Int) (hf:FK n) (hk:k < n.Kids.length) (hl:n.Kids.length<=400):∃ b:Bool,ou n (k:Int) kd=some b/\sH n (k:Int) kd=some b:=by
 have hw:IntKind.wrap .i64 ((n.Kids.length:Int) - 1)=(n.Kids.length:Int) - 1:=wrap64 ah ah;obtain ⟨f28,f29,f30,f31,f42,f43,_,_⟩:=hf;obtain ⟨kind,op,text,other,kids⟩:=n;simp only at hk hl hw f28 f29 f30 f31 f42 f43;have hEL:=@agO kd;rcases jR (kind=9) with rfl|h9
 .refine ⟨iG kd,?_,?_⟩<;>simp only [ou,sO,sH,sG,Int.reduceBEq,aM,XI,agN,aB]
 rcases jR (kind=10) with rfl|h10
 .refine ⟨iG kd,?_,?_⟩<;>simp only [ou,sO,sH,sG,Int.reduceBEq,aM,aI,XI,agN,aB]
 rcases jR (kind=15) with rfl|Iz
 .simp only [ou,sO,sH,sG,Int.reduceBEq,aM,aI,XI,agN,Ea,Iy,aB];generalize jd kd=e at*;generalize iG kd=l at*;by_cases h0:k=0
  .subst h0;have d1:decide (((0:Nat):Int) > 0)=false:=aA;have d2:(((0:Nat):Int)==0)=true:=aA;rw [d1,d2];cases e<;>cases l<;>first|exact ⟨_,rfl,rfl⟩|exact absurd (hEL rfl) aA
  .have d1:decide ((k:Int) > 0)=true:=bF;have d2:((k:Int)==0)=false:=bF;rw [d1,d2];cases e<;>exact ⟨_,rfl,rfl⟩
 rcases jR (kind=28) with rfl|Ed
 .simp only [ou,sO,sH,qm,sG,wQ,Int.reduceBEq,aM,aI,Ea,Iy,aB];by_cases h0:k=0
  .subst h0;have d1:decide (((0:Nat):Int) > 0)=false:=aA;have d2:(((0:Nat):Int)==0)=true:=aA;rw [d1,d2];cases jd kd<;>exact ⟨_,rfl,rfl⟩
  .have d1:decide ((k:Int) > 0)=true:=bF;have d2:((k:Int)==0)=false:=bF;rw [d1,d2];exact ⟨_,rfl,rfl⟩
 rcases jR (kind=29) with rfl|h29
 .have hlen:=f29 rfl;simp only [ou,sO,sH,qm,sG,wQ,Int.reduceBEq,aM,aI,Ea,Iy,aB];rcases (show k=0\/k=1 by omega) with rfl|rfl
  .cases jd kd<;>exact ⟨_,rfl,rfl⟩
  .exact ⟨_,rfl,rfl⟩
 rcases jR (kind=30) with rfl|xS
 .have hlen:=f30 rfl;simp only [ou,sO,sH,qm,sG,wQ,Int.reduceBEq,aM,aI,Ea,Iy,aB];rcases (show k=0\/k=1 by omega) with rfl|rfl
  .cases (kd==33)<;>exact ⟨_,rfl,rfl⟩
  .exact ⟨_,rfl,rfl⟩
 rcases jR (kind=31) with rfl|h31
 .have hlen:=f31 rfl;simp only [ou,sO,sH,qm,sG,wQ,Int.reduceBEq,aM,aI,Ea,Iy,aB,hw,hlen];rcases (show k=0\/k=1\/k=2\/k=3 by omega) with rfl|rfl|rfl|rfl
  .cases jd kd<;>cases (kd==16)<;>exact ⟨_,rfl,rfl⟩
  .cases jd kd<;>cases (kd==16)<;>exact ⟨_,rfl,rfl⟩
  .cases jd kd<;>cases (kd==16)<;>exact ⟨_,rfl,rfl⟩
  .exact ⟨_,rfl,rfl⟩
 rcases jR (kind=32) with rfl|h32
 .simp only [ou,sO,zT,sH,qm,sG,wQ,zQ,Int.reduceBEq,aM,aI];exact ⟨_,rfl,rfl⟩
 rcases jR (kind=40) with rfl|Eb
 .simp only [ou,sO,zT,sH,qm,sG,wQ,zQ,Int.reduceBEq,aM,aI];exact ⟨_,rfl,rfl⟩
 rcases jR (kind=41) with rfl|mq
 .simp only [ou,sO,zT,sH,qm,sG,wQ,zQ,Int.reduceBEq,aM,aI];exact ⟨_,rfl,rfl⟩
 rcases jR (kind=33) with rfl|jX
 .simp only [ou,sO,zT,sH,qm,sG,wQ,zQ,Int.reduceBEq,aM,aI,ayS,ayT,aB];exact ⟨_,rfl,rfl⟩
 rcases jR (kind=42) with rfl|h42
 .simp only [ou,sO,zT,sH,qm,sG,wQ,zQ,Int.reduceBEq,aM,aI,Ea,Iy,aB,hw];rcases f42 rfl with ⟨rfl,hlen⟩|⟨rfl,hlen⟩|⟨rfl,hlen⟩<;>rw [hlen]
  .obtain rfl:k=0:=ah;cases jd kd<;>exact ⟨_,rfl,rfl⟩
  .obtain rfl:k=0:=ah;cases (kd==33)<;>exact ⟨_,rfl,rfl⟩
  .rcases (show k=0\/k=1 by omega) with rfl|rfl
   .cases jd kd<;>exact ⟨_,rfl,rfl⟩
   .cases (kd==33)<;>exact ⟨_,rfl,rfl⟩
 rcases jR (kind=43) with rfl|h43
 .simp only [ou,sO,zT,sH,qm,sG,wQ,zQ,Int.reduceBEq,aM,aI,Ea,Iy,aB,hw];rcases f43 rfl with ⟨rfl,hlen⟩|⟨rfl,hlen⟩<;>rw [hlen]
  .rcases (show k=0\/k=1 by omega) with rfl|rfl
   .cases jd kd<;>exact ⟨_,rfl,rfl⟩
   .cases jd kd<;>exact ⟨_,rfl,rfl⟩
  .rcases (show k=0\/k=1\/k=2 by omega) with rfl|rfl|rfl
   .cases jd kd<;>exact ⟨_,rfl,rfl⟩
   .cases jd kd<;>exact ⟨_,rfl,rfl⟩
   .cases (kd==33)<;>exact ⟨_,rfl,rfl⟩
 rcases jR (kind=44) with rfl|nH
 .simp only [ou,sO,zT,sH,qm,sG,wQ,zQ,Int.reduceBEq,aM,aI,aB,hw];cases ((k:Int)==(kids.length:Int) - 1)<;>cases (kd==33)<;>exact ⟨_,rfl,rfl⟩
 rcases jR (kind=45) with rfl|h45
 .simp only [ou,sO,zT,sH,qm,sG,wQ,zQ,aaC,DU,KS,Int.reduceBEq,aM,aI,aB];cases (decide (kd>=40)&&decide (kd<=44))<;>exact ⟨_,rfl,rfl⟩
 have e:∀ k,kind≠k->(kind==k)=false:=fun k h=>by simpa using h
 refine ⟨jd kd,?_,?_⟩
 .simp only [ou,sO,zT,e 9 h9,e 10 h10,e 15 Iz,e 28 Ed,e 29 h29,e 30 xS,e 31 h31,e 32 h32,e 40 Eb,e 41 mq,e 33 jX,e 42 h42,e 43 h43,e 44 nH,e 45 h45,aI,Ea,aB]
 .simp only [sH,qm,sG,wQ,zQ,e 9 h9,e 10 h10,e 15 Iz,e 28 Ed,e 29 h29,e 30 xS,e 31 h31,e 32 h32,e 40 Eb,e 41 mq,e 33 jX,e 42 h42,e 43 h43,e 44 nH,e 45 h45,aI,Iy,aB]
mutual
def aV:av->Nat
 | ⟨_,_,_,_,ks⟩=>aS ks+1
def aS:List av->Nat
 | []=>0
 | t::ts=>aV t+aS ts
end
mutual
def bU (b:Nat):av->List aC
 | ⟨k,o,t,p,ks⟩=>jW b ks++[⟨k,o,t,p,mZ b ks⟩]
def jW (b:Nat):List av->List aC
 | []=>[]
 | t::ts=>bU b t++jW (b+aV t) ts
def mZ (b:Nat):List av->List Int
 | []=>[]
 | t::ts=>(((b+aV t:Nat):Int) - 1)::mZ (b+aV t) ts
end
mutual
def wY {P:av->Prop} (h:∀ t:av,(∀ k,k∈t.kids->P k)->P t):∀ t,P t
 | ⟨k,o,x,y,ks⟩=>h ⟨k,o,x,y,ks⟩ (anA h ks)
def anA {P:av->Prop} (h:∀ t:av,(∀ k,k∈t.kids->P k)->P t):∀ (ks:List av) k,k∈ks->P k
 | [],k,hk=>by cases hk
 | t::ts,k,hk=>(gQ.1 hk).elim (fun e=>e ▸ wY h t) (anA h ts k)
end
mutual
def vU:∀ (t:av) (b:Nat),(bU b t).length=aV t
 | ⟨k,o,x,y,ks⟩,b=>by rw [bU,aV,jq,OD ks b];rfl
def OD:∀ (ts:List av) (b:Nat),(jW b ts).length=aS ts
 | [],b=>by rw [jW,aS];rfl
 | t::ts,b=>by rw [jW,aS,jq,vU t b,OD ts _]
end
def uK (t:av):1<=aV t:=by cases t;rw [aV];omega
def FM (t:av):aV t=aS t.kids+1:=by cases t;rw [aV]
def Af:∀ ts:List av,ts.length<=aS ts
 | []=>by simp [aS]
 | t::ts=>by have:=uK t;have:=Af ts;rw [aS];simp only [kF];omega
def FL:∀ {ts:List av} {t:av},t∈ts->aV t<=aS ts
 | t'::ts,t,h=>by
  rw [aS];rcases gQ.1 h with rfl|h
  .omega
  .have:=FL h;omega
def Iw:∀ (a b:List av),aS (a++b)=aS a+aS b
 | [],b=>by simp [aS]
 | t::a,b=>by rw [Gi,aS,aS,Iw a b];omega
def anB:∀ (a b:List av) (s:Nat),jW s (a++b)=jW s a++jW (s+aS a) b
 | [],b,s=>by simp [jW,aS]
 | t::a,b,s=>by rw [Gi,jW,jW,aS,anB a b,nU,Gm]
def anC:∀ (a b:List av) (s:Nat),mZ s (a++b)=mZ s a++mZ (s+aS a) b
 | [],b,s=>by simp [mZ,aS]
 | t::a,b,s=>by rw [Gi,mZ,mZ,aS,anC a b,Gm];rfl
def OE:∀ (ts:List av) (b:Nat),(mZ b ts).length=ts.length
 | [],b=>rfl
 | t::ts,b=>by rw [mZ,kF,kF,OE ts _]
def CB (d:Int) (x:aC):aC:=⟨x.Kind,x.Op,x.Text,x.Other,x.Kids.map (·+d)⟩
def ayW (x:aC):CB 0 x=x:=by
 unfold CB;cases x;simp
def ayX (d e:Int) (x:aC):CB d (CB e x)=CB (e+d) x:=by
 unfold CB;simp only [Jt,aC.mk.injEq,true_and];refine zu fun k _=>?_;simp only [Function.comp_apply];omega
mutual
def abD:∀ (t:av) (b d:Nat),bU (b+d) t=(bU b t).map (CB d)
 | ⟨k,o,x,y,ks⟩,b,d=>by
  rw [bU,bU,CX,anD ks b d,anE ks b d];rfl
def anD:∀ (ts:List av) (b d:Nat),jW (b+d) ts=(jW b ts).map (CB d)
 | [],b,d=>rfl
 | t::ts,b,d=>by
  rw [jW,jW,CX,abD t b d,YG,anD ts _ d]
def anE:∀ (ts:List av) (b d:Nat),mZ (b+d) ts=(mZ b ts).map (·+(d:Int))
 | [],b,d=>rfl
 | t::ts,b,d=>by
  rw [mZ,mZ,jS,YG,anE ts _ d];congr 1;omega
end
def ayY (t:av) (b:Nat):(bU b t).map (CB<|-(b:Int))=bU 0 t:=by
 have:=abD t 0 b;rw [qV] at this;rw [this,Jt];refine (zu fun x _=>?_).trans (Mc _);simp only [Function.comp_apply,ayX];rw [show (b:Int)+ -(b:Int)=0 by omega,ayW];rfl
def anF:∀ (ts:List av) (b:Nat) (k:Int),k∈mZ b ts->0<=k/\k < b+aS ts
 | [],b,k,h=>by cases h
 | t::ts,b,k,h=>by
  rw [mZ] at h;rw [aS];have:=uK t;rcases gQ.1 h with rfl|h
  .omega
  .have:=anF ts _ k h;omega
mutual
def XF:∀ (t:av) (b:Nat) (x:aC),x∈bU b t->∀ k,k∈x.Kids->0<=k/\k < b+aV t
 | ⟨kd,o,x,y,ks⟩,b,n,h,k,hk=>by
  rw [bU] at h;rw [aV];rcases kY.1 h with h|h
  .have:=anG ks b n h k hk;omega
  .rw [tu.1 h] at hk;have:=anF ks b k hk;omega
def anG:∀ (ts:List av) (b:Nat) (x:aC),x∈jW b ts->∀ k,k∈x.Kids->0<=k/\k < b+aS ts
 | [],b,n,h,k,hk=>by rw [jW] at h;cases h
 | t::ts,b,n,h,k,hk=>by
  rw [jW] at h;rw [aS];rcases kY.1 h with h|h
  .have:=XF t b n h k hk;omega
  .have:=anG ts _ n h k hk;omega
end
mutual
def TA (a:List aC):av->Nat->Nat->Prop
 | ⟨kd,op,x,y,ts⟩,s,i=>∃ n,a[i]?=some n/\n.Kind=kd/\n.Op=op/\n.Text=x/\n.Other=y/\KA a ts n.Kids s i
def KA (a:List aC):List av->List Int->Nat->Nat->Prop
 | [],ks,s,e=>ks=[]/\s=e
 | t::ts,ks,s,e=>∃ (k:Nat) (ks':List Int),ks=(k:Int)::ks'/\s<=k/\k < e/\TA a t s k/\KA a ts ks' (k+1) e
end
def part (a:List aC) (s e:Nat):List aC:=(a.drop s).take (e - s)
def anH {a:List aC} {s m e:Nat} (h1:s<=m) (h2:m<=e):part a s m++part a m e=part a s e:=by
 unfold part;rw [show e - s=(m - s)+(e - m) by omega,List.take_add,Ud,show s+(m - s)=m by omega]
def ayZ {a:List aC} {i:Nat} {n:aC} (h:a[i]?=some n):part a i (i+1)=[n]:=by
 obtain ⟨hi,rfl⟩:=dw.1 h;unfold part;rw [show i+1 - i=1 by omega,Jj hi];rfl
def aza (a:List aC) (i:Nat):part a i i=[]:=by
 unfold part;simp
def amx (a:List aC):part a 0 a.length=a:=by
 unfold part;simp
def TA.lt {a:List aC} {t:av} {s i:Nat} (h:TA a t s i):i < a.length:=by
 cases t;rw [TA] at h;obtain ⟨n,hn,_⟩:=h;exact (dw.1 hn).1
mutual
def TA.part {a:List aC}:∀ {t:av} {s i:Nat},TA a t s i->s<=i/\aV t=i+1 - s/\part a s (i+1)=bU s t
 | ⟨kd,op,x,y,ts⟩,s,i,h=>by
  rw [TA] at h;obtain ⟨n,hn,rfl,rfl,rfl,rfl,hk⟩:=h;obtain ⟨h1,h2,h3,h4⟩:=KA.part hk;refine ⟨h1,by rw [aV];omega,?_⟩;rw [bU,<- h3,<- h4,<- anH h1 (Nat.le_succ i),ayZ hn]
def KA.part {a:List aC}:∀ {ts:List av} {ks:List Int} {s e:Nat},KA a ts ks s e->s<=e/\aS ts=e - s/\Go.Proofs.Tryz.part a s e=jW s ts/\ks=mZ s ts
 | [],ks,s,e,h=>by
  rw [KA] at h;obtain ⟨rfl,rfl⟩:=h;exact ⟨eD _,by rw [aS];omega,by rw [aza,jW],by rw [mZ]⟩
 | t::ts,ks,s,e,h=>by
  rw [KA] at h;obtain ⟨k,ks',rfl,h1,h2,ht,hk⟩:=h;obtain ⟨g1,g2,g3⟩:=TA.part ht;obtain ⟨k1,k2,k3,k4⟩:=KA.part hk;have e1:s+aV t=k+1:=ah;refine ⟨ah,by rw [aS];omega,?_,?_⟩
  .rw [jW,e1,<- g3,<- k3,anH ah ah]
  .rw [mZ,e1,<- k4];congr 1;omega
end
mutual
def TA.uniq {a:List aC}:∀ {t t':av} {s s' i:Nat},TA a t s i->TA a t' s' i->t=t'/\s=s'
 | ⟨kd,op,x,y,ts⟩,⟨kd',op',x',y',ts'⟩,s,s',i,h,h'=>by
  rw [TA] at h h';obtain ⟨n,hn,rfl,rfl,rfl,rfl,hk⟩:=h;obtain ⟨n',hn',rfl,rfl,rfl,rfl,hk'⟩:=h';rw [hn] at hn';cases hn';obtain ⟨rfl,rfl⟩:=KA.uniq hk hk';exact ⟨rfl,rfl⟩
def KA.uniq {a:List aC}:∀ {ts ts':List av} {ks:List Int} {s s' e:Nat},KA a ts ks s e->KA a ts' ks s' e->ts=ts'/\s=s'
 | [],[],ks,s,s',e,h,h'=>by
  rw [KA] at h h';exact ⟨rfl,h.2.trans h'.2.symm⟩
 | [],t'::ts',ks,s,s',e,h,h'=>by
  simp only [KA] at h h';obtain ⟨k,ks',e1,_⟩:=h';rw [h.1] at e1;cases e1
 | t::ts,[],ks,s,s',e,h,h'=>by
  simp only [KA] at h h';obtain ⟨k,ks',e1,_⟩:=h;rw [h'.1] at e1;cases e1
 | t::ts,t'::ts',ks,s,s',e,h,h'=>by
  rw [KA] at h h';obtain ⟨k,ks',rfl,_,_,ht,hk⟩:=h;obtain ⟨k2,ks2,e1,_,_,ht',hk'⟩:=h';injection e1 with e1 e2;have:k=k2:=ah;subst this;subst e2;obtain ⟨rfl,rfl⟩:=TA.uniq ht ht';obtain ⟨rfl,_⟩:=KA.uniq hk hk';exact ⟨rfl,rfl⟩
end
def anI {a:List aC} {r:List Int} {e:Nat} (ih:∀ k s:Nat,k < e->r[k]?=some (s:Int)->∃ t,TA a t s k):∀ (ks:List Int) (s:Nat),Go.Av.Kids r (s:Int) (e:Int) ks->∃ ts,KA a ts ks s e
  | [],s,h=>by
    simp only [Go.Av.Kids] at h;exact ⟨[],by rw [KA];exact ⟨rfl,ah⟩⟩
  | k::ks,s,h=>by
    obtain ⟨h0,h1,h2,h3,h4⟩:=h;obtain ⟨kn,rfl⟩:=qU (show 0<=k by omega);rw [BA] at h3;obtain ⟨t,ht⟩:=ih kn s ah h3;obtain ⟨ts,hts⟩:=anI ih ks (kn+1) (by (have:((kn+1:Nat):Int)=(kn:Int)+1:=by omega);rw [this];exact h4);exact ⟨t::ts,by rw [KA];exact ⟨kn,ks,rfl,ah,ah,ht,hts⟩⟩
def anJ {a:List aC} {r:List Int} (hl:Low r) (hk:∀ (i:Nat) (hi:i < a.length),∃ s,r[i]?=some s/\Go.Av.Kids r s (i:Int) a[i].Kids):∀ (i s:Nat),i < a.length->r[i]?=some (s:Int)->∃ t,TA a t s i:=by
 intro i;induction i using Nat.strongRecOn with
 | ind i ih=>
  intro s hi hs;obtain ⟨s',hs',hks⟩:=hk i hi;rw [hs] at hs';cases hs';obtain ⟨ts,hts⟩:=anI (a:=a) (r:=r) (e:=i) (fun k s hk' hr=>ih k hk' s ah hr) _ _ hks;exact ⟨⟨a[i].Kind,a[i].Op,a[i].Text,a[i].Other,ts⟩,by rw [TA];exact ⟨a[i],eZ hi,rfl,rfl,rfl,rfl,hts⟩⟩
def Ji {a:List aC} (h:vG a=true):1<=a.length/\a.length<=400/\∃ r,starts (rE a) []=some r/\r.length=a.length/\Low r/\
  (∀ i,i < a.length->∃ (t:av) (s:Nat),r[i]?=some (s:Int)/\TA a t s i)/\∃ t,TA a t 0 (a.length - 1):=by
 unfold vG at h;simp only [dP,lQ] at h;obtain ⟨⟨h1,h2⟩,h3⟩:=h;cases hst:starts (rE a) [] with
 | none=>rw [hst] at h3;cases h3
 | some r=>
  rw [hst] at h3;obtain ⟨⟨m,hm,hml⟩,hl,hk⟩:=aeA _ (fun j s h=>by simp at h) hst;have hrl:r.length=a.length:=by rw [hm];simp [hml,rE]
  have hk':∀ (i:Nat) (hi:i < a.length),∃ s,r[i]?=some s/\Go.Av.Kids r s (i:Int) a[i].Kids:=fun i hi=>by
   obtain ⟨s,e1,e2⟩:=hk i a[i].Kids (by simp [rE,eZ hi]);simp only [yt,qV] at e1 e2;exact ⟨s,e1,e2⟩
  refine ⟨h1,h2,r,rfl,hrl,hl,fun i hi=>?_,?_⟩
  .obtain ⟨s,hs,_⟩:=hk' i hi;have:=(hl i s hs).1;obtain ⟨sn,rfl⟩:=qU this;obtain ⟨t,ht⟩:=anJ hl hk' i sn hi hs;exact ⟨t,sn,hs,ht⟩
  .have:r[a.length - 1]?=some ((0:Nat):Int):=by simpa [Xi] using h3
   exact anJ hl hk' (a.length - 1) 0 ah this
def afY {a:List aC} (h:vG a=true):∀ x,x∈a->x.Kids.length<=400/\∀ k,k∈x.Kids->0<=k/\k < a.length:=by
 obtain ⟨h1,h2,r,_,_,_,hT,t,ht⟩:=Ji h;obtain ⟨g1,g2,g3⟩:=ht.part;rw [show a.length - 1+1=a.length by omega,amx] at g3;intro x hx;constructor
 .obtain ⟨i,hi,rfl⟩:=List.getElem_of_mem hx;obtain ⟨t',s,_,ht'⟩:=hT i hi;cases t';rw [TA] at ht';obtain ⟨n,hn,_,_,_,_,hk⟩:=ht';rw [eZ hi] at hn;cases hn;obtain ⟨k1,k2,k3,k4⟩:=hk.part;have:=Af ‹List av›;rw [k4,OE];omega
 .intro k hk;rw [g3] at hx;have:=XF t 0 x hx k hk;omega
def anK (a:List aC) (e:aC) (M i:Nat):∀ (ts:List av) (j n s:Nat) (acc:List av),(∀ t,t∈ts->∀ s k:Nat,TA a t s k->k < i->(GY M).Ca a (k:Int)=some t)->KA a ts (e.Kids.drop j) s i->acc.length=j->j<=e.Kids.length->e.Kids.length<=100000->ts.length < n->
  Kc M (GY M) n (a,e,(j:Int),acc)=some ⟨e.Kind,e.Op,e.Text,e.Other,acc++ts⟩
 | [],j,n,s,acc,ih,h,ha,hj,he,hn=>by
  simp only [KA] at h;obtain ⟨n,rfl⟩:∃ m,n=m+1:=⟨n - 1,by simp at hn;omega⟩
  have hlt: ¬j < e.Kids.length:=by
   intro hlt;rw [drop_cons hlt] at h;cases h.1
  rw [Kc];simp only [jZ hlt,aI,qd]
 | t::ts,j,n,s,acc,ih,h,ha,hj,he,hn=>by
  simp only [KA] at h;obtain ⟨k,ks',hd,h1,h2,XJ,hka⟩:=h;simp only [kF] at hn;obtain ⟨n,rfl⟩:∃ m,n=m+1:=⟨n - 1,ah⟩
  have hlt:j < e.Kids.length:=by
   cases vZ j e.Kids.length with
   | inl h=>exact h
   | inr h=>rw [Gf h] at hd;cases hd
  rw [drop_cons hlt] at hd;injection hd with hd1 hd2;rw [Kc];simp only [iT hlt,aM,dx hlt,hd1,aB];rw [ih t aA s k XJ h2,aB,pG bF,aB,wrap64 ah ah];have:=anK a e M i ts (j+1) n (k+1) (acc++[t]) (fun t' h'=>ih t'<|by simp [h']) (hd2 ▸ hka) (by simp [ha]) ah he ah;rw [nU] at this;exact this
def azb (a:List aC):∀ (t:av) (s i N:Nat),TA a t s i->i<=100000->2*aV t+2<=N->(GY N).Ca a (i:Int)=some t:=by
 intro t;induction t using wY with
 | h t ih=>
  intro s i N h hi hN;obtain ⟨M,rfl⟩:∃ M,N=M+1:=⟨N - 1,ah⟩
  obtain ⟨kd,op,x,y,ts⟩:=t;have hsz:=(TA.part h).2.1;rw [TA] at h;obtain ⟨n,hn,rfl,rfl,rfl,rfl,hk⟩:=h;obtain ⟨h1,h2,h3,h4⟩:=hk.part;have hkl:n.Kids.length=ts.length:=by rw [h4,OE]
  have htl:=Af ts;rw [aV] at hsz hN;show VN M (GY M) a (i:Int)=_;unfold VN;rw [aey hn,aB];have:=anK a n M i ts 0 M s [] (fun t' ht' s' k XJ hki=>ih t' ht' s' k M XJ ah (by have:=FL ht';omega)) (by simpa using hk) rfl ah ah ah;simpa using this
def acH (N:Nat) (a:List aC) (hN:1000 < N) {t:av} (h:TA a t 0 (a.length - 1)) (h1:1<=a.length) (h2:a.length<=400):Ke N a=some t:=by
 obtain ⟨_,hs,_⟩:=h.part;unfold Ke;rw [wrap64 ah ah,show (a.length:Int) - 1=((a.length - 1:Nat):Int) by omega];have:=azb a t 0 (a.length - 1) N h ah ah;show Option.bind ((GY N).Ca a _) _=_;rw [this];rfl
def anL (t:av) (G:Nat):∀ (ts:List av) (j n:Nat) (acc:List aC) (ids:List Int),(∀ k,k∈ts->∀ acc:List aC,acc.length+aV k<=1000000->(Ij G).Co k acc=some (acc++bU acc.length k))->t.kids.drop j=ts->ts.length < n->
  acc.length+aS ts<=999999->ids.length+ts.length<=1000000->t.kids.length<=1000000->
  KL G (Ij G) n (t,(j:Int),acc,ids)=some (acc++jW acc.length ts++[⟨t.kind,t.op,t.text,t.other,ids++mZ acc.length ts⟩])
 | [],j,n,acc,ids,ih,hd,hn,hacc,anM,htl=>by
  obtain ⟨n,rfl⟩:∃ m,n=m+1:=⟨n - 1,by simp at hn;omega⟩
  have hj: ¬j < t.kids.length:=by
   intro h;rw [drop_cons h] at hd;cases hd
  rw [KL];simp only [jZ hj,aI];rw [pG bF,aB];simp [jW,mZ]
 | k::ts,j,n,acc,ids,ih,hd,hn,hacc,anM,htl=>by
  simp only [kF] at hn anM;rw [aS] at hacc;obtain ⟨n,rfl⟩:∃ m,n=m+1:=⟨n - 1,ah⟩
  have hj:j < t.kids.length:=by
   cases vZ j t.kids.length with
   | inl h=>exact h
   | inr h=>rw [Gf h] at hd;cases hd
  rw [drop_cons hj] at hd;injection hd with hd1 hd2;have hsz:=uK k;have hlen:(acc++bU acc.length k).length=acc.length+aV k:=by rw [jq,vU]
  rw [KL];simp only [iT hj,aM,dx hj,hd1,aB];rw [ih k aA acc ah,aB,hlen,wrap64 ah ah,pG bF,aB,wrap64 ah ah];have:=anL t G ts (j+1) n (acc++bU acc.length k) (ids++[((acc.length+aV k:Nat):Int) - 1]) (fun k' h'=>ih k'<|by simp [h']) hd2 ah (by rw [hlen];omega) bF htl;rw [hlen] at this;rw [show ((j:Int)+1)=((j+1:Nat):Int) by omega,this,jW,mZ];simp only [nU,Gi,Gh]
def azc:∀ (t:av) (N:Nat) (acc:List aC),2*aV t+2<=N->acc.length+aV t<=1000000->(Ij N).Co t acc=some (acc++bU acc.length t):=by
 intro t;induction t using wY with
 | h t ih=>
  intro N acc hN ha;obtain ⟨M,rfl⟩:∃ M,N=M+1:=⟨N - 1,ah⟩
  have hsz:=FM t;have htl:=Af t.kids;show WY M (Ij M) t acc=_;unfold WY;have:=anL t M t.kids 0 M acc [] (fun k hk acc' ha'=>ih k hk M acc' (by have:=FL hk;omega) ha') rfl ah ah bF ah;refine Gr this ?_;obtain ⟨kd,op,x,y,ts⟩:=t;rw [bU];simp
def ayz (N:Nat) (t:av) (hN:2*aV t+2<=N) (h:aV t<=1000000):Sn N t=some (bU 0 t):=by
 unfold Sn;have:=azc t N [] hN (by simpa using h);show Option.bind ((Ij N).Co t []) _=_;rw [this];simp
def azd (N:Nat) (kb:(List aC×Int×Int×List aC)->Option (List aC)) (a:List aC) (d:Int) (i:Nat) (hi:i < a.length) (hi2:i<=1048576) (out:List aC) (ho:out.length=i) (hk:a[i].Kids.length<=1048576)
  (hr:∀ k,k∈a[i].Kids-> -9223372036854775808<=k+d/\k+d<=9223372036854775807):
  ∀ (n j:Nat) (ks:List Int),a[i].Kids.length - j < n->j<=a[i].Kids.length->ks.length=j->
   MH N kb n (a,d,(i:Int),out,a[i],(j:Int),ks)=kb (a,d,((i+1:Nat):Int),out++[⟨a[i].Kind,a[i].Op,a[i].Text,a[i].Other,ks++(a[i].Kids.drop j).map (·+d)⟩]):=by
 intro n;induction n with
 | zero=>intro j ks h;omega
 | succ n ih=>
  intro j ks hn hj hks;rw [MH,dx hi,aB];by_cases h:j < a[i].Kids.length
  .have hx:=hr _ (nW h);simp only [iT h,aM,dx hi,dx h,aB,MB h<|by simp only [maxLen];omega];rw [wrap64 hx.1 hx.2,pG bF,aB,ih (j+1) _ ah ah (by simp [hks]),drop_cons h];simp only [jS,nU,Gi,Gh]
  .simp only [jZ h,aI];rw [pG bF,aB,drop_nil h,wrap64 ah ah];simp
def aze (N:Nat) (a:List aC) (d:Int) (hN:1048577 < N) (ha:a.length<=1048576) (hs:∀ x,x∈a->x.Kids.length<=1048576) (hr:∀ x,x∈a->∀ k,k∈x.Kids-> -9223372036854775808<=k+d/\k+d<=9223372036854775807):
  ∀ (n i:Nat) (out:List aC),a.length - i < n->i<=a.length->out.length=i->GL N n (a,d,(i:Int),out)=some (out++(a.drop i).map (CB d)):=by
 intro n;induction n with
 | zero=>intro i out h;omega
 | succ n ih=>
  intro i out hn hi ho;rw [GL];by_cases h:i < a.length
  .have hx:=hs _ (nW h);simp only [iT h,aM,dx h,aB];have:=azd N (GL N n) a d i h ah out ho ah (hr _<|nW h) N 0 [] ah ah rfl;simp only [Js,Gh] at this;refine Gr this ?_;rw [ih (i+1) _ ah ah (by simp [ho]),drop_cons h];simp only [jS,nU,Gi,Gh,CB]
  .simp only [jZ h,aI];rw [drop_nil h];simp
def azf (N:Nat) (a:List aC) (d:Int) (hN:1048577 < N) (ha:a.length<=1048576) (hs:∀ x,x∈a->x.Kids.length<=1048576) (hr:∀ x,x∈a->∀ k,k∈x.Kids-> -9223372036854775808<=k+d/\k+d<=9223372036854775807):
  UU N a d=some (a.map<|CB d):=by
 have:=aze N a d hN ha hs hr N 0 [] ah ah rfl;rw [Js,Gh] at this;exact this
mutual
def abM:∀ (t:av) (b:Nat) (x:aC),x∈bU b t->x.Kids.length < aV t
 | ⟨kd,o,x,y,ks⟩,b,n,h=>by
  rw [bU] at h;rw [aV];rcases kY.1 h with h|h
  .have:=anN ks b n h;omega
  .rw [tu.1 h];have:=Af ks;simp only [OE];omega
def anN:∀ (ts:List av) (b:Nat) (x:aC),x∈jW b ts->x.Kids.length < aS ts
 | [],b,n,h=>by rw [jW] at h;cases h
 | t::ts,b,n,h=>by
  rw [jW] at h;rw [aS];rcases kY.1 h with h|h
  .have:=abM t b n h;omega
  .have:=anN ts _ n h;omega
end
def azg (N:Nat) (t:av) (b d:Nat) (hN:1048577 < N) (h:b+d+aV t<=1000000):UU N (bU b t) (d:Int)=some (bU (b+d) t):=by
 rw [abD];exact azf N _ _ hN (by rw [vU];omega) (fun x hx=>by have:=abM t b x hx;omega) fun x hx k hk=>by have:=XF t b x hx k hk;omega
def anO (N:Nat) (n0:aC) (ts:List av) (hN:1048577 < N) (hsz:aS ts<=900000):∀ (rest done:List av) (n:Nat),done++rest=ts->rest.length < n->
  JJ N n (ts.map<|bU 0,n0,(done.length:Int),jW 0 done,mZ 0 done)=some (bU 0 ⟨n0.Kind,n0.Op,n0.Text,n0.Other,ts⟩)
 | [],done,n,hd,hn=>by
  obtain ⟨n,rfl⟩:∃ m,n=m+1:=⟨n - 1,by simp at hn;omega⟩
  rw [qd] at hd;subst hd;have hl:=Af done;have: ¬done.length < (done.map<|bU 0).length:=aA;rw [JJ];simp only [jZ this,aI];rw [pG (by rw [OD];simp;omega),aB,bU]
 | t::rest,done,n,hd,hn=>by
  simp only [kF] at hn;obtain ⟨n,rfl⟩:∃ m,n=m+1:=⟨n - 1,ah⟩
  have hlt:done.length < (ts.map<|bU 0).length:=by rw [<- hd];simp
  have hlt2:done.length < ts.length:=by simpa using hlt
  have hx:(ts.map<|bU 0)[done.length]'hlt=bU 0 t:=by simp [<- hd]
  have hsum:aS done+aV t+aS rest=aS ts:=by rw [<- hd,Iw,aS];omega
  have hl:=Af done;have hp:=uK t;rw [JJ];simp only [iT hlt,aM,dx hlt,aB,hx,OD];have hsh:=azg N t 0 (aS done) hN ah;rw [qV] at hsh;rw [hsh,aB,pG (by rw [OD,vU];omega),aB,jq,OD,vU,wrap64 (n:=((aS done+aV t:Nat):Int) - 1) ah ah,pG (by rw [OE];simp;omega),aB,wrap64 ah ah];have:=anO N n0 ts hN hsz rest (done++[t]) n (by simpa using hd) ah;rw [anB,anC,qV] at this;simp only [jW,mZ,qd,jq,kF,yt] at this;exact this
def amP (N:Nat) (n0:aC) (ts:List av) (hN:1048577 < N) (hsz:aS ts<=900000):iZ N n0 (ts.map<|bU 0)=some (bU 0 ⟨n0.Kind,n0.Op,n0.Text,n0.Other,ts⟩):=
 anO N n0 ts hN hsz ts [] N rfl (by have:=Af ts;omega)
mutual
def eB:av->Nat
 | ⟨_,_,_,_,ks⟩=>ig ks+1
def ig:List av->Nat
 | []=>0
 | t::ts=>max (eB t) (ig ts)
end
mutual
def agP:∀ t:av,eB t<=aV t
 | ⟨k,o,x,y,ks⟩=>by have:=anP ks;rw [eB,aV];omega
def anP:∀ ts:List av,ig ts<=aS ts
 | []=>by rw [ig,aS];omega
 | t::ts=>by have:=agP t;have:=anP ts;rw [ig,aS];omega
end
def Xo (t:av):eB t=ig t.kids+1:=by cases t;rw [eB]
def anQ (t:av) (G:Nat) (hsz:aV t<=100000):∀ (ts:List av) (j n m:Nat),(∀ k,k∈ts->(Kh G).wT k=some (eB k:Int))->t.kids.drop j=ts->ts.length < n->m<=100000->
  Kg G (Kh G) n (t,(m:Int),(j:Int))=some (((max m (ig ts)+1:Nat):Int))
 | [],j,n,m,ih,hd,hn,hm=>by
  obtain ⟨n,rfl⟩:∃ m,n=m+1:=⟨n - 1,by simp at hn;omega⟩
  have hj: ¬j < t.kids.length:=by
   intro h;rw [drop_cons h] at hd;cases hd
  rw [Kg];simp only [jZ hj,aI];rw [wrap64 ah ah,ig];congr 1;omega
 | k::ts,j,n,m,ih,hd,hn,hm=>by
  simp only [kF] at hn;obtain ⟨n,rfl⟩:∃ m,n=m+1:=⟨n - 1,ah⟩
  have hj:j < t.kids.length:=by
   cases vZ j t.kids.length with
   | inl h=>exact h
   | inr h=>rw [Gf h] at hd;cases hd
  have hjl:t.kids.length<=100000:=by have:=Af t.kids;have:=FM t;omega
  have hmem:k∈t.kids:=by
   have:k∈t.kids.drop j:=by rw [hd];simp
   exact List.mem_of_mem_drop this
  have hkd:eB k<=100000:=by have:=agP k;have:=FL hmem;have:=FM t;omega
  rw [drop_cons hj] at hd;injection hd with hd1 hd2;rw [Kg];simp only [iT hj,aM,dx hj,hd1,aB];rw [ih k aA,aB,wrap64 ah ah];have hmax:(if (eB k:Int) > (m:Int) then (eB k:Int) else (m:Int))=((max m (eB k):Nat):Int):=by split<;>omega
  rw [hmax,show ((j:Int)+1)=((j+1:Nat):Int) by omega,anQ t G hsz ts (j+1) n (max m<|eB k) (fun k' h'=>ih k'<|by simp [h']) hd2 ah ah,ig,Nat.max_assoc]
def ant:∀ (t:av) (N:Nat),2*aV t+2<=N->aV t<=100000->(Kh N).wT t=some (eB t:Int):=by
 intro t;induction t using wY with
 | h t ih=>
  intro N hN hsz;obtain ⟨M,rfl⟩:∃ M,N=M+1:=⟨N - 1,ah⟩
  have h1:=FM t;have h2:=Af t.kids;show VP M (Kh M) t=_;unfold VP;have:=anQ t M hsz t.kids 0 M 0 (fun k hk=>ih k hk M (by have:=FL hk;omega) (by have:=FL hk;omega)) rfl ah ah;refine Gr this ?_;rw [Xo,Nat.zero_max]
def anR (a:List aC) (d:List Int):Prop:=∀ (j:Nat) (v:Int),d[j]?=some v->∃ t s,TA a t s j/\v=eB t
def anS (N:Nat) (kb:(List aC×Int×List Int)->Option Int) (a:List aC) (ha:a.length<=400) (i:Nat) (hi:i < a.length) (d:List Int) (hd:d.length=i) (hok:anR a d) (hkl:a[i].Kids.length<=400):∀ (ts:List av) (j n s m:Nat),KA a ts (a[i].Kids.drop j) s i->j<=a[i].Kids.length->ts.length < n->m<=1000->aS ts<=400->
  Kn N kb n (a,(i:Int),d,(m:Int),(j:Int))=kb (a,((i+1:Nat):Int),d++[((max m (ig ts+(if ts=[] then 0 else 1)):Nat):Int)])
 | [],j,n,s,m,h,hj,hn,hm,hsz=>by
  simp only [KA] at h;obtain ⟨n,rfl⟩:∃ m,n=m+1:=⟨n - 1,by simp at hn;omega⟩
  have hlt: ¬j < a[i].Kids.length:=by
   intro hlt;rw [drop_cons hlt] at h;cases h.1
  rw [Kn,dx hi,aB];simp only [jZ hlt,aI];rw [pG bF,aB,wrap64 ah ah,ig];simp
 | t::ts,j,n,s,m,h,hj,hn,hm,hsz=>by
  simp only [KA] at h;obtain ⟨k,ks',hdk,h1,h2,XJ,hka⟩:=h;simp only [kF] at hn;rw [aS] at hsz;obtain ⟨n,rfl⟩:∃ m,n=m+1:=⟨n - 1,ah⟩
  have hlt:j < a[i].Kids.length:=by
   cases vZ j a[i].Kids.length with
   | inl h=>exact h
   | inr h=>rw [Gf h] at hdk;cases hdk
  rw [drop_cons hlt] at hdk;injection hdk with hd1 hd2;have hkd:k < d.length:=ah;obtain ⟨t',s',ht',hv⟩:=hok k d[k] (eZ hkd);obtain ⟨rfl,rfl⟩:=TA.uniq XJ ht';have hdl:=agP t;rw [Kn,dx hi,aB];simp only [iT hlt,aM,dx hi,dx hlt,aB,hd1];rw [dx hkd,aB,hv,wrap64 (n:=1+(eB t:Int)) ah ah,wrap64 ah ah];have hmax:(if 1+(eB t:Int) > (m:Int) then 1+(eB t:Int) else (m:Int))=((max m (eB t+1):Nat):Int):=by split<;>omega
  rw [hmax,show ((j:Int)+1)=((j+1:Nat):Int) by omega,anS N kb a ha i hi d hd hok hkl ts (j+1) n (k+1) _ (hd2 ▸ hka) ah ah ah ah,ig];have e:max (max m<|eB t+1) (ig ts+(if ts=[] then 0 else 1))=max m (max (eB t) (ig ts)+(if t::ts=[] then 0 else 1)):=by
   have h3:(t::ts=[])=False:=aA;simp only [h3,if_false];split
   .subst_vars;rw [ig];omega
   .omega
  rw [e]
def azh (N:Nat) (a:List aC) (hN:1000 < N) (ha:a.length<=400) (h1:1<=a.length) (hT:∀ i,i < a.length->∃ (t:av) (s:Nat),TA a t s i) {t0:av} (h0:TA a t0 0 (a.length - 1)):∀ (n i:Nat) (d:List Int),a.length - i < n->i<=a.length->d.length=i->anR a d->
  Ho N n (a,(i:Int),d)=some (eB t0:Int):=by
 intro n;induction n with
 | zero=>intro i d h;omega
 | succ n ih=>
  intro i d hn hi hd hok;rw [Ho];by_cases h:i < a.length
  .obtain ⟨t,s,ht⟩:=hT i h;have htp:=ht.part;obtain ⟨kd,op,x,y,ts⟩:=t;have ht2:=ht;rw [TA] at ht2;obtain ⟨n0,hn0,_,_,_,_,hk⟩:=ht2;rw [eZ h] at hn0;cases hn0;obtain ⟨k1,k2,k3,k4⟩:=hk.part;have hl:=Af ts;have hkl:a[i].Kids.length=ts.length:=by rw [k4,OE]
   rw [aV] at htp;have:=anS N (Ho N n) a ha i h d hd hok ah ts 0 N s 1 (by simpa using hk) ah ah ah ah;simp only [iT h,aM];refine Gr this ?_;have e:max 1 (ig ts+(if ts=[] then 0 else 1))=eB ⟨a[i].Kind,a[i].Op,a[i].Text,a[i].Other,ts⟩:=by
    rw [eB];split
    .subst_vars;rw [ig];rfl
    .omega
   refine ih (i+1) _ ah ah (by simp [hd]) fun j v hv=>?_;rw [List.getElem?_append] at hv;split at hv
   .exact hok j v hv
   .rename_i hj;have hji:j=i:=by
     have:=(dw.1 hv).1;simp at this;omega
    subst hji;rw [hd,acV] at hv;simp only [Jl,iQ] at hv;refine ⟨_,_,ht,?_⟩;rw [<- hv,e];simp_all [eB]
  .simp only [jZ h,aI];have hia:i=a.length:=ah;have hlt:a.length - 1 < d.length:=ah;obtain ⟨t',s',ht',hv⟩:=hok (a.length - 1) _ (eZ hlt);obtain ⟨rfl,_⟩:=TA.uniq h0 ht';have hx:=dx hlt;rw [wrap64 ah ah,show (a.length:Int) - 1=((a.length - 1:Nat):Int) by omega,hx,aB,hv]
def amw (N:Nat) (a:List aC) (hN:1048577 < N) (hs:∀ x,x∈a->yB x) (hsh:vG a=true) {t:av} (ht:TA a t 0 (a.length - 1)):Wn N a=some (eB t:Int):=by
 obtain ⟨h1,h2,r,_,_,_,hT,_⟩:=Ji hsh;unfold Wn;rw [alZ N a hN hs,hsh,aB];exact azh N a ah h2 h1 (fun i hi=>by obtain ⟨t,s,_,h⟩:=hT i hi;exact ⟨t,s,h⟩) ht N 0 [] ah ah rfl (fun j v h=>by simp at h)
def azi (N:Nat) (a:List aC) (hN:1048577 < N) (ha:a.length<=400) (i:Nat) (hi:i < a.length) (hf:FK a[i]) (hkl:a[i].Kids.length<=400) (hkr:∀ k,k∈a[i].Kids->0<=k/\k < a.length) (jl kb2:(List aC×Int)->Option Bool) (c:Bool)
  (hkb:∃ b:Bool,jl (a,((i+1:Nat):Int))=some b/\kb2 (a,((i+1:Nat):Int))=some (b&&c)):∀ (n j:Nat),a[i].Kids.length - j < n->j<=a[i].Kids.length->
  ∃ b:Bool,DF N jl n (a,(i:Int),(j:Int))=some b/\Nu N kb2 n (a,(i:Int),a[i],(j:Int))=some (b&&c):=by
 intro n;induction n with
 | zero=>intro j h;omega
 | succ n ih=>
  intro j hn hj;rw [DF,Nu,dx hi,aB];by_cases h:j < a[i].Kids.length
  .have hk:=hkr _ (nW h);have hk2:a[i].Kids[j].toNat < a.length:=ah;have hx:ix a a[i].Kids[j]=some a[a[i].Kids[j].toNat]:=by
    have:=dx hk2;rwa [acZ hk.1] at this
   obtain ⟨b,b1,b2⟩:=ayU a[i] j a[a[i].Kids[j].toNat].Kind hf h hkl;simp only [iT h,aM,dx hi,dx h,aB,hx,b1,b2];cases b with
   | false=>exact ⟨false,rfl,rfl⟩
   | true=>
    simp only [mI,aI];rw [wrap64 ah ah,show ((j:Int)+1)=((j+1:Nat):Int) by omega];exact ih (j+1) ah ah
  .simp only [jZ h,aI];rw [wrap64 ah ah];exact hkb
def azj (a:List aC):Prop:=∀ x,x∈a->FK x/\gG x.Kind
def azk (N:Nat) (a:List aC) (hN:1048577+400 < N) (ha:a.length<=400) (hs:∀ x,x∈a->yB x) (hk:∀ x,x∈a->x.Kids.length<=400/\∀ k,k∈x.Kids->0<=k/\k < a.length) (c:Bool) (hc:Option.bind (Ke N a) (fun r=>(wT N r).bind fun q=>some<|decide<|q<=40)=some c):∀ (n i:Nat),a.length - i < n->i<=a.length->
  ∃ b:Bool,yN N n (a,(i:Int))=some b/\Fe N n (a,(i:Int))=some (b&&c)/\(b=true->∀ x,x∈a.drop i->FK x/\gG x.Kind):=by
 intro n;induction n with
 | zero=>intro i h;omega
 | succ n ih=>
  intro i hn hi;rw [yN,Fe];by_cases h:i < a.length
  .have hx:=nW h;obtain ⟨hk1,hk2⟩:=hk _ hx;obtain ⟨b,b1,b2,b3⟩:=ayG N a[i] ah (hs _ hx) hk1;simp only [iT h,aM,dx h,aB,b1,b2];cases b with
   | false=>exact ⟨false,rfl,rfl,fun h=>by cases h⟩
   | true=>
    simp only [mI,aI];obtain ⟨q,q1,q2,q3⟩:=ih (i+1) ah ah;obtain ⟨b',e1,e2⟩:=azi N a ah ha i h (b3 rfl).1 hk1 hk2 (yN N n) (Fe N n) c ⟨q,q1,q2⟩ N 0 ah ah;refine ⟨b',e1,e2,fun hb x hx=>?_⟩;rw [drop_cons h] at hx;rcases gQ.1 hx with rfl|hx
    .exact b3 rfl
    .refine q3 ?_ x hx;subst hb;have:∀ (m j:Nat),a[i].Kids.length - j < m->j<=a[i].Kids.length->DF N (yN N n) m (a,(i:Int),(j:Int))=some true->q=true:=by
      intro m;induction m with
      | zero=>intro j h;omega
      | succ m ihm=>
       intro j hm hj hh;rw [DF,dx h,aB] at hh;by_cases hlt:j < a[i].Kids.length
       .simp only [iT hlt,aM,dx h,dx hlt,aB] at hh;obtain ⟨y1,_,hh⟩:=qc.1 hh;obtain ⟨y2,_,hh⟩:=qc.1 hh;cases y2 with
        | false=>cases hh
        | true=>
         simp only [mI,aI] at hh;rw [wrap64 ah ah,show ((j:Int)+1)=((j+1:Nat):Int) by omega] at hh;exact ihm (j+1) ah ah hh
       .simp only [jZ hlt,aI] at hh;rw [wrap64 ah ah] at hh;have hh':yN N n (a,((i+1:Nat):Int))=some true:=hh;rw [q1] at hh';exact lD hh'
     exact this N 0 ah ah e1
  .simp only [jZ h,aI];refine ⟨true,rfl,by rw [hc,BF],fun _ x hx=>?_⟩;rw [drop_nil h] at hx;cases hx
def ayn (N:Nat) (a:List aC) (hN:1048577+400 < N) (hs:∀ x,x∈a->yB x):∃ b:Bool,yh N a=some b/\VQ N a=some b/\(b=true->vG a=true/\azj a):=by
 unfold yh VQ;rw [alZ N a ah hs,avE N a ah];simp only [aB];cases hsh:vG a with
 | false=>exact ⟨false,rfl,rfl,fun h=>by cases h⟩
 | true=>
  obtain ⟨h1,h2,r,_,_,_,hT,t,ht⟩:=Ji hsh;have hd:=amw N a ah hs hsh ht;obtain ⟨_,hsz,_⟩:=ht.part;have hdi:wT N t=some (eB t:Int):=ant t N ah ah;have hc:Option.bind (Ke N a) (fun r=>(wT N r).bind fun q=>some<|decide<|q<=40)=some (decide<|(eB t:Int)<=40):=by
   rw [acH N a ah ht h1 h2,aB,hdi,aB]
  obtain ⟨b,b1,b2,b3⟩:=azk N a hN h2 hs (afY hsh) _ hc N 0 ah ah;have b1':yN N N (a,0)=some b:=b1;have b2':Fe N N (a,0)=some (b&&decide ((eB t:Int)<=40)):=b2;simp only [mI,aI,hd,aB,b1',b2'];by_cases hle:(eB t:Int)<=40
  .have e1:decide ((eB t:Int) > 40)=false:=bF;have e2:decide ((eB t:Int)<=40)=true:=bF;simp only [e1,e2,aI,aB,BG];exact ⟨b,rfl,rfl,fun hb=>⟨trivial,fun x hx=>b3 hb x<|by simpa using hx⟩⟩
  .have e1:decide ((eB t:Int) > 40)=true:=bF;have e2:decide ((eB t:Int)<=40)=false:=bF;simp only [e1,e2,aM,aB,acP];exact ⟨false,rfl,rfl,fun h=>by cases h⟩
def TA.node {a:List aC} {t:av} {s i:Nat} (h:TA a t s i):∃ n,a[i]?=some n/\t.kind=n.Kind/\t.op=n.Op/\t.text=n.Text/\t.other=n.Other/\KA a t.kids n.Kids s i/\t.kids.length=n.Kids.length:=by
 obtain ⟨kd,op,x,y,ts⟩:=t;rw [TA] at h;obtain ⟨n,hn,rfl,rfl,rfl,rfl,hk⟩:=h;have h4:=hk.part.2.2.2;exact ⟨n,hn,rfl,rfl,rfl,rfl,hk,by rw [h4,OE]⟩
def KA.get {a:List aC}:∀ {ts:List av} {ks:List Int} {s e:Nat},KA a ts ks s e->∀ (j:Nat) (t:av),ts[j]?=some t->∃ k s':Nat,ks[j]?=some (k:Int)/\TA a t s' k/\k < e
 | [],ks,s,e,h,j,t,hj=>by simp at hj
 | t0::ts,ks,s,e,h,j,t,hj=>by
  rw [KA] at h;obtain ⟨k,ks',rfl,h1,h2,ht,hk⟩:=h;cases j with
  | zero=>
   simp only [Jl,iQ] at hj;subst hj;exact ⟨k,s,rfl,ht,h2⟩
  | succ j=>
   simp only [LP] at hj ⊢;exact KA.get hk j t hj
def tx (x:aC):Prop:=x.Text.length<=1048576/\x.Other.length<=1048576
def TS (t:av):Prop:=∀ x,x∈bU 0 t->tx x
def awo {a:List aC} (hs:∀ x,x∈a->yB x) {t:av} {s i:Nat} (h:TA a t s i):TS t:=by
 have h3:=h.part.2.2;intro x hx;rw [<- ayY t s,<- h3] at hx;obtain ⟨y,hy,rfl⟩:=rT.1 hx;have:y∈a:=by
  unfold part at hy;exact List.mem_of_mem_drop (acY hy)
 have:=hs y this;unfold yB at this;exact ⟨this.1,this.2.1⟩
def PR (a:List aC) (b:Nat) (l:List aC):Prop:=∀ (i:Nat) (x:aC),l[i]?=some x->a[b+i]?=some x
def PR.left {a l1 l2:List aC} {b:Nat} (h:PR a b (l1++l2)):PR a b l1:=fun i x hx=>h i x (by rw [qR (dw.1 hx).1];exact hx)
def PR.right {a l1 l2:List aC} {b:Nat} (h:PR a b (l1++l2)):PR a (b+l1.length) l2:=fun i x hx=>by
 have:=h (l1.length+i) x (by rw [qP ah,aqC];exact hx);rw [Gm];exact this
mutual
def anT {a:List aC}:∀ (t:av) (b:Nat),PR a b (bU b t)->TA a t b (b+aV t - 1)
 | ⟨k,o,x,y,ks⟩,b,h=>by
  rw [bU] at h;have h1:=anU ks b h.left;have h2:=h.right 0 _ rfl;rw [OD,EF] at h2;rw [aV,show b+(aS ks+1) - 1=b+aS ks by omega,TA];exact ⟨_,h2,rfl,rfl,rfl,rfl,h1⟩
def anU {a:List aC}:∀ (ts:List av) (b:Nat),PR a b (jW b ts)->KA a ts (mZ b ts) b (b+aS ts)
 | [],b,h=>by
  rw [KA,mZ,aS];exact ⟨rfl,rfl⟩
 | t::ts,b,h=>by
  rw [jW] at h;have hp:=uK t;have h1:=anT t b h.left;have h2:=anU ts (b+aV t) (by have:=h.right;rw [vU] at this;exact this);rw [KA,mZ,aS];refine ⟨b+aV t - 1,mZ (b+aV t) ts,?_,ah,ah,h1,?_⟩
  .congr 1;omega
  .rw [show b+aV t - 1+1=b+aV t by omega,<- Gm];exact h2
end
def ayg (t:av):TA (bU 0 t) t 0 ((bU 0 t).length - 1):=by
 have:=anT (a:=bU 0 t) t 0 (fun i x hx=>by rw [qV];exact hx);rw [qV] at this;rw [vU];exact this
def anV (o:Int):BZ o=Om o:=rfl
def anW (o:Int):∃ v,Om o=some v/\v<=12:=by
 have h:∀ {c:Bool} {x y:Option Int},(∃ v,x=some v/\v<=12)->(∃ v,y=some v/\v<=12)->∃ v,(bif c then x else y)=some v/\v<=12:=fun {c x y} hx hy=>by
  cases c
  .exact hy
  .exact hx
 have h4:∀ b,∃ v,Sr (o,b)=some v/\v<=12:=fun b=>h ⟨10,rfl,aJ⟩ (h ⟨12,rfl,aJ⟩ ⟨0,rfl,aJ⟩);have h3:∀ b,∃ v,Xc (o,b)=some v/\v<=12:=fun b=>h ⟨9,rfl,aJ⟩ (h (h4 _)<|h (h4 _)<|h4 _);have h2:∀ b,∃ v,Ik (o,b)=some v/\v<=12:=fun b=>h ⟨7,rfl,aJ⟩ (h ⟨8,rfl,aJ⟩<|h (h3 _)<|h3 _);have h1:∀ b,∃ v,Xd (o,b)=some v/\v<=12:=fun b=>h ⟨6,rfl,aJ⟩ (h (h2 _)<|h (h2 _)<|h (h2 _)<|h (h2 _)<|h (h2 _)<|h2 _);exact h ⟨3,rfl,aJ⟩ (h ⟨4,rfl,aJ⟩<|h (h1 _)<|h1 _)
def bG (o:Int):Int:=(Om o).getD 0
def abQ (o:Int):Om o=some (bG o):=by
 obtain ⟨v,h,_⟩:=anW o;unfold bG;rw [h];rfl
def KT (o:Int):bG o<=12:=by
 obtain ⟨v,h,h2⟩:=anW o;unfold bG;rw [h];exact h2
def lv (k o:Int):Int:=
 bif k==15 then 1 else bif k==14 then 2 else bif k==13 then 5 else bif k==12 then bG o else bif k==11 then 11 else bif k==9||k==10 then 13 else bif k==6 then 14 else
 bif k==1||(k==2||(k==3||(k==4||(k==5||(k==7||k==8))))) then 15 else 0
def azl (n:aC):alO n=some (lv n.Kind n.Op):=by
 have h2:∀ b:Bool,KQ b=some (bif b then 15 else 0):=fun b=>by cases b<;>rfl
 unfold alO lv;rw [abQ];cases n.Kind==15
 .cases n.Kind==14
  .cases n.Kind==13
   .cases n.Kind==12
    .cases n.Kind==11
     .simp only [aI,afz];cases n.Kind==9
      .cases n.Kind==10
       .cases n.Kind==6
        .cases n.Kind==1
         .cases n.Kind==2
          .cases n.Kind==3
           .cases n.Kind==4
            .cases n.Kind==5
             .cases n.Kind==7
              .cases n.Kind==8<;>rfl
              .rfl
             .rfl
            .rfl
           .rfl
          .rfl
         .rfl
        .rfl
       .rfl
      .rfl
     .rfl
    .rfl
   .rfl
  .rfl
 .rfl
def agd (n:aC):Ny n=some (lv n.Kind n.Op):=azl n
def posB (p:aK):Bool:=(decide (p.Level>=1)&&decide (p.Level<=15))&&(!p.uV||p.Level==14)
def air (p:aK):WA p=some (posB p):=by
 unfold WA posB;rw [DU,aB];cases (decide (p.Level>=1)&&decide (p.Level<=15))<;>cases p.uV<;>rfl
def LD (p:aK):Ki p=some (posB p):=by
 unfold Ki posB;rw [KS,aB];cases (decide (p.Level>=1)&&decide (p.Level<=15))<;>cases p.uV<;>rfl
def mo (k o:Int) (p:aK):Bool:=
 !(!posB p||lv k o==0)&&(!(p.aY&&k==13)&&(!(p.bg&&(k==12&&o==62))&&(!(p.jk&&(k==11||(k==9||k==4)))&&((p.uV&&k==9)||decide (lv k o>=p.Level)))))
def abt (c d:Bool):(bif c then some true else some d)=some (c||d):=by cases c<;>rfl
def agc (c d:Bool):(bif c then some d else some false)=some (c&&d):=by cases c<;>rfl
def azm (c d:Bool):(bif c then some false else some d)=some (!c&&d):=by cases c<;>rfl
def azn (c a d:Bool):(bif c then some (a||d) else some d)=some ((c&&a)||d):=by cases c<;>rfl
def awk (n:aC) (p:aK):VT n p=some (mo n.Kind n.Op p):=by
 unfold VT mo;rw [LD,agd];simp only [aB,abt,agc,azm,azn]
def ko (o:Int):Int×Int:=
 bif bG o==3 then (3,4) else bif bG o==4 then (4,5) else bif bG o==6 then (7,7) else bif bG o==7 then (8,8) else bif bG o==8 then (8,9) else bif bG o==9 then (9,10) else bif bG o==10 then (10,11) else (13,11)
def azo (o:Int) (k:Nat):VW o (k:Int)=some (bif decide (k > 0) then (ko o).2 else (ko o).1):=by
 unfold VW ko;rw [anV,abQ,aB];have hk:((k:Int)==0)=!decide (k > 0):=by
  by_cases h:k=0
  .subst h;rfl
  .have h1:((k:Int)==0)=false:=bF;have h2:decide (k > 0)=true:=bF;rw [h1,h2];rfl
 cases bG o==3<;>cases bG o==4<;>cases bG o==6<;>cases bG o==7<;>cases bG o==8<;>cases bG o==9<;>cases bG o==10<;>simp only [aM,aI,Dw,hk]<;>cases decide (k > 0)<;>rfl
def gZ (kd o:Int) (n:Nat) (k:Nat) (p:aK):aK:=
 bif kd==15 then (bif decide (k > 0) then ⟨1,false,p.aY,p.bg,false⟩ else ⟨14,false,p.aY,p.bg,p.jk⟩)
 else bif kd==14 then (bif decide (k > 0) then ⟨2,false,p.aY,p.bg,false⟩ else ⟨3,false,p.aY,p.bg,p.jk⟩)
 else bif kd==13 then (bif decide (n > 1) then ⟨1,false,false,false,false⟩ else ⟨5,false,p.aY,p.bg,p.jk⟩)
 else bif kd==12 then (bif decide (k > 0) then ⟨(ko o).2,false,p.aY,p.bg,o==99⟩ else ⟨(ko o).1,false,p.aY,p.bg,p.jk⟩)
 else bif kd==11 then ⟨11,false,p.aY,p.bg,false⟩
 else bif kd==9||kd==10 then ⟨14,false,p.aY,p.bg,false⟩
 else bif kd==6 then ⟨14,true,p.aY,p.bg,false⟩ else ⟨1,false,false,false,false⟩
def awi (n:aC) (k:Nat) (p:aK) (hk:k < n.Kids.length) (hl:n.Kids.length<=1000000) (hp:posB p=true) (he:jd n.Kind=true) (hlv:lv n.Kind n.Op≠0) (h12:n.Kind=12->n.Kids.length=2):RJ n (k:Int) p=some (gZ n.Kind n.Op n.Kids.length k p):=by
 have h0:(lv n.Kind n.Op==0)=false:=by simpa using hlv
 have h1:(decide ((k:Int)>=0)&&decide ((k:Int)<=(n.Kids.length:Int) - 1))=true:=bF;have hg:decide ((k:Int) > 0)=decide (k > 0):=by by_cases h:k > 0<;>simp [h]
 have hz:((k:Int)==0)=!decide (k > 0):=by
  by_cases h:k=0
  .subst h;rfl
  .have h1:((k:Int)==0)=false:=bF;have h2:decide (k > 0)=true:=bF;rw [h1,h2];rfl
 have hn:decide ((n.Kids.length:Int) > 1)=decide (n.Kids.length > 1):=by by_cases h:n.Kids.length > 1<;>simp [h]<;>omega
 have ho:(bG n.Op==15)=false:=by have:=KT n.Op;simp;omega
 unfold RJ gZ;rw [wrap64 ah ah,KS,LD,agd,hp,h1];simp only [aB,mI,aI,h0,agc,abt,hn];unfold aaH;simp only [azo,aB,hg,Nz,VX,hz];have hc:n.Kind=1\/n.Kind=2\/n.Kind=3\/n.Kind=4\/n.Kind=5\/n.Kind=6\/n.Kind=7\/n.Kind=8\/n.Kind=9\/n.Kind=10\/n.Kind=11\/n.Kind=12\/n.Kind=13\/n.Kind=14\/n.Kind=15:=by
  unfold jd at he;simp only [dP,lQ] at he;omega
 rcases hc with e|e|e|e|e|e|e|e|e|e|e|e|e|e|e<;>simp only [e]
 case inr.inr.inr.inr.inr.inr.inr.inr.inr.inr.inr.inl=>
  have hk2:k < 2:=by have:=h12 e;omega
  have hk1:((k:Int)==1)=decide (k > 0):=by
   by_cases h:k=0
   .subst h;rfl
   .have h':k=1:=ah;subst h';rfl
  have azp:lv 12 n.Op=bG n.Op:=rfl;simp only [azp,ho,hk1];cases decide (k > 0)<;>cases p.jk<;>rfl
 case inr.inr.inr.inr.inr.inr.inr.inr.inr.inr.inr.inr.inl=>
  have hk0:decide (n.Kids.length > 1)=false->k=0:=fun h=>by simp at h;omega
  cases hq:decide (n.Kids.length > 1)
  .have e:=hk0 hq;subst e;cases p.jk<;>rfl
  .rfl
 case inr.inr.inr.inr.inr.inr.inr.inr.inr.inr.inr.inr.inr.inl=>
  by_cases h:k=0
  .subst h;cases p.jk<;>rfl
  .have h2:decide (k > 0)=true:=bF;rw [h2];cases (k:Int)==1<;>rfl
 case inr.inr.inr.inr.inr.inr.inr.inr.inr.inr.inr.inr.inr.inr=>
  by_cases h:k=0
  .subst h;cases p.jk<;>rfl
  .have h2:decide (k > 0)=true:=bF;rw [h2];cases (k:Int)==1<;>rfl
 all_goals rfl
def azq (N:Nat) (a:List aC) (kb:(List aC×Int)->Option Bool) (i:Nat) (hi:i < a.length) (hi2:i<=100000) (hkl:a[i].Kids.length<=100000):∀ (m j:Nat),a[i].Kids.length - j < m->j<=a[i].Kids.length->DF N kb m (a,(i:Int),(j:Int))=some true->
  kb (a,((i+1:Nat):Int))=some true/\∀ (q:Nat) (hq:q < a[i].Kids.length),j<=q->∃ y,ix a a[i].Kids[q]=some y/\ou a[i] (q:Int) y.Kind=some true:=by
 intro m;induction m with
 | zero=>intro j h;omega
 | succ m ihm=>
  intro j hm hj hh;rw [DF,dx hi,aB] at hh;by_cases hlt:j < a[i].Kids.length
  .simp only [iT hlt,aM,dx hi,dx hlt,aB] at hh;obtain ⟨y1,h1,hh⟩:=qc.1 hh;obtain ⟨y2,h2,hh⟩:=qc.1 hh;cases y2 with
   | false=>cases hh
   | true=>
    simp only [mI,aI] at hh;rw [wrap64 ah ah,show ((j:Int)+1)=((j+1:Nat):Int) by omega] at hh;obtain ⟨r1,r2⟩:=ihm (j+1) ah ah hh;refine ⟨r1,fun q hq hjq=>?_⟩;by_cases hqj:q=j
    .subst hqj;exact ⟨y1,h1,h2⟩
    .exact r2 q hq ah
  .simp only [jZ hlt,aI] at hh;rw [wrap64 ah ah] at hh;exact ⟨hh,fun q hq hjq=>ah⟩
def anX (N:Nat) (a:List aC) (x:aC):Prop:=zS N x=some true/\∀ (q:Nat) (hq:q < x.Kids.length),∃ y,ix a x.Kids[q]=some y/\ou x (q:Int) y.Kind=some true
def azr (N:Nat) (a:List aC) (ha:a.length<=400) (hk:∀ x,x∈a->x.Kids.length<=400) (hN:500 < N):∀ (n i:Nat),a.length - i < n->i<=a.length->yN N n (a,(i:Int))=some true->∀ x,x∈a.drop i->anX N a x:=by
 intro n;induction n with
 | zero=>intro i h;omega
 | succ n ih=>
  intro i hn hi h x hx;rw [yN] at h;by_cases hlt:i < a.length
  .simp only [iT hlt,aM,dx hlt,aB] at h;obtain ⟨b,hb,h⟩:=qc.1 h;cases b with
   | false=>cases h
   | true=>
    simp only [mI,aI] at h;have hkl:=hk _ (nW hlt);obtain ⟨h1,h2⟩:=azq N a (yN N n) i hlt ah ah N 0 ah ah h;rw [drop_cons hlt] at hx;rcases gQ.1 hx with rfl|hx
    .exact ⟨hb,fun q hq=>h2 q hq ah⟩
    .exact ih (i+1) ah ah h1 x hx
  .rw [drop_nil hlt] at hx;cases hx
def aml (N:Nat) (a:List aC) (hN:500 < N) (hsh:vG a=true) (h:yh N a=some true):∀ x,x∈a->anX N a x:=by
 unfold yh at h;obtain ⟨y,_,h⟩:=qc.1 h;cases y with
 | true=>cases h
 | false=>
  rw [aI] at h;intro x hx;have h2:=(Ji hsh).2.1;exact azr N a h2 (fun z hz=>(afY hsh z hz).1) hN N 0 ah ah h x (by rw [Js];exact hx)
def aga (N:Nat) (n:aC) (h:zS N n=some true):∃ lo hi,Fh n=some (lo,hi)/\Dy n=some true/\lo<=(n.Kids.length:Int)/\(n.Kids.length:Int)<=hi:=by
 unfold zS at h;obtain ⟨⟨lo,hi⟩,h1,h⟩:=bind_some h;obtain ⟨y6,h2,h⟩:=bind_some h;obtain ⟨y13,h3,h⟩:=bind_some h;cases h;rcases Mv h3 with ⟨_,h3⟩|⟨_,h3⟩
 .obtain ⟨bM,ho,h3⟩:=bind_some h3;rcases Mv h3 with ⟨hc,h3⟩|⟨_,h3⟩
  .subst hc;obtain ⟨fG,_,h3⟩:=bind_some h3;rcases Mv h3 with ⟨_,h3⟩|⟨_,h3⟩
   .obtain ⟨r16,hl,h3⟩:=bind_some h3;cases h3;rw [DU] at hl;have hl:=lD hl;simp only [dP,lQ] at hl;exact ⟨lo,hi,h1,ho,ah,ah⟩
   .cases h3
  .cases h3
 .cases h3
def Ar (n:aC):Prop:=
 (n.Kind=1\/n.Kind=2\/n.Kind=3\/n.Kind=4->n.Kids.length=0)/\(n.Kind=5\/n.Kind=13->1<=n.Kids.length)/\(n.Kind=6\/n.Kind=9\/n.Kind=10\/n.Kind=11->n.Kids.length=1)/\
 (n.Kind=12\/n.Kind=15->n.Kids.length=2)/\(n.Kind=14->n.Kids.length=3)
def azs (o:Int) (h:Fp o=some true):bG o≠0:=by
 have hk:∀ b,sN b=some b:=fun b=>by cases b<;>rfl
 unfold Fp at h;simp only [hk] at h;have hc:o=60\/o=57\/o=58\/o=59\/o=55\/o=56\/o=99\/o=63\/o=48\/o=47\/o=50\/o=62\/o=49\/o=67\/o=46\/o=45\/o=44:=by
  have key:∀ (c:Int) (x:Option Bool),(bif (o==c) then some (o==c) else x)=some true->o=c\/x=some true:=fun c x h=>by
   cases hoc:o==c with
   | true=>exact .inl (by simpa using hoc)
   | false=>rw [hoc] at h;exact .inr h
  rcases key _ _ h with e|h;· exact .inl e
  rcases key _ _ h with e|h;· simp [e]
  rcases key _ _ h with e|h;· simp [e]
  rcases key _ _ h with e|h;· simp [e]
  rcases key _ _ h with e|h;· simp [e]
  rcases key _ _ h with e|h;· simp [e]
  rcases key _ _ h with e|h;· simp [e]
  rcases key _ _ h with e|h;· simp [e]
  rcases key _ _ h with e|h;· simp [e]
  rcases key _ _ h with e|h;· simp [e]
  rcases key _ _ h with e|h;· simp [e]
  rcases key _ _ h with e|h;· simp [e]
  rcases key _ _ h with e|h;· simp [e]
  rcases key _ _ h with e|h;· simp [e]
  rcases key _ _ h with e|h;· simp [e]
  rcases key _ _ h with e|h;· simp [e]
  have:=lD h;have e:o=44:=by simpa using this
  simp [e]
 rcases hc with e|e|e|e|e|e|e|e|e|e|e|e|e|e|e|e|e<;>subst e<;>decide
def avW (N:Nat) (n:aC) (h:zS N n=some true) (he:jd n.Kind=true):Ar n/\lv n.Kind n.Op≠0:=by
 obtain ⟨lo,hi,h1,h2,h3,h4⟩:=aga N n h;have hc:n.Kind=1\/n.Kind=2\/n.Kind=3\/n.Kind=4\/n.Kind=5\/n.Kind=6\/n.Kind=7\/n.Kind=8\/n.Kind=9\/n.Kind=10\/n.Kind=11\/n.Kind=12\/n.Kind=13\/n.Kind=14\/n.Kind=15:=by
  unfold jd at he;simp only [dP,lQ] at he;omega
 have many:∀ (a b:Int),Fh n=some (a,b)->a<=(n.Kids.length:Int)/\(n.Kids.length:Int)<=b:=fun a b hm=>by
  rw [hm] at h1;cases h1;exact ⟨h3,h4⟩
 have val:∀ (c:Int) (r:Int×Int),n.Kind=c->(∀ m:aC,m.Kind=c->Fh m=some r)->r.1<=(n.Kids.length:Int)/\(n.Kids.length:Int)<=r.2:=fun c r e hm=>many _ _ (hm n e);have step:∀ (c:Int),n.Kind=c->Fh n=Fh ⟨c,n.Op,n.Text,n.Other,n.Kids⟩:=fun c e=>by
  obtain ⟨k,o,x,y,ks⟩:=n;subst e;rfl
 have opS:n.Kind=12->Dy n=Option.bind (Fp n.Op) (fun vv=>some vv):=fun e=>by
  obtain ⟨k,o,x,y,ks⟩:=n;subst e;rfl
 unfold Ar;rcases hc with e|e|e|e|e|e|e|e|e|e|e|e|e|e|e;all_goals
  have hm:=step _ e;simp only [e]
 case inl=>
  have hq:=many 0 0 (hm.trans rfl);refine ⟨⟨fun h=>ah,fun h=>ah,fun h=>ah,fun h=>ah,fun h=>ah⟩,?_⟩;intro h;have h:(15:Int)=0:=h;omega
 case inr.inl=>
  have hq:=many 0 0 (hm.trans rfl);refine ⟨⟨fun h=>ah,fun h=>ah,fun h=>ah,fun h=>ah,fun h=>ah⟩,?_⟩;intro h;have h:(15:Int)=0:=h;omega
 case inr.inr.inl=>
  have hq:=many 0 0 (hm.trans rfl);refine ⟨⟨fun h=>ah,fun h=>ah,fun h=>ah,fun h=>ah,fun h=>ah⟩,?_⟩;intro h;have h:(15:Int)=0:=h;omega
 case inr.inr.inr.inl=>
  have hq:=many 0 0 (hm.trans rfl);refine ⟨⟨fun h=>ah,fun h=>ah,fun h=>ah,fun h=>ah,fun h=>ah⟩,?_⟩;intro h;have h:(15:Int)=0:=h;omega
 case inr.inr.inr.inr.inl=>
  have hq:=many 1 6 (hm.trans rfl);refine ⟨⟨fun h=>ah,fun h=>ah,fun h=>ah,fun h=>ah,fun h=>ah⟩,?_⟩;intro h;have h:(15:Int)=0:=h;omega
 case inr.inr.inr.inr.inr.inl=>
  have hq:=many 1 1 (hm.trans rfl);refine ⟨⟨fun h=>ah,fun h=>ah,fun h=>ah,fun h=>ah,fun h=>ah⟩,?_⟩;intro h;have h:(14:Int)=0:=h;omega
 case inr.inr.inr.inr.inr.inr.inl=>
  have hq:=many 0 6 (hm.trans rfl);refine ⟨⟨fun h=>ah,fun h=>ah,fun h=>ah,fun h=>ah,fun h=>ah⟩,?_⟩;intro h;have h:(15:Int)=0:=h;omega
 case inr.inr.inr.inr.inr.inr.inr.inl=>
  have hq:=many 0 6 (hm.trans rfl);refine ⟨⟨fun h=>ah,fun h=>ah,fun h=>ah,fun h=>ah,fun h=>ah⟩,?_⟩;intro h;have h:(15:Int)=0:=h;omega
 case inr.inr.inr.inr.inr.inr.inr.inr.inl=>
  have hq:=many 1 1 (hm.trans rfl);refine ⟨⟨fun h=>ah,fun h=>ah,fun h=>ah,fun h=>ah,fun h=>ah⟩,?_⟩;intro h;have h:(13:Int)=0:=h;omega
 case inr.inr.inr.inr.inr.inr.inr.inr.inr.inl=>
  have hq:=many 1 1 (hm.trans rfl);refine ⟨⟨fun h=>ah,fun h=>ah,fun h=>ah,fun h=>ah,fun h=>ah⟩,?_⟩;intro h;have h:(13:Int)=0:=h;omega
 case inr.inr.inr.inr.inr.inr.inr.inr.inr.inr.inl=>
  have hq:=many 1 1 (hm.trans rfl);refine ⟨⟨fun h=>ah,fun h=>ah,fun h=>ah,fun h=>ah,fun h=>ah⟩,?_⟩;intro h;have h:(11:Int)=0:=h;omega
 case inr.inr.inr.inr.inr.inr.inr.inr.inr.inr.inr.inl=>
  have hq:=many 2 2 (hm.trans rfl);refine ⟨⟨fun h=>ah,fun h=>ah,fun h=>ah,fun h=>ah,fun h=>ah⟩,?_⟩;have h5:=opS e;rw [h2] at h5;have h6:Fp n.Op=some true:=by
   cases hb:Fp n.Op with
   | none=>rw [hb] at h5;cases h5
   | some v=>rw [hb] at h5;cases h5;rfl
  exact azs n.Op h6
 case inr.inr.inr.inr.inr.inr.inr.inr.inr.inr.inr.inr.inl=>
  have hq:=many 1 6 (hm.trans rfl);refine ⟨⟨fun h=>ah,fun h=>ah,fun h=>ah,fun h=>ah,fun h=>ah⟩,?_⟩;intro h;have h:(5:Int)=0:=h;omega
 case inr.inr.inr.inr.inr.inr.inr.inr.inr.inr.inr.inr.inr.inl=>
  have hq:=many 3 3 (hm.trans rfl);refine ⟨⟨fun h=>ah,fun h=>ah,fun h=>ah,fun h=>ah,fun h=>ah⟩,?_⟩;intro h;have h:(2:Int)=0:=h;omega
 case inr.inr.inr.inr.inr.inr.inr.inr.inr.inr.inr.inr.inr.inr=>
  have hq:=many 2 2 (hm.trans rfl);refine ⟨⟨fun h=>ah,fun h=>ah,fun h=>ah,fun h=>ah,fun h=>ah⟩,?_⟩;intro h;have h:(1:Int)=0:=h;omega
def avY (x:aC) (q:Nat) (kd:Int) (h:ou x (q:Int) kd=some true) (he:jd x.Kind=true):jd kd=true/\((x.Kind=9\/x.Kind=10\/(x.Kind=15/\q=0))->iG kd=true):=by
 have hc:x.Kind=1\/x.Kind=2\/x.Kind=3\/x.Kind=4\/x.Kind=5\/x.Kind=6\/x.Kind=7\/x.Kind=8\/x.Kind=9\/x.Kind=10\/x.Kind=11\/x.Kind=12\/x.Kind=13\/x.Kind=14\/x.Kind=15:=by
  unfold jd at he;simp only [dP,lQ] at he;omega
 have other:ou x (q:Int) kd=Option.bind (pU kd) (fun r=>some r)->jd kd=true:=fun e=>by
  rw [e,Ea] at h;exact lD h
 have target:ou x (q:Int) kd=Option.bind (Ku kd) (fun r=>some r)->iG kd=true:=fun e=>by
  rw [e,XI] at h;exact lD h
 obtain ⟨k,o,s,t,ks⟩:=x;rcases hc with e|e|e|e|e|e|e|e|e|e|e|e|e|e|e<;>(have e:k=_:=e;subst e)
 case inr.inr.inr.inr.inr.inr.inr.inr.inl=>
  have:=target rfl;exact ⟨agO this,fun _=>this⟩
 case inr.inr.inr.inr.inr.inr.inr.inr.inr.inl=>
  have:=target rfl;exact ⟨agO this,fun _=>this⟩
 case inr.inr.inr.inr.inr.inr.inr.inr.inr.inr.inr.inr.inr.inr=>
  have e:ou ⟨15,o,s,t,ks⟩ (q:Int) kd=((pU kd).bind fun iL=>bif iL then bif (decide<|(q:Int) > 0) then some true else ((Ku kd).bind fun iM=>some iM) else (some false)).bind fun Wz=>some Wz:=rfl;rw [e,Ea,XI] at h;simp only [aB] at h;cases hk:jd kd with
  | false=>rw [hk] at h;cases h
  | true=>
   rw [hk] at h;refine ⟨rfl,fun hh=>?_⟩;have hq:q=0:=by
    rcases hh with h'|h'|h'
    .have h':(15:Int)=9:=h';omega
    .have h':(15:Int)=10:=h';omega
    .exact h'.2
   subst hq;cases hl:iG kd with
   | true=>rfl
   | false=>rw [hl] at h;cases h
 all_goals
  refine ⟨other rfl,fun hh=>?_⟩;exfalso;simp at hh
def avZ (N:Nat) (n:aC) (h:zS N n=some true) (hk:n.Kind=15):n.Op≠99:=by
 obtain ⟨_,_,_,h2,_,_⟩:=aga N n h;have e:Dy n=Option.bind (Cc n.Op) (fun cZ=>some cZ):=by
  obtain ⟨k,o,x,y,ks⟩:=n;have hk:k=15:=hk;subst hk;rfl
 intro rG;rw [e,rG] at h2;unfold Cc at h2;rw [DU] at h2;have h2:=lD h2;revert h2;decide
mutual
def allT (P:av->Prop):av->Prop
 | ⟨k,o,x,y,ks⟩=>P ⟨k,o,x,y,ks⟩/\Ac P ks
def Ac (P:av->Prop):List av->Prop
 | []=>True
 | t::ts=>allT P t/\Ac P ts
end
mutual
def acI {P Q:av->Prop} (h:∀ t,P t->Q t):∀ t:av,allT P t->allT Q t
 | ⟨k,o,x,y,ks⟩,ht=>by
  rw [allT] at ht ⊢;exact ⟨h _ ht.1,anY h ks ht.2⟩
def anY {P Q:av->Prop} (h:∀ t,P t->Q t):∀ ts:List av,Ac P ts->Ac Q ts
 | [],_=>by rw [Ac];trivial
 | t::ts,ht=>by
  rw [Ac] at ht ⊢;exact ⟨acI h t ht.1,anY h ts ht.2⟩
end
def DX (n:Nat):List Int:=(List.range n).map fun (i:Nat)=>(i:Int)
def KX (t:av):aC:=⟨t.kind,t.op,t.text,t.other,DX t.kids.length⟩
def Xq (n:Nat):(DX n).length=n:=by simp [DX]
def azu (n:Nat):DX (n+1)=DX n++[(n:Int)]:=by simp [DX,Ue]
def azv (N:Nat) (t:av) (hl:t.kids.length<=100000):∀ (n i:Nat),t.kids.length - i < n->i<=t.kids.length->Nw N n (t,(i:Int),DX i)=some (KX t):=by
 intro n;induction n with
 | zero=>intro i h;omega
 | succ n ih=>
  intro i hn hi;rw [Nw];by_cases h:i < t.kids.length
  .simp only [iT h,aM];rw [pG (by rw [Xq];simp;omega),aB,wrap64 ah ah,<- azu];exact ih (i+1) ah ah
  .simp only [jZ h,aI];have:i=t.kids.length:=ah;subst this;rfl
def ams (N:Nat) (t:av) (hl:t.kids.length<=100000) (hN:t.kids.length < N):VR N t=some (KX t):=
 azv N t hl N 0 ah ah
def wZ (l:List aG) (b:Bool) (toks:List aG) (sp:List bT) (h:toks.length+l.length<=1000000):kg l b toks sp=some (toks++l):=by
 unfold kg;rw [pG ah,aB]
def agR (p q:aK):Prop:=p.Level=14/\q.Level=14/\p.uV=q.uV/\p.jk=q.jk
def agS (p q:aK):Prop:=p=q\/agR p q
def abR (k:Int) (p q:aK):Prop:=p=q\/k<=9
def kinds {k:Int} (he:jd k=true):k=1\/k=2\/k=3\/k=4\/k=5\/k=6\/k=7\/k=8\/k=9\/k=10\/k=11\/k=12\/k=13\/k=14\/k=15:=by
 unfold jd at he;simp only [dP,lQ] at he;omega
def anZ {k o:Int} {p q:aK} (he:jd k=true) (h:agR p q):mo k o p=mo k o q/\(mo k o p=true->k<=9):=by
 obtain ⟨h1,h2,h3,h4⟩:=h;have hp:posB p=posB q:=by unfold posB;rw [h1,h2,h3]
 have ho:=KT o;have low:lv k o < 14->(k==9)=false->∀ r:aK,r.Level=14->mo k o r=false:=fun hl h9 r hr=>by
  unfold mo;rw [h9,hr];have:decide (lv k o>=14)=false:=bF;rw [this];simp
 rcases kinds he with e|e|e|e|e|e|e|e|e|e|e|e|e|e|e<;>subst e
 case inr.inr.inr.inr.inr.inr.inr.inr.inr.inl=>
  have l:lv 10 o < 14:=by show (13:Int) < 14;decide
  rw [low l rfl p h1,low l rfl q h2];exact ⟨rfl,fun h=>by cases h⟩
 case inr.inr.inr.inr.inr.inr.inr.inr.inr.inr.inl=>
  have l:lv 11 o < 14:=by show (11:Int) < 14;decide
  rw [low l rfl p h1,low l rfl q h2];exact ⟨rfl,fun h=>by cases h⟩
 case inr.inr.inr.inr.inr.inr.inr.inr.inr.inr.inr.inl=>
  have l:lv 12 o < 14:=by show bG o < 14;omega
  rw [low l rfl p h1,low l rfl q h2];exact ⟨rfl,fun h=>by cases h⟩
 case inr.inr.inr.inr.inr.inr.inr.inr.inr.inr.inr.inr.inl=>
  have l:lv 13 o < 14:=by show (5:Int) < 14;decide
  rw [low l rfl p h1,low l rfl q h2];exact ⟨rfl,fun h=>by cases h⟩
 case inr.inr.inr.inr.inr.inr.inr.inr.inr.inr.inr.inr.inr.inl=>
  have l:lv 14 o < 14:=by show (2:Int) < 14;decide
  rw [low l rfl p h1,low l rfl q h2];exact ⟨rfl,fun h=>by cases h⟩
 case inr.inr.inr.inr.inr.inr.inr.inr.inr.inr.inr.inr.inr.inr=>
  have l:lv 15 o < 14:=by show (1:Int) < 14;decide
  rw [low l rfl p h1,low l rfl q h2];exact ⟨rfl,fun h=>by cases h⟩
 all_goals
  refine ⟨?_,fun _=>aJ⟩;unfold mo;rw [hp,h1,h2,h3,h4];simp
def azw {k o:Int} {p q:aK} (he:jd k=true) (h:agS p q):mo k o p=mo k o q/\(mo k o p=true->abR k p q):=by
 rcases h with rfl|h
 .exact ⟨rfl,fun _=>.inl rfl⟩
 .obtain ⟨h1,h2⟩:=anZ (o:=o) he h;exact ⟨h1,fun hf=>.inr<|h2 hf⟩
def azx {k o:Int} {n j:Nat} {p q:aK} (he:jd k=true) (h:abR k p q):agS (gZ k o n j p) (gZ k o n j q):=by
 rcases h with rfl|h9
 .exact .inl rfl
 .rcases kinds he with e|e|e|e|e|e|e|e|e|e|e|e|e|e|e<;>subst e<;>first
   | exact .inl rfl
   | exact .inr ⟨rfl,rfl,rfl,rfl⟩
   | (exfalso;omega)
def afS {k o:Int} {n j:Nat} {p:aK} (he:jd k=true):posB (gZ k o n j p)=true:=by
 have hs:∀ o,posB ⟨(ko o).1,false,p.aY,p.bg,p.jk⟩=true/\posB ⟨(ko o).2,false,p.aY,p.bg,o==99⟩=true:=fun o=>by
  unfold ko posB;cases bG o==3<;>cases bG o==4<;>cases bG o==6<;>cases bG o==7<;>cases bG o==8<;>cases bG o==9<;>cases bG o==10<;>exact ⟨rfl,rfl⟩
 rcases kinds he with e|e|e|e|e|e|e|e|e|e|e|e|e|e|e<;>subst e
 case inr.inr.inr.inr.inr.inr.inr.inr.inr.inr.inr.inl=>
  unfold gZ;cases decide (j > 0)
  .exact (hs o).1
  .exact (hs o).2
 case inr.inr.inr.inr.inr.inr.inr.inr.inr.inr.inr.inr.inl=>
  unfold gZ;cases decide (n > 1)<;>rfl
 all_goals (unfold gZ;first|rfl|(cases decide (j > 0)<;>rfl))
def spl (k:Int):List UInt8:=(DC k).getD []
def amo (k:Int):DC k=some (spl k):=by
 obtain ⟨x,h,_⟩:=avv k;unfold spl;rw [h];rfl
def azy (k:Int):Nq k=some (spl k):=by
 obtain ⟨x,h1,h2,_⟩:=alW k;unfold spl;rw [h1,h2];rfl
def sg (k:Int):aG:=⟨k,spl k,0⟩
def Ae (k:Int):om k=some (sg k):=by unfold om;rw [azy];rfl
def iA:aK:=⟨1,false,false,false,false⟩
def tgt (k:Int) (j:Nat):Bool:=((j:Int)==0)&&((k==9)||((k==10)||(k==15)))
def KU (f:Bool) (k o:Int) (p:aK):Bool:=bif f then (lv k o !=15||k==4) else !mo k o p
def yU (b:Bool) (x y:List aG):List aG:=bif b then sg 32::(y++[sg 33]) else x
def dV:Bool->List (List aG)->List aG
 | _,[]=>[]
 | b,x::xs=>(bif b then [sg 36] else [])++(x++dV true xs)
def jP (k o:Int) (x:List UInt8) (l:List (List aG)):List aG:=
 bif k==1 then [⟨6,x,0⟩] else bif k==2 then [⟨3,x,0⟩] else bif k==3 then [⟨4,x,0⟩] else bif k==4 then [⟨5,x,0⟩]
 else bif k==5 then ⟨6,x,0⟩::sg 34::(dV false l++[sg 35])
 else bif k==7 then ⟨7,x,0⟩::sg 32::(dV false l++[sg 33])
 else bif k==8 then ⟨8,x,0⟩::sg 32::(dV false l++[sg 33])
 else bif k==9 then sg o::l.getD 0 []
 else bif k==11 then sg o::l.getD 0 []
 else bif k==6 then sg 68::l.getD 0 []
 else bif k==10 then l.getD 0 []++[sg o]
 else bif k==13 then (bif decide (l.length > 1) then sg 32::(dV false l++[sg 33]) else l.getD 0 [])++[sg 24,⟨6,x,0⟩]
 else bif k==14 then l.getD 0 []++(sg 65::(l.getD 1 []++(sg 66::l.getD 2 [])))
 else l.getD 0 []++((bif o==99 then [] else [sg o])++l.getD 1 [])
mutual
def dD (f:Bool):av->aK->List aG
 | ⟨k,o,x,y,ks⟩,p=>jP k o x (bC f k o ks.length 0 p ks)
def bC (f:Bool) (k o:Int) (n j:Nat) (p:aK):List av->List (List aG)
 | []=>[]
 | t::ts=>(bif tgt k j then dD f t (gZ k o n j p) else yU (KU f t.kind t.op<|gZ k o n j p) (dD f t<|gZ k o n j p) (dD f t iA))::bC f k o n (j+1) p ts
end
def bY (f:Bool) (t:av) (p:aK):List aG:=yU (KU f t.kind t.op p) (dD f t p) (dD f t iA)
def bN (f:Bool) (k o:Int) (n j:Nat) (p:aK) (t:av):List aG:=bif tgt k j then dD f t (gZ k o n j p) else bY f t (gZ k o n j p)
def fH (f:Bool) (k o:Int) (n j:Nat) (p:aK) (t:av) (ts:List av):bC f k o n j p (t::ts)=bN f k o n j p t::bC f k o n (j+1) p ts:=by rw [bC];rfl
def Xk (f:Bool) (k o:Int) (n:Nat) (p:aK):∀ (ts:List av) (j:Nat),(bC f k o n j p ts).length=ts.length
 | [],j=>by rw [bC];rfl
 | t::ts,j=>by rw [fH,kF,Xk f k o n p ts,kF]
def fJ (f:Bool) (t:av) (p:aK):dD f t p=jP t.kind t.op t.text (bC f t.kind t.op t.kids.length 0 p t.kids):=by
 obtain ⟨k,o,x,y,ks⟩:=t;rw [dD]
def SC {α:Type} {l:List α} (h:l.length=2):∃ a b,l=[a,b]:=by
 match l,h with
 | [a,b],_=>exact ⟨a,b,rfl⟩
def afT {α:Type} {l:List α} (h:l.length=3):∃ a b c,l=[a,b,c]:=by
 match l,h with
 | [a,b,c],_=>exact ⟨a,b,c,rfl⟩
structure GN (t:av):Prop where
 e:jd t.kind=true
 lv:lv t.kind t.op≠0
 a0:t.kind=1\/t.kind=2\/t.kind=3\/t.kind=4->t.kids.length=0
 a1:t.kind=6\/t.kind=9\/t.kind=10\/t.kind=11->t.kids.length=1
 a2:t.kind=12\/t.kind=15->t.kids.length=2
 a3:t.kind=14->t.kids.length=3
 ai:t.kind=5\/t.kind=13->1<=t.kids.length
 le:t.kids.length<=400
 ke:∀ k,k∈t.kids->jd k.kind=true
 kl:∀ k,t.kids[0]?=some k->t.kind=9\/t.kind=10\/t.kind=15->iG k.kind=true
 op:t.kind=15->t.op≠99
def vV {P:av->Prop} {t:av} (h:allT P t):P t:=by
 obtain ⟨k,o,x,y,ks⟩:=t;rw [allT] at h;exact h.1
def DV {P:av->Prop} {t:av} (h:allT P t):∀ k,k∈t.kids->allT P k:=by
 have key:∀ ts:List av,Ac P ts->∀ k,k∈ts->allT P k:=by
  intro ts;induction ts with
  | nil=>intro _ k hk;cases hk
  | cons u ts ih=>
   intro h k hk;rw [Ac] at h;rcases gQ.1 hk with rfl|hk
   .exact h.1
   .exact ih h.2 k hk
 obtain ⟨k,o,x,y,ks⟩:=t;rw [allT] at h;exact key ks h.2
def amc {k:Int} (h:iG k=true):k<=9:=by
 unfold iG at h;simp only [lS,oZ] at h;omega
def amb (f:Bool):∀ t:av,allT GN t->(∀ p q,abR t.kind p q->dD f t p=dD f t q)/\(∀ p q,agS p q->bY f t p=bY f t q):=by
 intro t;induction t using wY with
 | h t ih=>
  intro h;have g:=vV h;have hk:=DV h;have hB:∀ p q,abR t.kind p q->dD f t p=dD f t q:=fun p q hr=>by
   have key:∀ (ts:List av) (j:Nat),(∀ k,k∈ts->k∈t.kids)->(j=0->∀ k,ts[0]?=some k->t.kids[0]?=some k)->bC f t.kind t.op t.kids.length j p ts=bC f t.kind t.op t.kids.length j q ts:=by
    intro ts;induction ts with
    | nil=>intro j _ _;rw [bC,bC]
    | cons u ts ih2=>
     intro j hm h0;have hu:=hm u aA;have hrel:=azx (o:=t.op) (n:=t.kids.length) (j:=j) g.e hr;rw [fH,fH,ih2 (j+1) (fun k hk=>hm k<|by simp [hk]) fun e=>ah];congr 1;unfold bN;cases ht:tgt t.kind j with
     | true=>
      have hj:j=0:=by
       unfold tgt at ht;simp only [dP,oZ] at ht;omega
      have Tv:u.kind<=9:=amc (g.kl u (h0 hj u rfl) (by
       unfold tgt at ht;simp only [dP,lS,oZ] at ht;exact ht.2))
      exact (ih u hu<|hk u hu).1 _ _ (.inr Tv)
     | false=>exact (ih u hu<|hk u hu).2 _ _ hrel
   rw [fJ,fJ,key t.kids 0 (fun k hk=>hk) fun _ k hk=>hk]
  refine ⟨hB,fun p q hr=>?_⟩;obtain ⟨h1,h2⟩:=azw (o:=t.op) g.e hr;unfold bY KU;rw [h1];cases f with
  | false=>
   cases hf:mo t.kind t.op q with
   | true=>exact hB p q (h2<|by rw [h1];exact hf)
   | false=>rfl
  | true=>
   cases hx:(lv t.kind t.op !=15||t.kind==4) with
   | true=>rfl
   | false=>
    simp only [aM,yU,aI,hx];simp only [LM,bne_eq_false_iff_eq] at hx;refine hB p q (.inr ?_);have hl:=hx.1;have ho:=KT t.op;rcases kinds g.e with e|e|e|e|e|e|e|e|e|e|e|e|e|e|e<;>rw [e] at hl ⊢<;>first
     | decide
     | (exfalso;simp [lv] at hl;done)
     | (exfalso;simp [lv] at hl;omega)
def agh:∀ (l:List (List aG)) (b:Bool),(dV b l).length<=(l.map List.length).sum+l.length
 | [],b=>by simp [dV]
 | x::xs,b=>by
  have:=agh xs true;rw [dV];cases b<;>simp only [aM,aI,jq,jS,YP,kF,yt]<;>omega
def azz (l:List (List aG)) (j:Nat):(l.getD j []).length<=(l.map List.length).sum:=by
 induction l generalizing j with
 | nil=>simp
 | cons x l ih=>
  cases j with
  | zero=>simp
  | succ j=>
   have:=ih j;simp only [List.getD_cons_succ,jS,YP];omega
def azA (k o:Int) (x:List UInt8) (l:List (List aG)) (h2:k≠14->(l.getD 0 []).length+(l.getD 1 []).length<=(l.map List.length).sum) (h3:(l.getD 0 []).length+(l.getD 1 []).length+(l.getD 2 []).length<=(l.map List.length).sum):(jP k o x l).length<=(l.map List.length).sum+l.length+4:=by
 have c:=agh l false;have g0:=azz l 0;have key:∀ (b:Bool) (x y:List aG) (n:Nat),x.length<=n->y.length<=n->(bif b then x else y).length<=n:=fun b x y n hx hy=>by cases b<;>assumption
 unfold jP;repeat' (refine key _ _ _ _ ?_ ?_)
 all_goals (try simp only [jq,kF,yt])
 all_goals (try omega)
 .have:=key (decide<|l.length > 1) (sg 32::(dV false l++[sg 33])) (l.getD 0 []) ((l.map List.length).sum+l.length+2) (by simp only [jq,kF,yt];omega) ah;omega
 .have:=key (o==99) [] [sg o] 1 aA aA;by_cases h:k=14
  .omega
  .have:=h2 h;omega
def azB (l:List (List aG)):(l.getD 0 []).length+(l.getD 1 []).length+(l.getD 2 []).length<=(l.map List.length).sum:=by
 match l with
 | []=>simp
 | [a]=>simp
 | [a,b]=>simp
 | a::b::c::r=>simp;omega
def azC (k o:Int) (x:List UInt8) (l:List (List aG)):(jP k o x l).length<=(l.map List.length).sum+l.length+4:=by
 have h:=azB l;exact azA k o x l (fun _=>ah) h
mutual
def SI (f:Bool):∀ (t:av) (p:aK),(dD f t p).length+4<=8*aV t
 | ⟨k,o,x,y,ks⟩,p=>by
  have h1:=azC k o x (bC f k o ks.length 0 p ks);have h2:=agi f k o ks.length p ks 0;have h3:=Xk f k o ks.length p ks 0;rw [dD,aV];omega
def agi (f:Bool) (k o:Int) (n:Nat) (p:aK):∀ (ts:List av) (j:Nat),((bC f k o n j p ts).map List.length).sum+ts.length<=8*aS ts
 | [],j=>by rw [bC];simp
 | t::ts,j=>by
  have h1:=agi f k o n p ts (j+1);have h2:=SI f t (gZ k o n j p);have h3:=SI f t iA;rw [bC,aS];simp only [jS,YP,kF];cases tgt k j<;>simp only [aM,aI]
  .unfold yU;cases KU f t.kind t.op (gZ k o n j p)<;>simp only [aM,aI,kF,jq,yt]<;>omega
  .omega
end
def azD (f:Bool) (t:av) (p:aK):(bY f t p).length+2<=8*aV t:=by
 have h2:=SI f t p;have h3:=SI f t iA;unfold bY yU;cases KU f t.kind t.op p<;>simp only [aM,aI,kF,jq,yt]<;>omega
def FJ (f:Bool) (k o:Int) (n j:Nat) (p:aK) (t:av):(bN f k o n j p t).length+2<=8*aV t:=by
 unfold bN;have h1:=SI f t (gZ k o n j p);have h2:=azD f t (gZ k o n j p);cases tgt k j<;>simp only [aM,aI]<;>omega
def kd (l:List aG) (i:Nat):Int:=(l[i]?.map (·.Kind)).getD 0
def dX (l:List aG) (i:Nat) (b:Bool) (ns:List (List UInt8)):dY l (i:Int) b ns=some (kd l i):=by
 unfold dY kd;by_cases h:i < l.length
 .have:decide ((i:Int)>=(l.length:Int))=false:=bF;rw [this,aI,dx h,aB,eZ h];rfl
 .have:decide ((i:Int)>=(l.length:Int))=true:=bF;rw [this,aM,Bz ah];rfl
def aoa {α β γ δ:Type} (x:Option (α×β×γ×δ)):(Option.bind x fun r=>some (r.1,r.2.1,r.2.2.1,r.2.2.2))=x:=by
 cases x<;>rfl
def agT {l:List aG} {i:Nat} (h:kd l i≠0):i < l.length:=by
 cases vZ i l.length with
 | inl h=>exact h
 | inr g=>exfalso;apply h;unfold kd;rw [Bz ah];rfl
def Cq {l:List aG} {i:Nat} (h:i < l.length):kd l i=l[i].Kind:=by unfold kd;rw [eZ h];rfl
def abS {k:Int} {l:List aG} {i:Nat} (ns:List (List UInt8)) (hi:i<=100000) (h:kd l i=k):KD k l (i:Int) false ns=some (true,((i+1:Nat):Int),false):=by
 unfold KD;have e:(kd l i !=k)=false:=by simp [h]
 simp only [aI,dX,aB,e];rw [wrap64 ah ah];rfl
def OG {l:List aG} {i:Nat} (b:Bool) (ns:List (List UInt8)) (hi:i < l.length) (hl:l.length<=100000):Fv l (i:Int) b ns=some (l[i].Text,((i+1:Nat):Int)):=by
 unfold Fv;rw [dx hi,aB,wrap64 ah ah];rfl
def abT {l:List aG} {i:Nat} (ns:List (List UInt8)) (hi:i < l.length) (hl:l.length<=100000) (h:kd l i=6):KE l (i:Int) false ns=some (l[i].Text,((i+1:Nat):Int),false):=by
 unfold KE;have e:(kd l i !=6)=false:=by simp [h]
 simp only [aI,dX,aB,e,OG false ns hi hl]
def mD (k:Int):Bool:=k==32||(k==34||k==30)
def oz (k:Int):Bool:=k==33||(k==35||k==31)
def opI (k:Int):Kz k=some (mD k):=by
 unfold Kz mD;cases (k==32)<;>cases (k==34)<;>rfl
def clI (k:Int):KC k=some (oz k):=by
 unfold KC oz;cases (k==33)<;>cases (k==35)<;>rfl
def Xm {k:Int} (h:mD k=true):oz k=false/\(k==36)=false:=by
 unfold mD at h;simp only [lS,oZ] at h;rcases h with h|h|h<;>subst h<;>decide
def pF (R:eH) (v:Int) (r:bJ) (l:List aG) (i:Int) (b:Bool) (ns:List (List UInt8)):Option (fu×Int×Bool×List (List UInt8)):=
 bif v==1 then R.ug r l i b ns else bif v==2 then R.vD r l i b ns else bif v==3 then R.Cn r l i b ns else bif v==4 then R.Aa r l i b ns
 else bif v==5 then R.zZ r l i b ns else bif v==6 then R.Cm r l i b ns else bif v==7 then R.yQ r l i b ns else bif v==8 then R.yP r l i b ns
 else bif v==9 then R.zY r l i b ns else bif v==10 then R.zX r l i b ns else bif v==11 then R.sS r l i b ns else bif v==12 then R.Ck r l i b ns
 else bif v==13 then R.Cj l i b ns else bif v==14 then R.sQ l i b ns else R.DL l i b ns
def dR (q:aK):bJ:=⟨q.aY,q.bg⟩
def eY (t:av) (h:Bool):fu:=⟨t,!h&&iG t.kind⟩
def RdM (l:List aG) (M:Nat) (q:aK) (i j:Nat) (t:av) (h:Bool):Prop:=∀ ns:List (List UInt8),pF (aU M) q.Level (dR q) l (i:Int) false ns=some (eY t h,(j:Int),false,ns)
def nR {l:List aG} {M:Nat} {q:aK} {i j:Nat} {t:av} {h:Bool} {v:Int} (hq:q.Level=v) (e:∀ ns:List (List UInt8),pF (aU M) v (dR q) l (i:Int) false ns=some (eY t h,(j:Int),false,ns)):RdM l M q i j t h:=fun ns=>by rw [hq];exact e ns
def Rd (l:List aG) (q:aK) (i j:Nat) (t:av) (h:Bool):Prop:=∀ M,1100000+100*(l.length - i)+4*(16 - q.Level.toNat)<=M->RdM l M q i j t h
def bq (q:aK) (lv:Int):aK:=⟨lv,false,q.aY,q.bg,false⟩
def vM (k:Int):Bool:=k==3||(k==4||(k==6||(k==7||(k==8||(k==32||k==68)))))
def qK (k:Int):Bool:=(Cc k).getD false
def amn (k:Int):Cc k=some (qK k):=by
 unfold qK Cc;rw [DU];cases (k==54)<;>rfl
def aob (k:Int):Ns k=some (qK k):=(show Ns k=Cc k from rfl).trans (amn k)
def OC (k:Int):AX k=some (k==51||k==52):=by
 unfold AX;cases (k==51)<;>rfl
def agL (k:Int):NR k=some (vM k):=by
 unfold NR Fu vM;cases (k==3)<;>cases (k==4)<;>cases (k==6)<;>cases (k==7)<;>cases (k==8)<;>cases (k==32)<;>cases (k==68)<;>rfl
def Tw (k:Int):BZ k=some (bG k):=by rw [anV];exact abQ k
def cont (lv:Int) (q:aK) (k:Int):Bool:=
 bif lv==1 then qK k else bif lv==2 then k==65 else bif lv==5 then k==24&&!q.aY
 else bif lv==8 then vM k else bif lv==12 then k==60 else bif lv==13 then (k==51||k==52)
 else bif lv==11 then false else bif lv==14 then false else bif lv==15 then false
 else k !=0&&(k !=99&&(bG k==lv&&(k !=62||!q.bg)))
def rH (k v:Int):Prop:=(v=3->k=44)/\(v=4->k=45)/\(v=6->k=67\/k=46)/\(v=7->k≠0/\k≠99)/\(v=9->k≠0/\k≠99/\k≠62)/\(v=10->k≠0/\k≠99/\k≠62)
def Tx (k:Int):rH k (bG k):=by
 have c:∀ {c:Bool} {x y:Option Int},(c=true->∃ v,x=some v/\rH k v)->(c=false->∃ v,y=some v/\rH k v)->∃ v,(bif c then x else y)=some v/\rH k v:=fun {c x y} hx hy=>by
  cases c
  .exact hy rfl
  .exact hx rfl
 have e:∀ {z:Int},(k==z)=true->k=z:=fun h=>by simpa using h
 have q0:∃ v:Int,(some 0:Option Int)=some v/\rH k v:=⟨0,rfl,by unfold rH;omega⟩
 have lK:∃ v:Int,(some 12:Option Int)=some v/\rH k v:=⟨12,rfl,by unfold rH;omega⟩
 have q8:∃ v:Int,(some 8:Option Int)=some v/\rH k v:=⟨8,rfl,by unfold rH;omega⟩
 have h4:∀ z:Int,k=z/\(z=57\/z=58)\/z=59->∃ v,Sr (k,k==z)=some v/\rH k v:=fun z hz=>c (fun h=>⟨10,rfl,by have:=e h;unfold rH;omega⟩) fun h=>c (fun _=>lK) fun _=>q0;have h3:∀ z:Int,k=z/\z=55\/z=56->∃ v,Xc (k,k==z)=some v/\rH k v:=fun z hz=>c (fun h=>⟨9,rfl,by have:=e h;unfold rH;omega⟩) fun h=>c (fun h=>h4 57<|.inl ⟨e h,.inl rfl⟩) fun _=>c (fun h=>h4 58<|.inl ⟨e h,.inr rfl⟩) fun _=>h4 59 (.inr rfl);have h2:∀ z:Int,k=z/\(z=63\/z=48\/z=47\/z=50\/z=62)\/z=49->∃ v,Ik (k,k==z)=some v/\rH k v:=fun z hz=>c (fun h=>⟨7,rfl,by have:=e h;unfold rH;omega⟩) fun h=>c (fun _=>q8) fun _=>c (fun h=>h3 55<|.inl ⟨e h,rfl⟩) fun _=>h3 56 (.inr rfl);have h1:∀ z:Int,k=z/\z=67\/z=46->∃ v,Xd (k,k==z)=some v/\rH k v:=fun z hz=>c (fun h=>⟨6,rfl,by have:=e h;unfold rH;omega⟩) fun h=>c (fun h=>h2 63<|.inl ⟨e h,ah⟩) fun _=>c (fun h=>h2 48<|.inl ⟨e h,ah⟩) fun _=>c (fun h=>h2 47<|.inl ⟨e h,ah⟩) fun _=>c (fun h=>h2 50<|.inl ⟨e h,ah⟩) fun _=>c (fun h=>h2 62<|.inl ⟨e h,ah⟩) fun _=>h2 49 (.inr rfl);have h0:∃ v,Om k=some v/\rH k v:=c (fun h=>⟨3,rfl,by have:=e h;unfold rH;omega⟩) fun h=>c (fun h=>⟨4,rfl,by have:=e h;unfold rH;omega⟩) fun h=>c (fun h=>h1 67<|.inl ⟨e h,rfl⟩) fun _=>h1 46 (.inr rfl);obtain ⟨v,h5,h6⟩:=h0;rw [abQ] at h5;cases h5;exact h6
def aoc (q:aK) (k:Int):cont 3 q k=(k==44):=by
 cases h:k==44 with
 | true=>rw [eq_of_beq h];rfl
 | false=>
  have hq:=(Tx k).1;show (k !=0&&(k !=99&&(bG k==3&&(k !=62||!q.bg))))=false;have:(bG k==3)=false:=by
   have: ¬bG k=3:=fun e=>by have:=hq e;subst this;cases h
   simpa using this
  rw [this];simp
def aod (q:aK) (k:Int):cont 4 q k=(k==45):=by
 cases h:k==45 with
 | true=>rw [eq_of_beq h];rfl
 | false=>
  have hq:=(Tx k).2.1;show (k !=0&&(k !=99&&(bG k==4&&(k !=62||!q.bg))))=false;have:(bG k==4)=false:=by
   have: ¬bG k=4:=fun e=>by have:=hq e;subst this;cases h
   simpa using this
  rw [this];simp
def aoe (q:aK) (k:Int):cont 6 q k=(k==67||k==46):=by
 cases h:k==67 with
 | true=>rw [eq_of_beq h];rfl
 | false=>
  cases h2:k==46 with
  | true=>rw [eq_of_beq h2];rfl
  | false=>
   have hq:=(Tx k).2.2.1;show (k !=0&&(k !=99&&(bG k==6&&(k !=62||!q.bg))))=false;have:(bG k==6)=false:=by
    have: ¬bG k=6:=fun e=>by
     rcases hq e with e|e<;>subst e
     .cases h
     .cases h2
    simpa using this
   rw [this];simp
def azE (q:aK) (k:Int):cont 7 q k=(bG k==7&&(k !=62||!q.bg)):=by
 cases h:bG k==7 with
 | true=>
  have hq:=(Tx k).2.2.2.1 (eq_of_beq h);have h1:(k !=0)=true:=by simpa using hq.1
  have h2:(k !=99)=true:=by simpa using hq.2
  show (k !=0&&(k !=99&&(bG k==7&&(k !=62||!q.bg))))=_;rw [h,h1,h2];rfl
 | false=>
  show (k !=0&&(k !=99&&(bG k==7&&(k !=62||!q.bg))))=_;rw [h];simp
def abV (q:aK) (k v:Int) (hv:v=9\/v=10):cont v q k=(bG k==v):=by
 have hd:cont v q k=(k !=0&&(k !=99&&(bG k==v&&(k !=62||!q.bg)))):=by rcases hv with rfl|rfl<;>rfl
 rw [hd];cases h:bG k==v with
 | true=>
  have e:=eq_of_beq h;have hq:k≠0/\k≠99/\k≠62:=by
   rcases hv with rfl|rfl
   .exact (Tx k).2.2.2.2.1 e
   .exact (Tx k).2.2.2.2.2 e
  have h1:(k !=0)=true:=by simpa using hq.1
  have h2:(k !=99)=true:=by simpa using hq.2.1
  have h3:(k !=62)=true:=by simpa using hq.2.2
  rw [h1,h2,h3];rfl
 | false=>simp
section
variable (l:List aG) (q:aK) (i j:Nat) (t:av) (h:Bool) (hsz:aV t<=400)
theorem azF (hq:q.Level=1) (hr:Rd l (bq q 2) i j t h) (hc:cont 1 q (kd l j)=false) (hsz:aV t<=400):Rd l q i j t h:=by
 intro M hM;obtain ⟨M,rfl⟩:∃ m,M=m+1:=⟨M - 1,ah⟩
 refine nR hq fun ns=>?_;have hc:qK (kd l j)=false:=hc;have e:=hr M (by rw [hq] at hM;show _+4*(16 - (2:Int).toNat)<=M;have:(2:Int).toNat=2:=rfl;have:(1:Int).toNat=1:=rfl;omega) ns;have e':(aU M).vD (dR q) l (i:Int) false ns=some (eY t h,(j:Int),false,ns):=e;show Oj M (aU M) (dR q) l (i:Int) false ns=_;unfold Oj;rw [e'];simp only [aB,aI,dX,aob,hc];unfold eY;cases (!h&&iG t.kind)<;>rfl
theorem azG (hq:q.Level=2) (hr:Rd l (bq q 3) i j t h) (hc:cont 2 q (kd l j)=false):Rd l q i j t h:=by
 intro M hM;obtain ⟨M,rfl⟩:∃ m,M=m+1:=⟨M - 1,ah⟩
 refine nR hq fun ns=>?_;have hc:(kd l j==65)=false:=hc;have hc2:(kd l j !=65)=true:=by rw [bne,hc];rfl
 have e:=hr M (by rw [hq] at hM;show _+4*(16 - (3:Int).toNat)<=M;have:(2:Int).toNat=2:=rfl;have:(3:Int).toNat=3:=rfl;omega) ns;have e':(aU M).Cn (dR q) l (i:Int) false ns=some (eY t h,(j:Int),false,ns):=e;show Oi M (aU M) (dR q) l (i:Int) false ns=_;unfold Oi;rw [e'];simp only [aB,aI,dX,hc2,aM]
theorem aof (hq:q.Level=12) (hr:Rd l (bq q 13) i j t h) (hc:cont 12 q (kd l j)=false):Rd l q i j t h:=by
 intro M hM;obtain ⟨M,rfl⟩:∃ m,M=m+1:=⟨M - 1,ah⟩
 refine nR hq fun ns=>?_;have hc:(kd l j==60)=false:=hc;have hc2:(kd l j !=60)=true:=by rw [bne,hc];rfl
 have e:=hr M (by rw [hq] at hM;show _+4*(16 - (13:Int).toNat)<=M;have:(12:Int).toNat=12:=rfl;have:(13:Int).toNat=13:=rfl;omega) ns;have e':(aU M).Cj l (i:Int) false ns=some (eY t h,(j:Int),false,ns):=e;show NY M (aU M) (dR q) l (i:Int) false ns=_;unfold NY;rw [e'];simp only [aB,aI,dX,hc2,aM]
theorem aog {k:Int} (hk:(k==56||(k==55||k==61))=false):(bif (k !=55) then bif (k !=56) then some (k !=61) else some false else some false)=some true:=by
 rw [LM,LM] at hk;rw [bne,bne,bne,hk.1,hk.2.1,hk.2.2];rfl
theorem azH (hq:q.Level=11) (hr:Rd l (bq q 13) i j t h) (hc:cont 12 q (kd l j)=false) (hk:(kd l i==56||(kd l i==55||kd l i==61))=false):Rd l q i j t h:=by
 intro M hM;obtain ⟨M,rfl⟩:∃ m,M=m+1:=⟨M - 1,ah⟩
 refine nR hq fun ns=>?_;have e:=aof l (bq q 12) i j t h rfl hr hc M (by rw [hq] at hM;show _+4*(16 - (12:Int).toNat)<=M;have:(11:Int).toNat=11:=rfl;have:(12:Int).toNat=12:=rfl;omega) ns;have e':(aU M).Ck (dR q) l (i:Int) false ns=some (eY t h,(j:Int),false,ns):=e;show Hy M (aU M) (dR q) l (i:Int) false ns=_;unfold Hy;rw [dX];simp only [aB,aI,aog hk,aM,e']
theorem azI (hq:q.Level=13) (hr:Rd l (bq q 14) i j t h) (hc:cont 13 q (kd l j)=false) (hk:(kd l i==51||kd l i==52)=false):Rd l q i j t h:=by
 intro M hM;obtain ⟨M,rfl⟩:∃ m,M=m+1:=⟨M - 1,ah⟩
 refine nR hq fun ns=>?_;have hc:(kd l j==51||kd l j==52)=false:=hc;have e:=hr M (by rw [hq] at hM;show _+4*(16 - (14:Int).toNat)<=M;have:(14:Int).toNat=14:=rfl;have:(13:Int).toNat=13:=rfl;omega) ns;have e':(aU M).sQ l (i:Int) false ns=some (eY t h,(j:Int),false,ns):=e;show Hw M (aU M) l (i:Int) false ns=_;unfold Hw;rw [dX];simp only [aB,lF,aM,OC,hk,aI,e',dX,hc];unfold eY;cases (!h&&iG t.kind)<;>rfl
theorem azJ (hq:q.Level=14) (hr:Rd l (bq q 15) i j t h) (hk:kd l i≠68):Rd l q i j t h:=by
 intro M hM;obtain ⟨M,rfl⟩:∃ m,M=m+1:=⟨M - 1,ah⟩
 refine nR hq fun ns=>?_;have hk2:(kd l i !=68)=true:=by simpa using hk
 have e:=hr M (by rw [hq] at hM;show _+4*(16 - (15:Int).toNat)<=M;have:(14:Int).toNat=14:=rfl;have:(15:Int).toNat=15:=rfl;omega) ns;have e':(aU M).DL l (i:Int) false ns=some (eY t h,(j:Int),false,ns):=e;show DN M (aU M) l (i:Int) false ns=_;unfold DN;rw [dX];simp only [aB,aI,hk2,aM,e']
end
def Ln (l:List aG) (a f:Nat):Prop:=a<=f/\(∀ k,a<=k->k < f->kd l k=1)/\kd l f≠1/\kd l f≠2
def aoh (l:List aG) (hl:l.length<=3000) (N':Nat) (ns:List (List UInt8)):∀ (n a f fuel:Nat),f - a<=n->n < fuel->Ln l a f->DK N' l false fuel ((a:Int),ns)=some ((f:Int),ns)
 | 0,a,f,fuel,h1,h2,h=>by
  obtain ⟨fuel,rfl⟩:∃ m,fuel=m+1:=⟨fuel - 1,ah⟩
  have e:a=f:=by have:=h.1;omega
  subst e;have e1:(kd l a==1)=false:=by simpa using h.2.2.1
  have e2:(kd l a==2)=false:=by simpa using h.2.2.2
  rw [DK];simp only [dX,aB,lF,aM,e1,aI,e2]
 | n+1,a,f,fuel,h1,h2,h=>by
  obtain ⟨fuel,rfl⟩:∃ m,fuel=m+1:=⟨fuel - 1,ah⟩
  by_cases e:a=f
  .subst e;have e1:(kd l a==1)=false:=by simpa using h.2.2.1
   have e2:(kd l a==2)=false:=by simpa using h.2.2.2
   rw [DK];simp only [dX,aB,lF,aM,e1,aI,e2]
  .have hlt:a < f:=by have:=h.1;omega
   have e1:kd l a=1:=h.2.1 a (eD _) hlt;have ha:=agT (l:=l) (i:=a) (by rw [e1];decide);rw [DK];simp only [lF,aM,dX,aB,e1,Qe];unfold WJ;simp only [];rw [wrap64 ah ah,show (a:Int)+1=((a+1:Nat):Int) by omega];exact aoh l hl N' ns n (a+1) f fuel ah ah ⟨ah,fun k g1 g2=>h.2.1 k ah g2,h.2.2⟩
def Ln.le {l:List aG} {a f:Nat} (h:Ln l a f) (ha:a<=l.length):f<=l.length:=by
 by_cases e:a=f
 .omega
 .have h1:=h.1;have:=agT (l:=l) (i:=f - 1) (by rw [h.2.1 (f - 1) ah ah];decide);omega
def agW (l:List aG) (hl:l.length<=3000) {N a f:Nat} (ns:List (List UInt8)) (hN:3000 < N) (ha:a<=l.length) (h:Ln l a f):NT N l (a:Int) false ns=some ((f:Int),ns):=by
 unfold NT;have:=h.le ha;rw [aoh l hl N ns (f - a) a f N ah ah h]
def Ee (lv most:Int) (sd:Int×Int):Prop:=(lv=3/\most=3000/\sd=(3,4))\/(lv=4/\most=3000/\sd=(4,5))\/(lv=6/\most=1/\sd=(7,7))\/(lv=7/\most=1/\sd=(8,8))\/(lv=8/\most=3000/\sd=(8,9))\/(lv=9/\most=3000/\sd=(9,10))\/(lv=10/\most=3000/\sd=(10,11))
def XK {lv most:Int} {sd:Int×Int} (hc:Ee lv most sd):3<=lv/\lv<=10/\lv < sd.2/\sd.2<=11/\most<=3000:=by
 rcases hc with ⟨rfl,rfl,rfl⟩|⟨rfl,rfl,rfl⟩|⟨rfl,rfl,rfl⟩|⟨rfl,rfl,rfl⟩|⟨rfl,rfl,rfl⟩|⟨rfl,rfl,rfl⟩|⟨rfl,rfl,rfl⟩<;>decide
def FU (M:Nat) (lv:Int) (l:List aG) (n:Nat) (r:bJ) (j:Int) (t:av) (h:Bool) (ns:List (List UInt8)):Option (fu×Int×Bool×List (List UInt8)):=
 bif lv==3 then Ii M (aU M) l n (r,j,false,t.kind,t.op,t.text,t.other,t.kids,(!h&&iG t.kind),ns)
 else bif lv==4 then Ih M (aU M) l n (r,j,false,t.kind,t.op,t.text,t.other,t.kids,(!h&&iG t.kind),ns)
 else bif lv==8 then HY M (aU M) l n (r,j,false,t.kind,t.op,t.text,t.other,t.kids,(!h&&iG t.kind),ns)
 else bif lv==9 then HV M (aU M) l n (r,j,false,t.kind,t.op,t.text,t.other,t.kids,(!h&&iG t.kind),ns)
 else Hz M (aU M) l n (r,j,false,t.kind,t.op,t.text,t.other,t.kids,(!h&&iG t.kind),ns)
def aoi (M:Nat) (l:List aG) (n:Nat) (r:bJ) (j:Int) (t:av) (h:Bool) (ns:List (List UInt8)):FU M 3 l n r j t h ns=Ii M (aU M) l n (r,j,false,t.kind,t.op,t.text,t.other,t.kids,(!h&&iG t.kind),ns):=rfl
def aoj (M:Nat) (l:List aG) (n:Nat) (r:bJ) (j:Int) (t:av) (h:Bool) (ns:List (List UInt8)):FU M 4 l n r j t h ns=Ih M (aU M) l n (r,j,false,t.kind,t.op,t.text,t.other,t.kids,(!h&&iG t.kind),ns):=rfl
def aok (M:Nat) (l:List aG) (n:Nat) (r:bJ) (j:Int) (t:av) (h:Bool) (ns:List (List UInt8)):FU M 8 l n r j t h ns=HY M (aU M) l n (r,j,false,t.kind,t.op,t.text,t.other,t.kids,(!h&&iG t.kind),ns):=rfl
def aol (M:Nat) (l:List aG) (n:Nat) (r:bJ) (j:Int) (t:av) (h:Bool) (ns:List (List UInt8)):FU M 9 l n r j t h ns=HV M (aU M) l n (r,j,false,t.kind,t.op,t.text,t.other,t.kids,(!h&&iG t.kind),ns):=rfl
def aom (M:Nat) (l:List aG) (n:Nat) (r:bJ) (j:Int) (t:av) (h:Bool) (ns:List (List UInt8)):FU M 10 l n r j t h ns=Hz M (aU M) l n (r,j,false,t.kind,t.op,t.text,t.other,t.kids,(!h&&iG t.kind),ns):=rfl
def Ch (l:List aG) (lv:Int) (_:Int) (_:Int×Int) (q:aK) (i j:Nat) (t:av) (h:Bool) (c:Nat):Prop:=
 (lv≠6/\lv≠7/\∀ (M:Nat) (ns:List (List UInt8)),1100000+100*(l.length - i)+4*(16 - lv.toNat)<=M+1->pF (aU<|M+1) lv (dR q) l (i:Int) false ns=FU M lv l (M - c) (dR q) (j:Int) t h ns)\/
 ((lv=6\/lv=7)/\(c=0/\Rd l (bq q<|lv+1) i j t h\/c=1/\Rd l (bq q lv) i j t h))
def azK {lv:Int} (l:List aG) (q:aK) (i j:Nat) (t:av) (h:Bool) (hv:lv=3\/lv=4\/lv=8\/lv=9\/lv=10) (M:Nat) (ns:List (List UInt8)) (hr:RdM l M (bq q<|lv+1) i j t h):pF (aU<|M+1) lv (dR q) l (i:Int) false ns=FU M lv l M (dR q) (j:Int) t h ns:=by
 have e:=hr ns;rcases hv with rfl|rfl|rfl|rfl|rfl
 .have e':(aU M).Aa (dR q) l (i:Int) false ns=some (eY t h,(j:Int),false,ns):=e;show WT M (aU M) (dR q) l (i:Int) false ns=_;unfold WT;rw [e'];rfl
 .have e':(aU M).zZ (dR q) l (i:Int) false ns=some (eY t h,(j:Int),false,ns):=e;show WS M (aU M) (dR q) l (i:Int) false ns=_;unfold WS;rw [e'];rfl
 .have e':(aU M).zY (dR q) l (i:Int) false ns=some (eY t h,(j:Int),false,ns):=e;show WQ M (aU M) (dR q) l (i:Int) false ns=_;unfold WQ;rw [e'];rfl
 .have e':(aU M).zX (dR q) l (i:Int) false ns=some (eY t h,(j:Int),false,ns):=e;show WO M (aU M) (dR q) l (i:Int) false ns=_;unfold WO;rw [e'];rfl
 .have e':(aU M).sS (dR q) l (i:Int) false ns=some (eY t h,(j:Int),false,ns):=e;show WM M (aU M) (dR q) l (i:Int) false ns=_;unfold WM;rw [e'];rfl
def Ch.first {l:List aG} {lv most:Int} {sd:Int×Int} (hc:Ee lv most sd) {q:aK} {i j:Nat} {t:av} {h:Bool} (hr:Rd l (bq q<|lv+1) i j t h):Ch l lv most sd q i j t h 0:=by
 have hb:=XK hc;by_cases hv:lv=6\/lv=7
 .exact .inr ⟨hv,.inl ⟨rfl,hr⟩⟩
 .refine .inl ⟨ah,ah,fun M ns hM=>azK l q i j t h ?_ M ns (hr M<|by show _+4*(16 - (lv+1).toNat)<=M;omega)⟩;rcases hc with ⟨rfl,_⟩|⟨rfl,_⟩|⟨rfl,_⟩|⟨rfl,_⟩|⟨rfl,_⟩|⟨rfl,_⟩|⟨rfl,_⟩<;>omega
def azL {lv:Int} (l:List aG) (M n:Nat) (q:aK) (j:Nat) (t:av) (h:Bool) (ns:List (List UInt8)) (hv:lv=3\/lv=4\/lv=8\/lv=9\/lv=10) (hs:cont lv q (kd l j)=false):FU M lv l (n+1) (dR q) (j:Int) t h ns=some (eY t h,(j:Int),false,ns):=by
 obtain ⟨k,o,x,y,ks⟩:=t;rcases hv with rfl|rfl|rfl|rfl|rfl
 .rw [aoc] at hs;rw [aoi,Ii];simp only [lF,aM,dX,aB,hs,aI];rfl
 .rw [aod] at hs;rw [aoj,Ih];simp only [lF,aM,dX,aB,hs,aI];rfl
 .have hs:vM (kd l j)=false:=hs;rw [aok,HY];simp only [lF,aM,dX,aB,agL,hs,aI];rfl
 .rw [abV q _ 9<|.inl rfl] at hs;rw [aol,HV];simp only [lF,aM,dX,aB,Tw,hs,aI];rfl
 .rw [abV q _ 10<|.inr rfl] at hs;rw [aom,Hz];simp only [lF,aM,dX,aB,Tw,hs,aI];rfl
def azM {lv most:Int} {sd:Int×Int} (hc:Ee lv most sd) (l:List aG) (hl:l.length<=3000) (M n:Nat) (hM:1048577 < M) (q:aK) (j j2:Nat) (h hb:Bool) (ns:List (List UInt8)) (t u:av) (hgo:cont lv q (kd l j)=true) (hv:lv≠6/\lv≠7)
  (f0 f:Nat) (op:Int) (hf:lv=8/\f0=j/\op=99\/lv≠8/\f0=j+1/\op=kd l j/\j < l.length) (hj0:j<=l.length) (hln:(lv=3\/lv=4)/\Ln l f0 f\/ ¬(lv=3\/lv=4)/\f=f0) (hr:RdM l M (bq q sd.2) f j2 u hb):
  FU M lv l (n+1) (dR q) (j:Int) t h ns=FU M lv l n (dR q) (j2:Int) ⟨12,op,[],[],[t,u]⟩ false ns:=by
 have e:=hr ns;obtain ⟨k,o,x,y,ks⟩:=t;rcases hc with ⟨rfl,rfl,rfl⟩|⟨rfl,rfl,rfl⟩|⟨rfl,rfl,rfl⟩|⟨rfl,rfl,rfl⟩|⟨rfl,rfl,rfl⟩|⟨rfl,rfl,rfl⟩|⟨rfl,rfl,rfl⟩
 .rcases hf with ⟨h8,_⟩|⟨_,rfl,rfl,hj⟩
  .exact absurd h8 aJ
  rcases hln with ⟨_,hln⟩|⟨h3,_⟩
  .rw [aoc] at hgo;have hk:kd l j=44:=eq_of_beq hgo;have e':(aU M).Aa (dR q) l (f:Int) false ns=some (eY u hb,(j2:Int),false,ns):=e;rw [aoi,Ii];simp only [lF,aM,dX,aB,hgo];rw [wrap64 ah ah,show (j:Int)+1=((j+1:Nat):Int) by omega,agW l hl ns ah (show j+1<=l.length by omega) hln,aB];dsimp only;rw [e',hk];rfl
  .exact absurd (Or.inl rfl) h3
 .rcases hf with ⟨h8,_⟩|⟨_,rfl,rfl,hj⟩
  .exact absurd h8 aJ
  rcases hln with ⟨_,hln⟩|⟨h3,_⟩
  .rw [aod] at hgo;have hk:kd l j=45:=eq_of_beq hgo;have e':(aU M).zZ (dR q) l (f:Int) false ns=some (eY u hb,(j2:Int),false,ns):=e;rw [aoj,Ih];simp only [lF,aM,dX,aB,hgo];rw [wrap64 ah ah,show (j:Int)+1=((j+1:Nat):Int) by omega,agW l hl ns ah (show j+1<=l.length by omega) hln,aB];dsimp only;rw [e',hk];rfl
  .exact absurd (Or.inr rfl) h3
 .exact absurd rfl hv.1
 .exact absurd rfl hv.2
 .rcases hf with ⟨_,rfl,rfl⟩|⟨h8,_⟩
  .rcases hln with ⟨h3,_⟩|⟨_,rfl⟩
   .exact absurd h3 aJ
   have hgo:vM (kd l f)=true:=hgo;have e':(aU M).zY (dR q) l (f:Int) false ns=some (eY u hb,(j2:Int),false,ns):=e;rw [aok,HY];simp only [lF,aM,dX,aB,agL,hgo,e'];rfl
  .exact absurd rfl h8
 .rcases hf with ⟨h8,_⟩|⟨_,rfl,rfl,hj⟩
  .exact absurd h8 aJ
  rcases hln with ⟨h3,_⟩|⟨_,rfl⟩
  .exact absurd h3 aJ
  rw [abV q _ 9<|.inl rfl] at hgo;have e':(aU M).zX (dR q) l ((j+1:Nat):Int) false ns=some (eY u hb,(j2:Int),false,ns):=e;rw [aol,HV];simp only [lF,aM,dX,aB,Tw,hgo];rw [wrap64 ah ah,show (j:Int)+1=((j+1:Nat):Int) by omega,e'];rfl
 .rcases hf with ⟨h8,_⟩|⟨_,rfl,rfl,hj⟩
  .exact absurd h8 aJ
  rcases hln with ⟨h3,_⟩|⟨_,rfl⟩
  .exact absurd h3 aJ
  rw [abV q _ 10<|.inr rfl] at hgo;have e':(aU M).sS (dR q) l ((j+1:Nat):Int) false ns=some (eY u hb,(j2:Int),false,ns):=e;rw [aom,Hz];simp only [lF,aM,dX,aB,Tw,hgo];rw [wrap64 ah ah,show (j:Int)+1=((j+1:Nat):Int) by omega,e'];rfl
def azN {l:List aG} (hl:l.length<=3000) {q:aK} (hq:q.Level=6) {i j j2:Nat} {t u:av} {h hb:Bool} (hr:Rd l (bq q 7) i j t h) (hgo:cont 6 q (kd l j)=true) (hij:i<=j) (hj:j < l.length) (hr2:Rd l (bq q 7) (j+1) j2 u hb):Rd l q i j2 ⟨12,kd l j,[],[],[t,u]⟩ false:=by
 intro M hM;obtain ⟨M,rfl⟩:∃ m,M=m+1:=⟨M - 1,ah⟩
 refine nR hq fun ns=>?_;have n6:(6:Int).toNat=6:=rfl;have n7:(7:Int).toNat=7:=rfl;have e:=hr M (by rw [hq] at hM;show _+4*(16 - (7:Int).toNat)<=M;omega) ns;have e2:=hr2 M (by rw [hq] at hM;show _+4*(16 - (7:Int).toNat)<=M;omega) ns;have e':(aU M).yQ (dR q) l (i:Int) false ns=some (eY t h,(j:Int),false,ns):=e;have e2':(aU M).yQ (dR q) l ((j+1:Nat):Int) false ns=some (eY u hb,(j2:Int),false,ns):=e2;rw [aoe] at hgo;have hc:(bif (kd l j !=67) then some (kd l j !=46) else some false)=some false:=by
  cases h6:kd l j==67 with
  | true=>rw [bne,h6];rfl
  | false=>rw [h6,Uf] at hgo;rw [bne,bne,h6,hgo];rfl
 show Od M (aU M) (dR q) l (i:Int) false ns=_;unfold Od;rw [e'];simp only [aB,aI,dX,hc];rw [wrap64 ah ah,show (j:Int)+1=((j+1:Nat):Int) by omega,e2'];rfl
def azO {l:List aG} {q:aK} (hq:q.Level=6) {i j:Nat} {t:av} {h:Bool} (hr:Rd l (bq q 7) i j t h) (hs:cont 6 q (kd l j)=false):Rd l q i j t h:=by
 intro M hM;obtain ⟨M,rfl⟩:∃ m,M=m+1:=⟨M - 1,ah⟩
 refine nR hq fun ns=>?_;have n6:(6:Int).toNat=6:=rfl;have n7:(7:Int).toNat=7:=rfl;have e:=hr M (by rw [hq] at hM;show _+4*(16 - (7:Int).toNat)<=M;omega) ns;have e':(aU M).yQ (dR q) l (i:Int) false ns=some (eY t h,(j:Int),false,ns):=e;rw [aoe,LM] at hs;have hc:(bif (kd l j !=67) then some (kd l j !=46) else some false)=some true:=by rw [bne,bne,hs.1,hs.2];rfl
 show Od M (aU M) (dR q) l (i:Int) false ns=_;unfold Od;rw [e'];simp only [aB,aI,dX,hc,aM]
def aon (q:aK) (k:Int):(bif (bG k !=7) then some true else bif (dR q).dF then some (k==62) else some false)=some (!cont 7 q k):=by
 rw [azE];show (bif (bG k !=7) then some true else bif q.bg then some (k==62) else some false)=_;rw [bne,bne];cases (bG k==7)<;>cases q.bg<;>cases (k==62)<;>rfl
def azP {l:List aG} (hl:l.length<=3000) {q:aK} (hq:q.Level=7) {i j j2:Nat} {t u:av} {h hb:Bool} (hr:Rd l (bq q 8) i j t h) (hgo:cont 7 q (kd l j)=true) (hij:i<=j) (hj:j < l.length) (hr2:Rd l (bq q 8) (j+1) j2 u hb):Rd l q i j2 ⟨12,kd l j,[],[],[t,u]⟩ false:=by
 intro M hM;obtain ⟨M,rfl⟩:∃ m,M=m+1:=⟨M - 1,ah⟩
 refine nR hq fun ns=>?_;have n6:(8:Int).toNat=8:=rfl;have n7:(7:Int).toNat=7:=rfl;have e:=hr M (by rw [hq] at hM;show _+4*(16 - (8:Int).toNat)<=M;omega) ns;have e2:=hr2 M (by rw [hq] at hM;show _+4*(16 - (8:Int).toNat)<=M;omega) ns;have e':(aU M).yP (dR q) l (i:Int) false ns=some (eY t h,(j:Int),false,ns):=e;have e2':(aU M).yP (dR q) l ((j+1:Nat):Int) false ns=some (eY u hb,(j2:Int),false,ns):=e2;show Oc M (aU M) (dR q) l (i:Int) false ns=_;unfold Oc;rw [e'];simp only [aB,aI,dX,Tw,aon,hgo,mI];rw [wrap64 ah ah,show (j:Int)+1=((j+1:Nat):Int) by omega,e2'];rfl
def azQ {l:List aG} {q:aK} (hq:q.Level=7) {i j:Nat} {t:av} {h:Bool} (hr:Rd l (bq q 8) i j t h) (hs:cont 7 q (kd l j)=false):Rd l q i j t h:=by
 intro M hM;obtain ⟨M,rfl⟩:∃ m,M=m+1:=⟨M - 1,ah⟩
 refine nR hq fun ns=>?_;have n6:(8:Int).toNat=8:=rfl;have n7:(7:Int).toNat=7:=rfl;have e:=hr M (by rw [hq] at hM;show _+4*(16 - (8:Int).toNat)<=M;omega) ns;have e':(aU M).yP (dR q) l (i:Int) false ns=some (eY t h,(j:Int),false,ns):=e;show Oc M (aU M) (dR q) l (i:Int) false ns=_;unfold Oc;rw [e'];simp only [aB,aI,dX,Tw,aon,hs,lF,aM]
def agX {l:List aG} (hl:l.length<=3000) {lv most:Int} {sd:Int×Int} (hc:Ee lv most sd) {q:aK} {i j:Nat} {t:av} {h:Bool} {c:Nat} (hch:Ch l lv most sd q i j t h c) (hcm:(c:Int) < most) {j2:Nat} {hb:Bool} {u:av} (hz:aV t+aV u<=1000) (hgo:cont lv q (kd l j)=true)
  (f0 f:Nat) (op:Int) (hf:lv=8/\f0=j/\op=99\/lv≠8/\f0=j+1/\op=kd l j/\j < l.length) (hj0:j<=l.length) (hln:(lv=3\/lv=4)/\Ln l f0 f\/ ¬(lv=3\/lv=4)/\f=f0) (hij:i < f) (hfl:f<=l.length) (hr:Rd l (bq q sd.2) f j2 u hb):Ch l lv most sd q i j2 ⟨12,op,[],[],[t,u]⟩ false (c+1):=by
 have hb:=XK hc;rcases hch with ⟨h6,h7,hch⟩|⟨hv,hch⟩
 .refine .inl ⟨h6,h7,fun M ns hM=>?_⟩;rw [hch M ns hM];obtain ⟨n,hn⟩:∃ n,M - c=n+1:=⟨M - c - 1,ah⟩
  rw [hn,azM hc l hl M n ah q j j2 h _ ns t u hgo ⟨h6,h7⟩ f0 f op hf hj0 hln (hr M<|by show _+4*(16 - sd.2.toNat)<=M;omega),show M - (c+1)=n by omega]
 .refine .inr ⟨hv,.inr ?_⟩;rcases hf with ⟨h8,_⟩|⟨_,rfl,rfl,hj⟩
  .omega
  rcases hln with ⟨h3,_⟩|⟨_,rfl⟩
  .omega
  rcases hch with ⟨rfl,hr1⟩|⟨rfl,_⟩
  .refine ⟨rfl,?_⟩;rcases hc with ⟨rfl,_⟩|⟨rfl,_⟩|⟨rfl,_,rfl⟩|⟨rfl,_,rfl⟩|⟨rfl,_⟩|⟨rfl,_⟩|⟨rfl,_⟩
   .omega
   .omega
   .exact azN hl (q:=bq q 6) rfl hr1 hgo ah hj hr
   .exact azP hl (q:=bq q 7) rfl hr1 hgo ah hj hr
   .omega
   .omega
   .omega
  .exfalso;rcases hc with ⟨rfl,_⟩|⟨rfl,_⟩|⟨rfl,rfl,_⟩|⟨rfl,rfl,_⟩|⟨rfl,_⟩|⟨rfl,_⟩|⟨rfl,_⟩<;>omega
def azR {l:List aG} {q:aK} {lv:Int} (hq:q.Level=lv) {i j:Nat} {t:av} {h:Bool} (hr:Rd l (bq q lv) i j t h):Rd l q i j t h:=fun M hM ns=>by
 have e:=hr M (by rw [hq] at hM;exact hM) ns;rw [hq];exact e
def Ch.done {l:List aG} {lv most:Int} {sd:Int×Int} (hc:Ee lv most sd) {q:aK} (hq:q.Level=lv) {i j:Nat} {t:av} {h:Bool} {c:Nat} (hch:Ch l lv most sd q i j t h c) (hcm:(c:Int)<=most) (hs:cont lv q (kd l j)=false\/most=1/\ ¬(c:Int) < most):Rd l q i j t h:=by
 have hb:=XK hc;rcases hch with ⟨h6,h7,hch⟩|⟨hv,hch⟩
 .intro M hM;rw [hq] at hM;obtain ⟨M,rfl⟩:∃ m,M=m+1:=⟨M - 1,ah⟩
  refine nR hq fun ns=>?_;rw [hch M ns hM];obtain ⟨n,hn⟩:∃ n,M - c=n+1:=⟨M - c - 1,ah⟩
  rw [hn];have hv:lv=3\/lv=4\/lv=8\/lv=9\/lv=10:=by rcases hc with ⟨rfl,_⟩|⟨rfl,_⟩|⟨rfl,_⟩|⟨rfl,_⟩|⟨rfl,_⟩|⟨rfl,_⟩|⟨rfl,_⟩<;>omega
  have hs:cont lv q (kd l j)=false:=by
   rcases hs with hs|hs
   .exact hs
   .exfalso;rcases hc with ⟨rfl,rfl,_⟩|⟨rfl,rfl,_⟩|⟨rfl,_⟩|⟨rfl,_⟩|⟨rfl,rfl,_⟩|⟨rfl,rfl,_⟩|⟨rfl,rfl,_⟩<;>omega
  exact azL l M n q j t h ns hv hs
 .rcases hch with ⟨rfl,hr⟩|⟨rfl,hr⟩
  .have hs:cont lv q (kd l j)=false:=by
    rcases hs with hs|hs
    .exact hs
    .exfalso;rcases hc with ⟨rfl,_⟩|⟨rfl,_⟩|⟨rfl,rfl,_⟩|⟨rfl,rfl,_⟩|⟨rfl,_⟩|⟨rfl,_⟩|⟨rfl,_⟩<;>omega
   rcases hv with rfl|rfl
   .exact azO hq hr hs
   .exact azQ hq hr hs
  .exact azR hq hr
def vO {j n:Nat} (h:j<=n) (hn:n<=100000):IntKind.wrap .i64 ((j:Int)+1)=((j+1:Nat):Int):=by rw [wrap64 ah ah];omega
section
variable (l:List aG) (hl:l.length<=3000) (q:aK)
include hl
theorem azS (hq:q.Level=1) {i j j2:Nat} {t u:av} {h2:Bool} (hr:Rd l (bq q 2) i j t false) (hL:iG t.kind=true) (ha:qK (kd l j)=true) (hij:i<=j) (hj:j < l.length) (hr2:Rd l (bq q 1) (j+1) j2 u h2) (hz:aV t+aV u<=1000):Rd l q i j2 ⟨15,kd l j,[],[],[t,u]⟩ false:=by
 intro M hM;obtain ⟨M,rfl⟩:∃ m,M=m+1:=⟨M - 1,ah⟩
 refine nR hq fun ns=>?_;have n1:(1:Int).toNat=1:=rfl;have n2:(2:Int).toNat=2:=rfl;have e:=hr M (by rw [hq] at hM;show _+4*(16 - (2:Int).toNat)<=M;omega) ns;have e2:=hr2 M (by rw [hq] at hM;show _+4*(16 - (1:Int).toNat)<=M;omega) ns;have e':(aU M).vD (dR q) l (i:Int) false ns=some (⟨t,true⟩,(j:Int),false,ns):=by
  have e:_=some ((⟨t,!false&&iG t.kind⟩:fu),(j:Int),false,ns):=e;rw [hL] at e;exact e
 have e2':(aU M).ug (dR q) l ((j+1:Nat):Int) false ns=some (eY u h2,(j2:Int),false,ns):=e2;show Oj M (aU M) (dR q) l (i:Int) false ns=_;unfold Oj;rw [e'];simp only [aB,aI,dX,aob,ha,mI,vO (Au hj) (show l.length<=100000 by omega),e2'];rfl
theorem azT (hq:q.Level=2) {i j j2 j3:Nat} {t u v:av} {h1 h2 h3:Bool} (hr:Rd l (bq q 3) i j t h1) (ha:kd l j=65) (hij:i<=j) (hj:j < l.length) (hr2:Rd l (bq q 2) (j+1) j2 u h2) (hb:kd l j2=66) (hj2:j < j2) (hj3:j2 < l.length) (hr3:Rd l (bq q 2) (j2+1) j3 v h3) (hz:aV t+aV u+aV v<=1000):Rd l q i j3 ⟨14,0,[],[],[t,u,v]⟩ false:=by
 intro M hM;obtain ⟨M,rfl⟩:∃ m,M=m+1:=⟨M - 1,ah⟩
 refine nR hq fun ns=>?_;have n2:(2:Int).toNat=2:=rfl;have n3:(3:Int).toNat=3:=rfl;have e:=hr M (by rw [hq] at hM;show _+4*(16 - (3:Int).toNat)<=M;omega) ns;have e2:=hr2 M (by rw [hq] at hM;show _+4*(16 - (2:Int).toNat)<=M;omega) ns;have e3:=hr3 M (by rw [hq] at hM;show _+4*(16 - (2:Int).toNat)<=M;omega) ns;have e':(aU M).Cn (dR q) l (i:Int) false ns=some (eY t h1,(j:Int),false,ns):=e;have e2':(aU M).vD (dR q) l ((j+1:Nat):Int) false ns=some (eY u h2,(j2:Int),false,ns):=e2;have e3':(aU M).vD (dR q) l ((j2+1:Nat):Int) false ns=some (eY v h3,(j3:Int),false,ns):=e3;have c65:(kd l j !=65)=false:=by rw [ha];rfl
 show Oi M (aU M) (dR q) l (i:Int) false ns=_;unfold Oi;rw [e'];simp only [aB,aI,dX,c65,vO (Au hj) (show l.length<=100000 by omega),e2',abS ns (show j2<=100000 by omega) hb,e3'];rfl
theorem azV {k:Int} (hk:(k==56||(k==55||k==61))=true):(bif (k !=55) then bif (k !=56) then some (k !=61) else some false else some false)=some false:=by
 rw [bne,bne,bne];revert hk;cases (k==55)<;>cases (k==56)<;>cases (k==61)<;>simp
theorem azW (hq:q.Level=11) {i j:Nat} {t:av} {h1:Bool} (hk:(kd l i==56||(kd l i==55||kd l i==61))=true) (hi:i < l.length) (hr:Rd l (bq q 11) (i+1) j t h1) (hz:aV t<=1000):Rd l q i j ⟨11,kd l i,[],[],[t]⟩ false:=by
 intro M hM;obtain ⟨M,rfl⟩:∃ m,M=m+1:=⟨M - 1,ah⟩
 refine nR hq fun ns=>?_;have n1:(11:Int).toNat=11:=rfl;have e:=hr M (by rw [hq] at hM;show _+4*(16 - (11:Int).toNat)<=M;omega) ns;have e':(aU M).sS (dR q) l ((i+1:Nat):Int) false ns=some (eY t h1,(j:Int),false,ns):=e;show Hy M (aU M) (dR q) l (i:Int) false ns=_;unfold Hy;rw [dX];simp only [aB,aI,azV l hl hk,vO (Au hi) (show l.length<=100000 by omega),e'];rfl
theorem aoo (hq:q.Level=12) {i j j2:Nat} {t u:av} {h1 h2:Bool} (hr:Rd l (bq q 13) i j t h1) (ha:kd l j=60) (hij:i<=j) (hj:j < l.length) (hr2:Rd l (bq q 11) (j+1) j2 u h2) (hz:aV t+aV u<=1000):Rd l q i j2 ⟨12,60,[],[],[t,u]⟩ false:=by
 intro M hM;obtain ⟨M,rfl⟩:∃ m,M=m+1:=⟨M - 1,ah⟩
 refine nR hq fun ns=>?_;have n1:(11:Int).toNat=11:=rfl;have n2:(12:Int).toNat=12:=rfl;have n3:(13:Int).toNat=13:=rfl;have e:=hr M (by rw [hq] at hM;show _+4*(16 - (13:Int).toNat)<=M;omega) ns;have e2:=hr2 M (by rw [hq] at hM;show _+4*(16 - (11:Int).toNat)<=M;omega) ns;have e':(aU M).Cj l (i:Int) false ns=some (eY t h1,(j:Int),false,ns):=e;have e2':(aU M).sS (dR q) l ((j+1:Nat):Int) false ns=some (eY u h2,(j2:Int),false,ns):=e2;have c60:(kd l j !=60)=false:=by rw [ha];rfl
 show NY M (aU M) (dR q) l (i:Int) false ns=_;unfold NY;rw [e'];simp only [aB,aI,dX,c60,vO (Au hj) (show l.length<=100000 by omega),e2'];rfl
theorem azY (hq:q.Level=11) {i j j2:Nat} {t u:av} {h1 h2:Bool} (hk:(kd l i==56||(kd l i==55||kd l i==61))=false) (hr:Rd l (bq q 13) i j t h1) (ha:kd l j=60) (hij:i<=j) (hj:j < l.length) (hr2:Rd l (bq q 11) (j+1) j2 u h2) (hz:aV t+aV u<=1000):Rd l q i j2 ⟨12,60,[],[],[t,u]⟩ false:=by
 intro M hM;obtain ⟨M,rfl⟩:∃ m,M=m+1:=⟨M - 1,ah⟩
 refine nR hq fun ns=>?_;have n1:(11:Int).toNat=11:=rfl;have n2:(12:Int).toNat=12:=rfl;have e:=aoo l hl (bq q 12) rfl hr ha hij hj hr2 hz M (by rw [hq] at hM;show _+4*(16 - (12:Int).toNat)<=M;omega) ns;have e':(aU M).Ck (dR q) l (i:Int) false ns=some (eY ⟨12,60,[],[],[t,u]⟩ false,(j2:Int),false,ns):=e;show Hy M (aU M) (dR q) l (i:Int) false ns=_;unfold Hy;rw [dX];simp only [aB,aI,aog hk,aM,e']
theorem azZ (hq:q.Level=15) {i j:Nat} {t:av} {h1:Bool} (ha:kd l i=32) (hi:i < l.length) (hr:Rd l iA (i+1) j t h1) (hb:kd l j=33) (hj:j < l.length):Rd l q i (j+1) t true:=by
 intro M hM;obtain ⟨M,rfl⟩:∃ m,M=m+1:=⟨M - 1,ah⟩
 refine nR hq fun ns=>?_;have n1:(1:Int).toNat=1:=rfl;have e:=hr M (by rw [hq] at hM;show _+4*(16 - (1:Int).toNat)<=M;omega) ns;have e':(aU M).ug ⟨false,false⟩ l ((i+1:Nat):Int) false ns=some (eY t h1,(j:Int),false,ns):=e;show wV M (aU M) l (i:Int) false ns=_;unfold wV;rw [aI,dX,aB,ha];show Option.bind ((aU M).ug ⟨false,false⟩ l (IntKind.wrap .i64<|(i:Int)+1) false ns) _=_;rw [vO (Au hi) (show l.length<=100000 by omega),e',aB];dsimp only;rw [abS ns (show j<=100000 by omega) hb];rfl
theorem aAa {M:Nat} {i j:Nat} {t:av} {h1:Bool} {ns:List (List UInt8)} (h6:kd l i=6) (e:(aU<|M+2).sQ l (i:Int) false ns=some (eY t h1,(j:Int),false,ns)):(aU M).zV l (i:Int) false ns=some (eY t h1,(j:Int),false,ns):=by
 have ef:DN (M+1) (aU<|M+1) l (i:Int) false ns=some (eY t h1,(j:Int),false,ns):=e;unfold DN at ef;have XL:(kd l i !=68)=true:=by rw [h6];rfl
 rw [dX] at ef;simp only [aB,aI,XL,aM] at ef;rw [aoa] at ef;have ep:wV M (aU M) l (i:Int) false ns=some (eY t h1,(j:Int),false,ns):=ef;unfold wV at ep;rw [aI,dX,aB,h6] at ep;have ep:Option.bind ((aU M).zV l (i:Int) false ns) (fun vo=>some (vo.1,vo.2.1,vo.2.2.1,vo.2.2.2))=some (eY t h1,(j:Int),false,ns):=ep;rw [aoa] at ep;exact ep
theorem agM {M i j:Nat} {t:av} {h1:Bool} (ns:List (List UInt8)) (hi:i < l.length) (hk:(kd l (i+1)==6||kd l (i+1)==68)=true) (hr:Rd l (bq q 14) (i+1) j t h1) (hM:1100000+100*(l.length - (i+1))+10<=M):WL (M+1) (aU<|M+1) l (i:Int) false ns=some ((⟨⟨9,kd l i,[],[],[t]⟩,false⟩:fu),(j:Int),false,ns):=by
 have n2:(14:Int).toNat=14:=rfl;have el:(aU<|M+1).NU l ((i+1:Nat):Int) false ns=some (eY t h1,(j:Int),false,ns):=by
  show WK M (aU M) l ((i+1:Nat):Int) false ns=_;unfold WK;rw [aI,dX,aB];cases h68:kd l (i+1)==68 with
  | true=>
   have e:=hr M (by show _+4*(16 - (14:Int).toNat)<=M;omega) ns;have e':(aU M).sQ l ((i+1:Nat):Int) false ns=some (eY t h1,(j:Int),false,ns):=e;rw [aM,e'];rfl
  | false=>
   rw [h68,Bool.or_false] at hk;have e:=hr (M+2) (by show _+4*(16 - (14:Int).toNat)<=M+2;omega) ns;have e':(aU<|M+2).sQ l ((i+1:Nat):Int) false ns=some (eY t h1,(j:Int),false,ns):=e;rw [aI,aB,hk,aM,aAa l hl (eq_of_beq hk) e'];rfl
 unfold WL;rw [dX,aB,vO (Au hi) (show l.length<=100000 by omega),el];rfl
theorem aAb (hq:q.Level=13) {i j:Nat} {t:av} {h1:Bool} (hs:(kd l i==51||kd l i==52)=true) (hi:i < l.length) (hk:(kd l (i+1)==6||kd l (i+1)==68)=true) (hr:Rd l (bq q 14) (i+1) j t h1) (hz:aV t<=1000):Rd l q i j ⟨9,kd l i,[],[],[t]⟩ false:=by
 intro M hM;obtain ⟨M,rfl⟩:∃ m,M=m+3:=⟨M - 3,ah⟩
 refine nR hq fun ns=>?_;have n1:(13:Int).toNat=13:=rfl;have e:=agM l hl q (M:=M) ns hi hk hr (by rw [hq,n1] at hM;omega);have e:(aU<|M+2).zW l (i:Int) false ns=_:=e;show Hw (M+2) (aU<|M+2) l (i:Int) false ns=_;unfold Hw;rw [dX];simp only [aB,lF,aM,OC,hs,e];rfl
theorem aAc (hq:q.Level=13) {i j:Nat} {t:av} (hr:Rd l (bq q 14) i j t false) (hL:iG t.kind=true) (hk:(kd l i==51||kd l i==52)=false) (hs:(kd l j==51||kd l j==52)=true) (hij:i<=j) (hj:j < l.length) (hz:aV t<=1000):Rd l q i (j+1) ⟨10,kd l j,[],[],[t]⟩ false:=by
 intro M hM;obtain ⟨M,rfl⟩:∃ m,M=m+1:=⟨M - 1,ah⟩
 refine nR hq fun ns=>?_;have n1:(13:Int).toNat=13:=rfl;have n2:(14:Int).toNat=14:=rfl;have e:=hr M (by rw [hq] at hM;show _+4*(16 - (14:Int).toNat)<=M;omega) ns;have e':(aU M).sQ l (i:Int) false ns=some (⟨t,true⟩,(j:Int),false,ns):=by
  have e:_=some ((⟨t,!false&&iG t.kind⟩:fu),(j:Int),false,ns):=e;rw [hL] at e;exact e
 show Hw M (aU M) l (i:Int) false ns=_;unfold Hw;rw [dX];simp only [aB,lF,aM,OC,hk,aI,e',mI,dX,hs,vO (Au hj)<|show l.length<=100000 by omega];rfl
theorem aAd (hq:q.Level=14) {i j:Nat} {t:av} {h1:Bool} (ha:kd l i=68) (hi:i < l.length) (hk:(kd l (i+1)==51||kd l (i+1)==52)=false) (hr:Rd l (bq q 14) (i+1) j t h1) (hz:aV t<=1000):Rd l q i j ⟨6,0,[],[],[t]⟩ false:=by
 intro M hM;obtain ⟨M,rfl⟩:∃ m,M=m+1:=⟨M - 1,ah⟩
 refine nR hq fun ns=>?_;have n2:(14:Int).toNat=14:=rfl;have e:=hr M (by rw [hq] at hM;show _+4*(16 - (14:Int).toNat)<=M;omega) ns;have e':(aU M).sQ l ((i+1:Nat):Int) false ns=some (eY t h1,(j:Int),false,ns):=e;have XL:(kd l i !=68)=false:=by rw [ha];rfl
 show DN M (aU M) l (i:Int) false ns=_;unfold DN;rw [dX];simp only [aB,aI,XL,vO (Au hi) (show l.length<=100000 by omega),dX,OC,hk,e'];cases t;rfl
theorem aAe (hq:q.Level=14) {i j:Nat} {t:av} {h1:Bool} (ha:kd l i=68) (hi:i+1 < l.length) (hs:(kd l (i+1)==51||kd l (i+1)==52)=true) (hk:(kd l (i+1+1)==6||kd l (i+1+1)==68)=true) (hr:Rd l (bq q 14) (i+1+1) j t h1) (hz:aV t<=900):Rd l q i j ⟨6,0,[],[],[⟨9,kd l<|i+1,[],[],[t]⟩]⟩ false:=by
 intro M hM;obtain ⟨M,rfl⟩:∃ m,M=m+3:=⟨M - 3,ah⟩
 refine nR hq fun ns=>?_;have n2:(14:Int).toNat=14:=rfl;have e:=agM l hl q (M:=M) (i:=i+1) ns hi hk hr (by rw [hq,n2] at hM;omega);have e:(aU<|M+2).zW l ((i+1:Nat):Int) false ns=_:=e;have XL:(kd l i !=68)=false:=by rw [ha];rfl
 show DN (M+2) (aU<|M+2) l (i:Int) false ns=_;unfold DN;rw [dX];simp only [aB,aI,XL,vO (show i<=l.length by omega) (show l.length<=100000 by omega),dX,OC,hs,aM,e];rfl
theorem aAf (hq:q.Level=15) {i:Nat} (k:Int) (hk:k=3\/k=4\/k=5) (ha:kd l i=k) (hi:i < l.length):Rd l q i (i+1) ⟨k - 1,0,l[i].Text,[],[]⟩ false:=by
 intro M hM;obtain ⟨M,rfl⟩:∃ m,M=m+1:=⟨M - 1,ah⟩
 refine nR hq fun ns=>?_;show wV M (aU M) l (i:Int) false ns=_;unfold wV;rw [aI,dX,aB,ha,OG false ns hi ah];rcases hk with rfl|rfl|rfl<;>rfl
theorem aAg (hq:q.Level=15) {i:Nat} (ha:kd l i=6) (hi:i < l.length) (hn:kd l (i+1)≠34):Rd l q i (i+1) ⟨1,0,l[i].Text,[],[]⟩ false:=by
 intro M hM;obtain ⟨M,rfl⟩:∃ m,M=m+2:=⟨M - 2,ah⟩
 refine nR hq fun ns=>?_;have c34:(kd l (i+1)==34)=false:=by simpa using hn
 have e:(aU<|M+1).zV l (i:Int) false ns=some (eY ⟨1,0,l[i].Text,[],[]⟩ false,((i+1:Nat):Int),false,ns):=by
  show NW M (aU M) l (i:Int) false ns=_;unfold NW;rw [OG false ns hi ah,aB];dsimp only;rw [dX,aB,c34];rfl
 show wV (M+1) (aU<|M+1) l (i:Int) false ns=_;unfold wV;rw [aI,dX,aB,ha];show Option.bind ((aU<|M+1).zV l (i:Int) false ns) _=_;rw [e];rfl
end
def Lc (l:List aG) (en:Int):Nat->Nat->List av->Prop
 | _,_,[]=>False
 | i,j,[t]=>∃ (h:Bool) (k:Nat),Rd l iA i k t h/\i < k/\k < l.length/\kd l k=en/\j=k+1
 | i,j,t::u::ts=>∃ (h:Bool) (k f:Nat),Rd l iA i k t h/\i < k/\k < l.length/\kd l k=36/\Ln l (k+1) f/\Lc l en f j (u::ts)
section
variable (l:List aG) (hl:l.length<=3000)
include hl
theorem aop (en:Int) (hen:en≠36) (M:Nat) (ns:List (List UInt8)):∀ (ts:List av) (i j n:Nat) (parts:List av),Lc l en i j ts->parts.length+ts.length<=6->ts.length<=n->1100000+100*(l.length - i)+60<=M->∃ k:Nat,j=k+1/\k < l.length/\kd l k=en/\KF M (aU M) l n (⟨false,false⟩,(i:Int),false,parts,ns)=some (parts++ts,(k:Int),false,ns)
 | [],i,j,n,parts,h,_,_,_=>by cases h
 | [t],i,j,n,parts,h,hp,hn,hM=>by
  obtain ⟨hh,k,hr,hik,hk,he,rfl⟩:=h;obtain ⟨n,rfl⟩:∃ m,n=m+1:=⟨n - 1,by simp at hn;omega⟩
  have e:=hr M (by show _+4*(16 - (1:Int).toNat)<=M;have:(1:Int).toNat=1:=rfl;omega) ns;have e':(aU M).ug ⟨false,false⟩ l (i:Int) false ns=some (eY t hh,(k:Int),false,ns):=e;have c36:(kd l k !=36)=true:=by rw [he];simpa using hen
  simp only [LJ] at hp;refine ⟨k,rfl,hk,he,?_⟩;rw [KF];simp only [lF,aM,e',aB];rw [pG bF,aB,aI,dX,aB,aB,c36,aM];rfl
 | t::u::ts,i,j,n,parts,h,hp,hn,hM=>by
  obtain ⟨hh,k,f,hr,hik,hk,he,g1,hrest⟩:=h;have gl:=g1.1;simp only [kF] at hp hn;obtain ⟨n,rfl⟩:∃ m,n=m+1:=⟨n - 1,ah⟩
  have e:=hr M (by show _+4*(16 - (1:Int).toNat)<=M;have:(1:Int).toNat=1:=rfl;omega) ns;have e':(aU M).ug ⟨false,false⟩ l (i:Int) false ns=some (eY t hh,(k:Int),false,ns):=e;have c36:(kd l k !=36)=false:=by rw [he];rfl
  obtain ⟨k2,k2a,k2b,k2c,ih⟩:=aop en hen M ns (u::ts) f j n (parts++[t]) hrest bF bF ah;have c6:((((parts++[t]).length:Nat):Int)==6)=false:=by
   simp;omega
  refine ⟨k2,k2a,k2b,k2c,?_⟩;rw [KF];simp only [lF,aM,e',aB];rw [pG bF,aB,aI,dX,aB,aB,c36,aI];have c6':((((parts++[(eY t hh).tree]).length:Nat):Int)==6)=false:=c6;rw [c6',aI,vO (Au hk) (show l.length<=100000 by omega),agW l hl ns ah (show k+1<=l.length by omega) g1,aB];refine Gr ih ?_;simp
theorem agZ (en:Int) (hen:en=33\/en=35) (M:Nat) (ns:List (List UInt8)) (ts:List av) (i j:Nat) (h:Lc l en i j ts) (ht:ts.length<=6) (hne:kd l i≠en\/en=35) (hM:1100000+100*(l.length - i)+60<=M):Oe (M+1) (aU<|M+1) en l (i:Int) false ns=some (ts,(j:Int),false,ns):=by
 obtain ⟨k,rfl,hk,he,e⟩:=aop l hl en ah M ns ts i j M [] h (by simpa using ht) ah hM;have e':(aU<|M+1).NV ⟨false,false⟩ l (i:Int) false ns=some (ts,(k:Int),false,ns):=e;have hc:(bif (kd l i==en) then some (en==33) else some false)=some false:=by
  rcases hne with h|h
  .have:(kd l i==en)=false:=by simpa using h
   rw [this];rfl
  .subst h;cases (kd l i==35)<;>rfl
 unfold Oe;rw [dX,aB,hc,aB,aI,e',aB];dsimp only;rw [abS ns (show k<=100000 by omega) he];rfl
theorem aAl (q:aK) (hq:q.Level=15) {i j:Nat} (ts:List av) (ha:kd l i=6) (hb:kd l (i+1)=34) (hi:i+1 < l.length) (h:Lc l 35 (i+2) j ts) (ht:ts.length<=6) (hz:aS ts<=1000):Rd l q i j ⟨5,0,(l[i]' ah).Text,[],ts⟩ false:=by
 intro M hM;obtain ⟨M,rfl⟩:∃ m,M=m+4:=⟨M - 4,ah⟩
 refine nR hq fun ns=>?_;have n15:(15:Int).toNat=15:=rfl;rw [hq,n15] at hM;have e0:=agZ l hl 35 (.inr rfl) M ns ts (i+2) j h ht (.inr rfl) ah;have XM:(aU<|M+2).Bb 35 l ((i+2:Nat):Int) false ns=_:=e0;have c34:(kd l (i+1)==34)=true:=by rw [hb];rfl
 have e:(aU<|M+3).zV l (i:Int) false ns=some (eY ⟨5,0,(l[i]' ah).Text,[],ts⟩ false,(j:Int),false,ns):=by
  show NW (M+2) (aU<|M+2) l (i:Int) false ns=_;unfold NW;rw [OG false ns ah ah,aB];dsimp only;rw [dX,aB,c34,aM,vO (show i+1<=l.length by omega) (show l.length<=100000 by omega),XM];rfl
 show wV (M+3) (aU<|M+3) l (i:Int) false ns=_;unfold wV;rw [aI,dX,aB,ha];show Option.bind ((aU<|M+3).zV l (i:Int) false ns) _=_;rw [e];rfl
theorem aoq (q:aK) (hq:q.Level=15) {i j:Nat} (k:Int) (hk:k=7\/k=8) (ts:List av) (ha:kd l i=k) (hb:kd l (i+1)=32) (hi:i+2 < l.length) (h:ts=[]/\kd l (i+2)=33/\j=i+3\/kd l (i+2)≠33/\Lc l 33 (i+2) j ts) (ht:ts.length<=6) (hz:aS ts<=1000):Rd l q i j ⟨k,0,(l[i]' ah).Text,[],ts⟩ false:=by
 intro M hM;obtain ⟨M,rfl⟩:∃ m,M=m+3:=⟨M - 3,ah⟩
 refine nR hq fun ns=>?_;have n15:(15:Int).toNat=15:=rfl;rw [hq,n15] at hM;have e0:Oe (M+1) (aU<|M+1) 33 l ((i+2:Nat):Int) false ns=some (ts,(j:Int),false,ns):=by
  rcases h with ⟨rfl,h2,rfl⟩|⟨h2,h3⟩
  .unfold Oe;rw [dX,aB,h2,vO (show i+2<=l.length by omega)<|show l.length<=100000 by omega];rfl
  .exact agZ l hl 33 (.inl rfl) M ns ts (i+2) j h3 ht (.inl h2) ah
 have XM:(aU<|M+2).Bb 33 l ((i+2:Nat):Int) false ns=_:=e0;have hk2:∀ v:Int,Sl (M+2) (aU<|M+2) l (((l[i]' ah).Text,((i+1:Nat):Int)),false,ns,v)=some ((⟨⟨v,0,(l[i]' ah).Text,[],ts⟩,false⟩:fu),(j:Int),false,ns):=fun v=>by
  unfold Sl;dsimp only;rw [abS ns (show i+1<=100000 by omega) hb,aB];dsimp only;rw [aM,XM];rfl
 show wV (M+2) (aU<|M+2) l (i:Int) false ns=_;unfold wV;rw [aI,dX,aB,ha];have c32:(kd l (i+1) !=32)=false:=by rw [hb];rfl
 rcases hk with rfl|rfl
 .show Fy (M+2) (aU<|M+2) l (7,(i:Int),false,ns,true)=_;unfold Fy;dsimp only;rw [aM,OG false ns ah ah,aB];exact hk2 7
 .show Fy (M+2) (aU<|M+2) l (8,(i:Int),false,ns,true)=_;unfold Fy;dsimp only;rw [aM,OG false ns ah ah,aB];dsimp only;have hno:(bif ((l[i]' ah).Text==[108,101,110,103,116,104]) then (dY l ((i+1:Nat):Int) false ns).bind fun tX=>some (tX !=32) else some false)=some false:=by
   rw [dX,aB,c32];cases ((l[i]' ah).Text==[108,101,110,103,116,104])<;>rfl
  rw [hno];exact hk2 8
theorem aAm (q:aK) (hq:q.Level=15) {i:Nat} (ha:kd l i=8) (hi:i < l.length) (hb:kd l (i+1)≠32) (hx:l[i].Text=[108,101,110,103,116,104]):Rd l q i (i+1) ⟨8,0,l[i].Text,[],[]⟩ false:=by
 intro M hM;obtain ⟨M,rfl⟩:∃ m,M=m+1:=⟨M - 1,ah⟩
 refine nR hq fun ns=>?_;have c32:(kd l (i+1) !=32)=true:=by simpa using hb
 show wV M (aU M) l (i:Int) false ns=_;unfold wV;rw [aI,dX,aB,ha];show Fy M (aU M) l (8,(i:Int),false,ns,true)=_;unfold Fy;dsimp only;rw [aM,OG false ns hi ah,aB];dsimp only;have hno:(bif (l[i].Text==[108,101,110,103,116,104]) then (dY l ((i+1:Nat):Int) false ns).bind fun tX=>some (tX !=32) else some false)=some true:=by
  rw [dX,aB,c32,hx];rfl
 rw [hno];rfl
end
def Sg (l:List aG) (i:Nat) (x:List aG):Prop:=∃ r,l.drop i=x++r
def Sg.left {l:List aG} {i:Nat} {x y:List aG} (h:Sg l i (x++y)):Sg l i x:=by
 obtain ⟨r,hr⟩:=h;exact ⟨y++r,by rw [hr,nU]⟩
def Sg.right {l:List aG} {i:Nat} {x y:List aG} (h:Sg l i (x++y)):Sg l (i+x.length) y:=by
 obtain ⟨r,hr⟩:=h;exact ⟨r,by rw [<- Ud,hr,nU,List.drop_left' rfl]⟩
def Sg.tl {l:List aG} {i:Nat} {t:aG} {y:List aG} (h:Sg l i (t::y)):Sg l (i+1) y:=Sg.right (x:=[t]) h
def Sg.hd {l:List aG} {i:Nat} {t:aG} {y:List aG} (h:Sg l i (t::y)):∃ hi:i < l.length,l[i]=t:=by
 obtain ⟨r,hr⟩:=h;have hi:i < l.length:=by
  have:=congrArg List.length hr;simp at this;omega
 refine ⟨hi,?_⟩;rw [Jj hi] at hr;exact (List.cons.inj hr).1
def Sg.kd {l:List aG} {i:Nat} {t:aG} {y:List aG} (h:Sg l i (t::y)):kd l i=t.Kind:=by
 obtain ⟨hi,e⟩:=h.hd;rw [Cq hi,e]
def Sg.len {l:List aG} {i:Nat} {x:List aG} (h:Sg l i x) (hi:i<=l.length):i+x.length<=l.length:=by
 obtain ⟨r,hr⟩:=h;have:=congrArg List.length hr;simp at this;omega
def Sg.all (l:List aG):Sg l 0 l:=⟨[],aA⟩
def jQ (q:aK) (k:Int):Prop:=k≠34/\∀ lv:Int,q.Level<=lv->cont lv q k=false
def jQ.up {q q':aK} {k:Int} (h:jQ q k) (hl:q.Level<=q'.Level) (h1:q'.aY=q.aY) (h2:q'.bg=q.bg):jQ q' k:=
 ⟨h.1,fun lv hv=>by
  have:=h.2 lv ah;unfold cont at this ⊢;rw [h1,h2];exact this⟩
def anq (q:aK):jQ q 0:=⟨aJ,fun lv _=>by
 unfold cont;by_cases h1:lv=1
 .subst h1;rfl
 have e1:(lv==1)=false:=by simpa using h1
 by_cases h2:lv=2
 .subst h2;rfl
 have e2:(lv==2)=false:=by simpa using h2
 rw [e1,e2];cases (lv==5)<;>cases (lv==8)<;>cases (lv==12)<;>cases (lv==13)<;>cases (lv==11)<;>cases (lv==14)<;>cases (lv==15)<;>rfl⟩
def qM (l:List aG) (i:Nat) (c:Bool):Prop:=∀ (M:Nat) (ns:List (List UInt8)),5000<=M->(bif (kd l i==32) then (NS M l (i:Int) false ns).bind fun cZ=>some cZ else some false)=some c
def InS (l:List aG) (q:aK) (i j:Nat) (t:av) (c:Nat):Prop:=∃ (nm:List UInt8) (ks:List av),t=⟨13,0,nm,[],ks⟩/\∀ (M:Nat) (ns:List (List UInt8)),1100000+100*(l.length - i)+44<=M+1->
 ∃ n,M - c<=n/\((∃ r:fu×Int×Bool×List (List UInt8),r.2.2.2=ns/\pF (aU<|M+1) 5 (dR q) l (i:Int) false ns=KI M (aU M) l n (dR q,r,(j:Int),false,nm,ks))\/
  ∃ r:List av×Int×Bool×List (List UInt8),r.2.2.2=ns/\pF (aU<|M+1) 5 (dR q) l (i:Int) false ns=KH M (aU M) l n (dR q,r,(j:Int),false,nm,ks))
def Bn (l:List aG) (q:aK) (i j:Nat) (t:av) (h:Bool) (c:Nat):Prop:=(Rd l (bq q 6) i j t h/\(q.aY=false->qM l i false))\/(h=false/\InS l q i j t c)
def aor (l:List aG) (q:aK) {i j:Nat} {t:av} {h:Bool} (hcm:q.aY=false->qM l i false) (hr:Rd l (bq q 6) i j t h):Bn l q i j t h 0:=.inl ⟨hr,hcm⟩
def aha {l:List aG} {q:aK} {i M:Nat} {ns:List (List UInt8)} {c:Bool} (hM:5000<=M) (hcm:q.aY=false->qM l i c) (hn:q.aY=true->c=false):(bif (!false) then (dY l (i:Int) false ns).bind fun iC=>bif (iC==32) then bif (!(dR q).dz) then (NS M l (i:Int) false ns).bind fun cZ=>some cZ else some false else some false else some false)=some c:=by
 rw [lF,aM,dX,aB];show (bif (kd l i==32) then bif (!q.aY) then (NS M l (i:Int) false ns).bind fun cZ=>some cZ else some false else some false)=_;cases hq:q.aY with
 | true=>rw [hn hq];cases (kd l i==32)<;>rfl
 | false=>exact hcm hq M ns hM
def OH {l:List aG} {q:aK} {j:Nat} (ns:List (List UInt8)):(bif (!false) then (dY l (j:Int) false ns).bind fun Kk=>bif (Kk==24) then some (!(dR q).dz) else some false else some false)=some (cont 5 q<|kd l j):=by
 rw [lF,aM,dX,aB];show _=some (kd l j==24&&!q.aY);cases (kd l j==24)<;>rfl
section
variable (l:List aG) (hl:l.length<=3000)
include hl
theorem aAo (q:aK) (hn:q.aY=false) {i k:Nat} (ts:List av) (hcm:qM l i true) (ha:kd l i=32) (hi:i < l.length) (h:Lc l 33 (i+1) k ts) (ht:ts.length<=6) (hne:kd l (i+1)≠33) (hk:i < k) (hk2:k+1 < l.length) (hin:kd l k=24) (hnm:kd l (k+1)=6) (hz:aS ts<=1000):Bn l q i (k+2) ⟨13,0,(l[k+1]'hk2).Text,[],ts⟩ false 0:=by
 refine .inr ⟨rfl,_,ts,rfl,fun M ns hM=>?_⟩;obtain ⟨M,rfl⟩:∃ m,M=m+2:=⟨M - 2,ah⟩
 have e0:=agZ l hl 33 (.inl rfl) M ns ts (i+1) k h ht (.inl hne) ah;have XM:(aU<|M+2).Bb 33 l ((i+1:Nat):Int) false ns=_:=e0;have hg:cont 5 q (kd l k)=true:=by show (kd l k==24&&!q.aY)=true;rw [hin,hn];rfl
 have c24:(kd l k !=24)=false:=by rw [hin];rfl
 have hnn:neN ts=some false:=by
  cases ts with
  | nil=>exact h.elim
  | cons _ _=>rfl
 refine ⟨M+2,ah,.inr ⟨(ts,(k:Int),false,ns),rfl,?_⟩⟩;show Ig (M+2) (aU<|M+2) (dR q) l (i:Int) false ns=_;unfold Ig;rw [aha ah (fun _=>hcm) (fun e=>by rw [hn] at e;cases e),aB,aM,vO (Au hi) (show l.length<=100000 by omega),XM,aB];dsimp only;have EI:(bif (!false) then (dY l (k:Int) false ns).bind fun jE=>some (jE !=24) else some false)=some false:=by rw [lF,aM,dX,aB,c24]
 rw [EI,aB,aI,OH,aB,hg,aM,hnn,aB,vO (show k<=l.length by omega) (show l.length<=100000 by omega),abT ns hk2 ah hnm,aB]
theorem aAp (q:aK) (hn:q.aY=false) {i j:Nat} {t:av} {h:Bool} {c:Nat} (hch:Bn l q i j t h c) (hc:c<=3000) (hj:j+1 < l.length) (hin:kd l j=24) (hnm:kd l (j+1)=6) (hz:aV t<=1000):Bn l q i (j+2) ⟨13,0,(l[j+1]'hj).Text,[],[t]⟩ false (c+1):=by
 refine .inr ⟨rfl,_,[t],rfl,fun M ns hM=>?_⟩;have hg:cont 5 q (kd l j)=true:=by show (kd l j==24&&!q.aY)=true;rw [hin,hn];rfl
 have n6:(6:Int).toNat=6:=rfl;rcases hch with ⟨hr,hcm⟩|⟨_,nm,ks,rfl,hs⟩
 .have e:=hr M (by show _+4*(16 - (6:Int).toNat)<=M;omega) ns;have e':(aU M).Cm (dR q) l (i:Int) false ns=some (eY t h,(j:Int),false,ns):=e;refine ⟨M,ah,.inl ⟨(eY t h,(j:Int),false,ns),rfl,?_⟩⟩;show Ig M (aU M) (dR q) l (i:Int) false ns=_;unfold Ig;rw [aha ah hcm fun _=>rfl,aB,aI,e',aB];dsimp only;rw [OH,aB,hg,aM,vO (show j<=l.length by omega) (show l.length<=100000 by omega),abT ns hj ah hnm,aB];rfl
 .obtain ⟨n,hn1,hs⟩:=hs M ns hM;obtain ⟨n,rfl⟩:∃ k,n=k+1:=⟨n - 1,ah⟩
  refine ⟨n,ah,?_⟩;rcases hs with ⟨r,hr,hs⟩|⟨r,hr,hs⟩
  .refine .inl ⟨r,hr,hs.trans ?_⟩;rw [KI,hr,OH,aB,hg,aM,vO (show j<=l.length by omega) (show l.length<=100000 by omega),abT ns hj ah hnm,aB]
  .refine .inr ⟨r,hr,hs.trans ?_⟩;rw [KH,hr,OH,aB,hg,aM,vO (show j<=l.length by omega) (show l.length<=100000 by omega),abT ns hj ah hnm,aB]
omit hl in
theorem Bn.done (q:aK) (hq:q.Level=5) {i j:Nat} {t:av} {h:Bool} {c:Nat} (hch:Bn l q i j t h c) (hc:c<=3000) (hs:cont 5 q (kd l j)=false):Rd l q i j t h:=by
 intro M hM;have n5:(5:Int).toNat=5:=rfl;have n6:(6:Int).toNat=6:=rfl;rw [hq,n5] at hM;obtain ⟨M,rfl⟩:∃ m,M=m+1:=⟨M - 1,ah⟩
 refine nR hq fun ns=>?_;rcases hch with ⟨hr,hcm⟩|⟨rfl,nm,ks,rfl,hx⟩
 .have e:=hr M (by show _+4*(16 - (6:Int).toNat)<=M;omega) ns;have e':(aU M).Cm (dR q) l (i:Int) false ns=some (eY t h,(j:Int),false,ns):=e;show Ig M (aU M) (dR q) l (i:Int) false ns=_;unfold Ig;rw [aha ah hcm fun _=>rfl,aB,aI,e',aB];dsimp only;rw [OH,aB,hs,aI]
 .obtain ⟨n,hn1,hx⟩:=hx M ns ah;obtain ⟨n,rfl⟩:∃ k,n=k+1:=⟨n - 1,ah⟩
  rcases hx with ⟨r,hr,hx⟩|⟨r,hr,hx⟩
  .rw [hx,KI,hr,OH,aB,hs,aI];rfl
  .rw [hx,KH,hr,OH,aB,hs,aI];rfl
end
def inn:Nat->List aG->Bool
 | d,[]=>d==0
 | d,t::ts=>bif mD t.Kind then inn (d+1) ts else bif oz t.Kind then !(d==0)&&inn (d - 1) ts else (bif d==0&&t.Kind==36 then false else inn d ts)
def abW (l:List aG) (M:Nat) (i:Int) (ns:List (List UInt8)) (L:List aG) (kb:(List aG×Int×Int)->Option Bool) (j D:Nat) (hj:j<=3000) (hD:1<=D):Hu M l i false ns kb (L,(j:Int),(D:Int))=kb (L,(D:Int),((j+1:Nat):Int)):=by
 unfold Hu;dsimp only;rw [uL (show¬(D:Int)<=0 by omega),aI,vO hj ah]
def abX (l:List aG) (hl:l.length<=3000) (M i:Nat) (ns:List (List UInt8)) (L:List aG) (hL:L=l.drop i) (r:Bool):∀ (x:List aG) (d j n:Nat) (c:aG),Sg l (i+j) (x++[c])->oz c.Kind=true/\r=false\/c.Kind=36/\r=true->inn d x=true->x.length < n->d+x.length<=4000->zU M l (i:Int) false ns n (L,((d+1:Nat):Int),(j:Int))=some r
 | [],d,j,n,c,hs,hc,hi,hn,hd=>by
  obtain ⟨n,rfl⟩:∃ m,n=m+1:=⟨n - 1,by simp at hn;omega⟩
  have hs:Sg l (i+j) (c::[]):=hs;obtain ⟨hj,hk⟩:=hs.hd;have hd0:d=0:=by simpa [inn] using hi
  subst hd0;have OI:j < L.length:=by rw [hL];simp;omega
  have XO:L[j]=c:=by subst hL;rw [List.getElem_drop];exact hk
  rw [zU,iT OI,aM,dx OI,aB,XO,opI,aB];rcases hc with ⟨hc,rfl⟩|⟨hc,rfl⟩
  .have hop:mD c.Kind=false:=by
    cases h:mD c.Kind with
    | false=>rfl
    | true=>rw [(Xm h).1] at hc;cases hc
   rw [hop,aI,clI,aB,hc,aM];unfold Hu;rfl
  .rw [hc,show mD 36=false from rfl,aI,clI,aB,show oz 36=false from rfl,aI];rfl
 | t::x,d,j,n,c,hs,hc,hi,hn,hd=>by
  simp only [kF] at hn hd;obtain ⟨n,rfl⟩:∃ m,n=m+1:=⟨n - 1,ah⟩
  have hs:Sg l (i+j) (t::(x++[c])):=hs;obtain ⟨hj,hk⟩:=hs.hd;have htl:Sg l (i+(j+1)) (x++[c]):=hs.tl;have OI:j < L.length:=by rw [hL];simp;omega
  have XO:L[j]=t:=by subst hL;rw [List.getElem_drop];exact hk
  rw [inn] at hi;rw [zU,iT OI,aM,dx OI,aB,XO,opI,aB];cases ho:mD t.Kind with
  | true=>
   rw [ho,aM] at hi;rw [aM,wrap64 ah ah,show ((d+1:Nat):Int)+1=((d+1+1:Nat):Int) by omega,abW l M i ns L _ j (d+1+1) ah ah];exact abX l hl M i ns L hL r x (d+1) (j+1) n c htl hc hi ah ah
  | false=>
   rw [ho,aI] at hi;rw [aI,clI,aB];cases hcl:oz t.Kind with
   | true=>
    rw [hcl,aM] at hi;cases d with
    | zero=>cases hi
    | succ d=>
     have hi:inn d x=true:=by simpa using hi
     rw [aM,wrap64 ah ah,show ((d+1+1:Nat):Int) - 1=((d+1:Nat):Int) by omega,abW l M i ns L _ j (d+1) ah ah];exact abX l hl M i ns L hL r x d (j+1) n c htl hc hi ah ah
   | false=>
    rw [hcl,aI] at hi;have h36:(d==0&&t.Kind==36)=false:=by
     cases h:(d==0&&t.Kind==36) with
     | true=>rw [h,aM] at hi;cases hi
     | false=>rfl
    rw [h36,aI] at hi;have hb:(bif (t.Kind==36) then some (((d+1:Nat):Int)==1) else some false)=some false:=by
     cases h:t.Kind==36 with
     | false=>rfl
     | true=>
      rw [h,BG] at h36;have: ¬d=0:=by simpa using h36
      have:(((d+1:Nat):Int)==1)=false:=bF;rw [this];rfl
    rw [aI,hb,aB,aI,abW l M i ns L _ j (d+1) ah ah];exact abX l hl M i ns L hL r x d (j+1) n c htl hc hi ah ah
def aos (l:List aG) (hl:l.length<=3000) (i:Nat) (o c:aG) (x:List aG) (r:Bool) (hs:Sg l i (o::(x++[c]))) (ho:o.Kind=32) (hc:oz c.Kind=true/\r=false\/c.Kind=36/\r=true) (hi:inn 0 x=true):qM l i r:=by
 intro M ns hM;obtain ⟨hj,hk⟩:=hs.hd;have hlen:=hs.tl.len ah;simp only [jq,LJ] at hlen;obtain ⟨M,rfl⟩:∃ m,M=m+1:=⟨M - 1,ah⟩
 have hkd:kd l i=32:=by rw [Cq hj,hk,ho]
 have hcut:=akj (l:=l) (a:=i) (b:=l.length) ah (eD _);have ht:(l.drop i).take (l.length - i)=l.drop i:=aiJ aA;rw [ht] at hcut;have OI:0 < (l.drop i).length:=bF;have XO:(l.drop i)[0]=o:=by rw [List.getElem_drop];exact hk
 have e0:ix (l.drop i) 0=some (l.drop i)[0]:=dx OI;rw [hkd,show ((32:Int)==32)=true from rfl,aM];unfold NS;rw [hcut,aB,zU,mH (show (0:Int) < ((l.drop i).length:Int) by omega),aM,e0,aB,XO,opI,ho,aB,show mD 32=true from rfl,aM];have:=abW l (M+1) (i:Int) ns (l.drop i) (zU (M+1) l (i:Int) false ns M) 0 1 ah ah;have this:Hu (M+1) l (i:Int) false ns (zU (M+1) l (i:Int) false ns M) (l.drop i,0,IntKind.wrap .i64<|0+1)=_:=this;rw [this,abX l hl (M+1) i ns (l.drop i) rfl r x 0 (0+1) M c hs.tl hc hi ah ah];rfl
def aAq (l:List aG) (hl:l.length<=3000) (i:Nat) (o c:aG) (x:List aG) (hs:Sg l i (o::(x++[c]))) (ho:o.Kind=32) (hc:oz c.Kind=true) (hi:inn 0 x=true):qM l i false:=aos l hl i o c x false hs ho (.inl ⟨hc,rfl⟩) hi
def aAr (l:List aG) (hl:l.length<=3000) (i:Nat) (o c:aG) (x:List aG) (hs:Sg l i (o::(x++[c]))) (ho:o.Kind=32) (hc:c.Kind=36) (hi:inn 0 x=true):qM l i true:=aos l hl i o c x true hs ho (.inr ⟨hc,rfl⟩) hi
def aAs (l:List aG) (i:Nat) (h:kd l i≠32):qM l i false:=by
 intro M ns hM;have:(kd l i==32)=false:=by simpa using h
 rw [this];rfl
def OJ {lv most:Int} {sd:Int×Int} (hc:Ee lv most sd) (hm:0<=most) {l:List aG} {q:aK} {i j:Nat} {t:av} {h:Bool} (hr:Rd l (bq q<|lv+1) i j t h) (hn:cont lv q (kd l j)=false):Rd l (bq q lv) i j t h:=
 Ch.done hc (q:=bq q lv) rfl (Ch.first hc (q:=bq q lv) hr) (by simpa using hm) (.inl hn)
def aot {l:List aG} {q:aK} {i j:Nat} {t:av} {h:Bool} (lv:Int) (h1:1<=lv) (h10:lv<=10) (hsz:aV t<=400) (hr:Rd l (bq q<|lv+1) i j t h) (hn:cont lv q (kd l j)=false) (hcm:lv=5->q.aY=false->qM l i false):Rd l (bq q lv) i j t h:=by
 have:lv=1\/lv=2\/lv=3\/lv=4\/lv=5\/lv=6\/lv=7\/lv=8\/lv=9\/lv=10:=ah;rcases this with rfl|rfl|rfl|rfl|rfl|rfl|rfl|rfl|rfl|rfl
 .exact azF l (bq q 1) i j t h rfl hr hn hsz
 .exact azG l (bq q 2) i j t h rfl hr hn
 .exact OJ (.inl ⟨rfl,rfl,rfl⟩) ah hr hn
 .exact OJ (.inr<|.inl ⟨rfl,rfl,rfl⟩) ah hr hn
 .exact Bn.done l (bq q 5) rfl (aor l (bq q 5) (hcm rfl) hr) ah hn
 .exact OJ (.inr<|.inr<|.inl ⟨rfl,rfl,rfl⟩) ah hr hn
 .exact OJ (.inr<|.inr<|.inr<|.inl ⟨rfl,rfl,rfl⟩) ah hr hn
 .exact OJ (.inr<|.inr<|.inr<|.inr<|.inl ⟨rfl,rfl,rfl⟩) ah hr hn
 .exact OJ (.inr<|.inr<|.inr<|.inr<|.inr<|.inl ⟨rfl,rfl,rfl⟩) ah hr hn
 .exact OJ (.inr<|.inr<|.inr<|.inr<|.inr<|.inr ⟨rfl,rfl,rfl⟩) ah hr hn
def down {l:List aG} {q:aK} {i j:Nat} {t:av} {h:Bool} (hsz:aV t<=400) (hcm:q.aY=false->qM l i false):∀ (n:Nat) (b:Int),1<=b->b+n<=11->Rd l (bq q<|b+n) i j t h->(∀ lv:Int,b<=lv->cont lv q (kd l j)=false)->Rd l (bq q b) i j t h
 | 0,b,_,_,hr,_=>by
  have:b+((0:Nat):Int)=b:=ah;rw [this] at hr;exact hr
 | n+1,b,h1,h2,hr,hn=>by
  have hr':Rd l (bq q<|(b+1)+(n:Int)) i j t h:=by
   have:b+((n+1:Nat):Int)=(b+1)+(n:Int):=ah;rw [<- this];exact hr
  exact aot b h1 ah hsz (down hsz hcm n (b+1) ah ah hr' fun lv hv=>hn lv ah) (hn b ah) fun _=>hcm
def aAt {l:List aG} {q:aK} {i j:Nat} {t:av} {h:Bool} (hr:Rd l (bq q 15) i j t h) (hk:kd l i≠68):Rd l (bq q 14) i j t h:=azJ l (bq q 14) i j t h rfl hr hk
def aAu {l:List aG} {q:aK} {i j:Nat} {t:av} {h:Bool} (hr:Rd l (bq q 14) i j t h) (hk:(kd l i==51||kd l i==52)=false) (hc:cont 13 q (kd l j)=false):Rd l (bq q 13) i j t h:=azI l (bq q 13) i j t h rfl hr hc hk
def aAv {l:List aG} {q:aK} {i j:Nat} {t:av} {h:Bool} (hr:Rd l (bq q 13) i j t h) (hc:cont 12 q (kd l j)=false):Rd l (bq q 12) i j t h:=aof l (bq q 12) i j t h rfl hr hc
def aAw {l:List aG} {q:aK} {i j:Nat} {t:av} {h:Bool} (hr:Rd l (bq q 13) i j t h) (hc:cont 12 q (kd l j)=false) (hk:(kd l i==56||(kd l i==55||kd l i==61))=false):Rd l (bq q 11) i j t h:=azH l (bq q 11) i j t h rfl hr hc hk
def OL (k:Int):Bool:=!mD k&&(!oz k&&!(k==36))
def aAx {t:aG} (h:OL t.Kind=true) (d:Nat) (y:List aG):inn d (t::y)=inn d y:=by
 unfold OL at h;simp only [dP,lU] at h;rw [inn,h.1,aI,h.2.1,aI,h.2.2,acP,aI]
def aAy {t:aG} (h:mD t.Kind=true) (d:Nat) (y:List aG):inn d (t::y)=inn (d+1) y:=by
 rw [inn,h,aM]
def aAz {t:aG} (h:oz t.Kind=true) (d:Nat) (y:List aG):inn (d+1) (t::y)=inn d y:=by
 have hop:mD t.Kind=false:=by
  cases ho:mD t.Kind with
  | false=>rfl
  | true=>rw [(Xm ho).1] at h;cases h
 rw [inn,hop,aI,h,aM];simp
end Go.Proofs.Tryz
