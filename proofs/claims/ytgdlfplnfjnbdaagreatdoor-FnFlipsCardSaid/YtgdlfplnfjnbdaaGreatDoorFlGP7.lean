/-
 Plain lemmas on the models, part 1.
-/
import Derived.Test.YtgdlfplnfjnbdaaGreatDoorFlGL1
namespace Go.Proofs.Tryz
open Go.Av
set_option maxRecDepth 100000
set_option linter.all false
def fP (s:List UInt8) (i:Nat):Int:=match s[i]? with|some b=>(b.toNat:Int)|none=>-1
def afi (b:UInt8):(b.toNat:Int) < 256:=by have:=b.toNat_lt;omega
def Tx (b:UInt8):IntKind.wrap .i64 ((b.toNat:Nat):Int)=(b.toNat:Int):=by have:=afi b;exact wrap64 ah ah
def Tz {s:List UInt8} {i:Nat} (h:i < s.length):fP s i=(s[i].toNat:Int):=by
 unfold fP;rw [cB h]
def TB {s:List UInt8} {i:Nat} (h: ¬i < s.length):fP s i= -1:=by
 unfold fP;rw [xS ah]
def Mq {s:List UInt8} {i:Nat} (h:fP s i≠ -1):i < s.length:=by
 cases rU i s.length with
 | inl h=>exact h
 | inr h'=>exact absurd (TB ah) h
def Mr (a b c:Int):lD a b c=some (decide (a>=b)&&decide (a<=c)):=by
 unfold lD;by_cases h:a>=b<;>simp [h]
def Ip (a b c:Int):jU a b c=some (decide (a>=b)&&decide (a<=c)):=by
 unfold jU;by_cases h:a>=b<;>simp [h]
def Iq (s:List UInt8) (hs:s.length<=1048576) (i:Nat):xJ s (i:Int)=some (fP s i):=by
 unfold xJ;rw [Mr,wrap64 ah ah,aD,lH (by omega:(i:Int)>=0),PX];by_cases h:i < s.length
 .rw [lH ah,jK,aM,bH h,aD,Tz h,Tx]
 .rw [uP ah,EA,aU,TB h]
def Ir (s:List UInt8) (i:Nat):uL s (i:Int)=some (fP s i):=by
 unfold uL;rw [uP (by omega: ¬(i:Int) < 0),aM,aD];by_cases h:i < s.length
 .rw [uP ah,aM,bH h,aD,Tz h,Tx]
 .rw [lH ah,aU,TB h]
def Iu (c:Int):Bool:=decide (c>=48)&&decide (c<=57)
def YD (c:Int):Ic c=some (Iu c):=by
 unfold Ic;rw [Ip];rfl
def YE (c:Int):GY c=some (Iu c):=by
 unfold GY Iu;by_cases h:c>=48<;>simp [h]
def EB (c:Int):Bool:=(decide (c>=97)&&decide (c<=122))||((decide (c>=65)&&decide (c<=90))||c==95)
def YF (c:Int):Ib c=some (EB c):=by
 unfold Ib EB;rw [Ip,Ip];cases (decide (c>=97)&&decide (c<=122))<;>cases (decide (c>=65)&&decide (c<=90))<;>rfl
def YG (c:Int):GX c=some (EB c):=by
 unfold GX EB;cases decide (c>=97)<;>cases decide (c<=122)<;>cases decide (c>=65)<;>cases decide (c<=90)<;>rfl
def Ms (c:Int):Bool:=EB c||Iu c
def afj (c:Int):LQ c=some (Ms c):=by
 unfold LQ Ms;rw [YF,YD];cases EB c<;>rfl
def afk (c:Int):KR c=some (Ms c):=by
 unfold KR Ms;rw [YG,YE];cases EB c<;>rfl
def afl {s:List UInt8} {i:Nat} (h:Iu (fP s i)=true):i < s.length:=by
 refine Mq fun e=>?_;rw [e] at h;cases h
def xU {s:List UInt8} (hs:s.length<=1048576) {i:Nat} (h:i<=s.length+1):IntKind.wrap .i64 ((i:Int)+1)=((i+1:Nat):Int):=by
 rw [wrap64 ah ah];omega
def afm (N M:Nat) (s:List UInt8) (hs:s.length<=1048576):∀ (n m i:Nat),s.length - i < n->s.length - i < m->i<=s.length->∃ r:Nat,El N n (s,(i:Int))=some (r:Int)/\DR M m (s,(i:Int))=some (r:Int)/\i<=r/\r<=s.length:=by
 intro n;induction n with
 | zero=>intro m i h;omega
 | succ n ih=>
  intro m i hn hm hi;obtain ⟨m,rfl⟩:∃ k,m=k+1:=⟨m - 1,ah⟩
  rw [El,DR,Ir,Iq s hs,aD,aD,YD,YE,aD,aD];cases h:Iu (fP s i) with
  | false=>exact ⟨i,rfl,rfl,fq _,hi⟩
  | true=>
   have:=afl h;rw [aU,aU,xU hs ah];obtain ⟨r,h1,h2,h3,h4⟩:=ih m (i+1) ah ah ah;exact ⟨r,h1,h2,ah,h4⟩
def TF (N:Nat) (s:List UInt8) (hs:s.length<=1048576) (hN:s.length < N) (i:Nat) (hi:i<=s.length):∃ r:Nat,Em N s (i:Int)=some (r:Int)/\He N s (i:Int)=some (r:Int)/\i<=r/\r<=s.length:=
 afm N N s hs N N i ah ah hi
def YH (N:Nat) (s:List UInt8) (hs:s.length<=1048576) (hN:s.length < N) (a y:Nat) (z:Int) (hy:y<=s.length) (hay:a<=y) (hz:(((y:Int)==(a:Int))=true)↔((z==0)=true)):
  ∃ r:Int,Ig N (s,(a:Int),(y:Int))=some r/\DT N (s,(y:Int),z)=some r/\(r= -1\/(a < r/\r<=s.length)):=by
 simp only [Ig,DT];cases he:((y:Int)==(a:Int)) with
 | true=>
  rw [hz.1 he];exact ⟨-1,rfl,rfl,.inl rfl⟩
 | false=>
  have hz0:(z==0)=false:=by
   cases h:(z==0) with
   | false=>rfl
   | true=>rw [hz.2 h] at he;cases he
  have hne: ¬(y:Int)=a:=by simpa using he
  have hcond:((some<|fP s y).bind fun kF=>bif (kF==101) then some true else ((some<|fP s y).bind fun jT=>some<|jT==69))=some (fP s y==101||fP s y==69):=by
   cases h:(fP s y==101)<;>simp [h]
  have afn:(bif (fP s y==101) then some true else some (fP s y==69))=some (fP s y==101||fP s y==69):=by
   cases (fP s y==101)<;>rfl
  rw [hz0,aM,aM,Ir,Iq s hs,hcond,aD,aD,afn,aD];have hdone:∃ r:Int,Ma N (y:Int)=some r/\KW N (y:Int)=some r/\(r= -1\/(a < r/\r<=s.length)):=⟨y,rfl,rfl,.inr ⟨ah,ah⟩⟩
  cases hE:(fP s y==101||fP s y==69) with
  | false=>exact hdone
  | true=>
   have hlt:y < s.length:=by
    refine Mq fun e=>?_;rw [e] at hE;cases hE
   have hk3:∀ x:Nat,x<=s.length->y<=x->∃ r:Int,Ie N (s,(y:Int),(x:Int))=some r/\Hf N (s,(y:Int),(x:Int))=some r/\(r= -1\/(a < r/\r<=s.length)):=by
    intro x hx hyx;obtain ⟨r,h1,h2,h3,h4⟩:=TF N s hs hN x hx;simp only [Ie,Hf,h1,h2,aD];by_cases hr:(r:Int) > x
    .rw [lH hr];exact ⟨r,rfl,rfl,.inr ⟨ah,ah⟩⟩
    .rw [uP hr];exact hdone
   have hs1:=xU hs (i:=y) ah;have hs2:=xU hs (i:=y+1) ah;have hsg:((some<|fP s<|y+1).bind fun En=>bif (En==43) then some true else ((some<|fP s<|y+1).bind fun Eo=>some<|Eo==45))=some (fP s (y+1)==43||fP s (y+1)==45):=by
    cases h:(fP s (y+1)==43)<;>simp [h]
   have afo:(bif (fP s (y+1)==43) then some true else some (fP s (y+1)==45))=some (fP s (y+1)==43||fP s (y+1)==45):=by
    cases (fP s (y+1)==43)<;>rfl
   simp only [aU,hs1,hs2,Ir,Iq s hs,aD] at hsg afo ⊢;simp only [hsg,aD];cases hS:(fP s (y+1)==43||fP s (y+1)==45) with
   | true=>
    have:y+1 < s.length:=by
     refine Mq fun e=>?_;rw [e] at hS;cases hS
    exact hk3 (y+1+1) ah ah
   | false=>exact hk3 (y+1) ah ah
def afp (N:Nat) (s:List UInt8) (hs:s.length<=1048576) (hN:s.length < N) (i:Nat) (hi:i < s.length):
  ∃ r:Int,Ih N s (i:Int)=some r/\Hg N s (i:Int)=some r/\(r= -1\/(i < r/\r<=s.length)):=by
 unfold Ih Hg;obtain ⟨r,h1,h2,h3,h4⟩:=TF N s hs hN i ah;rw [Mr,wrap64 (n:=(s.length:Int) - 1) ah ah,uP (by omega: ¬(i:Int) < 0),lH (by omega:(i:Int)>=0),lH (by omega:(i:Int)<=(s.length:Int) - 1),aM,aD,tu,jK,aM,h1,h2,aD,aD,Ir,Iq s hs,aD,aD];cases hd:(fP s r==46) with
 | false=>
  rw [aM,aM,wrap64 (n:=(r:Int) - i) ah ah];refine YH N s hs hN i r _ h4 h3 ?_;constructor
  .intro h;have:=eq_of_beq h;rw [this];simp
  .intro h;have:=eq_of_beq h;exact qM.2 ah
 | true=>
  have hlt:r < s.length:=by
   refine Mq fun e=>?_;rw [e] at hd;cases hd
  obtain ⟨q,g1,g2,g3,g4⟩:=TF N s hs hN (r+1) ah;rw [aU,aU,xU hs ah,g1,g2,aD,aD,wrap64 (n:=(r:Int) - i) ah ah,wrap64 (n:=(q:Int) - r) ah ah,wrap64 (n:=(q:Int) - r - 1) ah ah,wrap64 ah ah];have afq:=YH N s hs hN i q ((r:Int) - i+((q:Int) - r - 1)) g4 ah;by_cases he:(r:Int)=i/\(q:Int)=((r+1:Nat):Int)
  .have e1:((r:Int)==(i:Int))=true:=qM.2 he.1;have e2:((q:Int)==((r+1:Nat):Int))=true:=qM.2 he.2;have e3:(((r:Int) - i+((q:Int) - r - 1))==0)=true:=qM.2 ah;simp only [e1,e2,aU,aD,DT,e3];exact ⟨-1,rfl,rfl,.inl rfl⟩
  .have hc:(bif ((r:Int)==(i:Int)) then some ((q:Int)==((r+1:Nat):Int)) else some false)=some false:=by
    cases e1:((r:Int)==(i:Int)) with
    | false=>rfl
    | true=>
     have e2:((q:Int)==((r+1:Nat):Int))=false:=by
      cases e2:((q:Int)==((r+1:Nat):Int)) with
      | false=>rfl
      | true=>exact absurd ⟨eq_of_beq e1,eq_of_beq e2⟩ he
     rw [e2];rfl
   rw [hc,aD,aM];refine afq ?_;have n1:((q:Int)==(i:Int))=false:=by
    cases e:((q:Int)==(i:Int)) with
    | false=>rfl
    | true=>have:=eq_of_beq e;omega
   have n2:(((r:Int) - i+((q:Int) - r - 1))==0)=false:=by
    cases e:(((r:Int) - i+((q:Int) - r - 1))==0) with
    | false=>rfl
    | true=>have:=eq_of_beq e;exact absurd ⟨ah,ah⟩ he
   rw [n1,n2]
def afr (N M:Nat) (s:List UInt8) (hs:s.length<=1048576) (q:Int) (hq:q≠10) (hq2:q≠92):∀ (n m i:Nat),s.length+1 - i < n->s.length+1 - i < m->i<=s.length+1->
  ∃ r:Int,zB N n (s,q,(i:Int))=some r/\xK M m (s,q,(i:Int))=some r/\(r= -1\/(i < r/\r<=s.length)):=by
 intro n;induction n with
 | zero=>intro m i h;omega
 | succ n ih=>
  intro m i hn hm hi;obtain ⟨m,rfl⟩:∃ k,m=k+1:=⟨m - 1,ah⟩
  rw [zB,xK];by_cases h:i < s.length
  .simp only [iQ h,aU,bH h,aD,Tx,xU hs (by omega:i<=s.length+1)];have hge:=ih m;by_cases h10:(s[i].toNat:Int)=10
   .have e1:((s[i].toNat:Int)==q)=false:=by
     cases e:((s[i].toNat:Int)==q) with
     | false=>rfl
     | true=>have:=eq_of_beq e;omega
    have e2:((s[i].toNat:Int)==10)=true:=qM.2 h10;have e3:((s[i].toNat:Int) !=10)=false:=by rw [bne,e2];rfl
    rw [e1,e2,e3];exact ⟨-1,rfl,rfl,.inl rfl⟩
   .have e2:((s[i].toNat:Int)==10)=false:=by
     cases e:((s[i].toNat:Int)==10) with
     | false=>rfl
     | true=>exact absurd (eq_of_beq e) h10
    have e3:((s[i].toNat:Int) !=10)=true:=by rw [bne,e2];rfl
    rw [e2,e3];simp only [aU,aM];cases e1:((s[i].toNat:Int)==q) with
    | true=>exact ⟨((i+1:Nat):Int),rfl,rfl,.inr ⟨ah,ah⟩⟩
    | false=>
     simp only [aM];cases e4:((s[i].toNat:Int)==92) with
     | false=>
      simp only [aM,aD,Ii,DV,xU hs (by omega:i<=s.length+1)];obtain ⟨r,h1,h2,h3⟩:=hge (i+1) ah ah ah;exact ⟨r,h1,h2,h3.imp id fun h=>⟨ah,h.2⟩⟩
     | true=>
      rw [aU,aU,Ir,Iq s hs,aD,aD,aD];cases e5:(fP s (i+1)==10) with
      | true=>
       have e6:(fP s (i+1) !=10)=false:=by rw [bne,e5];rfl
       have hlt:i+1 < s.length:=by
        refine Mq fun e=>?_;rw [e] at e5;cases e5
       have afs:((s[i+1].toNat:Int) !=10)=false:=by
        rw [Tz hlt] at e6;exact e6
       rw [e6];obtain ⟨m,rfl⟩:∃ k,m=k+1:=⟨m - 1,ah⟩
       simp only [aU,aM,DV,xU hs (by omega:i<=s.length+1)];rw [xK];simp only [iQ hlt,aU,bH hlt,aD,afs,aM];exact ⟨-1,rfl,rfl,.inl rfl⟩
      | false=>
       have e6:(fP s (i+1) !=10)=true:=by rw [bne,e5];rfl
       rw [e6];simp only [aU,aM,Ii,DV,xU hs (by omega:i+1<=s.length+1)];obtain ⟨r,h1,h2,h3⟩:=hge (i+1+1) ah ah ah;exact ⟨r,h1,h2,h3.imp id fun h=>⟨ah,h.2⟩⟩
  .simp only [jm h,aM,aD];exact ⟨-1,rfl,rfl,.inl rfl⟩
def YI (N:Nat) (s:List UInt8) (hs:s.length<=1048576) (hN:s.length+2 < N) (q:Int) (hq:q≠10) (hq2:q≠92) (i:Nat) (hi:i < s.length):
  ∃ r:Int,Ij N s (i:Int) q=some r/\Hl N s (i:Int) q=some r/\(r= -1\/(i < r/\r<=s.length)):=by
 unfold Ij Hl;rw [Ir,Iq s hs,aD,aD,xU hs ah];cases (fP s i !=q) with
 | true=>exact ⟨-1,rfl,rfl,.inl rfl⟩
 | false=>
  obtain ⟨r,h1,h2,h3⟩:=afr N N s hs q hq hq2 N N (i+1) ah ah ah;exact ⟨r,h1,h2,h3.imp id fun h=>⟨ah,h.2⟩⟩
def aft (N:Nat) (s:List UInt8) (hs:s.length<=1048576) (hN:s.length+2 < N) (i:Nat) (hi:i < s.length):
  ∃ r:Int,Ep N s (i:Int)=some r/\Ho N s (i:Int)=some r/\(r= -1\/(i < r/\r<=s.length)):=by
 obtain ⟨r,h1,h2,h3⟩:=YI N s hs hN 34 aI aI i hi;unfold Ep Ho;rw [h1,h2];exact ⟨r,rfl,rfl,h3⟩
def afu (N:Nat) (s:List UInt8) (hs:s.length<=1048576) (hN:s.length+2 < N) (i:Nat) (hi:i < s.length):
  ∃ r:Int,Er N s (i:Int)=some r/\Hq N s (i:Int)=some r/\(r= -1\/(i < r/\r<=s.length)):=by
 obtain ⟨r,h1,h2,h3⟩:=YI N s hs hN 47 aI aI i hi;unfold Er Hq;simp only [h1,h2,aD];cases (r==IntKind.wrap .i64 ((i:Int)+2)) with
 | true=>exact ⟨-1,rfl,rfl,.inl rfl⟩
 | false=>exact ⟨r,rfl,rfl,h3⟩
def afv (N M:Nat) (s:List UInt8) (hs:s.length<=1048576):∀ (n m i:Nat),s.length - i < n->s.length - i < m->i<=s.length->∃ b:Bool,BF N n (s,(i:Int))=some b/\DI M m (s,(i:Int))=some b:=by
 intro n;induction n with
 | zero=>intro m i h;omega
 | succ n ih=>
  intro m i hn hm hi;obtain ⟨m,rfl⟩:∃ k,m=k+1:=⟨m - 1,ah⟩
  rw [BF,DI];by_cases h:i < s.length
  .simp only [iQ h,aU,bH h,aD,afj,afk,xU hs (by omega:i<=s.length+1)];cases Ms (IntKind.wrap .i64 ((s[i].toNat:Nat):Int)) with
   | false=>exact ⟨false,rfl,rfl⟩
   | true=>exact ih m (i+1) ah ah ah
  .simp only [jm h,aM,Ip,Mr,aD];cases hc:(decide ((s.length:Int)>=1)&&decide ((s.length:Int)<=12)) with
   | false=>exact ⟨false,rfl,rfl⟩
   | true=>
    have h0:0 < s.length:=by
     simp only [dS,oO] at hc;omega
    have e:ix s 0=some s[0]:=bH h0;simp only [aU,e,aD,YF,YG];exact ⟨_,rfl,rfl⟩
def afw (N:Nat) (s:List UInt8) (hs:s.length<=1048576) (hN:s.length < N):∃ b:Bool,LV N s=some b/\Pm N s=some b:=
 afv N N s hs N N 0 ah ah ah
def YJ:LW=some oC:=rfl
def afx:PI=some rA:=rfl
def afy:PL=some vK:=rfl
def afz (N M:Nat) (l:List (List UInt8)) (x:List UInt8) (hl:l.length<=1048576):∀ (n m i:Nat),l.length - i < n->l.length - i < m->i<=l.length->
  ∃ r:Int,Eh N n (l,x,(i:Int))=some r/\Bc M m (l,x,(i:Int))=some r/\(-1<=r/\(0<=r->x∈l))/\r < l.length:=by
 intro n;induction n with
 | zero=>intro m i h;omega
 | succ n ih=>
  intro m i hn hm hi;obtain ⟨m,rfl⟩:∃ k,m=k+1:=⟨m - 1,ah⟩
  rw [Eh,Bc];by_cases h:i < l.length
  .have hst:IntKind.wrap .i64 ((i:Int)+1)=((i+1:Nat):Int):=Mt h (by simp only [maxLen];omega);have hc:(x==l[i])=(l[i]==x):=by
    cases e:(l[i]==x) with
    | true=>have:=eq_of_beq e;subst this;simp
    | false=>
     have: ¬l[i]=x:=by simpa using e
     simpa using fun e=>this e.symm
   simp only [iQ h,aU,bH h,aD,hst,hc];cases he:(l[i]==x) with
   | true=>exact ⟨(i:Int),rfl,rfl,⟨ah,fun _=>by have:=eq_of_beq he;rw [<- this];exact jy h⟩,ah⟩
   | false=>exact ih m (i+1) ah ah ah
  .simp only [jm h,aM];exact ⟨-1,rfl,rfl,⟨ah,fun h=>ah⟩,ah⟩
def YK (N:Nat) (l:List (List UInt8)) (x:List UInt8) (hl:l.length<=1048576) (hN:l.length < N):∃ r:Int,LX N l x=some r/\GZ N l x=some r/\(-1<=r/\(0<=r->x∈l))/\r < l.length:=
 afz N N l x hl N N 0 ah ah ah
def afA (N:Nat) (x:List UInt8) (hN:100 < N):∃ r:Int,LY N x=some r/\KT N x=some r/\(r=0\/(10<=r/\r<=26)):=by
 obtain ⟨r,h1,h2,h3,h4⟩:=YK N oC x aI (by have:oC.length=17:=rfl;omega);have hl:oC.length=17:=rfl;unfold LY KT;rw [YJ,aD,h1,h2];simp only [aD];by_cases h:r < 0
 .rw [lH h];exact ⟨0,rfl,rfl,.inl rfl⟩
 .rw [uP h,wrap64 (n:=10+r) ah ah];exact ⟨10+r,rfl,rfl,.inr ah⟩
def TG (N:Nat) (x:List UInt8) (hN:100 < N):∃ b:Bool,Ei N x=some b/\DN N x=some b/\(b=true->x∈rA):=by
 obtain ⟨r,h1,h2,h3,h4⟩:=YK N rA x aI (by have:rA.length=21:=rfl;omega);unfold Ei DN DL;rw [afx,aD,h1,h2];exact ⟨_,rfl,rfl,fun h=>h3.2<|by simpa using h⟩
def afB (b:UInt8):(((b).toNat:Int)==10)=(b==10):=by
 cases h:(b==10) with
 | true=>have:=eq_of_beq h;subst this;rfl
 | false=>
  have hne:b≠10:=by simpa using h
  have: ¬b.toNat=10:=fun e=>hne (UInt8.toNat.inj e);simp;omega
def afC (N:Nat) (t:List UInt8) (ht:t.length<=maxLen):∀ (n i:Nat),t.length - i < n->i<=t.length->Ej N n (t,(i:Int))=some (!(t.drop i).contains 10):=by
 intro n;induction n with
 | zero=>intro i h;omega
 | succ n ih=>
  intro i hn hi;rw [Ej];by_cases h:i < t.length
  .simp only [iQ h,aU,bH h,aD,afB,Mt h ht];rw [ih (i+1) ah ah,drop_cons h,List.contains_cons];by_cases he:t[i]=10
   .simp [he]
   .have h1:(t[i]==10)=false:=by simpa using he
    have h2:((10:UInt8)==t[i])=false:=by simpa using fun e=>he e.symm
    rw [h1,h2,aM,YL]
  .simp only [jm h,aM];rw [drop_nil h];rfl
def afD (N:Nat) (t:List UInt8) (hN:t.length < N) (ht:t.length<=maxLen):LZ N t=some (!t.contains 10):=by
 unfold LZ;have:=afC N t ht N 0 ah ah;simpa using this
def afE (l:List UInt8) (c:UInt8):decide (Go.Lib.indexByte l c>=0)=l.contains c:=by
 induction l with
 | nil=>rfl
 | cons b l ih=>
  rw [List.contains_cons];unfold Go.Lib.indexByte;by_cases h:(b==c)=true
  .have:(c==b)=true:=by have:=eq_of_beq h;subst this;simp
   simp [h,this]
  .have hf:(b==c)=false:=by simpa using h
   have hf2:(c==b)=false:=by
    have: ¬b=c:=by simpa using hf
    simpa using fun e=>this e.symm
   rw [hf,hf2,YL,<- ih];have hge:=Go.Lib.indexByte_ge l c;simp only [Bool.false_eq_true,if_false];split
   .rename_i he;have:Go.Lib.indexByte l c= -1:=by simpa using he
    rw [this]
   .rename_i he;have: ¬Go.Lib.indexByte l c= -1:=by simpa using he
    have h1:Go.Lib.indexByte l c>=0:=ah;have h2:Go.Lib.indexByte l c+1>=0:=ah;simp [h1,h2]
def afF (t:List UInt8):KV t=some (t.contains 10):=by
 have h0:KU t=some (Go.Lib.indexByte t 10):=by
  unfold KU;by_cases h:(([10]:List UInt8)==t)=true
  .have:=eq_of_beq h;subst this;rfl
  .have hf:(([10]:List UInt8)==t)=false:=by simpa using h
   rw [hf,aM];rfl
 unfold KV Pn;rw [h0,aD,aD,afE]
def afG (k:Int):∃ x:List UInt8,Md k=some x/\La k=some x/\(k=0->x=[]):=by
 have hkw:KY k=some (decide (k>=10)&&decide (k<=26)):=by
  unfold KY;rw [Mr];rfl
 have hsg:KZ k=some (decide (k>=30)&&decide (k<=68)):=by
  unfold KZ;rw [Mr];rfl
 unfold Md La;rw [Ip,Ip,hkw,hsg,YJ,afy];simp only [aD];cases h1:(k==1) with
 | true=>exact ⟨[10],rfl,rfl,fun h=>by subst h;cases h1⟩
 | false=>
  cases h2:(decide (k>=10)&&decide (k<=26)) with
  | true=>
   simp only [dS,oO] at h2;obtain ⟨j,rfl⟩:∃ j:Nat,k=(j:Int)+10:=⟨(k - 10).toNat,ah⟩
   have hl:oC.length=17:=rfl;have hw:IntKind.wrap .i64 ((j:Int)+10 - 10)=(j:Int):=by rw [wrap64 ah ah];omega
   rw [aM,aU,hw,bH ah];exact ⟨_,rfl,rfl,fun h=>ah⟩
  | false=>
   cases h3:(decide (k>=30)&&decide (k<=68)) with
   | true=>
    simp only [dS,oO] at h3;obtain ⟨j,rfl⟩:∃ j:Nat,k=(j:Int)+30:=⟨(k - 30).toNat,ah⟩
    have hl:vK.length=39:=rfl;have hw:IntKind.wrap .i64 ((j:Int)+30 - 30)=(j:Int):=by rw [wrap64 ah ah];omega
    rw [aM,aM,aU,hw,bH ah];exact ⟨_,rfl,rfl,fun h=>ah⟩
   | false=>exact ⟨[],rfl,rfl,fun _=>rfl⟩
def TH (N:Nat) (x:List UInt8) (hx:x.length<=1048576) (hN:x.length+200 < N):∃ b:Bool,BG N x=some b/\uI N x=some b/\(x=[]->b=false):=by
 unfold BG uI;obtain ⟨q,h1,h2⟩:=afw N x hx ah;obtain ⟨r,g1,g2,_⟩:=afA N x ah;obtain ⟨c,f1,f2,_⟩:=TG N x ah;have hq:x=[]->q=false:=by
  intro e;subst e;unfold LV at h1;obtain ⟨M,rfl⟩:∃ m,N=m+1:=⟨N - 1,ah⟩
  rw [BF] at h1;have e1:decide ((0:Int) < (([]:List UInt8).length:Int))=false:=rfl;have e2:jU (([]:List UInt8).length:Int) 1 12=some false:=rfl;rw [e1,aM,e2] at h1;simpa using h1.symm
 rw [h1,h2,aD,aD];cases YM:q with
 | false=>exact ⟨false,rfl,rfl,fun _=>rfl⟩
 | true=>
  rw [aU,aU,g1,g2,aD,aD];cases (r==0) with
  | false=>exact ⟨false,rfl,rfl,fun _=>rfl⟩
  | true=>
   rw [aU,aU,f1,f2];exact ⟨!c,rfl,rfl,fun e=>by rw [hq e] at YM;cases YM⟩
def TI (x:List UInt8):(x==[])=true↔x=[]:=aF
def PY (N:Nat) (t:lq) (ht:t.Text.length<=1048576) (hN:t.Text.length+200 < N):∃ b:Bool,BJ N t=some b/\Ht N t=some b/\(t.Kind=0->b=false):=by
 obtain ⟨sp,s1,s2,s3⟩:=afG t.Kind;obtain ⟨nb,n1,n2,n3⟩:=TH N t.Text ht hN;obtain ⟨bb,b1,b2,b3⟩:=TG N t.Text ah;have hk1:∀ y:Bool,¬t.Text=[]->∃ b:Bool,BI N (t,y)=some b/\Hr N (t,y)=some b/\(t.Kind=0->y=false->b=false):=by
  intro y hne;have hbn:(t.Text==[])=false:=by
   cases e:(t.Text==[]) with
   | false=>rfl
   | true=>exact absurd ((TI _).1 e) hne
  simp only [BI,Hr];rw [n1,n2,b1,b2,s1,s2,hbn];cases y with
  | true=>exact ⟨nb,rfl,rfl,fun _ h=>by cases h⟩
  | false=>
   cases h8:(t.Kind==8) with
   | true=>
    refine ⟨bb,rfl,rfl,fun h=>?_⟩;rw [h] at h8;cases h8
   | false=>
    have hc:(sp==t.Text)=(t.Text==sp):=by
     cases e:(t.Text==sp) with
     | true=>have:=eq_of_beq e;rw [this];simp
     | false=>
      have: ¬t.Text=sp:=by simpa using e
      simpa using fun e=>this e.symm
    refine ⟨t.Text==sp,by rw [<- hc];rfl,rfl,fun h _=>?_⟩;rw [s3 h];exact hbn
 unfold BJ Ht;by_cases hne:t.Text=[]
 .have e0:(t.Text==[])=true:=(TI _).2 hne;rw [e0,aU];refine ⟨false,?_,rfl,fun _=>rfl⟩;have hl:decide ((t.Text.length:Int) > 0)=false:=by rw [hne];rfl
  have hst:Ep N t.Text 0=some (-1):=by
   rw [hne];rfl
  have hre:Er N t.Text 0=some (-1):=by
   rw [hne];rfl
  have hm1:((-1:Int)==(t.Text.length:Int))=false:=by rw [hne];rfl
  rw [hl,hst,hre];have hk:∀ y,BI N (t,y)=some false:=by
   intro y;simp only [BI];rw [n1,n3 hne,b1,s1,e0];have hbb:bb=false:=by
    cases h:bb with
    | false=>rfl
    | true=>
     have:=b3 h;rw [hne] at this;exact absurd this aI
   rw [hbb];cases y<;>cases (t.Kind==8)<;>rfl
  simp only [aD,aM,hm1,hk];cases (t.Kind==2)<;>cases (t.Kind==3)<;>cases (t.Kind==4)<;>cases (t.Kind==5)<;>cases (t.Kind==6)<;>rfl
 .have e0:(t.Text==[])=false:=by
   cases e:(t.Text==[]) with
   | false=>rfl
   | true=>exact absurd ((TI _).1 e) hne
  have hpos:0 < t.Text.length:=by
   cases Mv t.Text.length with
   | inl h=>exact absurd (YN.1 h) hne
   | inr h=>exact h
  have hl:decide ((t.Text.length:Int) > 0)=true:=lH ah;rw [e0,aM,hl];simp only [aU];cases h2:(t.Kind==2) with
  | true=>
   have e:ix t.Text 0=some t.Text[0]:=bH hpos;have hp:=afD N t.Text ah (by simp only [maxLen];omega);have hc:=afF t.Text;rw [aU,aU,e,hp,hc];simp only [aD];refine ⟨((t.Text[0].toNat:Int)==35)&&!t.Text.contains 10,?_,?_,fun h=>?_⟩
   .cases ((t.Text[0].toNat:Int)==35)<;>rfl
   .cases ((t.Text[0].toNat:Int)==35)<;>rfl
   .rw [h] at h2;cases h2
  | false=>
   rw [aM,aM];cases h3:(t.Kind==3) with
   | true=>
    obtain ⟨r,f1,f2,_⟩:=afp N t.Text ht ah 0 hpos;have Mw:Ih N t.Text 0=some r:=f1;have f2':Hg N t.Text 0=some r:=f2;rw [aU,aU,Mw,f2'];refine ⟨_,rfl,rfl,fun h=>?_⟩;rw [h] at h3;cases h3
   | false=>
    rw [aM,aM];cases h4:(t.Kind==4) with
    | true=>
     obtain ⟨r,f1,f2,_⟩:=aft N t.Text ht ah 0 hpos;have Mw:Ep N t.Text 0=some r:=f1;have f2':Ho N t.Text 0=some r:=f2;rw [aU,aU,Mw,f2'];refine ⟨_,rfl,rfl,fun h=>?_⟩;rw [h] at h4;cases h4
    | false=>
     rw [aM,aM];cases h5:(t.Kind==5) with
     | true=>
      obtain ⟨r,f1,f2,_⟩:=afu N t.Text ht ah 0 hpos;have Mw:Er N t.Text 0=some r:=f1;have f2':Hq N t.Text 0=some r:=f2;rw [aU,aU,Mw,f2'];refine ⟨_,rfl,rfl,fun h=>?_⟩;rw [h] at h5;cases h5
     | false=>
      rw [aM,aM];cases h6:(t.Kind==6) with
      | true=>
       obtain ⟨b,k1,k2,k3⟩:=hk1 true hne;refine ⟨b,k1,k2,fun h=>?_⟩;rw [h] at h6;cases h6
      | false=>
       obtain ⟨b,k1,k2,k3⟩:=hk1 (t.Kind==7) hne;refine ⟨b,k1,k2,fun h=>k3 h ?_⟩;rw [h];rfl
def iJ (a:List aB):List (List Int):=a.map (·.Kids)
def YO {a:List aB} {i:Nat} (h:i < a.length):(iJ a).drop i=a[i].Kids::(iJ a).drop (i+1):=by
 have h':i < (iJ a).length:=by simpa [iJ] using h
 rw [drop_cons h'];simp [iJ]
def afI (N:Nat) (kb:(List aB×Int×List Int)->Option (List Int×Bool)) (a:List aB) (i:Nat) (hi:i < a.length) (hi2:i<=100000) (out:List Int) (ho:out.length=i) (hl:Low out) (hk:a[i].Kids.length<=1048576):
  ∀ (n j:Nat) (at_:Int),j < n->j<=a[i].Kids.length->0<=at_->at_<=i->
   Eb N kb n (a,(i:Int),out,at_,(j:Int) - 1)=match walk out at_ (a[i].Kids.take j).reverse with
    | none=>some ([],false)
    | some s=>kb (a,((i+1:Nat):Int),out++[s]):=by
 intro n;induction n with
 | zero=>intro j at_ h;omega
 | succ n ih=>
  intro j at_ hn hj h0 h1;rw [Eb];cases j with
  | zero=>
   have:decide (((0:Nat):Int) - 1>=0)=false:=aF;simp only [this,aM,List.take_zero,List.reverse_nil,walk];rw [lI (by simp [ho];omega),aD,wrap64 ah ah];rfl
  | succ j=>
   have hjk:j < a[i].Kids.length:=ah;rw [afJ hjk];simp only [afK,aU,afL,bH hi,bH hjk,aD];rw [wrap64 (n:=at_ - 1) ah ah];unfold walk;by_cases hc:a[i].Kids[j]≠at_ - 1
   .have h2:(a[i].Kids[j] !=at_ - 1)=true:=by simpa using hc
    rw [h2,aU,aD,aU,bC<|.inr hc]
   .have h2:(a[i].Kids[j] !=at_ - 1)=false:=by simpa using hc
    rw [h2,aM,aD];by_cases hz:at_=0
    .have h3:(at_==0)=true:=by simpa using hz
     rw [h3,aU,bC<|.inl hz]
    .have h3:(at_==0)=false:=by simpa using hz
     rw [h3,aM,aT fun h=>h.elim hz hc];have hlt:(at_ - 1).toNat < out.length:=ah;have hx:ix out (at_ - 1)=some out[(at_ - 1).toNat]:=by
      have:=bH hlt;rwa [TJ ah] at this
     rw [hx,aD,cB hlt];have hlow:=hl _ _ (cB hlt);rw [wrap64 ah ah];exact ih j _ ah ah hlow.1 ah
def afM (N:Nat) (a:List aB) (hN:1048577 < N) (ha:a.length<=100000) (hk:∀ x,x∈a->x.Kids.length<=1048576):∀ (n i:Nat) (out:List Int),a.length - i < n->i<=a.length->out.length=i->Low out->
  Bv N n (a,(i:Int),out)=match starts ((iJ a).drop i) out with
   | none=>some ([],false)
   | some r=>some (r,true):=by
 intro n;induction n with
 | zero=>intro i out h;omega
 | succ n ih=>
  intro i out hn hi ho hl;rw [Bv];by_cases h:i < a.length
  .have hkl:=hk _ (jy h);simp only [iQ h,aU,bH h,aD];rw [wrap64 (n:=(a[i].Kids.length:Int) - 1) ah ah,afI N _ a i h ah out ho hl hkl N _ _ ah (fq _) ah ah,List.take_length,YO h,starts,ho];cases hw:walk out (i:Int) a[i].Kids.reverse with
   | none=>rfl
   | some s=>
    have hs:=PZ hl _ ah hw;simp only [aD];exact ih (i+1) _ ah ah (by simp [ho]) (hl.snoc hs.1 ah)
  .simp only [jm h,aM];have:(iJ a).drop i=[]:=drop_nil (by simpa [iJ] using h);rw [this];rfl
def afN (N:Nat) (kb:(List aB×Int×List Int)->Option (List Int×Bool)) (a:List aB) (e:aB) (i:Nat) (hi:i < a.length) (hi2:i<=100000) (out st:List Int) (ho:out.length=i) (hst:st.take i=out) (hsl:st.length=a.length) (hl:Low out):
  ∀ (ks:List Int) (at_:Int),0<=at_->at_<=i->
   Bb N kb a (i:Int) e st ks (at_ - 1)=match walk out at_ ks with
    | none=>some ([],false)
    | some s=>kb (a,((i+1:Nat):Int),st.set i s):=by
 intro ks;have hil:i < st.length:=ah;induction ks with
 | nil=>
  intro at_ h0 h1;rw [Bb];simp only [walk];rw [bH hil,aD,wrap64 (n:=at_ - 1+1) ah ah,TK hil,aD,wrap64 ah ah,Int.sub_add_cancel];rfl
 | cons k ks ih=>
  intro at_ h0 h1;rw [Bb];unfold walk;by_cases hz:at_=0
  .have h3:decide (at_ - 1 < 0)=true:=bI;rw [h3,aU,aD,aU,bC<|.inl hz]
  .have h3:decide (at_ - 1 < 0)=false:=bI;rw [h3,aM,aD];by_cases hc:k≠at_ - 1
   .have h2:(k !=at_ - 1)=true:=by simpa using hc
    rw [h2,aU,bC<|.inr hc]
   .have h2:(k !=at_ - 1)=false:=by simpa using hc
    have hk:k=at_ - 1:=Decidable.of_not_not hc;rw [h2,aM,aT fun h=>h.elim hz hc];have hlt:(at_ - 1).toNat < out.length:=ah;have hlt2:(at_ - 1).toNat < st.length:=ah;have hx:ix st k=some st[(at_ - 1).toNat]:=by
     have:=bH hlt2;rw [TJ ah] at this;rw [hk];exact this
    have he:out[(at_ - 1).toNat]?=some st[(at_ - 1).toNat]:=by
     rw [<- hst,rV,bC ah,cB hlt2]
    rw [hx,aD,he];have hlow:=hl _ _ he;rw [wrap64 (n:=st[(at_ - 1).toNat] - 1) ah ah];exact ih _ hlow.1 ah
def Iw (r:List Int) (n:Nat):Bool:=r[n - 1]?==some 0
def afO (N:Nat) (a:List aB) (ha:a.length<=100000) (h1:1<=a.length):∀ (n i:Nat) (out st:List Int),a.length - i < n->i<=a.length->out.length=i->st.take i=out->st.length=a.length->Low out->
  ∃ st',zi N n (a,(i:Int),st)=some (st',match starts ((iJ a).drop i) out with
   | none=>false
   | some r=>Iw r a.length)/\∀ r,starts ((iJ a).drop i) out=some r->st'=r:=by
 intro n;induction n with
 | zero=>intro i out st h;omega
 | succ n ih=>
  intro i out st hn hi ho hst hsl hl;rw [zi];by_cases h:i < a.length
  .simp only [iQ h,aU,bH h,aD];rw [wrap64 (n:=(i:Int) - 1) ah ah,afN N _ a a[i] i h ah out st ho hst hsl hl _ _ ah ah,YO h,starts,ho];cases hw:walk out (i:Int) a[i].Kids.reverse with
   | none=>exact ⟨[],rfl,fun r h=>by cases h⟩
   | some s=>
    have hs:=PZ hl _ ah hw;simp only [aD];refine ih (i+1) _ _ ah ah (by simp [ho]) ?_ (by simpa using hsl) (hl.snoc hs.1 ah);rw [Mx,List.take_set_of_le<|fq i,hst,YP ah];rfl
  .simp only [jm h,aM];have:(iJ a).drop i=[]:=drop_nil (by simpa [iJ] using h);rw [this];have hia:i=a.length:=ah;have hso:st=out:=by rw [<- hst,YQ ah]
   have hlt:a.length - 1 < st.length:=ah;have hx:ix st ((a.length:Int) - 1)=some st[a.length - 1]:=by
    have:=bH hlt;rwa [show ((a.length - 1:Nat):Int)=(a.length:Int) - 1 by omega] at this
   rw [wrap64 (n:=(a.length:Int) - 1) ah ah,hx,aD];refine ⟨st,?_,fun r hr=>by rw [hso];exact nU hr⟩;simp only [starts,Iw,<- hso,cB hlt];congr 2
def oP (a:List aB):Bool:=
 (decide (1<=a.length)&&decide (a.length<=400))&&(match starts (iJ a) [] with
  | none=>false
  | some r=>Iw r a.length)
def BL (a b c:Int):lD a b c=some (decide (a>=b)&&decide (a<=c)):=by
 unfold lD;cases decide (a>=b)<;>rfl
def EC (a b c:Int):jU a b c=some (decide (a>=b)&&decide (a<=c)):=by
 unfold jU;cases decide (a>=b)<;>rfl
def afP {a:List aB} (hs:∀ x,x∈a->jG x):∀ x,x∈a->x.Kids.length<=1048576:=fun x hx=>by
 have:=hs x hx;unfold jG at this;omega
def YR (N:Nat) (a:List aB) (hN:1048577 < N) (ha:a.length<=400) (hs:∀ x,x∈a->jG x):LK N a=match starts (iJ a) [] with
  | none=>some ([],false)
  | some r=>some (r,true):=by
 have:=afM N a hN ah (afP hs) N 0 [] ah ah rfl (fun j s h=>by simp at h);rw [Iy] at this;exact this
def TL (N:Nat) (a:List aB) (hN:1048577 < N) (hs:∀ x,x∈a->jG x):HY N a=some (oP a):=by
 unfold HY oP;rw [EC,aD];by_cases h1:1<=a.length
 .by_cases h2:a.length<=400
  .have e1:decide ((a.length:Int)>=1)=true:=bI;have e2:decide ((a.length:Int)<=400)=true:=bI;simp only [e1,e2,tu,jK,aM,h1,h2,tC,PX,YR N a hN h2 hs];cases hst:starts (iJ a) [] with
   | none=>rfl
   | some r=>
    obtain ⟨⟨m,hm,hml⟩,_,_⟩:=TM _ (fun j s h=>by simp at h) hst;have hrl:r.length=a.length:=by rw [hm];simp [hml,iJ]
    have hlt:a.length - 1 < r.length:=ah;have hx:ix r ((a.length:Int) - 1)=some r[a.length - 1]:=by
     have:=bH hlt;rwa [show ((a.length - 1:Nat):Int)=(a.length:Int) - 1 by omega] at this
    simp only [aD,aU];rw [wrap64 (n:=(a.length:Int) - 1) ah ah,hx,aD,aD];simp only [Iw,cB hlt];congr 1
  .have e2:decide ((a.length:Int)<=400)=false:=bI;simp [e2,h2]
 .have e1:decide ((a.length:Int)>=1)=false:=bI;simp [e1,h1]
def afQ (N:Nat) (a:List aB) (hN:1048577 < N):∃ st,KP N a=some (st,oP a)/\(a.length<=400->∀ r,starts (iJ a) []=some r->st=r\/a=[]):=by
 unfold KP oP;rw [BL,aD];by_cases h1:1<=a.length
 .by_cases h2:a.length<=400
  .have e1:decide ((a.length:Int)>=1)=true:=bI;have e2:decide ((a.length:Int)<=400)=true:=bI;obtain ⟨st',hst',hr⟩:=afO N a ah h1 N 0 [] (List.replicate a.length 0) ah ah rfl aF aF (fun j s h=>by simp at h);rw [Iy] at hst' hr;simp only [e1,e2,tu,jK,aM];rw [afR ah (by simp only [maxLen];omega),aD];have ng:zi N N (a,0,List.replicate a.length 0)=_:=hst';rw [ng];exact ⟨st',by simp [h1,h2],fun _ r h=>.inl<|hr r h⟩
  .have e2:decide ((a.length:Int)<=400)=false:=bI;exact ⟨[],by simp [e2,h2],fun h=>absurd h h2⟩
 .have e1:decide ((a.length:Int)>=1)=false:=bI;refine ⟨[],by simp [e1,h1],fun _ r _=>.inr ?_⟩;cases a with
  | nil=>rfl
  | cons=>simp at h1
def afS (N:Nat) (a:List aB) (hN:1048577 < N):KQ N a=some (oP a):=by
 obtain ⟨st,h,_⟩:=afQ N a hN;unfold KQ;rw [h];rfl
def agv (op:Int):∃ (b:Bool) (l:Int),LP op=some b/\Ld op=some l/\(l !=0)=b:=by
 rcases gq (op=60) with rfl|Zm
 .exact ⟨true,_,rfl,rfl,rfl⟩
 rcases gq (op=57) with rfl|h57
 .exact ⟨true,_,rfl,rfl,rfl⟩
 rcases gq (op=58) with rfl|fH
 .exact ⟨true,_,rfl,rfl,rfl⟩
 rcases gq (op=59) with rfl|oQ
 .exact ⟨true,_,rfl,rfl,rfl⟩
 rcases gq (op=55) with rfl|Zn
 .exact ⟨true,_,rfl,rfl,rfl⟩
 rcases gq (op=56) with rfl|nu
 .exact ⟨true,_,rfl,rfl,rfl⟩
 rcases gq (op=99) with rfl|Zo
 .exact ⟨true,_,rfl,rfl,rfl⟩
 rcases gq (op=63) with rfl|h63
 .exact ⟨true,_,rfl,rfl,rfl⟩
 rcases gq (op=48) with rfl|h48
 .exact ⟨true,_,rfl,rfl,rfl⟩
 rcases gq (op=47) with rfl|h47
 .exact ⟨true,_,rfl,rfl,rfl⟩
 rcases gq (op=50) with rfl|h50
 .exact ⟨true,_,rfl,rfl,rfl⟩
 rcases gq (op=62) with rfl|Zp
 .exact ⟨true,_,rfl,rfl,rfl⟩
 rcases gq (op=49) with rfl|oU
 .exact ⟨true,_,rfl,rfl,rfl⟩
 rcases gq (op=67) with rfl|Zq
 .exact ⟨true,_,rfl,rfl,rfl⟩
 rcases gq (op=46) with rfl|h46
 .exact ⟨true,_,rfl,rfl,rfl⟩
 rcases gq (op=45) with rfl|h45
 .exact ⟨true,_,rfl,rfl,rfl⟩
 rcases gq (op=44) with rfl|jc
 .exact ⟨true,_,rfl,rfl,rfl⟩
 have e:∀ k,op≠k->(op==k)=false:=fun k h=>by simpa using h
 refine ⟨false,0,?_,?_,rfl⟩
 .unfold LP;rw [e 60 Zm,e 57 h57,e 58 fH,e 59 oQ,e 55 Zn,e 56 nu,e 99 Zo,e 63 h63,e 48 h48,e 47 h47,e 50 h50,e 62 Zp,e 49 oU,e 67 Zq,e 46 h46,e 45 h45,e 44 jc];rfl
 .unfold Ld Lc zl Lb Hu;simp only [e 60 Zm,e 57 h57,e 58 fH,e 59 oQ,e 55 Zn,e 56 nu,e 99 Zo,e 63 h63,e 48 h48,e 47 h47,e 50 h50,e 62 Zp,e 49 oU,e 67 Zq,e 46 h46,e 45 h45,e 44 jc,aM]
def agw (N:Nat) (t:List UInt8) (hN:100 < N):DL N [[],[62],[62,62],[124]] t=some (t==[]||(t==[62]||(t==[62,62]||t==[124]))):=by
 obtain ⟨N,rfl⟩:∃ M,N=M+5:=⟨N - 5,ah⟩
 unfold DL GZ;rcases gq (t=[]) with rfl|h1
 .rfl
 rcases gq (t=[62]) with rfl|h2
 .rfl
 rcases gq (t=[62,62]) with rfl|h3
 .rfl
 rcases gq (t=[124]) with rfl|h4
 .rfl
 have e:∀ k:List UInt8,t≠k->(t==k)=false:=fun k h=>by simpa using h
 have i0:ix [([]:List UInt8),[62],[62,62],[124]] 0=some []:=rfl;have i1:ix [([]:List UInt8),[62],[62,62],[124]] 1=some [62]:=rfl;have i2:ix [([]:List UInt8),[62],[62,62],[124]] 2=some [62,62]:=rfl;have i3:ix [([]:List UInt8),[62],[62,62],[124]] 3=some [124]:=rfl;have w1:IntKind.wrap .i64 ((0:Int)+1)=1:=rfl;have w2:IntKind.wrap .i64 ((1:Int)+1)=2:=rfl;have w3:IntKind.wrap .i64 ((2:Int)+1)=3:=rfl;have w4:IntKind.wrap .i64 ((3:Int)+1)=4:=rfl;have d:∀ k:Int,k < 4->decide (k < ((List.length [([]:List UInt8),[62],[62,62],[124]]:Nat):Int))=true:=fun k h=>lH h;have d4:decide ((4:Int) < ((List.length [([]:List UInt8),[62],[62,62],[124]]:Nat):Int))=false:=rfl;simp only [Bc,d 0 ah,d 1 ah,d 2 ah,d 3 ah,d4,i0,i1,i2,i3,w1,w2,w3,w4,e _ h1,e _ h2,e _ h3,e _ h4,aU,aM,aD,Bool.or_false,Bool.or_self];rfl
def FK (n:aB):Prop:=
 (n.Kind=28->2<=n.Kids.length/\n.Kids.length<=3)/\(n.Kind=29->n.Kids.length=2)/\(n.Kind=30->n.Kids.length=2)/\(n.Kind=31->n.Kids.length=4)/\
 (n.Kind=42->n.Op=1/\n.Kids.length=1\/n.Op=2/\n.Kids.length=1\/n.Op=3/\n.Kids.length=2)/\(n.Kind=43->n.Op=1/\n.Kids.length=2\/n.Op=3/\n.Kids.length=3)/\
 (n.Kind=12->n.Kids.length=2/\n.Text=[]/\n.Other=[])/\(n.Kind=11->n.Kids.length=1/\n.Text=[]/\n.Other=[])
def dI (k:Int):Prop:=(1<=k/\k<=16)\/(20<=k/\k<=34)\/(40<=k/\k<=45)
def FK.other {n:aB} (h:n.Kind≠28/\n.Kind≠29/\n.Kind≠30/\n.Kind≠31/\n.Kind≠42/\n.Kind≠43/\n.Kind≠12/\n.Kind≠11):FK n:=
 ⟨fun e=>absurd e h.1,fun e=>absurd e h.2.1,fun e=>absurd e h.2.2.1,fun e=>absurd e h.2.2.2.1,fun e=>absurd e h.2.2.2.2.1,fun e=>absurd e h.2.2.2.2.2.1,fun e=>absurd e h.2.2.2.2.2.2.1,fun e=>absurd e h.2.2.2.2.2.2.2⟩
def vZ {l:Nat} {c1 c2:Bool} {m k:Nat} (h1:decide ((l:Int)>=(m:Int))=c1) (h2:decide ((l:Int)<=(k:Int))=c2) (h:(c1&&c2)=true):m<=l/\l<=k:=by
 subst h1 h2;simp only [dS,oO] at h;omega
set_option maxHeartbeats 8000000 in
def agx (N:Nat) (n:aB) (hN:1048576+300 < N) (hn:jG n) (hk:n.Kids.length<=400):∃ b:Bool,qK N n=some b/\Hy N n=some b/\(b=true->FK n/\dI n.Kind):=by
 obtain ⟨kind,op,text,other,kids⟩:=n;unfold jG at hn;simp only at hn hk;obtain ⟨bn,n1,n2,_⟩:=TH N text ah ah;obtain ⟨bo,o1,o2,_⟩:=TH N other ah ah;obtain ⟨bb,b1,b2,_⟩:=TG N text ah;obtain ⟨t2,t2a,t2b,_⟩:=PY N ⟨2,text,0⟩ ny ny;obtain ⟨t3,t3a,t3b,_⟩:=PY N ⟨3,text,0⟩ ny ny;obtain ⟨t4,t4a,t4b,_⟩:=PY N ⟨4,text,0⟩ ny ny;obtain ⟨t5,t5a,t5b,_⟩:=PY N ⟨5,text,0⟩ ny ny;obtain ⟨ob,ol,ob1,ob2,ob3⟩:=agv op;have hr:=agw N other ah;have x2:ix [(3:Int),4,5] (IntKind.wrap .i64<|(2:Int) - 2)=some 3:=rfl;have x3:ix [(3:Int),4,5] (IntKind.wrap .i64<|(3:Int) - 2)=some 4:=rfl;have x4:ix [(3:Int),4,5] (IntKind.wrap .i64<|(4:Int) - 2)=some 5:=rfl;have hl0:decide ((kids.length:Int)>=0)=true:=aF;have hlm:decide ((kids.length:Int)<=400)=true:=bI;rcases Classical.em (kind=1\/kind=2\/kind=3\/kind=4\/kind=5\/kind=6\/kind=7\/kind=8\/kind=9\/kind=10\/kind=11\/kind=12\/kind=13\/kind=14\/kind=15\/kind=16\/kind=20\/kind=21\/kind=22\/kind=23\/kind=24\/kind=25\/kind=26\/kind=27\/kind=28\/kind=29\/kind=30\/kind=31\/kind=32\/kind=33\/kind=34\/kind=40\/kind=41\/kind=42\/kind=43\/kind=44\/kind=45) with hall|hall
 rotate_left
 .skip
  have h1:kind≠1:=fun h=>hall (by simp [h]);have h2:kind≠2:=fun h=>hall (by simp [h]);have h3:kind≠3:=fun h=>hall (by simp [h]);have h4:kind≠4:=fun h=>hall (by simp [h]);have h5:kind≠5:=fun h=>hall (by simp [h]);have h6:kind≠6:=fun h=>hall (by simp [h]);have h7:kind≠7:=fun h=>hall (by simp [h]);have h8:kind≠8:=fun h=>hall (by simp [h]);have h9:kind≠9:=fun h=>hall (by simp [h]);have h10:kind≠10:=fun h=>hall (by simp [h]);have h11:kind≠11:=fun h=>hall (by simp [h]);have h12:kind≠12:=fun h=>hall (by simp [h]);have h13:kind≠13:=fun h=>hall (by simp [h]);have jB:kind≠14:=fun h=>hall (by simp [h]);have zG:kind≠15:=fun h=>hall (by simp [h]);have h16:kind≠16:=fun h=>hall (by simp [h]);have h20:kind≠20:=fun h=>hall (by simp [h]);have h21:kind≠21:=fun h=>hall (by simp [h]);have h22:kind≠22:=fun h=>hall (by simp [h]);have h23:kind≠23:=fun h=>hall (by simp [h]);have BQ:kind≠24:=fun h=>hall (by simp [h]);have h25:kind≠25:=fun h=>hall (by simp [h]);have h26:kind≠26:=fun h=>hall (by simp [h]);have h27:kind≠27:=fun h=>hall (by simp [h]);have Qh:kind≠28:=fun h=>hall (by simp [h]);have Qi:kind≠29:=fun h=>hall (by simp [h]);have Qj:kind≠30:=fun h=>hall (by simp [h]);have h31:kind≠31:=fun h=>hall (by simp [h]);have h32:kind≠32:=fun h=>hall (by simp [h]);have gL:kind≠33:=fun h=>hall (by simp [h]);have h34:kind≠34:=fun h=>hall (by simp [h]);have EI:kind≠40:=fun h=>hall (by simp [h]);have EJ:kind≠41:=fun h=>hall (by simp [h]);have Qk:kind≠42:=fun h=>hall (by simp [h]);have h43:kind≠43:=fun h=>hall (by simp [h]);have jc:kind≠44:=fun h=>hall (by simp [h]);have h45:kind≠45:=fun h=>hall (by simp [h]);have e:∀ k,kind≠k->(kind==k)=false:=fun k h=>by simpa using h
  have r1:(decide (kind>=1)&&decide (kind<=16))=false:=by
   cases h:(decide (kind>=1)&&decide (kind<=16)) with
   | false=>rfl
   | true=>simp only [dS,oO] at h;omega
  have r1b:(decide (kind>=1)&&decide (kind<=15))=false:=by
   cases h:(decide (kind>=1)&&decide (kind<=15)) with
   | false=>rfl
   | true=>simp only [dS,oO] at h;omega
  have r2:(decide (kind>=20)&&decide (kind<=34))=false:=by
   cases h:(decide (kind>=20)&&decide (kind<=34)) with
   | false=>rfl
   | true=>simp only [dS,oO] at h;omega
  have r3:(decide (kind>=40)&&decide (kind<=45))=false:=by
   cases h:(decide (kind>=40)&&decide (kind<=45)) with
   | false=>rfl
   | true=>simp only [dS,oO] at h;omega
  refine ⟨false,?_,?_,fun h=>by cases h⟩
  .simp only [qK,Ef,Ee,BD,sZ,zA,Ed,Ec,EC,r1,r2,r3,aD,aM,e 1 h1,e 2 h2,e 3 h3,e 4 h4,e 5 h5,e 6 h6,e 7 h7,e 8 h8,e 9 h9,e 10 h10,e 11 h11,e 12 h12,e 13 h13,e 14 jB,e 15 zG,e 16 h16,e 20 h20,e 21 h21,e 22 h22,e 23 h23,e 24 BQ,e 25 h25,e 26 h26,e 27 h27,e 28 Qh,e 29 Qi,e 30 Qj,e 31 h31,e 32 h32,e 33 gL,e 34 h34,e 40 EI,e 41 EJ,e 42 Qk,e 43 h43,e 44 jc,e 45 h45]
  .simp only [Hy,vU,Bf,BL,r1b,r2,r3,e 16 h16,aD,aM]
 rcases hall with rfl|rfl|rfl|rfl|rfl|rfl|rfl|rfl|rfl|rfl|rfl|rfl|rfl|rfl|rfl|rfl|rfl|rfl|rfl|rfl|rfl|rfl|rfl|rfl|rfl|rfl|rfl|rfl|rfl|rfl|rfl|rfl|rfl|rfl|rfl|rfl|rfl;all_goals simp only [qK,Ef,Ee,BD,sZ,zA,Ed,Ec,Ia,HZ,Me,xP,Hy,DW,vU,Bf,Pq,Hw,Lg,Lf,Pt,qH,Li,Lh,Pv,Bg,Lm,Lj,Ll,Po,Pp,PG,EC,BL,aD,aU,aM,Int.reduceBEq,Int.reduceGE,Int.reduceLE,tC,BR,wh,PX,Zt,agN,tu,n1,n2,o1,o2,b1,b2,t2a,t2b,t3a,t3b,t4a,t4b,t5a,t5b,ob1,ob2,ob3,hr,hl0,x2,x3,x4]
 .skip
  generalize (op==0)=c1;generalize (text==[])=c2;generalize (other==[])=c3;generalize g2:(decide<|(kids.length:Int)<=0)=c7;cases c1<;>cases c2<;>cases c3<;>cases c7<;>cases bn<;>exact ⟨_,rfl,rfl,fun _=>⟨FK.other aF,by simp [dI]⟩⟩
 .skip
  generalize (op==0)=c1;generalize (text==[])=c2;generalize (other==[])=c3;generalize g2:(decide<|(kids.length:Int)<=0)=c7;cases c1<;>cases c2<;>cases c3<;>cases c7<;>cases t3<;>exact ⟨_,rfl,rfl,fun _=>⟨FK.other aF,by simp [dI]⟩⟩
 .skip
  generalize (op==0)=c1;generalize (text==[])=c2;generalize (other==[])=c3;generalize g2:(decide<|(kids.length:Int)<=0)=c7;cases c1<;>cases c2<;>cases c3<;>cases c7<;>cases t4<;>exact ⟨_,rfl,rfl,fun _=>⟨FK.other aF,by simp [dI]⟩⟩
 .skip
  generalize (op==0)=c1;generalize (text==[])=c2;generalize (other==[])=c3;generalize g2:(decide<|(kids.length:Int)<=0)=c7;cases c1<;>cases c2<;>cases c3<;>cases c7<;>cases t5<;>exact ⟨_,rfl,rfl,fun _=>⟨FK.other aF,by simp [dI]⟩⟩
 .skip
  generalize (op==0)=c1;generalize (text==[])=c2;generalize (other==[])=c3;generalize g1:(decide<|(kids.length:Int)>=1)=c6;generalize g2:(decide<|(kids.length:Int)<=6)=c7;cases c1<;>cases c2<;>cases c3<;>cases c6<;>cases c7<;>cases bn<;>exact ⟨_,rfl,rfl,fun _=>⟨FK.other aF,by simp [dI]⟩⟩
 .skip
  generalize (op==0)=c1;generalize (text==[])=c2;generalize (other==[])=c3;generalize g1:(decide<|(kids.length:Int)>=1)=c6;generalize g2:(decide<|(kids.length:Int)<=1)=c7;cases c1<;>cases c2<;>cases c3<;>cases c6<;>cases c7<;>exact ⟨_,rfl,rfl,fun _=>⟨FK.other aF,by simp [dI]⟩⟩
 .skip
  generalize (op==0)=c1;generalize (text==[])=c2;generalize (other==[])=c3;generalize g2:(decide<|(kids.length:Int)<=6)=c7;cases c1<;>cases c2<;>cases c3<;>cases c7<;>cases bn<;>exact ⟨_,rfl,rfl,fun _=>⟨FK.other aF,by simp [dI]⟩⟩
 .skip
  generalize (op==0)=c1;generalize (text==[])=c2;generalize (other==[])=c3;generalize g2:(decide<|(kids.length:Int)<=6)=c7;cases c1<;>cases c2<;>cases c3<;>cases c7<;>cases bb<;>exact ⟨_,rfl,rfl,fun _=>⟨FK.other aF,by simp [dI]⟩⟩
 .skip
  generalize (op==51)=c1;generalize (op==52)=c2;generalize (text==[])=c3;generalize (other==[])=c4;generalize g1:(decide<|(kids.length:Int)>=1)=c6;generalize g2:(decide<|(kids.length:Int)<=1)=c7;cases c1<;>cases c2<;>cases c3<;>cases c4<;>cases c6<;>cases c7<;>first|exact ⟨_,rfl,rfl,fun _=>⟨FK.other aF,by simp [dI]⟩⟩|exact ⟨_,rfl,(show some (decide ((kids.length:Int)>=1)&&decide ((kids.length:Int)<=1))=some _ by rw [g1,g2]),fun _=>⟨FK.other aF,by simp [dI]⟩⟩
 .skip
  generalize (op==51)=c1;generalize (op==52)=c2;generalize (text==[])=c3;generalize (other==[])=c4;generalize g1:(decide<|(kids.length:Int)>=1)=c6;generalize g2:(decide<|(kids.length:Int)<=1)=c7;cases c1<;>cases c2<;>cases c3<;>cases c4<;>cases c6<;>cases c7<;>first|exact ⟨_,rfl,rfl,fun _=>⟨FK.other aF,by simp [dI]⟩⟩|exact ⟨_,rfl,(show some (decide ((kids.length:Int)>=1)&&decide ((kids.length:Int)<=1))=some _ by rw [g1,g2]),fun _=>⟨FK.other aF,by simp [dI]⟩⟩
 .skip
  generalize (op==55)=c1;generalize (op==56)=c2;generalize (op==61)=c3;generalize gT:(text==[])=c4;generalize gO:(other==[])=c5;generalize g1:(decide<|(kids.length:Int)>=1)=c6;generalize g2:(decide<|(kids.length:Int)<=1)=c7;have K:c4=true->c5=true->(c6&&c7)=true->FK ⟨11,op,text,other,kids⟩:=fun hT hO h=>by
   have:=vZ (m:=1) (k:=1) g1 g2 h;have eT:text=[]:=by simpa [hT] using gT
   have eO:other=[]:=by simpa [hO] using gO
   exact ⟨aF,aF,aF,aF,aF,aF,aF,fun _=>⟨ny,eT,eO⟩⟩
  cases c1<;>cases c2<;>cases c3<;>cases c4<;>cases c5<;>cases c6<;>cases c7<;>first|exact ⟨_,rfl,rfl,fun h=>by first|(cases h;done)|exact ⟨K rfl rfl rfl,by simp [dI]⟩⟩|exact ⟨_,rfl,(show some (decide ((kids.length:Int)>=1)&&decide ((kids.length:Int)<=1))=some _ by rw [g1,g2]),fun h=>by first|(cases h;done)|exact ⟨K rfl rfl rfl,by simp [dI]⟩⟩
 .skip
  generalize (op==0)=c1;generalize gT:(text==[])=c2;generalize gO:(other==[])=c3;generalize g1:(decide<|(kids.length:Int)>=2)=c6;generalize g2:(decide<|(kids.length:Int)<=2)=c7;have K:c2=true->c3=true->(c6&&c7)=true->FK ⟨12,op,text,other,kids⟩:=fun hT hO h=>by
   have:=vZ (m:=2) (k:=2) g1 g2 h;have eT:text=[]:=by simpa [hT] using gT
   have eO:other=[]:=by simpa [hO] using gO
   exact ⟨aF,aF,aF,aF,aF,aF,fun _=>⟨ny,eT,eO⟩,aF⟩
  cases c1<;>cases c2<;>cases c3<;>cases c6<;>cases c7<;>cases ob<;>exact ⟨_,rfl,rfl,fun h=>by first|(cases h;done)|exact ⟨K rfl rfl rfl,by simp [dI]⟩⟩
 .skip
  generalize (op==0)=c1;generalize (text==[])=c2;generalize (other==[])=c3;generalize g1:(decide<|(kids.length:Int)>=1)=c6;generalize g2:(decide<|(kids.length:Int)<=6)=c7;cases c1<;>cases c2<;>cases c3<;>cases c6<;>cases c7<;>cases bn<;>exact ⟨_,rfl,rfl,fun _=>⟨FK.other aF,by simp [dI]⟩⟩
 .skip
  generalize (op==0)=c1;generalize (text==[])=c2;generalize (other==[])=c3;generalize g1:(decide<|(kids.length:Int)>=3)=c6;generalize g2:(decide<|(kids.length:Int)<=3)=c7;cases c1<;>cases c2<;>cases c3<;>cases c6<;>cases c7<;>exact ⟨_,rfl,rfl,fun _=>⟨FK.other aF,by simp [dI]⟩⟩
 .skip
  generalize (op==54)=c1;generalize (decide<|op>=38)=c2;generalize (decide<|op<=43)=c3;generalize (text==[])=c4;generalize (other==[])=c5;generalize g1:(decide<|(kids.length:Int)>=2)=c6;generalize g2:(decide<|(kids.length:Int)<=2)=c7;cases c1<;>cases c2<;>cases c3<;>cases c4<;>cases c5<;>cases c6<;>cases c7<;>first|exact ⟨_,rfl,rfl,fun _=>⟨FK.other aF,by simp [dI]⟩⟩|exact ⟨_,rfl,(show some (decide ((kids.length:Int)>=2)&&decide ((kids.length:Int)<=2))=some _ by rw [g1,g2]),fun _=>⟨FK.other aF,by simp [dI]⟩⟩
 .skip
  generalize (op==0)=c1;generalize (text==[])=c2;generalize (other==[])=c3;generalize g2:(decide<|(kids.length:Int)<=0)=c7;cases c1<;>cases c2<;>cases c3<;>cases c7<;>exact ⟨_,rfl,rfl,fun _=>⟨FK.other aF,by simp [dI]⟩⟩
 .skip
  generalize (op==0)=c1;generalize (text==[])=c2;generalize (other==[])=c3;generalize g1:(decide<|(kids.length:Int)>=1)=c6;generalize g2:(decide<|(kids.length:Int)<=1)=c7;cases c1<;>cases c2<;>cases c3<;>cases c6<;>cases c7<;>exact ⟨_,rfl,rfl,fun _=>⟨FK.other aF,by simp [dI]⟩⟩
 .by_cases q0:op=0
  .subst q0;have w:IntKind.wrap .i64 ((0:Int)+1)=1:=rfl;simp only [Int.reduceBEq,Int.reduceGE,Int.reduceLE,tC,w,aD,aU,tu,hl0];generalize (text==[])=c1;generalize (other==[])=c2;generalize (other==[62])=c3;generalize (other==[62,62])=c4;generalize (other==[124])=c5;generalize (decide<|(kids.length:Int)>=1)=c6;generalize (decide<|(kids.length:Int)<=7)=c7;generalize (decide<|(kids.length:Int)<=6)=c8;cases c1<;>cases c2<;>cases c3<;>cases c4<;>cases c5<;>first
    | exact ⟨_,rfl,rfl,fun _=>⟨FK.other aF,by simp [dI]⟩⟩
    | (cases c6<;>cases c7<;>cases c8<;>exact ⟨_,rfl,rfl,fun _=>⟨FK.other aF,by simp [dI]⟩⟩)
  by_cases q1:op=1
  .subst q1;have w:IntKind.wrap .i64 ((1:Int)+1)=2:=rfl;simp only [Int.reduceBEq,Int.reduceGE,Int.reduceLE,tC,w,aD,aU,aM,tu,hl0];generalize (text==[])=c1;generalize (other==[])=c2;generalize (other==[62])=c3;generalize (other==[62,62])=c4;generalize (other==[124])=c5;generalize (decide<|(kids.length:Int)>=1)=c6;generalize (decide<|(kids.length:Int)>=2)=c9;generalize (decide<|(kids.length:Int)<=7)=c7;generalize (decide<|(kids.length:Int)<=6)=c8;cases c1<;>cases c2<;>cases c3<;>cases c4<;>cases c5<;>first
    | exact ⟨_,rfl,rfl,fun _=>⟨FK.other aF,by simp [dI]⟩⟩
    | (cases c6<;>cases c7<;>cases c8<;>cases c9<;>exact ⟨_,rfl,rfl,fun _=>⟨FK.other aF,by simp [dI]⟩⟩)
  have e0:(op==0)=false:=by simpa using q0
  have e1:(op==1)=false:=by simpa using q1
  have e2:(decide (op>=0)&&decide (op<=1))=false:=by
   cases h:(decide (op>=0)&&decide (op<=1)) with
   | false=>rfl
   | true=>simp only [dS,oO] at h;omega
  simp only [e0,e1,e2,aM,aD];refine ⟨false,?_,?_,fun h=>by cases h⟩
  .cases (other==[])<;>rfl
  .cases (other==[])<;>rfl
 .skip
  generalize (op==0)=c1;generalize (text==[])=c2;generalize (other==[])=c3;generalize g2:(decide<|(kids.length:Int)<=0)=c7;cases c1<;>cases c2<;>cases c3<;>cases c7<;>exact ⟨_,rfl,rfl,fun _=>⟨FK.other aF,by simp [dI]⟩⟩
 .skip
  generalize (op==0)=c1;generalize (text==[])=c2;generalize (other==[])=c3;generalize g2:(decide<|(kids.length:Int)<=1)=c7;cases c1<;>cases c2<;>cases c3<;>cases c7<;>exact ⟨_,rfl,rfl,fun _=>⟨FK.other aF,by simp [dI]⟩⟩
 .skip
  generalize (op==0)=c1;generalize (text==[])=c2;generalize (other==[])=c3;generalize g2:(decide<|(kids.length:Int)<=1)=c7;cases c1<;>cases c2<;>cases c3<;>cases c7<;>exact ⟨_,rfl,rfl,fun _=>⟨FK.other aF,by simp [dI]⟩⟩
 .skip
  generalize (op==0)=c1;generalize (text==[])=c2;generalize (other==[])=c3;generalize g2:(decide<|(kids.length:Int)<=0)=c7;cases c1<;>cases c2<;>cases c3<;>cases c7<;>exact ⟨_,rfl,rfl,fun _=>⟨FK.other aF,by simp [dI]⟩⟩
 .skip
  generalize (op==0)=c1;generalize (text==[])=c2;generalize (other==[])=c3;generalize g2:(decide<|(kids.length:Int)<=0)=c7;cases c1<;>cases c2<;>cases c3<;>cases c7<;>exact ⟨_,rfl,rfl,fun _=>⟨FK.other aF,by simp [dI]⟩⟩
 .skip
  generalize (op==0)=c1;generalize (text==[])=c2;generalize (other==[])=c3;generalize g2:(decide<|(kids.length:Int)<=6)=c7;cases c1<;>cases c2<;>cases c3<;>cases c7<;>cases bn<;>exact ⟨_,rfl,rfl,fun _=>⟨FK.other aF,by simp [dI]⟩⟩
 .skip
  generalize (op==0)=c1;generalize (text==[])=c2;generalize (other==[])=c3;generalize g1:(decide<|(kids.length:Int)>=2)=c6;generalize g2:(decide<|(kids.length:Int)<=3)=c7;have K:(c6&&c7)=true->FK ⟨28,op,text,other,kids⟩:=fun h=>by
   have:=vZ (m:=2) (k:=3) g1 g2 h;exact ⟨fun _=>ny,aF,aF,aF,aF,aF,aF,aF⟩
  cases c1<;>cases c2<;>cases c3<;>cases c6<;>cases c7<;>exact ⟨_,rfl,rfl,fun h=>by first|(cases h;done)|exact ⟨K rfl,by simp [dI]⟩⟩
 .skip
  generalize (op==0)=c1;generalize (text==[])=c2;generalize (other==[])=c3;generalize g1:(decide<|(kids.length:Int)>=2)=c6;generalize g2:(decide<|(kids.length:Int)<=2)=c7;have K:(c6&&c7)=true->FK ⟨29,op,text,other,kids⟩:=fun h=>by
   have:=vZ (m:=2) (k:=2) g1 g2 h;exact ⟨aF,fun _=>ny,aF,aF,aF,aF,aF,aF⟩
  cases c1<;>cases c2<;>cases c3<;>cases c6<;>cases c7<;>exact ⟨_,rfl,rfl,fun h=>by first|(cases h;done)|exact ⟨K rfl,by simp [dI]⟩⟩
 .skip
  generalize (op==0)=c1;generalize (text==[])=c2;generalize (other==[])=c3;generalize g1:(decide<|(kids.length:Int)>=2)=c6;generalize g2:(decide<|(kids.length:Int)<=2)=c7;have K:(c6&&c7)=true->FK ⟨30,op,text,other,kids⟩:=fun h=>by
   have:=vZ (m:=2) (k:=2) g1 g2 h;exact ⟨aF,aF,fun _=>ny,aF,aF,aF,aF,aF⟩
  cases c1<;>cases c2<;>cases c3<;>cases c6<;>cases c7<;>exact ⟨_,rfl,rfl,fun h=>by first|(cases h;done)|exact ⟨K rfl,by simp [dI]⟩⟩
 .skip
  generalize (op==0)=c1;generalize (text==[])=c2;generalize (other==[])=c3;generalize g1:(decide<|(kids.length:Int)>=4)=c6;generalize g2:(decide<|(kids.length:Int)<=4)=c7;have K:(c6&&c7)=true->FK ⟨31,op,text,other,kids⟩:=fun h=>by
   have:=vZ (m:=4) (k:=4) g1 g2 h;exact ⟨aF,aF,aF,fun _=>ny,aF,aF,aF,aF⟩
  cases c1<;>cases c2<;>cases c3<;>cases c6<;>cases c7<;>exact ⟨_,rfl,rfl,fun h=>by first|(cases h;done)|exact ⟨K rfl,by simp [dI]⟩⟩
 .skip
  generalize (op==0)=c1;generalize (text==[])=c2;generalize (other==[])=c3;generalize g1:(decide<|(kids.length:Int)>=1)=c6;generalize g2:(decide<|(kids.length:Int)<=1)=c7;cases c1<;>cases c2<;>cases c3<;>cases c6<;>cases c7<;>cases bn<;>cases bo<;>exact ⟨_,rfl,rfl,fun _=>⟨FK.other aF,by simp [dI]⟩⟩
 .simp only [hlm,Ug,tC,tu];generalize (op==0)=c1;generalize (text==[])=c2;generalize (other==[])=c3;cases c1<;>cases c2<;>cases c3<;>exact ⟨_,rfl,rfl,fun _=>⟨FK.other aF,by simp [dI]⟩⟩
 .skip
  generalize (op==0)=c1;generalize (text==[])=c2;generalize (other==[])=c3;generalize g2:(decide<|(kids.length:Int)<=0)=c7;cases c1<;>cases c2<;>cases c3<;>cases c7<;>cases t2<;>exact ⟨_,rfl,rfl,fun _=>⟨FK.other aF,by simp [dI]⟩⟩
 .skip
  generalize (op==0)=c1;generalize (text==[])=c2;generalize (other==[])=c3;generalize g1:(decide<|(kids.length:Int)>=1)=c6;generalize g2:(decide<|(kids.length:Int)<=1)=c7;cases c1<;>cases c2<;>cases c3<;>cases c6<;>cases c7<;>exact ⟨_,rfl,rfl,fun _=>⟨FK.other aF,by simp [dI]⟩⟩
 .skip
  generalize (op==0)=c1;generalize (text==[])=c2;generalize (other==[])=c3;generalize g1:(decide<|(kids.length:Int)>=1)=c6;generalize g2:(decide<|(kids.length:Int)<=1)=c7;cases c1<;>cases c2<;>cases c3<;>cases c6<;>cases c7<;>exact ⟨_,rfl,rfl,fun _=>⟨FK.other aF,by simp [dI]⟩⟩
 .by_cases q1:op=1
  .subst q1;have w:IntKind.wrap .i64 ((1:Int)+IntKind.wrap .i64 (Int.tdiv (1:Int) 3))=1:=rfl;simp only [Int.reduceBEq,Int.reduceGE,Int.reduceLE,tC,w,aD,aU,aM,tu];generalize (text==[])=c1;generalize (other==[])=c2;generalize g1:(decide<|(kids.length:Int)>=1)=c6;generalize g2:(decide<|(kids.length:Int)<=1)=c7;have K:(c6&&c7)=true->FK ⟨42,1,text,other,kids⟩:=fun h=>by
    have:=vZ (m:=1) (k:=1) g1 g2 h;refine ⟨aF,aF,aF,aF,fun _=>.inl ⟨rfl,ny⟩,aF,aF,aF⟩
   cases c1<;>cases c2<;>cases c6<;>cases c7<;>exact ⟨_,rfl,rfl,fun h=>by first|(cases h;done)|exact ⟨K rfl,by simp [dI]⟩⟩
  by_cases q2:op=2
  .subst q2;have w:IntKind.wrap .i64 ((1:Int)+IntKind.wrap .i64 (Int.tdiv (2:Int) 3))=1:=rfl;simp only [Int.reduceBEq,Int.reduceGE,Int.reduceLE,tC,w,aD,aU,aM,tu];generalize (text==[])=c1;generalize (other==[])=c2;generalize g1:(decide<|(kids.length:Int)>=1)=c6;generalize g2:(decide<|(kids.length:Int)<=1)=c7;have K:(c6&&c7)=true->FK ⟨42,2,text,other,kids⟩:=fun h=>by
    have:=vZ (m:=1) (k:=1) g1 g2 h;refine ⟨aF,aF,aF,aF,fun _=>.inr<|.inl ⟨rfl,ny⟩,aF,aF,aF⟩
   cases c1<;>cases c2<;>cases c6<;>cases c7<;>exact ⟨_,rfl,rfl,fun h=>by first|(cases h;done)|exact ⟨K rfl,by simp [dI]⟩⟩
  by_cases q3:op=3
  .subst q3;have w:IntKind.wrap .i64 ((1:Int)+IntKind.wrap .i64 (Int.tdiv (3:Int) 3))=2:=rfl;simp only [Int.reduceBEq,Int.reduceGE,Int.reduceLE,tC,w,aD,aU,aM,tu];generalize (text==[])=c1;generalize (other==[])=c2;generalize g1:(decide<|(kids.length:Int)>=2)=c6;generalize g2:(decide<|(kids.length:Int)<=2)=c7;have K:(c6&&c7)=true->FK ⟨42,3,text,other,kids⟩:=fun h=>by
    have:=vZ (m:=2) (k:=2) g1 g2 h;refine ⟨aF,aF,aF,aF,fun _=>.inr<|.inr ⟨rfl,ny⟩,aF,aF,aF⟩
   cases c1<;>cases c2<;>cases c6<;>cases c7<;>exact ⟨_,rfl,rfl,fun h=>by first|(cases h;done)|exact ⟨K rfl,by simp [dI]⟩⟩
  have e2:(decide (op>=1)&&decide (op<=3))=false:=by
   cases h:(decide (op>=1)&&decide (op<=3)) with
   | false=>rfl
   | true=>simp only [dS,oO] at h;omega
  have e3:(op==3)=false:=by simpa using q3
  simp only [e2,e3,aM,aD];exact ⟨false,rfl,rfl,fun h=>by cases h⟩
 .by_cases q1:op=1
  .subst q1;have w:IntKind.wrap .i64 ((2:Int)+IntKind.wrap .i64 (Int.tdiv (1:Int) 3))=2:=rfl;simp only [Int.reduceBEq,Int.reduceGE,Int.reduceLE,tC,w,aD,aU,aM,tu];generalize (text==[])=c1;generalize (other==[])=c2;generalize g1:(decide<|(kids.length:Int)>=2)=c6;generalize g2:(decide<|(kids.length:Int)<=2)=c7;have K:(c6&&c7)=true->FK ⟨43,1,text,other,kids⟩:=fun h=>by
    have:=vZ (m:=2) (k:=2) g1 g2 h;refine ⟨aF,aF,aF,aF,aF,fun _=>.inl ⟨rfl,ny⟩,aF,aF⟩
   cases c1<;>cases c2<;>cases c6<;>cases c7<;>exact ⟨_,rfl,rfl,fun h=>by first|(cases h;done)|exact ⟨K rfl,by simp [dI]⟩⟩
  by_cases q3:op=3
  .subst q3;have w:IntKind.wrap .i64 ((2:Int)+IntKind.wrap .i64 (Int.tdiv (3:Int) 3))=3:=rfl;simp only [Int.reduceBEq,Int.reduceGE,Int.reduceLE,tC,w,aD,aU,aM,tu];generalize (text==[])=c1;generalize (other==[])=c2;generalize g1:(decide<|(kids.length:Int)>=3)=c6;generalize g2:(decide<|(kids.length:Int)<=3)=c7;have K:(c6&&c7)=true->FK ⟨43,3,text,other,kids⟩:=fun h=>by
    have:=vZ (m:=3) (k:=3) g1 g2 h;refine ⟨aF,aF,aF,aF,aF,fun _=>.inr ⟨rfl,ny⟩,aF,aF⟩
   cases c1<;>cases c2<;>cases c6<;>cases c7<;>exact ⟨_,rfl,rfl,fun h=>by first|(cases h;done)|exact ⟨K rfl,by simp [dI]⟩⟩
  have e1:(op==1)=false:=by simpa using q1
  have e3:(op==3)=false:=by simpa using q3
  simp only [e1,e3,aM,aD];exact ⟨false,rfl,rfl,fun h=>by cases h⟩
 .skip
  generalize (op==0)=c1;generalize (text==[])=c2;generalize (other==[])=c3;generalize g1:(decide<|(kids.length:Int)>=1)=c6;generalize g2:(decide<|(kids.length:Int)<=7)=c7;cases c1<;>cases c2<;>cases c3<;>cases c6<;>cases c7<;>cases bn<;>exact ⟨_,rfl,rfl,fun _=>⟨FK.other aF,by simp [dI]⟩⟩
 .simp only [hlm,Ug,tC,tu];generalize (op==0)=c1;generalize (text==[])=c2;generalize (other==[])=c3;cases c1<;>cases c2<;>cases c3<;>exact ⟨_,rfl,rfl,fun _=>⟨FK.other aF,by simp [dI]⟩⟩
def qc (k:Int):Bool:=decide (k>=1)&&decide (k<=15)
def Zu (k:Int):Bool:=decide (k>=20)&&decide (k<=34)
def zH (k:Int):Bool:=k==1||(k==5||k==6)
def zI (k:Int):jw k=some (qc k):=by unfold jw;rw [EC];rfl
def zJ (k:Int):vU k=some (qc k):=by unfold vU;rw [BL];rfl
def agO (k:Int):Mf k=some (Zu k):=by unfold Mf;rw [EC];rfl
def agP (k:Int):Bf k=some (Zu k):=by unfold Bf;rw [BL];rfl
def Uh (k:Int):Ik k=some (zH k):=by
 unfold Ik zH;cases (k==1)<;>cases (k==5)<;>rfl
def Ui (k:Int):Hz k=some (zH k):=by
 unfold Hz zH;cases (k==1)<;>cases (k==5)<;>rfl
def agQ {k:Int} (h:zH k=true):qc k=true:=by
 unfold zH at h;simp only [kV,qM] at h;rcases h with rfl|rfl|rfl<;>rfl
def agR (n:aB) (k:Nat) (kd:Int) (hf:FK n) (hk:k < n.Kids.length) (hl:n.Kids.length<=400):∃ b:Bool,iA n (k:Int) kd=some b/\mh n (k:Int) kd=some b:=by
 have hw:IntKind.wrap .i64 ((n.Kids.length:Int) - 1)=(n.Kids.length:Int) - 1:=wrap64 ah ah;obtain ⟨f28,f29,f30,f31,f42,f43,_,_⟩:=hf;obtain ⟨kind,op,text,other,kids⟩:=n;simp only at hk hl hw f28 f29 f30 f31 f42 f43;have hEL:=@agQ kd;rcases gq (kind=9) with rfl|h9
 .refine ⟨zH kd,?_,?_⟩<;>simp only [iA,lG,mh,mg,Int.reduceBEq,aU,Uh,Ui,aD]
 rcases gq (kind=10) with rfl|h10
 .refine ⟨zH kd,?_,?_⟩<;>simp only [iA,lG,mh,mg,Int.reduceBEq,aU,aM,Uh,Ui,aD]
 rcases gq (kind=15) with rfl|zG
 .simp only [iA,lG,mh,mg,Int.reduceBEq,aU,aM,Uh,Ui,zI,zJ,aD];generalize qc kd=e at*;generalize zH kd=l at*;by_cases h0:k=0
  .subst h0;have d1:decide (((0:Nat):Int) > 0)=false:=aF;have d2:(((0:Nat):Int)==0)=true:=aF;rw [d1,d2];cases e<;>cases l<;>first|exact ⟨_,rfl,rfl⟩|exact absurd (hEL rfl) aF
  .have d1:decide ((k:Int) > 0)=true:=bI;have d2:((k:Int)==0)=false:=bI;rw [d1,d2];cases e<;>exact ⟨_,rfl,rfl⟩
 rcases gq (kind=28) with rfl|Qh
 .simp only [iA,lG,mh,kG,mg,oK,Int.reduceBEq,aU,aM,zI,zJ,aD];by_cases h0:k=0
  .subst h0;have d1:decide (((0:Nat):Int) > 0)=false:=aF;have d2:(((0:Nat):Int)==0)=true:=aF;rw [d1,d2];cases qc kd<;>exact ⟨_,rfl,rfl⟩
  .have d1:decide ((k:Int) > 0)=true:=bI;have d2:((k:Int)==0)=false:=bI;rw [d1,d2];exact ⟨_,rfl,rfl⟩
 rcases gq (kind=29) with rfl|Qi
 .have hlen:=f29 rfl;simp only [iA,lG,mh,kG,mg,oK,Int.reduceBEq,aU,aM,zI,zJ,aD];rcases (show k=0\/k=1 by omega) with rfl|rfl
  .cases qc kd<;>exact ⟨_,rfl,rfl⟩
  .exact ⟨_,rfl,rfl⟩
 rcases gq (kind=30) with rfl|Qj
 .have hlen:=f30 rfl;simp only [iA,lG,mh,kG,mg,oK,Int.reduceBEq,aU,aM,zI,zJ,aD];rcases (show k=0\/k=1 by omega) with rfl|rfl
  .cases (kd==33)<;>exact ⟨_,rfl,rfl⟩
  .exact ⟨_,rfl,rfl⟩
 rcases gq (kind=31) with rfl|h31
 .have hlen:=f31 rfl;simp only [iA,lG,mh,kG,mg,oK,Int.reduceBEq,aU,aM,zI,zJ,aD,hw,hlen];rcases (show k=0\/k=1\/k=2\/k=3 by omega) with rfl|rfl|rfl|rfl
  .cases qc kd<;>cases (kd==16)<;>exact ⟨_,rfl,rfl⟩
  .cases qc kd<;>cases (kd==16)<;>exact ⟨_,rfl,rfl⟩
  .cases qc kd<;>cases (kd==16)<;>exact ⟨_,rfl,rfl⟩
  .exact ⟨_,rfl,rfl⟩
 rcases gq (kind=32) with rfl|h32
 .simp only [iA,lG,qL,mh,kG,mg,oK,rP,Int.reduceBEq,aU,aM];exact ⟨_,rfl,rfl⟩
 rcases gq (kind=40) with rfl|EI
 .simp only [iA,lG,qL,mh,kG,mg,oK,rP,Int.reduceBEq,aU,aM];exact ⟨_,rfl,rfl⟩
 rcases gq (kind=41) with rfl|EJ
 .simp only [iA,lG,qL,mh,kG,mg,oK,rP,Int.reduceBEq,aU,aM];exact ⟨_,rfl,rfl⟩
 rcases gq (kind=33) with rfl|gL
 .simp only [iA,lG,qL,mh,kG,mg,oK,rP,Int.reduceBEq,aU,aM,agO,agP,aD];exact ⟨_,rfl,rfl⟩
 rcases gq (kind=42) with rfl|Qk
 .simp only [iA,lG,qL,mh,kG,mg,oK,rP,Int.reduceBEq,aU,aM,zI,zJ,aD,hw];rcases f42 rfl with ⟨rfl,hlen⟩|⟨rfl,hlen⟩|⟨rfl,hlen⟩<;>rw [hlen]
  .obtain rfl:k=0:=ah;cases qc kd<;>exact ⟨_,rfl,rfl⟩
  .obtain rfl:k=0:=ah;cases (kd==33)<;>exact ⟨_,rfl,rfl⟩
  .rcases (show k=0\/k=1 by omega) with rfl|rfl
   .cases qc kd<;>exact ⟨_,rfl,rfl⟩
   .cases (kd==33)<;>exact ⟨_,rfl,rfl⟩
 rcases gq (kind=43) with rfl|h43
 .simp only [iA,lG,qL,mh,kG,mg,oK,rP,Int.reduceBEq,aU,aM,zI,zJ,aD,hw];rcases f43 rfl with ⟨rfl,hlen⟩|⟨rfl,hlen⟩<;>rw [hlen]
  .rcases (show k=0\/k=1 by omega) with rfl|rfl
   .cases qc kd<;>exact ⟨_,rfl,rfl⟩
   .cases qc kd<;>exact ⟨_,rfl,rfl⟩
  .rcases (show k=0\/k=1\/k=2 by omega) with rfl|rfl|rfl
   .cases qc kd<;>exact ⟨_,rfl,rfl⟩
   .cases qc kd<;>exact ⟨_,rfl,rfl⟩
   .cases (kd==33)<;>exact ⟨_,rfl,rfl⟩
 rcases gq (kind=44) with rfl|jc
 .simp only [iA,lG,qL,mh,kG,mg,oK,rP,Int.reduceBEq,aU,aM,aD,hw];cases ((k:Int)==(kids.length:Int) - 1)<;>cases (kd==33)<;>exact ⟨_,rfl,rfl⟩
 rcases gq (kind=45) with rfl|h45
 .simp only [iA,lG,qL,mh,kG,mg,oK,rP,Pw,EC,BL,Int.reduceBEq,aU,aM,aD];cases (decide (kd>=40)&&decide (kd<=44))<;>exact ⟨_,rfl,rfl⟩
 have e:∀ k,kind≠k->(kind==k)=false:=fun k h=>by simpa using h
 refine ⟨qc kd,?_,?_⟩
 .simp only [iA,lG,qL,e 9 h9,e 10 h10,e 15 zG,e 28 Qh,e 29 Qi,e 30 Qj,e 31 h31,e 32 h32,e 40 EI,e 41 EJ,e 33 gL,e 42 Qk,e 43 h43,e 44 jc,e 45 h45,aM,zI,aD]
 .simp only [mh,kG,mg,oK,rP,e 9 h9,e 10 h10,e 15 zG,e 28 Qh,e 29 Qi,e 30 Qj,e 31 h31,e 32 h32,e 40 EI,e 41 EJ,e 33 gL,e 42 Qk,e 43 h43,e 44 jc,e 45 h45,aM,zJ,aD]
mutual
def bA:aC->Nat
 | ⟨_,_,_,_,ks⟩=>aJ ks+1
def aJ:List aC->Nat
 | []=>0
 | t::ts=>bA t+aJ ts
end
mutual
def aP (b:Nat):aC->List aB
 | ⟨k,o,t,p,ks⟩=>eF b ks++[⟨k,o,t,p,gH b ks⟩]
def eF (b:Nat):List aC->List aB
 | []=>[]
 | t::ts=>aP b t++eF (b+bA t) ts
def gH (b:Nat):List aC->List Int
 | []=>[]
 | t::ts=>(((b+bA t:Nat):Int) - 1)::gH (b+bA t) ts
end
mutual
def BN {P:aC->Prop} (h:∀ t:aC,(∀ k,k∈t.kids->P k)->P t):∀ t,P t
 | ⟨k,o,x,y,ks⟩=>h ⟨k,o,x,y,ks⟩ (Zv h ks)
def Zv {P:aC->Prop} (h:∀ t:aC,(∀ k,k∈t.kids->P k)->P t):∀ (ks:List aC) k,k∈ks->P k
 | [],k,hk=>by cases hk
 | t::ts,k,hk=>(fu.1 hk).elim (fun e=>e ▸ BN h t) (Zv h ts k)
end
mutual
def gG:∀ (t:aC) (b:Nat),(aP b t).length=bA t
 | ⟨k,o,x,y,ks⟩,b=>by rw [aP,bA,iZ,EK ks b];rfl
def EK:∀ (ts:List aC) (b:Nat),(eF b ts).length=aJ ts
 | [],b=>by rw [eF,aJ];rfl
 | t::ts,b=>by rw [eF,aJ,iZ,gG t b,EK ts _]
end
def rW (t:aC):1<=bA t:=by cases t;rw [bA];omega
def EL (t:aC):bA t=aJ t.kids+1:=by cases t;rw [bA]
def wm:∀ ts:List aC,ts.length<=aJ ts
 | []=>by simp [aJ]
 | t::ts=>by have:=rW t;have:=wm ts;rw [aJ];simp only [oV];omega
def IK:∀ {ts:List aC} {t:aC},t∈ts->bA t<=aJ ts
 | t'::ts,t,h=>by
  rw [aJ];rcases fu.1 h with rfl|h
  .omega
  .have:=IK h;omega
def wo:∀ (a b:List aC),aJ (a++b)=aJ a+aJ b
 | [],b=>by simp [aJ]
 | t::a,b=>by rw [xY,aJ,aJ,wo a b];omega
def Zw:∀ (a b:List aC) (s:Nat),eF s (a++b)=eF s a++eF (s+aJ a) b
 | [],b,s=>by simp [eF,aJ]
 | t::a,b,s=>by rw [xY,eF,eF,aJ,Zw a b,kW,zK]
def Uj:∀ (a b:List aC) (s:Nat),gH s (a++b)=gH s a++gH (s+aJ a) b
 | [],b,s=>by simp [gH,aJ]
 | t::a,b,s=>by rw [xY,gH,gH,aJ,Uj a b,zK];rfl
def EM:∀ (ts:List aC) (b:Nat),(gH b ts).length=ts.length
 | [],b=>rfl
 | t::ts,b=>by rw [gH,oV,oV,EM ts _]
def tH (d:Int) (x:aB):aB:=⟨x.Kind,x.Op,x.Text,x.Other,x.Kids.map (·+d)⟩
def Zx (x:aB):tH 0 x=x:=by
 unfold tH;cases x;simp
def agT (d e:Int) (x:aB):tH d (tH e x)=tH (e+d) x:=by
 unfold tH;simp only [Az,aB.mk.injEq,true_and];refine qx fun k _=>?_;simp only [Function.comp_apply];omega
def agU (l:List aB):l.map (tH 0)=l:=(qx fun x _=>Zx x).trans (BU l)
mutual
def MJ:∀ (t:aC) (b d:Nat),aP (b+d) t=(aP b t).map (tH d)
 | ⟨k,o,x,y,ks⟩,b,d=>by
  rw [aP,aP,tJ,Zy ks b d,Zz ks b d];rfl
def Zy:∀ (ts:List aC) (b d:Nat),eF (b+d) ts=(eF b ts).map (tH d)
 | [],b,d=>rfl
 | t::ts,b,d=>by
  rw [eF,eF,tJ,MJ t b d,Ql,Zy ts _ d]
def Zz:∀ (ts:List aC) (b d:Nat),gH (b+d) ts=(gH b ts).map (·+(d:Int))
 | [],b,d=>rfl
 | t::ts,b,d=>by
  rw [gH,gH,nk,Ql,Zz ts _ d];congr 1;omega
end
def ZA (t:aC) (b:Nat):(aP b t).map (tH<|-(b:Int))=aP 0 t:=by
 have:=MJ t 0 b;rw [mD] at this;rw [this,Az];refine (qx fun x _=>?_).trans (BU _);simp only [Function.comp_apply,agT];rw [show (b:Int)+ -(b:Int)=0 by omega,Zx];rfl
def ZB:∀ (ts:List aC) (b:Nat) (k:Int),k∈gH b ts->0<=k/\k < b+aJ ts
 | [],b,k,h=>by cases h
 | t::ts,b,k,h=>by
  rw [gH] at h;rw [aJ];have:=rW t;rcases fu.1 h with rfl|h
  .omega
  .have:=ZB ts _ k h;omega
mutual
def MB:∀ (t:aC) (b:Nat) (x:aB),x∈aP b t->∀ k,k∈x.Kids->0<=k/\k < b+bA t
 | ⟨kd,o,x,y,ks⟩,b,n,h,k,hk=>by
  rw [aP] at h;rw [bA];rcases iw.1 h with h|h
  .have:=ZC ks b n h k hk;omega
  .rw [ni.1 h] at hk;have:=ZB ks b k hk;omega
def ZC:∀ (ts:List aC) (b:Nat) (x:aB),x∈eF b ts->∀ k,k∈x.Kids->0<=k/\k < b+aJ ts
 | [],b,n,h,k,hk=>by rw [eF] at h;cases h
 | t::ts,b,n,h,k,hk=>by
  rw [eF] at h;rw [aJ];rcases iw.1 h with h|h
  .have:=MB t b n h k hk;omega
  .have:=ZC ts _ n h k hk;omega
end
mutual
def TA (a:List aB):aC->Nat->Nat->Prop
 | ⟨kd,op,x,y,ts⟩,s,i=>∃ n,a[i]?=some n/\n.Kind=kd/\n.Op=op/\n.Text=x/\n.Other=y/\KA a ts n.Kids s i
def KA (a:List aB):List aC->List Int->Nat->Nat->Prop
 | [],ks,s,e=>ks=[]/\s=e
 | t::ts,ks,s,e=>∃ (k:Nat) (ks':List Int),ks=(k:Int)::ks'/\s<=k/\k < e/\TA a t s k/\KA a ts ks' (k+1) e
end
def part (a:List aB) (s e:Nat):List aB:=(a.drop s).take (e - s)
def ZE {a:List aB} {s m e:Nat} (h1:s<=m) (h2:m<=e):part a s m++part a m e=part a s e:=by
 unfold part;rw [show e - s=(m - s)+(e - m) by omega,List.take_add,Uk,show s+(m - s)=m by omega]
def agV {a:List aB} {i:Nat} {n:aB} (h:a[i]?=some n):part a i (i+1)=[n]:=by
 obtain ⟨hi,rfl⟩:=bG.1 h;unfold part;rw [show i+1 - i=1 by omega,IL hi];rfl
def agW (a:List aB) (i:Nat):part a i i=[]:=by
 unfold part;simp
def ZF (a:List aB):part a 0 a.length=a:=by
 unfold part;simp
def TA.lt {a:List aB} {t:aC} {s i:Nat} (h:TA a t s i):i < a.length:=by
 cases t;rw [TA] at h;obtain ⟨n,hn,_⟩:=h;exact (bG.1 hn).1
mutual
def TA.part {a:List aB}:∀ {t:aC} {s i:Nat},TA a t s i->s<=i/\bA t=i+1 - s/\part a s (i+1)=aP s t
 | ⟨kd,op,x,y,ts⟩,s,i,h=>by
  rw [TA] at h;obtain ⟨n,hn,rfl,rfl,rfl,rfl,hk⟩:=h;obtain ⟨h1,h2,h3,h4⟩:=KA.part hk;refine ⟨h1,by rw [bA];omega,?_⟩;rw [aP,<- h3,<- h4,<- ZE h1 (Nat.le_succ i),agV hn]
def KA.part {a:List aB}:∀ {ts:List aC} {ks:List Int} {s e:Nat},KA a ts ks s e->s<=e/\aJ ts=e - s/\Go.Proofs.Tryz.part a s e=eF s ts/\ks=gH s ts
 | [],ks,s,e,h=>by
  rw [KA] at h;obtain ⟨rfl,rfl⟩:=h;exact ⟨fq _,by rw [aJ];omega,by rw [agW,eF],by rw [gH]⟩
 | t::ts,ks,s,e,h=>by
  rw [KA] at h;obtain ⟨k,ks',rfl,h1,h2,ht,hk⟩:=h;obtain ⟨g1,g2,g3⟩:=TA.part ht;obtain ⟨k1,k2,k3,k4⟩:=KA.part hk;have e1:s+bA t=k+1:=ah;refine ⟨ah,by rw [aJ];omega,?_,?_⟩
  .rw [eF,e1,<- g3,<- k3,ZE ah ah]
  .rw [gH,e1,<- k4];congr 1;omega
end
mutual
def Qm {a:List aB}:∀ {t t':aC} {s s' i:Nat},TA a t s i->TA a t' s' i->t=t'/\s=s'
 | ⟨kd,op,x,y,ts⟩,⟨kd',op',x',y',ts'⟩,s,s',i,h,h'=>by
  rw [TA] at h h';obtain ⟨n,hn,rfl,rfl,rfl,rfl,hk⟩:=h;obtain ⟨n',hn',rfl,rfl,rfl,rfl,hk'⟩:=h';rw [hn] at hn';cases hn';obtain ⟨rfl,rfl⟩:=ZG hk hk';exact ⟨rfl,rfl⟩
def ZG {a:List aB}:∀ {ts ts':List aC} {ks:List Int} {s s' e:Nat},KA a ts ks s e->KA a ts' ks s' e->ts=ts'/\s=s'
 | [],[],ks,s,s',e,h,h'=>by
  rw [KA] at h h';exact ⟨rfl,h.2.trans h'.2.symm⟩
 | [],t'::ts',ks,s,s',e,h,h'=>by
  simp only [KA] at h h';obtain ⟨k,ks',e1,_⟩:=h';rw [h.1] at e1;cases e1
 | t::ts,[],ks,s,s',e,h,h'=>by
  simp only [KA] at h h';obtain ⟨k,ks',e1,_⟩:=h;rw [h'.1] at e1;cases e1
 | t::ts,t'::ts',ks,s,s',e,h,h'=>by
  rw [KA] at h h';obtain ⟨k,ks',rfl,_,_,ht,hk⟩:=h;obtain ⟨k2,ks2,e1,_,_,ht',hk'⟩:=h';injection e1 with e1 e2;have:k=k2:=ah;subst this;subst e2;obtain ⟨rfl,rfl⟩:=Qm ht ht';obtain ⟨rfl,_⟩:=ZG hk hk';exact ⟨rfl,rfl⟩
end
def ZH {a:List aB} {r:List Int} {e:Nat} (ih:∀ k s:Nat,k < e->r[k]?=some (s:Int)->∃ t,TA a t s k):∀ (ks:List Int) (s:Nat),Go.Av.Kids r (s:Int) (e:Int) ks->∃ ts,KA a ts ks s e
  | [],s,h=>by
    simp only [Go.Av.Kids] at h;exact ⟨[],by rw [KA];exact ⟨rfl,ah⟩⟩
  | k::ks,s,h=>by
    obtain ⟨h0,h1,h2,h3,h4⟩:=h;obtain ⟨kn,rfl⟩:=lJ (show 0<=k by omega);rw [uT] at h3;obtain ⟨t,ht⟩:=ih kn s ah h3;obtain ⟨ts,hts⟩:=ZH ih ks (kn+1) (by (have:((kn+1:Nat):Int)=(kn:Int)+1:=by omega);rw [this];exact h4);exact ⟨t::ts,by rw [KA];exact ⟨kn,ks,rfl,ah,ah,ht,hts⟩⟩
def ZI {a:List aB} {r:List Int} (hl:Low r) (hk:∀ (i:Nat) (hi:i < a.length),∃ s,r[i]?=some s/\Go.Av.Kids r s (i:Int) a[i].Kids):∀ (i s:Nat),i < a.length->r[i]?=some (s:Int)->∃ t,TA a t s i:=by
 intro i;induction i using Nat.strongRecOn with
 | ind i ih=>
  intro s hi hs;obtain ⟨s',hs',hks⟩:=hk i hi;rw [hs] at hs';cases hs';obtain ⟨ts,hts⟩:=ZH (a:=a) (r:=r) (e:=i) (fun k s hk' hr=>ih k hk' s ah hr) _ _ hks;exact ⟨⟨a[i].Kind,a[i].Op,a[i].Text,a[i].Other,ts⟩,by rw [TA];exact ⟨a[i],cB hi,rfl,rfl,rfl,rfl,hts⟩⟩
def EN {a:List aB} (h:oP a=true):1<=a.length/\a.length<=400/\∃ r,starts (iJ a) []=some r/\r.length=a.length/\Low r/\
  (∀ i,i < a.length->∃ (t:aC) (s:Nat),r[i]?=some (s:Int)/\TA a t s i)/\∃ t,TA a t 0 (a.length - 1):=by
 unfold oP at h;simp only [dS,oO] at h;obtain ⟨⟨h1,h2⟩,h3⟩:=h;cases hst:starts (iJ a) [] with
 | none=>rw [hst] at h3;cases h3
 | some r=>
  rw [hst] at h3;obtain ⟨⟨m,hm,hml⟩,hl,hk⟩:=TM _ (fun j s h=>by simp at h) hst;have hrl:r.length=a.length:=by rw [hm];simp [hml,iJ]
  have hk':∀ (i:Nat) (hi:i < a.length),∃ s,r[i]?=some s/\Go.Av.Kids r s (i:Int) a[i].Kids:=fun i hi=>by
   obtain ⟨s,e1,e2⟩:=hk i a[i].Kids (by simp [iJ,cB hi]);simp only [IQ,mD] at e1 e2;exact ⟨s,e1,e2⟩
  refine ⟨h1,h2,r,rfl,hrl,hl,fun i hi=>?_,?_⟩
  .obtain ⟨s,hs,_⟩:=hk' i hi;have:=(hl i s hs).1;obtain ⟨sn,rfl⟩:=lJ this;obtain ⟨t,ht⟩:=ZI hl hk' i sn hi hs;exact ⟨t,sn,hs,ht⟩
  .have:r[a.length - 1]?=some ((0:Nat):Int):=by simpa [Iw] using h3
   exact ZI hl hk' (a.length - 1) 0 ah this
def Ul {a:List aB} (h:oP a=true):∀ x,x∈a->x.Kids.length<=400/\∀ k,k∈x.Kids->0<=k/\k < a.length:=by
 obtain ⟨h1,h2,r,_,_,_,hT,t,ht⟩:=EN h;obtain ⟨g1,g2,g3⟩:=ht.part;rw [show a.length - 1+1=a.length by omega,ZF] at g3;intro x hx;constructor
 .obtain ⟨i,hi,rfl⟩:=List.getElem_of_mem hx;obtain ⟨t',s,_,ht'⟩:=hT i hi;cases t';rw [TA] at ht';obtain ⟨n,hn,_,_,_,_,hk⟩:=ht';rw [cB hi] at hn;cases hn;obtain ⟨k1,k2,k3,k4⟩:=hk.part;have:=wm ‹List aC›;rw [k4,EM];omega
 .intro k hk;rw [g3] at hx;have:=MB t 0 x hx k hk;omega
def ZJ (a:List aB) (e:aB) (M i:Nat):∀ (ts:List aC) (j n s:Nat) (acc:List aC),(∀ t,t∈ts->∀ s k:Nat,TA a t s k->k < i->(zm M).uJ a (k:Int)=some t)->KA a ts (e.Kids.drop j) s i->acc.length=j->j<=e.Kids.length->e.Kids.length<=100000->ts.length < n->
  Bh M (zm M) n (a,e,(j:Int),acc)=some ⟨e.Kind,e.Op,e.Text,e.Other,acc++ts⟩
 | [],j,n,s,acc,ih,h,ha,hj,he,hn=>by
  simp only [KA] at h;obtain ⟨n,rfl⟩:∃ m,n=m+1:=⟨n - 1,by simp at hn;omega⟩
  have hlt: ¬j < e.Kids.length:=by
   intro hlt;rw [drop_cons hlt] at h;cases h.1
  rw [Bh];simp only [jm hlt,aM,xZ]
 | t::ts,j,n,s,acc,ih,h,ha,hj,he,hn=>by
  simp only [KA] at h;obtain ⟨k,ks',hd,h1,h2,MK,hka⟩:=h;simp only [oV] at hn;obtain ⟨n,rfl⟩:∃ m,n=m+1:=⟨n - 1,ah⟩
  have hlt:j < e.Kids.length:=by
   cases rU j e.Kids.length with
   | inl h=>exact h
   | inr h=>rw [IU h] at hd;cases hd
  rw [drop_cons hlt] at hd;injection hd with hd1 hd2;rw [Bh];simp only [iQ hlt,aU,bH hlt,hd1,aD];rw [ih t aF s k MK h2,aD,lI bI,aD,wrap64 ah ah];have:=ZJ a e M i ts (j+1) n (k+1) (acc++[t]) (fun t' h'=>ih t'<|by simp [h']) (hd2 ▸ hka) (by simp [ha]) ah he ah;rw [kW] at this;exact this
def agX (a:List aB):∀ (t:aC) (s i N:Nat),TA a t s i->i<=100000->2*bA t+2<=N->(zm N).uJ a (i:Int)=some t:=by
 intro t;induction t using BN with
 | h t ih=>
  intro s i N h hi hN;obtain ⟨M,rfl⟩:∃ M,N=M+1:=⟨N - 1,ah⟩
  obtain ⟨kd,op,x,y,ts⟩:=t;have hsz:=(TA.part h).2.1;rw [TA] at h;obtain ⟨n,hn,rfl,rfl,rfl,rfl,hk⟩:=h;obtain ⟨h1,h2,h3,h4⟩:=hk.part;have hkl:n.Kids.length=ts.length:=by rw [h4,EM]
  have htl:=wm ts;rw [bA] at hsz hN;show Lr M (zm M) a (i:Int)=_;unfold Lr;rw [EO hn,aD];have:=ZJ a n M i ts 0 M s [] (fun t' ht' s' k MK hki=>ih t' ht' s' k M MK ah (by have:=IK ht';omega)) (by simpa using hk) rfl ah ah ah;simpa using this
def EH (N:Nat) (a:List aB) (hN:1000 < N) {t:aC} (h:TA a t 0 (a.length - 1)) (h1:1<=a.length) (h2:a.length<=400):zn N a=some t:=by
 obtain ⟨_,hs,_⟩:=h.part;unfold zn;rw [wrap64 ah ah,show (a.length:Int) - 1=((a.length - 1:Nat):Int) by omega];have:=agX a t 0 (a.length - 1) N h ah ah;show Option.bind ((zm N).uJ a _) _=_;rw [this];rfl
def ZK (t:aC) (G:Nat):∀ (ts:List aC) (j n:Nat) (acc:List aB) (ids:List Int),(∀ k,k∈ts->∀ acc:List aB,acc.length+bA k<=1000000->(zw G).uK k acc=some (acc++aP acc.length k))->t.kids.drop j=ts->ts.length < n->
  acc.length+aJ ts<=999999->ids.length+ts.length<=1000000->t.kids.length<=1000000->
  Bq G (zw G) n (t,(j:Int),acc,ids)=some (acc++eF acc.length ts++[⟨t.kind,t.op,t.text,t.other,ids++gH acc.length ts⟩])
 | [],j,n,acc,ids,ih,hd,hn,hacc,ZL,htl=>by
  obtain ⟨n,rfl⟩:∃ m,n=m+1:=⟨n - 1,by simp at hn;omega⟩
  have hj: ¬j < t.kids.length:=by
   intro h;rw [drop_cons h] at hd;cases hd
  rw [Bq];simp only [jm hj,aM];rw [lI bI,aD];simp [eF,gH]
 | k::ts,j,n,acc,ids,ih,hd,hn,hacc,ZL,htl=>by
  simp only [oV] at hn ZL;rw [aJ] at hacc;obtain ⟨n,rfl⟩:∃ m,n=m+1:=⟨n - 1,ah⟩
  have hj:j < t.kids.length:=by
   cases rU j t.kids.length with
   | inl h=>exact h
   | inr h=>rw [IU h] at hd;cases hd
  rw [drop_cons hj] at hd;injection hd with hd1 hd2;have hsz:=rW k;have hlen:(acc++aP acc.length k).length=acc.length+bA k:=by rw [iZ,gG]
  rw [Bq];simp only [iQ hj,aU,bH hj,hd1,aD];rw [ih k aF acc ah,aD,hlen,wrap64 ah ah,lI bI,aD,wrap64 ah ah];have:=ZK t G ts (j+1) n (acc++aP acc.length k) (ids++[((acc.length+bA k:Nat):Int) - 1]) (fun k' h'=>ih k'<|by simp [h']) hd2 ah (by rw [hlen];omega) bI htl;rw [hlen] at this;rw [show ((j:Int)+1)=((j+1:Nat):Int) by omega,this,eF,gH];simp only [kW,xY,yg]
def agY:∀ (t:aC) (N:Nat) (acc:List aB),2*bA t+2<=N->acc.length+bA t<=1000000->(zw N).uK t acc=some (acc++aP acc.length t):=by
 intro t;induction t using BN with
 | h t ih=>
  intro N acc hN ha;obtain ⟨M,rfl⟩:∃ M,N=M+1:=⟨N - 1,ah⟩
  have hsz:=EL t;have htl:=wm t.kids;show LG M (zw M) t acc=_;unfold LG;have:=ZK t M t.kids 0 M acc [] (fun k hk acc' ha'=>ih k hk M acc' (by have:=IK hk;omega) ha') rfl ah ah bI ah;refine IV this ?_;obtain ⟨kd,op,x,y,ts⟩:=t;rw [aP];simp
def ZM (N:Nat) (t:aC) (hN:2*bA t+2<=N) (h:bA t<=1000000):LH N t=some (aP 0 t):=by
 unfold LH;have:=agY t N [] hN (by simpa using h);show Option.bind ((zw N).uK t []) _=_;rw [this];simp
def agZ (N:Nat) (kb:(List aB×Int×Int×List aB)->Option (List aB)) (a:List aB) (d:Int) (i:Nat) (hi:i < a.length) (hi2:i<=1048576) (out:List aB) (ho:out.length=i) (hk:a[i].Kids.length<=1048576)
  (hr:∀ k,k∈a[i].Kids-> -9223372036854775808<=k+d/\k+d<=9223372036854775807):
  ∀ (n j:Nat) (ks:List Int),a[i].Kids.length - j < n->j<=a[i].Kids.length->ks.length=j->
   Da N kb n (a,d,(i:Int),out,a[i],(j:Int),ks)=kb (a,d,((i+1:Nat):Int),out++[⟨a[i].Kind,a[i].Op,a[i].Text,a[i].Other,ks++(a[i].Kids.drop j).map (·+d)⟩]):=by
 intro n;induction n with
 | zero=>intro j ks h;omega
 | succ n ih=>
  intro j ks hn hj hks;rw [Da,bH hi,aD];by_cases h:j < a[i].Kids.length
  .have hx:=hr _ (jy h);simp only [iQ h,aU,bH hi,bH h,aD,Mt h<|by simp only [maxLen];omega];rw [wrap64 hx.1 hx.2,lI bI,aD,ih (j+1) _ ah ah (by simp [hks]),drop_cons h];simp only [nk,kW,xY,yg]
  .simp only [jm h,aM];rw [lI bI,aD,drop_nil h,wrap64 ah ah];simp
def aha (N:Nat) (a:List aB) (d:Int) (hN:1048577 < N) (ha:a.length<=1048576) (hs:∀ x,x∈a->x.Kids.length<=1048576) (hr:∀ x,x∈a->∀ k,k∈x.Kids-> -9223372036854775808<=k+d/\k+d<=9223372036854775807):
  ∀ (n i:Nat) (out:List aB),a.length - i < n->i<=a.length->out.length=i->yZ N n (a,d,(i:Int),out)=some (out++(a.drop i).map (tH d)):=by
 intro n;induction n with
 | zero=>intro i out h;omega
 | succ n ih=>
  intro i out hn hi ho;rw [yZ];by_cases h:i < a.length
  .have hx:=hs _ (jy h);simp only [iQ h,aU,bH h,aD];have:=agZ N (yZ N n) a d i h ah out ho ah (hr _<|jy h) N 0 [] ah ah rfl;simp only [Iy,yg] at this;refine IV this ?_;rw [ih (i+1) _ ah ah (by simp [ho]),drop_cons h];simp only [nk,kW,xY,yg,tH]
  .simp only [jm h,aM];rw [drop_nil h];simp
def Um (N:Nat) (a:List aB) (d:Int) (hN:1048577 < N) (ha:a.length<=1048576) (hs:∀ x,x∈a->x.Kids.length<=1048576) (hr:∀ x,x∈a->∀ k,k∈x.Kids-> -9223372036854775808<=k+d/\k+d<=9223372036854775807):
  AB N a d=some (a.map<|tH d):=by
 have:=aha N a d hN ha hs hr N 0 [] ah ah rfl;rw [Iy,yg] at this;exact this
mutual
def IB:∀ (t:aC) (b:Nat) (x:aB),x∈aP b t->x.Kids.length < bA t
 | ⟨kd,o,x,y,ks⟩,b,n,h=>by
  rw [aP] at h;rw [bA];rcases iw.1 h with h|h
  .have:=ZN ks b n h;omega
  .rw [ni.1 h];have:=wm ks;simp only [EM];omega
def ZN:∀ (ts:List aC) (b:Nat) (x:aB),x∈eF b ts->x.Kids.length < aJ ts
 | [],b,n,h=>by rw [eF] at h;cases h
 | t::ts,b,n,h=>by
  rw [eF] at h;rw [aJ];rcases iw.1 h with h|h
  .have:=IB t b n h;omega
  .have:=ZN ts _ n h;omega
end
def ahb (N:Nat) (t:aC) (b d:Nat) (hN:1048577 < N) (h:b+d+bA t<=1000000):AB N (aP b t) (d:Int)=some (aP (b+d) t):=by
 rw [MJ];exact Um N _ _ hN (by rw [gG];omega) (fun x hx=>by have:=IB t b x hx;omega) fun x hx k hk=>by have:=MB t b x hx k hk;omega
def ahc (N:Nat) (t:aC) (b:Nat) (hN:1048577 < N) (h:b+bA t<=1000000):AB N (aP b t) (-(b:Int))=some (aP 0 t):=by
 rw [<- ZA t b];exact Um N _ _ hN (by rw [gG];omega) (fun x hx=>by have:=IB t b x hx;omega) fun x hx k hk=>by have:=MB t b x hx k hk;omega
def ZO (N:Nat) (a:List aB) (hN:1048577 < N) (hs:∀ x,x∈a->jG x) (hsh:oP a=true) {t:aC} {s i:Nat} (h:TA a t s i):Il N a (i:Int)=some (aP 0 t):=by
 obtain ⟨h1,h2,r,hst,hrl,hl,hT,_⟩:=EN hsh;have hi:=h.lt;obtain ⟨t',s',hr,ht'⟩:=hT i hi;obtain ⟨rfl,rfl⟩:=Qm h ht';obtain ⟨g1,g2,g3⟩:=h.part;unfold Il;rw [YR N a hN h2 hs,hst];simp only [aD];rw [EO hr,aD,wrap64 ah ah,show (i:Int)+1=((i+1:Nat):Int) by omega,YU ah ah,aD,aD,wrap64 ah ah,show (0:Int) - (s:Int)= -(s:Int) by omega];have e:(a.drop s).take (i+1 - s)=aP s t:=g3;rw [e,ahc N t s hN ah];rfl
def ZP (N:Nat) (n0:aB) (ts:List aC) (hN:1048577 < N) (hsz:aJ ts<=900000):∀ (rest done:List aC) (n:Nat),done++rest=ts->rest.length < n->
  AJ N n (ts.map<|aP 0,n0,(done.length:Int),eF 0 done,gH 0 done)=some (aP 0 ⟨n0.Kind,n0.Op,n0.Text,n0.Other,ts⟩)
 | [],done,n,hd,hn=>by
  obtain ⟨n,rfl⟩:∃ m,n=m+1:=⟨n - 1,by simp at hn;omega⟩
  rw [xZ] at hd;subst hd;have hl:=wm done;have: ¬done.length < (done.map<|aP 0).length:=aF;rw [AJ];simp only [jm this,aM];rw [lI (by rw [EK];simp;omega),aD,aP]
 | t::rest,done,n,hd,hn=>by
  simp only [oV] at hn;obtain ⟨n,rfl⟩:∃ m,n=m+1:=⟨n - 1,ah⟩
  have hlt:done.length < (ts.map<|aP 0).length:=by rw [<- hd];simp
  have hlt2:done.length < ts.length:=by simpa using hlt
  have hx:(ts.map<|aP 0)[done.length]'hlt=aP 0 t:=by simp [<- hd]
  have hsum:aJ done+bA t+aJ rest=aJ ts:=by rw [<- hd,wo,aJ];omega
  have hl:=wm done;have hp:=rW t;rw [AJ];simp only [iQ hlt,aU,bH hlt,aD,hx,EK];have hsh:=ahb N t 0 (aJ done) hN ah;rw [mD] at hsh;rw [hsh,aD,lI (by rw [EK,gG];omega),aD,iZ,EK,gG,wrap64 (n:=((aJ done+bA t:Nat):Int) - 1) ah ah,lI (by rw [EM];simp;omega),aD,wrap64 ah ah];have:=ZP N n0 ts hN hsz rest (done++[t]) n (by simpa using hd) ah;rw [Zw,Uj,mD] at this;simp only [eF,gH,xZ,iZ,oV,IQ] at this;exact this
def MH (N:Nat) (n0:aB) (ts:List aC) (hN:1048577 < N) (hsz:aJ ts<=900000):dQ N n0 (ts.map<|aP 0)=some (aP 0 ⟨n0.Kind,n0.Op,n0.Text,n0.Other,ts⟩):=
 ZP N n0 ts hN hsz ts [] N rfl (by have:=wm ts;omega)
mutual
def eu:aC->Nat
 | ⟨_,_,_,_,ks⟩=>dz ks+1
def dz:List aC->Nat
 | []=>0
 | t::ts=>max (eu t) (dz ts)
end
mutual
def Un:∀ t:aC,eu t<=bA t
 | ⟨k,o,x,y,ks⟩=>by have:=ZQ ks;rw [eu,bA];omega
def ZQ:∀ ts:List aC,dz ts<=aJ ts
 | []=>by rw [dz,aJ];omega
 | t::ts=>by have:=Un t;have:=ZQ ts;rw [dz,aJ];omega
end
def Zb (t:aC):eu t=dz t.kids+1:=by cases t;rw [eu]
def ZR (t:aC) (G:Nat) (hsz:bA t<=100000):∀ (ts:List aC) (j n m:Nat),(∀ k,k∈ts->(Bn G).rR k=some (eu k:Int))->t.kids.drop j=ts->ts.length < n->m<=100000->
  Bl G (Bn G) n (t,(m:Int),(j:Int))=some (((max m (dz ts)+1:Nat):Int))
 | [],j,n,m,ih,hd,hn,hm=>by
  obtain ⟨n,rfl⟩:∃ m,n=m+1:=⟨n - 1,by simp at hn;omega⟩
  have hj: ¬j < t.kids.length:=by
   intro h;rw [drop_cons h] at hd;cases hd
  rw [Bl];simp only [jm hj,aM];rw [wrap64 ah ah,dz];congr 1;omega
 | k::ts,j,n,m,ih,hd,hn,hm=>by
  simp only [oV] at hn;obtain ⟨n,rfl⟩:∃ m,n=m+1:=⟨n - 1,ah⟩
  have hj:j < t.kids.length:=by
   cases rU j t.kids.length with
   | inl h=>exact h
   | inr h=>rw [IU h] at hd;cases hd
  have hjl:t.kids.length<=100000:=by have:=wm t.kids;have:=EL t;omega
  have hmem:k∈t.kids:=by
   have:k∈t.kids.drop j:=by rw [hd];simp
   exact List.mem_of_mem_drop this
  have hkd:eu k<=100000:=by have:=Un k;have:=IK hmem;have:=EL t;omega
  rw [drop_cons hj] at hd;injection hd with hd1 hd2;rw [Bl];simp only [iQ hj,aU,bH hj,hd1,aD];rw [ih k aF,aD,wrap64 ah ah];have hmax:(if (eu k:Int) > (m:Int) then (eu k:Int) else (m:Int))=((max m (eu k):Nat):Int):=by split<;>omega
  rw [hmax,show ((j:Int)+1)=((j+1:Nat):Int) by omega,ZR t G hsz ts (j+1) n (max m<|eu k) (fun k' h'=>ih k'<|by simp [h']) hd2 ah ah,dz,Nat.max_assoc]
def ahd:∀ (t:aC) (N:Nat),2*bA t+2<=N->bA t<=100000->(Bn N).rR t=some (eu t:Int):=by
 intro t;induction t using BN with
 | h t ih=>
  intro N hN hsz;obtain ⟨M,rfl⟩:∃ M,N=M+1:=⟨N - 1,ah⟩
  have h1:=EL t;have h2:=wm t.kids;show Lv M (Bn M) t=_;unfold Lv;have:=ZR t M hsz t.kids 0 M 0 (fun k hk=>ih k hk M (by have:=IK hk;omega) (by have:=IK hk;omega)) rfl ah ah;refine IV this ?_;rw [Zb,Nat.zero_max]
def ZT (a:List aB) (d:List Int):Prop:=∀ (j:Nat) (v:Int),d[j]?=some v->∃ t s,TA a t s j/\v=eu t
def ZU (N:Nat) (kb:(List aB×Int×List Int)->Option Int) (a:List aB) (ha:a.length<=400) (i:Nat) (hi:i < a.length) (d:List Int) (hd:d.length=i) (hok:ZT a d) (hkl:a[i].Kids.length<=400):∀ (ts:List aC) (j n s m:Nat),KA a ts (a[i].Kids.drop j) s i->j<=a[i].Kids.length->ts.length < n->m<=1000->aJ ts<=400->
  Bw N kb n (a,(i:Int),d,(m:Int),(j:Int))=kb (a,((i+1:Nat):Int),d++[((max m (dz ts+(if ts=[] then 0 else 1)):Nat):Int)])
 | [],j,n,s,m,h,hj,hn,hm,hsz=>by
  simp only [KA] at h;obtain ⟨n,rfl⟩:∃ m,n=m+1:=⟨n - 1,by simp at hn;omega⟩
  have hlt: ¬j < a[i].Kids.length:=by
   intro hlt;rw [drop_cons hlt] at h;cases h.1
  rw [Bw,bH hi,aD];simp only [jm hlt,aM];rw [lI bI,aD,wrap64 ah ah,dz];simp
 | t::ts,j,n,s,m,h,hj,hn,hm,hsz=>by
  simp only [KA] at h;obtain ⟨k,ks',hdk,h1,h2,MK,hka⟩:=h;simp only [oV] at hn;rw [aJ] at hsz;obtain ⟨n,rfl⟩:∃ m,n=m+1:=⟨n - 1,ah⟩
  have hlt:j < a[i].Kids.length:=by
   cases rU j a[i].Kids.length with
   | inl h=>exact h
   | inr h=>rw [IU h] at hdk;cases hdk
  rw [drop_cons hlt] at hdk;injection hdk with hd1 hd2;have hkd:k < d.length:=ah;obtain ⟨t',s',ht',hv⟩:=hok k d[k] (cB hkd);obtain ⟨rfl,rfl⟩:=Qm MK ht';have hdl:=Un t;rw [Bw,bH hi,aD];simp only [iQ hlt,aU,bH hi,bH hlt,aD,hd1];rw [bH hkd,aD,hv,wrap64 (n:=1+(eu t:Int)) ah ah,wrap64 ah ah];have hmax:(if 1+(eu t:Int) > (m:Int) then 1+(eu t:Int) else (m:Int))=((max m (eu t+1):Nat):Int):=by split<;>omega
  rw [hmax,show ((j:Int)+1)=((j+1:Nat):Int) by omega,ZU N kb a ha i hi d hd hok hkl ts (j+1) n (k+1) _ (hd2 ▸ hka) ah ah ah ah,dz];have e:max (max m<|eu t+1) (dz ts+(if ts=[] then 0 else 1))=max m (max (eu t) (dz ts)+(if t::ts=[] then 0 else 1)):=by
   have h3:(t::ts=[])=False:=aF;simp only [h3,if_false];split
   .subst_vars;rw [dz];omega
   .omega
  rw [e]
def ahe (N:Nat) (a:List aB) (hN:1000 < N) (ha:a.length<=400) (h1:1<=a.length) (hT:∀ i,i < a.length->∃ (t:aC) (s:Nat),TA a t s i) {t0:aC} (h0:TA a t0 0 (a.length - 1)):∀ (n i:Nat) (d:List Int),a.length - i < n->i<=a.length->d.length=i->ZT a d->
  zy N n (a,(i:Int),d)=some (eu t0:Int):=by
 intro n;induction n with
 | zero=>intro i d h;omega
 | succ n ih=>
  intro i d hn hi hd hok;rw [zy];by_cases h:i < a.length
  .obtain ⟨t,s,ht⟩:=hT i h;have htp:=ht.part;obtain ⟨kd,op,x,y,ts⟩:=t;have ht2:=ht;rw [TA] at ht2;obtain ⟨n0,hn0,_,_,_,_,hk⟩:=ht2;rw [cB h] at hn0;cases hn0;obtain ⟨k1,k2,k3,k4⟩:=hk.part;have hl:=wm ts;have hkl:a[i].Kids.length=ts.length:=by rw [k4,EM]
   rw [bA] at htp;have:=ZU N (zy N n) a ha i h d hd hok ah ts 0 N s 1 (by simpa using hk) ah ah ah ah;simp only [iQ h,aU];refine IV this ?_;have e:max 1 (dz ts+(if ts=[] then 0 else 1))=eu ⟨a[i].Kind,a[i].Op,a[i].Text,a[i].Other,ts⟩:=by
    rw [eu];split
    .subst_vars;rw [dz];rfl
    .omega
   refine ih (i+1) _ ah ah (by simp [hd]) fun j v hv=>?_;rw [List.getElem?_append] at hv;split at hv
   .exact hok j v hv
   .rename_i hj;have hji:j=i:=by
     have:=(bG.1 hv).1;simp at this;omega
    subst hji;rw [hd,Uo] at hv;simp only [yh,eH] at hv;refine ⟨_,_,ht,?_⟩;rw [<- hv,e];simp_all [eu]
  .simp only [jm h,aM];have hia:i=a.length:=ah;have hlt:a.length - 1 < d.length:=ah;obtain ⟨t',s',ht',hv⟩:=hok (a.length - 1) _ (cB hlt);obtain ⟨rfl,_⟩:=Qm h0 ht';have hx:=bH hlt;rw [wrap64 ah ah,show (a.length:Int) - 1=((a.length - 1:Nat):Int) by omega,hx,aD,hv]
def Uq (N:Nat) (a:List aB) (hN:1048577 < N) (hs:∀ x,x∈a->jG x) (hsh:oP a=true) {t:aC} (ht:TA a t 0 (a.length - 1)):LM N a=some (eu t:Int):=by
 obtain ⟨h1,h2,r,_,_,_,hT,_⟩:=EN hsh;unfold LM;rw [TL N a hN hs,hsh,aD];exact ahe N a ah h2 h1 (fun i hi=>by obtain ⟨t,s,_,h⟩:=hT i hi;exact ⟨t,s,h⟩) ht N 0 [] ah ah rfl (fun j v h=>by simp at h)
def ahf (N:Nat) (a:List aB) (hN:1048577 < N) (ha:a.length<=400) (i:Nat) (hi:i < a.length) (hf:FK a[i]) (hkl:a[i].Kids.length<=400) (hkr:∀ k,k∈a[i].Kids->0<=k/\k < a.length) (jk ZV:(List aB×Int)->Option Bool) (c:Bool)
  (hkb:∃ b:Bool,jk (a,((i+1:Nat):Int))=some b/\ZV (a,((i+1:Nat):Int))=some (b&&c)):∀ (n j:Nat),a[i].Kids.length - j < n->j<=a[i].Kids.length->
  ∃ b:Bool,tq N jk n (a,(i:Int),(j:Int))=some b/\DY N ZV n (a,(i:Int),a[i],(j:Int))=some (b&&c):=by
 intro n;induction n with
 | zero=>intro j h;omega
 | succ n ih=>
  intro j hn hj;rw [tq,DY,bH hi,aD];by_cases h:j < a[i].Kids.length
  .have hk:=hkr _ (jy h);have hk2:a[i].Kids[j].toNat < a.length:=ah;have hx:ix a a[i].Kids[j]=some a[a[i].Kids[j].toNat]:=by
    have:=bH hk2;rwa [TJ hk.1] at this
   obtain ⟨b,b1,b2⟩:=agR a[i] j a[a[i].Kids[j].toNat].Kind hf h hkl;simp only [iQ h,aU,bH hi,bH h,aD,hx,b1,b2];cases b with
   | false=>exact ⟨false,rfl,rfl⟩
   | true=>
    simp only [jK,aM];rw [wrap64 ah ah,show ((j:Int)+1)=((j+1:Nat):Int) by omega];exact ih (j+1) ah ah
  .simp only [jm h,aM];rw [wrap64 ah ah];exact hkb
def ZW (a:List aB):Prop:=∀ x,x∈a->FK x/\dI x.Kind
def ahg (N:Nat) (a:List aB) (hN:1048577+400 < N) (ha:a.length<=400) (hs:∀ x,x∈a->jG x) (hk:∀ x,x∈a->x.Kids.length<=400/\∀ k,k∈x.Kids->0<=k/\k < a.length) (c:Bool) (hc:Option.bind (zn N a) (fun r=>(rR N r).bind fun q=>some<|decide<|q<=40)=some c):∀ (n i:Nat),a.length - i < n->i<=a.length->
  ∃ b:Bool,oL N n (a,(i:Int))=some b/\xL N n (a,(i:Int))=some (b&&c)/\(b=true->∀ x,x∈a.drop i->FK x/\dI x.Kind):=by
 intro n;induction n with
 | zero=>intro i h;omega
 | succ n ih=>
  intro i hn hi;rw [oL,xL];by_cases h:i < a.length
  .have hx:=jy h;obtain ⟨hk1,hk2⟩:=hk _ hx;obtain ⟨b,b1,b2,b3⟩:=agx N a[i] ah (hs _ hx) hk1;simp only [iQ h,aU,bH h,aD,b1,b2];cases b with
   | false=>exact ⟨false,rfl,rfl,fun h=>by cases h⟩
   | true=>
    simp only [jK,aM];obtain ⟨q,q1,q2,q3⟩:=ih (i+1) ah ah;obtain ⟨b',e1,e2⟩:=ahf N a ah ha i h (b3 rfl).1 hk1 hk2 (oL N n) (xL N n) c ⟨q,q1,q2⟩ N 0 ah ah;refine ⟨b',e1,e2,fun hb x hx=>?_⟩;rw [drop_cons h] at hx;rcases fu.1 hx with rfl|hx
    .exact b3 rfl
    .refine q3 ?_ x hx;subst hb;have:∀ (m j:Nat),a[i].Kids.length - j < m->j<=a[i].Kids.length->tq N (oL N n) m (a,(i:Int),(j:Int))=some true->q=true:=by
      intro m;induction m with
      | zero=>intro j h;omega
      | succ m ML=>
       intro j hm hj hh;rw [tq,bH h,aD] at hh;by_cases hlt:j < a[i].Kids.length
       .simp only [iQ hlt,aU,bH h,bH hlt,aD] at hh;obtain ⟨y1,_,hh⟩:=jL.1 hh;obtain ⟨y2,_,hh⟩:=jL.1 hh;cases y2 with
        | false=>cases hh
        | true=>
         simp only [jK,aM] at hh;rw [wrap64 ah ah,show ((j:Int)+1)=((j+1:Nat):Int) by omega] at hh;exact ML (j+1) ah ah hh
       .simp only [jm hlt,aM] at hh;rw [wrap64 ah ah] at hh;have hh':oL N n (a,((i+1:Nat):Int))=some true:=hh;rw [q1] at hh';exact nU hh'
     exact this N 0 ah ah e1
  .simp only [jm h,aM];refine ⟨true,rfl,by rw [hc,PX],fun _ x hx=>?_⟩;rw [drop_nil h] at hx;cases hx
def ahh (N:Nat) (a:List aB) (hN:1048577+400 < N) (hs:∀ x,x∈a->jG x):∃ b:Bool,rT N a=some b/\Lx N a=some b/\(b=true->oP a=true/\ZW a):=by
 unfold rT Lx;rw [TL N a ah hs,afS N a ah];simp only [aD];cases hsh:oP a with
 | false=>exact ⟨false,rfl,rfl,fun h=>by cases h⟩
 | true=>
  obtain ⟨h1,h2,r,_,_,_,hT,t,ht⟩:=EN hsh;have hd:=Uq N a ah hs hsh ht;obtain ⟨_,hsz,_⟩:=ht.part;have hdi:rR N t=some (eu t:Int):=ahd t N ah ah;have hc:Option.bind (zn N a) (fun r=>(rR N r).bind fun q=>some<|decide<|q<=40)=some (decide<|(eu t:Int)<=40):=by
   rw [EH N a ah ht h1 h2,aD,hdi,aD]
  obtain ⟨b,b1,b2,b3⟩:=ahg N a hN h2 hs (Ul hsh) _ hc N 0 ah ah;have b1':oL N N (a,0)=some b:=b1;have b2':xL N N (a,0)=some (b&&decide ((eu t:Int)<=40)):=b2;simp only [jK,aM,hd,aD,b1',b2'];by_cases hle:(eu t:Int)<=40
  .have e1:decide ((eu t:Int) > 40)=false:=bI;have e2:decide ((eu t:Int)<=40)=true:=bI;simp only [e1,e2,aM,aD,wh];exact ⟨b,rfl,rfl,fun hb=>⟨trivial,fun x hx=>b3 hb x<|by simpa using hx⟩⟩
  .have e1:decide ((eu t:Int) > 40)=true:=bI;have e2:decide ((eu t:Int)<=40)=false:=bI;simp only [e1,e2,aU,aD,Zt];exact ⟨false,rfl,rfl,fun h=>by cases h⟩
def Qc (x:aB):Prop:=∀ k,k∈x.Kids-> -9223372036854775808<=k/\k<=9223372036854775807
def ahi (l:List Int) (h:l.length<=1048576):LA l=some l:=by
 unfold LA;rw [lI bI,aD,yg]
def ahj (N:Nat) (a:List aB) (ha:a.length<=1048576) (hs:∀ x,x∈a->jG x):∀ (n i:Nat),a.length - i < n->i<=a.length->DZ N n (a,(i:Int),a.take i)=some a:=by
 intro n;induction n with
 | zero=>intro i h;omega
 | succ n ih=>
  intro i hn hi;rw [DZ];by_cases h:i < a.length
  .have hx:=hs _ (jy h);unfold jG at hx;simp only [iQ h,aU,bH h,aD];rw [ahi _ ah,aD,lI bI,aD,wrap64 ah ah];have e:a.take i++[(⟨a[i].Kind,a[i].Op,a[i].Text,a[i].Other,a[i].Kids⟩:aB)]=a.take (i+1):=by
    rw [Mx,cB h];rfl
   rw [e];exact ih (i+1) ah ah
  .simp only [jm h,aM];rw [YQ ah]
def ahk (N:Nat) (a:List aB) (hN:1048577 < N) (ha:a.length<=1048576) (hs:∀ x,x∈a->jG x):LC N a=some a:=
 ahj N a ha hs N 0 ah ah
def ahl (N:Nat) (a:List aB) (hN:1048577 < N) (ha:a.length<=1048576) (hs:∀ x,x∈a->jG x) (hi:∀ x,x∈a->Qc x):Mg N a=some a:=by
 unfold Mg;rw [Um N a 0 hN ha (fun x hx=>by have:=hs x hx;unfold jG at this;omega) fun x hx k hk=>by have:=hi x hx k hk;omega,aD,agU]
def Qg (N:Nat) (a:List aB) (hN:1048577+400 < N) (hs:∀ x,x∈a->jG x):∃ b:Bool,uN N a=some b/\xM N a=some b/\(b=true->oP a=true/\ZW a):=by
 obtain ⟨b,b1,b2,b3⟩:=ahh N a hN hs;unfold uN xM;rw [b1,b2];simp only [aD];cases b with
 | false=>exact ⟨false,rfl,rfl,fun h=>by cases h⟩
 | true=>
  obtain ⟨h1,h2⟩:=b3 rfl;obtain ⟨l1,l2,_⟩:=EN h1;have hlt:a.length - 1 < a.length:=ah;have hx:=bH hlt;rw [wrap64 ah ah,show (a.length:Int) - 1=((a.length - 1:Nat):Int) by omega,hx];simp only [aU,aD,zI,zJ];exact ⟨_,rfl,rfl,fun _=>⟨h1,h2⟩⟩
def TA.node {a:List aB} {t:aC} {s i:Nat} (h:TA a t s i):∃ n,a[i]?=some n/\t.kind=n.Kind/\t.op=n.Op/\t.text=n.Text/\t.other=n.Other/\KA a t.kids n.Kids s i/\t.kids.length=n.Kids.length:=by
 obtain ⟨kd,op,x,y,ts⟩:=t;rw [TA] at h;obtain ⟨n,hn,rfl,rfl,rfl,rfl,hk⟩:=h;have h4:=hk.part.2.2.2;exact ⟨n,hn,rfl,rfl,rfl,rfl,hk,by rw [h4,EM]⟩
def KA.get {a:List aB}:∀ {ts:List aC} {ks:List Int} {s e:Nat},KA a ts ks s e->∀ (j:Nat) (t:aC),ts[j]?=some t->∃ k s':Nat,ks[j]?=some (k:Int)/\TA a t s' k/\k < e
 | [],ks,s,e,h,j,t,hj=>by simp at hj
 | t0::ts,ks,s,e,h,j,t,hj=>by
  rw [KA] at h;obtain ⟨k,ks',rfl,h1,h2,ht,hk⟩:=h;cases j with
  | zero=>
   simp only [yh,eH] at hj;subst hj;exact ⟨k,s,rfl,ht,h2⟩
  | succ j=>
   simp only [EP] at hj ⊢;exact KA.get hk j t hj
def ahm {t:aC} {b:Nat} (hsz:bA t<=1000000) (ht:∀ x,x∈aP b t->x.Text.length<=1048576/\x.Other.length<=1048576):∀ x,x∈aP b t->jG x:=fun x hx=>by
 have:=IB t b x hx;have:=ht x hx;unfold jG;omega
def tx (x:aB):Prop:=x.Text.length<=1048576/\x.Other.length<=1048576
def uU (t:aC):Prop:=∀ x,x∈aP 0 t->tx x
def ZX {t:aC} (h:uU t) (b:Nat):∀ x,x∈aP b t->tx x:=fun x hx=>by
 have e:=MJ t 0 b;rw [mD] at e;rw [e] at hx;obtain ⟨y,hy,rfl⟩:=lK.1 hx;exact h y hy
def ahn {ts:List aC} (h:∀ t,t∈ts->uU t):∀ (b:Nat) x,x∈eF b ts->tx x:=by
 induction ts with
 | nil=>intro b x hx;rw [eF] at hx;cases hx
 | cons t ts ih=>
  intro b x hx;rw [eF] at hx;rcases iw.1 hx with hx|hx
  .exact ZX (h t aF) b x hx
  .exact ih (fun t' h'=>h t'<|by simp [h']) _ x hx
def aho {kd op:Int} {x y:List UInt8} {ts:List aC} (h:∀ t,t∈ts->uU t) (hx:x.length<=1048576) (hy:y.length<=1048576):uU ⟨kd,op,x,y,ts⟩:=fun n hn=>by
 rw [aP] at hn;rcases iw.1 hn with hn|hn
 .exact ahn h 0 n hn
 .rw [ni.1 hn];exact ⟨hx,hy⟩
def Ur {a:List aB} (hs:∀ x,x∈a->jG x) {t:aC} {s i:Nat} (h:TA a t s i):uU t:=by
 have h3:=h.part.2.2;intro x hx;rw [<- ZA t s,<- h3] at hx;obtain ⟨y,hy,rfl⟩:=lK.1 hx;have:y∈a:=by
  unfold part at hy;exact List.mem_of_mem_drop (TS hy)
 have:=hs y this;unfold jG at this;exact ⟨this.1,this.2.1⟩
def ZY {t:aC} (hsz:bA t<=1000000) (ht:uU t) (b:Nat):∀ x,x∈aP b t->jG x:=
 ahm hsz fun x hx=>ZX ht b x hx
mutual
def BX (b:Nat):aC->List Int
 | ⟨_,_,_,_,ks⟩=>lM b ks++[(b:Int)]
def lM (b:Nat):List aC->List Int
 | []=>[]
 | t::ts=>BX b t++lM (b+bA t) ts
end
mutual
def Us:∀ (t:aC) (b:Nat),(BX b t).length=bA t
 | ⟨_,_,_,_,ks⟩,b=>by rw [BX,bA,iZ,ER ks b];rfl
def ER:∀ (ts:List aC) (b:Nat),(lM b ts).length=aJ ts
 | [],b=>by rw [lM,aJ];rfl
 | t::ts,b=>by rw [lM,aJ,iZ,Us t b,ER ts _]
end
def aac (t:aC) (b:Nat):(BX b t)[bA t - 1]?=some (b:Int):=by
 obtain ⟨k,o,x,y,ks⟩:=t;rw [BX,bA,Ut,kH (by rw [ER];omega),ER,Uo];rfl
def aad:∀ (a c:List aC) (b:Nat),lM b (a++c)=lM b a++lM (b+aJ a) c
 | [],c,b=>by simp [lM,aJ]
 | t::a,c,b=>by rw [xY,lM,lM,aJ,aad a c,kW,zK]
def ahp (b:Nat) (ts:List aC):∀ (m:Nat) (zL IW:List aC),zL.length=m->zL++IW=ts->∀ out:List Int,(∀ i,i < aJ ts->out[b+i]?=(lM b ts)[i]?)->walk out ((b+aJ zL:Nat):Int) (gH b zL).reverse=some (b:Int):=by
 intro m;induction m with
 | zero=>
  intro zL IW hl _ out _;have:zL=[]:=YN.1 hl;subst this;simp [gH,walk,aJ]
 | succ m ih=>
  intro zL IW hl he out ho;obtain ⟨u,t,rfl⟩:∃ u t,zL=u++[t]:=by
   rcases List.eq_nil_or_concat zL with rfl|⟨u,t,rfl⟩
   .cases hl
   .exact ⟨u,t,aF⟩
  have hp:=rW t;have hsz:aJ (u++[t])=aJ u+bA t:=by rw [wo,aJ,aJ];omega
  rw [Uj,List.reverse_append,gH,gH,List.reverse_cons,List.reverse_nil,yg,Uu,walk,hsz];have hne: ¬(((b+(aJ u+bA t):Nat):Int)=0\/(((b+aJ u+bA t:Nat):Int) - 1)≠((b+(aJ u+bA t):Nat):Int) - 1):=ah;rw [aT hne];have htot:aJ ts=aJ u+(bA t+aJ IW):=by rw [<- he,wo,hsz];omega
  have hi:(((b+(aJ u+bA t):Nat):Int) - 1).toNat=b+(aJ u+(bA t - 1)):=ah;rw [hi,ho _ ah];have hst:lM b ts=lM b u++(BX (b+aJ u) t++lM (b+aJ u+bA t) IW):=by
   rw [<- he,kW,Uu,aad,lM]
  rw [hst,kH (by rw [ER];omega),ER,Uv,lN (by rw [Us];omega),aac];exact ih u (t::IW) (by simpa using hl) (by rw [<- he];simp) out ho
mutual
def aae:∀ (t:aC) (b:Nat) (rest:List (List Int)) (out:List Int),out.length=b->starts (iJ (aP b t)++rest) out=starts rest (out++BX b t)
 | ⟨k,o,x,y,ks⟩,b,rest,out,hb=>by
  have h1:=aaf ks b ([gH b ks]++rest) out hb;have hl:(out++lM b ks).length=b+aJ ks:=by rw [iZ,ER,hb]
  rw [aP,BX];have e:iJ (eF b ks++[(⟨k,o,x,y,gH b ks⟩:aB)])++rest=iJ (eF b ks)++([gH b ks]++rest):=by
   unfold iJ;rw [tJ,kW];rfl
  rw [e,h1,Uu,starts,hl];have:=ahp b ks ks.length ks [] rfl aF (out++lM b ks) (fun i hi=>by rw [kH ah,hb,Uv]);rw [this,aD,kW]
def aaf:∀ (ts:List aC) (b:Nat) (rest:List (List Int)) (out:List Int),out.length=b->starts (iJ (eF b ts)++rest) out=starts rest (out++lM b ts)
 | [],b,rest,out,hb=>by
  rw [eF,lM,xZ];rfl
 | t::ts,b,rest,out,hb=>by
  rw [eF,lM];have e:iJ (aP b t++eF (b+bA t) ts)++rest=iJ (aP b t)++(iJ (eF (b+bA t) ts)++rest):=by
   unfold iJ;rw [tJ,kW]
  rw [e,aae t b _ out hb,aaf ts (b+bA t) rest _ (by rw [iZ,Us,hb]),kW]
end
def Qe (t:aC) (h:bA t<=400):oP (aP 0 t)=true:=by
 have hp:=rW t;have hs:=aae t 0 [] [] rfl;rw [xZ,yg] at hs;unfold oP;rw [hs,gG];simp only [starts,Iw,aac,dS,oO];exact ⟨⟨hp,h⟩,aF⟩
def PR (a:List aB) (b:Nat) (l:List aB):Prop:=∀ (i:Nat) (x:aB),l[i]?=some x->a[b+i]?=some x
def PR.left {a l1 l2:List aB} {b:Nat} (h:PR a b (l1++l2)):PR a b l1:=fun i x hx=>h i x (by rw [lN (bG.1 hx).1];exact hx)
def PR.right {a l1 l2:List aB} {b:Nat} (h:PR a b (l1++l2)):PR a (b+l1.length) l2:=fun i x hx=>by
 have:=h (l1.length+i) x (by rw [kH ah,Uv];exact hx);rw [zK];exact this
mutual
def aag {a:List aB}:∀ (t:aC) (b:Nat),PR a b (aP b t)->TA a t b (b+bA t - 1)
 | ⟨k,o,x,y,ks⟩,b,h=>by
  rw [aP] at h;have h1:=aah ks b h.left;have h2:=h.right 0 _ rfl;rw [EK,zM] at h2;rw [bA,show b+(aJ ks+1) - 1=b+aJ ks by omega,TA];exact ⟨_,h2,rfl,rfl,rfl,rfl,h1⟩
def aah {a:List aB}:∀ (ts:List aC) (b:Nat),PR a b (eF b ts)->KA a ts (gH b ts) b (b+aJ ts)
 | [],b,h=>by
  rw [KA,gH,aJ];exact ⟨rfl,rfl⟩
 | t::ts,b,h=>by
  rw [eF] at h;have hp:=rW t;have h1:=aag t b h.left;have h2:=aah ts (b+bA t) (by have:=h.right;rw [gG] at this;exact this);rw [KA,gH,aJ];refine ⟨b+bA t - 1,gH (b+bA t) ts,?_,ah,ah,h1,?_⟩
  .congr 1;omega
  .rw [show b+bA t - 1+1=b+bA t by omega,<- zK];exact h2
end
def zF (t:aC):TA (aP 0 t) t 0 ((aP 0 t).length - 1):=by
 have:=aag (a:=aP 0 t) t 0 (fun i x hx=>by rw [mD];exact hx);rw [mD] at this;rw [gG];exact this
def ahq (N:Nat) (a:List aB) (kb:(List aB×Int)->Option Bool) (i:Nat) (hi:i < a.length) (hi2:i<=100000) (hkl:a[i].Kids.length<=100000):∀ (m j:Nat),a[i].Kids.length - j < m->j<=a[i].Kids.length->tq N kb m (a,(i:Int),(j:Int))=some true->
  kb (a,((i+1:Nat):Int))=some true/\∀ (q:Nat) (hq:q < a[i].Kids.length),j<=q->∃ y,ix a a[i].Kids[q]=some y/\iA a[i] (q:Int) y.Kind=some true:=by
 intro m;induction m with
 | zero=>intro j h;omega
 | succ m ML=>
  intro j hm hj hh;rw [tq,bH hi,aD] at hh;by_cases hlt:j < a[i].Kids.length
  .simp only [iQ hlt,aU,bH hi,bH hlt,aD] at hh;obtain ⟨y1,h1,hh⟩:=jL.1 hh;obtain ⟨y2,h2,hh⟩:=jL.1 hh;cases y2 with
   | false=>cases hh
   | true=>
    simp only [jK,aM] at hh;rw [wrap64 ah ah,show ((j:Int)+1)=((j+1:Nat):Int) by omega] at hh;obtain ⟨r1,r2⟩:=ML (j+1) ah ah hh;refine ⟨r1,fun q hq hjq=>?_⟩;by_cases hqj:q=j
    .subst hqj;exact ⟨y1,h1,h2⟩
    .exact r2 q hq ah
  .simp only [jm hlt,aM] at hh;rw [wrap64 ah ah] at hh;exact ⟨hh,fun q hq hjq=>ah⟩
def IE (N:Nat) (a:List aB) (x:aB):Prop:=qK N x=some true/\∀ (q:Nat) (hq:q < x.Kids.length),∃ y,ix a x.Kids[q]=some y/\iA x (q:Int) y.Kind=some true
def ahr (N:Nat) (a:List aB) (ha:a.length<=400) (hk:∀ x,x∈a->x.Kids.length<=400) (hN:500 < N):∀ (n i:Nat),a.length - i < n->i<=a.length->oL N n (a,(i:Int))=some true->∀ x,x∈a.drop i->IE N a x:=by
 intro n;induction n with
 | zero=>intro i h;omega
 | succ n ih=>
  intro i hn hi h x hx;rw [oL] at h;by_cases hlt:i < a.length
  .simp only [iQ hlt,aU,bH hlt,aD] at h;obtain ⟨b,hb,h⟩:=jL.1 h;cases b with
   | false=>cases h
   | true=>
    simp only [jK,aM] at h;have hkl:=hk _ (jy hlt);obtain ⟨h1,h2⟩:=ahq N a (oL N n) i hlt ah ah N 0 ah ah h;rw [drop_cons hlt] at hx;rcases fu.1 hx with rfl|hx
    .exact ⟨hb,fun q hq=>h2 q hq ah⟩
    .exact ih (i+1) ah ah h1 x hx
  .rw [drop_nil hlt] at hx;cases hx
def Ua (N:Nat) (a:List aB) (hN:500 < N) (hsh:oP a=true) (h:rT N a=some true):∀ x,x∈a->IE N a x:=by
 unfold rT at h;obtain ⟨y,_,h⟩:=jL.1 h;cases y with
 | true=>cases h
 | false=>
  rw [aM] at h;intro x hx;have h2:=(EN hsh).2.1;exact ahr N a h2 (fun z hz=>(Ul hsh z hz).1) hN N 0 ah ah h x (by rw [Iy];exact hx)
mutual
def allT (P:aC->Prop):aC->Prop
 | ⟨k,o,x,y,ks⟩=>P ⟨k,o,x,y,ks⟩/\yj P ks
def yj (P:aC->Prop):List aC->Prop
 | []=>True
 | t::ts=>allT P t/\yj P ts
end
mutual
def Qf {a:List aB} {P:aC->Prop} (h:∀ (t:aC) (s i:Nat),TA a t s i->P t):∀ (t:aC) (s i:Nat),TA a t s i->allT P t
 | ⟨k,o,x,y,ks⟩,s,i,ht=>by
  have h1:=h _ s i ht;rw [TA] at ht;obtain ⟨n,_,_,_,_,_,hk⟩:=ht;rw [allT];exact ⟨h1,aai h ks _ s i hk⟩
def aai {a:List aB} {P:aC->Prop} (h:∀ (t:aC) (s i:Nat),TA a t s i->P t):∀ (ts:List aC) (ks:List Int) (s e:Nat),KA a ts ks s e->yj P ts
 | [],ks,s,e,_=>by rw [yj];trivial
 | t::ts,ks,s,e,hk=>by
  rw [KA] at hk;obtain ⟨k,ks',_,_,_,h1,h2⟩:=hk;rw [yj];exact ⟨Qf h t s k h1,aai h ts ks' (k+1) e h2⟩
end
def Zc:∀ {ts:List aC} {t:aC},t∈ts->eu t<=dz ts
 | [],_,h=>by cases h
 | u::ts,t,h=>by
  rw [dz];rcases fu.1 h with rfl|h
  .omega
  .have:=Zc h;omega
mutual
def rX:aC->List aC
 | ⟨k,o,x,y,ks⟩=>qN ks++[⟨k,o,x,y,ks⟩]
def qN:List aC->List aC
 | []=>[]
 | t::ts=>rX t++qN ts
end
def Uw (t:aC):rX t=qN t.kids++[t]:=by cases t;rw [rX]
def Ux:∀ t:aC,(rX t).length=bA t:=by
 intro t;induction t using BN with
 | h t ih=>
  have key:∀ ts:List aC,(∀ u,u∈ts->u∈t.kids)->(qN ts).length=aJ ts:=by
   intro ts;induction ts with
   | nil=>intro _;rw [qN,aJ];rfl
   | cons u ts ih2=>
    intro h;rw [qN,aJ,iZ,ih u<|h u aF,ih2 fun v hv=>h v<|by simp [hv]]
  rw [Uw,EL,iZ,key t.kids fun u hu=>hu];rfl
def ahs (a:List aB):∀ (t:aC) (s i:Nat),TA a t s i->∀ (k:Nat) (u:aC),(rX t)[k]?=some u->∃ s',TA a u s' (s+k):=by
 intro t;induction t using BN with
 | h t ih=>
  intro s i hT k u hu;obtain ⟨n,hn,e1,e2,e3,e4,hka,hkl⟩:=hT.node;obtain ⟨p1,p2,_⟩:=hT.part;have hsz:=EL t;have key:∀ (ts:List aC) (ks:List Int) (s e:Nat),(∀ v,v∈ts->v∈t.kids)->KA a ts ks s e->∀ (k:Nat) (u:aC),(qN ts)[k]?=some u->∃ s',TA a u s' (s+k):=by
   intro ts;induction ts with
   | nil=>intro ks s e _ _ k u hu;rw [qN] at hu;simp at hu
   | cons v ts ih2=>
    intro ks s e hm hk k u hu;rw [KA] at hk;obtain ⟨kk,ks',rfl,h1,h2,h3,h4⟩:=hk;rw [qN] at hu;have hvl:=Ux v;obtain ⟨q1,q2,_⟩:=h3.part;by_cases hlt:k < (rX v).length
    .rw [lN hlt] at hu;exact ih v (hm v aF) s kk h3 k u hu
    .rw [kH ah] at hu;obtain ⟨s',hs'⟩:=ih2 ks' (kk+1) e (fun w hw=>hm w<|by simp [hw]) h4 _ u hu;refine ⟨s',?_⟩;have e:kk+1+(k - (rX v).length)=s+k:=ah;rw [e] at hs';exact hs'
  have hlen:=Ux t;rw [Uw] at hu hlen;simp only [iZ,MN] at hlen;by_cases hlt:k < (qN t.kids).length
  .rw [lN hlt] at hu;exact key t.kids n.Kids s i (fun v hv=>hv) hka k u hu
  .rw [kH ah] at hu;have hk:k - (qN t.kids).length=0:=by
    cases e:k - (qN t.kids).length with
    | zero=>rfl
    | succ m=>rw [e] at hu;simp at hu
   rw [hk] at hu;simp at hu;subst hu;refine ⟨s,?_⟩;have e:s+k=i:=ah;rw [e];exact hT
def agp (N:Nat) (n:aB) (h:qK N n=some true):∃ lo hi,Ef n=some (lo,hi)/\Ia n=some true/\lo<=(n.Kids.length:Int)/\(n.Kids.length:Int)<=hi:=by
 unfold qK at h;obtain ⟨⟨lo,hi⟩,h1,h⟩:=bind_some h;obtain ⟨y6,h2,h⟩:=bind_some h;obtain ⟨y13,h3,h⟩:=bind_some h;cases h;rcases Qn h3 with ⟨_,h3⟩|⟨_,h3⟩
 .obtain ⟨dP,ho,h3⟩:=bind_some h3;rcases Qn h3 with ⟨hc,h3⟩|⟨_,h3⟩
  .subst hc;obtain ⟨kE,_,h3⟩:=bind_some h3;rcases Qn h3 with ⟨_,h3⟩|⟨_,h3⟩
   .obtain ⟨r16,hl,h3⟩:=bind_some h3;cases h3;rw [EC] at hl;have hl:=nU hl;simp only [dS,oO] at hl;exact ⟨lo,hi,h1,ho,ah,ah⟩
   .cases h3
  .cases h3
 .cases h3
def TV {P:aC->Prop} {t:aC} (h:allT P t):P t:=by
 obtain ⟨k,o,x,y,ks⟩:=t;rw [allT] at h;exact h.1
def BO {P:aC->Prop} {t:aC} (h:allT P t):∀ k,k∈t.kids->allT P k:=by
 have key:∀ ts:List aC,yj P ts->∀ k,k∈ts->allT P k:=by
  intro ts;induction ts with
  | nil=>intro _ k hk;cases hk
  | cons u ts ih=>
   intro h k hk;rw [yj] at h;rcases fu.1 hk with rfl|hk
   .exact h.1
   .exact ih h.2 k hk
 obtain ⟨k,o,x,y,ks⟩:=t;rw [allT] at h;exact key ks h.2
def aht {P:aC->Prop} {t:aC} (h:P t) (hk:∀ k,k∈t.kids->allT P k):allT P t:=by
 have key:∀ ts:List aC,(∀ k,k∈ts->allT P k)->yj P ts:=by
  intro ts;induction ts with
  | nil=>intro _;rw [yj];trivial
  | cons u ts ih=>
   intro h;rw [yj];exact ⟨h u aF,ih fun k hk=>h k<|by simp [hk]⟩
 obtain ⟨k,o,x,y,ks⟩:=t;rw [allT];exact ⟨h,key ks hk⟩
def ahu {P:aC->Prop}:∀ t:aC,allT P t->∀ u,u∈rX t->allT P u:=by
 intro t;induction t using BN with
 | h t ih=>
  intro h u hu;rw [Uw] at hu;rcases iw.1 hu with hu|hu
  .have key:∀ ts:List aC,(∀ v,v∈ts->v∈t.kids)->∀ u,u∈qN ts->allT P u:=by
    intro ts;induction ts with
    | nil=>intro _ u hu;rw [qN] at hu;cases hu
    | cons v ts ih2=>
     intro hm u hu;rw [qN] at hu;rcases iw.1 hu with hu|hu
     .exact ih v (hm v aF) (BO h v<|hm v aF) u hu
     .exact ih2 (fun w hw=>hm w<|by simp [hw]) u hu
   exact key t.kids (fun v hv=>hv) u hu
  .rw [ni.1 hu];exact h
def ahv (N:Nat) (k o:Int) (x y:List UInt8) (ks ks':List Int) (h:ks.length=ks'.length):qK N ⟨k,o,x,y,ks⟩=qK N ⟨k,o,x,y,ks'⟩:=by
 unfold qK Ef Ee BD sZ zA Ed Ec Ia HZ Me xP;simp only [h]
def ahw (k o:Int) (x y:List UInt8) (ks ks':List Int) (h:ks.length=ks'.length) (j c:Int):iA ⟨k,o,x,y,ks⟩ j c=iA ⟨k,o,x,y,ks'⟩ j c:=by
 unfold iA lG qL;simp only [h]
def MO (N:Nat) (u:aC):Prop:=∀ ks:List Int,ks.length=u.kids.length->qK N ⟨u.kind,u.op,u.text,u.other,ks⟩=some true/\∀ (q:Nat) (v:aC),u.kids[q]?=some v->iA ⟨u.kind,u.op,u.text,u.other,ks⟩ (q:Int) v.kind=some true
def ahx (N:Nat) (a:List aB) (h:∀ x,x∈a->IE N a x) (t:aC) (s i:Nat) (hT:TA a t s i):MO N t:=by
 obtain ⟨n,hn,e1,e2,e3,e4,hka,hkl⟩:=hT.node;obtain ⟨h1,h2⟩:=h n (jA hn);intro ks hks;rw [e1,e2,e3,e4];have hlen:ks.length=n.Kids.length:=ah;refine ⟨by rw [ahv N _ _ _ _ ks n.Kids hlen];exact h1,fun q v hq=>?_⟩;obtain ⟨k,s',g1,g2,g3⟩:=hka.get q v hq;obtain ⟨hq',hk⟩:=bG.1 g1;obtain ⟨y,y1,y2⟩:=h2 q hq';obtain ⟨m,m1,m2,_⟩:=g2.node;rw [hk,EO m1] at y1;cases y1;rw [ahw _ _ _ _ ks n.Kids hlen,m2];exact y2
def ahy (N:Nat) (t:aC) (h:allT (MO N) t):∀ x,x∈aP 0 t->IE N (aP 0 t) x:=fun x hx=>by
 obtain ⟨i,hi⟩:=ES hx;have hlt:i < (aP 0 t).length:=(bG.1 hi).1;rw [gG] at hlt;have hl:=Ux t;have hT:TA (aP 0 t) t 0 (0+bA t - 1):=by
  have:=zF t;rw [gG] at this;rw [mD];exact this
 have e1:(rX t)[i]?=some ((rX t)[i]' ah):=cB ah;obtain ⟨s1,t1⟩:=ahs (aP 0 t) t 0 _ hT i _ e1;rw [mD] at t1;have hu:=TV (ahu t h _<|jy (by omega:i < (rX t).length));obtain ⟨n,hn,a1,a2,a3,a4,hka,hkl⟩:=t1.node;rw [hi] at hn;cases hn;obtain ⟨h1,h2⟩:=hu x.Kids ah;rw [a1,a2,a3,a4] at h1 h2;refine ⟨h1,fun q hq=>?_⟩;have hq2:q < ((rX t)[i]' ah).kids.length:=ah;have hv:((rX t)[i]' ah).kids[q]?=some (((rX t)[i]' ah).kids[q]'hq2):=cB hq2;obtain ⟨k,s',g1,g2,g3⟩:=hka.get q _ hv;obtain ⟨_,hk⟩:=bG.1 g1;obtain ⟨m,m1,m2,_⟩:=g2.node;refine ⟨m,by rw [hk];exact EO m1,?_⟩;rw [<- m2];exact h2 q _ hv
def ahz (N:Nat) (a:List aB) (kb:(List aB×Int)->Option Bool) (i:Nat) (hi:i < a.length) (hi2:i<=100000) (hkl:a[i].Kids.length<=100000) (hkb:kb (a,((i+1:Nat):Int))=some true) (hq:∀ (q:Nat) (hq:q < a[i].Kids.length),∃ y,ix a a[i].Kids[q]=some y/\iA a[i] (q:Int) y.Kind=some true):∀ (m j:Nat),a[i].Kids.length - j < m->j<=a[i].Kids.length->tq N kb m (a,(i:Int),(j:Int))=some true:=by
 intro m;induction m with
 | zero=>intro j h;omega
 | succ m ML=>
  intro j hm hj;rw [tq,bH hi,aD];by_cases hlt:j < a[i].Kids.length
  .obtain ⟨y,y1,y2⟩:=hq j hlt;simp only [iQ hlt,aU,bH hi,bH hlt,aD,y1,y2,jK,aM];rw [wrap64 ah ah,show ((j:Int)+1)=((j+1:Nat):Int) by omega];exact ML (j+1) ah ah
  .simp only [jm hlt,aM];rw [wrap64 ah ah];exact hkb
def ahA (N:Nat) (a:List aB) (ha:a.length<=400) (hk:∀ x,x∈a->x.Kids.length<=400) (hN:500 < N) (h:∀ x,x∈a->IE N a x):∀ (n i:Nat),a.length - i < n->i<=a.length->oL N n (a,(i:Int))=some true:=by
 intro n;induction n with
 | zero=>intro i h;omega
 | succ n ih=>
  intro i hn hi;rw [oL];by_cases hlt:i < a.length
  .have hm:=jy hlt;obtain ⟨h1,h2⟩:=h _ hm;have hkl:=hk _ hm;simp only [iQ hlt,aU,bH hlt,aD,h1,jK,aM];exact ahz N a _ i hlt ah ah (ih (i+1) ah ah) h2 N 0 ah ah
  .simp only [jm hlt,aM]
def ahB (N:Nat) (t:aC) (hN:1048777 < N) (hx:uU t) (hsz:bA t<=400) (hd:eu t<=40) (h:allT (MO N) t):rT N (aP 0 t)=some true:=by
 have hsm:=ZY ah hx 0;have hsh:=Qe t hsz;unfold rT;rw [TL N (aP 0 t) ah hsm,hsh,Uq N (aP 0 t) ah hsm hsh<|zF t];simp only [aD,jK,aM];rw [uP (show¬(eu t:Int) > 40 by omega),aM];exact ahA N (aP 0 t) (by rw [gG];exact hsz) (fun x hx=>(Ul hsh x hx).1) ah (ahy N t h) N 0 (by rw [gG];omega) ah
def Ud (N:Nat) (L:List aB) (hN:1048577 < N) (hs:∀ x,x∈L->jG x) (hsh:oP L=true) {t:aC} (hT:TA L t 0 (L.length - 1)) (h:rT N L=some true):eu t<=40:=by
 unfold rT at h;obtain ⟨y,h1,h⟩:=jL.1 h;cases y with
 | true=>cases h
 | false=>
  rw [Uq N L hN hs hsh hT] at h1;obtain ⟨r,_,h1⟩:=jL.1 h1;cases r with
  | false=>cases h1
  | true=>
   simp only [jK,aM,aD] at h1;have:=IX (nU h1);omega
def aaj (op:Int):∃ r:Int,Eu op=some r/\zq op=some r:=by
 unfold Eu zq Et Bp;cases (op==63)<;>cases (op==62)<;>cases (op==48)<;>cases (op==49)<;>cases (op==47)<;>cases (op==50)<;>cases (op==55)<;>cases (op==57)<;>exact ⟨_,rfl,rfl⟩
def bJ (o:Int):Int:=(zq o).getD 0
def aak (o:Int):zq o=some (bJ o):=by
 obtain ⟨r,_,h⟩:=aaj o;unfold bJ;rw [h];rfl
def ahC (o:Int):Eu o=some (bJ o):=by
 obtain ⟨r,h1,h⟩:=aaj o;rw [h1];unfold bJ;rw [h];rfl
def MG {o:Int} (h:bJ o≠0):(o=63/\bJ o=62)\/(o=62/\bJ o=63)\/(o=48/\bJ o=49)\/(o=49/\bJ o=48)\/(o=47/\bJ o=47)\/(o=50/\bJ o=50)\/(o=55/\bJ o=55)\/(o=57/\bJ o=57):=by
 by_cases e1:o=63
 .subst e1;exact .inl ⟨rfl,rfl⟩
 by_cases e2:o=62
 .subst e2;exact .inr (.inl ⟨rfl,rfl⟩)
 by_cases e3:o=48
 .subst e3;exact .inr (.inr<|.inl ⟨rfl,rfl⟩)
 by_cases e4:o=49
 .subst e4;exact .inr (.inr<|.inr<|.inl ⟨rfl,rfl⟩)
 by_cases e5:o=47
 .subst e5;exact .inr (.inr<|.inr<|.inr<|.inl ⟨rfl,rfl⟩)
 by_cases e6:o=50
 .subst e6;exact .inr (.inr<|.inr<|.inr<|.inr<|.inl ⟨rfl,rfl⟩)
 by_cases e7:o=55
 .subst e7;exact .inr (.inr<|.inr<|.inr<|.inr<|.inr<|.inl ⟨rfl,rfl⟩)
 by_cases e8:o=57
 .subst e8;exact .inr (.inr<|.inr<|.inr<|.inr<|.inr<|.inr ⟨rfl,rfl⟩)
 .exfalso;apply h;have f:∀ {z:Int},o≠z->(o==z)=false:=fun h=>by simpa using h
  unfold bJ zq Bp;rw [f e1,f e2,f e3,f e4,f e5,f e6,f e7,f e8];rfl
def Zj (N:Nat) (a:List aB) (hN:1048577+400 < N) (ha:a.length<=1048576) (hs:∀ x,x∈a->jG x) (hi:∀ x,x∈a->Qc x):
  ∃ b,Mh N a=some b/\Bt N a=some b/\(b.2=false->b.1=a)/\(b.2=true->uN N a=some true/\∃ o t0 t1,a=aP 0 ⟨12,o,[],[],[t0,t1]⟩/\bJ o≠0/\bA ⟨12,o,[],[],[t0,t1]⟩<=400/\b.1=aP 0 ⟨12,bJ o,[],[],[t1,t0]⟩):=by
 obtain ⟨b,b1,b2,b3⟩:=Qg N a hN hs;have hc1:=ahl N a ah ha hs hi;have hc2:=ahk N a ah ha hs;have b0:=b1;unfold Mh Bt;rw [b1,b2];simp only [aD];cases b with
 | false=>
  simp only [EA,aU,aD,hc1,hc2];exact ⟨_,rfl,rfl,(fun _=>rfl),fun h=>by cases h⟩
 | true=>
  obtain ⟨hsh,hnk⟩:=b3 rfl;obtain ⟨l1,l2,r,_,_,_,hT,t,ht⟩:=EN hsh;have hlt:a.length - 1 < a.length:=ah;have hx:ix a (IntKind.wrap .i64<|(a.length:Int) - 1)=some a[a.length - 1]:=by
   rw [wrap64 ah ah,show (a.length:Int) - 1=((a.length - 1:Nat):Int) by omega,bH hlt]
  obtain ⟨n,hn,e1,e2,e3,e4,hk,hkl⟩:=ht.node;rw [cB hlt] at hn;cases hn;obtain ⟨fk,_⟩:=hnk _ (jy hlt);have q1:=ahC a[a.length - 1].Op;have q2:=aak a[a.length - 1].Op;generalize hq0:bJ a[a.length - 1].Op=q at q1 q2;have hro:=EH N a ah ht l1 l2;simp only [jK,aM,hx,aD,q1,hro,e1,e2,q2];by_cases hkd:a[a.length - 1].Kind=12
  .have hne:(a[a.length - 1].Kind !=12)=false:=by simpa using hkd
   simp only [hne,aM,aD];cases hq:(q==0) with
   | true=>
    simp only [aU,hc1,hc2,aD];exact ⟨_,rfl,rfl,(fun _=>rfl),fun h=>by cases h⟩
   | false=>
    simp only [aM];obtain ⟨f1,f2,f3⟩:=fk.2.2.2.2.2.2.1 hkd;obtain ⟨t0,t1,hts⟩:∃ t0 t1,t.kids=[t0,t1]:=by
     match h:t.kids,(by rw [hkl,f1]:t.kids.length=2) with
     | [t0,t1],_=>exact ⟨t0,t1,rfl⟩
    rw [hts] at hk;obtain ⟨k0,s0,g0,h0,_⟩:=hk.get 0 t0 rfl;obtain ⟨k1,s1,g1,h1,_⟩:=hk.get 1 t1 rfl;have i0:ix a[a.length - 1].Kids 0=some (k0:Int):=EO (i:=0) g0;have i1:ix a[a.length - 1].Kids 1=some (k1:Int):=EO (i:=1) g1;have j0:ix t.kids 0=some t0:=by rw [hts];rfl
    have j1:ix t.kids 1=some t1:=by rw [hts];rfl
    have p0:=ZO N a ah hs hsh h0;have p1:=ZO N a ah hs hsh h1;have hsz:bA t0+(bA t1+0)+1<=400:=by
     have:=ht.part.2.1;rw [EL,hts,aJ,aJ,aJ] at this;omega
    have hm:=MH N ⟨12,q,[],[],[]⟩ [t1,t0] ah (by rw [aJ,aJ,aJ];omega);have hll:=ZM N ⟨12,q,[],[],[t1,t0]⟩ (by rw [bA,aJ,aJ,aJ];omega) (by rw [bA,aJ,aJ,aJ];omega);simp only [nk,IJ] at hm;simp only [i0,i1,j0,j1,p0,p1,aD,hm,hkd,e3,e4,f2,f3,hll];have ash:bA ⟨12,q,[],[],[t1,t0]⟩<=400:=by rw [bA,aJ,aJ,aJ];omega
    refine ⟨_,rfl,rfl,(fun h=>by cases h),fun _=>⟨trivial,a[a.length - 1].Op,t0,t1,?_,?_,?_,?_⟩⟩
    .have et:t=⟨12,a[a.length - 1].Op,[],[],[t0,t1]⟩:=by
      obtain ⟨k,o,x,y,ks⟩:=t;have e1:k=_:=e1;have e2:o=_:=e2;have e3:x=_:=e3;have e4:y=_:=e4;have hts:ks=_:=hts;rw [e1,e2,e3,e4,hts,hkd,f2,f3]
     have hp:=ht.part;rw [<- et];have e:a.length - 1+1=a.length:=ah;rw [e] at hp;rw [<- hp.2.2,ZF]
    .rw [hq0];simpa using hq
    .rw [bA,aJ,aJ,aJ];omega
    .rw [hq0]
  .have hne:(a[a.length - 1].Kind !=12)=true:=by simpa using hkd
   simp only [hne,aU,aD,hc1,hc2];exact ⟨_,rfl,rfl,(fun _=>rfl),fun h=>by cases h⟩
def Zl (N:Nat) (hN:1048977 < N) (o:Int) (t0 t1:aC) (hsz:bA ⟨12,o,[],[],[t0,t1]⟩<=400) (hok:xM N (aP 0 ⟨12,o,[],[],[t0,t1]⟩)=some true) (hf:bJ o≠0):Bt N (aP 0 ⟨12,o,[],[],[t0,t1]⟩)=some (aP 0 ⟨12,bJ o,[],[],[t1,t0]⟩,true):=by
 have hpos:=rW ⟨12,o,[],[],[t0,t1]⟩;have hro:=EH N _ ah (zF ⟨12,o,[],[],[t0,t1]⟩) (by rw [gG];omega) (by rw [gG];omega);have hsz2:bA ⟨12,bJ o,[],[],[t1,t0]⟩<=400:=by
  rw [bA,aJ,aJ,aJ] at hsz ⊢;omega
 have hll:=ZM N ⟨12,bJ o,[],[],[t1,t0]⟩ ah ah;have hq:(bJ o==0)=false:=by simpa using hf
 have j0:ix [t0,t1] 0=some t0:=rfl;have j1:ix [t0,t1] 1=some t1:=rfl;have h12:((12:Int) !=12)=false:=rfl;unfold Bt;rw [hok,hro];simp only [aD,jK,aM,h12,aak,hq,j0,j1,hll]
def Zk (N:Nat) (hN:1048977+400 < N) (o:Int) (t0 t1:aC) (hx:∀ x,x∈aP 0 ⟨12,o,[],[],[t0,t1]⟩->jG x) (hsz:bA ⟨12,o,[],[],[t0,t1]⟩<=400) (hok:uN N (aP 0 ⟨12,o,[],[],[t0,t1]⟩)=some true) (hf:bJ o≠0):uU ⟨12,bJ o,[],[],[t1,t0]⟩/\xM N (aP 0 ⟨12,bJ o,[],[],[t1,t0]⟩)=some true:=by
 generalize ht:(⟨12,o,[],[],[t0,t1]⟩:aC)=t at hx hsz hok;have ET:t.kids=[t0,t1]:=by rw [<- ht]
 have uS:=zF t;have hsh:=Qe t hsz;have BP:rT N (aP 0 t)=some true:=by
  unfold uN at hok;obtain ⟨y,h1,h2⟩:=jL.1 hok;obtain ⟨r,h3,h4⟩:=jL.1 h1;cases r with
  | true=>exact h3
  | false=>
   cases h4;cases h2
 have hd:=Ud N _ ah hx hsh uS BP;have hn:=Ua N _ ah hsh BP;have hall:allT (MO N) t:=Qf (fun t s i h=>ahx N _ hn t s i h) t _ _ uS;have htx:uU t:=Ur hx uS;have k0:t0∈t.kids:=by rw [ET];simp
 have k1:t1∈t.kids:=by rw [ET];simp
 obtain ⟨n,hnn,_,_,_,_,hka,_⟩:=uS.node;have tx0:uU t0:=by
  obtain ⟨_,_,_,g,_⟩:=hka.get 0 t0 (by rw [ET];rfl);exact Ur hx g
 have tx1:uU t1:=by
  obtain ⟨_,_,_,g,_⟩:=hka.get 1 t1 (by rw [ET];rfl);exact Ur hx g
 have Uy:uU ⟨12,bJ o,[],[],[t1,t0]⟩:=aho (fun t' h'=>by
  simp only [fu,List.mem_nil_iff,vW] at h';rcases h' with rfl|rfl
  .exact tx1
  .exact tx0) aF aF
 have hroot:=TV hall;have e12:t.kind=12:=by rw [<- ht]
 have hK:∀ (q:Nat) (v:aC),t.kids[q]?=some v->jw v.kind=some true:=fun q v hv=>by
  have h:=(hroot [0,0]<|by rw [ET];rfl).2 q v hv;rw [<- ht] at h;have e:iA ⟨12,o,[],[],[0,0]⟩ (q:Int) v.kind=(jw v.kind).bind fun r=>some r:=rfl;have h:iA ⟨12,o,[],[],[0,0]⟩ (q:Int) v.kind=some true:=h;rw [e] at h;cases hi:jw v.kind with
  | none=>rw [hi] at h;cases h
  | some r=>rw [hi] at h;exact h
 have x0:=hK 0 t0 (by rw [ET];rfl);have x1:=hK 1 t1 (by rw [ET];rfl);have ahF:allT (MO N) ⟨12,bJ o,[],[],[t1,t0]⟩:=by
  refine aht (fun ks hks=>⟨?_,fun q v hv=>?_⟩) fun k hk=>?_
  .obtain ⟨a,b,rfl⟩:∃ a b,ks=[a,b]:=by
    match ks,hks with
    | [a,b],_=>exact ⟨a,b,rfl⟩
   show qK N ⟨12,bJ o,[],[],[a,b]⟩=some true;rcases MG hf with ⟨_,e⟩|⟨_,e⟩|⟨_,e⟩|⟨_,e⟩|⟨_,e⟩|⟨_,e⟩|⟨_,e⟩|⟨_,e⟩<;>rw [e]<;>rfl
  .have e:iA ⟨12,bJ o,[],[],ks⟩ (q:Int) v.kind=(jw v.kind).bind fun r=>some r:=rfl;show iA ⟨12,bJ o,[],[],ks⟩ (q:Int) v.kind=some true;rw [e]
   match q,hv with
   | 0,hv=>cases hv;rw [x1];rfl
   | 1,hv=>cases hv;rw [x0];rfl
   | q+2,hv=>cases hv
  .have hk:k=t1\/k=t0:=by simpa using hk
   rcases hk with rfl|rfl
   .exact BO hall _ k1
   .exact BO hall _ k0
 have hd':eu ⟨12,bJ o,[],[],[t1,t0]⟩<=40:=by
  rw [<- ht] at hd;rw [eu,dz,dz,dz] at hd ⊢;omega
 have hsz':bA ⟨12,bJ o,[],[],[t1,t0]⟩<=400:=by
  rw [<- ht] at hsz;rw [bA,aJ,aJ,aJ] at hsz ⊢;omega
 have hT:=ahB N ⟨12,bJ o,[],[],[t1,t0]⟩ ah Uy hsz' hd' ahF;have ahG:=ZY (t:=⟨12,bJ o,[],[],[t1,t0]⟩) ah Uy 0;obtain ⟨c,c1,c2,_⟩:=Qg N (aP 0 ⟨12,bJ o,[],[],[t1,t0]⟩) ah ahG;refine ⟨Uy,?_⟩;have:uN N (aP 0 ⟨12,bJ o,[],[],[t1,t0]⟩)=some true:=by
  obtain ⟨n',hn',e1,_⟩:=(zF ⟨12,bJ o,[],[],[t1,t0]⟩).node;have hpos:=rW ⟨12,bJ o,[],[],[t1,t0]⟩;have hl:=gG ⟨12,bJ o,[],[],[t1,t0]⟩ 0;unfold uN;rw [hT,wrap64 ah ah,show ((aP 0 ⟨12,bJ o,[],[],[t1,t0]⟩).length:Int) - 1=(((aP 0 ⟨12,bJ o,[],[],[t1,t0]⟩).length - 1:Nat):Int) by omega,EO hn'];simp only [aD,aU,<- e1];rfl
 rw [this] at c1;cases c1;exact c2
def TN (L:List aB):Prop:=∀ x,x∈L->x.Kids.length<=20000/\x.Text.length<=18/\x.Other.length<=18
def Zi {L:List aB} (h:TN L):∀ x,x∈L->jG x:=fun x hx=>by
 obtain ⟨h1,h2,h3⟩:=h x hx;exact ⟨ah,ah,ah⟩
def ahH (N:Nat) (a b:List Int) (hl:a.length=b.length) (hm:a.length<=1048576):∀ (n i:Nat),a.length - i < n->i<=a.length->Ev N n (a,b,(i:Int))=some (decide<|a.drop i=b.drop i):=by
 intro n;induction n with
 | zero=>intro i h;omega
 | succ n ih=>
  intro i hn hi;rw [Ev];by_cases h:i < a.length
  .have h':i < b.length:=ah;simp only [iQ h,aU,bH h,bH h',aD];rw [drop_cons h,drop_cons h'];by_cases he:a[i]=b[i]
   .have hb:(a[i] !=b[i])=false:=by simpa using he
    rw [hb,aM,Mt h (by simp only [maxLen];omega),ih (i+1) ah ah];simp only [List.cons.injEq,he,true_and]
   .have hb:(a[i] !=b[i])=true:=by simpa using he
    rw [hb,aU];simp only [List.cons.injEq,he,false_and,BR]
  .have h': ¬i < b.length:=ah;simp only [jm h,aM];rw [drop_nil h,drop_nil h'];simp
def ahI (N:Nat) (a b:List Int) (hm:a.length<=1048576) (hN:1048577 < N):Mi N a b=some (decide<|a=b):=by
 unfold Mi;by_cases hl:a.length=b.length
 .have e:((a.length:Int) !=(b.length:Int))=false:=by simp [hl]
  rw [e,aM];exact ahH N a b hl hm N 0 ah ah
 .have e:((a.length:Int) !=(b.length:Int))=true:=bI;rw [e,aU];have:a≠b:=fun h=>hl (by rw [h]);simp [this]
def ahJ (N:Nat) (a b:List aB) (hN:1048577 < N) (hl:a.length=b.length) (hm:a.length<=1048576) (hk:∀ x,x∈a->x.Kids.length<=1048576):∀ (n i:Nat),a.length - i < n->i<=a.length->Ew N n (a,b,(i:Int))=some (decide<|a.drop i=b.drop i):=by
 intro n;induction n with
 | zero=>intro i h;omega
 | succ n ih=>
  intro i hn hi;rw [Ew];by_cases h:i < a.length
  .have h':i < b.length:=ah;have hki:=hk _ (jy h);simp only [iQ h,aU,bH h,bH h',aD];rw [drop_cons h,drop_cons h',Mt h (by simp only [maxLen];omega),ih (i+1) ah ah];generalize a[i]=x at hki;generalize b[i]=y;obtain ⟨k,o,t,p,ks⟩:=x;obtain ⟨k',o',t',p',ks'⟩:=y;simp only at hki;simp only [ahI N ks ks' hki hN,aD];by_cases e1:k=k'
   .subst e1;by_cases e2:o=o'
    .subst e2;by_cases e3:t=t'
     .subst e3;by_cases e4:p=p'
      .subst e4;by_cases e5:ks=ks'
       .subst e5;simp only [bne_self_eq_false,Uz,jK,aM,tC,aD,List.cons.injEq,true_and]
       .simp only [bne_self_eq_false,Uz,jK,EA,aU,aM,e5,BR,aD,List.cons.injEq,aB.mk.injEq,true_and,false_and]
      .have b4:(p==p')=false:=by simpa using e4
       simp only [bne_self_eq_false,Uz,jK,EA,b4,aU,aM,e4,BR,aD,List.cons.injEq,aB.mk.injEq,true_and,false_and]
     .have b3:(t==t')=false:=by simpa using e3
      simp only [bne_self_eq_false,EA,b3,aU,aM,e3,BR,aD,List.cons.injEq,aB.mk.injEq,true_and,false_and]
    .have b2:(o !=o')=true:=by simpa using e2
     simp only [bne_self_eq_false,b2,aU,aM,e2,BR,aD,List.cons.injEq,aB.mk.injEq,true_and,false_and]
   .have b1:(k !=k')=true:=by simpa using e1
    simp only [b1,aU,e1,BR,aD,List.cons.injEq,aB.mk.injEq,false_and]
  .have h': ¬i < b.length:=ah;simp only [jm h,aM];rw [drop_nil h,drop_nil h'];simp
def Qd (N:Nat) (a b:List aB) (hN:1048577 < N) (hm:a.length<=1048576) (hk:∀ x,x∈a->x.Kids.length<=1048576):BK N a b=some (decide<|a=b):=by
 unfold BK;by_cases hl:a.length=b.length
 .have e:((a.length:Int) !=(b.length:Int))=false:=by simp [hl]
  rw [e,aM];exact ahJ N a b hN hl hm hk N 0 ah ah
 .have e:((a.length:Int) !=(b.length:Int))=true:=bI;rw [e,aU];have:a≠b:=fun h=>hl (by rw [h]);simp [this]
def Dr {α:Type} (b:List UInt8) (P:α->Prop) (x:Option (α×Int×Int)):Prop:=∃ a i h,x=some (a,i,h)/\P a/\0<=i/\i<=(b.length:Int)
def Dr.bind {α β:Type} {b:List UInt8} {P:α->Prop} {Q:β->Prop} {x:Option (α×Int×Int)} {f:α×Int×Int->Option (β×Int×Int)} (hx:Dr b P x) (hf:∀ a i h,P a->0<=i->i<=(b.length:Int)->Dr b Q (f (a,i,h))):Dr b Q (Option.bind x f):=by
 obtain ⟨a,i,h,rfl,h1,h2,h3⟩:=hx;exact hf a i h h1 h2 h3
def Dr.some {α:Type} {b:List UInt8} {P:α->Prop} {a:α} {i h:Int} (ha:P a) (h0:0<=i) (h1:i<=(b.length:Int)):Dr b P (some (a,i,h)):=⟨a,i,h,rfl,ha,h0,h1⟩
def Dr.imp {α:Type} {b:List UInt8} {P Q:α->Prop} {x:Option (α×Int×Int)} (hx:Dr b P x) (h:∀ a,P a->Q a):Dr b Q x:=by
 obtain ⟨a,i,k,rfl,h1,h2,h3⟩:=hx;exact ⟨a,i,k,rfl,h a h1,h2,h3⟩
def Dr.cond {α:Type} {b:List UInt8} {P:α->Prop} {c:Bool} {x y:Option (α×Int×Int)} (hx:c=true->Dr b P x) (hy:c=false->Dr b P y):Dr b P (bif c then x else y):=by
 cases c
 .exact hy rfl
 .exact hx rfl
def ED {α:Type} {b:List UInt8} {P:α->Prop} {x:Option (α×Int×Int)} (hx:Dr b P x):Dr b P (Option.bind x fun r=>Option.some (r.1,r.2.1,r.2.2)):=Dr.bind hx fun _ _ _ ha h0 h1=>Dr.some ha h0 h1
def Qo (x:Int):0<=bits .and .i64 x 255/\bits .and .i64 x 255<=255:=by
 have e:bits .and .i64 x 255=IntKind.wrap .i64 (((BitVec.ofInt 64 x&&& BitVec.ofInt 64 255).toNat:Nat):Int):=rfl;have h:(BitVec.ofInt 64 x&&& BitVec.ofInt 64 255).toNat<=255:=by
  rw [BitVec.toNat_and];exact Nat.and_le_right
 rw [e,wrap64 ah ah];omega
section
set_option linter.unusedSectionVars false
variable (b:List UInt8) (hb:b.length<=1048576)
include hb
theorem MP (i h:Int) (h0:0<=i) (h1:i<=(b.length:Int)):Dr b (fun x=>0<=x/\x<=255) (vO b i h):=by
 unfold vO Gj;refine Dr.cond (fun hc=>?_) fun hc=>?_
 .have hc:=mq hc;obtain ⟨n,rfl⟩:=lJ h0;have hn:n < b.length:=ah;rw [bH hn,aD];exact Dr.some (Qo _) (by rw [wrap64 ah ah];omega) (by rw [wrap64 ah ah];omega)
 .exact Dr.some (Qo _) h0 h1
theorem aal {P:Int->Prop} {x n i h:Int} (hx:0<=x) (hn:0 < n) (h0:0<=i) (h1:i<=(b.length:Int)) (hP:∀ r,0<=r->r < n->P r):Dr b P ((xC x n).bind fun y=>some (y,i,h)):=by
 unfold xC;have:(n==0)=false:=bI;rw [this,aM,aD];exact Dr.some (hP _ (UA _ hx)<|UC _ hn) h0 h1
theorem tF (n i h:Int) (h0:0<=i) (h1:i<=(b.length:Int)):Dr b (fun r=>0<=r/\(r < n\/n<=0/\r=0)) (fO n b i h):=by
 unfold fO;refine Dr.cond (fun hc=>?_) fun hc=>Dr.cond (fun hc2=>?_) fun hc2=>?_
 .have hc:=mq hc;exact Dr.some ⟨ah,.inr ⟨hc,rfl⟩⟩ h0 h1
 .have hc:=IX hc;exact Dr.bind (MP b hb i h h0 h1) fun x i h hx h0 h1=>aal b hb hx.1 ah h0 h1 fun r g1 g2=>⟨g1,.inl g2⟩
 .have hc:=IX hc;refine Dr.bind (MP b hb i h h0 h1) fun x i h hx h0 h1=>Dr.bind (MP b hb i h h0 h1) fun y i h hy h0 h1=>Dr.bind (MP b hb i h h0 h1) fun z i h hz h0 h1=>Dr.bind (MP b hb i h h0 h1) fun w i h hw h0 h1=>?_;refine aal b hb ?_ ah h0 h1 fun r g1 g2=>⟨g1,.inl g2⟩
  dsimp only;rw [wrap64 (n:=x*16777216) ah ah,wrap64 (n:=y*65536) ah ah,wrap64 (n:=x*16777216+y*65536) ah ah,wrap64 (n:=z*256) ah ah,wrap64 (n:=x*16777216+y*65536+z*256) ah ah,wrap64 ah ah];omega
theorem ahK {P:List UInt8->Prop} (l:List (List UInt8)) (i h:Int) (h0:0<=i) (h1:i<=(b.length:Int)) (hl:0 < l.length) (hP:∀ x,x∈l->P x):Dr b P (lY l b i h):=by
 unfold lY;refine Dr.bind (tF b hb _ i h h0 h1) fun r i h hr h0 h1=>?_;obtain ⟨n,rfl⟩:=lJ hr.1;have hn:n < l.length:=by rcases hr.2 with h|h<;>omega
 dsimp only;have e:ix l (n:Int)=some l[n]:=bH hn;rw [e,aD];exact Dr.some (hP _<|jy hn) h0 h1
theorem YV (n i h:Int) (h0:0<=i) (h1:i<=(b.length:Int)):Dr b (fun _=>True) (qA n b i h):=Dr.bind (tF b hb _ i h h0 h1) fun _ _ _ _ h0 h1=>Dr.some trivial h0 h1
theorem ME {P:Int->Prop} (l:List Int) (i h:Int) (h0:0<=i) (h1:i<=(b.length:Int)) (hl:0 < l.length) (hP:∀ x,x∈l->P x):Dr b P (qB l b i h):=by
 unfold qB;refine Dr.bind (tF b hb _ i h h0 h1) fun r i h hr h0 h1=>?_;obtain ⟨n,rfl⟩:=lJ hr.1;have hn:n < l.length:=by rcases hr.2 with h|h<;>omega
 dsimp only;have e:ix l (n:Int)=some l[n]:=bH hn;rw [e,aD];exact Dr.some (hP _<|jy hn) h0 h1
theorem MF (m:Nat) (l:List (List UInt8)) (i h:Int) (h0:0<=i) (h1:i<=(b.length:Int)) (hl:0 < l.length) (hP:(l.all fun x=>decide<|x.length<=m)=true):Dr b (fun x=>x.length<=m) (lY l b i h):=
 ahK b hb l i h h0 h1 hl fun x hx=>mq (gZ.1 hP x hx)
theorem agu (i h:Int) (h0:0<=i) (h1:i<=(b.length:Int)):Dr b (fun _=>True) (Gn b i h):=ED (ME b hb _ i h h0 h1 aI fun _ _=>trivial)
def pw:Nat->Nat
 | 0=>1
 | n+1=>4*pw n
omit hb in
theorem UD:∀ n,1<=pw n
 | 0=>by rw [pw];omega
 | n+1=>by have:=UD n;rw [pw];omega
end
def Qp:Int:=6364136223846793005
def UE:Int:=1442695040888963407
def lc (x:Int):Int:=x*Qp+UE
def kI:Nat->Int->Int
 | 0,x=>x
 | n+1,x=>kI n (lc x)
def MQ:∀ (m n:Nat) (x:Int),kI (m+n) x=kI n (kI m x)
 | 0,n,x=>by rw [mD];rfl
 | m+1,n,x=>by
  rw [show m+1+n=(m+n)+1 by omega];show kI (m+n) (lc x)=kI n (kI m<|lc x);exact MQ m n (lc x)
def aam (k:Nat):∃ p q u v:Int,(∀ x,kI (2 ^ k) x=p*x+q)/\p=1+2 ^ (k+2)*u/\q=2 ^ k*(1+2*v):=by
 induction k with
 | zero=>
  refine ⟨Qp,UE,1591034055961698251,721347520444481703,fun x=>?_,aI,aI⟩;show kI 1 x=_;show x*Qp+UE=_;rw [II]
 | succ k ih=>
  obtain ⟨p,q,u,v,h1,h2,h3⟩:=ih;refine ⟨p*p,p*q+q,u+2 ^ (k+1)*u*u,v+2 ^ k*u*(1+2*v),fun x=>?_,?_,?_⟩
  .rw [show (2:Nat) ^ (k+1)=2 ^ k+2 ^ k by rw [Nat.pow_succ];omega,MQ,h1,h1,Int.mul_add,Int.mul_assoc,Int.add_assoc]
  .have e2:(2:Int) ^ (k+1+2)=2*2 ^ (k+2):=by rw [show k+1+2=(k+2)+1 by omega,BZ,II]
   have e3:(2:Int) ^ (k+2)=2*2 ^ (k+1):=by rw [BZ,II]
   rw [h2,e2];generalize (2:Int) ^ (k+2)=t at e3 ⊢;generalize (2:Int) ^ (k+1)=s at e3 ⊢;subst e3
   grind
  .have e1:(2:Int) ^ (k+1)=2*2 ^ k:=by rw [BZ,II]
   have e2:(2:Int) ^ (k+2)=4*2 ^ k:=by rw [BZ,BZ];omega
   rw [h2,h3,e1,e2];generalize (2:Int) ^ k=t
   grind
def ahL (k:Nat) (x y:Int):∃ n d,kI n x=y+2 ^ k*d:=by
 induction k with
 | zero=>exact ⟨0,x - y,by show x=_;simp;omega⟩
 | succ k ih=>
  obtain ⟨n,d,h⟩:=ih;have e1:(2:Int) ^ (k+1)=2*2 ^ k:=by rw [BZ,II]
  by_cases hd:d % 2=0
  .refine ⟨n,d / 2,?_⟩;rw [h,e1,show d=2*(d / 2) by omega];rw [Int.mul_left_comm,<- Int.mul_assoc,show 2*(d / 2) / 2=d / 2 by omega]
  .obtain ⟨p,q,u,v,h1,h2,h3⟩:=aam k;refine ⟨n+2 ^ k,(1+d) / 2+v+2*u*(y+2 ^ k*d),?_⟩;have e2:(2:Int) ^ (k+2)=4*2 ^ k:=by rw [BZ,BZ];omega
   have hd2:d=2*((1+d) / 2) - 1:=ah;rw [MQ,h,h1,h2,h3,e1,e2];generalize (1+d) / 2=g at hd2 ⊢;subst hd2;generalize (2:Int) ^ k=t
   grind
def iR (h:Int):Int:=IntKind.wrap .i64 (IntKind.wrap .i64 (h*6364136223846793005)+1442695040888963407)
def gu:Nat->Int->Int
 | 0,h=>h
 | n+1,h=>gu n (iR h)
def Qq:∀ (m n:Nat) (x:Int),gu (m+n) x=gu n (gu m x)
 | 0,n,x=>by rw [mD];rfl
 | m+1,n,x=>by
  rw [show m+1+n=(m+n)+1 by omega];show gu (m+n) (iR x)=gu n (gu m<|iR x);exact Qq m n (iR x)
def ahM (h:Int): -9223372036854775808<=iR h/\iR h<=9223372036854775807:=by
 unfold iR;rw [UF];omega
def aan (x:Int):∃ d,IntKind.wrap .i64 x=x+18446744073709551616*d:=by
 rw [UF];exact ⟨-((x+9223372036854775808) / 18446744073709551616),ah⟩
def ahN (h:Int):∃ d,iR h=lc h+18446744073709551616*d:=by
 unfold iR lc;obtain ⟨d1,h1⟩:=aan (h*6364136223846793005);obtain ⟨d2,h2⟩:=aan (IntKind.wrap .i64 (h*6364136223846793005)+1442695040888963407);refine ⟨d1+d2,?_⟩;rw [h2,h1];show _=h*6364136223846793005+1442695040888963407+_;generalize h*6364136223846793005=z;omega
def UG:∀ (n:Nat) (x d:Int),∃ e,kI n (x+18446744073709551616*d)=kI n x+18446744073709551616*e
 | 0,x,d=>⟨d,rfl⟩
 | n+1,x,d=>by
  have e:lc (x+18446744073709551616*d)=lc x+18446744073709551616*(d*Qp):=by
   unfold lc
   grind
  show ∃ e,kI n (lc<|x+18446744073709551616*d)=kI n (lc x)+18446744073709551616*e;rw [e];exact UG n (lc x) _
def aao:∀ (n:Nat) (h:Int),∃ d,gu n h=kI n h+18446744073709551616*d
 | 0,h=>⟨0,by show h=h+_;omega⟩
 | n+1,h=>by
  obtain ⟨d,hd⟩:=aao n (iR h);obtain ⟨d2,h2⟩:=ahN h;obtain ⟨e,he⟩:=UG n (lc h) d2;refine ⟨e+d,?_⟩;show gu n (iR h)=kI n (lc h)+_;rw [hd,h2,he];omega
def aap (M:Nat) (hM:M=2 ^ 64) (x:Int):∃ d,kI M x=x+18446744073709551616*d:=by
 obtain ⟨p,q,u,v,h1,h2,h3⟩:=aam 64;have e2:(2:Int) ^ (64+2)=73786976294838206464:=aI;have e3:(2:Int) ^ 64=18446744073709551616:=aI;rw [<- hM] at h1;rw [e2] at h2;rw [e3] at h3;refine ⟨4*u*x+(1+2*v),?_⟩;rw [h1,h2,h3]
 grind
def ahO (M:Nat) (hM:M=2 ^ 64) (k:Nat) (x:Int):∃ d,kI (M*k) x=x+18446744073709551616*d:=by
 induction k with
 | zero=>exact ⟨0,by rw [Qr];show x=_;omega⟩
 | succ k ih=>
  obtain ⟨d,hd⟩:=ih;obtain ⟨d2,h2⟩:=aap M hM (x+18446744073709551616*d);refine ⟨d+d2,?_⟩;rw [Nat.mul_succ,MQ,hd,h2];omega
def ahP (M:Nat) (hM:M=2 ^ 64) (hM0:0 < M) (h y:Int) (h1: -9223372036854775808<=y) (h2:y<=9223372036854775807):∃ n,1<=n/\n<=M/\gu n h=y:=by
 obtain ⟨n,d,hn⟩:=ahL 64 h y;have e3:(2:Int) ^ 64=18446744073709551616:=aI;rw [e3] at hn;have key:∀ m,(∃ d,kI m h=y+18446744073709551616*d)->1<=m->gu m h=y:=fun m ⟨d,hm⟩ h1m=>by
  obtain ⟨d2,hd2⟩:=aao m h;obtain ⟨m,rfl⟩:∃ k,m=k+1:=⟨m - 1,ah⟩
  have hr: -9223372036854775808<=gu (m+1) h/\gu (m+1) h<=9223372036854775807:=by
   rw [Qq m 1 h];exact ahM _
  rw [hm] at hd2;omega
 obtain ⟨d2,hq⟩:=ahO M hM (n / M) h;have hsplit:kI n h=kI (n % M) (kI (M*(n / M)) h):=by
  rw [<- MQ,Qs]
 obtain ⟨e,he⟩:=UG (n % M) h d2;rw [hsplit,hq,he] at hn;have hm:kI (n % M) h=y+18446744073709551616*(d - e):=ah;rcases Mv (n % M) with h0|h0
 .rw [h0] at hm;obtain ⟨d3,h3⟩:=aap M hM h;refine ⟨M,hM0,fq _,key _ ⟨d - e+d3,?_⟩ hM0⟩;rw [h3];have:h=y+18446744073709551616*(d - e):=hm;omega
 .exact ⟨n % M,h0,UH<|IY _ hM0,key _ ⟨_,hm⟩ h0⟩
def ahQ (h y:Int) (h1: -9223372036854775808<=y) (h2:y<=9223372036854775807):∃ n,1<=n/\n<=2 ^ 64/\gu n h=y:=
 ahP (2 ^ 64) rfl aI h y h1 h2
inductive Pg (α:Type):Type
 | ret (a:α):Pg α
 | rd (k:Int->Pg α):Pg α
namespace Pg
def bind {α β:Type}:Pg α->(α->Pg β)->Pg β
 | ret a,f=>f a
 | rd k,f=>rd fun x=>(k x).bind f
def map {α β:Type} (g:α->β) (p:Pg α):Pg β:=p.bind fun a=>ret (g a)
inductive Post {α:Type} (P:α->Prop):Pg α->Prop
 | ret {a:α} (h:P a):Post P (.ret a)
 | rd {k:Int->Pg α} (h:∀ x,0<=x->x<=255->Post P (k x)):Post P (.rd k)
inductive Le {α:Type}:Pg α->Nat->Prop
 | ret {a:α} {n:Nat}:Le (.ret a) n
 | rd {k:Int->Pg α} {n:Nat} (h:∀ x,0<=x->x<=255->Le (k x) n):Le (.rd k) (n+1)
def One {α:Type}:Pg α->Prop
 | ret _=>False
 | rd _=>True
def Le.mono {α:Type} {p:Pg α} {n m:Nat} (h:Le p n) (hm:n<=m):Le p m:=by
 induction h generalizing m with
 | ret=>exact .ret
 | rd h ih=>
  obtain ⟨m,rfl⟩:∃ k,m=k+1:=⟨m - 1,ah⟩
  exact .rd fun x a b=>ih x a b ah
def Post.imp {α:Type} {P Q:α->Prop} {p:Pg α} (h:Post P p) (hi:∀ a,P a->Q a):Post Q p:=by
 induction h with
 | ret h=>exact .ret (hi _ h)
 | rd h ih=>exact .rd ih
def Post.bind {α β:Type} {P:α->Prop} {Q:β->Prop} {p:Pg α} {f:α->Pg β} (h:Post P p) (hf:∀ a,P a->Post Q (f a)):Post Q (p.bind f):=by
 induction h with
 | ret h=>exact hf _ h
 | rd h ih=>exact .rd ih
def bW.bind {α β:Type} {P:α->Prop} {p:Pg α} {f:α->Pg β} {n m k:Nat} (hp:Post P p) (h:Le p n) (hf:∀ a,P a->Le (f a) m) (hk:n+m<=k):Le (p.bind f) k:=by
 induction h generalizing k with
 | ret=>
  cases hp with
  | ret hp=>exact (hf _ hp).mono ah
 | rd h ih=>
  cases hp with
  | rd hp=>
   obtain ⟨k,rfl⟩:∃ j,k=j+1:=⟨k - 1,ah⟩
   exact .rd fun x a b=>ih x a b (hp x a b) ah
def One.bind {α β:Type} {p:Pg α} {f:α->Pg β} (h:One p):One (p.bind f):=by
 cases p with
 | ret=>cases h
 | rd=>trivial
def gen (h:Int):Int:=bits .and .i64 (bits .xor .i64 (Int.fdiv (iR h)<|2 ^ (min 33 64))<|Int.fdiv (iR h)<|2 ^ (min 45 64)) 255
def cb (b:List UInt8) (i:Nat) (h:Int):Int:=match b[i]? with
 | some e=>bits .and .i64 (IntKind.wrap .i64<|gen h+IntKind.wrap .i64 (e.toNat:Int)) 255
 | none=>gen h
def nx (b:List UInt8) (i:Nat):Nat:=if i < b.length then i+1 else i
def run {α:Type} (b:List UInt8):Pg α->Nat->Int->α×Nat×Int
 | ret a,i,h=>(a,i,h)
 | rd k,i,h=>run b (k<|cb b i h) (nx b i) (iR h)
def uV {α:Type}:Pg α->Int->α×Int
 | ret a,h=>(a,h)
 | rd k,h=>uV (k<|gen h) (iR h)
def run_bind {α β:Type} (b:List UInt8):∀ (p:Pg α) (f:α->Pg β) (i:Nat) (h:Int),run b (p.bind f) i h=run b (f (run b p i h).1) (run b p i h).2.1 (run b p i h).2.2
 | ret _,_,_,_=>rfl
 | rd k,f,i,h=>run_bind b (k<|cb b i h) f (nx b i) (iR h)
def ahR {b:List UInt8} {i:Nat} (h:i<=b.length):nx b i<=b.length:=by unfold nx;split<;>omega
def yt {α:Type} (b:List UInt8):∀ (p:Pg α) (i:Nat) (h:Int),i<=b.length->(run b p i h).2.1<=b.length
 | ret _,_,_,hi=>hi
 | rd k,i,h,hi=>yt b (k<|cb b i h) (nx b i) (iR h) (ahR hi)
def ahS (b:List UInt8):nx b b.length=b.length:=by unfold nx;split<;>omega
def run_end {α:Type} (b:List UInt8):∀ (p:Pg α) (h:Int),run b p b.length h=((uV p h).1,b.length,(uV p h).2)
 | ret _,_=>rfl
 | rd k,h=>by
  have e:cb b b.length h=gen h:=by unfold cb;rw [xS ah]
  show run b (k<|cb b b.length h) (nx b b.length) (iR h)=_;rw [e,ahS,run_end b (k<|gen h)<|iR h];rfl
def MR (h:Int):0<=gen h/\gen h<=255:=Qo _
def aaq (b:List UInt8) (i:Nat) (h:Int):0<=cb b i h/\cb b i h<=255:=by
 unfold cb;split
 .exact Qo _
 .exact MR h
def MS {α:Type} {P:α->Prop} (b:List UInt8) {p:Pg α} (hp:Post P p):∀ (i:Nat) (h:Int),P (run b p i h).1:=by
 induction hp with
 | ret h=>intro i h';exact h
 | rd h ih=>intro i h';exact ih (cb b i h') (aaq b i h').1 (aaq b i h').2 (nx b i) (iR h')
def ahT {α:Type} {p:Pg α} {n:Nat} (hp:Le p n):∀ h:Int,∃ k,k<=n/\(uV p h).2=gu k h:=by
 induction hp with
 | ret=>intro h;exact ⟨0,ah,rfl⟩
 | rd h ih=>
  intro h';obtain ⟨k,h1,h2⟩:=ih (gen h') (MR h').1 (MR h').2 (iR h');exact ⟨k+1,ah,h2⟩
def ahU {α:Type} {p:Pg α} {n:Nat} (hp:Le p n) (ho:One p) (h:Int):∃ k,1<=k/\k<=n/\(uV p h).2=gu k h:=by
 cases hp with
 | ret=>cases ho
 | rd hk=>
  obtain ⟨k,h1,h2⟩:=ahT (hk (gen h) (MR h).1 (MR h).2) (iR h);exact ⟨k+1,ah,ah,h2⟩
def aar {α:Type} (b:List UInt8):∀ (p:Pg α) (i:Nat) (h:Int),i<=(run b p i h).2.1
 | ret _,_,_=>fq _
 | rd k,i,h=>by
  have:=aar b (k<|cb b i h) (nx b i) (iR h);have h2:i<=nx b i:=by unfold nx;split<;>omega
  exact tK h2 this
def ahV {α:Type} (b:List UInt8) {p:Pg α} (ho:One p) (i:Nat) (h:Int) (hi:i < b.length):i < (run b p i h).2.1:=by
 cases p with
 | ret=>cases ho
 | rd k=>
  have:=aar b (k<|cb b i h) (nx b i) (iR h);have h2:nx b i=i+1:=by unfold nx;rw [bC hi]
  rw [h2] at this;show i < (run b (k<|cb b i h) (nx b i)<|iR h).2.1;rw [h2];exact this
def yu {α:Type} (p:Pg α) (ok:α->Bool):Nat->Int->Option (α×Int)
 | 0,_=>none
 | n+1,h=>bif ok (uV p h).1 then some (uV p h) else yu p ok n (uV p h).2
def loop {α:Type} (b:List UInt8) (p:Pg α) (ok:α->Bool):Nat->Nat->Int->Option (α×Nat×Int)
 | 0,_,_=>none
 | n+1,i,h=>bif ok (run b p i h).1 then some (run b p i h) else loop b p ok n (run b p i h).2.1 (run b p i h).2.2
def aas {α:Type} (b:List UInt8) (p:Pg α) (ok:α->Bool):∀ (n:Nat) (h:Int),(yu p ok n h).isSome=true->(loop b p ok n b.length h).isSome=true
 | 0,_,hs=>by cases hs
 | n+1,h,hs=>by
  rw [yu] at hs;rw [loop,run_end];dsimp only;cases hc:ok (uV p h).1 with
  | true=>rfl
  | false=>rw [hc,aM] at hs;rw [aM];exact aas b p ok n (uV p h).2 hs
def Qt {α:Type} (p:Pg α) (ok:α->Bool):∀ (n m:Nat) (h:Int),n<=m->(yu p ok n h).isSome=true->(yu p ok m h).isSome=true
 | 0,_,_,_,hs=>by cases hs
 | n+1,0,_,hm,_=>by omega
 | n+1,m+1,h,hm,hs=>by
  rw [yu] at hs ⊢;cases hc:ok (uV p h).1 with
  | true=>rfl
  | false=>rw [hc,aM] at hs;rw [aM];exact Qt p ok n m _ ah hs
def fJ {α:Type} (p:Pg α) (ok:α->Bool) (F:Nat):Nat->Int->Bool
 | 0,_=>true
 | n+1,h=>(yu p ok F h).isSome&&fJ p ok F n (iR h)
def aat {α:Type} (p:Pg α) (ok:α->Bool) (F:Nat):∀ (n:Nat) (h:Int) (k:Nat),fJ p ok F n h=true->k < n->(yu p ok F<|gu k h).isSome=true
 | 0,_,_,_,hk=>by omega
 | n+1,h,0,ha,_=>by
  rw [fJ,dS] at ha;exact ha.1
 | n+1,h,k+1,ha,hk=>by
  rw [fJ,dS] at ha;exact aat p ok F n (iR h) k ha.2 ah
def tL {α:Type} (p:Pg α) (ok:α->Bool) (F:Nat):∀ (n m:Nat) (h:Int),fJ p ok F n h=true->fJ p ok F m (gu n h)=true->fJ p ok F (n+m) h=true
 | 0,m,h,_,h2=>by rw [mD];exact h2
 | n+1,m,h,h1,h2=>by
  rw [show n+1+m=(n+m)+1 by omega,fJ,dS];rw [fJ,dS] at h1;exact ⟨h1.1,tL p ok F n m (iR h) h1.2 h2⟩
def ahW {α:Type} {p:Pg α} {ok:α->Bool} {B F:Nat} {h0:Int} (hB:Le p B) (ho:One p) (ha:fJ p ok F (B+1) h0=true):∀ (n:Nat) (h:Int),gu n h=h0->(yu p ok (n+F+1) h).isSome=true:=by
 intro n;induction n using Nat.strongRecOn with
 | _ n ih=>
  intro h hn;rw [yu];cases ok (uV p h).1 with
  | true=>rfl
  | false=>
   rw [aM];obtain ⟨k,k1,k2,k3⟩:=ahU hB ho h;rw [k3];by_cases hk:k<=n
   .have e:gu (n - k) (gu k h)=h0:=by rw [<- Qq,show k+(n - k)=n by omega];exact hn
    exact Qt p ok _ _ _ ah (ih (n - k) ah (gu k h) e)
   .have e:gu k h=gu (k - n) h0:=by rw [<- hn,<- Qq,show n+(k - n)=k by omega]
    rw [e];exact Qt p ok F _ _ ah (aat p ok F (B+1) h0 (k - n) ha ah)
def aau {α:Type} {p:Pg α} {ok:α->Bool} {B F:Nat} {h0:Int} (hB:Le p B) (ho:One p) (ha:fJ p ok F (B+1) h0=true) (h1: -9223372036854775808<=h0) (h2:h0<=9223372036854775807) (b:List UInt8) (M:Nat) (hM:18446744073709551616+F+1<=M):∀ (d i n:Nat) (h:Int),b.length - i=d->i<=b.length->M+d<=n->(loop b p ok n i h).isSome=true:=by
 intro d;induction d using Nat.strongRecOn with
 | _ d ih=>
  intro i n h hd hi hn;by_cases hlt:i < b.length
  .obtain ⟨n,rfl⟩:∃ k,n=k+1:=⟨n - 1,ah⟩
   rw [loop];cases ok (run b p i h).1 with
   | true=>rfl
   | false=>
    rw [aM];have g1:=ahV b ho i h hlt;have g2:=yt b p i h hi;exact ih (b.length - (run b p i h).2.1) ah _ n _ rfl g2 ah
  .have e:i=b.length:=ah;subst e;obtain ⟨k,_,k2,k3⟩:=ahQ h h0 h1 h2;have e3:(2:Nat) ^ 64=18446744073709551616:=aI;rw [e3] at k2;exact aas b p ok n h (Qt p ok _ _ _ ah<|ahW hB ho ha k h k3)
def TP {α:Type} (b:List UInt8) {P:α->Prop} {p:Pg α} (hp:Post P p) (ok:α->Bool):∀ (n i:Nat) (h:Int) (r:α×Nat×Int),i<=b.length->loop b p ok n i h=some r->P r.1/\ok r.1=true/\r.2.1<=b.length
 | 0,_,_,_,_,e=>by cases e
 | n+1,i,h,r,hi,e=>by
  rw [loop] at e;cases ho:ok (run b p i h).1 with
  | true=>
   rw [ho,aU] at e;cases e;exact ⟨MS b hp i h,ho,yt b p i h hi⟩
  | false=>
   rw [ho,aM] at e;exact TP b hp ok n _ _ r (yt b p i h hi) e
end Pg
def Sm {α β:Type} (b:List UInt8) (p:Pg α) (f:α->β) (i:Nat) (h:Int) (x:Option (β×Int×Int)):Prop:=x=some (f (Pg.run b p i h).1,((Pg.run b p i h).2.1:Int),(Pg.run b p i h).2.2)
def Sm.ret {α β:Type} {b:List UInt8} {a:α} {f:α->β} {i:Nat} {h:Int}:Sm b (.ret a) f i h (some (f a,(i:Int),h)):=rfl
def Sm.bind {α β γ δ:Type} {b:List UInt8} {p:Pg α} {f:α->β} {q:α->Pg γ} {g:γ->δ} {P:α->Prop} {i:Nat} {h:Int} {x:Option (β×Int×Int)} {y:β×Int×Int->Option (δ×Int×Int)} (hi:i<=b.length) (hp:Pg.Post P p) (hx:Sm b p f i h x) (hy:∀ a (i:Nat) h,P a->i<=b.length->Sm b (q a) g i h (y (f a,(i:Int),h))):Sm b (p.bind q) g i h (Option.bind x y):=by
 unfold Sm at hx hy ⊢;rw [hx,aD,Pg.run_bind];exact hy _ _ _ (Pg.MS b hp i h) (Pg.yt b p i h hi)
def uW {α β:Type} {b:List UInt8} {p:Pg α} {f:α->β} {i:Nat} {h:Int} {x:Option (β×Int×Int)} (hx:Sm b p f i h x):Sm b p f i h (Option.bind x fun r=>some (r.1,r.2.1,r.2.2)):=by
 unfold Sm at hx ⊢;rw [hx];rfl
def Sm.cond {α β:Type} {b:List UInt8} {p q:Pg α} {f:α->β} {i:Nat} {h:Int} {c:Bool} {x y:Option (β×Int×Int)} (hx:c=true->Sm b p f i h x) (hy:c=false->Sm b q f i h y):Sm b (bif c then p else q) f i h (bif c then x else y):=by
 cases c
 .exact hy rfl
 .exact hx rfl
def agh {α β:Type} {b:List UInt8} {p:Pg α} {f:α->β} {P:α->Prop} {Q:β->Prop} {i:Nat} {h:Int} {x:Option (β×Int×Int)} (hi:i<=b.length) (hx:Sm b p f i h x) (hp:Pg.Post P p) (hq:∀ a,P a->Q (f a)):Dr b Q x:=
 ⟨_,_,_,hx,hq _<|Pg.MS b hp i h,ah,by have:=Pg.yt b p i h hi;omega⟩
def gQ (n:Int):Pg Int:=bif decide (n<=0) then .ret 0 else bif decide (n<=256) then .rd fun x=>.ret (Int.tmod x n) else .rd fun x=>.rd fun y=>.rd fun z=>.rd fun w=>.ret (Int.tmod (IntKind.wrap .i64<|(IntKind.wrap .i64<|(IntKind.wrap .i64<|(IntKind.wrap .i64<|x*16777216)+(IntKind.wrap .i64<|y*65536))+(IntKind.wrap .i64<|z*256))+w) n)
def tN (n:Int):Pg Bool:=(gQ n).bind fun r=>.ret (r==0)
def nA (l:List (List UInt8)):Pg (List UInt8):=(gQ (l.length:Int)).bind fun r=>.ret (l[r.toNat]?.getD [])
def uX (l:List Int):Pg Int:=(gQ (l.length:Int)).bind fun r=>.ret (l[r.toNat]?.getD 0)
def Qu:Pg (List UInt8):=nA [[48],[49],[52,50],[51,46,53],[46,53],[55,46],[49,101,51],[50,69,45,52],[49,48,46,50,53,101,43,49]]
def Qv:Pg (List UInt8):=nA [[34,34],[34,97,34],[34,120,32,121,34],[34,113,92,34,113,34],[34,92,110,34],[34,35,110,111,34],[34,47,34]]
def Qw:Pg (List UInt8):=nA [[47,97,47],[47,94,120,43,36,47],[47,97,92,47,98,47],[47,61,47],[47,32,47],[47,91,48,45,57,93,47]]
def yw:Pg (List UInt8):=nA [[120],[121],[110],[105],[97,114,114],[78,82],[70,83],[116,111,116,97,108],[97,49],[95,116],[99,111,117,110,116]]
def Qx:Pg Int:=uX [60,57,58,59,55,56,56,99,99,99,63,48,47,50,62,62,49,67,46,45,44]
def cO (n:Int):Pg.Post (fun r=>0<=r/\(r < n\/n<=0/\r=0)) (gQ n):=by
 unfold gQ;cases h1:decide (n<=0) with
 | true=>exact .ret ⟨ah,.inr ⟨mq h1,rfl⟩⟩
 | false=>
  have h1:=IX h1;cases decide (n<=256) with
  | true=>exact .rd fun x hx _=>.ret ⟨UA _ hx,.inl<|UC _ ah⟩
  | false=>
   refine .rd fun x hx hx2=>.rd fun y hy hy2=>.rd fun z hz hz2=>.rd fun w hw hw2=>.ret ⟨UA _ ?_,.inl<|UC _ ah⟩;rw [wrap64 (n:=x*16777216) ah ah,wrap64 (n:=y*65536) ah ah,wrap64 (n:=x*16777216+y*65536) ah ah,wrap64 (n:=z*256) ah ah,wrap64 (n:=x*16777216+y*65536+z*256) ah ah,wrap64 ah ah];omega
def below_le (n:Int) (h:n<=256):Pg.Le (gQ n) 1:=by
 unfold gQ;cases decide (n<=0) with
 | true=>exact .ret
 | false=>rw [lH h];exact .rd fun _ _ _=>.ret
def mE (n:Int):Pg.Post (fun _=>True) (tN n):=(cO n).bind fun _ _=>.ret trivial
def IZ (n:Int) (h:n<=256):Pg.Le (tN n) 1:=Pg.bW.bind (cO n) (below_le n h) (m:=0) (fun _ _=>.ret) ah
def ahX {P:List UInt8->Prop} (l:List (List UInt8)) (hl:0 < l.length) (h:∀ x,x∈l->P x):Pg.Post P (nA l):=(cO _).bind fun r hr=>.ret (by
 have hn:r.toNat < l.length:=ah;rw [cB hn];exact h _<|jy hn)
def zN (l:List (List UInt8)) (h:l.length<=256):Pg.Le (nA l) 1:=Pg.bW.bind (cO _) (below_le _ ah) (m:=0) (fun _ _=>.ret) ah
def Ja {P:Int->Prop} (l:List Int) (hl:0 < l.length) (h:∀ x,x∈l->P x):Pg.Post P (uX l):=(cO _).bind fun r hr=>.ret (by
 have hn:r.toNat < l.length:=ah;rw [cB hn];exact h _<|jy hn)
def MU (l:List Int) (h:l.length<=256):Pg.Le (uX l) 1:=Pg.bW.bind (cO _) (below_le _ ah) (m:=0) (fun _ _=>.ret) ah
abbrev Sh (x:List UInt8):Prop:=x.length<=18
def nC (l:List (List UInt8)) (hl:0 < l.length) (h:(l.all fun x=>decide<|x.length<=18)=true):Pg.Post Sh (nA l):=ahX l hl fun x hx=>mq (gZ.1 h x hx)
def UJ:Pg.Post Sh Qu:=nC _ aI aI
def UK:Pg.Post Sh Qv:=nC _ aI aI
def UL:Pg.Post Sh Qw:=nC _ aI aI
def jV:Pg.Post Sh yw:=nC _ aI aI
def UM:Pg.Post (fun _=>True) Qx:=Ja _ aI fun _ _=>trivial
def ahY:Pg.Le Qu 1:=zN _ aI
def ahZ:Pg.Le Qv 1:=zN _ aI
def aia:Pg.Le Qw 1:=zN _ aI
def EU:Pg.Le yw 1:=zN _ aI
def aib:Pg.Le Qx 1:=MU _ aI
section
variable (b:List UInt8) (hb:b.length<=1048576)
include hb
theorem MV (i:Nat) (h:Int) (hi:i<=b.length):Sm b (.rd .ret) (fun x=>x) i h (vO b (i:Int) h):=by
 unfold vO Gj Sm;show _=some (Pg.cb b i h,((Pg.nx b i:Nat):Int),iR h);unfold Pg.cb Pg.nx;by_cases hlt:i < b.length
 .simp only [iQ hlt,aU,bH hlt,aD,cB hlt,bC hlt];rw [wrap64 (n:=(i:Int)+1) ah ah];rfl
 .simp only [jm hlt,aM,xS (show b.length<=i by omega),aT hlt];rfl
theorem nW (n:Int) (i:Nat) (h:Int) (hi:i<=b.length):Sm b (gQ n) (fun x=>x) i h (fO n b (i:Int) h):=by
 unfold fO gQ;have hp:Pg.Post (fun x:Int=>0<=x/\x<=255) (.rd .ret):=.rd fun x h1 h2=>.ret ⟨h1,h2⟩;refine Sm.cond (fun _=>Sm.ret) fun hc=>Sm.cond (fun _=>?_) fun _=>?_
 .have hc:=IX hc;have hn:(n==0)=false:=bI;refine Sm.bind (p:=.rd .ret) (q:=fun x=>.ret<|Int.tmod x n) hi hp (MV b hb i h hi) fun x i h _ _=>?_;unfold xC;simp only [hn,aM,aD];exact Sm.ret
 .have hc:=IX hc;have hn:(n==0)=false:=bI;refine Sm.bind (p:=.rd .ret) (q:=fun x=>.rd fun y=>.rd fun z=>.rd fun w=>.ret<|Int.tmod (IntKind.wrap .i64<|(IntKind.wrap .i64<|(IntKind.wrap .i64<|(IntKind.wrap .i64<|x*16777216)+(IntKind.wrap .i64<|y*65536))+(IntKind.wrap .i64<|z*256))+w) n) hi hp (MV b hb i h hi) fun x i h _ hi=>?_;dsimp only;refine Sm.bind (p:=.rd .ret) (q:=fun y=>.rd fun z=>.rd fun w=>.ret<|Int.tmod (IntKind.wrap .i64<|(IntKind.wrap .i64<|(IntKind.wrap .i64<|(IntKind.wrap .i64<|x*16777216)+(IntKind.wrap .i64<|y*65536))+(IntKind.wrap .i64<|z*256))+w) n) hi hp (MV b hb i h hi) fun y i h _ hi=>?_;dsimp only;refine Sm.bind (p:=.rd .ret) (q:=fun z=>.rd fun w=>.ret<|Int.tmod (IntKind.wrap .i64<|(IntKind.wrap .i64<|(IntKind.wrap .i64<|(IntKind.wrap .i64<|x*16777216)+(IntKind.wrap .i64<|y*65536))+(IntKind.wrap .i64<|z*256))+w) n) hi hp (MV b hb i h hi) fun z i h _ hi=>?_;dsimp only;refine Sm.bind (p:=.rd .ret) (q:=fun w=>.ret<|Int.tmod (IntKind.wrap .i64<|(IntKind.wrap .i64<|(IntKind.wrap .i64<|(IntKind.wrap .i64<|x*16777216)+(IntKind.wrap .i64<|y*65536))+(IntKind.wrap .i64<|z*256))+w) n) hi hp (MV b hb i h hi) fun w i h _ hi=>?_;dsimp only;unfold xC;simp only [hn,aM,aD];exact Sm.ret
theorem Jb (n:Int) (i:Nat) (h:Int) (hi:i<=b.length):Sm b (tN n) (fun x=>x) i h (qA n b (i:Int) h):=by
 unfold qA tN;exact Sm.bind hi (cO n) (nW b hb n i h hi) fun r i h _ hi=>Sm.ret
theorem zO (l:List (List UInt8)) (hl:0 < l.length) (i:Nat) (h:Int) (hi:i<=b.length):Sm b (nA l) (fun x=>x) i h (lY l b (i:Int) h):=by
 unfold lY nA;refine Sm.bind hi (cO _) (nW b hb _ i h hi) fun r i h hr hi=>?_;obtain ⟨n,rfl⟩:=lJ hr.1;have hn:n < l.length:=by rcases hr.2 with h|h<;>omega
 have e:ix l (n:Int)=some l[n]:=bH hn;dsimp only;rw [e,aD,show Int.toNat ((n:Nat):Int)=n from rfl,cB hn];exact Sm.ret
theorem MW (l:List Int) (hl:0 < l.length) (i:Nat) (h:Int) (hi:i<=b.length):Sm b (uX l) (fun x=>x) i h (qB l b (i:Int) h):=by
 unfold qB uX;refine Sm.bind hi (cO _) (nW b hb _ i h hi) fun r i h hr hi=>?_;obtain ⟨n,rfl⟩:=lJ hr.1;have hn:n < l.length:=by rcases hr.2 with h|h<;>omega
 have e:ix l (n:Int)=some l[n]:=bH hn;dsimp only;rw [e,aD,show Int.toNat ((n:Nat):Int)=n from rfl,cB hn];exact Sm.ret
theorem aic (i:Nat) (h:Int) (hi:i<=b.length):Sm b Qu (fun x=>x) i h (OO b (i:Int) h):=uW (zO b hb _ aI i h hi)
theorem aie (i:Nat) (h:Int) (hi:i<=b.length):Sm b Qv (fun x=>x) i h (OP b (i:Int) h):=uW (zO b hb _ aI i h hi)
theorem aif (i:Nat) (h:Int) (hi:i<=b.length):Sm b Qw (fun x=>x) i h (OQ b (i:Int) h):=uW (zO b hb _ aI i h hi)
theorem zP (i:Nat) (h:Int) (hi:i<=b.length):Sm b yw (fun x=>x) i h (rE b (i:Int) h):=uW (zO b hb _ aI i h hi)
theorem aii (i:Nat) (h:Int) (hi:i<=b.length):Sm b Qx (fun x=>x) i h (Gn b (i:Int) h):=uW (MW b hb _ aI i h hi)
end
def ShN (x:aB):Prop:=x.Text.length<=18/\x.Other.length<=18
def EW (t:aC):Prop:=∀ x,x∈aP 0 t->ShN x
def aij {t:aC} (h:EW t) (b:Nat):∀ x,x∈aP b t->ShN x:=fun x hx=>by
 have e:=MJ t 0 b;rw [mD] at e;rw [e] at hx;obtain ⟨y,hy,rfl⟩:=lK.1 hx;exact h y hy
def aik {ts:List aC} (h:∀ t,t∈ts->EW t):∀ (b:Nat) x,x∈eF b ts->ShN x:=by
 induction ts with
 | nil=>intro b x hx;rw [eF] at hx;cases hx
 | cons t ts ih=>
  intro b x hx;rw [eF] at hx;rcases iw.1 hx with hx|hx
  .exact aij (h t aF) b x hx
  .exact ih (fun t' h'=>h t'<|by simp [h']) _ x hx
def Gd (m d:Nat) (t:aC):Prop:=bA t<=m/\eu t<=d/\EW t
def Gd.mono {m d m' d':Nat} {t:aC} (h:Gd m d t) (hm:m<=m') (hd:d<=d'):Gd m' d' t:=⟨tK h.1 hm,tK h.2.1 hd,h.2.2⟩
def Gd.mk {m d:Nat} {k o:Int} {x y:List UInt8} {ts:List aC} (hx:Sh x) (hy:Sh y) (hs:aJ ts+1<=m) (hd:dz ts+1<=d) (h:∀ t,t∈ts->EW t):Gd m d ⟨k,o,x,y,ts⟩:=by
 refine ⟨by rw [bA];exact hs,by rw [eu];exact hd,fun n hn=>?_⟩;rw [aP] at hn;rcases iw.1 hn with hn|hn
 .exact aik h 0 n hn
 .rw [ni.1 hn];exact ⟨hx,hy⟩
def MX {m d:Nat}:∀ {ts:List aC},(∀ t,t∈ts->Gd m d t)->aJ ts<=ts.length*m/\dz ts<=d/\∀ t,t∈ts->EW t
 | [],_=>⟨by simp [aJ],by simp [dz],fun t ht=>by cases ht⟩
 | t::ts,h=>by
  obtain ⟨h1,h2,h3⟩:=MX (ts:=ts) fun t' ht'=>h t' (by simp [ht']);obtain ⟨g1,g2,g3⟩:=h t aF;refine ⟨by simp only [aJ,oV,oW];omega,by simp only [dz];omega,fun t' ht'=>?_⟩;rcases fu.1 ht' with rfl|ht'
  .exact g3
  .exact h3 t' ht'
def jW {α:Type} (p:Pg α):Nat->Pg (List α)
 | 0=>.ret []
 | n+1=>p.bind fun a=>(jW p n).bind fun zs=>.ret (a::zs)
def wu {α:Type} {P:α->Prop} {p:Pg α} (h:Pg.Post P p):∀ n,Pg.Post (fun zs=>zs.length=n/\∀ a,a∈zs->P a) (jW p n)
 | 0=>.ret ⟨rfl,fun a h=>by cases h⟩
 | n+1=>h.bind fun a ha=>(wu h n).bind fun zs has=>.ret ⟨by simp [has.1],fun x hx=>by
  rcases fu.1 hx with rfl|hx
  .exact ha
  .exact has.2 x hx⟩
def MZ {α:Type} {P:α->Prop} {p:Pg α} (h:Pg.Post P p) {B:Nat} (hB:Pg.Le p B):∀ n,Pg.Le (jW p n) (n*B)
 | 0=>.ret
 | n+1=>Pg.bW.bind h hB (m:=n*B) (fun a _=>Pg.bW.bind (wu h n) (MZ h hB n) (m:=0) (fun _ _=>.ret) ah) (by rw [oW];omega)
def yx:Pg aC:=yw.bind fun x=>.ret ⟨1,0,x,[],[]⟩
def Ca:Pg aC:=(gQ 7).bind fun r=>bif r==0 then Qu.bind fun x=>.ret ⟨2,0,x,[],[]⟩ else bif r==1 then Qv.bind fun x=>.ret ⟨3,0,x,[],[]⟩ else bif r==2 then (tN 2).bind fun o=>bif o then Qw.bind fun x=>.ret ⟨4,0,x,[],[]⟩ else yx else yx
def rY (e1 e2:Pg aC):Pg aC:=(gQ 4).bind fun r=>bif r==0 then yw.bind fun x=>e1.bind fun t=>.ret ⟨5,0,x,[],[t]⟩ else bif r==1 then e2.bind fun t=>.ret ⟨6,0,[],[],[t]⟩ else yx
def rZ (lo hi:Int) (e:Pg aC):Pg (List aC):=(gQ<|hi - lo+1).bind fun r=>jW e (lo+r).toNat
def Jc (e1 e2 e3:Pg aC) (r:Int) (y:Bool):Pg aC:=bif y then (uX [56,55,61]).bind fun o=>e1.bind fun t=>.ret ⟨11,o,[],[],[t]⟩ else bif r==9 then yw.bind fun x=>(rZ 1 2 e1).bind fun ts=>.ret ⟨13,0,x,[],ts⟩ else bif r==10 then e1.bind fun t=>e1.bind fun u=>e1.bind fun v=>.ret ⟨14,0,[],[],[t,u,v]⟩ else bif r==11 then (uX [54,38,43]).bind fun o=>(rY e2 e3).bind fun t=>e1.bind fun u=>.ret ⟨15,o,[],[],[t,u]⟩ else Qx.bind fun o=>e1.bind fun t=>e1.bind fun u=>.ret ⟨12,o,[],[],[t,u]⟩
def Na (e1 e2 e3:Pg aC):Pg aC:=(gQ 2).bind fun a=>(gQ 16).bind fun r=>bif r==0 then Ca else bif r==1 then rY e1 e2 else bif r==2 then e1.bind fun t=>.ret ⟨6,0,[],[],[t]⟩ else bif r==3 then yw.bind fun x=>(rZ 0 3 e1).bind fun ts=>.ret ⟨7,0,x,[],ts⟩ else bif r==4 then (nA [[108,101,110,103,116,104],[115,117,98,115,116,114],[105,110,100,101,120],[105,110,116],[116,111,117,112,112,101,114]]).bind fun x=>(rZ 0 3 e2).bind fun ts=>.ret ⟨8,0,x,[],ts⟩ else bif r==5 then (rY e2 e3).bind fun t=>.ret ⟨9,51+a,[],[],[t]⟩ else bif r==6 then (rY e2 e3).bind fun t=>.ret ⟨10,51+a,[],[],[t]⟩ else bif r==7 then Jc e1 e2 e3 r (r==7) else Jc e1 e2 e3 r (r==8)
def Cb:Nat->Pg aC×Pg aC×Pg aC
 | 0=>(Ca,Ca,Ca)
 | d+1=>(Na (Cb d).1 (Cb d).2.1 (Cb d).2.2,(Cb d).1,(Cb d).2.1)
def dF (d:Nat):Pg aC:=(Cb d).1
def ail:∀ d,(Cb d).2.1=dF (d - 1)
 | 0=>rfl
 | d+1=>rfl
def ain:∀ d,(Cb d).2.2=dF (d - 2)
 | 0=>rfl
 | 1=>rfl
 | d+2=>rfl
def UN (d:Nat):dF (d+1)=Na (dF d) (dF<|d - 1) (dF<|d - 2):=by
 rw [<- ail,<- ain];rfl
def qO (d:Nat):Nat:=if d=0 then 1 else d+2
def eb:Nat->Nat
 | 0=>3
 | d+1=>3*eb d+4
def Jd {a c:Nat} (h:a<=c):eb a<=eb c:=by
 induction c with
 | zero=>rw [show a=0 by omega];exact fq _
 | succ c ih=>
  by_cases e:a=c+1
  .rw [e];exact fq _
  .have:=ih ah;rw [eb];omega
def wz {a c:Nat} (h:a<=c):pw a<=pw c:=by
 induction c with
 | zero=>rw [show a=0 by omega];exact fq _
 | succ c ih=>
  by_cases e:a=c+1
  .rw [e];exact fq _
  .have:=ih ah;rw [pw];omega
def fF:Sh ([]:List UInt8):=aF
def EX:Pg.Post (Gd 1 1) yx:=jV.bind fun x hx=>.ret (Gd.mk hx fF (by simp [aJ]) (by simp [dz]) fun t ht=>by cases ht)
def Qy:Pg.Le yx 1:=Pg.bW.bind jV EU (m:=0) (fun _ _=>.ret) ah
def eP {α:Type} {P:α->Prop} {c:Bool} {p q:Pg α} (hp:Pg.Post P p) (hq:Pg.Post P q):Pg.Post P (bif c then p else q):=by cases c<;>assumption
def leB {α:Type} {n:Nat} {c:Bool} {p q:Pg α} (hp:Pg.Le p n) (hq:Pg.Le q n):Pg.Le (bif c then p else q) n:=by cases c<;>assumption
def UO {p:Pg (List UInt8)} (h:Pg.Post Sh p) (k:Int):Pg.Post (Gd 1 1) (p.bind fun x=>.ret ⟨k,0,x,[],[]⟩):=h.bind fun x hx=>.ret (Gd.mk hx fF (by simp [aJ]) (by simp [dz]) fun t ht=>by cases ht)
def aav:Pg.Post (Gd 1 1) Ca:=(cO 7).bind fun r _=>eP (UO UJ 2) (eP (UO UK 3)<|eP ((mE 2).bind fun o _=>eP (UO UL 4) EX) EX)
def fQ {α β:Type} {P:α->Prop} {p:Pg α} {f:α->β} {n:Nat} (hp:Pg.Post P p) (h:Pg.Le p n):Pg.Le (p.bind fun a=>.ret<|f a) n:=Pg.bW.bind hp h (m:=0) (fun _ _=>.ret) ah
def aaw:Pg.Le Ca 3:=Pg.bW.bind (cO 7) (below_le 7 ah) (m:=2) (fun r _=>leB ((fQ UJ ahY).mono ah)<|leB ((fQ UK ahZ).mono ah)<|leB (Pg.bW.bind (mE 2) (IZ 2 ah) (m:=1) (fun o _=>leB (fQ UL aia) Qy) ah)<|Qy.mono ah) ah
def UQ {e1 e2:Pg aC} {m d:Nat} (h1:Pg.Post (Gd m d) e1) (h2:Pg.Post (Gd m d) e2) (hm:1<=m):Pg.Post (Gd (m+1)<|d+1) (rY e1 e2):=by
 refine (cO 4).bind fun r _=>eP (jV.bind fun x hx=>h1.bind fun t ht=>.ret ?_) (eP (h2.bind fun t ht=>.ret ?_)<|EX.imp fun t ht=>ht.mono ah ah)
 .exact Gd.mk hx fF (by have:=ht.1;simp only [aJ];omega) (by have:=ht.2.1;simp only [dz];omega) fun t' ht'=>by rw [ni.1 ht'];exact ht.2.2
 .exact Gd.mk fF fF (by have:=ht.1;simp only [aJ];omega) (by have:=ht.2.1;simp only [dz];omega) fun t' ht'=>by rw [ni.1 ht'];exact ht.2.2
def Qz {e1 e2:Pg aC} {P Q:aC->Prop} {n:Nat} (h1:Pg.Post P e1) (h2:Pg.Post Q e2) (g1:Pg.Le e1 n) (g2:Pg.Le e2 n):Pg.Le (rY e1 e2) (n+2):=
 Pg.bW.bind (cO 4) (below_le 4 ah) (m:=n+1) (fun r _=>leB (Pg.bW.bind jV EU (m:=n) (fun x _=>fQ h1 g1) ah)<|leB ((fQ h2 g2).mono ah)<|Qy.mono ah) ah
def uY {e:Pg aC} {m d:Nat} (h:Pg.Post (Gd m d) e) (lo hi:Nat) (hl:lo<=hi):Pg.Post (fun ts=>lo<=ts.length/\ts.length<=hi/\aJ ts<=hi*m/\dz ts<=d/\∀ t,t∈ts->EW t) (rZ (lo:Int) (hi:Int) e):=by
 refine (cO _).bind fun r hr=>(wu h _).imp fun ts hts=>?_;obtain ⟨g1,g2,g3⟩:=MX hts.2;have hlen:ts.length<=hi:=by rw [hts.1];omega
 exact ⟨by rw [hts.1];omega,hlen,tK g1<|oZ m hlen,g2,g3⟩
def Je {e:Pg aC} {P:aC->Prop} {n:Nat} (h:Pg.Post P e) (g:Pg.Le e n) (lo hi:Nat) (hl:lo<=hi) (hh:hi<=250):Pg.Le (rZ (lo:Int) (hi:Int) e) (hi*n+1):=
 Pg.bW.bind (cO _) (below_le _ ah) (m:=hi*n) (fun r hr=>(MZ h g _).mono<|oZ n ah) ah
def mk1 {m d m' d':Nat} {k o:Int} {x:List UInt8} (hx:Sh x) {t:aC} (ht:Gd m d t) (hm:m+1<=m') (hd:d+1<=d'):Gd m' d' ⟨k,o,x,[],[t]⟩:=
 Gd.mk hx fF (by have:=ht.1;simp only [aJ];omega) (by have:=ht.2.1;simp only [dz];omega) fun t' ht'=>by rw [ni.1 ht'];exact ht.2.2
def mk2 {m d m2 d2 m' d':Nat} {k o:Int} {x:List UInt8} (hx:Sh x) {t u:aC} (ht:Gd m d t) (hu:Gd m2 d2 u) (hm:m+m2+1<=m') (hd:d+1<=d'/\d2+1<=d'):Gd m' d' ⟨k,o,x,[],[t,u]⟩:=
 Gd.mk hx fF (by have:=ht.1;have:=hu.1;simp only [aJ];omega) (by have:=ht.2.1;have:=hu.2.1;simp only [dz];omega) fun t' ht'=>by
  simp only [fu,EF,vW] at ht';rcases ht' with rfl|rfl
  .exact ht.2.2
  .exact hu.2.2
def mk3 {m d m2 d2 m3 d3 m' d':Nat} {k o:Int} {x:List UInt8} (hx:Sh x) {t u v:aC} (ht:Gd m d t) (hu:Gd m2 d2 u) (hv:Gd m3 d3 v) (hm:m+m2+m3+1<=m') (hd:d+1<=d'/\d2+1<=d'/\d3+1<=d'):Gd m' d' ⟨k,o,x,[],[t,u,v]⟩:=
 Gd.mk hx fF (by have:=ht.1;have:=hu.1;have:=hv.1;simp only [aJ];omega) (by have:=ht.2.1;have:=hu.2.1;have:=hv.2.1;simp only [dz];omega) fun t' ht'=>by
  simp only [fu,EF,vW] at ht';rcases ht' with rfl|rfl|rfl
  .exact ht.2.2
  .exact hu.2.2
  .exact hv.2.2
def Jf {m d m' d' n lo:Nat} {k o:Int} {x:List UInt8} (hx:Sh x) {ts:List aC} (h:lo<=ts.length/\ts.length<=n/\aJ ts<=n*m/\dz ts<=d/\∀ t,t∈ts->EW t) (hm:n*m+1<=m') (hd:d+1<=d'):Gd m' d' ⟨k,o,x,[],ts⟩:=
 Gd.mk hx fF (by have:=h.2.2.1;omega) (by have:=h.2.2.2.1;omega) h.2.2.2.2
def aax {e1 e2 e3:Pg aC} {m d d2 D:Nat} (h1:Pg.Post (Gd m d) e1) (h2:Pg.Post (Gd m d2) e2) (h3:Pg.Post (Gd m d2) e3) (hm:1<=m) (w1:d+1<=D) (w2:d2+2<=D):Pg.Post (Gd (4*m) D) (Na e1 e2 e3):=by
 have hlv:Pg.Post (Gd (m+1)<|d2+1) (rY e2 e3):=UQ h2 h3 hm;have hlv1:Pg.Post (Gd (m+1) D) (rY e1 e2):=by
  obtain ⟨k,rfl⟩:∃ k,D=k+1:=⟨D - 1,ah⟩
  exact UQ (h1.imp fun t ht=>ht.mono ah ah) (h2.imp fun t ht=>ht.mono ah ah) hm
 have hK:∀ r y,Pg.Post (Gd (4*m) D) (Jc e1 e2 e3 r y):=fun r y=>by
  refine eP ?_ (eP ?_ (eP ?_ (eP ?_ ?_)))
  .exact (Ja (P:=fun _=>True) _ aI fun _ _=>trivial).bind fun o _=>h1.bind fun t ht=>.ret (mk1 fF ht ah ah)
  .exact jV.bind fun x hx=>(uY h1 1 2 ah).bind fun ts hts=>.ret (Jf hx hts ah ah)
  .exact h1.bind fun t ht=>h1.bind fun u hu=>h1.bind fun v hv=>.ret (mk3 fF ht hu hv ah ah)
  .exact (Ja (P:=fun _=>True) _ aI fun _ _=>trivial).bind fun o _=>hlv.bind fun t ht=>h1.bind fun u hu=>.ret (mk2 fF ht hu ah ah)
  .exact UM.bind fun o _=>h1.bind fun t ht=>h1.bind fun u hu=>.ret (mk2 fF ht hu ah ah)
 refine (cO 2).bind fun a _=>(cO 16).bind fun r _=>eP (aav.imp fun t ht=>ht.mono ah ah) (eP (hlv1.imp fun t ht=>ht.mono ah ah)<|eP ?_ (eP ?_ (eP ?_ (eP ?_ (eP ?_ (eP (hK _ _)<|hK _ _))))))
 .exact h1.bind fun t ht=>.ret (mk1 fF ht ah ah)
 .exact jV.bind fun x hx=>(uY h1 0 3 ah).bind fun ts hts=>.ret (Jf hx hts ah ah)
 .exact (nC _ aI aI).bind fun x hx=>(uY h2 0 3 ah).bind fun ts hts=>.ret (Jf hx hts ah ah)
 .exact hlv.bind fun t ht=>.ret (mk1 fF ht ah ah)
 .exact hlv.bind fun t ht=>.ret (mk1 fF ht ah ah)
def aio {e1 e2 e3:Pg aC} {P Q R:aC->Prop} {n:Nat} (h1:Pg.Post P e1) (h2:Pg.Post Q e2) (h3:Pg.Post R e3) (g1:Pg.Le e1 n) (g2:Pg.Le e2 n) (g3:Pg.Le e3 n) (hn:3<=n):Pg.Le (Na e1 e2 e3) (3*n+4):=by
 have tr:∀ {α:Type} {p:Pg α} {P:α->Prop},Pg.Post P p->Pg.Post (fun _=>True) p:=fun h=>h.imp fun _ _=>trivial;have UR:Pg.Post (fun _=>True) (rY e2 e3):=(cO 4).bind fun r _=>eP (jV.bind fun x _=>h2.bind fun t _=>.ret trivial) (eP (h3.bind fun t _=>.ret trivial)<|tr EX);have lT:∀ lo hi:Int,∀ e:Pg aC,Pg.Post (fun _=>True) e->Pg.Post (fun _=>True) (rZ lo hi e):=fun lo hi e he=>(cO _).bind fun r _=>tr (wu he _);have pI:∀ l:List Int,0 < l.length->Pg.Post (fun _=>True) (uX l):=fun l hl=>Ja l hl fun _ _=>trivial;have hK:∀ r y,Pg.Le (Jc e1 e2 e3 r y) (3*n+2):=fun r y=>by
  refine leB ?_ (leB ?_ (leB ?_ (leB ?_ ?_)))
  .exact Pg.bW.bind (pI _ aI) (MU _ aI) (m:=n) (fun o _=>fQ h1 g1) ah
  .exact Pg.bW.bind jV EU (m:=2*n+1) (fun x _=>fQ (lT 1 2 e1<|tr h1)<|Je h1 g1 1 2 ah ah) ah
  .exact Pg.bW.bind h1 g1 (m:=2*n) (fun t _=>Pg.bW.bind h1 g1 (m:=n) (fun u _=>fQ h1 g1) ah) ah
  .exact Pg.bW.bind (pI _ aI) (MU _ aI) (m:=2*n+2) (fun o _=>Pg.bW.bind UR (Qz h2 h3 g2 g3) (m:=n) (fun t _=>fQ h1 g1) ah) ah
  .exact Pg.bW.bind UM aib (m:=2*n) (fun o _=>Pg.bW.bind h1 g1 (m:=n) (fun t _=>fQ h1 g1) ah) ah
 refine Pg.bW.bind (cO 2) (below_le 2 ah) (m:=3*n+3) (fun a _=>Pg.bW.bind (cO 16) (below_le 16 ah) (m:=3*n+2) (fun r _=>leB (aaw.mono ah)<|leB ((Qz h1 h2 g1 g2).mono ah)<|leB ((fQ h1 g1).mono ah)<|leB ?_ (leB ?_ (leB ((fQ UR<|Qz h2 h3 g2 g3).mono ah)<|leB ((fQ UR<|Qz h2 h3 g2 g3).mono ah)<|leB (hK _ _)<|hK _ _))) ah) ah
 .exact Pg.bW.bind jV EU (m:=3*n+1) (fun x _=>fQ (lT 0 3 e1<|tr h1)<|Je h1 g1 0 3 ah ah) ah
 .exact Pg.bW.bind (nC _ aI aI) (zN _ aI) (m:=3*n+1) (fun x _=>fQ (lT 0 3 e2<|tr h2)<|Je h2 g2 0 3 ah ah) ah
def gU:∀ d,Pg.Post (Gd (pw d)<|qO d) (dF d):=by
 intro d;induction d using Nat.strongRecOn with
 | _ d ih=>
  cases d with
  | zero=>exact aav
  | succ d=>
   rw [UN];have hp:=UD d;have a:=ih d ah;have b:=ih (d - 1) ah;have c:=ih (d - 2) ah;have b':Pg.Post (Gd (pw d)<|qO<|d - 1) (dF<|d - 1):=b.imp fun t ht=>ht.mono (wz ah) ah;have c':Pg.Post (Gd (pw d)<|qO<|d - 2) (dF<|d - 2):=c.imp fun t ht=>ht.mono (wz ah) ah;have e4:pw (d+1)=4*pw d:=by rw [pw]
   rw [e4];by_cases h0:d=0
   .subst h0;exact aax (d:=1) (d2:=1) a b c ah aI aI
   .have hd:qO d=d+2:=by unfold qO;rw [aT h0]
    have hd1:qO (d+1)=d+3:=by unfold qO;rw [aT ah]
    have hd2:qO (d - 1)<=d+1:=by unfold qO;split<;>omega
    have hd3:qO (d - 2)<=d+1:=by unfold qO;split<;>omega
    rw [hd] at a;rw [hd1];exact aax (d2:=d+1) a (b'.imp fun t ht=>ht.mono ah ah) (c'.imp fun t ht=>ht.mono ah ah) ah ah ah
def EY:∀ d,Pg.Le (dF d) (eb d):=by
 intro d;induction d using Nat.strongRecOn with
 | _ d ih=>
  cases d with
  | zero=>exact aaw
  | succ d=>
   rw [UN];have h3:3<=eb d:=by have:=Jd (a:=0) (c:=d) ah;rw [eb] at this;exact this
   exact aio (gU d) (gU<|d - 1) (gU<|d - 2) (ih d ah) ((ih (d - 1) ah).mono<|Jd ah) ((ih (d - 2) ah).mono<|Jd ah) h3
section
set_option linter.unusedSectionVars false
variable (b:List UInt8) (hb:b.length<=1048576)
include hb
theorem aay (i:Nat) (h:Int) (hi:i<=b.length):Sm b yx (aP 0) i h (Kj b ((i:Int),h)):=Sm.bind hi jV (zP b hb i h hi) fun x i h _ hi=>Sm.ret
theorem aaz (i:Nat) (h:Int) (hi:i<=b.length):Sm b Ca (aP 0) i h (Gl b (i:Int) h):=by
 unfold Gl Ca;refine Sm.bind hi (cO 7) (nW b hb 7 i h hi) fun r i h _ hi=>?_;dsimp only;refine Sm.cond (fun _=>Sm.bind hi UJ (aic b hb i h hi) fun x i h _ hi=>Sm.ret) fun _=>Sm.cond (fun _=>Sm.bind hi UK (aie b hb i h hi) fun x i h _ hi=>Sm.ret) fun _=>Sm.cond (fun _=>?_) fun _=>aay b hb i h hi;refine Sm.bind hi (mE 2) (Jb b hb 2 i h hi) fun o i h _ hi=>?_;dsimp only;exact Sm.cond (fun _=>Sm.bind hi UL (aif b hb i h hi) fun x i h _ hi=>Sm.ret) fun _=>aay b hb i h hi
theorem iC {α:Type} {N:Nat} (hN:1048577 < N) (k o:Int) (x y:List UInt8) (ts:List aC) (hs:aJ ts<=900000) (i:Nat) (h:Int):Sm b (.ret (⟨k,o,x,y,ts⟩:aC)) (aP 0) i h ((dQ N ⟨k,o,x,y,[]⟩<|ts.map<|aP 0).bind fun r=>some (r,(i:Int),h)):=by
 rw [MH N ⟨k,o,x,y,[]⟩ ts hN hs,aD];exact Sm.ret
def XS (N d:Nat):Prop:=∀ (deep:Int) (i:Nat) (h:Int),deep.toNat=d-> -1000<=deep->deep<=1000->i<=b.length->Sm b (dF d) (aP 0) i h ((kR N).dh deep b (i:Int) h)
theorem aaA {N d:Nat} (hN:1048577 < N) (hd:d<=6) (h1:XS b N (d - 1)) (h2:XS b N (d - 2)) (deep:Int) (i:Nat) (h:Int) (hdp:deep.toNat=d) (g1: -900<=deep) (hi:i<=b.length):Sm b (rY (dF<|d - 1)<|dF<|d - 2) (aP 0) i h ((kR<|N+1).qC deep b (i:Int) h):=by
 have z1:pw (d - 1)<=4096:=wz (a:=d - 1) (c:=6) ah;have z2:pw (d - 2)<=4096:=wz (a:=d - 2) (c:=6) ah;show Sm b _ _ i h (Kn N (kR N) deep b (i:Int) h);unfold Kn rY;refine Sm.bind hi (cO 4) (nW b hb 4 i h hi) fun r i h _ hi=>?_;dsimp only;refine Sm.cond (fun _=>?_) fun _=>Sm.cond (fun _=>?_) fun _=>Sm.bind hi jV (zP b hb i h hi) fun x i h _ hi=>Sm.ret
 .refine Sm.bind hi jV (zP b hb i h hi) fun x i h _ hi=>?_;dsimp only;rw [wrap64 (n:=deep - 1) ah ah];refine Sm.bind hi (gU<|d - 1) (h1 (deep - 1) i h ah ah ah hi) fun t i h ht hi=>?_;exact iC (α:=Unit) b hb hN 5 0 x [] [t] (by have:=ht.1;simp only [aJ];omega) i h
 .rw [wrap64 (n:=deep - 2) ah ah];refine Sm.bind hi (gU<|d - 2) (h2 (deep - 2) i h ah ah ah hi) fun t i h ht hi=>?_;exact iC (α:=Unit) b hb hN 6 0 [] [] [t] (by have:=ht.1;simp only [aJ];omega) i h
theorem aip {N d:Nat} (hX:XS b N d) (deep:Int) (hdp:deep.toNat=d) (g1: -900<=deep) (g2:deep<=900):∀ (n c:Nat) (i:Nat) (h:Int) (acc:List (List aB)),c < n->acc.length+c<=100->i<=b.length->
  Sm b (jW (dF d) c) (fun ts=>acc++ts.map (aP 0)) i h (Db N (kR N) b n (deep,(c:Int),(i:Int),h,acc)):=by
 intro n;induction n with
 | zero=>intro c i h acc hc;omega
 | succ n ih=>
  intro c i h acc hc ha hi;rw [Db];cases c with
  | zero=>
   have:decide (((0:Nat):Int) > 0)=false:=rfl;rw [this,aM];show _=some (acc++[].map (aP 0),_,_);rw [IJ,xZ];rfl
  | succ c=>
   have:decide (((c+1:Nat):Int) > 0)=true:=lH ah;rw [this,aU,jW];refine Sm.bind hi (gU d) (hX deep i h hdp ah ah hi) fun t i h ht hi=>?_;dsimp only;rw [lI bI,aD,wrap64 ah ah,show ((c+1:Nat):Int) - 1=(c:Int) by omega];have:=ih c i h (acc++[aP 0 t]) ah bI hi;unfold Sm at this ⊢;rw [this,Pg.run_bind];simp [Pg.run]
theorem QA {N d:Nat} (hN:200 < N) (hX:XS b N d) (lo hi':Nat) (hl:lo<=hi') (hh:hi'<=90) (deep:Int) (hdp:deep.toNat=d) (g1: -900<=deep) (g2:deep<=900) (i:Nat) (h:Int) (hi:i<=b.length):
  Sm b (rZ (lo:Int) (hi':Int)<|dF d) (fun ts=>ts.map<|aP 0) i h ((kR<|N+1).oG (lo:Int) (hi':Int) deep b (i:Int) h):=by
 show Sm b _ _ i h (Km N (kR N) (lo:Int) (hi':Int) deep b (i:Int) h);unfold Km rZ;rw [wrap64 (n:=(hi':Int) - lo) ah ah,wrap64 (n:=(hi':Int) - lo+1) ah ah];refine Sm.bind hi (cO _) (nW b hb _ i h hi) fun r i h hr hi=>?_;dsimp only;obtain ⟨c,rfl⟩:=lJ hr.1;have hc:c<=hi' - lo:=by rcases hr.2 with h|h<;>omega
 rw [wrap64 ah ah,show (lo:Int)+(c:Int)=((lo+c:Nat):Int) by omega,uT];have:=aip b hb hX deep hdp g1 g2 N (lo+c) i h [] ah bI hi;exact this
theorem aiq {N:Nat} (hN:1<=N):XS b N 0:=by
 intro deep i h hd h1 h2 hi;obtain ⟨N,rfl⟩:∃ m,N=m+1:=⟨N - 1,ah⟩
 show Sm b _ _ i h (Df N (kR N) deep b (i:Int) h);unfold Df;have:decide (deep<=0)=true:=lH ah;rw [this,aU];exact uW (aaz b hb i h hi)
theorem air {N d:Nat} (hN:1048577 < N) (hdd:d<=5) (hA:∀ e,e<=d->XS b (N+1) e) (hB:∀ e,e<=d->XS b N e):XS b (N+1+1) (d+1):=by
 intro deep i h hd g1 g2 hi;have hp:=UD d;have hpb:pw d<=4096:=wz (a:=d) (c:=6) ah;have asj:pw (d - 1)<=4096:=wz (a:=d - 1) (c:=6) ah;have asl:pw (d - 2)<=4096:=wz (a:=d - 2) (c:=6) ah;have w1:IntKind.wrap .i64 (deep - 1)=deep - 1:=wrap64 ah ah;have w2:IntKind.wrap .i64 (deep - 2)=deep - 2:=wrap64 ah ah;show Sm b _ _ i h (Df (N+1) (kR<|N+1) deep b (i:Int) h);rw [UN];unfold Df Na;have:decide (deep<=0)=false:=uP ah;rw [this,aM];have e1:∀ (i:Nat) h,i<=b.length->Sm b (dF d) (aP 0) i h ((kR<|N+1).dh (deep - 1) b (i:Int) h):=fun i h hi=>hA d ah (deep - 1) i h ah ah ah hi;have lv0:∀ (i:Nat) h,i<=b.length->Sm b (rY (dF d)<|dF<|d - 1) (aP 0) i h ((kR<|N+1).qC deep b (i:Int) h):=fun i h hi=>by
  have:=aaA b hb (d:=d+1) hN ah (by rw [Ut];exact hB d ah) (hB (d+1 - 2) ah) deep i h hd ah hi;rw [Ut,show d+1 - 2=d - 1 by omega] at this;exact this
 have UU:∀ (i:Nat) h,i<=b.length->Sm b (rY (dF<|d - 1)<|dF<|d - 2) (aP 0) i h ((kR<|N+1).qC (deep - 1) b (i:Int) h):=fun i h hi=>
  aaA b hb (d:=d) hN ah (hB (d - 1) ah) (hB (d - 2) ah) (deep - 1) i h ah ah hi
 have Nb:∃ m D,m<=5000/\Pg.Post (Gd m D) (rY (dF<|d - 1)<|dF<|d - 2):=⟨pw d+1,qO (d - 1)+qO (d - 2)+1,ah,UQ ((gU<|d - 1).imp fun t ht=>ht.mono (wz ah) ah) ((gU<|d - 2).imp fun t ht=>ht.mono (wz ah) ah) ah⟩
 obtain ⟨ml,dl,hml,Nb⟩:=Nb;have pI:∀ l:List Int,0 < l.length->Pg.Post (fun _=>True) (uX l):=fun l hl=>Ja l hl fun _ _=>trivial;refine Sm.bind hi (cO 2) (nW b hb 2 i h hi) fun a i h ha hi=>?_;dsimp only;refine Sm.bind hi (cO 16) (nW b hb 16 i h hi) fun r i h hr hi=>?_;dsimp only;have wa:IntKind.wrap .i64 (51+a)=51+a:=wrap64 ah ah;rw [wa];have hK:∀ y:Bool,Sm b (Jc (dF d) (dF<|d - 1) (dF<|d - 2) r y) (aP 0) i h (Gp (N+1) (kR<|N+1) b (deep,(r,(i:Int),h),y)):=fun y=>by
  unfold Gp Jc;dsimp only;rw [w1];refine Sm.cond (fun _=>?_) fun _=>Sm.cond (fun _=>?_) fun _=>Sm.cond (fun _=>?_) fun _=>Sm.cond (fun _=>?_) fun _=>?_
  .refine Sm.bind hi (pI _ aI) (MW b hb _ aI i h hi) fun o i h _ hi=>?_;dsimp only;refine Sm.bind hi (gU d) (e1 i h hi) fun t i h ht hi=>?_;exact iC (α:=Unit) b hb ah 11 o [] [] [t] (by have:=ht.1;simp only [aJ];omega) i h
  .refine Sm.bind hi jV (zP b hb i h hi) fun x i h _ hi=>?_;dsimp only;refine Sm.bind hi (uY (gU d) 1 2 ah) (QA b hb (N:=N) ah (hB d ah) 1 2 ah ah (deep - 1) ah ah ah i h hi) fun ts i h hts hi=>?_;exact iC (α:=Unit) b hb ah 13 0 x [] ts (by have:=hts.2.2.1;omega) i h
  .refine Sm.bind hi (gU d) (e1 i h hi) fun t i h ht hi=>?_;dsimp only;refine Sm.bind hi (gU d) (e1 i h hi) fun u i h hu hi=>?_;dsimp only;refine Sm.bind hi (gU d) (e1 i h hi) fun v i h hv hi=>?_;exact iC (α:=Unit) b hb ah 14 0 [] [] [t,u,v] (by have:=ht.1;have:=hu.1;have:=hv.1;simp only [aJ];omega) i h
  .refine Sm.bind hi (pI _ aI) (MW b hb _ aI i h hi) fun o i h _ hi=>?_;dsimp only;refine Sm.bind hi Nb (UU i h hi) fun t i h ht hi=>?_;dsimp only;refine Sm.bind hi (gU d) (e1 i h hi) fun u i h hu hi=>?_;exact iC (α:=Unit) b hb ah 15 o [] [] [t,u] (by have:=ht.1;have:=hu.1;simp only [aJ];omega) i h
  .refine Sm.bind hi UM (aii b hb i h hi) fun o i h _ hi=>?_;dsimp only;refine Sm.bind hi (gU d) (e1 i h hi) fun t i h ht hi=>?_;dsimp only;refine Sm.bind hi (gU d) (e1 i h hi) fun u i h hu hi=>?_;exact iC (α:=Unit) b hb ah 12 o [] [] [t,u] (by have:=ht.1;have:=hu.1;simp only [aJ];omega) i h
 refine Sm.cond (fun _=>uW<|aaz b hb i h hi) fun _=>Sm.cond (fun _=>uW<|lv0 i h hi) fun _=>Sm.cond (fun _=>?_) fun _=>Sm.cond (fun _=>?_) fun _=>Sm.cond (fun _=>?_) fun _=>Sm.cond (fun _=>?_) fun _=>Sm.cond (fun _=>?_) fun _=>Sm.cond (fun _=>hK _) fun _=>hK _
 .rw [w1];refine Sm.bind hi (gU d) (e1 i h hi) fun t i h ht hi=>?_;exact iC (α:=Unit) b hb ah 6 0 [] [] [t] (by have:=ht.1;simp only [aJ];omega) i h
 .refine Sm.bind hi jV (zP b hb i h hi) fun x i h _ hi=>?_;dsimp only;rw [w1];refine Sm.bind hi (uY (gU d) 0 3 ah) (QA b hb (N:=N) ah (hB d ah) 0 3 ah ah (deep - 1) ah ah ah i h hi) fun ts i h hts hi=>?_;exact iC (α:=Unit) b hb ah 7 0 x [] ts (by have:=hts.2.2.1;omega) i h
 .refine Sm.bind hi (nC _ aI aI) (zO b hb _ aI i h hi) fun x i h _ hi=>?_;dsimp only;rw [w2];refine Sm.bind hi (uY (gU<|d - 1) 0 3 ah) (QA b hb (N:=N) ah (hB (d - 1) ah) 0 3 ah ah (deep - 2) ah ah ah i h hi) fun ts i h hts hi=>?_;exact iC (α:=Unit) b hb ah 8 0 x [] ts (by have:=hts.2.2.1;omega) i h
 .rw [w1];refine Sm.bind hi Nb (UU i h hi) fun t i h ht hi=>?_;exact iC (α:=Unit) b hb ah 9 (51+a) [] [] [t] (by have:=ht.1;simp only [aJ];omega) i h
 .rw [w1];refine Sm.bind hi Nb (UU i h hi) fun t i h ht hi=>?_;exact iC (α:=Unit) b hb ah 10 (51+a) [] [] [t] (by have:=ht.1;simp only [aJ];omega) i h
theorem xs_all:∀ (d N:Nat),d<=6->1048580+3*d<=N->XS b N d:=by
 intro d;induction d using Nat.strongRecOn with
 | _ d ih=>
  intro N hd hN;cases d with
  | zero=>exact aiq b hb ah
  | succ d=>
   obtain ⟨N,rfl⟩:∃ m,N=m+1+1:=⟨N - 2,ah⟩
   exact air b hb ah ah (fun e he=>ih e ah (N+1) ah ah) (fun e he=>ih e ah N ah ah)
theorem aaB (N d:Nat) (hd:d<=6) (hN:1048700<=N) (deep:Int) (hdp:deep.toNat=d) (g1: -1000<=deep) (g2:deep<=1000) (i:Nat) (h:Int) (hi:i<=b.length):Sm b (dF d) (aP 0) i h (dh N deep b (i:Int) h):=xs_all b hb d N hd ah deep i h hdp g1 g2 hi
theorem UW (N d:Nat) (hd:d<=6) (hN:1048700<=N) (lo hi':Nat) (hl:lo<=hi') (hh:hi'<=90) (deep:Int) (hdp:deep.toNat=d) (g1: -900<=deep) (g2:deep<=900) (i:Nat) (h:Int) (hi:i<=b.length):
  Sm b (rZ (lo:Int) (hi':Int)<|dF d) (fun ts=>ts.map<|aP 0) i h (oG N (lo:Int) (hi':Int) deep b (i:Int) h):=by
 obtain ⟨N,rfl⟩:∃ m,N=m+1:=⟨N - 1,ah⟩
 exact QA b hb ah (xs_all b hb d N hd ah) lo hi' hl hh deep hdp g1 g2 i h hi
def nV:Pg aC:=(gQ 4).bind fun r=>dF (1+r).toNat
def fits (m:Nat) (t:aC):Bool:=Nat.ble (bA t) m
omit hb in
theorem afZ:Pg.Post (Gd 256 6) nV:=(cO 4).bind fun r hr=>(gU _).imp fun t ht=>ht.mono (wz (a:=(1+r).toNat) (c:=4) ah) (by unfold qO;split<;>omega)
omit hb in
theorem ait:Pg.Le nV 404:=Pg.bW.bind (cO 4) (below_le 4 ah) (m:=403) (fun r hr=>(EY _).mono<|Jd (a:=(1+r).toNat) (c:=4) ah) ah
theorem afX {N:Nat} (hN:1048700<=N):∀ (n i:Nat) (h:Int),i<=b.length->Dj N b n ((i:Int),h)=(Pg.loop b nV (fits 60) n i h).map fun r=>(aP 0 r.1,(r.2.1:Int),r.2.2):=by
 intro n;induction n with
 | zero=>intro i h hi;rfl
 | succ n ih=>
  intro i h hi;have hs:Sm b nV (aP 0) i h ((fO 4 b (i:Int) h).bind fun r9=>dh N (IntKind.wrap .i64<|1+r9.1) b r9.2.1 r9.2.2):=by
   refine Sm.bind hi (cO 4) (nW b hb 4 i h hi) fun r i h hr hi=>?_;dsimp only;rw [wrap64 ah ah];exact aaB b hb N _ ah hN (1+r) rfl ah ah i h hi
  rw [Dj,Pg.loop];unfold Sm at hs;have e:∀ g:(List aB×Int×Int)->Option (List aB×Int×Int),((fO 4 b (i:Int) h).bind fun r9=>Option.bind (dh N (IntKind.wrap .i64<|1+r9.1) b r9.2.1 r9.2.2) g)=Option.bind ((fO 4 b (i:Int) h).bind fun r9=>dh N (IntKind.wrap .i64<|1+r9.1) b r9.2.1 r9.2.2) g:=fun g=>by
   cases fO 4 b (i:Int) h<;>rfl
  rw [e,hs,aD];dsimp only;have hf:decide (((aP 0 (Pg.run b nV i h).1).length:Int)<=60)=fits 60 (Pg.run b nV i h).1:=by
   rw [gG];unfold fits;cases hc:Nat.ble (bA (Pg.run b nV i h).1) 60 with
   | true=>have:=xV hc;exact lH ah
   | false=>refine uP fun hh=>?_;rw [aaC ah] at hc;cases hc
  rw [hf];cases fits 60 (Pg.run b nV i h).1 with
  | true=>rfl
  | false=>rw [aM,aM];exact ih _ _ (Pg.yt b nV i h hi)
end
end Go.Proofs.Tryz
