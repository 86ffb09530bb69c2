/-
 Plain lemmas on the models, part 1.
-/
import Derived.Test.YtginnhpghngjiaaGreatDoorSpGL1
namespace Go.Proofs.Tryz
open Go.Av
set_option maxRecDepth 100000
set_option linter.all false
def jS (s:List UInt8) (i:Nat):Int:=match s[i]? with|some b=>(b.toNat:Int)|none=>-1
def ayw (b:UInt8):(b.toNat:Int) < 256:=by have:=b.toNat_lt;omega
def aio (b:UInt8):IntKind.wrap .i64 ((b.toNat:Nat):Int)=(b.toNat:Int):=by have:=ayw b;exact wrap64 ah ah
def aip {s:List UInt8} {i:Nat} (h:i < s.length):jS s i=(s[i].toNat:Int):=by
 unfold jS;rw [fB h]
def aiq {s:List UInt8} {i:Nat} (h: ¬i < s.length):jS s i= -1:=by
 unfold jS;rw [Da ah]
def YR {s:List UInt8} {i:Nat} (h:jS s i≠ -1):i < s.length:=by
 cases xX i s.length with
 | inl h=>exact h
 | inr h'=>exact absurd (aiq ah) h
def YS (a b c:Int):rJ a b c=some (decide (a>=b)&&decide (a<=c)):=by
 unfold rJ;by_cases h:a>=b<;>simp [h]
def Ec (a b c:Int):oG a b c=some (decide (a>=b)&&decide (a<=c)):=by
 unfold oG;by_cases h:a>=b<;>simp [h]
def UW (s:List UInt8) (hs:s.length<=1048576) (i:Nat):Ho s (i:Int)=some (jS s i):=by
 unfold Ho;rw [YS,wrap64 ah ah,av,kP (by omega:(i:Int)>=0),Df];by_cases h:i < s.length
 .rw [kP ah,kQ,aJ,bX h,av,aip h,aio]
 .rw [pQ ah,ru,aS,aiq h]
def UY (s:List UInt8) (i:Nat):DN s (i:Int)=some (jS s i):=by
 unfold DN;rw [pQ (by omega: ¬(i:Int) < 0),aJ,av];by_cases h:i < s.length
 .rw [pQ ah,aJ,bX h,av,aip h,aio]
 .rw [kP ah,aS,aiq h]
def UZ (c:Int):Bool:=decide (c>=48)&&decide (c<=57)
def apf (c:Int):TP c=some (UZ c):=by
 unfold TP;rw [Ec];rfl
def apg (c:Int):Uk c=some (UZ c):=by
 unfold Uk UZ;by_cases h:c>=48<;>simp [h]
def Qr (c:Int):Bool:=(decide (c>=97)&&decide (c<=122))||((decide (c>=65)&&decide (c<=90))||c==95)
def aph (c:Int):TM c=some (Qr c):=by
 unfold TM Qr;rw [Ec,Ec];cases (decide (c>=97)&&decide (c<=122))<;>cases (decide (c>=65)&&decide (c<=90))<;>rfl
def apj (c:Int):Uj c=some (Qr c):=by
 unfold Uj Qr;cases decide (c>=97)<;>cases decide (c<=122)<;>cases decide (c>=65)<;>cases decide (c<=90)<;>rfl
def YT (c:Int):Bool:=Qr c||UZ c
def ayx (c:Int):Xl c=some (YT c):=by
 unfold Xl YT;rw [aph,apf];cases Qr c<;>rfl
def ayy (c:Int):XI c=some (YT c):=by
 unfold XI YT;rw [apj,apg];cases Qr c<;>rfl
def ayz {s:List UInt8} {i:Nat} (h:UZ (jS s i)=true):i < s.length:=by
 refine YR fun e=>?_;rw [e] at h;cases h
def Ia {s:List UInt8} (hs:s.length<=1048576) {i:Nat} (h:i<=s.length+1):IntKind.wrap .i64 ((i:Int)+1)=((i+1:Nat):Int):=by
 rw [wrap64 ah ah];omega
def ayA (N M:Nat) (s:List UInt8) (hs:s.length<=1048576):∀ (n m i:Nat),s.length - i < n->s.length - i < m->i<=s.length->∃ r:Nat,Pq N n (s,(i:Int))=some (r:Int)/\PI M m (s,(i:Int))=some (r:Int)/\i<=r/\r<=s.length:=by
 intro n;induction n with
 | zero=>intro m i h;omega
 | succ n ih=>
  intro m i hn hm hi;obtain ⟨m,rfl⟩:∃ k,m=k+1:=⟨m - 1,ah⟩
  rw [Pq,PI,UY,UW s hs,av,av,apf,apg,av,av];cases h:UZ (jS s i) with
  | false=>exact ⟨i,rfl,rfl,eU _,hi⟩
  | true=>
   have:=ayz h;rw [aS,aS,Ia hs ah];obtain ⟨r,h1,h2,h3,h4⟩:=ih m (i+1) ah ah ah;exact ⟨r,h1,h2,ah,h4⟩
def air (N:Nat) (s:List UInt8) (hs:s.length<=1048576) (hN:s.length < N) (i:Nat) (hi:i<=s.length):∃ r:Nat,Pt N s (i:Int)=some (r:Int)/\Um N s (i:Int)=some (r:Int)/\i<=r/\r<=s.length:=
 ayA N N s hs N N i ah ah hi
def apk (N:Nat) (s:List UInt8) (hs:s.length<=1048576) (hN:s.length < N) (a y:Nat) (z:Int) (hy:y<=s.length) (hay:a<=y) (hz:(((y:Int)==(a:Int))=true)↔((z==0)=true)):
  ∃ r:Int,TS N (s,(a:Int),(y:Int))=some r/\PK N (s,(y:Int),z)=some r/\(r= -1\/(a < r/\r<=s.length)):=by
 simp only [TS,PK];cases he:((y:Int)==(a:Int)) with
 | true=>
  rw [hz.1 he];exact ⟨-1,rfl,rfl,.inl rfl⟩
 | false=>
  have hz0:(z==0)=false:=by
   cases h:(z==0) with
   | false=>rfl
   | true=>rw [hz.2 h] at he;cases he
  have hne: ¬(y:Int)=a:=by simpa using he
  have hcond:((some<|jS s y).bind fun dZ=>bif (dZ==101) then some true else ((some<|jS s y).bind fun iN=>some<|iN==69))=some (jS s y==101||jS s y==69):=by
   cases h:(jS s y==101)<;>simp [h]
  have ayB:(bif (jS s y==101) then some true else some (jS s y==69))=some (jS s y==101||jS s y==69):=by
   cases (jS s y==101)<;>rfl
  rw [hz0,aJ,aJ,UY,UW s hs,hcond,av,av,ayB,av];have hdone:∃ r:Int,Xq N (y:Int)=some r/\XM N (y:Int)=some r/\(r= -1\/(a < r/\r<=s.length)):=⟨y,rfl,rfl,.inr ⟨ah,ah⟩⟩
  cases hE:(jS s y==101||jS s y==69) with
  | false=>exact hdone
  | true=>
   have hlt:y < s.length:=by
    refine YR fun e=>?_;rw [e] at hE;cases hE
   have hk3:∀ x:Nat,x<=s.length->y<=x->∃ r:Int,TR N (s,(y:Int),(x:Int))=some r/\Un N (s,(y:Int),(x:Int))=some r/\(r= -1\/(a < r/\r<=s.length)):=by
    intro x hx hyx;obtain ⟨r,h1,h2,h3,h4⟩:=air N s hs hN x hx;simp only [TR,Un,h1,h2,av];by_cases hr:(r:Int) > x
    .rw [kP hr];exact ⟨r,rfl,rfl,.inr ⟨ah,ah⟩⟩
    .rw [pQ hr];exact hdone
   have hs1:=Ia hs (i:=y) ah;have hs2:=Ia hs (i:=y+1) ah;have hsg:((some<|jS s<|y+1).bind fun fM=>bif (fM==43) then some true else ((some<|jS s<|y+1).bind fun eX=>some<|eX==45))=some (jS s (y+1)==43||jS s (y+1)==45):=by
    cases h:(jS s (y+1)==43)<;>simp [h]
   have ayC:(bif (jS s (y+1)==43) then some true else some (jS s (y+1)==45))=some (jS s (y+1)==43||jS s (y+1)==45):=by
    cases (jS s (y+1)==43)<;>rfl
   simp only [aS,hs1,hs2,UY,UW s hs,av] at hsg ayC ⊢;simp only [hsg,av];cases hS:(jS s (y+1)==43||jS s (y+1)==45) with
   | true=>
    have:y+1 < s.length:=by
     refine YR fun e=>?_;rw [e] at hS;cases hS
    exact hk3 (y+1+1) ah ah
   | false=>exact hk3 (y+1) ah ah
def apl (N:Nat) (s:List UInt8) (hs:s.length<=1048576) (hN:s.length < N) (i:Nat) (hi:i < s.length):
  ∃ r:Int,LJ N s (i:Int)=some r/\Uo N s (i:Int)=some r/\(r= -1\/(i < r/\r<=s.length)):=by
 unfold LJ Uo;obtain ⟨r,h1,h2,h3,h4⟩:=air N s hs hN i ah;rw [YS,wrap64 (n:=(s.length:Int) - 1) ah ah,pQ (by omega: ¬(i:Int) < 0),kP (by omega:(i:Int)>=0),kP (by omega:(i:Int)<=(s.length:Int) - 1),aJ,av,yZ,kQ,aJ,h1,h2,av,av,UY,UW s hs,av,av];cases hd:(jS s r==46) with
 | false=>
  rw [aJ,aJ,wrap64 (n:=(r:Int) - i) ah ah];refine apk N s hs hN i r _ h4 h3 ?_;constructor
  .intro h;have:=eq_of_beq h;rw [this];simp
  .intro h;have:=eq_of_beq h;exact qw.2 ah
 | true=>
  have hlt:r < s.length:=by
   refine YR fun e=>?_;rw [e] at hd;cases hd
  obtain ⟨q,g1,g2,g3,g4⟩:=air N s hs hN (r+1) ah;rw [aS,aS,Ia hs ah,g1,g2,av,av,wrap64 (n:=(r:Int) - i) ah ah,wrap64 (n:=(q:Int) - r) ah ah,wrap64 (n:=(q:Int) - r - 1) ah ah,wrap64 ah ah];have ais:=apk N s hs hN i q ((r:Int) - i+((q:Int) - r - 1)) g4 ah;by_cases he:(r:Int)=i/\(q:Int)=((r+1:Nat):Int)
  .have e1:((r:Int)==(i:Int))=true:=qw.2 he.1;have e2:((q:Int)==((r+1:Nat):Int))=true:=qw.2 he.2;have e3:(((r:Int) - i+((q:Int) - r - 1))==0)=true:=qw.2 ah;simp only [e1,e2,aS,av,PK,e3];exact ⟨-1,rfl,rfl,.inl rfl⟩
  .have hc:(bif ((r:Int)==(i:Int)) then some ((q:Int)==((r+1:Nat):Int)) else some false)=some false:=by
    cases e1:((r:Int)==(i:Int)) with
    | false=>rfl
    | true=>
     have e2:((q:Int)==((r+1:Nat):Int))=false:=by
      cases e2:((q:Int)==((r+1:Nat):Int)) with
      | false=>rfl
      | true=>exact absurd ⟨eq_of_beq e1,eq_of_beq e2⟩ he
     rw [e2];rfl
   rw [hc,av,aJ];refine ais ?_;have n1:((q:Int)==(i:Int))=false:=by
    cases e:((q:Int)==(i:Int)) with
    | false=>rfl
    | true=>have:=eq_of_beq e;omega
   have n2:(((r:Int) - i+((q:Int) - r - 1))==0)=false:=by
    cases e:(((r:Int) - i+((q:Int) - r - 1))==0) with
    | false=>rfl
    | true=>have:=eq_of_beq e;exact absurd ⟨ah,ah⟩ he
   rw [n1,n2]
def ayD (N M:Nat) (s:List UInt8) (hs:s.length<=1048576) (q:Int) (hq:q≠10) (hq2:q≠92):∀ (n m i:Nat),s.length+1 - i < n->s.length+1 - i < m->i<=s.length+1->
  ∃ r:Int,Jq N n (s,q,(i:Int))=some r/\Hq M m (s,q,(i:Int))=some r/\(r= -1\/(i < r/\r<=s.length)):=by
 intro n;induction n with
 | zero=>intro m i h;omega
 | succ n ih=>
  intro m i hn hm hi;obtain ⟨m,rfl⟩:∃ k,m=k+1:=⟨m - 1,ah⟩
  rw [Jq,Hq];by_cases h:i < s.length
  .simp only [iT h,aS,bX h,av,aio,Ia hs (by omega:i<=s.length+1)];have hge:=ih m;by_cases h10:(s[i].toNat:Int)=10
   .have e1:((s[i].toNat:Int)==q)=false:=by
     cases e:((s[i].toNat:Int)==q) with
     | false=>rfl
     | true=>have:=eq_of_beq e;omega
    have e2:((s[i].toNat:Int)==10)=true:=qw.2 h10;have e3:((s[i].toNat:Int) !=10)=false:=by rw [bne,e2];rfl
    rw [e1,e2,e3];exact ⟨-1,rfl,rfl,.inl rfl⟩
   .have e2:((s[i].toNat:Int)==10)=false:=by
     cases e:((s[i].toNat:Int)==10) with
     | false=>rfl
     | true=>exact absurd (eq_of_beq e) h10
    have e3:((s[i].toNat:Int) !=10)=true:=by rw [bne,e2];rfl
    rw [e2,e3];simp only [aS,aJ];cases e1:((s[i].toNat:Int)==q) with
    | true=>exact ⟨((i+1:Nat):Int),rfl,rfl,.inr ⟨ah,ah⟩⟩
    | false=>
     simp only [aJ];cases e4:((s[i].toNat:Int)==92) with
     | false=>
      simp only [aJ,av,TT,PL,Ia hs (by omega:i<=s.length+1)];obtain ⟨r,h1,h2,h3⟩:=hge (i+1) ah ah ah;exact ⟨r,h1,h2,h3.imp id fun h=>⟨ah,h.2⟩⟩
     | true=>
      rw [aS,aS,UY,UW s hs,av,av,av];cases e5:(jS s (i+1)==10) with
      | true=>
       have e6:(jS s (i+1) !=10)=false:=by rw [bne,e5];rfl
       have hlt:i+1 < s.length:=by
        refine YR fun e=>?_;rw [e] at e5;cases e5
       have ayE:((s[i+1].toNat:Int) !=10)=false:=by
        rw [aip hlt] at e6;exact e6
       rw [e6];obtain ⟨m,rfl⟩:∃ k,m=k+1:=⟨m - 1,ah⟩
       simp only [aS,aJ,PL,Ia hs (by omega:i<=s.length+1)];rw [Hq];simp only [iT hlt,aS,bX hlt,av,ayE,aJ];exact ⟨-1,rfl,rfl,.inl rfl⟩
      | false=>
       have e6:(jS s (i+1) !=10)=true:=by rw [bne,e5];rfl
       rw [e6];simp only [aS,aJ,TT,PL,Ia hs (by omega:i+1<=s.length+1)];obtain ⟨r,h1,h2,h3⟩:=hge (i+1+1) ah ah ah;exact ⟨r,h1,h2,h3.imp id fun h=>⟨ah,h.2⟩⟩
  .simp only [kG h,aJ,av];exact ⟨-1,rfl,rfl,.inl rfl⟩
def apm (N:Nat) (s:List UInt8) (hs:s.length<=1048576) (hN:s.length+2 < N) (q:Int) (hq:q≠10) (hq2:q≠92) (i:Nat) (hi:i < s.length):
  ∃ r:Int,TU N s (i:Int) q=some r/\Uq N s (i:Int) q=some r/\(r= -1\/(i < r/\r<=s.length)):=by
 unfold TU Uq;rw [UY,UW s hs,av,av,Ia hs ah];cases (jS s i !=q) with
 | true=>exact ⟨-1,rfl,rfl,.inl rfl⟩
 | false=>
  obtain ⟨r,h1,h2,h3⟩:=ayD N N s hs q hq hq2 N N (i+1) ah ah ah;exact ⟨r,h1,h2,h3.imp id fun h=>⟨ah,h.2⟩⟩
def apn (N:Nat) (s:List UInt8) (hs:s.length<=1048576) (hN:s.length+2 < N) (i:Nat) (hi:i < s.length):
  ∃ r:Int,LK N s (i:Int)=some r/\Ur N s (i:Int)=some r/\(r= -1\/(i < r/\r<=s.length)):=by
 obtain ⟨r,h1,h2,h3⟩:=apm N s hs hN 34 aM aM i hi;unfold LK Ur;rw [h1,h2];exact ⟨r,rfl,rfl,h3⟩
def apo (N:Nat) (s:List UInt8) (hs:s.length<=1048576) (hN:s.length+2 < N) (i:Nat) (hi:i < s.length):
  ∃ r:Int,LM N s (i:Int)=some r/\Us N s (i:Int)=some r/\(r= -1\/(i < r/\r<=s.length)):=by
 obtain ⟨r,h1,h2,h3⟩:=apm N s hs hN 47 aM aM i hi;unfold LM Us;simp only [h1,h2,av];cases (r==IntKind.wrap .i64 ((i:Int)+2)) with
 | true=>exact ⟨-1,rfl,rfl,.inl rfl⟩
 | false=>exact ⟨r,rfl,rfl,h3⟩
def ayF (N M:Nat) (s:List UInt8) (hs:s.length<=1048576):∀ (n m i:Nat),s.length - i < n->s.length - i < m->i<=s.length->∃ b:Bool,LG N n (s,(i:Int))=some b/\PD M m (s,(i:Int))=some b:=by
 intro n;induction n with
 | zero=>intro m i h;omega
 | succ n ih=>
  intro m i hn hm hi;obtain ⟨m,rfl⟩:∃ k,m=k+1:=⟨m - 1,ah⟩
  rw [LG,PD];by_cases h:i < s.length
  .simp only [iT h,aS,bX h,av,ayx,ayy,Ia hs (by omega:i<=s.length+1)];cases YT (IntKind.wrap .i64 ((s[i].toNat:Nat):Int)) with
   | false=>exact ⟨false,rfl,rfl⟩
   | true=>exact ih m (i+1) ah ah ah
  .simp only [kG h,aJ,Ec,YS,av];cases hc:(decide ((s.length:Int)>=1)&&decide ((s.length:Int)<=12)) with
   | false=>exact ⟨false,rfl,rfl⟩
   | true=>
    have h0:0 < s.length:=by
     simp only [eu,oo] at hc;omega
    have e:ix s 0=some s[0]:=bX h0;simp only [aS,e,av,aph,apj];exact ⟨_,rfl,rfl⟩
def apq (N:Nat) (s:List UInt8) (hs:s.length<=1048576) (hN:s.length < N):∃ b:Bool,Xm N s=some b/\acY N s=some b:=
 ayF N N s hs N N 0 ah ah ah
def ait:Xn=some vF:=rfl
def ayG:acK=some Ag:=rfl
def apr:acM=some CZ:=rfl
def ayH (N M:Nat) (l:List (List UInt8)) (x:List UInt8) (hl:l.length<=1048576):∀ (n m i:Nat),l.length - i < n->l.length - i < m->i<=l.length->
  ∃ r:Int,Po N n (l,x,(i:Int))=some r/\LX M m (l,x,(i:Int))=some r/\(-1<=r/\(0<=r->x∈l))/\r < l.length:=by
 intro n;induction n with
 | zero=>intro m i h;omega
 | succ n ih=>
  intro m i hn hm hi;obtain ⟨m,rfl⟩:∃ k,m=k+1:=⟨m - 1,ah⟩
  rw [Po,LX];by_cases h:i < l.length
  .have hst:IntKind.wrap .i64 ((i:Int)+1)=((i+1:Nat):Int):=abT h (by simp only [maxLen];omega);have hc:(x==l[i])=(l[i]==x):=by
    cases e:(l[i]==x) with
    | true=>have:=eq_of_beq e;subst this;simp
    | false=>
     have: ¬l[i]=x:=by simpa using e
     simpa using fun e=>this e.symm
   simp only [iT h,aS,bX h,av,hst,hc];cases he:(l[i]==x) with
   | true=>exact ⟨(i:Int),rfl,rfl,⟨ah,fun _=>by have:=eq_of_beq he;rw [<- this];exact ou h⟩,ah⟩
   | false=>exact ih m (i+1) ah ah ah
  .simp only [kG h,aJ];exact ⟨-1,rfl,rfl,⟨ah,fun h=>ah⟩,ah⟩
def aps (N:Nat) (l:List (List UInt8)) (x:List UInt8) (hl:l.length<=1048576) (hN:l.length < N):∃ r:Int,Xo N l x=some r/\Ul N l x=some r/\(-1<=r/\(0<=r->x∈l))/\r < l.length:=
 ayH N N l x hl N N 0 ah ah ah
def apt (N:Nat) (x:List UInt8) (hN:100 < N):∃ r:Int,Xp N x=some r/\XJ N x=some r/\(r=0\/(10<=r/\r<=26)):=by
 obtain ⟨r,h1,h2,h3,h4⟩:=aps N vF x aM (by have:vF.length=17:=rfl;omega);have hl:vF.length=17:=rfl;unfold Xp XJ;rw [ait,av,h1,h2];simp only [av];by_cases h:r < 0
 .rw [kP h];exact ⟨0,rfl,rfl,.inl rfl⟩
 .rw [pQ h,wrap64 (n:=10+r) ah ah];exact ⟨10+r,rfl,rfl,.inr ah⟩
def Va (N:Nat) (x:List UInt8) (hN:100 < N):∃ b:Bool,Jo N x=some b/\PG N x=some b/\(b=true->x∈Ag):=by
 obtain ⟨r,h1,h2,h3,h4⟩:=aps N Ag x aM (by have:Ag.length=21:=rfl;omega);unfold Jo PG PE;rw [ayG,av,h1,h2];exact ⟨_,rfl,rfl,fun h=>h3.2<|by simpa using h⟩
def ayI (b:UInt8):(((b).toNat:Int)==10)=(b==10):=by
 cases h:(b==10) with
 | true=>have:=eq_of_beq h;subst this;rfl
 | false=>
  have hne:b≠10:=by simpa using h
  have: ¬b.toNat=10:=fun e=>hne (UInt8.toNat.inj e);simp;omega
def ayJ (N:Nat) (t:List UInt8) (ht:t.length<=maxLen):∀ (n i:Nat),t.length - i < n->i<=t.length->Pp N n (t,(i:Int))=some (!(t.drop i).contains 10):=by
 intro n;induction n with
 | zero=>intro i h;omega
 | succ n ih=>
  intro i hn hi;rw [Pp];by_cases h:i < t.length
  .simp only [iT h,aS,bX h,av,ayI,abT h ht];rw [ih (i+1) ah ah,drop_cons h,List.contains_cons];by_cases he:t[i]=10
   .simp [he]
   .have h1:(t[i]==10)=false:=by simpa using he
    have h2:((10:UInt8)==t[i])=false:=by simpa using fun e=>he e.symm
    rw [h1,h2,aJ,VY]
  .simp only [kG h,aJ];rw [drop_nil h];rfl
def apu (N:Nat) (t:List UInt8) (hN:t.length < N) (ht:t.length<=maxLen):TQ N t=some (!t.contains 10):=by
 unfold TQ;have:=ayJ N t ht N 0 ah ah;simpa using this
def ayK (l:List UInt8) (c:UInt8):decide (Go.Lib.indexByte l c>=0)=l.contains c:=by
 induction l with
 | nil=>rfl
 | cons b l ih=>
  rw [List.contains_cons];unfold Go.Lib.indexByte;by_cases h:(b==c)=true
  .have:(c==b)=true:=by have:=eq_of_beq h;subst this;simp
   simp [h,this]
  .have hf:(b==c)=false:=by simpa using h
   have hf2:(c==b)=false:=by
    have: ¬b=c:=by simpa using hf
    simpa using fun e=>this e.symm
   rw [hf,hf2,VY,<- ih];have hge:=Go.Lib.indexByte_ge l c;simp only [Bool.false_eq_true,if_false];split
   .rename_i he;have:Go.Lib.indexByte l c= -1:=by simpa using he
    rw [this]
   .rename_i he;have: ¬Go.Lib.indexByte l c= -1:=by simpa using he
    have h1:Go.Lib.indexByte l c>=0:=ah;have h2:Go.Lib.indexByte l c+1>=0:=ah;simp [h1,h2]
def ayL (t:List UInt8):XL t=some (t.contains 10):=by
 have h0:XK t=some (Go.Lib.indexByte t 10):=by
  unfold XK;by_cases h:(([10]:List UInt8)==t)=true
  .have:=eq_of_beq h;subst this;rfl
  .have hf:(([10]:List UInt8)==t)=false:=by simpa using h
   rw [hf,aJ];rfl
 unfold XL acZ;rw [h0,av,av,ayK]
def apv (k:Int):∃ x:List UInt8,GX k=some x/\(k=0->x=[]):=by
 unfold GX;rw [Ec,Ec,ait,apr];simp only [av];cases h1:(k==1) with
 | true=>exact ⟨[10],rfl,fun h=>by subst h;cases h1⟩
 | false=>
  cases h2:(decide (k>=10)&&decide (k<=26)) with
  | true=>
   simp only [eu,oo] at h2;obtain ⟨j,rfl⟩:∃ j:Nat,k=(j:Int)+10:=⟨(k - 10).toNat,ah⟩
   have hl:vF.length=17:=rfl;have hw:IntKind.wrap .i64 ((j:Int)+10 - 10)=(j:Int):=by rw [wrap64 ah ah];omega
   rw [aJ,aS,hw,bX ah];exact ⟨_,rfl,fun h=>ah⟩
  | false=>
   cases h3:(decide (k>=30)&&decide (k<=68)) with
   | true=>
    simp only [eu,oo] at h3;obtain ⟨j,rfl⟩:∃ j:Nat,k=(j:Int)+30:=⟨(k - 30).toNat,ah⟩
    have hl:CZ.length=39:=rfl;have hw:IntKind.wrap .i64 ((j:Int)+30 - 30)=(j:Int):=by rw [wrap64 ah ah];omega
    rw [aJ,aJ,aS,hw,bX ah];exact ⟨_,rfl,fun h=>ah⟩
   | false=>exact ⟨[],rfl,fun _=>rfl⟩
def aiu (k:Int):∃ x:List UInt8,GX k=some x/\PN k=some x/\(k=0->x=[]):=by
 have YU:XO k=some (decide (k>=10)&&decide (k<=26)):=by
  unfold XO;rw [YS];rfl
 have hsg:XP k=some (decide (k>=30)&&decide (k<=68)):=by
  unfold XP;rw [YS];rfl
 unfold GX PN;rw [Ec,Ec,YU,hsg,ait,apr];simp only [av];cases h1:(k==1) with
 | true=>exact ⟨[10],rfl,rfl,fun h=>by subst h;cases h1⟩
 | false=>
  cases h2:(decide (k>=10)&&decide (k<=26)) with
  | true=>
   simp only [eu,oo] at h2;obtain ⟨j,rfl⟩:∃ j:Nat,k=(j:Int)+10:=⟨(k - 10).toNat,ah⟩
   have hl:vF.length=17:=rfl;have hw:IntKind.wrap .i64 ((j:Int)+10 - 10)=(j:Int):=by rw [wrap64 ah ah];omega
   rw [aJ,aS,hw,bX ah];exact ⟨_,rfl,rfl,fun h=>ah⟩
  | false=>
   cases h3:(decide (k>=30)&&decide (k<=68)) with
   | true=>
    simp only [eu,oo] at h3;obtain ⟨j,rfl⟩:∃ j:Nat,k=(j:Int)+30:=⟨(k - 30).toNat,ah⟩
    have hl:CZ.length=39:=rfl;have hw:IntKind.wrap .i64 ((j:Int)+30 - 30)=(j:Int):=by rw [wrap64 ah ah];omega
    rw [aJ,aJ,aS,hw,bX ah];exact ⟨_,rfl,rfl,fun h=>ah⟩
   | false=>exact ⟨[],rfl,rfl,fun _=>rfl⟩
def aiv (N:Nat) (x:List UInt8) (hx:x.length<=1048576) (hN:x.length+200 < N):∃ b:Bool,Ca N x=some b/\DX N x=some b/\(x=[]->b=false):=by
 unfold Ca DX;obtain ⟨q,h1,h2⟩:=apq N x hx ah;obtain ⟨r,g1,g2,_⟩:=apt N x ah;obtain ⟨c,f1,f2,_⟩:=Va N x ah;have hq:x=[]->q=false:=by
  intro e;subst e;unfold Xm at h1;obtain ⟨M,rfl⟩:∃ m,N=m+1:=⟨N - 1,ah⟩
  rw [LG] at h1;have e1:decide ((0:Int) < (([]:List UInt8).length:Int))=false:=rfl;have e2:oG (([]:List UInt8).length:Int) 1 12=some false:=rfl;rw [e1,aJ,e2] at h1;simpa using h1.symm
 rw [h1,h2,av,av];cases hqv:q with
 | false=>exact ⟨false,rfl,rfl,fun _=>rfl⟩
 | true=>
  rw [aS,aS,g1,g2,av,av];cases (r==0) with
  | false=>exact ⟨false,rfl,rfl,fun _=>rfl⟩
  | true=>
   rw [aS,aS,f1,f2];exact ⟨!c,rfl,rfl,fun e=>by rw [hq e] at hqv;cases hqv⟩
def aiw (x:List UInt8):(x==[])=true↔x=[]:=aA
def adC (N:Nat) (t:aG) (ht:t.Text.length<=1048576) (hN:t.Text.length+200 < N):∃ b:Bool,rG N t=some b/\Uu N t=some b/\(t.Kind=0->b=false):=by
 obtain ⟨sp,s1,s2,s3⟩:=aiu t.Kind;obtain ⟨nb,n1,n2,n3⟩:=aiv N t.Text ht hN;obtain ⟨bb,b1,b2,b3⟩:=Va N t.Text ah;have hk1:∀ y:Bool,¬t.Text=[]->∃ b:Bool,zq N (t,y)=some b/\Ut N (t,y)=some b/\(t.Kind=0->y=false->b=false):=by
  intro y hne;have hbn:(t.Text==[])=false:=by
   cases e:(t.Text==[]) with
   | false=>rfl
   | true=>exact absurd ((aiw _).1 e) hne
  simp only [zq,Ut];rw [n1,n2,b1,b2,s1,s2,hbn];cases y with
  | true=>exact ⟨nb,rfl,rfl,fun _ h=>by cases h⟩
  | false=>
   cases h8:(t.Kind==8) with
   | true=>
    refine ⟨bb,rfl,rfl,fun h=>?_⟩;rw [h] at h8;cases h8
   | false=>
    have hc:(sp==t.Text)=(t.Text==sp):=by
     cases e:(t.Text==sp) with
     | true=>have:=eq_of_beq e;rw [this];simp
     | false=>
      have: ¬t.Text=sp:=by simpa using e
      simpa using fun e=>this e.symm
    refine ⟨t.Text==sp,by rw [<- hc];rfl,rfl,fun h _=>?_⟩;rw [s3 h];exact hbn
 unfold rG Uu;by_cases hne:t.Text=[]
 .have e0:(t.Text==[])=true:=(aiw _).2 hne;rw [e0,aS];refine ⟨false,?_,rfl,fun _=>rfl⟩;have hl:decide ((t.Text.length:Int) > 0)=false:=by rw [hne];rfl
  have hst:LK N t.Text 0=some (-1):=by
   rw [hne];rfl
  have hre:LM N t.Text 0=some (-1):=by
   rw [hne];rfl
  have hm1:((-1:Int)==(t.Text.length:Int))=false:=by rw [hne];rfl
  rw [hl,hst,hre];have hk:∀ y,zq N (t,y)=some false:=by
   intro y;simp only [zq];rw [n1,n3 hne,b1,s1,e0];have hbb:bb=false:=by
    cases h:bb with
    | false=>rfl
    | true=>
     have:=b3 h;rw [hne] at this;exact absurd this aM
   rw [hbb];cases y<;>cases (t.Kind==8)<;>rfl
  simp only [av,aJ,hm1,hk];cases (t.Kind==2)<;>cases (t.Kind==3)<;>cases (t.Kind==4)<;>cases (t.Kind==5)<;>cases (t.Kind==6)<;>rfl
 .have e0:(t.Text==[])=false:=by
   cases e:(t.Text==[]) with
   | false=>rfl
   | true=>exact absurd ((aiw _).1 e) hne
  have hpos:0 < t.Text.length:=by
   cases VT t.Text.length with
   | inl h=>exact absurd (Gt.1 h) hne
   | inr h=>exact h
  have hl:decide ((t.Text.length:Int) > 0)=true:=kP ah;rw [e0,aJ,hl];simp only [aS];cases h2:(t.Kind==2) with
  | true=>
   have e:ix t.Text 0=some t.Text[0]:=bX hpos;have hp:=apu N t.Text ah (by simp only [maxLen];omega);have hc:=ayL t.Text;rw [aS,aS,e,hp,hc];simp only [av];refine ⟨((t.Text[0].toNat:Int)==35)&&!t.Text.contains 10,?_,?_,fun h=>?_⟩
   .cases ((t.Text[0].toNat:Int)==35)<;>rfl
   .cases ((t.Text[0].toNat:Int)==35)<;>rfl
   .rw [h] at h2;cases h2
  | false=>
   rw [aJ,aJ];cases h3:(t.Kind==3) with
   | true=>
    obtain ⟨r,f1,f2,_⟩:=apl N t.Text ht ah 0 hpos;have Qs:LJ N t.Text 0=some r:=f1;have f2':Uo N t.Text 0=some r:=f2;rw [aS,aS,Qs,f2'];refine ⟨_,rfl,rfl,fun h=>?_⟩;rw [h] at h3;cases h3
   | false=>
    rw [aJ,aJ];cases h4:(t.Kind==4) with
    | true=>
     obtain ⟨r,f1,f2,_⟩:=apn N t.Text ht ah 0 hpos;have Qs:LK N t.Text 0=some r:=f1;have f2':Ur N t.Text 0=some r:=f2;rw [aS,aS,Qs,f2'];refine ⟨_,rfl,rfl,fun h=>?_⟩;rw [h] at h4;cases h4
    | false=>
     rw [aJ,aJ];cases h5:(t.Kind==5) with
     | true=>
      obtain ⟨r,f1,f2,_⟩:=apo N t.Text ht ah 0 hpos;have Qs:LM N t.Text 0=some r:=f1;have f2':Us N t.Text 0=some r:=f2;rw [aS,aS,Qs,f2'];refine ⟨_,rfl,rfl,fun h=>?_⟩;rw [h] at h5;cases h5
     | false=>
      rw [aJ,aJ];cases h6:(t.Kind==6) with
      | true=>
       obtain ⟨b,k1,k2,k3⟩:=hk1 true hne;refine ⟨b,k1,k2,fun h=>?_⟩;rw [h] at h6;cases h6
      | false=>
       obtain ⟨b,k1,k2,k3⟩:=hk1 (t.Kind==7) hne;refine ⟨b,k1,k2,fun h=>k3 h ?_⟩;rw [h];rfl
def mU (a:List aD):List (List Int):=a.map (·.Kids)
def apx {a:List aD} {i:Nat} (h:i < a.length):(mU a).drop i=a[i].Kids::(mU a).drop (i+1):=by
 have h':i < (mU a).length:=by simpa [mU] using h
 rw [drop_cons h'];simp [mU]
def ayM (N:Nat) (kb:(List aD×Int×List Int)->Option (List Int×Bool)) (a:List aD) (i:Nat) (hi:i < a.length) (hi2:i<=100000) (out:List Int) (ho:out.length=i) (hl:Low out) (hk:a[i].Kids.length<=1048576):
  ∀ (n j:Nat) (at_:Int),j < n->j<=a[i].Kids.length->0<=at_->at_<=i->
   OZ N kb n (a,(i:Int),out,at_,(j:Int) - 1)=match walk out at_ (a[i].Kids.take j).reverse with
    | none=>some ([],false)
    | some s=>kb (a,((i+1:Nat):Int),out++[s]):=by
 intro n;induction n with
 | zero=>intro j at_ h;omega
 | succ n ih=>
  intro j at_ hn hj h0 h1;rw [OZ];cases j with
  | zero=>
   have:decide (((0:Nat):Int) - 1>=0)=false:=aA;simp only [this,aJ,List.take_zero,List.reverse_nil,walk];rw [jf (by simp [ho];omega),av,wrap64 ah ah];rfl
  | succ j=>
   have hjk:j < a[i].Kids.length:=ah;rw [awH hjk];simp only [awI,aS,awJ,bX hi,bX hjk,av];rw [wrap64 (n:=at_ - 1) ah ah];unfold walk;by_cases hc:a[i].Kids[j]≠at_ - 1
   .have h2:(a[i].Kids[j] !=at_ - 1)=true:=by simpa using hc
    rw [h2,aS,av,aS,bZ<|.inr hc]
   .have h2:(a[i].Kids[j] !=at_ - 1)=false:=by simpa using hc
    rw [h2,aJ,av];by_cases hz:at_=0
    .have h3:(at_==0)=true:=by simpa using hz
     rw [h3,aS,bZ<|.inl hz]
    .have h3:(at_==0)=false:=by simpa using hz
     rw [h3,aJ,bA fun h=>h.elim hz hc];have hlt:(at_ - 1).toNat < out.length:=ah;have hx:ix out (at_ - 1)=some out[(at_ - 1).toNat]:=by
      have:=bX hlt;rwa [afi ah] at this
     rw [hx,av,fB hlt];have hlow:=hl _ _ (fB hlt);rw [wrap64 ah ah];exact ih j _ ah ah hlow.1 ah
def ayN (N:Nat) (a:List aD) (hN:1048577 < N) (ha:a.length<=100000) (hk:∀ x,x∈a->x.Kids.length<=1048576):∀ (n i:Nat) (out:List Int),a.length - i < n->i<=a.length->out.length=i->Low out->
  Lx N n (a,(i:Int),out)=match starts ((mU a).drop i) out with
   | none=>some ([],false)
   | some r=>some (r,true):=by
 intro n;induction n with
 | zero=>intro i out h;omega
 | succ n ih=>
  intro i out hn hi ho hl;rw [Lx];by_cases h:i < a.length
  .have hkl:=hk _ (ou h);simp only [iT h,aS,bX h,av];rw [wrap64 (n:=(a[i].Kids.length:Int) - 1) ah ah,ayM N _ a i h ah out ho hl hkl N _ _ ah (eU _) ah ah,List.take_length,apx h,starts,ho];cases hw:walk out (i:Int) a[i].Kids.reverse with
   | none=>rfl
   | some s=>
    have hs:=abV hl _ ah hw;simp only [av];exact ih (i+1) _ ah ah (by simp [ho]) (hl.snoc hs.1 ah)
  .simp only [kG h,aJ];have:(mU a).drop i=[]:=drop_nil (by simpa [mU] using h);rw [this];rfl
def ayO (N:Nat) (kb:(List aD×Int×List Int)->Option (List Int×Bool)) (a:List aD) (e:aD) (i:Nat) (hi:i < a.length) (hi2:i<=100000) (out st:List Int) (ho:out.length=i) (hst:st.take i=out) (hsl:st.length=a.length) (hl:Low out):
  ∀ (ks:List Int) (at_:Int),0<=at_->at_<=i->
   LW N kb a (i:Int) e st ks (at_ - 1)=match walk out at_ ks with
    | none=>some ([],false)
    | some s=>kb (a,((i+1:Nat):Int),st.set i s):=by
 intro ks;have hil:i < st.length:=ah;induction ks with
 | nil=>
  intro at_ h0 h1;rw [LW];simp only [walk];rw [bX hil,av,wrap64 (n:=at_ - 1+1) ah ah,WI hil,av,wrap64 ah ah,Int.sub_add_cancel];rfl
 | cons k ks ih=>
  intro at_ h0 h1;rw [LW];unfold walk;by_cases hz:at_=0
  .have h3:decide (at_ - 1 < 0)=true:=aU;rw [h3,aS,av,aS,bZ<|.inl hz]
  .have h3:decide (at_ - 1 < 0)=false:=aU;rw [h3,aJ,av];by_cases hc:k≠at_ - 1
   .have h2:(k !=at_ - 1)=true:=by simpa using hc
    rw [h2,aS,bZ<|.inr hc]
   .have h2:(k !=at_ - 1)=false:=by simpa using hc
    have hk:k=at_ - 1:=Decidable.of_not_not hc;rw [h2,aJ,bA fun h=>h.elim hz hc];have hlt:(at_ - 1).toNat < out.length:=ah;have hlt2:(at_ - 1).toNat < st.length:=ah;have hx:ix st k=some st[(at_ - 1).toNat]:=by
     have:=bX hlt2;rw [afi ah] at this;rw [hk];exact this
    have he:out[(at_ - 1).toNat]?=some st[(at_ - 1).toNat]:=by
     rw [<- hst,Ah,bZ ah,fB hlt2]
    rw [hx,av,he];have hlow:=hl _ _ he;rw [wrap64 (n:=st[(at_ - 1).toNat] - 1) ah ah];exact ih _ hlow.1 ah
def Vb (r:List Int) (n:Nat):Bool:=r[n - 1]?==some 0
def ayP (N:Nat) (a:List aD) (ha:a.length<=100000) (h1:1<=a.length):∀ (n i:Nat) (out st:List Int),a.length - i < n->i<=a.length->out.length=i->st.take i=out->st.length=a.length->Low out->
  ∃ st',Js N n (a,(i:Int),st)=some (st',match starts ((mU a).drop i) out with
   | none=>false
   | some r=>Vb r a.length)/\∀ r,starts ((mU a).drop i) out=some r->st'=r:=by
 intro n;induction n with
 | zero=>intro i out st h;omega
 | succ n ih=>
  intro i out st hn hi ho hst hsl hl;rw [Js];by_cases h:i < a.length
  .simp only [iT h,aS,bX h,av];rw [wrap64 (n:=(i:Int) - 1) ah ah,ayO N _ a a[i] i h ah out st ho hst hsl hl _ _ ah ah,apx h,starts,ho];cases hw:walk out (i:Int) a[i].Kids.reverse with
   | none=>exact ⟨[],rfl,fun r h=>by cases h⟩
   | some s=>
    have hs:=abV hl _ ah hw;simp only [av];refine ih (i+1) _ _ ah ah (by simp [ho]) ?_ (by simpa using hsl) (hl.snoc hs.1 ah);rw [aaQ,List.take_set_of_le<|eU i,hst,afd ah];rfl
  .simp only [kG h,aJ];have:(mU a).drop i=[]:=drop_nil (by simpa [mU] using h);rw [this];have hia:i=a.length:=ah;have hso:st=out:=by rw [<- hst,alK ah]
   have hlt:a.length - 1 < st.length:=ah;have hx:ix st ((a.length:Int) - 1)=some st[a.length - 1]:=by
    have:=bX hlt;rwa [show ((a.length - 1:Nat):Int)=(a.length:Int) - 1 by omega] at this
   rw [wrap64 (n:=(a.length:Int) - 1) ah ah,hx,av];refine ⟨st,?_,fun r hr=>by rw [hso];exact mJ hr⟩;simp only [starts,Vb,<- hso,fB hlt];congr 2
def qd (a:List aD):Bool:=
 (decide (1<=a.length)&&decide (a.length<=400))&&(match starts (mU a) [] with
  | none=>false
  | some r=>Vb r a.length)
def Gn (a b c:Int):rJ a b c=some (decide (a>=b)&&decide (a<=c)):=by
 unfold rJ;cases decide (a>=b)<;>rfl
def Ad (a b c:Int):oG a b c=some (decide (a>=b)&&decide (a<=c)):=by
 unfold oG;cases decide (a>=b)<;>rfl
def ayQ {a:List aD} (hs:∀ x,x∈a->mW x):∀ x,x∈a->x.Kids.length<=1048576:=fun x hx=>by
 have:=hs x hx;unfold mW at this;omega
def apy (N:Nat) (a:List aD) (hN:1048577 < N) (ha:a.length<=400) (hs:∀ x,x∈a->mW x):Xk N a=match starts (mU a) [] with
  | none=>some ([],false)
  | some r=>some (r,true):=by
 have:=ayN N a hN ah (ayQ hs) N 0 [] ah ah rfl (fun j s h=>by simp at h);rw [KL] at this;exact this
def aix (N:Nat) (a:List aD) (hN:1048577 < N) (hs:∀ x,x∈a->mW x):IB N a=some (qd a):=by
 unfold IB qd;rw [Ad,av];by_cases h1:1<=a.length
 .by_cases h2:a.length<=400
  .have e1:decide ((a.length:Int)>=1)=true:=aU;have e2:decide ((a.length:Int)<=400)=true:=aU;simp only [e1,e2,yZ,kQ,aJ,h1,h2,Di,Df,apy N a hN h2 hs];cases hst:starts (mU a) [] with
   | none=>rfl
   | some r=>
    obtain ⟨⟨m,hm,hml⟩,_,_⟩:=agH _ (fun j s h=>by simp at h) hst;have hrl:r.length=a.length:=by rw [hm];simp [hml,mU]
    have hlt:a.length - 1 < r.length:=ah;have hx:ix r ((a.length:Int) - 1)=some r[a.length - 1]:=by
     have:=bX hlt;rwa [show ((a.length - 1:Nat):Int)=(a.length:Int) - 1 by omega] at this
    simp only [av,aS];rw [wrap64 (n:=(a.length:Int) - 1) ah ah,hx,av,av];simp only [Vb,fB hlt];congr 1
  .have e2:decide ((a.length:Int)<=400)=false:=aU;simp [e2,h2]
 .have e1:decide ((a.length:Int)>=1)=false:=aU;simp [e1,h1]
def ayR (N:Nat) (a:List aD) (hN:1048577 < N):∃ st,XG N a=some (st,qd a)/\(a.length<=400->∀ r,starts (mU a) []=some r->st=r\/a=[]):=by
 unfold XG qd;rw [Gn,av];by_cases h1:1<=a.length
 .by_cases h2:a.length<=400
  .have e1:decide ((a.length:Int)>=1)=true:=aU;have e2:decide ((a.length:Int)<=400)=true:=aU;obtain ⟨st',hst',hr⟩:=ayP N a ah h1 N 0 [] (List.replicate a.length 0) ah ah rfl aA aA (fun j s h=>by simp at h);rw [KL] at hst' hr;simp only [e1,e2,yZ,kQ,aJ];rw [anv ah (by simp only [maxLen];omega),av];have pU:Js N N (a,0,List.replicate a.length 0)=_:=hst';rw [pU];exact ⟨st',by simp [h1,h2],fun _ r h=>.inl<|hr r h⟩
  .have e2:decide ((a.length:Int)<=400)=false:=aU;exact ⟨[],by simp [e2,h2],fun h=>absurd h h2⟩
 .have e1:decide ((a.length:Int)>=1)=false:=aU;refine ⟨[],by simp [e1,h1],fun _ r _=>.inr ?_⟩;cases a with
  | nil=>rfl
  | cons=>simp at h1
def ayS (N:Nat) (a:List aD) (hN:1048577 < N):XH N a=some (qd a):=by
 obtain ⟨st,h,_⟩:=ayR N a hN;unfold XH;rw [h];rfl
def aBE (op:Int):∃ (b:Bool) (l:Int),DK op=some b/\LY op=some l/\(l !=0)=b:=by
 rcases kH (op=60) with rfl|qQ
 .exact ⟨true,_,rfl,rfl,rfl⟩
 rcases kH (op=57) with rfl|h57
 .exact ⟨true,_,rfl,rfl,rfl⟩
 rcases kH (op=58) with rfl|jA
 .exact ⟨true,_,rfl,rfl,rfl⟩
 rcases kH (op=59) with rfl|xL
 .exact ⟨true,_,rfl,rfl,rfl⟩
 rcases kH (op=55) with rfl|h55
 .exact ⟨true,_,rfl,rfl,rfl⟩
 rcases kH (op=56) with rfl|uX
 .exact ⟨true,_,rfl,rfl,rfl⟩
 rcases kH (op=99) with rfl|pG
 .exact ⟨true,_,rfl,rfl,rfl⟩
 rcases kH (op=63) with rfl|h63
 .exact ⟨true,_,rfl,rfl,rfl⟩
 rcases kH (op=48) with rfl|h48
 .exact ⟨true,_,rfl,rfl,rfl⟩
 rcases kH (op=47) with rfl|h47
 .exact ⟨true,_,rfl,rfl,rfl⟩
 rcases kH (op=50) with rfl|h50
 .exact ⟨true,_,rfl,rfl,rfl⟩
 rcases kH (op=62) with rfl|fA
 .exact ⟨true,_,rfl,rfl,rfl⟩
 rcases kH (op=49) with rfl|lU
 .exact ⟨true,_,rfl,rfl,rfl⟩
 rcases kH (op=67) with rfl|h67
 .exact ⟨true,_,rfl,rfl,rfl⟩
 rcases kH (op=46) with rfl|h46
 .exact ⟨true,_,rfl,rfl,rfl⟩
 rcases kH (op=45) with rfl|h45
 .exact ⟨true,_,rfl,rfl,rfl⟩
 rcases kH (op=44) with rfl|oh
 .exact ⟨true,_,rfl,rfl,rfl⟩
 have e:∀ k,op≠k->(op==k)=false:=fun k h=>by simpa using h
 refine ⟨false,0,?_,?_,rfl⟩
 .unfold DK;rw [e 60 qQ,e 57 h57,e 58 jA,e 59 xL,e 55 h55,e 56 uX,e 99 pG,e 63 h63,e 48 h48,e 47 h47,e 50 h50,e 62 fA,e 49 lU,e 67 h67,e 46 h46,e 45 h45,e 44 oh];rfl
 .unfold LY XR Jt XQ Uv;simp only [e 60 qQ,e 57 h57,e 58 jA,e 59 xL,e 55 h55,e 56 uX,e 99 pG,e 63 h63,e 48 h48,e 47 h47,e 50 h50,e 62 fA,e 49 lU,e 67 h67,e 46 h46,e 45 h45,e 44 oh,aJ]
def aBF (N:Nat) (t:List UInt8) (hN:100 < N):PE N [[],[62],[62,62],[124]] t=some (t==[]||(t==[62]||(t==[62,62]||t==[124]))):=by
 obtain ⟨N,rfl⟩:∃ M,N=M+5:=⟨N - 5,ah⟩
 unfold PE Ul;rcases kH (t=[]) with rfl|h1
 .rfl
 rcases kH (t=[62]) with rfl|h2
 .rfl
 rcases kH (t=[62,62]) with rfl|h3
 .rfl
 rcases kH (t=[124]) with rfl|h4
 .rfl
 have e:∀ k:List UInt8,t≠k->(t==k)=false:=fun k h=>by simpa using h
 have i0:ix [([]:List UInt8),[62],[62,62],[124]] 0=some []:=rfl;have i1:ix [([]:List UInt8),[62],[62,62],[124]] 1=some [62]:=rfl;have i2:ix [([]:List UInt8),[62],[62,62],[124]] 2=some [62,62]:=rfl;have i3:ix [([]:List UInt8),[62],[62,62],[124]] 3=some [124]:=rfl;have w1:IntKind.wrap .i64 ((0:Int)+1)=1:=rfl;have w2:IntKind.wrap .i64 ((1:Int)+1)=2:=rfl;have w3:IntKind.wrap .i64 ((2:Int)+1)=3:=rfl;have w4:IntKind.wrap .i64 ((3:Int)+1)=4:=rfl;have d:∀ k:Int,k < 4->decide (k < ((List.length [([]:List UInt8),[62],[62,62],[124]]:Nat):Int))=true:=fun k h=>kP h;have d4:decide ((4:Int) < ((List.length [([]:List UInt8),[62],[62,62],[124]]:Nat):Int))=false:=rfl;simp only [LX,d 0 ah,d 1 ah,d 2 ah,d 3 ah,d4,i0,i1,i2,i3,w1,w2,w3,w4,e _ h1,e _ h2,e _ h3,e _ h4,aS,aJ,av,Bool.or_false,Bool.or_self];rfl
def FK (n:aD):Prop:=
 (n.Kind=28->2<=n.Kids.length/\n.Kids.length<=3)/\(n.Kind=29->n.Kids.length=2)/\(n.Kind=30->n.Kids.length=2)/\(n.Kind=31->n.Kids.length=4)/\
 (n.Kind=42->n.Op=1/\n.Kids.length=1\/n.Op=2/\n.Kids.length=1\/n.Op=3/\n.Kids.length=2)/\(n.Kind=43->n.Op=1/\n.Kids.length=2\/n.Op=3/\n.Kids.length=3)/\
 (n.Kind=12->n.Kids.length=2/\n.Text=[]/\n.Other=[])/\(n.Kind=11->n.Kids.length=1/\n.Text=[]/\n.Other=[])
def gX (k:Int):Prop:=(1<=k/\k<=16)\/(20<=k/\k<=34)\/(40<=k/\k<=45)
def FK.other {n:aD} (h:n.Kind≠28/\n.Kind≠29/\n.Kind≠30/\n.Kind≠31/\n.Kind≠42/\n.Kind≠43/\n.Kind≠12/\n.Kind≠11):FK n:=
 ⟨fun e=>absurd e h.1,fun e=>absurd e h.2.1,fun e=>absurd e h.2.2.1,fun e=>absurd e h.2.2.2.1,fun e=>absurd e h.2.2.2.2.1,fun e=>absurd e h.2.2.2.2.2.1,fun e=>absurd e h.2.2.2.2.2.2.1,fun e=>absurd e h.2.2.2.2.2.2.2⟩
def FR {l:Nat} {c1 c2:Bool} {m k:Nat} (h1:decide ((l:Int)>=(m:Int))=c1) (h2:decide ((l:Int)<=(k:Int))=c2) (h:(c1&&c2)=true):m<=l/\l<=k:=by
 subst h1 h2;simp only [eu,oo] at h;omega
set_option maxHeartbeats 8000000 in
def aBG (N:Nat) (n:aD) (hN:1048576+300 < N) (hn:mW n) (hk:n.Kids.length<=400):∃ b:Bool,yu N n=some b/\Ux N n=some b/\(b=true->FK n/\gX n.Kind):=by
 obtain ⟨kind,op,text,other,kids⟩:=n;unfold mW at hn;simp only at hn hk;obtain ⟨bn,n1,n2,_⟩:=aiv N text ah ah;obtain ⟨bo,o1,o2,_⟩:=aiv N other ah ah;obtain ⟨bb,b1,b2,_⟩:=Va N text ah;obtain ⟨t2,t2a,t2b,_⟩:=adC N ⟨2,text,0⟩ uF uF;obtain ⟨t3,t3a,t3b,_⟩:=adC N ⟨3,text,0⟩ uF uF;obtain ⟨t4,t4a,t4b,_⟩:=adC N ⟨4,text,0⟩ uF uF;obtain ⟨t5,t5a,t5b,_⟩:=adC N ⟨5,text,0⟩ uF uF;obtain ⟨ob,ol,ob1,ob2,ob3⟩:=aBE op;have hr:=aBF N other ah;have x2:ix [(3:Int),4,5] (IntKind.wrap .i64<|(2:Int) - 2)=some 3:=rfl;have x3:ix [(3:Int),4,5] (IntKind.wrap .i64<|(3:Int) - 2)=some 4:=rfl;have x4:ix [(3:Int),4,5] (IntKind.wrap .i64<|(4:Int) - 2)=some 5:=rfl;have hl0:decide ((kids.length:Int)>=0)=true:=aA;have hlm:decide ((kids.length:Int)<=400)=true:=aU;rcases Classical.em (kind=1\/kind=2\/kind=3\/kind=4\/kind=5\/kind=6\/kind=7\/kind=8\/kind=9\/kind=10\/kind=11\/kind=12\/kind=13\/kind=14\/kind=15\/kind=16\/kind=20\/kind=21\/kind=22\/kind=23\/kind=24\/kind=25\/kind=26\/kind=27\/kind=28\/kind=29\/kind=30\/kind=31\/kind=32\/kind=33\/kind=34\/kind=40\/kind=41\/kind=42\/kind=43\/kind=44\/kind=45) with hall|hall
 rotate_left
 .skip
  have h1:kind≠1:=fun h=>hall (by simp [h]);have h2:kind≠2:=fun h=>hall (by simp [h]);have h3:kind≠3:=fun h=>hall (by simp [h]);have h4:kind≠4:=fun h=>hall (by simp [h]);have h5:kind≠5:=fun h=>hall (by simp [h]);have h6:kind≠6:=fun h=>hall (by simp [h]);have h7:kind≠7:=fun h=>hall (by simp [h]);have h8:kind≠8:=fun h=>hall (by simp [h]);have h9:kind≠9:=fun h=>hall (by simp [h]);have h10:kind≠10:=fun h=>hall (by simp [h]);have h11:kind≠11:=fun h=>hall (by simp [h]);have h12:kind≠12:=fun h=>hall (by simp [h]);have zM:kind≠13:=fun h=>hall (by simp [h]);have qF:kind≠14:=fun h=>hall (by simp [h]);have FQ:kind≠15:=fun h=>hall (by simp [h]);have h16:kind≠16:=fun h=>hall (by simp [h]);have h20:kind≠20:=fun h=>hall (by simp [h]);have h21:kind≠21:=fun h=>hall (by simp [h]);have h22:kind≠22:=fun h=>hall (by simp [h]);have h23:kind≠23:=fun h=>hall (by simp [h]);have ze:kind≠24:=fun h=>hall (by simp [h]);have h25:kind≠25:=fun h=>hall (by simp [h]);have h26:kind≠26:=fun h=>hall (by simp [h]);have h27:kind≠27:=fun h=>hall (by simp [h]);have FT:kind≠28:=fun h=>hall (by simp [h]);have h29:kind≠29:=fun h=>hall (by simp [h]);have yF:kind≠30:=fun h=>hall (by simp [h]);have h31:kind≠31:=fun h=>hall (by simp [h]);have h32:kind≠32:=fun h=>hall (by simp [h]);have kL:kind≠33:=fun h=>hall (by simp [h]);have FU:kind≠34:=fun h=>hall (by simp [h]);have En:kind≠40:=fun h=>hall (by simp [h]);have JM:kind≠41:=fun h=>hall (by simp [h]);have h42:kind≠42:=fun h=>hall (by simp [h]);have h43:kind≠43:=fun h=>hall (by simp [h]);have oh:kind≠44:=fun h=>hall (by simp [h]);have h45:kind≠45:=fun h=>hall (by simp [h]);have e:∀ k,kind≠k->(kind==k)=false:=fun k h=>by simpa using h
  have r1:(decide (kind>=1)&&decide (kind<=16))=false:=by
   cases h:(decide (kind>=1)&&decide (kind<=16)) with
   | false=>rfl
   | true=>simp only [eu,oo] at h;omega
  have r1b:(decide (kind>=1)&&decide (kind<=15))=false:=by
   cases h:(decide (kind>=1)&&decide (kind<=15)) with
   | false=>rfl
   | true=>simp only [eu,oo] at h;omega
  have r2:(decide (kind>=20)&&decide (kind<=34))=false:=by
   cases h:(decide (kind>=20)&&decide (kind<=34)) with
   | false=>rfl
   | true=>simp only [eu,oo] at h;omega
  have r3:(decide (kind>=40)&&decide (kind<=45))=false:=by
   cases h:(decide (kind>=40)&&decide (kind<=45)) with
   | false=>rfl
   | true=>simp only [eu,oo] at h;omega
  refine ⟨false,?_,?_,fun h=>by cases h⟩
  .simp only [yu,Fg,Pj,LD,BX,Jm,Ph,Pf,Ad,r1,r2,r3,av,aJ,e 1 h1,e 2 h2,e 3 h3,e 4 h4,e 5 h5,e 6 h6,e 7 h7,e 8 h8,e 9 h9,e 10 h10,e 11 h11,e 12 h12,e 13 zM,e 14 qF,e 15 FQ,e 16 h16,e 20 h20,e 21 h21,e 22 h22,e 23 h23,e 24 ze,e 25 h25,e 26 h26,e 27 h27,e 28 FT,e 29 h29,e 30 yF,e 31 h31,e 32 h32,e 33 kL,e 34 FU,e 40 En,e 41 JM,e 42 h42,e 43 h43,e 44 oh,e 45 h45]
  .simp only [Ux,Fw,LZ,Gn,r1b,r2,r3,e 16 h16,av,aJ]
 rcases hall with rfl|rfl|rfl|rfl|rfl|rfl|rfl|rfl|rfl|rfl|rfl|rfl|rfl|rfl|rfl|rfl|rfl|rfl|rfl|rfl|rfl|rfl|rfl|rfl|rfl|rfl|rfl|rfl|rfl|rfl|rfl|rfl|rfl|rfl|rfl|rfl|rfl;all_goals simp only [yu,Fg,Pj,LD,BX,Jm,Ph,Pf,DL,Pk,TV,DR,Ux,PO,Fw,LZ,ade,Uw,XU,XT,adf,zx,XW,XV,adg,Ma,Ya,XY,XZ,ada,adb,BZ,Ad,Gn,av,aS,aJ,Int.reduceBEq,Int.reduceGE,Int.reduceLE,Di,afz,Dh,Df,RY,afu,yZ,n1,n2,o1,o2,b1,b2,t2a,t2b,t3a,t3b,t4a,t4b,t5a,t5b,ob1,ob2,ob3,hr,hl0,x2,x3,x4]
 .skip
  generalize (op==0)=c1;generalize (text==[])=c2;generalize (other==[])=c3;generalize g2:(decide<|(kids.length:Int)<=0)=c7;cases c1<;>cases c2<;>cases c3<;>cases c7<;>cases bn<;>exact ⟨_,rfl,rfl,fun _=>⟨FK.other aA,by simp [gX]⟩⟩
 .skip
  generalize (op==0)=c1;generalize (text==[])=c2;generalize (other==[])=c3;generalize g2:(decide<|(kids.length:Int)<=0)=c7;cases c1<;>cases c2<;>cases c3<;>cases c7<;>cases t3<;>exact ⟨_,rfl,rfl,fun _=>⟨FK.other aA,by simp [gX]⟩⟩
 .skip
  generalize (op==0)=c1;generalize (text==[])=c2;generalize (other==[])=c3;generalize g2:(decide<|(kids.length:Int)<=0)=c7;cases c1<;>cases c2<;>cases c3<;>cases c7<;>cases t4<;>exact ⟨_,rfl,rfl,fun _=>⟨FK.other aA,by simp [gX]⟩⟩
 .skip
  generalize (op==0)=c1;generalize (text==[])=c2;generalize (other==[])=c3;generalize g2:(decide<|(kids.length:Int)<=0)=c7;cases c1<;>cases c2<;>cases c3<;>cases c7<;>cases t5<;>exact ⟨_,rfl,rfl,fun _=>⟨FK.other aA,by simp [gX]⟩⟩
 .skip
  generalize (op==0)=c1;generalize (text==[])=c2;generalize (other==[])=c3;generalize g1:(decide<|(kids.length:Int)>=1)=c6;generalize g2:(decide<|(kids.length:Int)<=6)=c7;cases c1<;>cases c2<;>cases c3<;>cases c6<;>cases c7<;>cases bn<;>exact ⟨_,rfl,rfl,fun _=>⟨FK.other aA,by simp [gX]⟩⟩
 .skip
  generalize (op==0)=c1;generalize (text==[])=c2;generalize (other==[])=c3;generalize g1:(decide<|(kids.length:Int)>=1)=c6;generalize g2:(decide<|(kids.length:Int)<=1)=c7;cases c1<;>cases c2<;>cases c3<;>cases c6<;>cases c7<;>exact ⟨_,rfl,rfl,fun _=>⟨FK.other aA,by simp [gX]⟩⟩
 .skip
  generalize (op==0)=c1;generalize (text==[])=c2;generalize (other==[])=c3;generalize g2:(decide<|(kids.length:Int)<=6)=c7;cases c1<;>cases c2<;>cases c3<;>cases c7<;>cases bn<;>exact ⟨_,rfl,rfl,fun _=>⟨FK.other aA,by simp [gX]⟩⟩
 .skip
  generalize (op==0)=c1;generalize (text==[])=c2;generalize (other==[])=c3;generalize g2:(decide<|(kids.length:Int)<=6)=c7;cases c1<;>cases c2<;>cases c3<;>cases c7<;>cases bb<;>exact ⟨_,rfl,rfl,fun _=>⟨FK.other aA,by simp [gX]⟩⟩
 .skip
  generalize (op==51)=c1;generalize (op==52)=c2;generalize (text==[])=c3;generalize (other==[])=c4;generalize g1:(decide<|(kids.length:Int)>=1)=c6;generalize g2:(decide<|(kids.length:Int)<=1)=c7;cases c1<;>cases c2<;>cases c3<;>cases c4<;>cases c6<;>cases c7<;>first|exact ⟨_,rfl,rfl,fun _=>⟨FK.other aA,by simp [gX]⟩⟩|exact ⟨_,rfl,(show some (decide ((kids.length:Int)>=1)&&decide ((kids.length:Int)<=1))=some _ by rw [g1,g2]),fun _=>⟨FK.other aA,by simp [gX]⟩⟩
 .skip
  generalize (op==51)=c1;generalize (op==52)=c2;generalize (text==[])=c3;generalize (other==[])=c4;generalize g1:(decide<|(kids.length:Int)>=1)=c6;generalize g2:(decide<|(kids.length:Int)<=1)=c7;cases c1<;>cases c2<;>cases c3<;>cases c4<;>cases c6<;>cases c7<;>first|exact ⟨_,rfl,rfl,fun _=>⟨FK.other aA,by simp [gX]⟩⟩|exact ⟨_,rfl,(show some (decide ((kids.length:Int)>=1)&&decide ((kids.length:Int)<=1))=some _ by rw [g1,g2]),fun _=>⟨FK.other aA,by simp [gX]⟩⟩
 .skip
  generalize (op==55)=c1;generalize (op==56)=c2;generalize (op==61)=c3;generalize gT:(text==[])=c4;generalize gO:(other==[])=c5;generalize g1:(decide<|(kids.length:Int)>=1)=c6;generalize g2:(decide<|(kids.length:Int)<=1)=c7;have K:c4=true->c5=true->(c6&&c7)=true->FK ⟨11,op,text,other,kids⟩:=fun hT hO h=>by
   have:=FR (m:=1) (k:=1) g1 g2 h;have eT:text=[]:=by simpa [hT] using gT
   have eO:other=[]:=by simpa [hO] using gO
   exact ⟨aA,aA,aA,aA,aA,aA,aA,fun _=>⟨uF,eT,eO⟩⟩
  cases c1<;>cases c2<;>cases c3<;>cases c4<;>cases c5<;>cases c6<;>cases c7<;>first|exact ⟨_,rfl,rfl,fun h=>by first|(cases h;done)|exact ⟨K rfl rfl rfl,by simp [gX]⟩⟩|exact ⟨_,rfl,(show some (decide ((kids.length:Int)>=1)&&decide ((kids.length:Int)<=1))=some _ by rw [g1,g2]),fun h=>by first|(cases h;done)|exact ⟨K rfl rfl rfl,by simp [gX]⟩⟩
 .skip
  generalize (op==0)=c1;generalize gT:(text==[])=c2;generalize gO:(other==[])=c3;generalize g1:(decide<|(kids.length:Int)>=2)=c6;generalize g2:(decide<|(kids.length:Int)<=2)=c7;have K:c2=true->c3=true->(c6&&c7)=true->FK ⟨12,op,text,other,kids⟩:=fun hT hO h=>by
   have:=FR (m:=2) (k:=2) g1 g2 h;have eT:text=[]:=by simpa [hT] using gT
   have eO:other=[]:=by simpa [hO] using gO
   exact ⟨aA,aA,aA,aA,aA,aA,fun _=>⟨uF,eT,eO⟩,aA⟩
  cases c1<;>cases c2<;>cases c3<;>cases c6<;>cases c7<;>cases ob<;>exact ⟨_,rfl,rfl,fun h=>by first|(cases h;done)|exact ⟨K rfl rfl rfl,by simp [gX]⟩⟩
 .skip
  generalize (op==0)=c1;generalize (text==[])=c2;generalize (other==[])=c3;generalize g1:(decide<|(kids.length:Int)>=1)=c6;generalize g2:(decide<|(kids.length:Int)<=6)=c7;cases c1<;>cases c2<;>cases c3<;>cases c6<;>cases c7<;>cases bn<;>exact ⟨_,rfl,rfl,fun _=>⟨FK.other aA,by simp [gX]⟩⟩
 .skip
  generalize (op==0)=c1;generalize (text==[])=c2;generalize (other==[])=c3;generalize g1:(decide<|(kids.length:Int)>=3)=c6;generalize g2:(decide<|(kids.length:Int)<=3)=c7;cases c1<;>cases c2<;>cases c3<;>cases c6<;>cases c7<;>exact ⟨_,rfl,rfl,fun _=>⟨FK.other aA,by simp [gX]⟩⟩
 .skip
  generalize (op==54)=c1;generalize (decide<|op>=38)=c2;generalize (decide<|op<=43)=c3;generalize (text==[])=c4;generalize (other==[])=c5;generalize g1:(decide<|(kids.length:Int)>=2)=c6;generalize g2:(decide<|(kids.length:Int)<=2)=c7;cases c1<;>cases c2<;>cases c3<;>cases c4<;>cases c5<;>cases c6<;>cases c7<;>first|exact ⟨_,rfl,rfl,fun _=>⟨FK.other aA,by simp [gX]⟩⟩|exact ⟨_,rfl,(show some (decide ((kids.length:Int)>=2)&&decide ((kids.length:Int)<=2))=some _ by rw [g1,g2]),fun _=>⟨FK.other aA,by simp [gX]⟩⟩
 .skip
  generalize (op==0)=c1;generalize (text==[])=c2;generalize (other==[])=c3;generalize g2:(decide<|(kids.length:Int)<=0)=c7;cases c1<;>cases c2<;>cases c3<;>cases c7<;>exact ⟨_,rfl,rfl,fun _=>⟨FK.other aA,by simp [gX]⟩⟩
 .skip
  generalize (op==0)=c1;generalize (text==[])=c2;generalize (other==[])=c3;generalize g1:(decide<|(kids.length:Int)>=1)=c6;generalize g2:(decide<|(kids.length:Int)<=1)=c7;cases c1<;>cases c2<;>cases c3<;>cases c6<;>cases c7<;>exact ⟨_,rfl,rfl,fun _=>⟨FK.other aA,by simp [gX]⟩⟩
 .by_cases q0:op=0
  .subst q0;have w:IntKind.wrap .i64 ((0:Int)+1)=1:=rfl;simp only [Int.reduceBEq,Int.reduceGE,Int.reduceLE,Di,w,av,aS,yZ,hl0];generalize (text==[])=c1;generalize (other==[])=c2;generalize (other==[62])=c3;generalize (other==[62,62])=c4;generalize (other==[124])=c5;generalize (decide<|(kids.length:Int)>=1)=c6;generalize (decide<|(kids.length:Int)<=7)=c7;generalize (decide<|(kids.length:Int)<=6)=c8;cases c1<;>cases c2<;>cases c3<;>cases c4<;>cases c5<;>first
    | exact ⟨_,rfl,rfl,fun _=>⟨FK.other aA,by simp [gX]⟩⟩
    | (cases c6<;>cases c7<;>cases c8<;>exact ⟨_,rfl,rfl,fun _=>⟨FK.other aA,by simp [gX]⟩⟩)
  by_cases q1:op=1
  .subst q1;have w:IntKind.wrap .i64 ((1:Int)+1)=2:=rfl;simp only [Int.reduceBEq,Int.reduceGE,Int.reduceLE,Di,w,av,aS,aJ,yZ,hl0];generalize (text==[])=c1;generalize (other==[])=c2;generalize (other==[62])=c3;generalize (other==[62,62])=c4;generalize (other==[124])=c5;generalize (decide<|(kids.length:Int)>=1)=c6;generalize (decide<|(kids.length:Int)>=2)=c9;generalize (decide<|(kids.length:Int)<=7)=c7;generalize (decide<|(kids.length:Int)<=6)=c8;cases c1<;>cases c2<;>cases c3<;>cases c4<;>cases c5<;>first
    | exact ⟨_,rfl,rfl,fun _=>⟨FK.other aA,by simp [gX]⟩⟩
    | (cases c6<;>cases c7<;>cases c8<;>cases c9<;>exact ⟨_,rfl,rfl,fun _=>⟨FK.other aA,by simp [gX]⟩⟩)
  have e0:(op==0)=false:=by simpa using q0
  have e1:(op==1)=false:=by simpa using q1
  have e2:(decide (op>=0)&&decide (op<=1))=false:=by
   cases h:(decide (op>=0)&&decide (op<=1)) with
   | false=>rfl
   | true=>simp only [eu,oo] at h;omega
  simp only [e0,e1,e2,aJ,av];refine ⟨false,?_,?_,fun h=>by cases h⟩
  .cases (other==[])<;>rfl
  .cases (other==[])<;>rfl
 .skip
  generalize (op==0)=c1;generalize (text==[])=c2;generalize (other==[])=c3;generalize g2:(decide<|(kids.length:Int)<=0)=c7;cases c1<;>cases c2<;>cases c3<;>cases c7<;>exact ⟨_,rfl,rfl,fun _=>⟨FK.other aA,by simp [gX]⟩⟩
 .skip
  generalize (op==0)=c1;generalize (text==[])=c2;generalize (other==[])=c3;generalize g2:(decide<|(kids.length:Int)<=1)=c7;cases c1<;>cases c2<;>cases c3<;>cases c7<;>exact ⟨_,rfl,rfl,fun _=>⟨FK.other aA,by simp [gX]⟩⟩
 .skip
  generalize (op==0)=c1;generalize (text==[])=c2;generalize (other==[])=c3;generalize g2:(decide<|(kids.length:Int)<=1)=c7;cases c1<;>cases c2<;>cases c3<;>cases c7<;>exact ⟨_,rfl,rfl,fun _=>⟨FK.other aA,by simp [gX]⟩⟩
 .skip
  generalize (op==0)=c1;generalize (text==[])=c2;generalize (other==[])=c3;generalize g2:(decide<|(kids.length:Int)<=0)=c7;cases c1<;>cases c2<;>cases c3<;>cases c7<;>exact ⟨_,rfl,rfl,fun _=>⟨FK.other aA,by simp [gX]⟩⟩
 .skip
  generalize (op==0)=c1;generalize (text==[])=c2;generalize (other==[])=c3;generalize g2:(decide<|(kids.length:Int)<=0)=c7;cases c1<;>cases c2<;>cases c3<;>cases c7<;>exact ⟨_,rfl,rfl,fun _=>⟨FK.other aA,by simp [gX]⟩⟩
 .skip
  generalize (op==0)=c1;generalize (text==[])=c2;generalize (other==[])=c3;generalize g2:(decide<|(kids.length:Int)<=6)=c7;cases c1<;>cases c2<;>cases c3<;>cases c7<;>cases bn<;>exact ⟨_,rfl,rfl,fun _=>⟨FK.other aA,by simp [gX]⟩⟩
 .skip
  generalize (op==0)=c1;generalize (text==[])=c2;generalize (other==[])=c3;generalize g1:(decide<|(kids.length:Int)>=2)=c6;generalize g2:(decide<|(kids.length:Int)<=3)=c7;have K:(c6&&c7)=true->FK ⟨28,op,text,other,kids⟩:=fun h=>by
   have:=FR (m:=2) (k:=3) g1 g2 h;exact ⟨fun _=>uF,aA,aA,aA,aA,aA,aA,aA⟩
  cases c1<;>cases c2<;>cases c3<;>cases c6<;>cases c7<;>exact ⟨_,rfl,rfl,fun h=>by first|(cases h;done)|exact ⟨K rfl,by simp [gX]⟩⟩
 .skip
  generalize (op==0)=c1;generalize (text==[])=c2;generalize (other==[])=c3;generalize g1:(decide<|(kids.length:Int)>=2)=c6;generalize g2:(decide<|(kids.length:Int)<=2)=c7;have K:(c6&&c7)=true->FK ⟨29,op,text,other,kids⟩:=fun h=>by
   have:=FR (m:=2) (k:=2) g1 g2 h;exact ⟨aA,fun _=>uF,aA,aA,aA,aA,aA,aA⟩
  cases c1<;>cases c2<;>cases c3<;>cases c6<;>cases c7<;>exact ⟨_,rfl,rfl,fun h=>by first|(cases h;done)|exact ⟨K rfl,by simp [gX]⟩⟩
 .skip
  generalize (op==0)=c1;generalize (text==[])=c2;generalize (other==[])=c3;generalize g1:(decide<|(kids.length:Int)>=2)=c6;generalize g2:(decide<|(kids.length:Int)<=2)=c7;have K:(c6&&c7)=true->FK ⟨30,op,text,other,kids⟩:=fun h=>by
   have:=FR (m:=2) (k:=2) g1 g2 h;exact ⟨aA,aA,fun _=>uF,aA,aA,aA,aA,aA⟩
  cases c1<;>cases c2<;>cases c3<;>cases c6<;>cases c7<;>exact ⟨_,rfl,rfl,fun h=>by first|(cases h;done)|exact ⟨K rfl,by simp [gX]⟩⟩
 .skip
  generalize (op==0)=c1;generalize (text==[])=c2;generalize (other==[])=c3;generalize g1:(decide<|(kids.length:Int)>=4)=c6;generalize g2:(decide<|(kids.length:Int)<=4)=c7;have K:(c6&&c7)=true->FK ⟨31,op,text,other,kids⟩:=fun h=>by
   have:=FR (m:=4) (k:=4) g1 g2 h;exact ⟨aA,aA,aA,fun _=>uF,aA,aA,aA,aA⟩
  cases c1<;>cases c2<;>cases c3<;>cases c6<;>cases c7<;>exact ⟨_,rfl,rfl,fun h=>by first|(cases h;done)|exact ⟨K rfl,by simp [gX]⟩⟩
 .skip
  generalize (op==0)=c1;generalize (text==[])=c2;generalize (other==[])=c3;generalize g1:(decide<|(kids.length:Int)>=1)=c6;generalize g2:(decide<|(kids.length:Int)<=1)=c7;cases c1<;>cases c2<;>cases c3<;>cases c6<;>cases c7<;>cases bn<;>cases bo<;>exact ⟨_,rfl,rfl,fun _=>⟨FK.other aA,by simp [gX]⟩⟩
 .simp only [hlm,abe,Di,yZ];generalize (op==0)=c1;generalize (text==[])=c2;generalize (other==[])=c3;cases c1<;>cases c2<;>cases c3<;>exact ⟨_,rfl,rfl,fun _=>⟨FK.other aA,by simp [gX]⟩⟩
 .skip
  generalize (op==0)=c1;generalize (text==[])=c2;generalize (other==[])=c3;generalize g2:(decide<|(kids.length:Int)<=0)=c7;cases c1<;>cases c2<;>cases c3<;>cases c7<;>cases t2<;>exact ⟨_,rfl,rfl,fun _=>⟨FK.other aA,by simp [gX]⟩⟩
 .skip
  generalize (op==0)=c1;generalize (text==[])=c2;generalize (other==[])=c3;generalize g1:(decide<|(kids.length:Int)>=1)=c6;generalize g2:(decide<|(kids.length:Int)<=1)=c7;cases c1<;>cases c2<;>cases c3<;>cases c6<;>cases c7<;>exact ⟨_,rfl,rfl,fun _=>⟨FK.other aA,by simp [gX]⟩⟩
 .skip
  generalize (op==0)=c1;generalize (text==[])=c2;generalize (other==[])=c3;generalize g1:(decide<|(kids.length:Int)>=1)=c6;generalize g2:(decide<|(kids.length:Int)<=1)=c7;cases c1<;>cases c2<;>cases c3<;>cases c6<;>cases c7<;>exact ⟨_,rfl,rfl,fun _=>⟨FK.other aA,by simp [gX]⟩⟩
 .by_cases q1:op=1
  .subst q1;have w:IntKind.wrap .i64 ((1:Int)+IntKind.wrap .i64 (Int.tdiv (1:Int) 3))=1:=rfl;simp only [Int.reduceBEq,Int.reduceGE,Int.reduceLE,Di,w,av,aS,aJ,yZ];generalize (text==[])=c1;generalize (other==[])=c2;generalize g1:(decide<|(kids.length:Int)>=1)=c6;generalize g2:(decide<|(kids.length:Int)<=1)=c7;have K:(c6&&c7)=true->FK ⟨42,1,text,other,kids⟩:=fun h=>by
    have:=FR (m:=1) (k:=1) g1 g2 h;refine ⟨aA,aA,aA,aA,fun _=>.inl ⟨rfl,uF⟩,aA,aA,aA⟩
   cases c1<;>cases c2<;>cases c6<;>cases c7<;>exact ⟨_,rfl,rfl,fun h=>by first|(cases h;done)|exact ⟨K rfl,by simp [gX]⟩⟩
  by_cases q2:op=2
  .subst q2;have w:IntKind.wrap .i64 ((1:Int)+IntKind.wrap .i64 (Int.tdiv (2:Int) 3))=1:=rfl;simp only [Int.reduceBEq,Int.reduceGE,Int.reduceLE,Di,w,av,aS,aJ,yZ];generalize (text==[])=c1;generalize (other==[])=c2;generalize g1:(decide<|(kids.length:Int)>=1)=c6;generalize g2:(decide<|(kids.length:Int)<=1)=c7;have K:(c6&&c7)=true->FK ⟨42,2,text,other,kids⟩:=fun h=>by
    have:=FR (m:=1) (k:=1) g1 g2 h;refine ⟨aA,aA,aA,aA,fun _=>.inr<|.inl ⟨rfl,uF⟩,aA,aA,aA⟩
   cases c1<;>cases c2<;>cases c6<;>cases c7<;>exact ⟨_,rfl,rfl,fun h=>by first|(cases h;done)|exact ⟨K rfl,by simp [gX]⟩⟩
  by_cases q3:op=3
  .subst q3;have w:IntKind.wrap .i64 ((1:Int)+IntKind.wrap .i64 (Int.tdiv (3:Int) 3))=2:=rfl;simp only [Int.reduceBEq,Int.reduceGE,Int.reduceLE,Di,w,av,aS,aJ,yZ];generalize (text==[])=c1;generalize (other==[])=c2;generalize g1:(decide<|(kids.length:Int)>=2)=c6;generalize g2:(decide<|(kids.length:Int)<=2)=c7;have K:(c6&&c7)=true->FK ⟨42,3,text,other,kids⟩:=fun h=>by
    have:=FR (m:=2) (k:=2) g1 g2 h;refine ⟨aA,aA,aA,aA,fun _=>.inr<|.inr ⟨rfl,uF⟩,aA,aA,aA⟩
   cases c1<;>cases c2<;>cases c6<;>cases c7<;>exact ⟨_,rfl,rfl,fun h=>by first|(cases h;done)|exact ⟨K rfl,by simp [gX]⟩⟩
  have e2:(decide (op>=1)&&decide (op<=3))=false:=by
   cases h:(decide (op>=1)&&decide (op<=3)) with
   | false=>rfl
   | true=>simp only [eu,oo] at h;omega
  have e3:(op==3)=false:=by simpa using q3
  simp only [e2,e3,aJ,av];exact ⟨false,rfl,rfl,fun h=>by cases h⟩
 .by_cases q1:op=1
  .subst q1;have w:IntKind.wrap .i64 ((2:Int)+IntKind.wrap .i64 (Int.tdiv (1:Int) 3))=2:=rfl;simp only [Int.reduceBEq,Int.reduceGE,Int.reduceLE,Di,w,av,aS,aJ,yZ];generalize (text==[])=c1;generalize (other==[])=c2;generalize g1:(decide<|(kids.length:Int)>=2)=c6;generalize g2:(decide<|(kids.length:Int)<=2)=c7;have K:(c6&&c7)=true->FK ⟨43,1,text,other,kids⟩:=fun h=>by
    have:=FR (m:=2) (k:=2) g1 g2 h;refine ⟨aA,aA,aA,aA,aA,fun _=>.inl ⟨rfl,uF⟩,aA,aA⟩
   cases c1<;>cases c2<;>cases c6<;>cases c7<;>exact ⟨_,rfl,rfl,fun h=>by first|(cases h;done)|exact ⟨K rfl,by simp [gX]⟩⟩
  by_cases q3:op=3
  .subst q3;have w:IntKind.wrap .i64 ((2:Int)+IntKind.wrap .i64 (Int.tdiv (3:Int) 3))=3:=rfl;simp only [Int.reduceBEq,Int.reduceGE,Int.reduceLE,Di,w,av,aS,aJ,yZ];generalize (text==[])=c1;generalize (other==[])=c2;generalize g1:(decide<|(kids.length:Int)>=3)=c6;generalize g2:(decide<|(kids.length:Int)<=3)=c7;have K:(c6&&c7)=true->FK ⟨43,3,text,other,kids⟩:=fun h=>by
    have:=FR (m:=3) (k:=3) g1 g2 h;refine ⟨aA,aA,aA,aA,aA,fun _=>.inr ⟨rfl,uF⟩,aA,aA⟩
   cases c1<;>cases c2<;>cases c6<;>cases c7<;>exact ⟨_,rfl,rfl,fun h=>by first|(cases h;done)|exact ⟨K rfl,by simp [gX]⟩⟩
  have e1:(op==1)=false:=by simpa using q1
  have e3:(op==3)=false:=by simpa using q3
  simp only [e1,e3,aJ,av];exact ⟨false,rfl,rfl,fun h=>by cases h⟩
 .skip
  generalize (op==0)=c1;generalize (text==[])=c2;generalize (other==[])=c3;generalize g1:(decide<|(kids.length:Int)>=1)=c6;generalize g2:(decide<|(kids.length:Int)<=7)=c7;cases c1<;>cases c2<;>cases c3<;>cases c6<;>cases c7<;>cases bn<;>exact ⟨_,rfl,rfl,fun _=>⟨FK.other aA,by simp [gX]⟩⟩
 .simp only [hlm,abe,Di,yZ];generalize (op==0)=c1;generalize (text==[])=c2;generalize (other==[])=c3;cases c1<;>cases c2<;>cases c3<;>exact ⟨_,rfl,rfl,fun _=>⟨FK.other aA,by simp [gX]⟩⟩
def eF (k:Int):Bool:=decide (k>=1)&&decide (k<=15)
def isS (k:Int):Bool:=decide (k>=20)&&decide (k<=34)
def jE (k:Int):Bool:=k==1||(k==5||k==6)
def Cw (k:Int):qb k=some (eF k):=by unfold qb;rw [Ad];rfl
def JL (k:Int):Fw k=some (eF k):=by unfold Fw;rw [Gn];rfl
def aBU (k:Int):Px k=some (isS k):=by unfold Px;rw [Ad];rfl
def aBV (k:Int):LZ k=some (isS k):=by unfold LZ;rw [Gn];rfl
def QC (k:Int):GY k=some (jE k):=by
 unfold GY jE;cases (k==1)<;>cases (k==5)<;>rfl
def ajk (k:Int):Uy k=some (jE k):=by
 unfold Uy jE;cases (k==1)<;>cases (k==5)<;>rfl
def Vw {k:Int} (h:jE k=true):eF k=true:=by
 unfold jE at h;simp only [mI,qw] at h;rcases h with rfl|rfl|rfl<;>rfl
def aBW (n:aD) (k:Nat) (kd:Int) (hf:FK n) (hk:k < n.Kids.length) (hl:n.Kids.length<=400):∃ b:Bool,oH n (k:Int) kd=some b/\uh n (k:Int) kd=some b:=by
 have hw:IntKind.wrap .i64 ((n.Kids.length:Int) - 1)=(n.Kids.length:Int) - 1:=wrap64 ah ah;obtain ⟨f28,f29,f30,f31,f42,f43,_,_⟩:=hf;obtain ⟨kind,op,text,other,kids⟩:=n;simp only at hk hl hw f28 f29 f30 f31 f42 f43;have hEL:=@Vw kd;rcases kH (kind=9) with rfl|h9
 .refine ⟨jE kd,?_,?_⟩<;>simp only [oH,rH,uh,ug,Int.reduceBEq,aS,QC,ajk,av]
 rcases kH (kind=10) with rfl|h10
 .refine ⟨jE kd,?_,?_⟩<;>simp only [oH,rH,uh,ug,Int.reduceBEq,aS,aJ,QC,ajk,av]
 rcases kH (kind=15) with rfl|FQ
 .simp only [oH,rH,uh,ug,Int.reduceBEq,aS,aJ,QC,ajk,Cw,JL,av];generalize eF kd=e at*;generalize jE kd=l at*;by_cases h0:k=0
  .subst h0;have d1:decide (((0:Nat):Int) > 0)=false:=aA;have d2:(((0:Nat):Int)==0)=true:=aA;rw [d1,d2];cases e<;>cases l<;>first|exact ⟨_,rfl,rfl⟩|exact absurd (hEL rfl) aA
  .have d1:decide ((k:Int) > 0)=true:=aU;have d2:((k:Int)==0)=false:=aU;rw [d1,d2];cases e<;>exact ⟨_,rfl,rfl⟩
 rcases kH (kind=28) with rfl|FT
 .simp only [oH,rH,uh,qL,ug,xD,Int.reduceBEq,aS,aJ,Cw,JL,av];by_cases h0:k=0
  .subst h0;have d1:decide (((0:Nat):Int) > 0)=false:=aA;have d2:(((0:Nat):Int)==0)=true:=aA;rw [d1,d2];cases eF kd<;>exact ⟨_,rfl,rfl⟩
  .have d1:decide ((k:Int) > 0)=true:=aU;have d2:((k:Int)==0)=false:=aU;rw [d1,d2];exact ⟨_,rfl,rfl⟩
 rcases kH (kind=29) with rfl|h29
 .have hlen:=f29 rfl;simp only [oH,rH,uh,qL,ug,xD,Int.reduceBEq,aS,aJ,Cw,JL,av];rcases (show k=0\/k=1 by omega) with rfl|rfl
  .cases eF kd<;>exact ⟨_,rfl,rfl⟩
  .exact ⟨_,rfl,rfl⟩
 rcases kH (kind=30) with rfl|yF
 .have hlen:=f30 rfl;simp only [oH,rH,uh,qL,ug,xD,Int.reduceBEq,aS,aJ,Cw,JL,av];rcases (show k=0\/k=1 by omega) with rfl|rfl
  .cases (kd==33)<;>exact ⟨_,rfl,rfl⟩
  .exact ⟨_,rfl,rfl⟩
 rcases kH (kind=31) with rfl|h31
 .have hlen:=f31 rfl;simp only [oH,rH,uh,qL,ug,xD,Int.reduceBEq,aS,aJ,Cw,JL,av,hw,hlen];rcases (show k=0\/k=1\/k=2\/k=3 by omega) with rfl|rfl|rfl|rfl
  .cases eF kd<;>cases (kd==16)<;>exact ⟨_,rfl,rfl⟩
  .cases eF kd<;>cases (kd==16)<;>exact ⟨_,rfl,rfl⟩
  .cases eF kd<;>cases (kd==16)<;>exact ⟨_,rfl,rfl⟩
  .exact ⟨_,rfl,rfl⟩
 rcases kH (kind=32) with rfl|h32
 .simp only [oH,rH,yw,uh,qL,ug,xD,AL,Int.reduceBEq,aS,aJ];exact ⟨_,rfl,rfl⟩
 rcases kH (kind=40) with rfl|En
 .simp only [oH,rH,yw,uh,qL,ug,xD,AL,Int.reduceBEq,aS,aJ];exact ⟨_,rfl,rfl⟩
 rcases kH (kind=41) with rfl|JM
 .simp only [oH,rH,yw,uh,qL,ug,xD,AL,Int.reduceBEq,aS,aJ];exact ⟨_,rfl,rfl⟩
 rcases kH (kind=33) with rfl|kL
 .simp only [oH,rH,yw,uh,qL,ug,xD,AL,Int.reduceBEq,aS,aJ,aBU,aBV,av];exact ⟨_,rfl,rfl⟩
 rcases kH (kind=42) with rfl|h42
 .simp only [oH,rH,yw,uh,qL,ug,xD,AL,Int.reduceBEq,aS,aJ,Cw,JL,av,hw];rcases f42 rfl with ⟨rfl,hlen⟩|⟨rfl,hlen⟩|⟨rfl,hlen⟩<;>rw [hlen]
  .obtain rfl:k=0:=ah;cases eF kd<;>exact ⟨_,rfl,rfl⟩
  .obtain rfl:k=0:=ah;cases (kd==33)<;>exact ⟨_,rfl,rfl⟩
  .rcases (show k=0\/k=1 by omega) with rfl|rfl
   .cases eF kd<;>exact ⟨_,rfl,rfl⟩
   .cases (kd==33)<;>exact ⟨_,rfl,rfl⟩
 rcases kH (kind=43) with rfl|h43
 .simp only [oH,rH,yw,uh,qL,ug,xD,AL,Int.reduceBEq,aS,aJ,Cw,JL,av,hw];rcases f43 rfl with ⟨rfl,hlen⟩|⟨rfl,hlen⟩<;>rw [hlen]
  .rcases (show k=0\/k=1 by omega) with rfl|rfl
   .cases eF kd<;>exact ⟨_,rfl,rfl⟩
   .cases eF kd<;>exact ⟨_,rfl,rfl⟩
  .rcases (show k=0\/k=1\/k=2 by omega) with rfl|rfl|rfl
   .cases eF kd<;>exact ⟨_,rfl,rfl⟩
   .cases eF kd<;>exact ⟨_,rfl,rfl⟩
   .cases (kd==33)<;>exact ⟨_,rfl,rfl⟩
 rcases kH (kind=44) with rfl|oh
 .simp only [oH,rH,yw,uh,qL,ug,xD,AL,Int.reduceBEq,aS,aJ,av,hw];cases ((k:Int)==(kids.length:Int) - 1)<;>cases (kd==33)<;>exact ⟨_,rfl,rfl⟩
 rcases kH (kind=45) with rfl|h45
 .simp only [oH,rH,yw,uh,qL,ug,xD,AL,adh,Ad,Gn,Int.reduceBEq,aS,aJ,av];cases (decide (kd>=40)&&decide (kd<=44))<;>exact ⟨_,rfl,rfl⟩
 have e:∀ k,kind≠k->(kind==k)=false:=fun k h=>by simpa using h
 refine ⟨eF kd,?_,?_⟩
 .simp only [oH,rH,yw,e 9 h9,e 10 h10,e 15 FQ,e 28 FT,e 29 h29,e 30 yF,e 31 h31,e 32 h32,e 40 En,e 41 JM,e 33 kL,e 42 h42,e 43 h43,e 44 oh,e 45 h45,aJ,Cw,av]
 .simp only [uh,qL,ug,xD,AL,e 9 h9,e 10 h10,e 15 FQ,e 28 FT,e 29 h29,e 30 yF,e 31 h31,e 32 h32,e 40 En,e 41 JM,e 33 kL,e 42 h42,e 43 h43,e 44 oh,e 45 h45,aJ,JL,av]
mutual
def aQ:aC->Nat
 | ⟨_,_,_,_,ks⟩=>aK ks+1
def aK:List aC->Nat
 | []=>0
 | t::ts=>aQ t+aK ts
end
mutual
def bf (b:Nat):aC->List aD
 | ⟨k,o,t,p,ks⟩=>jT b ks++[⟨k,o,t,p,lV b ks⟩]
def jT (b:Nat):List aC->List aD
 | []=>[]
 | t::ts=>bf b t++jT (b+aQ t) ts
def lV (b:Nat):List aC->List Int
 | []=>[]
 | t::ts=>(((b+aQ t:Nat):Int) - 1)::lV (b+aQ t) ts
end
mutual
def yC {P:aC->Prop} (h:∀ t:aC,(∀ k,k∈t.kids->P k)->P t):∀ t,P t
 | ⟨k,o,x,y,ks⟩=>h ⟨k,o,x,y,ks⟩ (aqC h ks)
def aqC {P:aC->Prop} (h:∀ t:aC,(∀ k,k∈t.kids->P k)->P t):∀ (ks:List aC) k,k∈ks->P k
 | [],k,hk=>by cases hk
 | t::ts,k,hk=>(iL.1 hk).elim (fun e=>e ▸ yC h t) (aqC h ts k)
end
mutual
def rV:∀ (t:aC) (b:Nat),(bf b t).length=aQ t
 | ⟨k,o,x,y,ks⟩,b=>by rw [bf,aQ,fP,QG ks b];rfl
def QG:∀ (ts:List aC) (b:Nat),(jT b ts).length=aK ts
 | [],b=>by rw [jT,aK];rfl
 | t::ts,b=>by rw [jT,aK,fP,rV t b,QG ts _]
end
def kN (t:aC):1<=aQ t:=by cases t;rw [aQ];omega
def wh (t:aC):aQ t=aK t.kids+1:=by cases t;rw [aQ]
def zI:∀ ts:List aC,ts.length<=aK ts
 | []=>by simp [aK]
 | t::ts=>by have:=kN t;have:=zI ts;rw [aK];simp only [kY];omega
def Cr:∀ {ts:List aC} {t:aC},t∈ts->aQ t<=aK ts
 | t'::ts,t,h=>by
  rw [aK];rcases iL.1 h with rfl|h
  .omega
  .have:=Cr h;omega
def FM:∀ (a b:List aC),aK (a++b)=aK a+aK b
 | [],b=>by simp [aK]
 | t::a,b=>by rw [Gy,aK,aK,FM a b];omega
def aqD:∀ (a b:List aC) (s:Nat),jT s (a++b)=jT s a++jT (s+aK a) b
 | [],b,s=>by simp [jT,aK]
 | t::a,b,s=>by rw [Gy,jT,jT,aK,aqD a b,jP,II]
def ajl:∀ (a b:List aC) (s:Nat),lV s (a++b)=lV s a++lV (s+aK a) b
 | [],b,s=>by simp [lV,aK]
 | t::a,b,s=>by rw [Gy,lV,lV,aK,ajl a b,II];rfl
def QH:∀ (ts:List aC) (b:Nat),(lV b ts).length=ts.length
 | [],b=>rfl
 | t::ts,b=>by rw [lV,kY,kY,QH ts _]
def Eo (d:Int) (x:aD):aD:=⟨x.Kind,x.Op,x.Text,x.Other,x.Kids.map (·+d)⟩
def aBY (x:aD):Eo 0 x=x:=by
 unfold Eo;cases x;simp
def aBZ (d e:Int) (x:aD):Eo d (Eo e x)=Eo (e+d) x:=by
 unfold Eo;simp only [KM,aD.mk.injEq,true_and];refine Bz fun k _=>?_;simp only [Function.comp_apply];omega
mutual
def Zk:∀ (t:aC) (b d:Nat),bf (b+d) t=(bf b t).map (Eo d)
 | ⟨k,o,x,y,ks⟩,b,d=>by
  rw [bf,bf,Aj,aqE ks b d,aqF ks b d];rfl
def aqE:∀ (ts:List aC) (b d:Nat),jT (b+d) ts=(jT b ts).map (Eo d)
 | [],b,d=>rfl
 | t::ts,b,d=>by
  rw [jT,jT,Aj,Zk t b d,aaO,aqE ts _ d]
def aqF:∀ (ts:List aC) (b d:Nat),lV (b+d) ts=(lV b ts).map (·+(d:Int))
 | [],b,d=>rfl
 | t::ts,b,d=>by
  rw [lV,lV,rY,aaO,aqF ts _ d];congr 1;omega
end
def aqG (t:aC) (b:Nat):(bf b t).map (Eo<|-(b:Int))=bf 0 t:=by
 have:=Zk t 0 b;rw [rZ] at this;rw [this,KM];refine (Bz fun x _=>?_).trans (NU _);simp only [Function.comp_apply,aBZ];rw [show (b:Int)+ -(b:Int)=0 by omega,aBY];rfl
def aqH:∀ (ts:List aC) (b:Nat) (k:Int),k∈lV b ts->0<=k/\k < b+aK ts
 | [],b,k,h=>by cases h
 | t::ts,b,k,h=>by
  rw [lV] at h;rw [aK];have:=kN t;rcases iL.1 h with rfl|h
  .omega
  .have:=aqH ts _ k h;omega
mutual
def Zu:∀ (t:aC) (b:Nat) (x:aD),x∈bf b t->∀ k,k∈x.Kids->0<=k/\k < b+aQ t
 | ⟨kd,o,x,y,ks⟩,b,n,h,k,hk=>by
  rw [bf] at h;rw [aQ];rcases lX.1 h with h|h
  .have:=aqI ks b n h k hk;omega
  .rw [uD.1 h] at hk;have:=aqH ks b k hk;omega
def aqI:∀ (ts:List aC) (b:Nat) (x:aD),x∈jT b ts->∀ k,k∈x.Kids->0<=k/\k < b+aK ts
 | [],b,n,h,k,hk=>by rw [jT] at h;cases h
 | t::ts,b,n,h,k,hk=>by
  rw [jT] at h;rw [aK];rcases lX.1 h with h|h
  .have:=Zu t b n h k hk;omega
  .have:=aqI ts _ n h k hk;omega
end
mutual
def TA (a:List aD):aC->Nat->Nat->Prop
 | ⟨kd,op,x,y,ts⟩,s,i=>∃ n,a[i]?=some n/\n.Kind=kd/\n.Op=op/\n.Text=x/\n.Other=y/\KA a ts n.Kids s i
def KA (a:List aD):List aC->List Int->Nat->Nat->Prop
 | [],ks,s,e=>ks=[]/\s=e
 | t::ts,ks,s,e=>∃ (k:Nat) (ks':List Int),ks=(k:Int)::ks'/\s<=k/\k < e/\TA a t s k/\KA a ts ks' (k+1) e
end
def part (a:List aD) (s e:Nat):List aD:=(a.drop s).take (e - s)
def aqJ {a:List aD} {s m e:Nat} (h1:s<=m) (h2:m<=e):part a s m++part a m e=part a s e:=by
 unfold part;rw [show e - s=(m - s)+(e - m) by omega,List.take_add,RX,show s+(m - s)=m by omega]
def aCa {a:List aD} {i:Nat} {n:aD} (h:a[i]?=some n):part a i (i+1)=[n]:=by
 obtain ⟨hi,rfl⟩:=cO.1 h;unfold part;rw [show i+1 - i=1 by omega,IC hi];rfl
def aCb (a:List aD) (i:Nat):part a i i=[]:=by
 unfold part;simp
def apD (a:List aD):part a 0 a.length=a:=by
 unfold part;simp
def TA.lt {a:List aD} {t:aC} {s i:Nat} (h:TA a t s i):i < a.length:=by
 cases t;rw [TA] at h;obtain ⟨n,hn,_⟩:=h;exact (cO.1 hn).1
mutual
def TA.part {a:List aD}:∀ {t:aC} {s i:Nat},TA a t s i->s<=i/\aQ t=i+1 - s/\part a s (i+1)=bf s t
 | ⟨kd,op,x,y,ts⟩,s,i,h=>by
  rw [TA] at h;obtain ⟨n,hn,rfl,rfl,rfl,rfl,hk⟩:=h;obtain ⟨h1,h2,h3,h4⟩:=KA.part hk;refine ⟨h1,by rw [aQ];omega,?_⟩;rw [bf,<- h3,<- h4,<- aqJ h1 (Nat.le_succ i),aCa hn]
def KA.part {a:List aD}:∀ {ts:List aC} {ks:List Int} {s e:Nat},KA a ts ks s e->s<=e/\aK ts=e - s/\Go.Proofs.Tryz.part a s e=jT s ts/\ks=lV s ts
 | [],ks,s,e,h=>by
  rw [KA] at h;obtain ⟨rfl,rfl⟩:=h;exact ⟨eU _,by rw [aK];omega,by rw [aCb,jT],by rw [lV]⟩
 | t::ts,ks,s,e,h=>by
  rw [KA] at h;obtain ⟨k,ks',rfl,h1,h2,ht,hk⟩:=h;obtain ⟨g1,g2,g3⟩:=TA.part ht;obtain ⟨k1,k2,k3,k4⟩:=KA.part hk;have e1:s+aQ t=k+1:=ah;refine ⟨ah,by rw [aK];omega,?_,?_⟩
  .rw [jT,e1,<- g3,<- k3,aqJ ah ah]
  .rw [lV,e1,<- k4];congr 1;omega
end
mutual
def aeb {a:List aD}:∀ {t t':aC} {s s' i:Nat},TA a t s i->TA a t' s' i->t=t'/\s=s'
 | ⟨kd,op,x,y,ts⟩,⟨kd',op',x',y',ts'⟩,s,s',i,h,h'=>by
  rw [TA] at h h';obtain ⟨n,hn,rfl,rfl,rfl,rfl,hk⟩:=h;obtain ⟨n',hn',rfl,rfl,rfl,rfl,hk'⟩:=h';rw [hn] at hn';cases hn';obtain ⟨rfl,rfl⟩:=aqK hk hk';exact ⟨rfl,rfl⟩
def aqK {a:List aD}:∀ {ts ts':List aC} {ks:List Int} {s s' e:Nat},KA a ts ks s e->KA a ts' ks s' e->ts=ts'/\s=s'
 | [],[],ks,s,s',e,h,h'=>by
  rw [KA] at h h';exact ⟨rfl,h.2.trans h'.2.symm⟩
 | [],t'::ts',ks,s,s',e,h,h'=>by
  simp only [KA] at h h';obtain ⟨k,ks',e1,_⟩:=h';rw [h.1] at e1;cases e1
 | t::ts,[],ks,s,s',e,h,h'=>by
  simp only [KA] at h h';obtain ⟨k,ks',e1,_⟩:=h;rw [h'.1] at e1;cases e1
 | t::ts,t'::ts',ks,s,s',e,h,h'=>by
  rw [KA] at h h';obtain ⟨k,ks',rfl,_,_,ht,hk⟩:=h;obtain ⟨k2,ks2,e1,_,_,ht',hk'⟩:=h';injection e1 with e1 e2;have:k=k2:=ah;subst this;subst e2;obtain ⟨rfl,rfl⟩:=aeb ht ht';obtain ⟨rfl,_⟩:=aqK hk hk';exact ⟨rfl,rfl⟩
end
def aqL {a:List aD} {r:List Int} {e:Nat} (ih:∀ k s:Nat,k < e->r[k]?=some (s:Int)->∃ t,TA a t s k):∀ (ks:List Int) (s:Nat),Go.Av.Kids r (s:Int) (e:Int) ks->∃ ts,KA a ts ks s e
  | [],s,h=>by
    simp only [Go.Av.Kids] at h;exact ⟨[],by rw [KA];exact ⟨rfl,ah⟩⟩
  | k::ks,s,h=>by
    obtain ⟨h0,h1,h2,h3,h4⟩:=h;obtain ⟨kn,rfl⟩:=qZ (show 0<=k by omega);rw [Dc] at h3;obtain ⟨t,ht⟩:=ih kn s ah h3;obtain ⟨ts,hts⟩:=aqL ih ks (kn+1) (by (have:((kn+1:Nat):Int)=(kn:Int)+1:=by omega);rw [this];exact h4);exact ⟨t::ts,by rw [KA];exact ⟨kn,ks,rfl,ah,ah,ht,hts⟩⟩
def aqM {a:List aD} {r:List Int} (hl:Low r) (hk:∀ (i:Nat) (hi:i < a.length),∃ s,r[i]?=some s/\Go.Av.Kids r s (i:Int) a[i].Kids):∀ (i s:Nat),i < a.length->r[i]?=some (s:Int)->∃ t,TA a t s i:=by
 intro i;induction i using Nat.strongRecOn with
 | ind i ih=>
  intro s hi hs;obtain ⟨s',hs',hks⟩:=hk i hi;rw [hs] at hs';cases hs';obtain ⟨ts,hts⟩:=aqL (a:=a) (r:=r) (e:=i) (fun k s hk' hr=>ih k hk' s ah hr) _ _ hks;exact ⟨⟨a[i].Kind,a[i].Op,a[i].Text,a[i].Other,ts⟩,by rw [TA];exact ⟨a[i],fB hi,rfl,rfl,rfl,rfl,hts⟩⟩
def Bw {a:List aD} (h:qd a=true):1<=a.length/\a.length<=400/\∃ r,starts (mU a) []=some r/\r.length=a.length/\Low r/\
  (∀ i,i < a.length->∃ (t:aC) (s:Nat),r[i]?=some (s:Int)/\TA a t s i)/\∃ t,TA a t 0 (a.length - 1):=by
 unfold qd at h;simp only [eu,oo] at h;obtain ⟨⟨h1,h2⟩,h3⟩:=h;cases hst:starts (mU a) [] with
 | none=>rw [hst] at h3;cases h3
 | some r=>
  rw [hst] at h3;obtain ⟨⟨m,hm,hml⟩,hl,hk⟩:=agH _ (fun j s h=>by simp at h) hst;have hrl:r.length=a.length:=by rw [hm];simp [hml,mU]
  have hk':∀ (i:Nat) (hi:i < a.length),∃ s,r[i]?=some s/\Go.Av.Kids r s (i:Int) a[i].Kids:=fun i hi=>by
   obtain ⟨s,e1,e2⟩:=hk i a[i].Kids (by simp [mU,fB hi]);simp only [wQ,rZ] at e1 e2;exact ⟨s,e1,e2⟩
  refine ⟨h1,h2,r,rfl,hrl,hl,fun i hi=>?_,?_⟩
  .obtain ⟨s,hs,_⟩:=hk' i hi;have:=(hl i s hs).1;obtain ⟨sn,rfl⟩:=qZ this;obtain ⟨t,ht⟩:=aqM hl hk' i sn hi hs;exact ⟨t,sn,hs,ht⟩
  .have:r[a.length - 1]?=some ((0:Nat):Int):=by simpa [Vb] using h3
   exact aqM hl hk' (a.length - 1) 0 ah this
def Vr {a:List aD} (h:qd a=true):∀ x,x∈a->x.Kids.length<=400/\∀ k,k∈x.Kids->0<=k/\k < a.length:=by
 obtain ⟨h1,h2,r,_,_,_,hT,t,ht⟩:=Bw h;obtain ⟨g1,g2,g3⟩:=ht.part;rw [show a.length - 1+1=a.length by omega,apD] at g3;intro x hx;constructor
 .obtain ⟨i,hi,rfl⟩:=List.getElem_of_mem hx;obtain ⟨t',s,_,ht'⟩:=hT i hi;cases t';rw [TA] at ht';obtain ⟨n,hn,_,_,_,_,hk⟩:=ht';rw [fB hi] at hn;cases hn;obtain ⟨k1,k2,k3,k4⟩:=hk.part;have:=zI ‹List aC›;rw [k4,QH];omega
 .intro k hk;rw [g3] at hx;have:=Zu t 0 x hx k hk;omega
def aqN (a:List aD) (e:aD) (M i:Nat):∀ (ts:List aC) (j n s:Nat) (acc:List aC),(∀ t,t∈ts->∀ s k:Nat,TA a t s k->k < i->(Jv M).DY a (k:Int)=some t)->KA a ts (e.Kids.drop j) s i->acc.length=j->j<=e.Kids.length->e.Kids.length<=100000->ts.length < n->
  Md M (Jv M) n (a,e,(j:Int),acc)=some ⟨e.Kind,e.Op,e.Text,e.Other,acc++ts⟩
 | [],j,n,s,acc,ih,h,ha,hj,he,hn=>by
  simp only [KA] at h;obtain ⟨n,rfl⟩:∃ m,n=m+1:=⟨n - 1,by simp at hn;omega⟩
  have hlt: ¬j < e.Kids.length:=by
   intro hlt;rw [drop_cons hlt] at h;cases h.1
  rw [Md];simp only [kG hlt,aJ,nQ]
 | t::ts,j,n,s,acc,ih,h,ha,hj,he,hn=>by
  simp only [KA] at h;obtain ⟨k,ks',hd,h1,h2,iI,hka⟩:=h;simp only [kY] at hn;obtain ⟨n,rfl⟩:∃ m,n=m+1:=⟨n - 1,ah⟩
  have hlt:j < e.Kids.length:=by
   cases xX j e.Kids.length with
   | inl h=>exact h
   | inr h=>rw [Gv h] at hd;cases hd
  rw [drop_cons hlt] at hd;injection hd with hd1 hd2;rw [Md];simp only [iT hlt,aS,bX hlt,hd1,av];rw [ih t aA s k iI h2,av,jf aU,av,wrap64 ah ah];have:=aqN a e M i ts (j+1) n (k+1) (acc++[t]) (fun t' h'=>ih t'<|by simp [h']) (hd2 ▸ hka) (by simp [ha]) ah he ah;rw [jP] at this;exact this
def aCc (a:List aD):∀ (t:aC) (s i N:Nat),TA a t s i->i<=100000->2*aQ t+2<=N->(Jv N).DY a (i:Int)=some t:=by
 intro t;induction t using yC with
 | h t ih=>
  intro s i N h hi hN;obtain ⟨M,rfl⟩:∃ M,N=M+1:=⟨N - 1,ah⟩
  obtain ⟨kd,op,x,y,ts⟩:=t;have hsz:=(TA.part h).2.1;rw [TA] at h;obtain ⟨n,hn,rfl,rfl,rfl,rfl,hk⟩:=h;obtain ⟨h1,h2,h3,h4⟩:=hk.part;have hkl:n.Kids.length=ts.length:=by rw [h4,QH]
  have htl:=zI ts;rw [aQ] at hsz hN;show Yc M (Jv M) a (i:Int)=_;unfold Yc;rw [wI hn,av];have:=aqN a n M i ts 0 M s [] (fun t' ht' s' k iI hki=>ih t' ht' s' k M iI ah (by have:=Cr ht';omega)) (by simpa using hk) rfl ah ah ah;simpa using this
def aaI (N:Nat) (a:List aD) (hN:1000 < N) {t:aC} (h:TA a t 0 (a.length - 1)) (h1:1<=a.length) (h2:a.length<=400):Me N a=some t:=by
 obtain ⟨_,hs,_⟩:=h.part;unfold Me;rw [wrap64 ah ah,show (a.length:Int) - 1=((a.length - 1:Nat):Int) by omega];have:=aCc a t 0 (a.length - 1) N h ah ah;show Option.bind ((Jv N).DY a _) _=_;rw [this];rfl
def aCd (N:Nat) (kb:(List aD×Int×Int×List aD)->Option (List aD)) (a:List aD) (d:Int) (i:Nat) (hi:i < a.length) (hi2:i<=1048576) (out:List aD) (ho:out.length=i) (hk:a[i].Kids.length<=1048576)
  (hr:∀ k,k∈a[i].Kids-> -9223372036854775808<=k+d/\k+d<=9223372036854775807):
  ∀ (n j:Nat) (ks:List Int),a[i].Kids.length - j < n->j<=a[i].Kids.length->ks.length=j->
   Oz N kb n (a,d,(i:Int),out,a[i],(j:Int),ks)=kb (a,d,((i+1:Nat):Int),out++[⟨a[i].Kind,a[i].Op,a[i].Text,a[i].Other,ks++(a[i].Kids.drop j).map (·+d)⟩]):=by
 intro n;induction n with
 | zero=>intro j ks h;omega
 | succ n ih=>
  intro j ks hn hj hks;rw [Oz,bX hi,av];by_cases h:j < a[i].Kids.length
  .have hx:=hr _ (ou h);simp only [iT h,aS,bX hi,bX h,av,abT h<|by simp only [maxLen];omega];rw [wrap64 hx.1 hx.2,jf aU,av,ih (j+1) _ ah ah (by simp [hks]),drop_cons h];simp only [rY,jP,Gy,Ai]
  .simp only [kG h,aJ];rw [jf aU,av,drop_nil h,wrap64 ah ah];simp
def aCe (N:Nat) (a:List aD) (d:Int) (hN:1048577 < N) (ha:a.length<=1048576) (hs:∀ x,x∈a->x.Kids.length<=1048576) (hr:∀ x,x∈a->∀ k,k∈x.Kids-> -9223372036854775808<=k+d/\k+d<=9223372036854775807):
  ∀ (n i:Nat) (out:List aD),a.length - i < n->i<=a.length->out.length=i->Je N n (a,d,(i:Int),out)=some (out++(a.drop i).map (Eo d)):=by
 intro n;induction n with
 | zero=>intro i out h;omega
 | succ n ih=>
  intro i out hn hi ho;rw [Je];by_cases h:i < a.length
  .have hx:=hs _ (ou h);simp only [iT h,aS,bX h,av];have:=aCd N (Je N n) a d i h ah out ho ah (hr _<|ou h) N 0 [] ah ah rfl;simp only [KL,Ai] at this;refine KP this ?_;rw [ih (i+1) _ ah ah (by simp [ho]),drop_cons h];simp only [rY,jP,Gy,Ai,Eo]
  .simp only [kG h,aJ];rw [drop_nil h];simp
def aqO (N:Nat) (a:List aD) (d:Int) (hN:1048577 < N) (ha:a.length<=1048576) (hs:∀ x,x∈a->x.Kids.length<=1048576) (hr:∀ x,x∈a->∀ k,k∈x.Kids-> -9223372036854775808<=k+d/\k+d<=9223372036854775807):
  OA N a d=some (a.map<|Eo d):=by
 have:=aCe N a d hN ha hs hr N 0 [] ah ah rfl;rw [KL,Ai] at this;exact this
mutual
def Vs:∀ (t:aC) (b:Nat) (x:aD),x∈bf b t->x.Kids.length < aQ t
 | ⟨kd,o,x,y,ks⟩,b,n,h=>by
  rw [bf] at h;rw [aQ];rcases lX.1 h with h|h
  .have:=aqP ks b n h;omega
  .rw [uD.1 h];have:=zI ks;simp only [QH];omega
def aqP:∀ (ts:List aC) (b:Nat) (x:aD),x∈jT b ts->x.Kids.length < aK ts
 | [],b,n,h=>by rw [jT] at h;cases h
 | t::ts,b,n,h=>by
  rw [jT] at h;rw [aK];rcases lX.1 h with h|h
  .have:=Vs t b n h;omega
  .have:=aqP ts _ n h;omega
end
def aCf (N:Nat) (t:aC) (b d:Nat) (hN:1048577 < N) (h:b+d+aQ t<=1000000):OA N (bf b t) (d:Int)=some (bf (b+d) t):=by
 rw [Zk];exact aqO N _ _ hN (by rw [rV];omega) (fun x hx=>by have:=Vs t b x hx;omega) fun x hx k hk=>by have:=Zu t b x hx k hk;omega
def aCg (N:Nat) (t:aC) (b:Nat) (hN:1048577 < N) (h:b+aQ t<=1000000):OA N (bf b t) (-(b:Int))=some (bf 0 t):=by
 rw [<- aqG t b];exact aqO N _ _ hN (by rw [rV];omega) (fun x hx=>by have:=Vs t b x hx;omega) fun x hx k hk=>by have:=Zu t b x hx k hk;omega
def alm (N:Nat) (a:List aD) (hN:1048577 < N) (hs:∀ x,x∈a->mW x) (hsh:qd a=true) {t:aC} {s i:Nat} (h:TA a t s i):YE N a (i:Int)=some (bf 0 t):=by
 obtain ⟨h1,h2,r,hst,hrl,hl,hT,_⟩:=Bw hsh;have hi:=h.lt;obtain ⟨t',s',hr,ht'⟩:=hT i hi;obtain ⟨rfl,rfl⟩:=aeb h ht';obtain ⟨g1,g2,g3⟩:=h.part;unfold YE;rw [apy N a hN h2 hs,hst];simp only [av];rw [wI hr,av,wrap64 ah ah,show (i:Int)+1=((i+1:Nat):Int) by omega,aaF ah ah,av,av,wrap64 ah ah,show (0:Int) - (s:Int)= -(s:Int) by omega];have e:(a.drop s).take (i+1 - s)=bf s t:=g3;rw [e,aCg N t s hN ah];rfl
def aqQ (N:Nat) (n0:aD) (ts:List aC) (hN:1048577 < N) (hsz:aK ts<=900000):∀ (rest done:List aC) (n:Nat),done++rest=ts->rest.length < n->
  Lj N n (ts.map<|bf 0,n0,(done.length:Int),jT 0 done,lV 0 done)=some (bf 0 ⟨n0.Kind,n0.Op,n0.Text,n0.Other,ts⟩)
 | [],done,n,hd,hn=>by
  obtain ⟨n,rfl⟩:∃ m,n=m+1:=⟨n - 1,by simp at hn;omega⟩
  rw [nQ] at hd;subst hd;have hl:=zI done;have: ¬done.length < (done.map<|bf 0).length:=aA;rw [Lj];simp only [kG this,aJ];rw [jf (by rw [QG];simp;omega),av,bf]
 | t::rest,done,n,hd,hn=>by
  simp only [kY] at hn;obtain ⟨n,rfl⟩:∃ m,n=m+1:=⟨n - 1,ah⟩
  have hlt:done.length < (ts.map<|bf 0).length:=by rw [<- hd];simp
  have hlt2:done.length < ts.length:=by simpa using hlt
  have hx:(ts.map<|bf 0)[done.length]'hlt=bf 0 t:=by simp [<- hd]
  have hsum:aK done+aQ t+aK rest=aK ts:=by rw [<- hd,FM,aK];omega
  have hl:=zI done;have hp:=kN t;rw [Lj];simp only [iT hlt,aS,bX hlt,av,hx,QG];have hsh:=aCf N t 0 (aK done) hN ah;rw [rZ] at hsh;rw [hsh,av,jf (by rw [QG,rV];omega),av,fP,QG,rV,wrap64 (n:=((aK done+aQ t:Nat):Int) - 1) ah ah,jf (by rw [QH];simp;omega),av,wrap64 ah ah];have:=aqQ N n0 ts hN hsz rest (done++[t]) n (by simpa using hd) ah;rw [aqD,ajl,rZ] at this;simp only [jT,lV,nQ,fP,kY,wQ] at this;exact this
def yE (N:Nat) (n0:aD) (ts:List aC) (hN:1048577 < N) (hsz:aK ts<=900000):fJ N n0 (ts.map<|bf 0)=some (bf 0 ⟨n0.Kind,n0.Op,n0.Text,n0.Other,ts⟩):=
 aqQ N n0 ts hN hsz ts [] N rfl (by have:=zI ts;omega)
mutual
def gH:aC->Nat
 | ⟨_,_,_,_,ks⟩=>ji ks+1
def ji:List aC->Nat
 | []=>0
 | t::ts=>max (gH t) (ji ts)
end
mutual
def ajm:∀ t:aC,gH t<=aQ t
 | ⟨k,o,x,y,ks⟩=>by have:=aqR ks;rw [gH,aQ];omega
def aqR:∀ ts:List aC,ji ts<=aK ts
 | []=>by rw [ji,aK];omega
 | t::ts=>by have:=ajm t;have:=aqR ts;rw [ji,aK];omega
end
def aiy (t:aC):gH t=ji t.kids+1:=by cases t;rw [gH]
def aqS (t:aC) (G:Nat) (hsz:aQ t<=100000):∀ (ts:List aC) (j n m:Nat),(∀ k,k∈ts->(Mg G).AO k=some (gH k:Int))->t.kids.drop j=ts->ts.length < n->m<=100000->
  Mf G (Mg G) n (t,(m:Int),(j:Int))=some (((max m (ji ts)+1:Nat):Int))
 | [],j,n,m,ih,hd,hn,hm=>by
  obtain ⟨n,rfl⟩:∃ m,n=m+1:=⟨n - 1,by simp at hn;omega⟩
  have hj: ¬j < t.kids.length:=by
   intro h;rw [drop_cons h] at hd;cases hd
  rw [Mf];simp only [kG hj,aJ];rw [wrap64 ah ah,ji];congr 1;omega
 | k::ts,j,n,m,ih,hd,hn,hm=>by
  simp only [kY] at hn;obtain ⟨n,rfl⟩:∃ m,n=m+1:=⟨n - 1,ah⟩
  have hj:j < t.kids.length:=by
   cases xX j t.kids.length with
   | inl h=>exact h
   | inr h=>rw [Gv h] at hd;cases hd
  have hjl:t.kids.length<=100000:=by have:=zI t.kids;have:=wh t;omega
  have hmem:k∈t.kids:=by
   have:k∈t.kids.drop j:=by rw [hd];simp
   exact List.mem_of_mem_drop this
  have hkd:gH k<=100000:=by have:=ajm k;have:=Cr hmem;have:=wh t;omega
  rw [drop_cons hj] at hd;injection hd with hd1 hd2;rw [Mf];simp only [iT hj,aS,bX hj,hd1,av];rw [ih k aA,av,wrap64 ah ah];have hmax:(if (gH k:Int) > (m:Int) then (gH k:Int) else (m:Int))=((max m (gH k):Nat):Int):=by split<;>omega
  rw [hmax,show ((j:Int)+1)=((j+1:Nat):Int) by omega,aqS t G hsz ts (j+1) n (max m<|gH k) (fun k' h'=>ih k'<|by simp [h']) hd2 ah ah,ji,Nat.max_assoc]
def aCh:∀ (t:aC) (N:Nat),2*aQ t+2<=N->aQ t<=100000->(Mg N).AO t=some (gH t:Int):=by
 intro t;induction t using yC with
 | h t ih=>
  intro N hN hsz;obtain ⟨M,rfl⟩:∃ M,N=M+1:=⟨N - 1,ah⟩
  have h1:=wh t;have h2:=zI t.kids;show Ye M (Mg M) t=_;unfold Ye;have:=aqS t M hsz t.kids 0 M 0 (fun k hk=>ih k hk M (by have:=Cr hk;omega) (by have:=Cr hk;omega)) rfl ah ah;refine KP this ?_;rw [aiy,Nat.zero_max]
def aqT (a:List aD) (d:List Int):Prop:=∀ (j:Nat) (v:Int),d[j]?=some v->∃ t s,TA a t s j/\v=gH t
def aqU (N:Nat) (kb:(List aD×Int×List Int)->Option Int) (a:List aD) (ha:a.length<=400) (i:Nat) (hi:i < a.length) (d:List Int) (hd:d.length=i) (hok:aqT a d) (hkl:a[i].Kids.length<=400):∀ (ts:List aC) (j n s m:Nat),KA a ts (a[i].Kids.drop j) s i->j<=a[i].Kids.length->ts.length < n->m<=1000->aK ts<=400->
  LA N kb n (a,(i:Int),d,(m:Int),(j:Int))=kb (a,((i+1:Nat):Int),d++[((max m (ji ts+(if ts=[] then 0 else 1)):Nat):Int)])
 | [],j,n,s,m,h,hj,hn,hm,hsz=>by
  simp only [KA] at h;obtain ⟨n,rfl⟩:∃ m,n=m+1:=⟨n - 1,by simp at hn;omega⟩
  have hlt: ¬j < a[i].Kids.length:=by
   intro hlt;rw [drop_cons hlt] at h;cases h.1
  rw [LA,bX hi,av];simp only [kG hlt,aJ];rw [jf aU,av,wrap64 ah ah,ji];simp
 | t::ts,j,n,s,m,h,hj,hn,hm,hsz=>by
  simp only [KA] at h;obtain ⟨k,ks',hdk,h1,h2,iI,hka⟩:=h;simp only [kY] at hn;rw [aK] at hsz;obtain ⟨n,rfl⟩:∃ m,n=m+1:=⟨n - 1,ah⟩
  have hlt:j < a[i].Kids.length:=by
   cases xX j a[i].Kids.length with
   | inl h=>exact h
   | inr h=>rw [Gv h] at hdk;cases hdk
  rw [drop_cons hlt] at hdk;injection hdk with hd1 hd2;have hkd:k < d.length:=ah;obtain ⟨t',s',ht',hv⟩:=hok k d[k] (fB hkd);obtain ⟨rfl,rfl⟩:=aeb iI ht';have hdl:=ajm t;rw [LA,bX hi,av];simp only [iT hlt,aS,bX hi,bX hlt,av,hd1];rw [bX hkd,av,hv,wrap64 (n:=1+(gH t:Int)) ah ah,wrap64 ah ah];have hmax:(if 1+(gH t:Int) > (m:Int) then 1+(gH t:Int) else (m:Int))=((max m (gH t+1):Nat):Int):=by split<;>omega
  rw [hmax,show ((j:Int)+1)=((j+1:Nat):Int) by omega,aqU N kb a ha i hi d hd hok hkl ts (j+1) n (k+1) _ (hd2 ▸ hka) ah ah ah ah,ji];have e:max (max m<|gH t+1) (ji ts+(if ts=[] then 0 else 1))=max m (max (gH t) (ji ts)+(if t::ts=[] then 0 else 1)):=by
   have h3:(t::ts=[])=False:=aA;simp only [h3,if_false];split
   .subst_vars;rw [ji];omega
   .omega
  rw [e]
def aCi (N:Nat) (a:List aD) (hN:1000 < N) (ha:a.length<=400) (h1:1<=a.length) (hT:∀ i,i < a.length->∃ (t:aC) (s:Nat),TA a t s i) {t0:aC} (h0:TA a t0 0 (a.length - 1)):∀ (n i:Nat) (d:List Int),a.length - i < n->i<=a.length->d.length=i->aqT a d->
  Jl N n (a,(i:Int),d)=some (gH t0:Int):=by
 intro n;induction n with
 | zero=>intro i d h;omega
 | succ n ih=>
  intro i d hn hi hd hok;rw [Jl];by_cases h:i < a.length
  .obtain ⟨t,s,ht⟩:=hT i h;have htp:=ht.part;obtain ⟨kd,op,x,y,ts⟩:=t;have ht2:=ht;rw [TA] at ht2;obtain ⟨n0,hn0,_,_,_,_,hk⟩:=ht2;rw [fB h] at hn0;cases hn0;obtain ⟨k1,k2,k3,k4⟩:=hk.part;have hl:=zI ts;have hkl:a[i].Kids.length=ts.length:=by rw [k4,QH]
   rw [aQ] at htp;have:=aqU N (Jl N n) a ha i h d hd hok ah ts 0 N s 1 (by simpa using hk) ah ah ah ah;simp only [iT h,aS];refine KP this ?_;have e:max 1 (ji ts+(if ts=[] then 0 else 1))=gH ⟨a[i].Kind,a[i].Op,a[i].Text,a[i].Other,ts⟩:=by
    rw [gH];split
    .subst_vars;rw [ji];rfl
    .omega
   refine ih (i+1) _ ah ah (by simp [hd]) fun j v hv=>?_;rw [List.getElem?_append] at hv;split at hv
   .exact hok j v hv
   .rename_i hj;have hji:j=i:=by
     have:=(cO.1 hv).1;simp at this;omega
    subst hji;rw [hd,VZ] at hv;simp only [NI,jB] at hv;refine ⟨_,_,ht,?_⟩;rw [<- hv,e];simp_all [gH]
  .simp only [kG h,aJ];have hia:i=a.length:=ah;have hlt:a.length - 1 < d.length:=ah;obtain ⟨t',s',ht',hv⟩:=hok (a.length - 1) _ (fB hlt);obtain ⟨rfl,_⟩:=aeb h0 ht';have hx:=bX hlt;rw [wrap64 ah ah,show (a.length:Int) - 1=((a.length - 1:Nat):Int) by omega,hx,av,hv]
def adG (N:Nat) (a:List aD) (hN:1048577 < N) (hs:∀ x,x∈a->mW x) (hsh:qd a=true) {t:aC} (ht:TA a t 0 (a.length - 1)):Pb N a=some (gH t:Int):=by
 obtain ⟨h1,h2,r,_,_,_,hT,_⟩:=Bw hsh;unfold Pb;rw [aix N a hN hs,hsh,av];exact aCi N a ah h2 h1 (fun i hi=>by obtain ⟨t,s,_,h⟩:=hT i hi;exact ⟨t,s,h⟩) ht N 0 [] ah ah rfl (fun j v h=>by simp at h)
def aCj (N:Nat) (a:List aD) (hN:1048577 < N) (ha:a.length<=400) (i:Nat) (hi:i < a.length) (hf:FK a[i]) (hkl:a[i].Kids.length<=400) (hkr:∀ k,k∈a[i].Kids->0<=k/\k < a.length) (gJ JE:(List aD×Int)->Option Bool) (c:Bool)
  (hkb:∃ b:Bool,gJ (a,((i+1:Nat):Int))=some b/\JE (a,((i+1:Nat):Int))=some (b&&c)):∀ (n j:Nat),a[i].Kids.length - j < n->j<=a[i].Kids.length->
  ∃ b:Bool,Cc N gJ n (a,(i:Int),(j:Int))=some b/\PS N JE n (a,(i:Int),a[i],(j:Int))=some (b&&c):=by
 intro n;induction n with
 | zero=>intro j h;omega
 | succ n ih=>
  intro j hn hj;rw [Cc,PS,bX hi,av];by_cases h:j < a[i].Kids.length
  .have hk:=hkr _ (ou h);have hk2:a[i].Kids[j].toNat < a.length:=ah;have hx:ix a a[i].Kids[j]=some a[a[i].Kids[j].toNat]:=by
    have:=bX hk2;rwa [afi hk.1] at this
   obtain ⟨b,b1,b2⟩:=aBW a[i] j a[a[i].Kids[j].toNat].Kind hf h hkl;simp only [iT h,aS,bX hi,bX h,av,hx,b1,b2];cases b with
   | false=>exact ⟨false,rfl,rfl⟩
   | true=>
    simp only [kQ,aJ];rw [wrap64 ah ah,show ((j:Int)+1)=((j+1:Nat):Int) by omega];exact ih (j+1) ah ah
  .simp only [kG h,aJ];rw [wrap64 ah ah];exact hkb
def aCk (a:List aD):Prop:=∀ x,x∈a->FK x/\gX x.Kind
def aCl (N:Nat) (a:List aD) (hN:1048577+400 < N) (ha:a.length<=400) (hs:∀ x,x∈a->mW x) (hk:∀ x,x∈a->x.Kids.length<=400/\∀ k,k∈x.Kids->0<=k/\k < a.length) (c:Bool) (hc:Option.bind (Me N a) (fun r=>(AO N r).bind fun q=>some<|decide<|q<=40)=some c):∀ (n i:Nat),a.length - i < n->i<=a.length->
  ∃ b:Bool,uR N n (a,(i:Int))=some b/\Hr N n (a,(i:Int))=some (b&&c)/\(b=true->∀ x,x∈a.drop i->FK x/\gX x.Kind):=by
 intro n;induction n with
 | zero=>intro i h;omega
 | succ n ih=>
  intro i hn hi;rw [uR,Hr];by_cases h:i < a.length
  .have hx:=ou h;obtain ⟨hk1,hk2⟩:=hk _ hx;obtain ⟨b,b1,b2,b3⟩:=aBG N a[i] ah (hs _ hx) hk1;simp only [iT h,aS,bX h,av,b1,b2];cases b with
   | false=>exact ⟨false,rfl,rfl,fun h=>by cases h⟩
   | true=>
    simp only [kQ,aJ];obtain ⟨q,q1,q2,q3⟩:=ih (i+1) ah ah;obtain ⟨b',e1,e2⟩:=aCj N a ah ha i h (b3 rfl).1 hk1 hk2 (uR N n) (Hr N n) c ⟨q,q1,q2⟩ N 0 ah ah;refine ⟨b',e1,e2,fun hb x hx=>?_⟩;rw [drop_cons h] at hx;rcases iL.1 hx with rfl|hx
    .exact b3 rfl
    .refine q3 ?_ x hx;subst hb;have:∀ (m j:Nat),a[i].Kids.length - j < m->j<=a[i].Kids.length->Cc N (uR N n) m (a,(i:Int),(j:Int))=some true->q=true:=by
      intro m;induction m with
      | zero=>intro j h;omega
      | succ m ihm=>
       intro j hm hj hh;rw [Cc,bX h,av] at hh;by_cases hlt:j < a[i].Kids.length
       .simp only [iT hlt,aS,bX h,bX hlt,av] at hh;obtain ⟨y1,_,hh⟩:=qH.1 hh;obtain ⟨y2,_,hh⟩:=qH.1 hh;cases y2 with
        | false=>cases hh
        | true=>
         simp only [kQ,aJ] at hh;rw [wrap64 ah ah,show ((j:Int)+1)=((j+1:Nat):Int) by omega] at hh;exact ihm (j+1) ah ah hh
       .simp only [kG hlt,aJ] at hh;rw [wrap64 ah ah] at hh;have hh':uR N n (a,((i+1:Nat):Int))=some true:=hh;rw [q1] at hh';exact mJ hh'
     exact this N 0 ah ah e1
  .simp only [kG h,aJ];refine ⟨true,rfl,by rw [hc,Df],fun _ x hx=>?_⟩;rw [drop_nil h] at hx;cases hx
def aBC (N:Nat) (a:List aD) (hN:1048577+400 < N) (hs:∀ x,x∈a->mW x):∃ b:Bool,tN N a=some b/\Yf N a=some b/\(b=true->qd a=true/\aCk a):=by
 unfold tN Yf;rw [aix N a ah hs,ayS N a ah];simp only [av];cases hsh:qd a with
 | false=>exact ⟨false,rfl,rfl,fun h=>by cases h⟩
 | true=>
  obtain ⟨h1,h2,r,_,_,_,hT,t,ht⟩:=Bw hsh;have hd:=adG N a ah hs hsh ht;obtain ⟨_,hsz,_⟩:=ht.part;have hdi:AO N t=some (gH t:Int):=aCh t N ah ah;have hc:Option.bind (Me N a) (fun r=>(AO N r).bind fun q=>some<|decide<|q<=40)=some (decide<|(gH t:Int)<=40):=by
   rw [aaI N a ah ht h1 h2,av,hdi,av]
  obtain ⟨b,b1,b2,b3⟩:=aCl N a hN h2 hs (Vr hsh) _ hc N 0 ah ah;have b1':uR N N (a,0)=some b:=b1;have b2':Hr N N (a,0)=some (b&&decide ((gH t:Int)<=40)):=b2;simp only [kQ,aJ,hd,av,b1',b2'];by_cases hle:(gH t:Int)<=40
  .have e1:decide ((gH t:Int) > 40)=false:=aU;have e2:decide ((gH t:Int)<=40)=true:=aU;simp only [e1,e2,aJ,av,Dh];exact ⟨b,rfl,rfl,fun hb=>⟨trivial,fun x hx=>b3 hb x<|by simpa using hx⟩⟩
  .have e1:decide ((gH t:Int) > 40)=true:=aU;have e2:decide ((gH t:Int)<=40)=false:=aU;simp only [e1,e2,aS,av,RY];exact ⟨false,rfl,rfl,fun h=>by cases h⟩
def TA.node {a:List aD} {t:aC} {s i:Nat} (h:TA a t s i):∃ n,a[i]?=some n/\t.kind=n.Kind/\t.op=n.Op/\t.text=n.Text/\t.other=n.Other/\KA a t.kids n.Kids s i/\t.kids.length=n.Kids.length:=by
 obtain ⟨kd,op,x,y,ts⟩:=t;rw [TA] at h;obtain ⟨n,hn,rfl,rfl,rfl,rfl,hk⟩:=h;have h4:=hk.part.2.2.2;exact ⟨n,hn,rfl,rfl,rfl,rfl,hk,by rw [h4,QH]⟩
def KA.get {a:List aD}:∀ {ts:List aC} {ks:List Int} {s e:Nat},KA a ts ks s e->∀ (j:Nat) (t:aC),ts[j]?=some t->∃ k s':Nat,ks[j]?=some (k:Int)/\TA a t s' k/\k < e
 | [],ks,s,e,h,j,t,hj=>by simp at hj
 | t0::ts,ks,s,e,h,j,t,hj=>by
  rw [KA] at h;obtain ⟨k,ks',rfl,h1,h2,ht,hk⟩:=h;cases j with
  | zero=>
   simp only [NI,jB] at hj;subst hj;exact ⟨k,s,rfl,ht,h2⟩
  | succ j=>
   simp only [RN] at hj ⊢;exact KA.get hk j t hj
def aCm {t:aC} {b:Nat} (hsz:aQ t<=1000000) (ht:∀ x,x∈bf b t->x.Text.length<=1048576/\x.Other.length<=1048576):∀ x,x∈bf b t->mW x:=fun x hx=>by
 have:=Vs t b x hx;have:=ht x hx;unfold mW;omega
def tx (x:aD):Prop:=x.Text.length<=1048576/\x.Other.length<=1048576
def Gp (t:aC):Prop:=∀ x,x∈bf 0 t->tx x
def aCn {t:aC} (h:Gp t) (b:Nat):∀ x,x∈bf b t->tx x:=fun x hx=>by
 have e:=Zk t 0 b;rw [rZ] at e;rw [e] at hx;obtain ⟨y,hy,rfl⟩:=tO.1 hx;exact h y hy
def aeP {a:List aD} (hs:∀ x,x∈a->mW x) {t:aC} {s i:Nat} (h:TA a t s i):Gp t:=by
 have h3:=h.part.2.2;intro x hx;rw [<- aqG t s,<- h3] at hx;obtain ⟨y,hy,rfl⟩:=tO.1 hx;have:y∈a:=by
  unfold part at hy;exact List.mem_of_mem_drop (afh hy)
 have:=hs y this;unfold mW at this;exact ⟨this.1,this.2.1⟩
def aeR {t:aC} (hsz:aQ t<=1000000) (ht:Gp t) (b:Nat):∀ x,x∈bf b t->mW x:=
 aCm hsz fun x hx=>aCn ht b x hx
mutual
def MP (b:Nat):aC->List Int
 | ⟨_,_,_,_,ks⟩=>sV b ks++[(b:Int)]
def sV (b:Nat):List aC->List Int
 | []=>[]
 | t::ts=>MP b t++sV (b+aQ t) ts
end
mutual
def ajo:∀ (t:aC) (b:Nat),(MP b t).length=aQ t
 | ⟨_,_,_,_,ks⟩,b=>by rw [MP,aQ,fP,QI ks b];rfl
def QI:∀ (ts:List aC) (b:Nat),(sV b ts).length=aK ts
 | [],b=>by rw [sV,aK];rfl
 | t::ts,b=>by rw [sV,aK,fP,ajo t b,QI ts _]
end
def aqV (t:aC) (b:Nat):(MP b t)[aQ t - 1]?=some (b:Int):=by
 obtain ⟨k,o,x,y,ks⟩:=t;rw [MP,aQ,afk,qo (by rw [QI];omega),QI,VZ];rfl
def aqW:∀ (a c:List aC) (b:Nat),sV b (a++c)=sV b a++sV (b+aK a) c
 | [],c,b=>by simp [sV,aK]
 | t::a,c,b=>by rw [Gy,sV,sV,aK,aqW a c,jP,II]
def aCo (b:Nat) (ts:List aC):∀ (m:Nat) (JN Vx:List aC),JN.length=m->JN++Vx=ts->∀ out:List Int,(∀ i,i < aK ts->out[b+i]?=(sV b ts)[i]?)->walk out ((b+aK JN:Nat):Int) (lV b JN).reverse=some (b:Int):=by
 intro m;induction m with
 | zero=>
  intro JN Vx hl _ out _;have:JN=[]:=Gt.1 hl;subst this;simp [lV,walk,aK]
 | succ m ih=>
  intro JN Vx hl he out ho;obtain ⟨u,t,rfl⟩:∃ u t,JN=u++[t]:=by
   rcases List.eq_nil_or_concat JN with rfl|⟨u,t,rfl⟩
   .cases hl
   .exact ⟨u,t,aA⟩
  have hp:=kN t;have hsz:aK (u++[t])=aK u+aQ t:=by rw [FM,aK,aK];omega
  rw [ajl,List.reverse_append,lV,lV,List.reverse_cons,List.reverse_nil,Ai,afe,walk,hsz];have hne: ¬(((b+(aK u+aQ t):Nat):Int)=0\/(((b+aK u+aQ t:Nat):Int) - 1)≠((b+(aK u+aQ t):Nat):Int) - 1):=ah;rw [bA hne];have htot:aK ts=aK u+(aQ t+aK Vx):=by rw [<- he,FM,hsz];omega
  have hi:(((b+(aK u+aQ t):Nat):Int) - 1).toNat=b+(aK u+(aQ t - 1)):=ah;rw [hi,ho _ ah];have hst:sV b ts=sV b u++(MP (b+aK u) t++sV (b+aK u+aQ t) Vx):=by
   rw [<- he,jP,afe,aqW,sV]
  rw [hst,qo (by rw [QI];omega),QI,afc,rX (by rw [ajo];omega),aqV];exact ih u (t::Vx) (by simpa using hl) (by rw [<- he];simp) out ho
mutual
def aqX:∀ (t:aC) (b:Nat) (rest:List (List Int)) (out:List Int),out.length=b->starts (mU (bf b t)++rest) out=starts rest (out++MP b t)
 | ⟨k,o,x,y,ks⟩,b,rest,out,hb=>by
  have h1:=aqY ks b ([lV b ks]++rest) out hb;have hl:(out++sV b ks).length=b+aK ks:=by rw [fP,QI,hb]
  rw [bf,MP];have e:mU (jT b ks++[(⟨k,o,x,y,lV b ks⟩:aD)])++rest=mU (jT b ks)++([lV b ks]++rest):=by
   unfold mU;rw [Aj,jP];rfl
  rw [e,h1,afe,starts,hl];have:=aCo b ks ks.length ks [] rfl aA (out++sV b ks) (fun i hi=>by rw [qo ah,hb,afc]);rw [this,av,jP]
def aqY:∀ (ts:List aC) (b:Nat) (rest:List (List Int)) (out:List Int),out.length=b->starts (mU (jT b ts)++rest) out=starts rest (out++sV b ts)
 | [],b,rest,out,hb=>by
  rw [jT,sV,nQ];rfl
 | t::ts,b,rest,out,hb=>by
  rw [jT,sV];have e:mU (bf b t++jT (b+aQ t) ts)++rest=mU (bf b t)++(mU (jT (b+aQ t) ts)++rest):=by
   unfold mU;rw [Aj,jP]
  rw [e,aqX t b _ out hb,aqY ts (b+aQ t) rest _ (by rw [fP,ajo,hb]),jP]
end
def aCp (t:aC) (h:aQ t<=400):qd (bf 0 t)=true:=by
 have hp:=kN t;have hs:=aqX t 0 [] [] rfl;rw [nQ,Ai] at hs;unfold qd;rw [hs,rV];simp only [starts,Vb,aqV,eu,oo];exact ⟨⟨hp,h⟩,aA⟩
def PR (a:List aD) (b:Nat) (l:List aD):Prop:=∀ (i:Nat) (x:aD),l[i]?=some x->a[b+i]?=some x
def PR.left {a l1 l2:List aD} {b:Nat} (h:PR a b (l1++l2)):PR a b l1:=fun i x hx=>h i x (by rw [rX (cO.1 hx).1];exact hx)
def PR.right {a l1 l2:List aD} {b:Nat} (h:PR a b (l1++l2)):PR a (b+l1.length) l2:=fun i x hx=>by
 have:=h (l1.length+i) x (by rw [qo ah,afc];exact hx);rw [II];exact this
mutual
def aqZ {a:List aD}:∀ (t:aC) (b:Nat),PR a b (bf b t)->TA a t b (b+aQ t - 1)
 | ⟨k,o,x,y,ks⟩,b,h=>by
  rw [bf] at h;have h1:=ara ks b h.left;have h2:=h.right 0 _ rfl;rw [QG,IL] at h2;rw [aQ,show b+(aK ks+1) - 1=b+aK ks by omega,TA];exact ⟨_,h2,rfl,rfl,rfl,rfl,h1⟩
def ara {a:List aD}:∀ (ts:List aC) (b:Nat),PR a b (jT b ts)->KA a ts (lV b ts) b (b+aK ts)
 | [],b,h=>by
  rw [KA,lV,aK];exact ⟨rfl,rfl⟩
 | t::ts,b,h=>by
  rw [jT] at h;have hp:=kN t;have h1:=aqZ t b h.left;have h2:=ara ts (b+aQ t) (by have:=h.right;rw [rV] at this;exact this);rw [KA,lV,aK];refine ⟨b+aQ t - 1,lV (b+aQ t) ts,?_,ah,ah,h1,?_⟩
  .congr 1;omega
  .rw [show b+aQ t - 1+1=b+aQ t by omega,<- II];exact h2
end
def aCq (t:aC):TA (bf 0 t) t 0 ((bf 0 t).length - 1):=by
 have:=aqZ (a:=bf 0 t) t 0 (fun i x hx=>by rw [rZ];exact hx);rw [rZ] at this;rw [rV];exact this
def dw {α:Type} {c:Bool} {x y:Option α} (hx:∃ v,x=some v) (hy:∃ v,y=some v):∃ v,(bif c then x else y)=some v:=by
 cases c
 .exact hy
 .exact hx
def aCr (o:Int):LY o=Fq o:=rfl
def ajp (o:Int):∃ v,Fq o=some v/\v<=12:=by
 have h:∀ {c:Bool} {x y:Option Int},(∃ v,x=some v/\v<=12)->(∃ v,y=some v/\v<=12)->∃ v,(bif c then x else y)=some v/\v<=12:=fun {c x y} hx hy=>by
  cases c
  .exact hy
  .exact hx
 have h4:∀ b,∃ v,Py (o,b)=some v/\v<=12:=fun b=>h ⟨10,rfl,aM⟩ (h ⟨12,rfl,aM⟩ ⟨0,rfl,aM⟩);have h3:∀ b,∃ v,TW (o,b)=some v/\v<=12:=fun b=>h ⟨9,rfl,aM⟩ (h (h4 _)<|h (h4 _)<|h4 _);have h2:∀ b,∃ v,Hf (o,b)=some v/\v<=12:=fun b=>h ⟨7,rfl,aM⟩ (h ⟨8,rfl,aM⟩<|h (h3 _)<|h3 _);have h1:∀ b,∃ v,TY (o,b)=some v/\v<=12:=fun b=>h ⟨6,rfl,aM⟩ (h (h2 _)<|h (h2 _)<|h (h2 _)<|h (h2 _)<|h (h2 _)<|h2 _);exact h ⟨3,rfl,aM⟩ (h ⟨4,rfl,aM⟩<|h (h1 _)<|h1 _)
def bL (o:Int):Int:=(Fq o).getD 0
def ajq (o:Int):Fq o=some (bL o):=by
 obtain ⟨v,h,_⟩:=ajp o;unfold bL;rw [h];rfl
def MQ (o:Int):bL o<=12:=by
 obtain ⟨v,h,h2⟩:=ajp o;unfold bL;rw [h];exact h2
def lv (k o:Int):Int:=
 bif k==15 then 1 else bif k==14 then 2 else bif k==13 then 5 else bif k==12 then bL o else bif k==11 then 11 else bif k==9||k==10 then 13 else bif k==6 then 14 else
 bif k==1||(k==2||(k==3||(k==4||(k==5||(k==7||k==8))))) then 15 else 0
def adE (n:aD):LP n=some (lv n.Kind n.Op):=by
 have h2:∀ b:Bool,Hg b=some (bif b then 15 else 0):=fun b=>by cases b<;>rfl
 unfold LP lv;rw [ajq];cases n.Kind==15
 .cases n.Kind==14
  .cases n.Kind==13
   .cases n.Kind==12
    .cases n.Kind==11
     .simp only [aJ,Xu];cases n.Kind==9
      .cases n.Kind==10
       .cases n.Kind==6
        .cases n.Kind==1
         .cases n.Kind==2
          .cases n.Kind==3
           .cases n.Kind==4
            .cases n.Kind==5
             .cases n.Kind==7
              .cases n.Kind==8<;>rfl
              .rfl
             .rfl
            .rfl
           .rfl
          .rfl
         .rfl
        .rfl
       .rfl
      .rfl
     .rfl
    .rfl
   .rfl
  .rfl
 .rfl
def ajr (n:aD):PW n=some (lv n.Kind n.Op):=adE n
def posB (p:aF):Bool:=(decide (p.Level>=1)&&decide (p.Level<=15))&&(!p.nU||p.Level==14)
def EC (p:aF):He p=some (posB p):=by
 unfold He posB;rw [Ad,av];cases (decide (p.Level>=1)&&decide (p.Level<=15))<;>cases p.nU<;>rfl
def ND (p:aF):PU p=some (posB p):=by
 unfold PU posB;rw [Gn,av];cases (decide (p.Level>=1)&&decide (p.Level<=15))<;>cases p.nU<;>rfl
def jL (k o:Int) (p:aF):Bool:=
 !(!posB p||lv k o==0)&&(!(p.aX&&k==13)&&(!(p.bg&&(k==12&&o==62))&&(!(p.eH&&(k==11||(k==9||k==4)))&&((p.nU&&k==9)||decide (lv k o>=p.Level)))))
def Vv (c d:Bool):(bif c then some true else some d)=some (c||d):=by cases c<;>rfl
def Qv (c d:Bool):(bif c then some d else some false)=some (c&&d):=by cases c<;>rfl
def arb (c d:Bool):(bif c then some false else some d)=some (!c&&d):=by cases c<;>rfl
def aCs (c a d:Bool):(bif c then some (a||d) else some d)=some ((c&&a)||d):=by cases c<;>rfl
def apz (n:aD) (p:aF):Ua n p=some (jL n.Kind n.Op p):=by
 unfold Ua jL;rw [EC,adE];simp only [av,Vv,Qv,arb]
def aqp (n:aD) (p:aF):Yi n p=some (jL n.Kind n.Op p):=by
 unfold Yi jL;rw [ND,ajr];simp only [av,Vv,Qv,arb,aCs]
def kC (o:Int):Int×Int:=
 bif bL o==3 then (3,4) else bif bL o==4 then (4,5) else bif bL o==6 then (7,7) else bif bL o==7 then (8,8) else bif bL o==8 then (8,9) else bif bL o==9 then (9,10) else bif bL o==10 then (10,11) else (13,11)
def aCt (o:Int):Uc o=some (kC o):=by
 unfold Uc kC;rw [ajq,av];cases bL o==3<;>cases bL o==4<;>cases bL o==6<;>cases bL o==7<;>cases bL o==8<;>cases bL o==9<;>cases bL o==10<;>rfl
def aCu (o:Int) (k:Nat):Yj o (k:Int)=some (bif decide (k > 0) then (kC o).2 else (kC o).1):=by
 unfold Yj kC;rw [aCr,ajq,av];have hk:((k:Int)==0)=!decide (k > 0):=by
  by_cases h:k=0
  .subst h;rfl
  .have h1:((k:Int)==0)=false:=aU;have h2:decide (k > 0)=true:=aU;rw [h1,h2];rfl
 cases bL o==3<;>cases bL o==4<;>cases bL o==6<;>cases bL o==7<;>cases bL o==8<;>cases bL o==9<;>cases bL o==10<;>simp only [aS,aJ,FB,hk]<;>cases decide (k > 0)<;>rfl
def bP (kd o:Int) (n:Nat) (k:Nat) (p:aF):aF:=
 bif kd==15 then (bif decide (k > 0) then ⟨1,false,p.aX,p.bg,false⟩ else ⟨14,false,p.aX,p.bg,p.eH⟩)
 else bif kd==14 then (bif decide (k > 0) then ⟨2,false,p.aX,p.bg,false⟩ else ⟨3,false,p.aX,p.bg,p.eH⟩)
 else bif kd==13 then (bif decide (n > 1) then ⟨1,false,false,false,false⟩ else ⟨5,false,p.aX,p.bg,p.eH⟩)
 else bif kd==12 then (bif decide (k > 0) then ⟨(kC o).2,false,p.aX,p.bg,o==99⟩ else ⟨(kC o).1,false,p.aX,p.bg,p.eH⟩)
 else bif kd==11 then ⟨11,false,p.aX,p.bg,false⟩
 else bif kd==9||kd==10 then ⟨14,false,p.aX,p.bg,false⟩
 else bif kd==6 then ⟨14,true,p.aX,p.bg,false⟩ else ⟨1,false,false,false,false⟩
def apB (n:aD) (k:Nat) (p:aF) (hk:k < n.Kids.length) (hl:n.Kids.length<=1000000) (hp:posB p=true) (hlv:lv n.Kind n.Op≠0):fO n (k:Int) p=some (bP n.Kind n.Op n.Kids.length k p):=by
 have h0:(lv n.Kind n.Op==0)=false:=by simpa using hlv
 have h1:(decide ((k:Int)>=0)&&decide ((k:Int)<=(n.Kids.length:Int) - 1))=true:=aU;have hg:decide ((k:Int) > 0)=decide (k > 0):=by by_cases h:k > 0<;>simp [h]
 have hz:((k:Int)==0)=!decide (k > 0):=by
  by_cases h:k=0
  .subst h;rfl
  .have h1:((k:Int)==0)=false:=aU;have h2:decide (k > 0)=true:=aU;rw [h1,h2];rfl
 have hn:decide ((n.Kids.length:Int) > 1)=decide (n.Kids.length > 1):=by by_cases h:n.Kids.length > 1<;>simp [h]<;>omega
 unfold fO bP;rw [wrap64 ah ah,Ad,EC,adE,hp,h1];simp only [av,kQ,aJ,Qv,hg,hz,hn,h0,aCt];cases n.Kind==15
 .cases n.Kind==14
  .cases n.Kind==13
   .cases n.Kind==12
    .cases n.Kind==11
     .cases n.Kind==9
      .cases n.Kind==10
       .cases h6:n.Kind==6<;>(show Ud (n,p,p.eH&&!decide (k > 0),false)=_;rw [Ud,h6];rfl)
       .rfl
      .rfl
     .rfl
    .cases decide (k > 0)<;>cases p.eH<;>rfl
   .have hk0:decide (n.Kids.length > 1)=false->decide (k > 0)=false:=fun h=>by simp at h ⊢;omega
    cases hq:decide (n.Kids.length > 1)
    .rw [hk0 hq];cases p.eH<;>rfl
    .rfl
  .cases decide (k > 0)<;>cases p.eH<;>rfl
 .cases decide (k > 0)<;>cases p.eH<;>rfl
def aqm (n:aD) (k:Nat) (p:aF) (hk:k < n.Kids.length) (hl:n.Kids.length<=1000000) (hp:posB p=true) (he:eF n.Kind=true) (hlv:lv n.Kind n.Op≠0) (h12:n.Kind=12->n.Kids.length=2):PY n (k:Int) p=some (bP n.Kind n.Op n.Kids.length k p):=by
 have h0:(lv n.Kind n.Op==0)=false:=by simpa using hlv
 have h1:(decide ((k:Int)>=0)&&decide ((k:Int)<=(n.Kids.length:Int) - 1))=true:=aU;have hg:decide ((k:Int) > 0)=decide (k > 0):=by by_cases h:k > 0<;>simp [h]
 have hz:((k:Int)==0)=!decide (k > 0):=by
  by_cases h:k=0
  .subst h;rfl
  .have h1:((k:Int)==0)=false:=aU;have h2:decide (k > 0)=true:=aU;rw [h1,h2];rfl
 have hn:decide ((n.Kids.length:Int) > 1)=decide (n.Kids.length > 1):=by by_cases h:n.Kids.length > 1<;>simp [h]<;>omega
 have ho:(bL n.Op==15)=false:=by have:=MQ n.Op;simp;omega
 unfold PY bP;rw [wrap64 ah ah,Gn,ND,ajr,hp,h1];simp only [av,kQ,aJ,h0,Qv,Vv,hn];unfold adl;simp only [aCu,av,hg,PX,Yk,hz];have hc:n.Kind=1\/n.Kind=2\/n.Kind=3\/n.Kind=4\/n.Kind=5\/n.Kind=6\/n.Kind=7\/n.Kind=8\/n.Kind=9\/n.Kind=10\/n.Kind=11\/n.Kind=12\/n.Kind=13\/n.Kind=14\/n.Kind=15:=by
  unfold eF at he;simp only [eu,oo] at he;omega
 rcases hc with e|e|e|e|e|e|e|e|e|e|e|e|e|e|e<;>simp only [e]
 case inr.inr.inr.inr.inr.inr.inr.inr.inr.inr.inr.inl=>
  have hk2:k < 2:=by have:=h12 e;omega
  have hk1:((k:Int)==1)=decide (k > 0):=by
   by_cases h:k=0
   .subst h;rfl
   .have h':k=1:=ah;subst h';rfl
  have aCv:lv 12 n.Op=bL n.Op:=rfl;simp only [aCv,ho,hk1];cases decide (k > 0)<;>cases p.eH<;>rfl
 case inr.inr.inr.inr.inr.inr.inr.inr.inr.inr.inr.inr.inl=>
  have hk0:decide (n.Kids.length > 1)=false->k=0:=fun h=>by simp at h;omega
  cases hq:decide (n.Kids.length > 1)
  .have e:=hk0 hq;subst e;cases p.eH<;>rfl
  .rfl
 case inr.inr.inr.inr.inr.inr.inr.inr.inr.inr.inr.inr.inr.inl=>
  by_cases h:k=0
  .subst h;cases p.eH<;>rfl
  .have h2:decide (k > 0)=true:=aU;rw [h2];cases (k:Int)==1<;>rfl
 case inr.inr.inr.inr.inr.inr.inr.inr.inr.inr.inr.inr.inr.inr=>
  by_cases h:k=0
  .subst h;cases p.eH<;>rfl
  .have h2:decide (k > 0)=true:=aU;rw [h2];cases (k:Int)==1<;>rfl
 all_goals rfl
def aCw (N:Nat) (a:List aD) (kb:(List aD×Int)->Option Bool) (i:Nat) (hi:i < a.length) (hi2:i<=100000) (hkl:a[i].Kids.length<=100000):∀ (m j:Nat),a[i].Kids.length - j < m->j<=a[i].Kids.length->Cc N kb m (a,(i:Int),(j:Int))=some true->
  kb (a,((i+1:Nat):Int))=some true/\∀ (q:Nat) (hq:q < a[i].Kids.length),j<=q->∃ y,ix a a[i].Kids[q]=some y/\oH a[i] (q:Int) y.Kind=some true:=by
 intro m;induction m with
 | zero=>intro j h;omega
 | succ m ihm=>
  intro j hm hj hh;rw [Cc,bX hi,av] at hh;by_cases hlt:j < a[i].Kids.length
  .simp only [iT hlt,aS,bX hi,bX hlt,av] at hh;obtain ⟨y1,h1,hh⟩:=qH.1 hh;obtain ⟨y2,h2,hh⟩:=qH.1 hh;cases y2 with
   | false=>cases hh
   | true=>
    simp only [kQ,aJ] at hh;rw [wrap64 ah ah,show ((j:Int)+1)=((j+1:Nat):Int) by omega] at hh;obtain ⟨r1,r2⟩:=ihm (j+1) ah ah hh;refine ⟨r1,fun q hq hjq=>?_⟩;by_cases hqj:q=j
    .subst hqj;exact ⟨y1,h1,h2⟩
    .exact r2 q hq ah
  .simp only [kG hlt,aJ] at hh;rw [wrap64 ah ah] at hh;exact ⟨hh,fun q hq hjq=>ah⟩
def ard (N:Nat) (a:List aD) (x:aD):Prop:=yu N x=some true/\∀ (q:Nat) (hq:q < x.Kids.length),∃ y,ix a x.Kids[q]=some y/\oH x (q:Int) y.Kind=some true
def aCx (N:Nat) (a:List aD) (ha:a.length<=400) (hk:∀ x,x∈a->x.Kids.length<=400) (hN:500 < N):∀ (n i:Nat),a.length - i < n->i<=a.length->uR N n (a,(i:Int))=some true->∀ x,x∈a.drop i->ard N a x:=by
 intro n;induction n with
 | zero=>intro i h;omega
 | succ n ih=>
  intro i hn hi h x hx;rw [uR] at h;by_cases hlt:i < a.length
  .simp only [iT hlt,aS,bX hlt,av] at h;obtain ⟨b,hb,h⟩:=qH.1 h;cases b with
   | false=>cases h
   | true=>
    simp only [kQ,aJ] at h;have hkl:=hk _ (ou hlt);obtain ⟨h1,h2⟩:=aCw N a (uR N n) i hlt ah ah N 0 ah ah h;rw [drop_cons hlt] at hx;rcases iL.1 hx with rfl|hx
    .exact ⟨hb,fun q hq=>h2 q hq ah⟩
    .exact ih (i+1) ah ah h1 x hx
  .rw [drop_nil hlt] at hx;cases hx
def aji (N:Nat) (a:List aD) (hN:500 < N) (hsh:qd a=true) (h:tN N a=some true):∀ x,x∈a->ard N a x:=by
 unfold tN at h;obtain ⟨y,_,h⟩:=qH.1 h;cases y with
 | true=>cases h
 | false=>
  rw [aJ] at h;intro x hx;have h2:=(Bw hsh).2.1;exact aCx N a h2 (fun z hz=>(Vr hsh z hz).1) hN N 0 ah ah h x (by rw [KL];exact hx)
def ajs (N:Nat) (n:aD) (h:yu N n=some true):∃ lo hi,Fg n=some (lo,hi)/\DL n=some true/\lo<=(n.Kids.length:Int)/\(n.Kids.length:Int)<=hi:=by
 unfold yu at h;obtain ⟨⟨lo,hi⟩,h1,h⟩:=bind_some h;obtain ⟨y6,h2,h⟩:=bind_some h;obtain ⟨y13,h3,h⟩:=bind_some h;cases h;rcases Oq h3 with ⟨_,h3⟩|⟨_,h3⟩
 .obtain ⟨cZ,ho,h3⟩:=bind_some h3;rcases Oq h3 with ⟨hc,h3⟩|⟨_,h3⟩
  .subst hc;obtain ⟨eY,_,h3⟩:=bind_some h3;rcases Oq h3 with ⟨_,h3⟩|⟨_,h3⟩
   .obtain ⟨r16,hl,h3⟩:=bind_some h3;cases h3;rw [Ad] at hl;have hl:=mJ hl;simp only [eu,oo] at hl;exact ⟨lo,hi,h1,ho,ah,ah⟩
   .cases h3
  .cases h3
 .cases h3
def Ar (n:aD):Prop:=
 (n.Kind=1\/n.Kind=2\/n.Kind=3\/n.Kind=4->n.Kids.length=0)/\(n.Kind=5\/n.Kind=13->1<=n.Kids.length)/\(n.Kind=6\/n.Kind=9\/n.Kind=10\/n.Kind=11->n.Kids.length=1)/\
 (n.Kind=12\/n.Kind=15->n.Kids.length=2)/\(n.Kind=14->n.Kids.length=3)
def aCy (o:Int) (h:DK o=some true):bL o≠0:=by
 have hk:∀ b,sO b=some b:=fun b=>by cases b<;>rfl
 unfold DK at h;simp only [hk] at h;have hc:o=60\/o=57\/o=58\/o=59\/o=55\/o=56\/o=99\/o=63\/o=48\/o=47\/o=50\/o=62\/o=49\/o=67\/o=46\/o=45\/o=44:=by
  have key:∀ (c:Int) (x:Option Bool),(bif (o==c) then some (o==c) else x)=some true->o=c\/x=some true:=fun c x h=>by
   cases hoc:o==c with
   | true=>exact .inl (by simpa using hoc)
   | false=>rw [hoc] at h;exact .inr h
  rcases key _ _ h with e|h;· exact .inl e
  rcases key _ _ h with e|h;· simp [e]
  rcases key _ _ h with e|h;· simp [e]
  rcases key _ _ h with e|h;· simp [e]
  rcases key _ _ h with e|h;· simp [e]
  rcases key _ _ h with e|h;· simp [e]
  rcases key _ _ h with e|h;· simp [e]
  rcases key _ _ h with e|h;· simp [e]
  rcases key _ _ h with e|h;· simp [e]
  rcases key _ _ h with e|h;· simp [e]
  rcases key _ _ h with e|h;· simp [e]
  rcases key _ _ h with e|h;· simp [e]
  rcases key _ _ h with e|h;· simp [e]
  rcases key _ _ h with e|h;· simp [e]
  rcases key _ _ h with e|h;· simp [e]
  rcases key _ _ h with e|h;· simp [e]
  have:=mJ h;have e:o=44:=by simpa using this
  simp [e]
 rcases hc with e|e|e|e|e|e|e|e|e|e|e|e|e|e|e|e|e<;>subst e<;>decide
def aqw (N:Nat) (n:aD) (h:yu N n=some true) (he:eF n.Kind=true):Ar n/\lv n.Kind n.Op≠0:=by
 obtain ⟨lo,hi,h1,h2,h3,h4⟩:=ajs N n h;have hc:n.Kind=1\/n.Kind=2\/n.Kind=3\/n.Kind=4\/n.Kind=5\/n.Kind=6\/n.Kind=7\/n.Kind=8\/n.Kind=9\/n.Kind=10\/n.Kind=11\/n.Kind=12\/n.Kind=13\/n.Kind=14\/n.Kind=15:=by
  unfold eF at he;simp only [eu,oo] at he;omega
 have many:∀ (a b:Int),Fg n=some (a,b)->a<=(n.Kids.length:Int)/\(n.Kids.length:Int)<=b:=fun a b hm=>by
  rw [hm] at h1;cases h1;exact ⟨h3,h4⟩
 have val:∀ (c:Int) (r:Int×Int),n.Kind=c->(∀ m:aD,m.Kind=c->Fg m=some r)->r.1<=(n.Kids.length:Int)/\(n.Kids.length:Int)<=r.2:=fun c r e hm=>many _ _ (hm n e);have step:∀ (c:Int),n.Kind=c->Fg n=Fg ⟨c,n.Op,n.Text,n.Other,n.Kids⟩:=fun c e=>by
  obtain ⟨k,o,x,y,ks⟩:=n;subst e;rfl
 have opS:n.Kind=12->DL n=Option.bind (DK n.Op) (fun uQ=>some uQ):=fun e=>by
  obtain ⟨k,o,x,y,ks⟩:=n;subst e;rfl
 unfold Ar;rcases hc with e|e|e|e|e|e|e|e|e|e|e|e|e|e|e;all_goals
  have hm:=step _ e;simp only [e]
 case inl=>
  have hq:=many 0 0 (hm.trans rfl);refine ⟨⟨fun h=>ah,fun h=>ah,fun h=>ah,fun h=>ah,fun h=>ah⟩,?_⟩;intro h;have h:(15:Int)=0:=h;omega
 case inr.inl=>
  have hq:=many 0 0 (hm.trans rfl);refine ⟨⟨fun h=>ah,fun h=>ah,fun h=>ah,fun h=>ah,fun h=>ah⟩,?_⟩;intro h;have h:(15:Int)=0:=h;omega
 case inr.inr.inl=>
  have hq:=many 0 0 (hm.trans rfl);refine ⟨⟨fun h=>ah,fun h=>ah,fun h=>ah,fun h=>ah,fun h=>ah⟩,?_⟩;intro h;have h:(15:Int)=0:=h;omega
 case inr.inr.inr.inl=>
  have hq:=many 0 0 (hm.trans rfl);refine ⟨⟨fun h=>ah,fun h=>ah,fun h=>ah,fun h=>ah,fun h=>ah⟩,?_⟩;intro h;have h:(15:Int)=0:=h;omega
 case inr.inr.inr.inr.inl=>
  have hq:=many 1 6 (hm.trans rfl);refine ⟨⟨fun h=>ah,fun h=>ah,fun h=>ah,fun h=>ah,fun h=>ah⟩,?_⟩;intro h;have h:(15:Int)=0:=h;omega
 case inr.inr.inr.inr.inr.inl=>
  have hq:=many 1 1 (hm.trans rfl);refine ⟨⟨fun h=>ah,fun h=>ah,fun h=>ah,fun h=>ah,fun h=>ah⟩,?_⟩;intro h;have h:(14:Int)=0:=h;omega
 case inr.inr.inr.inr.inr.inr.inl=>
  have hq:=many 0 6 (hm.trans rfl);refine ⟨⟨fun h=>ah,fun h=>ah,fun h=>ah,fun h=>ah,fun h=>ah⟩,?_⟩;intro h;have h:(15:Int)=0:=h;omega
 case inr.inr.inr.inr.inr.inr.inr.inl=>
  have hq:=many 0 6 (hm.trans rfl);refine ⟨⟨fun h=>ah,fun h=>ah,fun h=>ah,fun h=>ah,fun h=>ah⟩,?_⟩;intro h;have h:(15:Int)=0:=h;omega
 case inr.inr.inr.inr.inr.inr.inr.inr.inl=>
  have hq:=many 1 1 (hm.trans rfl);refine ⟨⟨fun h=>ah,fun h=>ah,fun h=>ah,fun h=>ah,fun h=>ah⟩,?_⟩;intro h;have h:(13:Int)=0:=h;omega
 case inr.inr.inr.inr.inr.inr.inr.inr.inr.inl=>
  have hq:=many 1 1 (hm.trans rfl);refine ⟨⟨fun h=>ah,fun h=>ah,fun h=>ah,fun h=>ah,fun h=>ah⟩,?_⟩;intro h;have h:(13:Int)=0:=h;omega
 case inr.inr.inr.inr.inr.inr.inr.inr.inr.inr.inl=>
  have hq:=many 1 1 (hm.trans rfl);refine ⟨⟨fun h=>ah,fun h=>ah,fun h=>ah,fun h=>ah,fun h=>ah⟩,?_⟩;intro h;have h:(11:Int)=0:=h;omega
 case inr.inr.inr.inr.inr.inr.inr.inr.inr.inr.inr.inl=>
  have hq:=many 2 2 (hm.trans rfl);refine ⟨⟨fun h=>ah,fun h=>ah,fun h=>ah,fun h=>ah,fun h=>ah⟩,?_⟩;have h5:=opS e;rw [h2] at h5;have h6:DK n.Op=some true:=by
   cases hb:DK n.Op with
   | none=>rw [hb] at h5;cases h5
   | some v=>rw [hb] at h5;cases h5;rfl
  exact aCy n.Op h6
 case inr.inr.inr.inr.inr.inr.inr.inr.inr.inr.inr.inr.inl=>
  have hq:=many 1 6 (hm.trans rfl);refine ⟨⟨fun h=>ah,fun h=>ah,fun h=>ah,fun h=>ah,fun h=>ah⟩,?_⟩;intro h;have h:(5:Int)=0:=h;omega
 case inr.inr.inr.inr.inr.inr.inr.inr.inr.inr.inr.inr.inr.inl=>
  have hq:=many 3 3 (hm.trans rfl);refine ⟨⟨fun h=>ah,fun h=>ah,fun h=>ah,fun h=>ah,fun h=>ah⟩,?_⟩;intro h;have h:(2:Int)=0:=h;omega
 case inr.inr.inr.inr.inr.inr.inr.inr.inr.inr.inr.inr.inr.inr=>
  have hq:=many 2 2 (hm.trans rfl);refine ⟨⟨fun h=>ah,fun h=>ah,fun h=>ah,fun h=>ah,fun h=>ah⟩,?_⟩;intro h;have h:(1:Int)=0:=h;omega
def aqx (x:aD) (q:Nat) (kd:Int) (h:oH x (q:Int) kd=some true) (he:eF x.Kind=true):eF kd=true/\((x.Kind=9\/x.Kind=10\/(x.Kind=15/\q=0))->jE kd=true):=by
 have hc:x.Kind=1\/x.Kind=2\/x.Kind=3\/x.Kind=4\/x.Kind=5\/x.Kind=6\/x.Kind=7\/x.Kind=8\/x.Kind=9\/x.Kind=10\/x.Kind=11\/x.Kind=12\/x.Kind=13\/x.Kind=14\/x.Kind=15:=by
  unfold eF at he;simp only [eu,oo] at he;omega
 have other:oH x (q:Int) kd=Option.bind (qb kd) (fun r=>some r)->eF kd=true:=fun e=>by
  rw [e,Cw] at h;exact mJ h
 have target:oH x (q:Int) kd=Option.bind (GY kd) (fun r=>some r)->jE kd=true:=fun e=>by
  rw [e,QC] at h;exact mJ h
 obtain ⟨k,o,s,t,ks⟩:=x;rcases hc with e|e|e|e|e|e|e|e|e|e|e|e|e|e|e<;>(have e:k=_:=e;subst e)
 case inr.inr.inr.inr.inr.inr.inr.inr.inl=>
  have:=target rfl;exact ⟨Vw this,fun _=>this⟩
 case inr.inr.inr.inr.inr.inr.inr.inr.inr.inl=>
  have:=target rfl;exact ⟨Vw this,fun _=>this⟩
 case inr.inr.inr.inr.inr.inr.inr.inr.inr.inr.inr.inr.inr.inr=>
  have e:oH ⟨15,o,s,t,ks⟩ (q:Int) kd=((qb kd).bind fun kR=>bif kR then bif (decide<|(q:Int) > 0) then some true else ((GY kd).bind fun eP=>some eP) else (some false)).bind fun Lf=>some Lf:=rfl;rw [e,Cw,QC] at h;simp only [av] at h;cases hk:eF kd with
  | false=>rw [hk] at h;cases h
  | true=>
   rw [hk] at h;refine ⟨rfl,fun hh=>?_⟩;have hq:q=0:=by
    rcases hh with h'|h'|h'
    .have h':(15:Int)=9:=h';omega
    .have h':(15:Int)=10:=h';omega
    .exact h'.2
   subst hq;cases hl:jE kd with
   | true=>rfl
   | false=>rw [hl] at h;cases h
 all_goals
  refine ⟨other rfl,fun hh=>?_⟩;exfalso;simp at hh
def aqy (N:Nat) (n:aD) (h:yu N n=some true) (hk:n.Kind=15):n.Op≠99:=by
 obtain ⟨_,_,_,h2,_,_⟩:=ajs N n h;have e:DL n=Option.bind (BZ n.Op) (fun dI=>some dI):=by
  obtain ⟨k,o,x,y,ks⟩:=n;have hk:k=15:=hk;subst hk;rfl
 intro pG;rw [e,pG] at h2;unfold BZ at h2;rw [Ad] at h2;have h2:=mJ h2;revert h2;decide
mutual
def allT (P:aC->Prop):aC->Prop
 | ⟨k,o,x,y,ks⟩=>P ⟨k,o,x,y,ks⟩/\FV P ks
def FV (P:aC->Prop):List aC->Prop
 | []=>True
 | t::ts=>allT P t/\FV P ts
end
mutual
def RI {P Q:aC->Prop} (h:∀ t,P t->Q t):∀ t:aC,allT P t->allT Q t
 | ⟨k,o,x,y,ks⟩,ht=>by
  rw [allT] at ht ⊢;exact ⟨h _ ht.1,arf h ks ht.2⟩
def arf {P Q:aC->Prop} (h:∀ t,P t->Q t):∀ ts:List aC,FV P ts->FV Q ts
 | [],_=>by rw [FV];trivial
 | t::ts,ht=>by
  rw [FV] at ht ⊢;exact ⟨RI h t ht.1,arf h ts ht.2⟩
end
def zK (n:Nat):List Int:=(List.range n).map fun (i:Nat)=>(i:Int)
def FP (t:aC):aD:=⟨t.kind,t.op,t.text,t.other,zK t.kids.length⟩
def JJ (n:Nat):(zK n).length=n:=by simp [zK]
def aCA (n:Nat):zK (n+1)=zK n++[(n:Int)]:=by simp [zK,VX]
def aCB (N:Nat) (t:aC) (hl:t.kids.length<=100000):∀ (n i:Nat),t.kids.length - i < n->i<=t.kids.length->PV N n (t,(i:Int),zK i)=some (FP t):=by
 intro n;induction n with
 | zero=>intro i h;omega
 | succ n ih=>
  intro i hn hi;rw [PV];by_cases h:i < t.kids.length
  .simp only [iT h,aS];rw [jf (by rw [JJ];simp;omega),av,wrap64 ah ah,<- aCA];exact ih (i+1) ah ah
  .simp only [kG h,aJ];have:i=t.kids.length:=ah;subst this;rfl
def adW (N:Nat) (t:aC) (hl:t.kids.length<=100000) (hN:t.kids.length < N):Yh N t=some (FP t):=
 aCB N t hl N 0 ah ah
def kU (l:List aG) (b:Bool) (toks:List aG) (sp:List aR) (h:toks.length+l.length<=1000000):iA l b toks sp=some (toks++l):=by
 unfold iA;rw [jf ah,av]
def xK (k:Int):∃ s:aG,jJ k=some s:=by
 obtain ⟨x,_,h,_⟩:=aiu k;unfold jJ;rw [h];exact ⟨_,rfl⟩
def ajt (p q:aF):Prop:=p.Level=14/\q.Level=14/\p.nU=q.nU/\p.eH=q.eH
def adX (p q:aF):Prop:=p=q\/ajt p q
def Zy (k:Int) (p q:aF):Prop:=p=q\/k<=9
def kinds {k:Int} (he:eF k=true):k=1\/k=2\/k=3\/k=4\/k=5\/k=6\/k=7\/k=8\/k=9\/k=10\/k=11\/k=12\/k=13\/k=14\/k=15:=by
 unfold eF at he;simp only [eu,oo] at he;omega
def arh {k o:Int} {p q:aF} (he:eF k=true) (h:ajt p q):jL k o p=jL k o q/\(jL k o p=true->k<=9):=by
 obtain ⟨h1,h2,h3,h4⟩:=h;have hp:posB p=posB q:=by unfold posB;rw [h1,h2,h3]
 have ho:=MQ o;have low:lv k o < 14->(k==9)=false->∀ r:aF,r.Level=14->jL k o r=false:=fun hl h9 r hr=>by
  unfold jL;rw [h9,hr];have:decide (lv k o>=14)=false:=aU;rw [this];simp
 rcases kinds he with e|e|e|e|e|e|e|e|e|e|e|e|e|e|e<;>subst e
 case inr.inr.inr.inr.inr.inr.inr.inr.inr.inl=>
  have l:lv 10 o < 14:=by show (13:Int) < 14;decide
  rw [low l rfl p h1,low l rfl q h2];exact ⟨rfl,fun h=>by cases h⟩
 case inr.inr.inr.inr.inr.inr.inr.inr.inr.inr.inl=>
  have l:lv 11 o < 14:=by show (11:Int) < 14;decide
  rw [low l rfl p h1,low l rfl q h2];exact ⟨rfl,fun h=>by cases h⟩
 case inr.inr.inr.inr.inr.inr.inr.inr.inr.inr.inr.inl=>
  have l:lv 12 o < 14:=by show bL o < 14;omega
  rw [low l rfl p h1,low l rfl q h2];exact ⟨rfl,fun h=>by cases h⟩
 case inr.inr.inr.inr.inr.inr.inr.inr.inr.inr.inr.inr.inl=>
  have l:lv 13 o < 14:=by show (5:Int) < 14;decide
  rw [low l rfl p h1,low l rfl q h2];exact ⟨rfl,fun h=>by cases h⟩
 case inr.inr.inr.inr.inr.inr.inr.inr.inr.inr.inr.inr.inr.inl=>
  have l:lv 14 o < 14:=by show (2:Int) < 14;decide
  rw [low l rfl p h1,low l rfl q h2];exact ⟨rfl,fun h=>by cases h⟩
 case inr.inr.inr.inr.inr.inr.inr.inr.inr.inr.inr.inr.inr.inr=>
  have l:lv 15 o < 14:=by show (1:Int) < 14;decide
  rw [low l rfl p h1,low l rfl q h2];exact ⟨rfl,fun h=>by cases h⟩
 all_goals
  refine ⟨?_,fun _=>aM⟩;unfold jL;rw [hp,h1,h2,h3,h4];simp
def aqo {k o:Int} {p q:aF} (he:eF k=true) (h:adX p q):jL k o p=jL k o q/\(jL k o p=true->Zy k p q):=by
 rcases h with rfl|h
 .exact ⟨rfl,fun _=>.inl rfl⟩
 .obtain ⟨h1,h2⟩:=arh (o:=o) he h;exact ⟨h1,fun hf=>.inr<|h2 hf⟩
def aqs {k o:Int} {n j:Nat} {p q:aF} (he:eF k=true) (h:Zy k p q):adX (bP k o n j p) (bP k o n j q):=by
 rcases h with rfl|h9
 .exact .inl rfl
 .rcases kinds he with e|e|e|e|e|e|e|e|e|e|e|e|e|e|e<;>subst e<;>first
   | exact .inl rfl
   | exact .inr ⟨rfl,rfl,rfl,rfl⟩
   | (exfalso;omega)
def um {k o:Int} {n j:Nat} {p:aF} (he:eF k=true):posB (bP k o n j p)=true:=by
 have hs:∀ o,posB ⟨(kC o).1,false,p.aX,p.bg,p.eH⟩=true/\posB ⟨(kC o).2,false,p.aX,p.bg,o==99⟩=true:=fun o=>by
  unfold kC posB;cases bL o==3<;>cases bL o==4<;>cases bL o==6<;>cases bL o==7<;>cases bL o==8<;>cases bL o==9<;>cases bL o==10<;>exact ⟨rfl,rfl⟩
 rcases kinds he with e|e|e|e|e|e|e|e|e|e|e|e|e|e|e<;>subst e
 case inr.inr.inr.inr.inr.inr.inr.inr.inr.inr.inr.inl=>
  unfold bP;cases decide (j > 0)
  .exact (hs o).1
  .exact (hs o).2
 case inr.inr.inr.inr.inr.inr.inr.inr.inr.inr.inr.inr.inl=>
  unfold bP;cases decide (n > 1)<;>rfl
 all_goals (unfold bP;first|rfl|(cases decide (j > 0)<;>rfl))
def spl (k:Int):List UInt8:=(GX k).getD []
def ari (k:Int):GX k=some (spl k):=by
 obtain ⟨x,h,_⟩:=apv k;unfold spl;rw [h];rfl
def aCC (k:Int):PN k=some (spl k):=by
 obtain ⟨x,h1,h2,_⟩:=aiu k;unfold spl;rw [h1,h2];rfl
def sg (k:Int):aG:=⟨k,spl k,0⟩
def AZ (k:Int):jJ k=some (sg k):=by unfold jJ;rw [aCC];rfl
def zG (k:Int):lg k=some (sg k):=by unfold lg;rw [ari];rfl
def dB:aF:=⟨1,false,false,false,false⟩
def tgt (k:Int) (j:Nat):Bool:=((j:Int)==0)&&((k==9)||((k==10)||(k==15)))
def JF (f:Bool) (k o:Int) (p:aF):Bool:=bif f then (lv k o !=15||k==4) else !jL k o p
def zH (b:Bool) (x y:List aG):List aG:=bif b then sg 32::(y++[sg 33]) else x
def dK:Bool->List (List aG)->List aG
 | _,[]=>[]
 | b,x::xs=>(bif b then [sg 36] else [])++(x++dK true xs)
def iJ (k o:Int) (x:List UInt8) (l:List (List aG)):List aG:=
 bif k==1 then [⟨6,x,0⟩] else bif k==2 then [⟨3,x,0⟩] else bif k==3 then [⟨4,x,0⟩] else bif k==4 then [⟨5,x,0⟩]
 else bif k==5 then ⟨6,x,0⟩::sg 34::(dK false l++[sg 35])
 else bif k==7 then ⟨7,x,0⟩::sg 32::(dK false l++[sg 33])
 else bif k==8 then ⟨8,x,0⟩::sg 32::(dK false l++[sg 33])
 else bif k==9 then sg o::l.getD 0 []
 else bif k==11 then sg o::l.getD 0 []
 else bif k==6 then sg 68::l.getD 0 []
 else bif k==10 then l.getD 0 []++[sg o]
 else bif k==13 then (bif decide (l.length > 1) then sg 32::(dK false l++[sg 33]) else l.getD 0 [])++[sg 24,⟨6,x,0⟩]
 else bif k==14 then l.getD 0 []++(sg 65::(l.getD 1 []++(sg 66::l.getD 2 [])))
 else l.getD 0 []++((bif o==99 then [] else [sg o])++l.getD 1 [])
mutual
def bT (f:Bool):aC->aF->List aG
 | ⟨k,o,x,y,ks⟩,p=>iJ k o x (aZ f k o ks.length 0 p ks)
def aZ (f:Bool) (k o:Int) (n j:Nat) (p:aF):List aC->List (List aG)
 | []=>[]
 | t::ts=>(bif tgt k j then bT f t (bP k o n j p) else zH (JF f t.kind t.op<|bP k o n j p) (bT f t<|bP k o n j p) (bT f t dB))::aZ f k o n (j+1) p ts
end
def dh (f:Bool) (t:aC) (p:aF):List aG:=zH (JF f t.kind t.op p) (bT f t p) (bT f t dB)
def bD (f:Bool) (k o:Int) (n j:Nat) (p:aF) (t:aC):List aG:=bif tgt k j then bT f t (bP k o n j p) else dh f t (bP k o n j p)
def dV (f:Bool) (k o:Int) (n j:Nat) (p:aF) (t:aC) (ts:List aC):aZ f k o n j p (t::ts)=bD f k o n j p t::aZ f k o n (j+1) p ts:=by rw [aZ];rfl
def MH (f:Bool) (k o:Int) (n:Nat) (p:aF):∀ (ts:List aC) (j:Nat),(aZ f k o n j p ts).length=ts.length
 | [],j=>by rw [aZ];rfl
 | t::ts,j=>by rw [dV,kY,MH f k o n p ts,kY]
def gy (f:Bool) (t:aC) (p:aF):bT f t p=iJ t.kind t.op t.text (aZ f t.kind t.op t.kids.length 0 p t.kids):=by
 obtain ⟨k,o,x,y,ks⟩:=t;rw [bT]
def MI {α:Type} {l:List α} (h:l.length=2):∃ a b,l=[a,b]:=by
 match l,h with
 | [a,b],_=>exact ⟨a,b,rfl⟩
def adF {α:Type} {l:List α} (h:l.length=3):∃ a b c,l=[a,b,c]:=by
 match l,h with
 | [a,b,c],_=>exact ⟨a,b,c,rfl⟩
structure GN (t:aC):Prop where
 e:eF t.kind=true
 lv:lv t.kind t.op≠0
 a0:t.kind=1\/t.kind=2\/t.kind=3\/t.kind=4->t.kids.length=0
 a1:t.kind=6\/t.kind=9\/t.kind=10\/t.kind=11->t.kids.length=1
 a2:t.kind=12\/t.kind=15->t.kids.length=2
 a3:t.kind=14->t.kids.length=3
 ai:t.kind=5\/t.kind=13->1<=t.kids.length
 le:t.kids.length<=400
 ke:∀ k,k∈t.kids->eF k.kind=true
 kl:∀ k,t.kids[0]?=some k->t.kind=9\/t.kind=10\/t.kind=15->jE k.kind=true
 op:t.kind=15->t.op≠99
def wM {P:aC->Prop} {t:aC} (h:allT P t):P t:=by
 obtain ⟨k,o,x,y,ks⟩:=t;rw [allT] at h;exact h.1
def Cq {P:aC->Prop} {t:aC} (h:allT P t):∀ k,k∈t.kids->allT P k:=by
 have key:∀ ts:List aC,FV P ts->∀ k,k∈ts->allT P k:=by
  intro ts;induction ts with
  | nil=>intro _ k hk;cases hk
  | cons u ts ih=>
   intro h k hk;rw [FV] at h;rcases iL.1 hk with rfl|hk
   .exact h.1
   .exact ih h.2 k hk
 obtain ⟨k,o,x,y,ks⟩:=t;rw [allT] at h;exact key ks h.2
def aiC {k:Int} (h:jE k=true):k<=9:=by
 unfold jE at h;simp only [mI,qw] at h;omega
def aiB (f:Bool):∀ t:aC,allT GN t->(∀ p q,Zy t.kind p q->bT f t p=bT f t q)/\(∀ p q,adX p q->dh f t p=dh f t q):=by
 intro t;induction t using yC with
 | h t ih=>
  intro h;have g:=wM h;have hk:=Cq h;have hB:∀ p q,Zy t.kind p q->bT f t p=bT f t q:=fun p q hr=>by
   have key:∀ (ts:List aC) (j:Nat),(∀ k,k∈ts->k∈t.kids)->(j=0->∀ k,ts[0]?=some k->t.kids[0]?=some k)->aZ f t.kind t.op t.kids.length j p ts=aZ f t.kind t.op t.kids.length j q ts:=by
    intro ts;induction ts with
    | nil=>intro j _ _;rw [aZ,aZ]
    | cons u ts ih2=>
     intro j hm h0;have hu:=hm u aA;have hrel:=aqs (o:=t.op) (n:=t.kids.length) (j:=j) g.e hr;rw [dV,dV,ih2 (j+1) (fun k hk=>hm k<|by simp [hk]) fun e=>ah];congr 1;unfold bD;cases ht:tgt t.kind j with
     | true=>
      have hj:j=0:=by
       unfold tgt at ht;simp only [eu,qw] at ht;omega
      have JK:u.kind<=9:=aiC (g.kl u (h0 hj u rfl) (by
       unfold tgt at ht;simp only [eu,mI,qw] at ht;exact ht.2))
      exact (ih u hu<|hk u hu).1 _ _ (.inr JK)
     | false=>exact (ih u hu<|hk u hu).2 _ _ hrel
   rw [gy,gy,key t.kids 0 (fun k hk=>hk) fun _ k hk=>hk]
  refine ⟨hB,fun p q hr=>?_⟩;obtain ⟨h1,h2⟩:=aqo (o:=t.op) g.e hr;unfold dh JF;rw [h1];cases f with
  | false=>
   cases hf:jL t.kind t.op q with
   | true=>exact hB p q (h2<|by rw [h1];exact hf)
   | false=>rfl
  | true=>
   cases hx:(lv t.kind t.op !=15||t.kind==4) with
   | true=>rfl
   | false=>
    simp only [aS,zH,aJ,hx];simp only [KF,bne_eq_false_iff_eq] at hx;refine hB p q (.inr ?_);have hl:=hx.1;have ho:=MQ t.op;rcases kinds g.e with e|e|e|e|e|e|e|e|e|e|e|e|e|e|e<;>rw [e] at hl ⊢<;>first
     | decide
     | (exfalso;simp [lv] at hl;done)
     | (exfalso;simp [lv] at hl;omega)
def YW:∀ (l:List (List aG)) (b:Bool),(dK b l).length<=(l.map List.length).sum+l.length
 | [],b=>by simp [dK]
 | x::xs,b=>by
  have:=YW xs true;rw [dK];cases b<;>simp only [aS,aJ,fP,rY,aaY,kY,wQ]<;>omega
def aCD (l:List (List aG)) (j:Nat):(l.getD j []).length<=(l.map List.length).sum:=by
 induction l generalizing j with
 | nil=>simp
 | cons x l ih=>
  cases j with
  | zero=>simp
  | succ j=>
   have:=ih j;simp only [List.getD_cons_succ,rY,aaY];omega
def aCE (k o:Int) (x:List UInt8) (l:List (List aG)) (h2:k≠14->(l.getD 0 []).length+(l.getD 1 []).length<=(l.map List.length).sum) (h3:(l.getD 0 []).length+(l.getD 1 []).length+(l.getD 2 []).length<=(l.map List.length).sum):(iJ k o x l).length<=(l.map List.length).sum+l.length+4:=by
 have c:=YW l false;have g0:=aCD l 0;have key:∀ (b:Bool) (x y:List aG) (n:Nat),x.length<=n->y.length<=n->(bif b then x else y).length<=n:=fun b x y n hx hy=>by cases b<;>assumption
 unfold iJ;repeat' (refine key _ _ _ _ ?_ ?_)
 all_goals (try simp only [fP,kY,wQ])
 all_goals (try omega)
 .have:=key (decide<|l.length > 1) (sg 32::(dK false l++[sg 33])) (l.getD 0 []) ((l.map List.length).sum+l.length+2) (by simp only [fP,kY,wQ];omega) ah;omega
 .have:=key (o==99) [] [sg o] 1 aA aA;by_cases h:k=14
  .omega
  .have:=h2 h;omega
def aCF (l:List (List aG)):(l.getD 0 []).length+(l.getD 1 []).length+(l.getD 2 []).length<=(l.map List.length).sum:=by
 match l with
 | []=>simp
 | [a]=>simp
 | [a,b]=>simp
 | a::b::c::r=>simp;omega
def aCG (k o:Int) (x:List UInt8) (l:List (List aG)):(iJ k o x l).length<=(l.map List.length).sum+l.length+4:=by
 have h:=aCF l;exact aCE k o x l (fun _=>ah) h
mutual
def Qu (f:Bool):∀ (t:aC) (p:aF),(bT f t p).length+4<=8*aQ t
 | ⟨k,o,x,y,ks⟩,p=>by
  have h1:=aCG k o x (aZ f k o ks.length 0 p ks);have h2:=YX f k o ks.length p ks 0;have h3:=MH f k o ks.length p ks 0;rw [bT,aQ];omega
def YX (f:Bool) (k o:Int) (n:Nat) (p:aF):∀ (ts:List aC) (j:Nat),((aZ f k o n j p ts).map List.length).sum+ts.length<=8*aK ts
 | [],j=>by rw [aZ];simp
 | t::ts,j=>by
  have h1:=YX f k o n p ts (j+1);have h2:=Qu f t (bP k o n j p);have h3:=Qu f t dB;rw [aZ,aK];simp only [rY,aaY,kY];cases tgt k j<;>simp only [aS,aJ]
  .unfold zH;cases JF f t.kind t.op (bP k o n j p)<;>simp only [aS,aJ,kY,fP,wQ]<;>omega
  .omega
end
def Kw (f:Bool) (t:aC) (p:aF):(dh f t p).length+2<=8*aQ t:=by
 have h2:=Qu f t p;have h3:=Qu f t dB;unfold dh zH;cases JF f t.kind t.op p<;>simp only [aS,aJ,kY,fP,wQ]<;>omega
def rP (f:Bool) (k o:Int) (n j:Nat) (p:aF) (t:aC):(bD f k o n j p t).length+2<=8*aQ t:=by
 unfold bD;have h1:=Qu f t (bP k o n j p);have h2:=Kw f t (bP k o n j p);cases tgt k j<;>simp only [aS,aJ]<;>omega
def kd (l:List aG) (i:Nat):Int:=(l[i]?.map (·.Kind)).getD 0
def zN {α β γ δ:Type} (x:Option (α×β×γ×δ)):(Option.bind x fun r=>some (r.1,r.2.1,r.2.2.1,r.2.2.2))=x:=by
 cases x<;>rfl
def gY (l:List aG) (i:Nat) (b:Bool) (ns:List aG):ku l (i:Int) b ns=some (kd l i):=by
 unfold ku kd;by_cases h:i < l.length
 .have:decide ((i:Int)>=(l.length:Int))=false:=aU;rw [this,aJ,bX h,av,fB h];rfl
 .have:decide ((i:Int)>=(l.length:Int))=true:=aU;rw [this,aS,Da ah];rfl
def aju {l:List aG} {i:Nat} (h:kd l i≠0):i < l.length:=by
 cases xX i l.length with
 | inl h=>exact h
 | inr g=>exfalso;apply h;unfold kd;rw [Da ah];rfl
def Ba {l:List aG} {i:Nat} (h:i < l.length):kd l i=l[i].Kind:=by unfold kd;rw [fB h];rfl
def oK {k:Int} {l:List aG} {i:Nat} (ns:List aG) (hi:i < l.length) (hl:l.length<=100000) (h:kd l i=k):nZ k l (i:Int) false ns=some (l[i],((i+1:Nat):Int),false):=by
 unfold nZ;have e:(kd l i !=k)=false:=by simp [h]
 simp only [aJ,gY,av,e,bX hi];rw [wrap64 ah ah];rfl
def mV (k:Int):Bool:=k==32||(k==34||k==30)
def nK (k:Int):Bool:=k==33||(k==35||k==31)
def Vy {k:Int} (h:mV k=true):nK k=false/\(k==36)=false:=by
 unfold mV at h;simp only [mI,qw] at h;rcases h with h|h|h<;>subst h<;>decide
def arj {k:Int} (h:nK k=true):(k==36)=false:=by
 unfold nK at h;simp only [mI,qw] at h;rcases h with h|h|h<;>subst h<;>decide
def aCH (t:aC) (hb:Bool) (h:aQ t<=1000000):∃ nd,Yp ⟨bf 0 t,hb⟩=some nd/\nd.Kind=t.kind:=by
 have hl:=rV t 0;have hp:=kN t;unfold Yp;simp only [];have c1:(((bf 0 t).length:Int)==0)=false:=by rw [aaN];omega
 have c2:(bf 0 t).length - 1 < (bf 0 t).length:=ah;rw [c1,aJ,wrap64 ah ah,show ((bf 0 t).length:Int) - 1=(((bf 0 t).length - 1:Nat):Int) by omega,bX c2];refine ⟨_,rfl,?_⟩;cases t with
 | mk k o tx ot ks=>
  simp only [bf];simp
def ajv (t:aC) (hb:Bool) (h:aQ t<=1000000):UJ ⟨bf 0 t,hb⟩=some (!hb&&jE t.kind):=by
 obtain ⟨nd,h1,h2⟩:=aCH t hb h;unfold UJ;cases hb with
 | true=>rfl
 | false=>simp only [ru,aS,h1,av,QC,h2,Df]
def RdM (l:List aG) (M:Nat) (q:aF) (i j:Nat) (t:aC) (h:Bool):Prop:=∀ ns:List aG,(bq M).eD q l (i:Int) false ns=some ((⟨bf 0 t,h⟩:bS),(j:Int),false,ns)
def Rd (l:List aG) (q:aF) (i j:Nat) (t:aC) (h:Bool):Prop:=∀ M,1100000+100*(l.length - i)+4*(16 - q.Level.toNat)<=M->RdM l M q i j t h
def bE (q:aF) (lv:Int):aF:=⟨lv,false,q.aX,q.bg,false⟩
def yG (k:Int):Bool:=k==3||(k==4||(k==6||(k==7||(k==8||(k==32||k==68)))))
def sW (k:Int):Bool:=(BZ k).getD false
def ajw (k:Int):BZ k=some (sW k):=by
 unfold sW BZ;rw [Ad];cases (k==54)<;>rfl
def cont (lv:Int) (q:aF) (k:Int):Bool:=
 bif lv==1 then sW k else bif lv==2 then k==65 else bif lv==5 then k==24&&!q.aX
 else bif lv==8 then yG k else bif lv==12 then k==60 else bif lv==13 then (k==51||k==52)
 else bif lv==11 then false else bif lv==14 then false else bif lv==15 then false
 else k !=0&&(k !=99&&(bL k==lv&&(k !=62||!q.bg)))
def ark (M:Nat) (R:fD) (l:List aG) (q:aF) (i:Int) (ns:List aG) (hq:q.Level=1):jh M R q l i false ns=R.Mw q l i false ns:=by
 obtain ⟨v,s,a,g,d⟩:=q;have hq:v=1:=hq;subst hq;show Option.bind (R.Mw ⟨1,s,a,g,d⟩ l i false ns) (fun r=>some (r.1,r.2.1,r.2.2.1,r.2.2.2))=_;rw [zN]
def arl (M:Nat) (R:fD) (l:List aG) (q:aF) (i:Int) (ns:List aG) (hq:q.Level=2):jh M R q l i false ns=R.Mv q l i false ns:=by
 obtain ⟨v,s,a,g,d⟩:=q;have hq:v=2:=hq;subst hq;show Option.bind (R.Mv ⟨2,s,a,g,d⟩ l i false ns) (fun r=>some (r.1,r.2.1,r.2.2.1,r.2.2.2))=_;rw [zN]
def aCI (M:Nat) (R:fD) (l:List aG) (q:aF) (i:Int) (ns:List aG) (hq:q.Level=5):jh M R q l i false ns=R.Mt q l i false ns:=by
 obtain ⟨v,s,a,g,d⟩:=q;have hq:v=5:=hq;subst hq;show Option.bind (R.Mt ⟨5,s,a,g,d⟩ l i false ns) (fun r=>some (r.1,r.2.1,r.2.2.1,r.2.2.2))=_;rw [zN]
def ajx (M:Nat) (R:fD) (l:List aG) (q:aF) (i:Int) (ns:List aG) (hq:q.Level=11):jh M R q l i false ns=R.Ms q l i false ns:=by
 obtain ⟨v,s,a,g,d⟩:=q;have hq:v=11:=hq;subst hq;show Option.bind (R.Ms ⟨11,s,a,g,d⟩ l i false ns) (fun r=>some (r.1,r.2.1,r.2.2.1,r.2.2.2))=_;rw [zN]
def arn (M:Nat) (R:fD) (l:List aG) (q:aF) (i:Int) (ns:List aG) (hq:q.Level=12):jh M R q l i false ns=R.FD q l i false ns:=by
 obtain ⟨v,s,a,g,d⟩:=q;have hq:v=12:=hq;subst hq;show Option.bind (R.FD ⟨12,s,a,g,d⟩ l i false ns) (fun r=>some (r.1,r.2.1,r.2.2.1,r.2.2.2))=_;rw [zN]
def ajy (M:Nat) (R:fD) (l:List aG) (q:aF) (i:Int) (ns:List aG) (hq:q.Level=13):jh M R q l i false ns=R.Mr q l i false ns:=by
 obtain ⟨v,s,a,g,d⟩:=q;have hq:v=13:=hq;subst hq;show Option.bind (R.Mr ⟨13,s,a,g,d⟩ l i false ns) (fun r=>some (r.1,r.2.1,r.2.2.1,r.2.2.2))=_;rw [zN]
def ajz (M:Nat) (R:fD) (l:List aG) (q:aF) (i:Int) (ns:List aG) (hq:q.Level=14):jh M R q l i false ns=R.Mq q l i false ns:=by
 obtain ⟨v,s,a,g,d⟩:=q;have hq:v=14:=hq;subst hq;show Option.bind (R.Mq ⟨14,s,a,g,d⟩ l i false ns) (fun r=>some (r.1,r.2.1,r.2.2.1,r.2.2.2))=_;rw [zN]
def QJ (M:Nat) (R:fD) (l:List aG) (q:aF) (i:Int) (ns:List aG) (hq:q.Level=15):jh M R q l i false ns=R.HY l i false ns:=by
 obtain ⟨v,s,a,g,d⟩:=q;have hq:v=15:=hq;subst hq;show Option.bind (R.HY l i false ns) (fun r=>some (r.1,r.2.1,r.2.2.1,r.2.2.2))=_;rw [zN]
def aCJ (M:Nat) (R:fD) (l:List aG) (q:aF) (i:Int) (ns:List aG) (hq:q.Level=3):jh M R q l i false ns=R.qN q 3 3000 l i false ns:=by
 obtain ⟨v,s,a,g,d⟩:=q;have hq:v=3:=hq;subst hq;show Option.bind (R.qN ⟨3,s,a,g,d⟩ 3 3000 l i false ns) (fun r=>some (r.1,r.2.1,r.2.2.1,r.2.2.2))=_;rw [zN]
def aCK (M:Nat) (R:fD) (l:List aG) (q:aF) (i:Int) (ns:List aG) (hq:q.Level=4):jh M R q l i false ns=R.qN q 4 3000 l i false ns:=by
 obtain ⟨v,s,a,g,d⟩:=q;have hq:v=4:=hq;subst hq;show Option.bind (R.qN ⟨4,s,a,g,d⟩ 4 3000 l i false ns) (fun r=>some (r.1,r.2.1,r.2.2.1,r.2.2.2))=_;rw [zN]
def aCL (M:Nat) (R:fD) (l:List aG) (q:aF) (i:Int) (ns:List aG) (hq:q.Level=8):jh M R q l i false ns=R.qN q 8 3000 l i false ns:=by
 obtain ⟨v,s,a,g,d⟩:=q;have hq:v=8:=hq;subst hq;show Option.bind (R.qN ⟨8,s,a,g,d⟩ 8 3000 l i false ns) (fun r=>some (r.1,r.2.1,r.2.2.1,r.2.2.2))=_;rw [zN]
def aCM (M:Nat) (R:fD) (l:List aG) (q:aF) (i:Int) (ns:List aG) (hq:q.Level=9):jh M R q l i false ns=R.qN q 9 3000 l i false ns:=by
 obtain ⟨v,s,a,g,d⟩:=q;have hq:v=9:=hq;subst hq;show Option.bind (R.qN ⟨9,s,a,g,d⟩ 9 3000 l i false ns) (fun r=>some (r.1,r.2.1,r.2.2.1,r.2.2.2))=_;rw [zN]
def aCN (M:Nat) (R:fD) (l:List aG) (q:aF) (i:Int) (ns:List aG) (hq:q.Level=10):jh M R q l i false ns=R.qN q 10 3000 l i false ns:=by
 obtain ⟨v,s,a,g,d⟩:=q;have hq:v=10:=hq;subst hq;show Option.bind (R.qN ⟨10,s,a,g,d⟩ 10 3000 l i false ns) (fun r=>some (r.1,r.2.1,r.2.2.1,r.2.2.2))=_;rw [zN]
def aCO (M:Nat) (R:fD) (l:List aG) (q:aF) (i:Int) (ns:List aG) (hq:q.Level=6):jh M R q l i false ns=R.qN q 6 1 l i false ns:=by
 obtain ⟨v,s,a,g,d⟩:=q;have hq:v=6:=hq;subst hq;show Option.bind (R.qN ⟨6,s,a,g,d⟩ 6 1 l i false ns) (fun r=>some (r.1,r.2.1,r.2.2.1,r.2.2.2))=_;rw [zN]
def aCP (M:Nat) (R:fD) (l:List aG) (q:aF) (i:Int) (ns:List aG) (hq:q.Level=7):jh M R q l i false ns=R.qN q 7 1 l i false ns:=by
 obtain ⟨v,s,a,g,d⟩:=q;have hq:v=7:=hq;subst hq;show Option.bind (R.qN ⟨7,s,a,g,d⟩ 7 1 l i false ns) (fun r=>some (r.1,r.2.1,r.2.2.1,r.2.2.2))=_;rw [zN]
section
variable (l:List aG) (q:aF) (i j:Nat) (t:aC) (h:Bool) (hsz:aQ t<=400)
theorem aCQ (hq:q.Level=1) (hr:Rd l (bE q 2) i j t h) (hc:cont 1 q (kd l j)=false) (hsz:aQ t<=400):Rd l q i j t h:=by
 intro M hM ns;obtain ⟨M,rfl⟩:∃ m,M=m+2:=⟨M - 2,ah⟩
 have hc:sW (kd l j)=false:=hc;have e:=hr M (by rw [hq] at hM;show _+4*(16 - (2:Int).toNat)<=M;have:(2:Int).toNat=2:=rfl;have:(1:Int).toNat=1:=rfl;omega) ns;show jh (M+1) (bq<|M+1) q l (i:Int) false ns=_;rw [ark _ _ _ _ _ _ hq];show Ql M (bq M) q l (i:Int) false ns=_;unfold Ql mo;simp only [av];have e':(bq M).eD ⟨2,false,q.aX,q.bg,false⟩ l (i:Int) false ns=_:=e;rw [e'];simp only [av,aJ,ajv t h ah,gY,ajw,hc];cases (!h&&jE t.kind)<;>rfl
theorem aCR (hq:q.Level=2) (hr:Rd l (bE q 3) i j t h) (hc:cont 2 q (kd l j)=false):Rd l q i j t h:=by
 intro M hM ns;obtain ⟨M,rfl⟩:∃ m,M=m+2:=⟨M - 2,ah⟩
 have hc:(kd l j==65)=false:=hc;have hc2:(kd l j !=65)=true:=by rw [bne,hc];rfl
 have e:=hr M (by rw [hq] at hM;show _+4*(16 - (3:Int).toNat)<=M;have:(2:Int).toNat=2:=rfl;have:(3:Int).toNat=3:=rfl;omega) ns;show jh (M+1) (bq<|M+1) q l (i:Int) false ns=_;rw [arl _ _ _ _ _ _ hq];show Qk M (bq M) q l (i:Int) false ns=_;unfold Qk mo;simp only [av];have e':(bq M).eD ⟨3,false,q.aX,q.bg,false⟩ l (i:Int) false ns=_:=e;rw [e'];simp only [av,aJ,gY,hc2,aS]
theorem aCS (hq:q.Level=12) (hr:Rd l (bE q 13) i j t h) (hc:cont 12 q (kd l j)=false):Rd l q i j t h:=by
 intro M hM ns;obtain ⟨M,rfl⟩:∃ m,M=m+2:=⟨M - 2,ah⟩
 have hc:(kd l j==60)=false:=hc;have hc2:(kd l j !=60)=true:=by rw [bne,hc];rfl
 have e:=hr M (by rw [hq] at hM;show _+4*(16 - (13:Int).toNat)<=M;have:(12:Int).toNat=12:=rfl;have:(13:Int).toNat=13:=rfl;omega) ns;show jh (M+1) (bq<|M+1) q l (i:Int) false ns=_;rw [arn _ _ _ _ _ _ hq];show FE M (bq M) q l (i:Int) false ns=_;unfold FE mo;simp only [av];have e':(bq M).eD ⟨13,false,q.aX,q.bg,false⟩ l (i:Int) false ns=_:=e;rw [e'];simp only [av,aJ,gY,hc2,aS]
theorem aCT (hq:q.Level=11) (hr:Rd l (bE q 13) i j t h) (hc:cont 12 q (kd l j)=false) (hk:(kd l i==56||(kd l i==55||kd l i==61))=false):Rd l q i j t h:=by
 intro M hM ns;obtain ⟨M,rfl⟩:∃ m,M=m+3:=⟨M - 3,ah⟩
 have hc:(kd l j==60)=false:=hc;have hc2:(kd l j !=60)=true:=by rw [bne,hc];rfl
 have e:=hr M (by rw [hq] at hM;show _+4*(16 - (13:Int).toNat)<=M;have:(11:Int).toNat=11:=rfl;have:(13:Int).toNat=13:=rfl;omega) ns;show jh (M+2) (bq<|M+2) q l (i:Int) false ns=_;rw [ajx _ _ _ _ _ _ hq];show JD (M+1) (bq<|M+1) q l (i:Int) false ns=_;unfold JD;have hor:(bif (kd l i==56) then some true else (bif (kd l i==55) then some true else some (kd l i==61)))=some false:=by
  rw [KF,KF] at hk;rw [hk.1,hk.2.1,hk.2.2];rfl
 rw [gY];simp only [av,hor,aJ];show Option.bind (FE M (bq M) q l (i:Int) false ns) _=_;unfold FE mo;simp only [av];have e':(bq M).eD ⟨13,false,q.aX,q.bg,false⟩ l (i:Int) false ns=_:=e;rw [e'];simp only [av,aJ,gY,hc2,aS]
theorem QK (k:Int):Mj k=some (k==51||k==52):=by
 unfold Mj;cases (k==51)<;>rfl
theorem aCU (hq:q.Level=13) (hr:Rd l (bE q 14) i j t h) (hc:cont 13 q (kd l j)=false) (hk:(kd l i==51||kd l i==52)=false):Rd l q i j t h:=by
 intro M hM ns;obtain ⟨M,rfl⟩:∃ m,M=m+2:=⟨M - 2,ah⟩
 have hc:(kd l j==51||kd l j==52)=false:=hc;have e:=hr M (by rw [hq] at hM;show _+4*(16 - (14:Int).toNat)<=M;have:(14:Int).toNat=14:=rfl;have:(13:Int).toNat=13:=rfl;omega) ns;show jh (M+1) (bq<|M+1) q l (i:Int) false ns=_;rw [ajy _ _ _ _ _ _ hq];show JC M (bq M) q l (i:Int) false ns=_;unfold JC mo;rw [gY];simp only [av,QK,hk,aJ];have e':(bq M).eD ⟨14,false,q.aX,q.bg,false⟩ l (i:Int) false ns=_:=e;rw [e'];simp only [av,aJ,gY,QK,hc,aS,ru]
theorem aCV (hq:q.Level=14) (hr:Rd l (bE q 15) i j t h) (hk:kd l i≠68):Rd l q i j t h:=by
 intro M hM ns;obtain ⟨M,rfl⟩:∃ m,M=m+2:=⟨M - 2,ah⟩
 have hk2:(kd l i !=68)=true:=by simpa using hk
 have e:=hr (M+1) (by rw [hq] at hM;show _+4*(16 - (15:Int).toNat)<=M+1;have:(14:Int).toNat=14:=rfl;have:(15:Int).toNat=15:=rfl;omega) ns;have e:jh M (bq M) (bE q 15) l (i:Int) false ns=some ((⟨bf 0 t,h⟩:bS),(j:Int),false,ns):=e;rw [QJ _ _ _ _ _ _ rfl] at e;show jh (M+1) (bq<|M+1) q l (i:Int) false ns=_;rw [ajz _ _ _ _ _ _ hq];show JB M (bq M) q l (i:Int) false ns=_;unfold JB;rw [gY];simp only [av,hk2,aS,e]
end
def aCW (k:Int):UH k=some (yG k):=by
 unfold UH Hw yG;cases (k==3)<;>cases (k==4)<;>cases (k==6)<;>cases (k==7)<;>cases (k==8)<;>cases (k==32)<;>cases (k==68)<;>rfl
def Bb (lv most:Int) (sd:Int×Int):Prop:=(lv=3/\most=3000/\sd=(3,4))\/(lv=4/\most=3000/\sd=(4,5))\/(lv=6/\most=1/\sd=(7,7))\/(lv=7/\most=1/\sd=(8,8))\/(lv=8/\most=3000/\sd=(8,9))\/(lv=9/\most=3000/\sd=(9,10))\/(lv=10/\most=3000/\sd=(10,11))
def aCX {lv most:Int} {sd:Int×Int} (hc:Bb lv most sd) (l:List aG) (M:Nat) (q:aF) (i j:Nat) (t:aC) (h:Bool) (ns:List aG) (hr:RdM l M (bE q<|lv+1) i j t h):Yw M (bq M) q lv most l (i:Int) false ns=uj M (bq M) l M (lv,most,sd,q,0,(j:Int),false,h,ns,bf 0 t):=by
  have e:=hr ns;rcases hc with ⟨rfl,rfl,rfl⟩|⟨rfl,rfl,rfl⟩|⟨rfl,rfl,rfl⟩|⟨rfl,rfl,rfl⟩|⟨rfl,rfl,rfl⟩|⟨rfl,rfl,rfl⟩|⟨rfl,rfl,rfl⟩;all_goals
    first
    | (show Option.bind ((bq M).eD (bE q _) l (i:Int) false ns) (fun r9=>uj M (bq M) l M (_,_,_,q,0,r9.2.1,r9.2.2.1,r9.1.held,r9.2.2.2,r9.1.l))=_
       exact (congrArg (fun x=>Option.bind x _) e).trans rfl)
def aro {lv most:Int} {sd:Int×Int} (hc:Bb lv most sd) (l:List aG) (q:aF) (j:Nat) (ns:List aG):Yr lv q l (j:Int) false ns=some (cont lv q<|kd l j):=by
 have ho:Fq (kd l j)=some (bL<|kd l j):=by
  obtain ⟨v,h,_⟩:=ajp (kd l j);unfold bL;rw [h];rfl
 unfold Yr;rw [gY,av,aJ,av];by_cases h8:lv=8
 .subst h8;rw [show ((8:Int)==8)=true from rfl,aS,aCW];rfl
 .have:(lv==8)=false:=by simpa using h8
  rw [this,aJ,ho];have hcont:cont lv q (kd l j)=(kd l j !=0&&(kd l j !=99&&(bL (kd l j)==lv&&(kd l j !=62||!q.bg)))):=by
   rcases hc with ⟨rfl,_⟩|⟨rfl,_⟩|⟨rfl,_⟩|⟨rfl,_⟩|⟨rfl,_⟩|⟨rfl,_⟩|⟨rfl,_⟩<;>first|rfl|exact absurd rfl h8
  rw [hcont];cases (kd l j !=0)<;>cases (kd l j !=99)<;>cases hx:(bL (kd l j)==lv)<;>cases (kd l j !=62)<;>simp [hx]
def aCY {lv most:Int} {sd:Int×Int} (hc:Bb lv most sd) (l:List aG) (M n:Nat) (q:aF) (c:Int) (j:Nat) (h:Bool) (ns:List aG) (L:List aD) (hs:cont lv q (kd l j)=false\/ ¬c < most):uj M (bq M) l (n+1) (lv,most,sd,q,c,(j:Int),false,h,ns,L)=some ((⟨L,h⟩:bS),(j:Int),false,ns):=by
 rw [uj,aro hc];by_cases hm:c < most
 .rcases hs with hs|hs
  .rw [kP hm,hs];rfl
  .exact absurd hm hs
 .rw [pQ hm];rfl
def Ln (l:List aG) (a f:Nat):Prop:=a<=f/\(∀ k,a<=k->k < f->kd l k=1)/\kd l f≠1/\kd l f≠2
def arp (l:List aG) (hl:l.length<=3000) (N':Nat) (ns:List aG):∀ (n a f fuel:Nat),f - a<=n->n < fuel->Ln l a f->FC N' l false fuel ((a:Int),ns)=some ((f:Int),ns)
 | 0,a,f,fuel,h1,h2,h=>by
  obtain ⟨fuel,rfl⟩:∃ m,fuel=m+1:=⟨fuel - 1,ah⟩
  have e:a=f:=by have:=h.1;omega
  subst e;have e1:(kd l a==1)=false:=by simpa using h.2.2.1
  have e2:(kd l a==2)=false:=by simpa using h.2.2.2
  rw [FC];simp only [gY,av,ru,aS,e1,aJ,e2]
 | n+1,a,f,fuel,h1,h2,h=>by
  obtain ⟨fuel,rfl⟩:∃ m,fuel=m+1:=⟨fuel - 1,ah⟩
  by_cases e:a=f
  .subst e;have e1:(kd l a==1)=false:=by simpa using h.2.2.1
   have e2:(kd l a==2)=false:=by simpa using h.2.2.2
   rw [FC];simp only [gY,av,ru,aS,e1,aJ,e2]
  .have hlt:a < f:=by have:=h.1;omega
   have e1:kd l a=1:=h.2.1 a (eU _) hlt;have ha:=aju (l:=l) (i:=a) (by rw [e1];decide);rw [FC];simp only [ru,aS,gY,av,e1,afp,Int.reduceBEq,aJ];unfold Yq;simp only [];rw [wrap64 ah ah,show (a:Int)+1=((a+1:Nat):Int) by omega];exact arp l hl N' ns n (a+1) f fuel ah ah ⟨ah,fun k g1 g2=>h.2.1 k ah g2,h.2.2⟩
def Ln.le {l:List aG} {a f:Nat} (h:Ln l a f) (ha:a<=l.length):f<=l.length:=by
 by_cases e:a=f
 .omega
 .have h1:=h.1;have:=aju (l:=l) (i:=f - 1) (by rw [h.2.1 (f - 1) ah ah];decide);omega
def arq (l:List aG) (hl:l.length<=3000) {N a f:Nat} (ns:List aG) (hN:3000 < N) (ha:a<=l.length) (h:Ln l a f):UK N l (a:Int) false ns=some ((f:Int),ns):=by
 unfold UK;have:=h.le ha;rw [arp l hl N ns (f - a) a f N ah ah h]
def aCZ {lv most:Int} {sd:Int×Int} (hc:Bb lv most sd) (l:List aG) (hl:l.length<=3000) (M n:Nat) (hM:1048577 < M) (q:aF) (c:Nat) (hcm:(c:Int) < most) (j j2:Nat) (h hb:Bool) (ns:List aG) (t u:aC) (hz:aQ t+aQ u<=1000) (hgo:cont lv q (kd l j)=true)
  (f0 f:Nat) (op:Int) (hf:lv=8/\f0=j/\op=99\/lv≠8/\f0=j+1/\op=kd l j/\j < l.length) (hj0:j<=l.length) (hln:(lv=3\/lv=4)/\Ln l f0 f\/ ¬(lv=3\/lv=4)/\f=f0) (hr:RdM l M (bE q sd.2) f j2 u hb):
  uj M (bq M) l (n+1) (lv,most,sd,q,(c:Int),(j:Int),false,h,ns,bf 0 t)=uj M (bq M) l n (lv,most,sd,q,((c+1:Nat):Int),(j2:Int),false,false,ns,bf 0 ⟨12,op,[],[],[t,u]⟩):=by
 obtain ⟨M,rfl⟩:∃ m,M=m+1:=⟨M - 1,ah⟩
 have hcb:c < 3000:=by rcases hc with ⟨_,rfl,_⟩|⟨_,rfl,_⟩|⟨_,rfl,_⟩|⟨_,rfl,_⟩|⟨_,rfl,_⟩|⟨_,rfl,_⟩|⟨_,rfl,_⟩<;>omega
 have hm:=yE (M+1) ⟨12,op,[],[],[]⟩ [t,u] hM (by simp only [aK];omega);have e:=hr ns;have k4:UM (M+1) (bq<|M+1) l (uj (M+1) (bq<|M+1) l n) (lv,most,sd,(c:Int),op,false,q,h,bf 0 t,(f:Int),ns)=uj (M+1) (bq<|M+1) l n (lv,most,sd,q,((c+1:Nat):Int),(j2:Int),false,false,ns,bf 0 ⟨12,op,[],[],[t,u]⟩):=by
  unfold UM mo rM;dsimp only;rw [av];have e':(bq<|M+1).eD ⟨sd.2,false,q.aX,q.bg,false⟩ l (f:Int) false ns=_:=e;rw [e',av];have hm':fJ (M+1) ⟨12,op,[],[],[]⟩ [bf 0 t,bf 0 u]=_:=hm;dsimp only;rw [hm',av,av,wrap64 ah ah,show (c:Int)+1=((c+1:Nat):Int) by omega]
 have k3:UN (M+1) (bq<|M+1) l (uj (M+1) (bq<|M+1) l n) (lv,most,sd,(c:Int),false,q,h,ns,bf 0 t,op,(f0:Int))=uj (M+1) (bq<|M+1) l n (lv,most,sd,q,((c+1:Nat):Int),(j2:Int),false,false,ns,bf 0 ⟨12,op,[],[],[t,u]⟩):=by
  unfold UN;dsimp only;have hor:(bif (lv==3) then some true else some (lv==4))=some (lv==3||lv==4):=by cases (lv==3)<;>rfl
  have hf0:f0<=l.length:=ah;rw [hor,av];rcases hln with ⟨hv,hln⟩|⟨hv,rfl⟩
  .have:(lv==3||lv==4)=true:=by rcases hv with rfl|rfl<;>rfl
   rw [this,aS,arq l hl ns ah hf0 hln,av];exact k4
  .have:(lv==3||lv==4)=false:=aU;rw [this,aJ];exact k4
 rw [uj,aro hc,kP hcm,hgo];simp only [aS,av];rcases hf with ⟨hv,rfl,rfl⟩|⟨hv,rfl,rfl,hj⟩
 .have:(lv !=8)=false:=by simp [hv]
  rw [this,aJ];exact k3
 .have:(lv !=8)=true:=by simpa using hv
  rw [this,aS,gY,av,wrap64 ah ah,show (j:Int)+1=((j+1:Nat):Int) by omega];exact k3
def Ch (l:List aG) (lv most:Int) (sd:Int×Int) (q:aF) (i j:Nat) (t:aC) (h:Bool) (c:Nat):Prop:=∀ (M:Nat) (ns:List aG),1100000+100*(l.length - i)+4*(16 - lv.toNat)<=M+2->Yw M (bq M) q lv most l (i:Int) false ns=uj M (bq M) l (M - c) (lv,most,sd,q,(c:Int),(j:Int),false,h,ns,bf 0 t)
def ZB {lv most:Int} {sd:Int×Int} (hc:Bb lv most sd):3<=lv/\lv<=10/\lv < sd.2/\sd.2<=11/\most<=3000:=by
 rcases hc with ⟨rfl,rfl,rfl⟩|⟨rfl,rfl,rfl⟩|⟨rfl,rfl,rfl⟩|⟨rfl,rfl,rfl⟩|⟨rfl,rfl,rfl⟩|⟨rfl,rfl,rfl⟩|⟨rfl,rfl,rfl⟩<;>decide
def Ch.first {l:List aG} {lv most:Int} {sd:Int×Int} (hc:Bb lv most sd) {q:aF} {i j:Nat} {t:aC} {h:Bool} (hr:Rd l (bE q<|lv+1) i j t h):Ch l lv most sd q i j t h 0:=by
 intro M ns hM;have hb:=ZB hc;exact aCX hc l M q i j t h ns (hr M<|by show _+4*(16 - (lv+1).toNat)<=M;omega)
def ajA {l:List aG} (hl:l.length<=3000) {lv most:Int} {sd:Int×Int} (hc:Bb lv most sd) {q:aF} {i j:Nat} {t:aC} {h:Bool} {c:Nat} (hch:Ch l lv most sd q i j t h c) (hcm:(c:Int) < most) {j2:Nat} {hb:Bool} {u:aC} (hz:aQ t+aQ u<=1000) (hgo:cont lv q (kd l j)=true)
  (f0 f:Nat) (op:Int) (hf:lv=8/\f0=j/\op=99\/lv≠8/\f0=j+1/\op=kd l j/\j < l.length) (hj0:j<=l.length) (hln:(lv=3\/lv=4)/\Ln l f0 f\/ ¬(lv=3\/lv=4)/\f=f0) (hij:i < f) (hfl:f<=l.length) (hr:Rd l (bE q sd.2) f j2 u hb):Ch l lv most sd q i j2 ⟨12,op,[],[],[t,u]⟩ false (c+1):=by
 intro M ns hM;have hb:=ZB hc;rw [hch M ns hM];obtain ⟨n,hn⟩:∃ n,M - c=n+1:=⟨M - c - 1,ah⟩
 rw [hn,aCZ hc l hl M n ah q c hcm j j2 h _ ns t u hz hgo f0 f op hf hj0 hln (hr M<|by show _+4*(16 - sd.2.toNat)<=M;omega),show M - (c+1)=n by omega]
def Ch.done {l:List aG} {lv most:Int} {sd:Int×Int} (hc:Bb lv most sd) {q:aF} (hq:q.Level=lv) {i j:Nat} {t:aC} {h:Bool} {c:Nat} (hch:Ch l lv most sd q i j t h c) (hcm:(c:Int)<=most) (hs:cont lv q (kd l j)=false\/ ¬(c:Int) < most):Rd l q i j t h:=by
 intro M hM ns;have hb:=ZB hc;rw [hq] at hM;obtain ⟨M,rfl⟩:∃ m,M=m+2:=⟨M - 2,ah⟩
 have e:=hch M ns hM;obtain ⟨n,hn⟩:∃ n,M - c=n+1:=⟨M - c - 1,ah⟩
 rw [hn,aCY hc l M n q c j h ns (bf 0 t) hs] at e;show jh (M+1) (bq<|M+1) q l (i:Int) false ns=_;have d:jh (M+1) (bq<|M+1) q l (i:Int) false ns=(bq<|M+1).qN q lv most l (i:Int) false ns:=by
  rcases hc with ⟨rfl,rfl,_⟩|⟨rfl,rfl,_⟩|⟨rfl,rfl,_⟩|⟨rfl,rfl,_⟩|⟨rfl,rfl,_⟩|⟨rfl,rfl,_⟩|⟨rfl,rfl,_⟩
  .exact aCJ _ _ _ _ _ _ hq
  .exact aCK _ _ _ _ _ _ hq
  .exact aCO _ _ _ _ _ _ hq
  .exact aCP _ _ _ _ _ _ hq
  .exact aCL _ _ _ _ _ _ hq
  .exact aCM _ _ _ _ _ _ hq
  .exact aCN _ _ _ _ _ _ hq
 rw [d];exact e
section
variable (l:List aG) (hl:l.length<=3000) (q:aF)
include hl
theorem aDa (hq:q.Level=1) {i j j2:Nat} {t u:aC} {h2:Bool} (hr:Rd l (bE q 2) i j t false) (hL:jE t.kind=true) (ha:sW (kd l j)=true) (hij:i<=j) (hj:j < l.length) (hr2:Rd l (bE q 1) (j+1) j2 u h2) (hz:aQ t+aQ u<=1000):Rd l q i j2 ⟨15,kd l j,[],[],[t,u]⟩ false:=by
 intro M hM ns;obtain ⟨M,rfl⟩:∃ m,M=m+2:=⟨M - 2,ah⟩
 have n1:(1:Int).toNat=1:=rfl;have n2:(2:Int).toNat=2:=rfl;have e:=hr M (by rw [hq] at hM;show _+4*(16 - (2:Int).toNat)<=M;omega) ns;have e2:=hr2 M (by rw [hq] at hM;show _+4*(16 - (1:Int).toNat)<=M;omega) ns;have hm:=yE M ⟨15,kd l j,[],[],[]⟩ [t,u] ah (by simp only [aK];omega);have hm':fJ M ⟨15,kd l j,[],[],[]⟩ [bf 0 t,bf 0 u]=_:=hm;show jh (M+1) (bq<|M+1) q l (i:Int) false ns=_;rw [ark _ _ _ _ _ _ hq];show Ql M (bq M) q l (i:Int) false ns=_;unfold Ql mo rM;simp only [av];have e':(bq M).eD ⟨2,false,q.aX,q.bg,false⟩ l (i:Int) false ns=_:=e;have e2':(bq M).eD ⟨1,false,q.aX,q.bg,false⟩ l ((j+1:Nat):Int) false ns=_:=e2;rw [e'];simp only [av,aJ,ajv t false ah,gY,ajw,ha,hL,ru,yZ,kQ,oK ns hj ah rfl,e2',hm']
theorem aDb (hq:q.Level=2) {i j j2 j3:Nat} {t u v:aC} {h1 h2 h3:Bool} (hr:Rd l (bE q 3) i j t h1) (ha:kd l j=65) (hij:i<=j) (hj:j < l.length) (hr2:Rd l (bE q 2) (j+1) j2 u h2) (hb:kd l j2=66) (hj2:j < j2) (hj3:j2 < l.length) (hr3:Rd l (bE q 2) (j2+1) j3 v h3) (hz:aQ t+aQ u+aQ v<=1000):Rd l q i j3 ⟨14,0,[],[],[t,u,v]⟩ false:=by
 intro M hM ns;obtain ⟨M,rfl⟩:∃ m,M=m+2:=⟨M - 2,ah⟩
 have n2:(2:Int).toNat=2:=rfl;have n3:(3:Int).toNat=3:=rfl;have e:=hr M (by rw [hq] at hM;show _+4*(16 - (3:Int).toNat)<=M;omega) ns;have e2:=hr2 M (by rw [hq] at hM;show _+4*(16 - (2:Int).toNat)<=M;omega) ns;have e3:=hr3 M (by rw [hq] at hM;show _+4*(16 - (2:Int).toNat)<=M;omega) ns;have hm:=yE M ⟨14,0,[],[],[]⟩ [t,u,v] ah (by simp only [aK];omega);have hm':fJ M ⟨14,0,[],[],[]⟩ [bf 0 t,bf 0 u,bf 0 v]=_:=hm;show jh (M+1) (bq<|M+1) q l (i:Int) false ns=_;rw [arl _ _ _ _ _ _ hq];show Qk M (bq M) q l (i:Int) false ns=_;unfold Qk mo rM;simp only [av];have e':(bq M).eD ⟨3,false,q.aX,q.bg,false⟩ l (i:Int) false ns=_:=e;have e2':(bq M).eD ⟨2,false,q.aX,q.bg,false⟩ l ((j+1:Nat):Int) false ns=_:=e2;have e3':(bq M).eD ⟨2,false,q.aX,q.bg,false⟩ l ((j2+1:Nat):Int) false ns=_:=e3;have c65:(kd l j !=65)=false:=by rw [ha];rfl
 rw [e'];simp only [av,aJ,gY,c65,oK ns hj ah ha,e2',oK ns hj3 ah hb,e3',hm']
theorem aDd (hq:q.Level=11) {i j:Nat} {t:aC} {h1:Bool} (hk:(kd l i==56||(kd l i==55||kd l i==61))=true) (hi:i < l.length) (hr:Rd l (bE q 11) (i+1) j t h1) (hz:aQ t<=1000):Rd l q i j ⟨11,kd l i,[],[],[t]⟩ false:=by
 intro M hM ns;obtain ⟨M,rfl⟩:∃ m,M=m+2:=⟨M - 2,ah⟩
 have n1:(11:Int).toNat=11:=rfl;have e:=hr M (by rw [hq] at hM;show _+4*(16 - (11:Int).toNat)<=M;omega) ns;have hm:=yE M ⟨11,kd l i,[],[],[]⟩ [t] ah (by simp only [aK];omega);have hm':fJ M ⟨11,kd l i,[],[],[]⟩ [bf 0 t]=_:=hm;have hor:(bif (kd l i==56) then some true else (bif (kd l i==55) then some true else some (kd l i==61)))=some true:=by
  rw [<- hk];cases (kd l i==56)<;>cases (kd l i==55)<;>rfl
 show jh (M+1) (bq<|M+1) q l (i:Int) false ns=_;rw [ajx _ _ _ _ _ _ hq];show JD M (bq M) q l (i:Int) false ns=_;unfold JD mo rM;have e':(bq M).eD ⟨11,false,q.aX,q.bg,false⟩ l ((i+1:Nat):Int) false ns=_:=e;rw [gY];simp only [av,hor,aS,oK ns hi ah rfl,e',hm']
theorem aDe (hq:q.Level=12) {i j j2:Nat} {t u:aC} {h1 h2:Bool} (hr:Rd l (bE q 13) i j t h1) (ha:kd l j=60) (hij:i<=j) (hj:j < l.length) (hr2:Rd l (bE q 11) (j+1) j2 u h2) (hz:aQ t+aQ u<=1000):Rd l q i j2 ⟨12,60,[],[],[t,u]⟩ false:=by
 intro M hM ns;obtain ⟨M,rfl⟩:∃ m,M=m+2:=⟨M - 2,ah⟩
 have n1:(11:Int).toNat=11:=rfl;have n2:(12:Int).toNat=12:=rfl;have n3:(13:Int).toNat=13:=rfl;have e:=hr M (by rw [hq] at hM;show _+4*(16 - (13:Int).toNat)<=M;omega) ns;have e2:=hr2 M (by rw [hq] at hM;show _+4*(16 - (11:Int).toNat)<=M;omega) ns;have hm:=yE M ⟨12,60,[],[],[]⟩ [t,u] ah (by simp only [aK];omega);have hm':fJ M ⟨12,60,[],[],[]⟩ [bf 0 t,bf 0 u]=_:=hm;have c60:(kd l j !=60)=false:=by rw [ha];rfl
 show jh (M+1) (bq<|M+1) q l (i:Int) false ns=_;rw [arn _ _ _ _ _ _ hq];show FE M (bq M) q l (i:Int) false ns=_;unfold FE mo rM;simp only [av];have e':(bq M).eD ⟨13,false,q.aX,q.bg,false⟩ l (i:Int) false ns=_:=e;have e2':(bq M).eD ⟨11,false,q.aX,q.bg,false⟩ l ((j+1:Nat):Int) false ns=_:=e2;rw [e'];simp only [av,aJ,gY,c60,oK ns hj ah ha,e2',hm']
theorem aDf (hq:q.Level=15) {i j:Nat} {t:aC} {h1:Bool} (ha:kd l i=32) (hi:i < l.length) (hr:Rd l dB (i+1) j t h1) (hb:kd l j=33) (hj:j < l.length):Rd l q i (j+1) t true:=by
 intro M hM ns;obtain ⟨M,rfl⟩:∃ m,M=m+2:=⟨M - 2,ah⟩
 have n1:(1:Int).toNat=1:=rfl;have e:=hr M (by rw [hq] at hM;show _+4*(16 - (1:Int).toNat)<=M;omega) ns;show jh (M+1) (bq<|M+1) q l (i:Int) false ns=_;rw [QJ _ _ _ _ _ _ hq];show zD M (bq M) l (i:Int) false ns=_;unfold zD;have e':(bq M).eD ⟨1,false,false,false,false⟩ l ((i+1:Nat):Int) false ns=_:=e;rw [aJ,gY,av,ha];have htop:qY=some ⟨1,false,false,false,false⟩:=rfl;show Option.bind (nZ 32 l (i:Int) false ns) _=_;simp only [oK ns hi ah ha,av,htop,e',oK ns hj ah hb]
end
section
variable (l:List aG) (hl:l.length<=3000)
include hl
theorem ars (q:aF) {M i j:Nat} {t:aC} {h1:Bool} (hM:1048577 < M) (ns:List aG) (hi:i < l.length) (hk:(kd l (i+1)==6||kd l (i+1)==68)=true) (hr:RdM l M (bE q 14) (i+1) j t h1) (hz:aQ t<=1000):YB M (bq M) q l (i:Int) false ns=some ((⟨bf 0 ⟨9,kd l i,[],[],[t]⟩,false⟩:bS),(j:Int),false,ns):=by
 have e:=hr ns;have hm:=yE M ⟨9,kd l i,[],[],[]⟩ [t] ah (by simp only [aK];omega);have hm':fJ M ⟨9,kd l i,[],[],[]⟩ [bf 0 t]=_:=hm;have e':(bq M).eD ⟨14,false,q.aX,q.bg,false⟩ l ((i+1:Nat):Int) false ns=_:=e;have hor:(bif (kd l (i+1) !=6) then some (kd l (i+1) !=68) else some false)=some false:=by
  cases h6:(kd l (i+1)==6) with
  | true=>rw [bne,h6];rfl
  | false=>
   rw [h6,VY] at hk;rw [bne,h6,bne,hk];rfl
 unfold YB YA mo rM;rw [gY];simp only [av,oK ns hi ah rfl,gY,hor,aJ,e',hm']
theorem aDg (q:aF) (hq:q.Level=13) {i j:Nat} {t:aC} {h1:Bool} (hs:(kd l i==51||kd l i==52)=true) (hi:i < l.length) (hk:(kd l (i+1)==6||kd l (i+1)==68)=true) (hr:Rd l (bE q 14) (i+1) j t h1) (hz:aQ t<=1000):Rd l q i j ⟨9,kd l i,[],[],[t]⟩ false:=by
 intro M hM ns;obtain ⟨M,rfl⟩:∃ m,M=m+3:=⟨M - 3,ah⟩
 have n1:(13:Int).toNat=13:=rfl;have n2:(14:Int).toNat=14:=rfl;have e:=ars l hl q (M:=M) ah ns hi hk (hr M<|by rw [hq] at hM;show _+4*(16 - (14:Int).toNat)<=M;omega) hz;have e:(bq<|M+1).Ck q l (i:Int) false ns=_:=e;show jh (M+2) (bq<|M+2) q l (i:Int) false ns=_;rw [ajy _ _ _ _ _ _ hq];show JC (M+1) (bq<|M+1) q l (i:Int) false ns=_;unfold JC;rw [gY];simp only [av,QK,hs,aS,e]
theorem aDh (q:aF) (hq:q.Level=13) {i j:Nat} {t:aC} (hr:Rd l (bE q 14) i j t false) (hL:jE t.kind=true) (hk:(kd l i==51||kd l i==52)=false) (hs:(kd l j==51||kd l j==52)=true) (hij:i<=j) (hj:j < l.length) (hz:aQ t<=1000):Rd l q i (j+1) ⟨10,kd l j,[],[],[t]⟩ false:=by
 intro M hM ns;obtain ⟨M,rfl⟩:∃ m,M=m+2:=⟨M - 2,ah⟩
 have n1:(13:Int).toNat=13:=rfl;have n2:(14:Int).toNat=14:=rfl;have e:=hr M (by rw [hq] at hM;show _+4*(16 - (14:Int).toNat)<=M;omega) ns;have hm:=yE M ⟨10,kd l j,[],[],[]⟩ [t] ah (by simp only [aK];omega);have hm':fJ M ⟨10,kd l j,[],[],[]⟩ [bf 0 t]=_:=hm;show jh (M+1) (bq<|M+1) q l (i:Int) false ns=_;rw [ajy _ _ _ _ _ _ hq];show JC M (bq M) q l (i:Int) false ns=_;unfold JC mo rM;rw [gY];simp only [av,QK,hk,aJ];have e':(bq M).eD ⟨14,false,q.aX,q.bg,false⟩ l (i:Int) false ns=_:=e;rw [e'];simp only [av,aJ,gY,QK,hs,kQ,ajv t false ah,hL,ru,yZ,oK ns hj ah rfl,hm']
theorem aDi (q:aF) (hq:q.Level=14) {i j:Nat} {t:aC} {h1:Bool} (ha:kd l i=68) (hi:i < l.length) (hk:(kd l (i+1)==51||kd l (i+1)==52)=false) (hr:Rd l (bE q 14) (i+1) j t h1) (hz:aQ t<=1000):Rd l q i j ⟨6,0,[],[],[t]⟩ false:=by
 intro M hM ns;obtain ⟨M,rfl⟩:∃ m,M=m+2:=⟨M - 2,ah⟩
 have n2:(14:Int).toNat=14:=rfl;have e:=hr M (by rw [hq] at hM;show _+4*(16 - (14:Int).toNat)<=M;omega) ns;have hm:=yE M ⟨6,0,[],[],[]⟩ [t] ah (by simp only [aK];omega);have hm':fJ M ⟨6,0,[],[],[]⟩ [bf 0 t]=_:=hm;have c68:(kd l i !=68)=false:=by rw [ha];rfl
 show jh (M+1) (bq<|M+1) q l (i:Int) false ns=_;rw [ajz _ _ _ _ _ _ hq];show JB M (bq M) q l (i:Int) false ns=_;unfold JB UL mo rM;have e':(bq M).eD ⟨14,false,q.aX,q.bg,false⟩ l ((i+1:Nat):Int) false ns=_:=e;rw [gY];simp only [av,c68,aJ,oK ns hi ah ha,gY,QK,hk,e',hm']
theorem aDj (q:aF) (hq:q.Level=15) {i:Nat} (k:Int) (hk:k=3\/k=4\/k=5) (ha:kd l i=k) (hi:i < l.length):Rd l q i (i+1) ⟨k - 1,0,l[i].Text,[],[]⟩ false:=by
 intro M hM ns;obtain ⟨M,rfl⟩:∃ m,M=m+2:=⟨M - 2,ah⟩
 have hka:l[i].Kind=k:=by rw [<- ha,Ba hi]
 have ajD:∀ v:Int,Hz v l (i:Int) false ns=some ((⟨[(⟨v,0,l[i].Text,[],[]⟩:aD)],false⟩:bS),((i+1:Nat):Int),false):=fun v=>by
  unfold Hz;rw [bX hi,av,oK ns hi ah<|by rw [ha,hka]];rfl
 show jh (M+1) (bq<|M+1) q l (i:Int) false ns=_;rw [QJ _ _ _ _ _ _ hq];show zD M (bq M) l (i:Int) false ns=_;unfold zD;rw [aJ,gY,av,ha];rcases hk with rfl|rfl|rfl
 .show Option.bind (Hz 2 l (i:Int) false ns) _=_;rw [ajD];rfl
 .show Option.bind (Hz 3 l (i:Int) false ns) _=_;rw [ajD];rfl
 .show Option.bind (Hz 4 l (i:Int) false ns) _=_;rw [ajD];rfl
theorem aDk (q:aF) (hq:q.Level=15) {i:Nat} (ha:kd l i=6) (hi:i < l.length) (hn:kd l (i+1)≠34):Rd l q i (i+1) ⟨1,0,l[i].Text,[],[]⟩ false:=by
 intro M hM ns;obtain ⟨M,rfl⟩:∃ m,M=m+3:=⟨M - 3,ah⟩
 have c34:(kd l (i+1) !=34)=true:=by simpa using hn
 have e:Qg M (bq M) l (i:Int) false ns=some ((⟨[(⟨1,0,l[i].Text,[],[]⟩:aD)],false⟩:bS),((i+1:Nat):Int),false,ns):=by
  unfold Qg;rw [oK ns hi ah ha,av];simp only [gY,av,c34,aS]
 have e':(bq<|M+1).HV l (i:Int) false ns=_:=e;show jh (M+2) (bq<|M+2) q l (i:Int) false ns=_;rw [QJ _ _ _ _ _ _ hq];show zD (M+1) (bq<|M+1) l (i:Int) false ns=_;unfold zD;rw [aJ,gY,av,ha];show Option.bind ((bq<|M+1).HV l (i:Int) false ns) _=_;rw [e'];rfl
end
def MR (l:List aG) (en:Int):Nat->Nat->List aC->Prop
 | _,_,[]=>False
 | i,j,[t]=>∃ (h:Bool) (k:Nat),Rd l dB i k t h/\i < k/\k < l.length/\kd l k=en/\j=k+1
 | i,j,t::u::ts=>∃ (h:Bool) (k f:Nat),Rd l dB i k t h/\i < k/\k < l.length/\kd l k=36/\Ln l (k+1) f/\MR l en f j (u::ts)
section
variable (l:List aG) (hl:l.length<=3000)
include hl
theorem aru (en:Int) (hen:en≠36) (M:Nat) (ns:List aG):∀ (ts:List aC) (i j n:Nat) (parts:List aC),MR l en i j ts->parts.length+ts.length<=6->ts.length<=n->1100000+100*(l.length - i)+60<=M->HZ M (bq M) l n (en,(i:Int),false,parts.map<|bf 0,ns)=some ((parts++ts).map<|bf 0,(j:Int),false,ns)
 | [],i,j,n,parts,h,_,_,_=>by cases h
 | [t],i,j,n,parts,h,hp,hn,hM=>by
  obtain ⟨hh,k,hr,hik,hk,he,rfl⟩:=h;obtain ⟨n,rfl⟩:∃ m,n=m+1:=⟨n - 1,by simp at hn;omega⟩
  have e:=hr M (by show _+4*(16 - (1:Int).toNat)<=M;have:(1:Int).toNat=1:=rfl;omega) ns;have htop:qY=some dB:=rfl;have c36:(kd l k !=36)=true:=by rw [he];simpa using hen
  simp only [ED] at hp;rw [HZ];simp only [ru,aS,htop,av,e];rw [jf aU,av,gY,av,c36,aS];unfold Yx;dsimp only;rw [oK ns hk ah he,av,Aj];rfl
 | t::u::ts,i,j,n,parts,h,hp,hn,hM=>by
  obtain ⟨hh,k,f,hr,hik,hk,he,g1,hrest⟩:=h;have gl:=g1.1;simp only [kY] at hp hn;obtain ⟨n,rfl⟩:∃ m,n=m+1:=⟨n - 1,ah⟩
  have e:=hr M (by show _+4*(16 - (1:Int).toNat)<=M;have:(1:Int).toNat=1:=rfl;omega) ns;have htop:qY=some dB:=rfl;have c36:(kd l k !=36)=false:=by rw [he];rfl
  have ih:=aru en hen M ns (u::ts) f j n (parts++[t]) hrest aU aU ah;have c6:((((parts.map (bf 0)++[bf 0 t]).length:Nat):Int)==6)=false:=by
   simp;omega
  rw [HZ];simp only [ru,aS,htop,av,e];rw [jf aU,av,gY,av,c36,aJ,c6,aJ];unfold Yy;dsimp only;rw [oK ns hk ah he,av];dsimp only;rw [arq l hl ns ah (show k+1<=l.length by omega) g1,av];have hpm:parts.map (bf 0)++[bf 0 t]=(parts++[t]).map (bf 0):=aA;rw [hpm];refine KP ih ?_;simp
theorem ajF (en:Int) (hen:en≠36) (least:Int) (M:Nat) (ns:List aG) (ts:List aC) (i j:Nat) (h:MR l en i j ts) (ht:ts.length<=6) (hne:kd l i≠en\/least≠0) (hM:1100000+100*(l.length - i)+60<=M):Qj M (bq M) en least l (i:Int) false ns=some (ts.map<|bf 0,(j:Int),false,ns):=by
 unfold Qj;have hc:(bif (least==0) then (ku l (i:Int) false ns).bind fun r8=>some (r8==en) else some false)=some false:=by
  rw [gY,av];rcases hne with h|h
  .have:(kd l i==en)=false:=by simpa using h
   rw [this];cases (least==0)<;>rfl
  .have:(least==0)=false:=by simpa using h
   rw [this];rfl
 rw [hc,av,aJ];have:=aru l hl en hen M ns ts i j M [] h (by simpa using ht) ah hM;simpa using this
theorem aDl (q:aF) (hq:q.Level=15) {i j:Nat} (ts:List aC) (ha:kd l i=6) (hb:kd l (i+1)=34) (hi:i+1 < l.length) (h:MR l 35 (i+2) j ts) (ht:ts.length<=6) (hz:aK ts<=1000):Rd l q i j ⟨5,0,(l[i]' ah).Text,[],ts⟩ false:=by
 intro M hM ns;obtain ⟨M,rfl⟩:∃ m,M=m+4:=⟨M - 4,ah⟩
 have n15:(15:Int).toNat=15:=rfl;rw [hq,n15] at hM;have e0:=ajF l hl 35 aM 1 M ns ts (i+2) j h ht (.inr aM) ah;have ZC:(bq<|M+1).Cj 35 1 l ((i+2:Nat):Int) false ns=_:=e0;have c34:(kd l (i+1) !=34)=false:=by rw [hb];rfl
 have hm:=yE (M+1) ⟨5,0,(l[i]' ah).Text,[],[]⟩ ts ah ah;have e:Qg (M+1) (bq<|M+1) l (i:Int) false ns=some ((⟨bf 0 ⟨5,0,(l[i]' ah).Text,[],ts⟩,false⟩:bS),(j:Int),false,ns):=by
  unfold Qg;rw [oK ns ah ah ha,av];simp only [gY,av,c34,aJ,oK ns hi ah hb,ZC,hm]
 have e':(bq<|M+2).HV l (i:Int) false ns=_:=e;show jh (M+3) (bq<|M+3) q l (i:Int) false ns=_;rw [QJ _ _ _ _ _ _ hq];show zD (M+2) (bq<|M+2) l (i:Int) false ns=_;unfold zD;rw [aJ,gY,av,ha];show Option.bind ((bq<|M+2).HV l (i:Int) false ns) _=_;rw [e'];rfl
end
def uY (l:List aG) (i:Nat) (c:Bool):Prop:=∀ (M:Nat) (ns:List aG),5000<=M->Ml M l (i:Int) false ns=some c
def Cx (l:List aG) (q:aF) (i j:Nat) (t:aC) (h:Bool) (c:Nat):Prop:=∀ (M:Nat) (ns:List aG),1100000+100*(l.length - i)+44<=M+2->UO M (bq M) q l (i:Int) false ns=MB M (bq M) l (M - c) (q,ns,(j:Int),false,h,bf 0 t)
section
variable (l:List aG) (hl:l.length<=3000)
include hl
theorem arv (q:aF) (hq:q.Level=15) {i j:Nat} (k:Int) (hk:k=7\/k=8) (ts:List aC) (ha:kd l i=k) (hb:kd l (i+1)=32) (hi:i+2 < l.length) (h:ts=[]/\kd l (i+2)=33/\j=i+3\/kd l (i+2)≠33/\MR l 33 (i+2) j ts) (ht:ts.length<=6) (hz:aK ts<=1000):Rd l q i j ⟨k,0,(l[i]' ah).Text,[],ts⟩ false:=by
 intro M hM ns;obtain ⟨M,rfl⟩:∃ m,M=m+4:=⟨M - 4,ah⟩
 have n15:(15:Int).toNat=15:=rfl;rw [hq,n15] at hM;have e0:Qj M (bq M) 33 0 l ((i+2:Nat):Int) false ns=some (ts.map<|bf 0,(j:Int),false,ns):=by
  rcases h with ⟨rfl,h2,rfl⟩|⟨h2,h3⟩
  .unfold Qj;have hc:(bif ((0:Int)==0) then (ku l ((i+2:Nat):Int) false ns).bind fun r8=>some (r8==33) else some false)=some true:=by
    rw [gY,h2];rfl
   rw [hc,av,aS,oK ns hi ah h2];rfl
  .exact ajF l hl 33 aM 0 M ns ts (i+2) j h3 ht (.inl h2) ah
 have ZC:(bq<|M+1).Cj 33 0 l ((i+2:Nat):Int) false ns=_:=e0;have c32:(kd l (i+1) !=32)=false:=by rw [hb];rfl
 have hm:=yE (M+1) ⟨k,0,(l[i]' ah).Text,[],[]⟩ ts ah ah;have e:Qf (M+1) (bq<|M+1) k l (i:Int) false ns=some ((⟨bf 0 ⟨k,0,(l[i]' ah).Text,[],ts⟩,false⟩:bS),(j:Int),false,ns):=by
  unfold Qf;rw [gY,av,oK ns ah ah rfl,av];have hno:(bif (k==8) then (ku l ((i+1:Nat):Int) false ns).bind fun bF=>bif (bF !=32) then some ((l[i]' ah).Text==[108,101,110,103,116,104]) else some false else some false)=some false:=by
   rw [gY,av,c32];cases (k==8)<;>rfl
  dsimp only;rw [hno,av,aJ,oK ns ah ah hb,av];dsimp only;rw [ZC,av,hm,av]
 have e':(bq<|M+2).Ci k l (i:Int) false ns=_:=e;show jh (M+3) (bq<|M+3) q l (i:Int) false ns=_;rw [QJ _ _ _ _ _ _ hq];show zD (M+2) (bq<|M+2) l (i:Int) false ns=_;unfold zD;rw [aJ,gY,av,ha];rcases hk with rfl|rfl
 .show Option.bind ((bq<|M+2).Ci 7 l (i:Int) false ns) _=_;rw [e'];rfl
 .show Option.bind ((bq<|M+2).Ci 8 l (i:Int) false ns) _=_;rw [e'];rfl
omit hl in
theorem arw (q:aF) {i j:Nat} {t:aC} {h:Bool} (hcm:q.aX=false->uY l i false) (hr:Rd l (bE q 6) i j t h):Cx l q i j t h 0:=by
 intro M ns hM;have n6:(6:Int).toNat=6:=rfl;have e:=hr M (by show _+4*(16 - (6:Int).toNat)<=M;omega) ns;have hc:(bif (!q.aX) then (Ml M l (i:Int) false ns).bind fun adx=>some adx else some false)=some false:=by
  cases hn:q.aX with
  | true=>rfl
  | false=>rw [hcm hn M ns ah];rfl
 unfold UO mo;rw [hc];simp only [av,aJ];have e':(bq M).eD ⟨6,false,q.aX,q.bg,false⟩ l (i:Int) false ns=_:=e;rw [e'];rfl
theorem aDm (q:aF) (hn:q.aX=false) {i k:Nat} (ts:List aC) (hcm:uY l i true) (ha:kd l i=32) (hi:i < l.length) (h:MR l 33 (i+1) k ts) (ht:ts.length<=6) (hk:i < k) (hk2:k+1 < l.length) (hin:kd l k=24) (hnm:kd l (k+1)=6) (hz:aK ts<=1000):Cx l q i (k+2) ⟨13,0,(l[k+1]'hk2).Text,[],ts⟩ false 0:=by
 intro M ns hM;obtain ⟨M,rfl⟩:∃ m,M=m+1:=⟨M - 1,ah⟩
 have e0:=ajF l hl 33 aM 1 M ns ts (i+1) k h ht (.inr aM) ah;have ZC:(bq<|M+1).Cj 33 1 l ((i+1:Nat):Int) false ns=_:=e0;have hm:=yE (M+1) ⟨13,0,(l[k+1]'hk2).Text,[],[]⟩ ts ah ah;unfold UO;rw [hn,ru,aS,hcm (M+1) ns ah];simp only [av,aS,oK ns hi ah ha,ZC,oK ns (show k < l.length by omega) ah hin,oK ns hk2 ah hnm,hm];rfl
theorem aDn (q:aF) (hn:q.aX=false) {i j:Nat} {t:aC} {h:Bool} {c:Nat} (hch:Cx l q i j t h c) (hc:c<=3000) (hj:j+1 < l.length) (hin:kd l j=24) (hnm:kd l (j+1)=6) (hz:aQ t<=1000):Cx l q i (j+2) ⟨13,0,(l[j+1]'hj).Text,[],[t]⟩ false (c+1):=by
 intro M ns hM;rw [hch M ns hM];obtain ⟨n,hn2⟩:∃ n,M - c=n+1:=⟨M - c - 1,ah⟩
 have hm:=yE M ⟨13,0,(l[j+1]'hj).Text,[],[]⟩ [t] ah (by simp only [aK];omega);have hm':fJ M ⟨13,0,(l[j+1]'hj).Text,[],[]⟩ [bf 0 t]=_:=hm;rw [hn2,MB,show M - (c+1)=n by omega];have hc:(bif (!false) then bif (!q.aX) then (ku l (j:Int) false ns).bind fun vZ=>some (vZ==24) else some false else some false)=some true:=by
  rw [hn,gY,hin];rfl
 rw [hc];unfold rM;simp only [av,aS,oK ns (show j < l.length by omega) ah hin,oK ns hj ah hnm,hm']
omit hl in
theorem Cx.done (q:aF) (hq:q.Level=5) {i j:Nat} {t:aC} {h:Bool} {c:Nat} (hch:Cx l q i j t h c) (hc:c<=3000) (hs:cont 5 q (kd l j)=false):Rd l q i j t h:=by
 intro M hM ns;have n5:(5:Int).toNat=5:=rfl;rw [hq,n5] at hM;obtain ⟨M,rfl⟩:∃ m,M=m+2:=⟨M - 2,ah⟩
 have e:=hch M ns ah;obtain ⟨n,hn⟩:∃ n,M - c=n+1:=⟨M - c - 1,ah⟩
 have hs:(kd l j==24&&!q.aX)=false:=hs;rw [hn,MB] at e;have hcc:(bif (!false) then bif (!q.aX) then (ku l (j:Int) false ns).bind fun vZ=>some (vZ==24) else some false else some false)=some false:=by
  rw [gY];cases hno:q.aX with
  | true=>rfl
  | false=>
   rw [hno,ru,Dh] at hs;rw [av,hs];rfl
 rw [hcc] at e;show jh (M+1) (bq<|M+1) q l (i:Int) false ns=_;rw [aCI _ _ _ _ _ _ hq];exact e
end
section
variable (l:List aG) (hl:l.length<=3000)
include hl
theorem aDo (q:aF) (hq:q.Level=11) {i j j2:Nat} {t u:aC} {h1 h2:Bool} (hk:(kd l i==56||(kd l i==55||kd l i==61))=false) (hr:Rd l (bE q 13) i j t h1) (ha:kd l j=60) (hij:i<=j) (hj:j < l.length) (hr2:Rd l (bE q 11) (j+1) j2 u h2) (hz:aQ t+aQ u<=1000):Rd l q i j2 ⟨12,60,[],[],[t,u]⟩ false:=by
 intro M hM ns;obtain ⟨M,rfl⟩:∃ m,M=m+3:=⟨M - 3,ah⟩
 have n1:(11:Int).toNat=11:=rfl;have n3:(13:Int).toNat=13:=rfl;have e:=hr M (by rw [hq] at hM;show _+4*(16 - (13:Int).toNat)<=M;omega) ns;have e2:=hr2 M (by rw [hq] at hM;show _+4*(16 - (11:Int).toNat)<=M;omega) ns;have hm:=yE M ⟨12,60,[],[],[]⟩ [t,u] ah (by simp only [aK];omega);have hm':fJ M ⟨12,60,[],[],[]⟩ [bf 0 t,bf 0 u]=_:=hm;have c60:(kd l j !=60)=false:=by rw [ha];rfl
 have hor:(bif (kd l i==56) then some true else (bif (kd l i==55) then some true else some (kd l i==61)))=some false:=by
  rw [KF,KF] at hk;rw [hk.1,hk.2.1,hk.2.2];rfl
 have ep:FE M (bq M) q l (i:Int) false ns=some ((⟨bf 0 ⟨12,60,[],[],[t,u]⟩,false⟩:bS),(j2:Int),false,ns):=by
  unfold FE mo rM;simp only [av];have e':(bq M).eD ⟨13,false,q.aX,q.bg,false⟩ l (i:Int) false ns=_:=e;have e2':(bq M).eD ⟨11,false,q.aX,q.bg,false⟩ l ((j+1:Nat):Int) false ns=_:=e2;rw [e'];simp only [av,aJ,gY,c60,oK ns hj ah ha,e2',hm']
 have ep':(bq<|M+1).FD q l (i:Int) false ns=_:=ep;show jh (M+2) (bq<|M+2) q l (i:Int) false ns=_;rw [ajx _ _ _ _ _ _ hq];show JD (M+1) (bq<|M+1) q l (i:Int) false ns=_;unfold JD;rw [gY];simp only [av,hor,aJ,ep']
theorem aDp (q:aF) (hq:q.Level=14) {i j:Nat} {t:aC} {h1:Bool} (ha:kd l i=68) (hi:i+1 < l.length) (hs:(kd l (i+1)==51||kd l (i+1)==52)=true) (hk:(kd l (i+1+1)==6||kd l (i+1+1)==68)=true) (hr:Rd l (bE q 14) (i+1+1) j t h1) (hz:aQ t<=900):Rd l q i j ⟨6,0,[],[],[⟨9,kd l<|i+1,[],[],[t]⟩]⟩ false:=by
 intro M hM ns;obtain ⟨M,rfl⟩:∃ m,M=m+3:=⟨M - 3,ah⟩
 have n2:(14:Int).toNat=14:=rfl;have ep:=ars l hl q (M:=M) (i:=i+1) ah ns hi hk (hr M<|by rw [hq] at hM;show _+4*(16 - (14:Int).toNat)<=M;omega) ah;have ep':(bq<|M+1).Ck q l ((i+1:Nat):Int) false ns=_:=ep;have hm:=yE (M+1) ⟨6,0,[],[],[]⟩ [⟨9,kd l<|i+1,[],[],[t]⟩] ah (by simp only [aK,aQ];omega);have hm':fJ (M+1) ⟨6,0,[],[],[]⟩ [bf 0 ⟨9,kd l<|i+1,[],[],[t]⟩]=_:=hm;have c68:(kd l i !=68)=false:=by rw [ha];rfl
 show jh (M+2) (bq<|M+2) q l (i:Int) false ns=_;rw [ajz _ _ _ _ _ _ hq];show JB (M+1) (bq<|M+1) q l (i:Int) false ns=_;unfold JB UL rM;rw [gY];simp only [av,c68,aJ,oK ns (show i < l.length by omega) ah ha,gY,QK,hs,aS,ep',hm']
end
def Sg (l:List aG) (i:Nat) (x:List aG):Prop:=∃ r,l.drop i=x++r
def Sg.left {l:List aG} {i:Nat} {x y:List aG} (h:Sg l i (x++y)):Sg l i x:=by
 obtain ⟨r,hr⟩:=h;exact ⟨y++r,by rw [hr,jP]⟩
def Sg.right {l:List aG} {i:Nat} {x y:List aG} (h:Sg l i (x++y)):Sg l (i+x.length) y:=by
 obtain ⟨r,hr⟩:=h;exact ⟨r,by rw [<- RX,hr,jP,List.drop_left' rfl]⟩
def Sg.tl {l:List aG} {i:Nat} {t:aG} {y:List aG} (h:Sg l i (t::y)):Sg l (i+1) y:=Sg.right (x:=[t]) h
def Sg.hd {l:List aG} {i:Nat} {t:aG} {y:List aG} (h:Sg l i (t::y)):∃ hi:i < l.length,l[i]=t:=by
 obtain ⟨r,hr⟩:=h;have hi:i < l.length:=by
  have:=congrArg List.length hr;simp at this;omega
 refine ⟨hi,?_⟩;rw [IC hi] at hr;exact (List.cons.inj hr).1
def Sg.kd {l:List aG} {i:Nat} {t:aG} {y:List aG} (h:Sg l i (t::y)):kd l i=t.Kind:=by
 obtain ⟨hi,e⟩:=h.hd;rw [Ba hi,e]
def Sg.len {l:List aG} {i:Nat} {x:List aG} (h:Sg l i x) (hi:i<=l.length):i+x.length<=l.length:=by
 obtain ⟨r,hr⟩:=h;have:=congrArg List.length hr;simp at this;omega
def Sg.all (l:List aG):Sg l 0 l:=⟨[],aA⟩
def kD (q:aF) (k:Int):Prop:=k≠34/\∀ lv:Int,q.Level<=lv->cont lv q k=false
def kD.up {q q':aF} {k:Int} (h:kD q k) (hl:q.Level<=q'.Level) (h1:q'.aX=q.aX) (h2:q'.bg=q.bg):kD q' k:=
 ⟨h.1,fun lv hv=>by
  have:=h.2 lv ah;unfold cont at this ⊢;rw [h1,h2];exact this⟩
def aDq (q:aF):kD q 0:=⟨aM,fun lv _=>by
 unfold cont;by_cases h1:lv=1
 .subst h1;rfl
 have e1:(lv==1)=false:=by simpa using h1
 by_cases h2:lv=2
 .subst h2;rfl
 have e2:(lv==2)=false:=by simpa using h2
 rw [e1,e2];cases (lv==5)<;>cases (lv==8)<;>cases (lv==12)<;>cases (lv==13)<;>cases (lv==11)<;>cases (lv==14)<;>cases (lv==15)<;>rfl⟩
def QL {lv most:Int} {sd:Int×Int} (hc:Bb lv most sd) (hm:0<=most) {l:List aG} {q:aF} {i j:Nat} {t:aC} {h:Bool} (hr:Rd l (bE q<|lv+1) i j t h) (hn:cont lv q (kd l j)=false):Rd l (bE q lv) i j t h:=
 Ch.done hc (q:=bE q lv) rfl (Ch.first hc (q:=bE q lv) hr) (by simpa using hm) (.inl hn)
def arx {l:List aG} {q:aF} {i j:Nat} {t:aC} {h:Bool} (lv:Int) (h1:1<=lv) (h10:lv<=10) (hsz:aQ t<=400) (hr:Rd l (bE q<|lv+1) i j t h) (hn:cont lv q (kd l j)=false) (hcm:lv=5->q.aX=false->uY l i false):Rd l (bE q lv) i j t h:=by
 have:lv=1\/lv=2\/lv=3\/lv=4\/lv=5\/lv=6\/lv=7\/lv=8\/lv=9\/lv=10:=ah;rcases this with rfl|rfl|rfl|rfl|rfl|rfl|rfl|rfl|rfl|rfl
 .exact aCQ l (bE q 1) i j t h rfl hr hn hsz
 .exact aCR l (bE q 2) i j t h rfl hr hn
 .exact QL (.inl ⟨rfl,rfl,rfl⟩) ah hr hn
 .exact QL (.inr<|.inl ⟨rfl,rfl,rfl⟩) ah hr hn
 .exact Cx.done l (bE q 5) rfl (arw l (bE q 5) (hcm rfl) hr) ah hn
 .exact QL (.inr<|.inr<|.inl ⟨rfl,rfl,rfl⟩) ah hr hn
 .exact QL (.inr<|.inr<|.inr<|.inl ⟨rfl,rfl,rfl⟩) ah hr hn
 .exact QL (.inr<|.inr<|.inr<|.inr<|.inl ⟨rfl,rfl,rfl⟩) ah hr hn
 .exact QL (.inr<|.inr<|.inr<|.inr<|.inr<|.inl ⟨rfl,rfl,rfl⟩) ah hr hn
 .exact QL (.inr<|.inr<|.inr<|.inr<|.inr<|.inr ⟨rfl,rfl,rfl⟩) ah hr hn
def down {l:List aG} {q:aF} {i j:Nat} {t:aC} {h:Bool} (hsz:aQ t<=400) (hcm:q.aX=false->uY l i false):∀ (n:Nat) (b:Int),1<=b->b+n<=11->Rd l (bE q<|b+n) i j t h->(∀ lv:Int,b<=lv->cont lv q (kd l j)=false)->Rd l (bE q b) i j t h
 | 0,b,_,_,hr,_=>by
  have:b+((0:Nat):Int)=b:=ah;rw [this] at hr;exact hr
 | n+1,b,h1,h2,hr,hn=>by
  have hr':Rd l (bE q<|(b+1)+(n:Int)) i j t h:=by
   have:b+((n+1:Nat):Int)=(b+1)+(n:Int):=ah;rw [<- this];exact hr
  exact arx b h1 ah hsz (down hsz hcm n (b+1) ah ah hr' fun lv hv=>hn lv ah) (hn b ah) fun _=>hcm
def aDr {l:List aG} {q:aF} {i j:Nat} {t:aC} {h:Bool} (hr:Rd l (bE q 15) i j t h) (hk:kd l i≠68):Rd l (bE q 14) i j t h:=aCV l (bE q 14) i j t h rfl hr hk
def aDs {l:List aG} {q:aF} {i j:Nat} {t:aC} {h:Bool} (hr:Rd l (bE q 14) i j t h) (hk:(kd l i==51||kd l i==52)=false) (hc:cont 13 q (kd l j)=false):Rd l (bE q 13) i j t h:=aCU l (bE q 13) i j t h rfl hr hc hk
def aDt {l:List aG} {q:aF} {i j:Nat} {t:aC} {h:Bool} (hr:Rd l (bE q 13) i j t h) (hc:cont 12 q (kd l j)=false):Rd l (bE q 12) i j t h:=aCS l (bE q 12) i j t h rfl hr hc
def aDu {l:List aG} {q:aF} {i j:Nat} {t:aC} {h:Bool} (hr:Rd l (bE q 13) i j t h) (hc:cont 12 q (kd l j)=false) (hk:(kd l i==56||(kd l i==55||kd l i==61))=false):Rd l (bE q 11) i j t h:=aCT l (bE q 11) i j t h rfl hr hc hk
def inn:Nat->List aG->Bool
 | d,[]=>d==0
 | d,t::ts=>bif mV t.Kind then inn (d+1) ts else bif nK t.Kind then !(d==0)&&inn (d - 1) ts else (bif d==0&&t.Kind==36 then false else inn d ts)
def QM (k:Int):UE k=some (mV k):=by
 unfold UE mV;cases (k==32)<;>cases (k==34)<;>rfl
def JO (k:Int):UD k=some (nK k):=by
 unfold UD nK;cases (k==33)<;>cases (k==35)<;>rfl
def MS (l:List aG) (M:Nat) (i:Int) (ns:List aG) (kb:(Int×Int)->Option Bool) (j D:Nat) (hj:j < l.length) (hl:l.length<=3000) (hD:1<=D) (ZE:(D==1&&l[j].Kind==36)=false):Hy M l i false ns kb ((j:Int),(D:Int))=kb ((D:Int),((j+1:Nat):Int)):=by
 have e0:((D:Int)==0)=false:=by
  have: ¬(D:Int)=0:=ah;simpa using this
 unfold Hy;dsimp only;rw [e0,aJ,bX hj,av,wrap64 ah ah,show (j:Int)+1=((j+1:Nat):Int) by omega];by_cases h1:D=1
 .subst h1;have:(l[j].Kind==36)=false:=by simpa using ZE
  rw [this];rfl
 .have:((D:Int)==1)=false:=by
   have: ¬(D:Int)=1:=ah;simpa using this
  rw [this];rfl
def aed (l:List aG) (hl:l.length<=3000) (M i:Nat) (ns:List aG):∀ (x:List aG) (d j n:Nat) (c:aG),Sg l j (x++[c])->nK c.Kind=true->inn d x=true->x.length < n->d+x.length<=4000->yx M l (i:Int) false ns n (((d+1:Nat):Int),(j:Int))=some false
 | [],d,j,n,c,hs,hc,hi,hn,hd=>by
  obtain ⟨n,rfl⟩:∃ m,n=m+1:=⟨n - 1,by simp at hn;omega⟩
  have hs:Sg l j (c::[]):=hs;obtain ⟨hj,hk⟩:=hs.hd;have hd0:d=0:=by simpa [inn] using hi
  subst hd0;have hop:mV c.Kind=false:=by
   cases h:mV c.Kind with
   | false=>rfl
   | true=>rw [(Vy h).1] at hc;cases hc
  rw [yx];simp only [iT hj,aS,bX hj,av,hk,QM,hop,aJ];unfold Eb;dsimp only;rw [bX hj,av,hk,JO,av,hc,aS];unfold Hy;rfl
 | t::x,d,j,n,c,hs,hc,hi,hn,hd=>by
  simp only [kY] at hn hd;obtain ⟨n,rfl⟩:∃ m,n=m+1:=⟨n - 1,ah⟩
  have hs:Sg l j (t::(x++[c])):=hs;obtain ⟨hj,hk⟩:=hs.hd;have hlen:=hs.tl.len ah;simp only [fP,ED] at hlen;rw [inn] at hi;rw [yx,iT hj,aS,bX hj,av,hk,QM,av];cases ho:mV t.Kind with
  | true=>
   rw [ho,aS] at hi;rw [aS];unfold Eb;dsimp only;rw [bX hj,av,hk,JO,av,(Vy ho).1,aJ,wrap64 ah ah,show ((d+1:Nat):Int)+1=((d+1+1:Nat):Int) by omega,MS l M i ns _ j (d+1+1) hj hl ah<|by rw [show (d+1+1==1)=false from by simp];rfl];exact aed l hl M i ns x (d+1) (j+1) n c hs.tl hc hi ah ah
  | false=>
   rw [ho,aJ] at hi;rw [aJ];unfold Eb;dsimp only;rw [bX hj,av,hk,JO,av];cases hcl:nK t.Kind with
   | true=>
    rw [hcl,aS] at hi;cases d with
    | zero=>cases hi
    | succ d=>
     have hi:inn d x=true:=by simpa using hi
     rw [aS,wrap64 ah ah,show ((d+1+1:Nat):Int) - 1=((d+1:Nat):Int) by omega,MS l M i ns _ j (d+1) hj hl ah<|by rw [hk,arj hcl,RY]];exact aed l hl M i ns x d (j+1) n c hs.tl hc hi ah ah
   | false=>
    rw [hcl,aJ] at hi;rw [aJ];have ZE:(d+1==1&&l[j].Kind==36)=false:=by
     rw [hk];cases h:(d==0&&t.Kind==36) with
     | true=>rw [h,aS] at hi;cases hi
     | false=>
      have:(d+1==1)=(d==0):=by
       cases d<;>rfl
      rw [this];exact h
    have hi:inn d x=true:=by
     cases h:(d==0&&t.Kind==36) with
     | true=>rw [h,aS] at hi;cases hi
     | false=>rw [h,aJ] at hi;exact hi
    rw [MS l M i ns _ j (d+1) hj hl ah ZE];exact aed l hl M i ns x d (j+1) n c hs.tl hc hi ah ah
def aDv (l:List aG) (hl:l.length<=3000) (i:Nat) (o c:aG) (x:List aG) (hs:Sg l i (o::(x++[c]))) (ho:o.Kind=32) (hc:nK c.Kind=true) (hi:inn 0 x=true):uY l i false:=by
 intro M ns hM;obtain ⟨hj,hk⟩:=hs.hd;have hlen:=hs.tl.len ah;simp only [fP,ED] at hlen;obtain ⟨M,rfl⟩:∃ m,M=m+1:=⟨M - 1,ah⟩
 have hkd:kd l i=32:=by rw [Ba hj,hk,ho]
 unfold Ml;rw [aJ,gY,hkd,av,av,show ((32:Int) !=32)=false from rfl,aJ,yx,iT hj,aS,bX hj,av,hk,QM,av,ho,show mV 32=true from rfl,aS];unfold Eb;dsimp only;rw [bX hj,av,hk,JO,av,ho,show nK 32=false from rfl,aJ];show Hy (M+1) l (i:Int) false ns _ ((i:Int),((1:Nat):Int))=_;rw [MS l (M+1) i ns _ i 1 hj hl ah<|by rw [hk,ho];rfl];exact aed l hl (M+1) i ns x 0 (i+1) M c hs.tl hc hi ah ah
def aDw (l:List aG) (i:Nat) (h:kd l i≠32):uY l i false:=by
 intro M ns hM;have:(kd l i !=32)=true:=by simpa using h
 unfold Ml;rw [aJ,gY,av,av,this,aS]
def QN (k:Int):Bool:=!mV k&&(!nK k&&!(k==36))
def aDx {t:aG} (h:QN t.Kind=true) (d:Nat) (y:List aG):inn d (t::y)=inn d y:=by
 unfold QN at h;simp only [eu,pO] at h;rw [inn,h.1,aJ,h.2.1,aJ,h.2.2,RY,aJ]
def aDy {t:aG} (h:mV t.Kind=true) (d:Nat) (y:List aG):inn d (t::y)=inn (d+1) y:=by
 rw [inn,h,aS]
def aDz {t:aG} (h:nK t.Kind=true) (d:Nat) (y:List aG):inn (d+1) (t::y)=inn d y:=by
 have hop:mV t.Kind=false:=by
  cases ho:mV t.Kind with
  | false=>rfl
  | true=>rw [(Vy ho).1] at h;cases h
 rw [inn,hop,aJ,h,aS];simp
end Go.Proofs.Tryz
