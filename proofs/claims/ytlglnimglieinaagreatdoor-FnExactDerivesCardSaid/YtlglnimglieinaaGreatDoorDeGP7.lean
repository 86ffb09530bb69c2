/-
 Plain lemmas on the models, part 1.
-/
import Derived.Test.YtlglnimglieinaaGreatDoorDeGL1
namespace Go.Proofs.Tryz
open Go.Av
set_option maxRecDepth 100000
set_option linter.all false
def jh (s:List UInt8) (i:Nat):Int:=match s[i]? with|some b=>(b.toNat:Int)|none=>-1
def aqS (b:UInt8):(b.toNat:Int) < 256:=by have:=b.toNat_lt;omega
def ade (b:UInt8):IntKind.wrap .i64 ((b.toNat:Nat):Int)=(b.toNat:Int):=by have:=aqS b;exact wrap64 ah ah
def adf {s:List UInt8} {i:Nat} (h:i < s.length):jh s i=(s[i].toNat:Int):=by
 unfold jh;rw [fZ h]
def adg {s:List UInt8} {i:Nat} (h: ¬i < s.length):jh s i= -1:=by
 unfold jh;rw [vW ah]
def VL {s:List UInt8} {i:Nat} (h:jh s i≠ -1):i < s.length:=by
 cases vY i s.length with
 | inl h=>exact h
 | inr h'=>exact absurd (adg ah) h
def VN (a b c:Int):qQ a b c=some (decide (a>=b)&&decide (a<=c)):=by
 unfold qQ;by_cases h:a>=b<;>simp [h]
def Dl (a b c:Int):lS a b c=some (decide (a>=b)&&decide (a<=c)):=by
 unfold lS;by_cases h:a>=b<;>simp [h]
def Rk (s:List UInt8) (hs:s.length<=1048576) (i:Nat):Ev s (i:Int)=some (jh s i):=by
 unfold Ev;rw [VN,wrap64 ah ah,ak,gN (by omega:(i:Int)>=0),iF];by_cases h:i < s.length
 .rw [gN ah,fE,aA,bJ h,ak,adf h,ade]
 .rw [lG ah,bY,aB,adg h]
def Rl (s:List UInt8) (i:Nat):Bo s (i:Int)=some (jh s i):=by
 unfold Bo;rw [lG (by omega: ¬(i:Int) < 0),aA,ak];by_cases h:i < s.length
 .rw [lG ah,aA,bJ h,ak,adf h,ade]
 .rw [gN ah,aB,adg h]
def Rm (c:Int):Bool:=decide (c>=48)&&decide (c<=57)
def aiK (c:Int):PU c=some (Rm c):=by
 unfold PU;rw [Dl];rfl
def aiL (c:Int):Qz c=some (Rm c):=by
 unfold Qz Rm;by_cases h:c>=48<;>simp [h]
def Nu (c:Int):Bool:=(decide (c>=97)&&decide (c<=122))||((decide (c>=65)&&decide (c<=90))||c==95)
def aiM (c:Int):Qa c=some (Nu c):=by
 unfold Qa Nu;rw [Dl,Dl];cases (decide (c>=97)&&decide (c<=122))<;>cases (decide (c>=65)&&decide (c<=90))<;>rfl
def aiN (c:Int):Qy c=some (Nu c):=by
 unfold Qy Nu;cases decide (c>=97)<;>cases decide (c<=122)<;>cases decide (c>=65)<;>cases decide (c<=90)<;>rfl
def VO (c:Int):Bool:=Nu c||Rm c
def aqT (c:Int):TB c=some (VO c):=by
 unfold TB VO;rw [aiM,aiK];cases Nu c<;>rfl
def aqU (c:Int):UH c=some (VO c):=by
 unfold UH VO;rw [aiN,aiL];cases Nu c<;>rfl
def aqV {s:List UInt8} {i:Nat} (h:Rm (jh s i)=true):i < s.length:=by
 refine VL fun e=>?_;rw [e] at h;cases h
def EL {s:List UInt8} (hs:s.length<=1048576) {i:Nat} (h:i<=s.length+1):IntKind.wrap .i64 ((i:Int)+1)=((i+1:Nat):Int):=by
 rw [wrap64 ah ah];omega
def aqW (N M:Nat) (s:List UInt8) (hs:s.length<=1048576):∀ (n m i:Nat),s.length - i < n->s.length - i < m->i<=s.length->∃ r:Nat,LX N n (s,(i:Int))=some (r:Int)/\MC M m (s,(i:Int))=some (r:Int)/\i<=r/\r<=s.length:=by
 intro n;induction n with
 | zero=>intro m i h;omega
 | succ n ih=>
  intro m i hn hm hi;obtain ⟨m,rfl⟩:∃ k,m=k+1:=⟨m - 1,ah⟩
  rw [LX,MC,Rl,Rk s hs,ak,ak,aiK,aiL,ak,ak];cases h:Rm (jh s i) with
  | false=>exact ⟨i,rfl,rfl,dK _,hi⟩
  | true=>
   have:=aqV h;rw [aB,aB,EL hs ah];obtain ⟨r,h1,h2,h3,h4⟩:=ih m (i+1) ah ah ah;exact ⟨r,h1,h2,ah,h4⟩
def adh (N:Nat) (s:List UInt8) (hs:s.length<=1048576) (hN:s.length < N) (i:Nat) (hi:i<=s.length):∃ r:Nat,LY N s (i:Int)=some (r:Int)/\QB N s (i:Int)=some (r:Int)/\i<=r/\r<=s.length:=
 aqW N N s hs N N i ah ah hi
def aiO (N:Nat) (s:List UInt8) (hs:s.length<=1048576) (hN:s.length < N) (a y:Nat) (z:Int) (hy:y<=s.length) (hay:a<=y) (hz:(((y:Int)==(a:Int))=true)↔((z==0)=true)):
  ∃ r:Int,PW N (s,(a:Int),(y:Int))=some r/\ME N (s,(y:Int),z)=some r/\(r= -1\/(a < r/\r<=s.length)):=by
 simp only [PW,ME];cases he:((y:Int)==(a:Int)) with
 | true=>
  rw [hz.1 he];exact ⟨-1,rfl,rfl,.inl rfl⟩
 | false=>
  have hz0:(z==0)=false:=by
   cases h:(z==0) with
   | false=>rfl
   | true=>rw [hz.2 h] at he;cases he
  have hne: ¬(y:Int)=a:=by simpa using he
  have hcond:((some<|jh s y).bind fun fC=>bif (fC==101) then some true else ((some<|jh s y).bind fun jJ=>some<|jJ==69))=some (jh s y==101||jh s y==69):=by
   cases h:(jh s y==101)<;>simp [h]
  have aqX:(bif (jh s y==101) then some true else some (jh s y==69))=some (jh s y==101||jh s y==69):=by
   cases (jh s y==101)<;>rfl
  rw [hz0,aA,aA,Rl,Rk s hs,hcond,ak,ak,aqX,ak];have hdone:∃ r:Int,Tx N (y:Int)=some r/\UM N (y:Int)=some r/\(r= -1\/(a < r/\r<=s.length)):=⟨y,rfl,rfl,.inr ⟨ah,ah⟩⟩
  cases hE:(jh s y==101||jh s y==69) with
  | false=>exact hdone
  | true=>
   have hlt:y < s.length:=by
    refine VL fun e=>?_;rw [e] at hE;cases hE
   have hk3:∀ x:Nat,x<=s.length->y<=x->∃ r:Int,PV N (s,(y:Int),(x:Int))=some r/\QC N (s,(y:Int),(x:Int))=some r/\(r= -1\/(a < r/\r<=s.length)):=by
    intro x hx hyx;obtain ⟨r,h1,h2,h3,h4⟩:=adh N s hs hN x hx;simp only [PV,QC,h1,h2,ak];by_cases hr:(r:Int) > x
    .rw [gN hr];exact ⟨r,rfl,rfl,.inr ⟨ah,ah⟩⟩
    .rw [lG hr];exact hdone
   have hs1:=EL hs (i:=y) ah;have hs2:=EL hs (i:=y+1) ah;have hsg:((some<|jh s<|y+1).bind fun Bp=>bif (Bp==43) then some true else ((some<|jh s<|y+1).bind fun fT=>some<|fT==45))=some (jh s (y+1)==43||jh s (y+1)==45):=by
    cases h:(jh s (y+1)==43)<;>simp [h]
   have aqY:(bif (jh s (y+1)==43) then some true else some (jh s (y+1)==45))=some (jh s (y+1)==43||jh s (y+1)==45):=by
    cases (jh s (y+1)==43)<;>rfl
   simp only [aB,hs1,hs2,Rl,Rk s hs,ak] at hsg aqY ⊢;simp only [hsg,ak];cases hS:(jh s (y+1)==43||jh s (y+1)==45) with
   | true=>
    have:y+1 < s.length:=by
     refine VL fun e=>?_;rw [e] at hS;cases hS
    exact hk3 (y+1+1) ah ah
   | false=>exact hk3 (y+1) ah ah
def aqZ (N:Nat) (s:List UInt8) (hs:s.length<=1048576) (hN:s.length < N) (i:Nat) (hi:i < s.length):
  ∃ r:Int,PX N s (i:Int)=some r/\QD N s (i:Int)=some r/\(r= -1\/(i < r/\r<=s.length)):=by
 unfold PX QD;obtain ⟨r,h1,h2,h3,h4⟩:=adh N s hs hN i ah;rw [VN,wrap64 (n:=(s.length:Int) - 1) ah ah,lG (by omega: ¬(i:Int) < 0),gN (by omega:(i:Int)>=0),gN (by omega:(i:Int)<=(s.length:Int) - 1),aA,ak,zu,fE,aA,h1,h2,ak,ak,Rl,Rk s hs,ak,ak];cases hd:(jh s r==46) with
 | false=>
  rw [aA,aA,wrap64 (n:=(r:Int) - i) ah ah];refine aiO N s hs hN i r _ h4 h3 ?_;constructor
  .intro h;have:=eq_of_beq h;rw [this];simp
  .intro h;have:=eq_of_beq h;exact iG.2 ah
 | true=>
  have hlt:r < s.length:=by
   refine VL fun e=>?_;rw [e] at hd;cases hd
  obtain ⟨q,g1,g2,g3,g4⟩:=adh N s hs hN (r+1) ah;rw [aB,aB,EL hs ah,g1,g2,ak,ak,wrap64 (n:=(r:Int) - i) ah ah,wrap64 (n:=(q:Int) - r) ah ah,wrap64 (n:=(q:Int) - r - 1) ah ah,wrap64 ah ah];have ara:=aiO N s hs hN i q ((r:Int) - i+((q:Int) - r - 1)) g4 ah;by_cases he:(r:Int)=i/\(q:Int)=((r+1:Nat):Int)
  .have e1:((r:Int)==(i:Int))=true:=iG.2 he.1;have e2:((q:Int)==((r+1:Nat):Int))=true:=iG.2 he.2;have e3:(((r:Int) - i+((q:Int) - r - 1))==0)=true:=iG.2 ah;simp only [e1,e2,aB,ak,ME,e3];exact ⟨-1,rfl,rfl,.inl rfl⟩
  .have hc:(bif ((r:Int)==(i:Int)) then some ((q:Int)==((r+1:Nat):Int)) else some false)=some false:=by
    cases e1:((r:Int)==(i:Int)) with
    | false=>rfl
    | true=>
     have e2:((q:Int)==((r+1:Nat):Int))=false:=by
      cases e2:((q:Int)==((r+1:Nat):Int)) with
      | false=>rfl
      | true=>exact absurd ⟨eq_of_beq e1,eq_of_beq e2⟩ he
     rw [e2];rfl
   rw [hc,ak,aA];refine ara ?_;have n1:((q:Int)==(i:Int))=false:=by
    cases e:((q:Int)==(i:Int)) with
    | false=>rfl
    | true=>have:=eq_of_beq e;omega
   have n2:(((r:Int) - i+((q:Int) - r - 1))==0)=false:=by
    cases e:(((r:Int) - i+((q:Int) - r - 1))==0) with
    | false=>rfl
    | true=>have:=eq_of_beq e;exact absurd ⟨ah,ah⟩ he
   rw [n1,n2]
def arb (N M:Nat) (s:List UInt8) (hs:s.length<=1048576) (q:Int) (hq:q≠10) (hq2:q≠92):∀ (n m i:Nat),s.length+1 - i < n->s.length+1 - i < m->i<=s.length+1->
  ∃ r:Int,FT N n (s,q,(i:Int))=some r/\Ew M m (s,q,(i:Int))=some r/\(r= -1\/(i < r/\r<=s.length)):=by
 intro n;induction n with
 | zero=>intro m i h;omega
 | succ n ih=>
  intro m i hn hm hi;obtain ⟨m,rfl⟩:∃ k,m=k+1:=⟨m - 1,ah⟩
  rw [FT,Ew];by_cases h:i < s.length
  .simp only [fO h,aB,bJ h,ak,ade,EL hs (by omega:i<=s.length+1)];have hge:=ih m;by_cases h10:(s[i].toNat:Int)=10
   .have e1:((s[i].toNat:Int)==q)=false:=by
     cases e:((s[i].toNat:Int)==q) with
     | false=>rfl
     | true=>have:=eq_of_beq e;omega
    have e2:((s[i].toNat:Int)==10)=true:=iG.2 h10;have e3:((s[i].toNat:Int) !=10)=false:=by rw [bne,e2];rfl
    rw [e1,e2,e3];exact ⟨-1,rfl,rfl,.inl rfl⟩
   .have e2:((s[i].toNat:Int)==10)=false:=by
     cases e:((s[i].toNat:Int)==10) with
     | false=>rfl
     | true=>exact absurd (eq_of_beq e) h10
    have e3:((s[i].toNat:Int) !=10)=true:=by rw [bne,e2];rfl
    rw [e2,e3];simp only [aB,aA];cases e1:((s[i].toNat:Int)==q) with
    | true=>exact ⟨((i+1:Nat):Int),rfl,rfl,.inr ⟨ah,ah⟩⟩
    | false=>
     simp only [aA];cases e4:((s[i].toNat:Int)==92) with
     | false=>
      simp only [aA,ak,PY,MF,EL hs (by omega:i<=s.length+1)];obtain ⟨r,h1,h2,h3⟩:=hge (i+1) ah ah ah;exact ⟨r,h1,h2,h3.imp id fun h=>⟨ah,h.2⟩⟩
     | true=>
      rw [aB,aB,Rl,Rk s hs,ak,ak,ak];cases e5:(jh s (i+1)==10) with
      | true=>
       have e6:(jh s (i+1) !=10)=false:=by rw [bne,e5];rfl
       have hlt:i+1 < s.length:=by
        refine VL fun e=>?_;rw [e] at e5;cases e5
       have ard:((s[i+1].toNat:Int) !=10)=false:=by
        rw [adf hlt] at e6;exact e6
       rw [e6];obtain ⟨m,rfl⟩:∃ k,m=k+1:=⟨m - 1,ah⟩
       simp only [aB,aA,MF,EL hs (by omega:i<=s.length+1)];rw [Ew];simp only [fO hlt,aB,bJ hlt,ak,ard,aA];exact ⟨-1,rfl,rfl,.inl rfl⟩
      | false=>
       have e6:(jh s (i+1) !=10)=true:=by rw [bne,e5];rfl
       rw [e6];simp only [aB,aA,PY,MF,EL hs (by omega:i+1<=s.length+1)];obtain ⟨r,h1,h2,h3⟩:=hge (i+1+1) ah ah ah;exact ⟨r,h1,h2,h3.imp id fun h=>⟨ah,h.2⟩⟩
  .simp only [gP h,aA,ak];exact ⟨-1,rfl,rfl,.inl rfl⟩
def aiP (N:Nat) (s:List UInt8) (hs:s.length<=1048576) (hN:s.length+2 < N) (q:Int) (hq:q≠10) (hq2:q≠92) (i:Nat) (hi:i < s.length):
  ∃ r:Int,PZ N s (i:Int) q=some r/\QE N s (i:Int) q=some r/\(r= -1\/(i < r/\r<=s.length)):=by
 unfold PZ QE;rw [Rl,Rk s hs,ak,ak,EL hs ah];cases (jh s i !=q) with
 | true=>exact ⟨-1,rfl,rfl,.inl rfl⟩
 | false=>
  obtain ⟨r,h1,h2,h3⟩:=arb N N s hs q hq hq2 N N (i+1) ah ah ah;exact ⟨r,h1,h2,h3.imp id fun h=>⟨ah,h.2⟩⟩
def arf (N:Nat) (s:List UInt8) (hs:s.length<=1048576) (hN:s.length+2 < N) (i:Nat) (hi:i < s.length):
  ∃ r:Int,LZ N s (i:Int)=some r/\QF N s (i:Int)=some r/\(r= -1\/(i < r/\r<=s.length)):=by
 obtain ⟨r,h1,h2,h3⟩:=aiP N s hs hN 34 aH aH i hi;unfold LZ QF;rw [h1,h2];exact ⟨r,rfl,rfl,h3⟩
def arh (N:Nat) (s:List UInt8) (hs:s.length<=1048576) (hN:s.length+2 < N) (i:Nat) (hi:i < s.length):
  ∃ r:Int,Ma N s (i:Int)=some r/\QG N s (i:Int)=some r/\(r= -1\/(i < r/\r<=s.length)):=by
 obtain ⟨r,h1,h2,h3⟩:=aiP N s hs hN 47 aH aH i hi;unfold Ma QG;simp only [h1,h2,ak];cases (r==IntKind.wrap .i64 ((i:Int)+2)) with
 | true=>exact ⟨-1,rfl,rfl,.inl rfl⟩
 | false=>exact ⟨r,rfl,rfl,h3⟩
def ari (N M:Nat) (s:List UInt8) (hs:s.length<=1048576):∀ (n m i:Nat),s.length - i < n->s.length - i < m->i<=s.length->∃ b:Bool,IW N n (s,(i:Int))=some b/\Mw M m (s,(i:Int))=some b:=by
 intro n;induction n with
 | zero=>intro m i h;omega
 | succ n ih=>
  intro m i hn hm hi;obtain ⟨m,rfl⟩:∃ k,m=k+1:=⟨m - 1,ah⟩
  rw [IW,Mw];by_cases h:i < s.length
  .simp only [fO h,aB,bJ h,ak,aqT,aqU,EL hs (by omega:i<=s.length+1)];cases VO (IntKind.wrap .i64 ((s[i].toNat:Nat):Int)) with
   | false=>exact ⟨false,rfl,rfl⟩
   | true=>exact ih m (i+1) ah ah ah
  .simp only [gP h,aA,Dl,VN,ak];cases hc:(decide ((s.length:Int)>=1)&&decide ((s.length:Int)<=12)) with
   | false=>exact ⟨false,rfl,rfl⟩
   | true=>
    have h0:0 < s.length:=by
     simp only [dA,jS] at hc;omega
    have e:ix s 0=some s[0]:=bJ h0;simp only [aB,e,ak,aiM,aiN];exact ⟨_,rfl,rfl⟩
def arj (N:Nat) (s:List UInt8) (hs:s.length<=1048576) (hN:s.length < N):∃ b:Bool,TF N s=some b/\YO N s=some b:=
 ari N N s hs N N 0 ah ah ah
def ZE:TG=some qK:=rfl
def ark:Yt=some yN:=rfl
def adi:Yu=some yO:=rfl
def arl (N M:Nat) (l:List (List UInt8)) (x:List UInt8) (hl:l.length<=1048576):∀ (n m i:Nat),l.length - i < n->l.length - i < m->i<=l.length->
  ∃ r:Int,Me N n (l,x,(i:Int))=some r/\Jz M m (l,x,(i:Int))=some r/\(-1<=r/\(0<=r->x∈l))/\r < l.length:=by
 intro n;induction n with
 | zero=>intro m i h;omega
 | succ n ih=>
  intro m i hn hm hi;obtain ⟨m,rfl⟩:∃ k,m=k+1:=⟨m - 1,ah⟩
  rw [Me,Jz];by_cases h:i < l.length
  .have hst:IntKind.wrap .i64 ((i:Int)+1)=((i+1:Nat):Int):=EM h (by simp only [maxLen];omega);have hc:(x==l[i])=(l[i]==x):=by
    cases e:(l[i]==x) with
    | true=>have:=eq_of_beq e;subst this;simp
    | false=>
     have: ¬l[i]=x:=by simpa using e
     simpa using fun e=>this e.symm
   simp only [fO h,aB,bJ h,ak,hst,hc];cases he:(l[i]==x) with
   | true=>exact ⟨(i:Int),rfl,rfl,⟨ah,fun _=>by have:=eq_of_beq he;rw [<- this];exact kE h⟩,ah⟩
   | false=>exact ih m (i+1) ah ah ah
  .simp only [gP h,aA];exact ⟨-1,rfl,rfl,⟨ah,fun h=>ah⟩,ah⟩
def aiQ (N:Nat) (l:List (List UInt8)) (x:List UInt8) (hl:l.length<=1048576) (hN:l.length < N):∃ r:Int,TH N l x=some r/\QA N l x=some r/\(-1<=r/\(0<=r->x∈l))/\r < l.length:=
 arl N N l x hl N N 0 ah ah ah
def arn (N:Nat) (x:List UInt8) (hN:100 < N):∃ r:Int,TI N x=some r/\UJ N x=some r/\(r=0\/(10<=r/\r<=26)):=by
 obtain ⟨r,h1,h2,h3,h4⟩:=aiQ N qK x aH (by have:qK.length=17:=rfl;omega);have hl:qK.length=17:=rfl;unfold TI UJ;rw [ZE,ak,h1,h2];simp only [ak];by_cases h:r < 0
 .rw [gN h];exact ⟨0,rfl,rfl,.inl rfl⟩
 .rw [lG h,wrap64 (n:=10+r) ah ah];exact ⟨10+r,rfl,rfl,.inr ah⟩
def adk (N:Nat) (x:List UInt8) (hN:100 < N):∃ b:Bool,FV N x=some b/\MB N x=some b/\(b=true->x∈yN):=by
 obtain ⟨r,h1,h2,h3,h4⟩:=aiQ N yN x aH (by have:yN.length=21:=rfl;omega);unfold FV MB Mx;rw [ark,ak,h1,h2];exact ⟨_,rfl,rfl,fun h=>h3.2<|by simpa using h⟩
def aro (b:UInt8):(((b).toNat:Int)==10)=(b==10):=by
 cases h:(b==10) with
 | true=>have:=eq_of_beq h;subst this;rfl
 | false=>
  have hne:b≠10:=by simpa using h
  have: ¬b.toNat=10:=fun e=>hne (UInt8.toNat.inj e);simp;omega
def arp (N:Nat) (t:List UInt8) (ht:t.length<=maxLen):∀ (n i:Nat),t.length - i < n->i<=t.length->LW N n (t,(i:Int))=some (!(t.drop i).contains 10):=by
 intro n;induction n with
 | zero=>intro i h;omega
 | succ n ih=>
  intro i hn hi;rw [LW];by_cases h:i < t.length
  .simp only [fO h,aB,bJ h,ak,aro,EM h ht];rw [ih (i+1) ah ah,drop_cons h,List.contains_cons];by_cases he:t[i]=10
   .simp [he]
   .have h1:(t[i]==10)=false:=by simpa using he
    have h2:((10:UInt8)==t[i])=false:=by simpa using fun e=>he e.symm
    rw [h1,h2,aA,Aj]
  .simp only [gP h,aA];rw [drop_nil h];rfl
def arq (N:Nat) (t:List UInt8) (hN:t.length < N) (ht:t.length<=maxLen):Tw N t=some (!t.contains 10):=by
 unfold Tw;have:=arp N t ht N 0 ah ah;simpa using this
def ars (l:List UInt8) (c:UInt8):decide (Go.Lib.indexByte l c>=0)=l.contains c:=by
 induction l with
 | nil=>rfl
 | cons b l ih=>
  rw [List.contains_cons];unfold Go.Lib.indexByte;by_cases h:(b==c)=true
  .have:(c==b)=true:=by have:=eq_of_beq h;subst this;simp
   simp [h,this]
  .have hf:(b==c)=false:=by simpa using h
   have hf2:(c==b)=false:=by
    have: ¬b=c:=by simpa using hf
    simpa using fun e=>this e.symm
   rw [hf,hf2,Aj,<- ih];have hge:=Go.Lib.indexByte_ge l c;simp only [Bool.false_eq_true,if_false];split
   .rename_i he;have:Go.Lib.indexByte l c= -1:=by simpa using he
    rw [this]
   .rename_i he;have: ¬Go.Lib.indexByte l c= -1:=by simpa using he
    have h1:Go.Lib.indexByte l c>=0:=ah;have h2:Go.Lib.indexByte l c+1>=0:=ah;simp [h1,h2]
def aru (t:List UInt8):UL t=some (t.contains 10):=by
 have h0:UK t=some (Go.Lib.indexByte t 10):=by
  unfold UK;by_cases h:(([10]:List UInt8)==t)=true
  .have:=eq_of_beq h;subst this;rfl
  .have hf:(([10]:List UInt8)==t)=false:=by simpa using h
   rw [hf,aA];rfl
 unfold UL YP;rw [h0,ak,ak,ars]
def arv (k:Int):∃ x:List UInt8,Cy k=some x/\(k=0->x=[]):=by
 unfold Cy;rw [Dl,Dl,ZE,adi];simp only [ak];cases h1:(k==1) with
 | true=>exact ⟨[10],rfl,fun h=>by subst h;cases h1⟩
 | false=>
  cases h2:(decide (k>=10)&&decide (k<=26)) with
  | true=>
   simp only [dA,jS] at h2;obtain ⟨j,rfl⟩:∃ j:Nat,k=(j:Int)+10:=⟨(k - 10).toNat,ah⟩
   have hl:qK.length=17:=rfl;have hw:IntKind.wrap .i64 ((j:Int)+10 - 10)=(j:Int):=by rw [wrap64 ah ah];omega
   rw [aA,aB,hw,bJ ah];exact ⟨_,rfl,fun h=>ah⟩
  | false=>
   cases h3:(decide (k>=30)&&decide (k<=68)) with
   | true=>
    simp only [dA,jS] at h3;obtain ⟨j,rfl⟩:∃ j:Nat,k=(j:Int)+30:=⟨(k - 30).toNat,ah⟩
    have hl:yO.length=39:=rfl;have hw:IntKind.wrap .i64 ((j:Int)+30 - 30)=(j:Int):=by rw [wrap64 ah ah];omega
    rw [aA,aA,aB,hw,bJ ah];exact ⟨_,rfl,fun h=>ah⟩
   | false=>exact ⟨[],rfl,fun _=>rfl⟩
def arw (k:Int):∃ x:List UInt8,Cy k=some x/\UQ k=some x/\(k=0->x=[]):=by
 have hkw:UN k=some (decide (k>=10)&&decide (k<=26)):=by
  unfold UN;rw [VN];rfl
 have hsg:UO k=some (decide (k>=30)&&decide (k<=68)):=by
  unfold UO;rw [VN];rfl
 unfold Cy UQ;rw [Dl,Dl,hkw,hsg,ZE,adi];simp only [ak];cases h1:(k==1) with
 | true=>exact ⟨[10],rfl,rfl,fun h=>by subst h;cases h1⟩
 | false=>
  cases h2:(decide (k>=10)&&decide (k<=26)) with
  | true=>
   simp only [dA,jS] at h2;obtain ⟨j,rfl⟩:∃ j:Nat,k=(j:Int)+10:=⟨(k - 10).toNat,ah⟩
   have hl:qK.length=17:=rfl;have hw:IntKind.wrap .i64 ((j:Int)+10 - 10)=(j:Int):=by rw [wrap64 ah ah];omega
   rw [aA,aB,hw,bJ ah];exact ⟨_,rfl,rfl,fun h=>ah⟩
  | false=>
   cases h3:(decide (k>=30)&&decide (k<=68)) with
   | true=>
    simp only [dA,jS] at h3;obtain ⟨j,rfl⟩:∃ j:Nat,k=(j:Int)+30:=⟨(k - 30).toNat,ah⟩
    have hl:yO.length=39:=rfl;have hw:IntKind.wrap .i64 ((j:Int)+30 - 30)=(j:Int):=by rw [wrap64 ah ah];omega
    rw [aA,aA,aB,hw,bJ ah];exact ⟨_,rfl,rfl,fun h=>ah⟩
   | false=>exact ⟨[],rfl,rfl,fun _=>rfl⟩
def adl (N:Nat) (x:List UInt8) (hx:x.length<=1048576) (hN:x.length+200 < N):∃ b:Bool,Cx N x=some b/\BK N x=some b/\(x=[]->b=false):=by
 unfold Cx BK;obtain ⟨q,h1,h2⟩:=arj N x hx ah;obtain ⟨r,g1,g2,_⟩:=arn N x ah;obtain ⟨c,f1,f2,_⟩:=adk N x ah;have hq:x=[]->q=false:=by
  intro e;subst e;unfold TF at h1;obtain ⟨M,rfl⟩:∃ m,N=m+1:=⟨N - 1,ah⟩
  rw [IW] at h1;have e1:decide ((0:Int) < (([]:List UInt8).length:Int))=false:=rfl;have e2:lS (([]:List UInt8).length:Int) 1 12=some false:=rfl;rw [e1,aA,e2] at h1;simpa using h1.symm
 rw [h1,h2,ak,ak];cases hqv:q with
 | false=>exact ⟨false,rfl,rfl,fun _=>rfl⟩
 | true=>
  rw [aB,aB,g1,g2,ak,ak];cases (r==0) with
  | false=>exact ⟨false,rfl,rfl,fun _=>rfl⟩
  | true=>
   rw [aB,aB,f1,f2];exact ⟨!c,rfl,rfl,fun e=>by rw [hq e] at hqv;cases hqv⟩
def adn (x:List UInt8):(x==[])=true↔x=[]:=aF
def Rn (N:Nat) (t:av) (ht:t.Text.length<=1048576) (hN:t.Text.length+200 < N):∃ b:Bool,uG N t=some b/\MG N t=some b/\(t.Kind=0->b=false):=by
 obtain ⟨sp,s1,s2,s3⟩:=arw t.Kind;obtain ⟨nb,n1,n2,n3⟩:=adl N t.Text ht hN;obtain ⟨bb,b1,b2,b3⟩:=adk N t.Text ah;have hk1:∀ y:Bool,¬t.Text=[]->∃ b:Bool,zU N (t,y)=some b/\QH N (t,y)=some b/\(t.Kind=0->y=false->b=false):=by
  intro y hne;have hbn:(t.Text==[])=false:=by
   cases e:(t.Text==[]) with
   | false=>rfl
   | true=>exact absurd ((adn _).1 e) hne
  simp only [zU,QH];rw [n1,n2,b1,b2,s1,s2,hbn];cases y with
  | true=>exact ⟨nb,rfl,rfl,fun _ h=>by cases h⟩
  | false=>
   cases h8:(t.Kind==8) with
   | true=>
    refine ⟨bb,rfl,rfl,fun h=>?_⟩;rw [h] at h8;cases h8
   | false=>
    have hc:(sp==t.Text)=(t.Text==sp):=by
     cases e:(t.Text==sp) with
     | true=>have:=eq_of_beq e;rw [this];simp
     | false=>
      have: ¬t.Text=sp:=by simpa using e
      simpa using fun e=>this e.symm
    refine ⟨t.Text==sp,by rw [<- hc];rfl,rfl,fun h _=>?_⟩;rw [s3 h];exact hbn
 unfold uG MG;by_cases hne:t.Text=[]
 .have e0:(t.Text==[])=true:=(adn _).2 hne;rw [e0,aB];refine ⟨false,?_,rfl,fun _=>rfl⟩;have hl:decide ((t.Text.length:Int) > 0)=false:=by rw [hne];rfl
  have hst:LZ N t.Text 0=some (-1):=by
   rw [hne];rfl
  have hre:Ma N t.Text 0=some (-1):=by
   rw [hne];rfl
  have hm1:((-1:Int)==(t.Text.length:Int))=false:=by rw [hne];rfl
  rw [hl,hst,hre];have hk:∀ y,zU N (t,y)=some false:=by
   intro y;simp only [zU];rw [n1,n3 hne,b1,s1,e0];have hbb:bb=false:=by
    cases h:bb with
    | false=>rfl
    | true=>
     have:=b3 h;rw [hne] at this;exact absurd this aH
   rw [hbb];cases y<;>cases (t.Kind==8)<;>rfl
  simp only [ak,aA,hm1,hk];cases (t.Kind==2)<;>cases (t.Kind==3)<;>cases (t.Kind==4)<;>cases (t.Kind==5)<;>cases (t.Kind==6)<;>rfl
 .have e0:(t.Text==[])=false:=by
   cases e:(t.Text==[]) with
   | false=>rfl
   | true=>exact absurd ((adn _).1 e) hne
  have hpos:0 < t.Text.length:=by
   cases ado t.Text.length with
   | inl h=>exact absurd (VP.1 h) hne
   | inr h=>exact h
  have hl:decide ((t.Text.length:Int) > 0)=true:=gN ah;rw [e0,aA,hl];simp only [aB];cases h2:(t.Kind==2) with
  | true=>
   have e:ix t.Text 0=some t.Text[0]:=bJ hpos;have hp:=arq N t.Text ah (by simp only [maxLen];omega);have hc:=aru t.Text;rw [aB,aB,e,hp,hc];simp only [ak];refine ⟨((t.Text[0].toNat:Int)==35)&&!t.Text.contains 10,?_,?_,fun h=>?_⟩
   .cases ((t.Text[0].toNat:Int)==35)<;>rfl
   .cases ((t.Text[0].toNat:Int)==35)<;>rfl
   .rw [h] at h2;cases h2
  | false=>
   rw [aA,aA];cases h3:(t.Kind==3) with
   | true=>
    obtain ⟨r,f1,f2,_⟩:=aqZ N t.Text ht ah 0 hpos;have Nv:PX N t.Text 0=some r:=f1;have f2':QD N t.Text 0=some r:=f2;rw [aB,aB,Nv,f2'];refine ⟨_,rfl,rfl,fun h=>?_⟩;rw [h] at h3;cases h3
   | false=>
    rw [aA,aA];cases h4:(t.Kind==4) with
    | true=>
     obtain ⟨r,f1,f2,_⟩:=arf N t.Text ht ah 0 hpos;have Nv:LZ N t.Text 0=some r:=f1;have f2':QF N t.Text 0=some r:=f2;rw [aB,aB,Nv,f2'];refine ⟨_,rfl,rfl,fun h=>?_⟩;rw [h] at h4;cases h4
    | false=>
     rw [aA,aA];cases h5:(t.Kind==5) with
     | true=>
      obtain ⟨r,f1,f2,_⟩:=arh N t.Text ht ah 0 hpos;have Nv:Ma N t.Text 0=some r:=f1;have f2':QG N t.Text 0=some r:=f2;rw [aB,aB,Nv,f2'];refine ⟨_,rfl,rfl,fun h=>?_⟩;rw [h] at h5;cases h5
     | false=>
      rw [aA,aA];cases h6:(t.Kind==6) with
      | true=>
       obtain ⟨b,k1,k2,k3⟩:=hk1 true hne;refine ⟨b,k1,k2,fun h=>?_⟩;rw [h] at h6;cases h6
      | false=>
       obtain ⟨b,k1,k2,k3⟩:=hk1 (t.Kind==7) hne;refine ⟨b,k1,k2,fun h=>k3 h ?_⟩;rw [h];rfl
def kZ (a:List aG):List (List Int):=a.map (·.Kids)
def aiS {a:List aG} {i:Nat} (h:i < a.length):(kZ a).drop i=a[i].Kids::(kZ a).drop (i+1):=by
 have h':i < (kZ a).length:=by simpa [kZ] using h
 rw [drop_cons h'];simp [kZ]
def arz (N:Nat) (kb:(List aG×Int×List Int)->Option (List Int×Bool)) (a:List aG) (i:Nat) (hi:i < a.length) (hi2:i<=100000) (out:List Int) (ho:out.length=i) (hl:Low out) (hk:a[i].Kids.length<=1048576):
  ∀ (n j:Nat) (at_:Int),j < n->j<=a[i].Kids.length->0<=at_->at_<=i->
   Mg N kb n (a,(i:Int),out,at_,(j:Int) - 1)=match walk out at_ (a[i].Kids.take j).reverse with
    | none=>some ([],false)
    | some s=>kb (a,((i+1:Nat):Int),out++[s]):=by
 intro n;induction n with
 | zero=>intro j at_ h;omega
 | succ n ih=>
  intro j at_ hn hj h0 h1;rw [Mg];cases j with
  | zero=>
   have:decide (((0:Nat):Int) - 1>=0)=false:=aF;simp only [this,aA,List.take_zero,List.reverse_nil,walk];rw [mH (by simp [ho];omega),ak,wrap64 ah ah];rfl
  | succ j=>
   have hjk:j < a[i].Kids.length:=ah;rw [arA hjk];simp only [arB,aB,arC,bJ hi,bJ hjk,ak];rw [wrap64 (n:=at_ - 1) ah ah];unfold walk;by_cases hc:a[i].Kids[j]≠at_ - 1
   .have h2:(a[i].Kids[j] !=at_ - 1)=true:=by simpa using hc
    rw [h2,aB,ak,aB,bU<|.inr hc]
   .have h2:(a[i].Kids[j] !=at_ - 1)=false:=by simpa using hc
    rw [h2,aA,ak];by_cases hz:at_=0
    .have h3:(at_==0)=true:=by simpa using hz
     rw [h3,aB,bU<|.inl hz]
    .have h3:(at_==0)=false:=by simpa using hz
     rw [h3,aA,bL fun h=>h.elim hz hc];have hlt:(at_ - 1).toNat < out.length:=ah;have hx:ix out (at_ - 1)=some out[(at_ - 1).toNat]:=by
      have:=bJ hlt;rwa [adp ah] at this
     rw [hx,ak,fZ hlt];have hlow:=hl _ _ (fZ hlt);rw [wrap64 ah ah];exact ih j _ ah ah hlow.1 ah
def arD (N:Nat) (a:List aG) (hN:1048577 < N) (ha:a.length<=100000) (hk:∀ x,x∈a->x.Kids.length<=1048576):∀ (n i:Nat) (out:List Int),a.length - i < n->i<=a.length->out.length=i->Low out->
  Ja N n (a,(i:Int),out)=match starts ((kZ a).drop i) out with
   | none=>some ([],false)
   | some r=>some (r,true):=by
 intro n;induction n with
 | zero=>intro i out h;omega
 | succ n ih=>
  intro i out hn hi ho hl;rw [Ja];by_cases h:i < a.length
  .have hkl:=hk _ (kE h);simp only [fO h,aB,bJ h,ak];rw [wrap64 (n:=(a[i].Kids.length:Int) - 1) ah ah,arz N _ a i h ah out ho hl hkl N _ _ ah (dK _) ah ah,List.take_length,aiS h,starts,ho];cases hw:walk out (i:Int) a[i].Kids.reverse with
   | none=>rfl
   | some s=>
    have hs:=ZF hl _ ah hw;simp only [ak];exact ih (i+1) _ ah ah (by simp [ho]) (hl.snoc hs.1 ah)
  .simp only [gP h,aA];have:(kZ a).drop i=[]:=drop_nil (by simpa [kZ] using h);rw [this];rfl
def arE (N:Nat) (kb:(List aG×Int×List Int)->Option (List Int×Bool)) (a:List aG) (e:aG) (i:Nat) (hi:i < a.length) (hi2:i<=100000) (out st:List Int) (ho:out.length=i) (hst:st.take i=out) (hsl:st.length=a.length) (hl:Low out):
  ∀ (ks:List Int) (at_:Int),0<=at_->at_<=i->
   Jy N kb a (i:Int) e st ks (at_ - 1)=match walk out at_ ks with
    | none=>some ([],false)
    | some s=>kb (a,((i+1:Nat):Int),st.set i s):=by
 intro ks;have hil:i < st.length:=ah;induction ks with
 | nil=>
  intro at_ h0 h1;rw [Jy];simp only [walk];rw [bJ hil,ak,wrap64 (n:=at_ - 1+1) ah ah,aiT hil,ak,wrap64 ah ah,Int.sub_add_cancel];rfl
 | cons k ks ih=>
  intro at_ h0 h1;rw [Jy];unfold walk;by_cases hz:at_=0
  .have h3:decide (at_ - 1 < 0)=true:=bZ;rw [h3,aB,ak,aB,bU<|.inl hz]
  .have h3:decide (at_ - 1 < 0)=false:=bZ;rw [h3,aA,ak];by_cases hc:k≠at_ - 1
   .have h2:(k !=at_ - 1)=true:=by simpa using hc
    rw [h2,aB,bU<|.inr hc]
   .have h2:(k !=at_ - 1)=false:=by simpa using hc
    have hk:k=at_ - 1:=Decidable.of_not_not hc;rw [h2,aA,bL fun h=>h.elim hz hc];have hlt:(at_ - 1).toNat < out.length:=ah;have hlt2:(at_ - 1).toNat < st.length:=ah;have hx:ix st k=some st[(at_ - 1).toNat]:=by
     have:=bJ hlt2;rw [adp ah] at this;rw [hk];exact this
    have he:out[(at_ - 1).toNat]?=some st[(at_ - 1).toNat]:=by
     rw [<- hst,zw,bU ah,fZ hlt2]
    rw [hx,ak,he];have hlow:=hl _ _ he;rw [wrap64 (n:=st[(at_ - 1).toNat] - 1) ah ah];exact ih _ hlow.1 ah
def Ro (r:List Int) (n:Nat):Bool:=r[n - 1]?==some 0
def arF (N:Nat) (a:List aG) (ha:a.length<=100000) (h1:1<=a.length):∀ (n i:Nat) (out st:List Int),a.length - i < n->i<=a.length->out.length=i->st.take i=out->st.length=a.length->Low out->
  ∃ st',Gl N n (a,(i:Int),st)=some (st',match starts ((kZ a).drop i) out with
   | none=>false
   | some r=>Ro r a.length)/\∀ r,starts ((kZ a).drop i) out=some r->st'=r:=by
 intro n;induction n with
 | zero=>intro i out st h;omega
 | succ n ih=>
  intro i out st hn hi ho hst hsl hl;rw [Gl];by_cases h:i < a.length
  .simp only [fO h,aB,bJ h,ak];rw [wrap64 (n:=(i:Int) - 1) ah ah,arE N _ a a[i] i h ah out st ho hst hsl hl _ _ ah ah,aiS h,starts,ho];cases hw:walk out (i:Int) a[i].Kids.reverse with
   | none=>exact ⟨[],rfl,fun r h=>by cases h⟩
   | some s=>
    have hs:=ZF hl _ ah hw;simp only [ak];refine ih (i+1) _ _ ah ah (by simp [ho]) ?_ (by simpa using hsl) (hl.snoc hs.1 ah);rw [Rp,List.take_set_of_le<|dK i,hst,aiU ah];rfl
  .simp only [gP h,aA];have:(kZ a).drop i=[]:=drop_nil (by simpa [kZ] using h);rw [this];have hia:i=a.length:=ah;have hso:st=out:=by rw [<- hst,VQ ah]
   have hlt:a.length - 1 < st.length:=ah;have hx:ix st ((a.length:Int) - 1)=some st[a.length - 1]:=by
    have:=bJ hlt;rwa [show ((a.length - 1:Nat):Int)=(a.length:Int) - 1 by omega] at this
   rw [wrap64 (n:=(a.length:Int) - 1) ah ah,hx,ak];refine ⟨st,?_,fun r hr=>by rw [hso];exact iV hr⟩;simp only [starts,Ro,<- hso,fZ hlt];congr 2
def qY (a:List aG):Bool:=
 (decide (1<=a.length)&&decide (a.length<=400))&&(match starts (kZ a) [] with
  | none=>false
  | some r=>Ro r a.length)
def Nw (a b c:Int):qQ a b c=some (decide (a>=b)&&decide (a<=c)):=by
 unfold qQ;cases decide (a>=b)<;>rfl
def Ak (a b c:Int):lS a b c=some (decide (a>=b)&&decide (a<=c)):=by
 unfold lS;cases decide (a>=b)<;>rfl
def arG {a:List aG} (hs:∀ x,x∈a->mD x):∀ x,x∈a->x.Kids.length<=1048576:=fun x hx=>by
 have:=hs x hx;unfold mD at this;omega
def arH (N:Nat) (a:List aG) (hN:1048577 < N) (ha:a.length<=400) (hs:∀ x,x∈a->mD x):Yx N a=match starts (kZ a) [] with
  | none=>some ([],false)
  | some r=>some (r,true):=by
 have:=arD N a hN ah (arG hs) N 0 [] ah ah rfl (fun j s h=>by simp at h);rw [zy] at this;exact this
def aiV (N:Nat) (a:List aG) (hN:1048577 < N) (hs:∀ x,x∈a->mD x):Qe N a=some (qY a):=by
 unfold Qe qY;rw [Ak,ak];by_cases h1:1<=a.length
 .by_cases h2:a.length<=400
  .have e1:decide ((a.length:Int)>=1)=true:=bZ;have e2:decide ((a.length:Int)<=400)=true:=bZ;simp only [e1,e2,zu,fE,aA,h1,h2,Al,iF,arH N a hN h2 hs];cases hst:starts (kZ a) [] with
   | none=>rfl
   | some r=>
    obtain ⟨⟨m,hm,hml⟩,_,_⟩:=adq _ (fun j s h=>by simp at h) hst;have hrl:r.length=a.length:=by rw [hm];simp [hml,kZ]
    have hlt:a.length - 1 < r.length:=ah;have hx:ix r ((a.length:Int) - 1)=some r[a.length - 1]:=by
     have:=bJ hlt;rwa [show ((a.length - 1:Nat):Int)=(a.length:Int) - 1 by omega] at this
    simp only [ak,aB];rw [wrap64 (n:=(a.length:Int) - 1) ah ah,hx,ak,ak];simp only [Ro,fZ hlt];congr 1
  .have e2:decide ((a.length:Int)<=400)=false:=bZ;simp [e2,h2]
 .have e1:decide ((a.length:Int)>=1)=false:=bZ;simp [e1,h1]
def arI (N:Nat) (a:List aG) (hN:1048577 < N):∃ st,UF N a=some (st,qY a)/\(a.length<=400->∀ r,starts (kZ a) []=some r->st=r\/a=[]):=by
 unfold UF qY;rw [Nw,ak];by_cases h1:1<=a.length
 .by_cases h2:a.length<=400
  .have e1:decide ((a.length:Int)>=1)=true:=bZ;have e2:decide ((a.length:Int)<=400)=true:=bZ;obtain ⟨st',hst',hr⟩:=arF N a ah h1 N 0 [] (List.replicate a.length 0) ah ah rfl aF aF (fun j s h=>by simp at h);rw [zy] at hst' hr;simp only [e1,e2,zu,fE,aA];rw [Ym ah (by simp only [maxLen];omega),ak];have rW:Gl N N (a,0,List.replicate a.length 0)=_:=hst';rw [rW];exact ⟨st',by simp [h1,h2],fun _ r h=>.inl<|hr r h⟩
  .have e2:decide ((a.length:Int)<=400)=false:=bZ;exact ⟨[],by simp [e2,h2],fun h=>absurd h h2⟩
 .have e1:decide ((a.length:Int)>=1)=false:=bZ;refine ⟨[],by simp [e1,h1],fun _ r _=>.inr ?_⟩;cases a with
  | nil=>rfl
  | cons=>simp at h1
def arJ (N:Nat) (a:List aG) (hN:1048577 < N):UG N a=some (qY a):=by
 obtain ⟨st,h,_⟩:=arI N a hN;unfold UG;rw [h];rfl
def atU (op:Int):∃ (b:Bool) (l:Int),Em op=some b/\CS op=some l/\(l !=0)=b:=by
 rcases jF (op=60) with rfl|Du
 .exact ⟨true,_,rfl,rfl,rfl⟩
 rcases jF (op=57) with rfl|h57
 .exact ⟨true,_,rfl,rfl,rfl⟩
 rcases jF (op=58) with rfl|jc
 .exact ⟨true,_,rfl,rfl,rfl⟩
 rcases jF (op=59) with rfl|uP
 .exact ⟨true,_,rfl,rfl,rfl⟩
 rcases jF (op=55) with rfl|h55
 .exact ⟨true,_,rfl,rfl,rfl⟩
 rcases jF (op=56) with rfl|rZ
 .exact ⟨true,_,rfl,rfl,rfl⟩
 rcases jF (op=99) with rfl|nO
 .exact ⟨true,_,rfl,rfl,rfl⟩
 rcases jF (op=63) with rfl|h63
 .exact ⟨true,_,rfl,rfl,rfl⟩
 rcases jF (op=48) with rfl|h48
 .exact ⟨true,_,rfl,rfl,rfl⟩
 rcases jF (op=47) with rfl|h47
 .exact ⟨true,_,rfl,rfl,rfl⟩
 rcases jF (op=50) with rfl|h50
 .exact ⟨true,_,rfl,rfl,rfl⟩
 rcases jF (op=62) with rfl|Ru
 .exact ⟨true,_,rfl,rfl,rfl⟩
 rcases jF (op=49) with rfl|kH
 .exact ⟨true,_,rfl,rfl,rfl⟩
 rcases jF (op=67) with rfl|h67
 .exact ⟨true,_,rfl,rfl,rfl⟩
 rcases jF (op=46) with rfl|h46
 .exact ⟨true,_,rfl,rfl,rfl⟩
 rcases jF (op=45) with rfl|h45
 .exact ⟨true,_,rfl,rfl,rfl⟩
 rcases jF (op=44) with rfl|kR
 .exact ⟨true,_,rfl,rfl,rfl⟩
 have e:∀ k,op≠k->(op==k)=false:=fun k h=>by simpa using h
 refine ⟨false,0,?_,?_,rfl⟩
 .unfold Em;rw [e 60 Du,e 57 h57,e 58 jc,e 59 uP,e 55 h55,e 56 rZ,e 99 nO,e 63 h63,e 48 h48,e 47 h47,e 50 h50,e 62 Ru,e 49 kH,e 67 h67,e 46 h46,e 45 h45,e 44 kR];rfl
 .unfold CS UU Gm UR QI;simp only [e 60 Du,e 57 h57,e 58 jc,e 59 uP,e 55 h55,e 56 rZ,e 99 nO,e 63 h63,e 48 h48,e 47 h47,e 50 h50,e 62 Ru,e 49 kH,e 67 h67,e 46 h46,e 45 h45,e 44 kR,aA]
def atV (N:Nat) (t:List UInt8) (hN:100 < N):Mx N [[],[62],[62,62],[124]] t=some (t==[]||(t==[62]||(t==[62,62]||t==[124]))):=by
 obtain ⟨N,rfl⟩:∃ M,N=M+5:=⟨N - 5,ah⟩
 unfold Mx QA;rcases jF (t=[]) with rfl|h1
 .rfl
 rcases jF (t=[62]) with rfl|h2
 .rfl
 rcases jF (t=[62,62]) with rfl|h3
 .rfl
 rcases jF (t=[124]) with rfl|h4
 .rfl
 have e:∀ k:List UInt8,t≠k->(t==k)=false:=fun k h=>by simpa using h
 have i0:ix [([]:List UInt8),[62],[62,62],[124]] 0=some []:=rfl;have i1:ix [([]:List UInt8),[62],[62,62],[124]] 1=some [62]:=rfl;have i2:ix [([]:List UInt8),[62],[62,62],[124]] 2=some [62,62]:=rfl;have i3:ix [([]:List UInt8),[62],[62,62],[124]] 3=some [124]:=rfl;have w1:IntKind.wrap .i64 ((0:Int)+1)=1:=rfl;have w2:IntKind.wrap .i64 ((1:Int)+1)=2:=rfl;have w3:IntKind.wrap .i64 ((2:Int)+1)=3:=rfl;have w4:IntKind.wrap .i64 ((3:Int)+1)=4:=rfl;have d:∀ k:Int,k < 4->decide (k < ((List.length [([]:List UInt8),[62],[62,62],[124]]:Nat):Int))=true:=fun k h=>gN h;have d4:decide ((4:Int) < ((List.length [([]:List UInt8),[62],[62,62],[124]]:Nat):Int))=false:=rfl;simp only [Jz,d 0 ah,d 1 ah,d 2 ah,d 3 ah,d4,i0,i1,i2,i3,w1,w2,w3,w4,e _ h1,e _ h2,e _ h3,e _ h4,aB,aA,ak,Bool.or_false,Bool.or_self];rfl
def FK (n:aG):Prop:=
 (n.Kind=28->2<=n.Kids.length/\n.Kids.length<=3)/\(n.Kind=29->n.Kids.length=2)/\(n.Kind=30->n.Kids.length=2)/\(n.Kind=31->n.Kids.length=4)/\
 (n.Kind=42->n.Op=1/\n.Kids.length=1\/n.Op=2/\n.Kids.length=1\/n.Op=3/\n.Kids.length=2)/\(n.Kind=43->n.Op=1/\n.Kids.length=2\/n.Op=3/\n.Kids.length=3)/\
 (n.Kind=12->n.Kids.length=2/\n.Text=[]/\n.Other=[])/\(n.Kind=11->n.Kids.length=1/\n.Text=[]/\n.Other=[])
def fU (k:Int):Prop:=(1<=k/\k<=16)\/(20<=k/\k<=34)\/(40<=k/\k<=45)
def FK.other {n:aG} (h:n.Kind≠28/\n.Kind≠29/\n.Kind≠30/\n.Kind≠31/\n.Kind≠42/\n.Kind≠43/\n.Kind≠12/\n.Kind≠11):FK n:=
 ⟨fun e=>absurd e h.1,fun e=>absurd e h.2.1,fun e=>absurd e h.2.2.1,fun e=>absurd e h.2.2.2.1,fun e=>absurd e h.2.2.2.2.1,fun e=>absurd e h.2.2.2.2.2.1,fun e=>absurd e h.2.2.2.2.2.2.1,fun e=>absurd e h.2.2.2.2.2.2.2⟩
def Dw {l:Nat} {c1 c2:Bool} {m k:Nat} (h1:decide ((l:Int)>=(m:Int))=c1) (h2:decide ((l:Int)<=(k:Int))=c2) (h:(c1&&c2)=true):m<=l/\l<=k:=by
 subst h1 h2;simp only [dA,jS] at h;omega
set_option maxHeartbeats 8000000 in
def atW (N:Nat) (n:aG) (hN:1048576+300 < N) (hn:mD n) (hk:n.Kids.length<=400):∃ b:Bool,yT N n=some b/\QK N n=some b/\(b=true->FK n/\fU n.Kind):=by
 obtain ⟨kind,op,text,other,kids⟩:=n;unfold mD at hn;simp only at hn hk;obtain ⟨bn,n1,n2,_⟩:=adl N text ah ah;obtain ⟨bo,o1,o2,_⟩:=adl N other ah ah;obtain ⟨bb,b1,b2,_⟩:=adk N text ah;obtain ⟨t2,t2a,t2b,_⟩:=Rn N ⟨2,text,0⟩ sj sj;obtain ⟨t3,t3a,t3b,_⟩:=Rn N ⟨3,text,0⟩ sj sj;obtain ⟨t4,t4a,t4b,_⟩:=Rn N ⟨4,text,0⟩ sj sj;obtain ⟨t5,t5a,t5b,_⟩:=Rn N ⟨5,text,0⟩ sj sj;obtain ⟨ob,ol,ob1,ob2,ob3⟩:=atU op;have hr:=atV N other ah;have x2:ix [(3:Int),4,5] (IntKind.wrap .i64<|(2:Int) - 2)=some 3:=rfl;have x3:ix [(3:Int),4,5] (IntKind.wrap .i64<|(3:Int) - 2)=some 4:=rfl;have x4:ix [(3:Int),4,5] (IntKind.wrap .i64<|(4:Int) - 2)=some 5:=rfl;have hl0:decide ((kids.length:Int)>=0)=true:=aF;have hlm:decide ((kids.length:Int)<=400)=true:=bZ;rcases Classical.em (kind=1\/kind=2\/kind=3\/kind=4\/kind=5\/kind=6\/kind=7\/kind=8\/kind=9\/kind=10\/kind=11\/kind=12\/kind=13\/kind=14\/kind=15\/kind=16\/kind=20\/kind=21\/kind=22\/kind=23\/kind=24\/kind=25\/kind=26\/kind=27\/kind=28\/kind=29\/kind=30\/kind=31\/kind=32\/kind=33\/kind=34\/kind=40\/kind=41\/kind=42\/kind=43\/kind=44\/kind=45) with hall|hall
 rotate_left
 .skip
  have h1:kind≠1:=fun h=>hall (by simp [h]);have h2:kind≠2:=fun h=>hall (by simp [h]);have h3:kind≠3:=fun h=>hall (by simp [h]);have h4:kind≠4:=fun h=>hall (by simp [h]);have h5:kind≠5:=fun h=>hall (by simp [h]);have h6:kind≠6:=fun h=>hall (by simp [h]);have h7:kind≠7:=fun h=>hall (by simp [h]);have h8:kind≠8:=fun h=>hall (by simp [h]);have h9:kind≠9:=fun h=>hall (by simp [h]);have h10:kind≠10:=fun h=>hall (by simp [h]);have h11:kind≠11:=fun h=>hall (by simp [h]);have h12:kind≠12:=fun h=>hall (by simp [h]);have zG:kind≠13:=fun h=>hall (by simp [h]);have jN:kind≠14:=fun h=>hall (by simp [h]);have ug:kind≠15:=fun h=>hall (by simp [h]);have h16:kind≠16:=fun h=>hall (by simp [h]);have h20:kind≠20:=fun h=>hall (by simp [h]);have h21:kind≠21:=fun h=>hall (by simp [h]);have h22:kind≠22:=fun h=>hall (by simp [h]);have h23:kind≠23:=fun h=>hall (by simp [h]);have dN:kind≠24:=fun h=>hall (by simp [h]);have h25:kind≠25:=fun h=>hall (by simp [h]);have Rx:kind≠26:=fun h=>hall (by simp [h]);have h27:kind≠27:=fun h=>hall (by simp [h]);have uh:kind≠28:=fun h=>hall (by simp [h]);have ZW:kind≠29:=fun h=>hall (by simp [h]);have ZX:kind≠30:=fun h=>hall (by simp [h]);have h31:kind≠31:=fun h=>hall (by simp [h]);have h32:kind≠32:=fun h=>hall (by simp [h]);have gZ:kind≠33:=fun h=>hall (by simp [h]);have oU:kind≠34:=fun h=>hall (by simp [h]);have vZ:kind≠40:=fun h=>hall (by simp [h]);have lY:kind≠41:=fun h=>hall (by simp [h]);have ZY:kind≠42:=fun h=>hall (by simp [h]);have h43:kind≠43:=fun h=>hall (by simp [h]);have kR:kind≠44:=fun h=>hall (by simp [h]);have h45:kind≠45:=fun h=>hall (by simp [h]);have e:∀ k,kind≠k->(kind==k)=false:=fun k h=>by simpa using h
  have r1:(decide (kind>=1)&&decide (kind<=16))=false:=by
   cases h:(decide (kind>=1)&&decide (kind<=16)) with
   | false=>rfl
   | true=>simp only [dA,jS] at h;omega
  have r1b:(decide (kind>=1)&&decide (kind<=15))=false:=by
   cases h:(decide (kind>=1)&&decide (kind<=15)) with
   | false=>rfl
   | true=>simp only [dA,jS] at h;omega
  have r2:(decide (kind>=20)&&decide (kind<=34))=false:=by
   cases h:(decide (kind>=20)&&decide (kind<=34)) with
   | false=>rfl
   | true=>simp only [dA,jS] at h;omega
  have r3:(decide (kind>=40)&&decide (kind<=45))=false:=by
   cases h:(decide (kind>=40)&&decide (kind<=45)) with
   | false=>rfl
   | true=>simp only [dA,jS] at h;omega
  refine ⟨false,?_,?_,fun h=>by cases h⟩
  .simp only [yT,El,Qi,Mh,Br,Je,Qh,Qg,Ak,r1,r2,r3,ak,aA,e 1 h1,e 2 h2,e 3 h3,e 4 h4,e 5 h5,e 6 h6,e 7 h7,e 8 h8,e 9 h9,e 10 h10,e 11 h11,e 12 h12,e 13 zG,e 14 jN,e 15 ug,e 16 h16,e 20 h20,e 21 h21,e 22 h22,e 23 h23,e 24 dN,e 25 h25,e 26 Rx,e 27 h27,e 28 uh,e 29 ZW,e 30 ZX,e 31 h31,e 32 h32,e 33 gZ,e 34 oU,e 40 vZ,e 41 lY,e 42 ZY,e 43 h43,e 44 kR,e 45 h45]
  .simp only [QK,CQ,JC,Nw,r1b,r2,r3,e 16 h16,ak,aA]
 rcases hall with rfl|rfl|rfl|rfl|rfl|rfl|rfl|rfl|rfl|rfl|rfl|rfl|rfl|rfl|rfl|rfl|rfl|rfl|rfl|rfl|rfl|rfl|rfl|rfl|rfl|rfl|rfl|rfl|rfl|rfl|rfl|rfl|rfl|rfl|rfl|rfl|rfl;all_goals simp only [yT,El,Qi,Mh,Br,Je,Qh,Qg,CB,TK,TL,En,QK,MH,CQ,JC,YQ,QJ,UY,UW,YR,xG,Va,UZ,YS,JD,Ve,Vb,Vd,xE,JB,wY,Ak,Nw,ak,aB,aA,Int.reduceBEq,Int.reduceGE,Int.reduceLE,Al,GR,EU,iF,Kl,tY,zu,n1,n2,o1,o2,b1,b2,t2a,t2b,t3a,t3b,t4a,t4b,t5a,t5b,ob1,ob2,ob3,hr,hl0,x2,x3,x4]
 .skip
  generalize (op==0)=c1;generalize (text==[])=c2;generalize (other==[])=c3;generalize g2:(decide<|(kids.length:Int)<=0)=c7;cases c1<;>cases c2<;>cases c3<;>cases c7<;>cases bn<;>exact ⟨_,rfl,rfl,fun _=>⟨FK.other aF,by simp [fU]⟩⟩
 .skip
  generalize (op==0)=c1;generalize (text==[])=c2;generalize (other==[])=c3;generalize g2:(decide<|(kids.length:Int)<=0)=c7;cases c1<;>cases c2<;>cases c3<;>cases c7<;>cases t3<;>exact ⟨_,rfl,rfl,fun _=>⟨FK.other aF,by simp [fU]⟩⟩
 .skip
  generalize (op==0)=c1;generalize (text==[])=c2;generalize (other==[])=c3;generalize g2:(decide<|(kids.length:Int)<=0)=c7;cases c1<;>cases c2<;>cases c3<;>cases c7<;>cases t4<;>exact ⟨_,rfl,rfl,fun _=>⟨FK.other aF,by simp [fU]⟩⟩
 .skip
  generalize (op==0)=c1;generalize (text==[])=c2;generalize (other==[])=c3;generalize g2:(decide<|(kids.length:Int)<=0)=c7;cases c1<;>cases c2<;>cases c3<;>cases c7<;>cases t5<;>exact ⟨_,rfl,rfl,fun _=>⟨FK.other aF,by simp [fU]⟩⟩
 .skip
  generalize (op==0)=c1;generalize (text==[])=c2;generalize (other==[])=c3;generalize g1:(decide<|(kids.length:Int)>=1)=c6;generalize g2:(decide<|(kids.length:Int)<=6)=c7;cases c1<;>cases c2<;>cases c3<;>cases c6<;>cases c7<;>cases bn<;>exact ⟨_,rfl,rfl,fun _=>⟨FK.other aF,by simp [fU]⟩⟩
 .skip
  generalize (op==0)=c1;generalize (text==[])=c2;generalize (other==[])=c3;generalize g1:(decide<|(kids.length:Int)>=1)=c6;generalize g2:(decide<|(kids.length:Int)<=1)=c7;cases c1<;>cases c2<;>cases c3<;>cases c6<;>cases c7<;>exact ⟨_,rfl,rfl,fun _=>⟨FK.other aF,by simp [fU]⟩⟩
 .skip
  generalize (op==0)=c1;generalize (text==[])=c2;generalize (other==[])=c3;generalize g2:(decide<|(kids.length:Int)<=6)=c7;cases c1<;>cases c2<;>cases c3<;>cases c7<;>cases bn<;>exact ⟨_,rfl,rfl,fun _=>⟨FK.other aF,by simp [fU]⟩⟩
 .skip
  generalize (op==0)=c1;generalize (text==[])=c2;generalize (other==[])=c3;generalize g2:(decide<|(kids.length:Int)<=6)=c7;cases c1<;>cases c2<;>cases c3<;>cases c7<;>cases bb<;>exact ⟨_,rfl,rfl,fun _=>⟨FK.other aF,by simp [fU]⟩⟩
 .skip
  generalize (op==51)=c1;generalize (op==52)=c2;generalize (text==[])=c3;generalize (other==[])=c4;generalize g1:(decide<|(kids.length:Int)>=1)=c6;generalize g2:(decide<|(kids.length:Int)<=1)=c7;cases c1<;>cases c2<;>cases c3<;>cases c4<;>cases c6<;>cases c7<;>first|exact ⟨_,rfl,rfl,fun _=>⟨FK.other aF,by simp [fU]⟩⟩|exact ⟨_,rfl,(show some (decide ((kids.length:Int)>=1)&&decide ((kids.length:Int)<=1))=some _ by rw [g1,g2]),fun _=>⟨FK.other aF,by simp [fU]⟩⟩
 .skip
  generalize (op==51)=c1;generalize (op==52)=c2;generalize (text==[])=c3;generalize (other==[])=c4;generalize g1:(decide<|(kids.length:Int)>=1)=c6;generalize g2:(decide<|(kids.length:Int)<=1)=c7;cases c1<;>cases c2<;>cases c3<;>cases c4<;>cases c6<;>cases c7<;>first|exact ⟨_,rfl,rfl,fun _=>⟨FK.other aF,by simp [fU]⟩⟩|exact ⟨_,rfl,(show some (decide ((kids.length:Int)>=1)&&decide ((kids.length:Int)<=1))=some _ by rw [g1,g2]),fun _=>⟨FK.other aF,by simp [fU]⟩⟩
 .skip
  generalize (op==55)=c1;generalize (op==56)=c2;generalize (op==61)=c3;generalize gT:(text==[])=c4;generalize gO:(other==[])=c5;generalize g1:(decide<|(kids.length:Int)>=1)=c6;generalize g2:(decide<|(kids.length:Int)<=1)=c7;have K:c4=true->c5=true->(c6&&c7)=true->FK ⟨11,op,text,other,kids⟩:=fun hT hO h=>by
   have:=Dw (m:=1) (k:=1) g1 g2 h;have eT:text=[]:=by simpa [hT] using gT
   have eO:other=[]:=by simpa [hO] using gO
   exact ⟨aF,aF,aF,aF,aF,aF,aF,fun _=>⟨sj,eT,eO⟩⟩
  cases c1<;>cases c2<;>cases c3<;>cases c4<;>cases c5<;>cases c6<;>cases c7<;>first|exact ⟨_,rfl,rfl,fun h=>by first|(cases h;done)|exact ⟨K rfl rfl rfl,by simp [fU]⟩⟩|exact ⟨_,rfl,(show some (decide ((kids.length:Int)>=1)&&decide ((kids.length:Int)<=1))=some _ by rw [g1,g2]),fun h=>by first|(cases h;done)|exact ⟨K rfl rfl rfl,by simp [fU]⟩⟩
 .skip
  generalize (op==0)=c1;generalize gT:(text==[])=c2;generalize gO:(other==[])=c3;generalize g1:(decide<|(kids.length:Int)>=2)=c6;generalize g2:(decide<|(kids.length:Int)<=2)=c7;have K:c2=true->c3=true->(c6&&c7)=true->FK ⟨12,op,text,other,kids⟩:=fun hT hO h=>by
   have:=Dw (m:=2) (k:=2) g1 g2 h;have eT:text=[]:=by simpa [hT] using gT
   have eO:other=[]:=by simpa [hO] using gO
   exact ⟨aF,aF,aF,aF,aF,aF,fun _=>⟨sj,eT,eO⟩,aF⟩
  cases c1<;>cases c2<;>cases c3<;>cases c6<;>cases c7<;>cases ob<;>exact ⟨_,rfl,rfl,fun h=>by first|(cases h;done)|exact ⟨K rfl rfl rfl,by simp [fU]⟩⟩
 .skip
  generalize (op==0)=c1;generalize (text==[])=c2;generalize (other==[])=c3;generalize g1:(decide<|(kids.length:Int)>=1)=c6;generalize g2:(decide<|(kids.length:Int)<=6)=c7;cases c1<;>cases c2<;>cases c3<;>cases c6<;>cases c7<;>cases bn<;>exact ⟨_,rfl,rfl,fun _=>⟨FK.other aF,by simp [fU]⟩⟩
 .skip
  generalize (op==0)=c1;generalize (text==[])=c2;generalize (other==[])=c3;generalize g1:(decide<|(kids.length:Int)>=3)=c6;generalize g2:(decide<|(kids.length:Int)<=3)=c7;cases c1<;>cases c2<;>cases c3<;>cases c6<;>cases c7<;>exact ⟨_,rfl,rfl,fun _=>⟨FK.other aF,by simp [fU]⟩⟩
 .skip
  generalize (op==54)=c1;generalize (decide<|op>=38)=c2;generalize (decide<|op<=43)=c3;generalize (text==[])=c4;generalize (other==[])=c5;generalize g1:(decide<|(kids.length:Int)>=2)=c6;generalize g2:(decide<|(kids.length:Int)<=2)=c7;cases c1<;>cases c2<;>cases c3<;>cases c4<;>cases c5<;>cases c6<;>cases c7<;>first|exact ⟨_,rfl,rfl,fun _=>⟨FK.other aF,by simp [fU]⟩⟩|exact ⟨_,rfl,(show some (decide ((kids.length:Int)>=2)&&decide ((kids.length:Int)<=2))=some _ by rw [g1,g2]),fun _=>⟨FK.other aF,by simp [fU]⟩⟩
 .skip
  generalize (op==0)=c1;generalize (text==[])=c2;generalize (other==[])=c3;generalize g2:(decide<|(kids.length:Int)<=0)=c7;cases c1<;>cases c2<;>cases c3<;>cases c7<;>exact ⟨_,rfl,rfl,fun _=>⟨FK.other aF,by simp [fU]⟩⟩
 .skip
  generalize (op==0)=c1;generalize (text==[])=c2;generalize (other==[])=c3;generalize g1:(decide<|(kids.length:Int)>=1)=c6;generalize g2:(decide<|(kids.length:Int)<=1)=c7;cases c1<;>cases c2<;>cases c3<;>cases c6<;>cases c7<;>exact ⟨_,rfl,rfl,fun _=>⟨FK.other aF,by simp [fU]⟩⟩
 .by_cases q0:op=0
  .subst q0;have w:IntKind.wrap .i64 ((0:Int)+1)=1:=rfl;simp only [Int.reduceBEq,Int.reduceGE,Int.reduceLE,Al,w,ak,aB,zu,hl0];generalize (text==[])=c1;generalize (other==[])=c2;generalize (other==[62])=c3;generalize (other==[62,62])=c4;generalize (other==[124])=c5;generalize (decide<|(kids.length:Int)>=1)=c6;generalize (decide<|(kids.length:Int)<=7)=c7;generalize (decide<|(kids.length:Int)<=6)=c8;cases c1<;>cases c2<;>cases c3<;>cases c4<;>cases c5<;>first
    | exact ⟨_,rfl,rfl,fun _=>⟨FK.other aF,by simp [fU]⟩⟩
    | (cases c6<;>cases c7<;>cases c8<;>exact ⟨_,rfl,rfl,fun _=>⟨FK.other aF,by simp [fU]⟩⟩)
  by_cases q1:op=1
  .subst q1;have w:IntKind.wrap .i64 ((1:Int)+1)=2:=rfl;simp only [Int.reduceBEq,Int.reduceGE,Int.reduceLE,Al,w,ak,aB,aA,zu,hl0];generalize (text==[])=c1;generalize (other==[])=c2;generalize (other==[62])=c3;generalize (other==[62,62])=c4;generalize (other==[124])=c5;generalize (decide<|(kids.length:Int)>=1)=c6;generalize (decide<|(kids.length:Int)>=2)=c9;generalize (decide<|(kids.length:Int)<=7)=c7;generalize (decide<|(kids.length:Int)<=6)=c8;cases c1<;>cases c2<;>cases c3<;>cases c4<;>cases c5<;>first
    | exact ⟨_,rfl,rfl,fun _=>⟨FK.other aF,by simp [fU]⟩⟩
    | (cases c6<;>cases c7<;>cases c8<;>cases c9<;>exact ⟨_,rfl,rfl,fun _=>⟨FK.other aF,by simp [fU]⟩⟩)
  have e0:(op==0)=false:=by simpa using q0
  have e1:(op==1)=false:=by simpa using q1
  have e2:(decide (op>=0)&&decide (op<=1))=false:=by
   cases h:(decide (op>=0)&&decide (op<=1)) with
   | false=>rfl
   | true=>simp only [dA,jS] at h;omega
  simp only [e0,e1,e2,aA,ak];refine ⟨false,?_,?_,fun h=>by cases h⟩
  .cases (other==[])<;>rfl
  .cases (other==[])<;>rfl
 .skip
  generalize (op==0)=c1;generalize (text==[])=c2;generalize (other==[])=c3;generalize g2:(decide<|(kids.length:Int)<=0)=c7;cases c1<;>cases c2<;>cases c3<;>cases c7<;>exact ⟨_,rfl,rfl,fun _=>⟨FK.other aF,by simp [fU]⟩⟩
 .skip
  generalize (op==0)=c1;generalize (text==[])=c2;generalize (other==[])=c3;generalize g2:(decide<|(kids.length:Int)<=1)=c7;cases c1<;>cases c2<;>cases c3<;>cases c7<;>exact ⟨_,rfl,rfl,fun _=>⟨FK.other aF,by simp [fU]⟩⟩
 .skip
  generalize (op==0)=c1;generalize (text==[])=c2;generalize (other==[])=c3;generalize g2:(decide<|(kids.length:Int)<=1)=c7;cases c1<;>cases c2<;>cases c3<;>cases c7<;>exact ⟨_,rfl,rfl,fun _=>⟨FK.other aF,by simp [fU]⟩⟩
 .skip
  generalize (op==0)=c1;generalize (text==[])=c2;generalize (other==[])=c3;generalize g2:(decide<|(kids.length:Int)<=0)=c7;cases c1<;>cases c2<;>cases c3<;>cases c7<;>exact ⟨_,rfl,rfl,fun _=>⟨FK.other aF,by simp [fU]⟩⟩
 .skip
  generalize (op==0)=c1;generalize (text==[])=c2;generalize (other==[])=c3;generalize g2:(decide<|(kids.length:Int)<=0)=c7;cases c1<;>cases c2<;>cases c3<;>cases c7<;>exact ⟨_,rfl,rfl,fun _=>⟨FK.other aF,by simp [fU]⟩⟩
 .skip
  generalize (op==0)=c1;generalize (text==[])=c2;generalize (other==[])=c3;generalize g2:(decide<|(kids.length:Int)<=6)=c7;cases c1<;>cases c2<;>cases c3<;>cases c7<;>cases bn<;>exact ⟨_,rfl,rfl,fun _=>⟨FK.other aF,by simp [fU]⟩⟩
 .skip
  generalize (op==0)=c1;generalize (text==[])=c2;generalize (other==[])=c3;generalize g1:(decide<|(kids.length:Int)>=2)=c6;generalize g2:(decide<|(kids.length:Int)<=3)=c7;have K:(c6&&c7)=true->FK ⟨28,op,text,other,kids⟩:=fun h=>by
   have:=Dw (m:=2) (k:=3) g1 g2 h;exact ⟨fun _=>sj,aF,aF,aF,aF,aF,aF,aF⟩
  cases c1<;>cases c2<;>cases c3<;>cases c6<;>cases c7<;>exact ⟨_,rfl,rfl,fun h=>by first|(cases h;done)|exact ⟨K rfl,by simp [fU]⟩⟩
 .skip
  generalize (op==0)=c1;generalize (text==[])=c2;generalize (other==[])=c3;generalize g1:(decide<|(kids.length:Int)>=2)=c6;generalize g2:(decide<|(kids.length:Int)<=2)=c7;have K:(c6&&c7)=true->FK ⟨29,op,text,other,kids⟩:=fun h=>by
   have:=Dw (m:=2) (k:=2) g1 g2 h;exact ⟨aF,fun _=>sj,aF,aF,aF,aF,aF,aF⟩
  cases c1<;>cases c2<;>cases c3<;>cases c6<;>cases c7<;>exact ⟨_,rfl,rfl,fun h=>by first|(cases h;done)|exact ⟨K rfl,by simp [fU]⟩⟩
 .skip
  generalize (op==0)=c1;generalize (text==[])=c2;generalize (other==[])=c3;generalize g1:(decide<|(kids.length:Int)>=2)=c6;generalize g2:(decide<|(kids.length:Int)<=2)=c7;have K:(c6&&c7)=true->FK ⟨30,op,text,other,kids⟩:=fun h=>by
   have:=Dw (m:=2) (k:=2) g1 g2 h;exact ⟨aF,aF,fun _=>sj,aF,aF,aF,aF,aF⟩
  cases c1<;>cases c2<;>cases c3<;>cases c6<;>cases c7<;>exact ⟨_,rfl,rfl,fun h=>by first|(cases h;done)|exact ⟨K rfl,by simp [fU]⟩⟩
 .skip
  generalize (op==0)=c1;generalize (text==[])=c2;generalize (other==[])=c3;generalize g1:(decide<|(kids.length:Int)>=4)=c6;generalize g2:(decide<|(kids.length:Int)<=4)=c7;have K:(c6&&c7)=true->FK ⟨31,op,text,other,kids⟩:=fun h=>by
   have:=Dw (m:=4) (k:=4) g1 g2 h;exact ⟨aF,aF,aF,fun _=>sj,aF,aF,aF,aF⟩
  cases c1<;>cases c2<;>cases c3<;>cases c6<;>cases c7<;>exact ⟨_,rfl,rfl,fun h=>by first|(cases h;done)|exact ⟨K rfl,by simp [fU]⟩⟩
 .skip
  generalize (op==0)=c1;generalize (text==[])=c2;generalize (other==[])=c3;generalize g1:(decide<|(kids.length:Int)>=1)=c6;generalize g2:(decide<|(kids.length:Int)<=1)=c7;cases c1<;>cases c2<;>cases c3<;>cases c6<;>cases c7<;>cases bn<;>cases bo<;>exact ⟨_,rfl,rfl,fun _=>⟨FK.other aF,by simp [fU]⟩⟩
 .simp only [hlm,Dt,Al,zu];generalize (op==0)=c1;generalize (text==[])=c2;generalize (other==[])=c3;cases c1<;>cases c2<;>cases c3<;>exact ⟨_,rfl,rfl,fun _=>⟨FK.other aF,by simp [fU]⟩⟩
 .skip
  generalize (op==0)=c1;generalize (text==[])=c2;generalize (other==[])=c3;generalize g2:(decide<|(kids.length:Int)<=0)=c7;cases c1<;>cases c2<;>cases c3<;>cases c7<;>cases t2<;>exact ⟨_,rfl,rfl,fun _=>⟨FK.other aF,by simp [fU]⟩⟩
 .skip
  generalize (op==0)=c1;generalize (text==[])=c2;generalize (other==[])=c3;generalize g1:(decide<|(kids.length:Int)>=1)=c6;generalize g2:(decide<|(kids.length:Int)<=1)=c7;cases c1<;>cases c2<;>cases c3<;>cases c6<;>cases c7<;>exact ⟨_,rfl,rfl,fun _=>⟨FK.other aF,by simp [fU]⟩⟩
 .skip
  generalize (op==0)=c1;generalize (text==[])=c2;generalize (other==[])=c3;generalize g1:(decide<|(kids.length:Int)>=1)=c6;generalize g2:(decide<|(kids.length:Int)<=1)=c7;cases c1<;>cases c2<;>cases c3<;>cases c6<;>cases c7<;>exact ⟨_,rfl,rfl,fun _=>⟨FK.other aF,by simp [fU]⟩⟩
 .by_cases q1:op=1
  .subst q1;have w:IntKind.wrap .i64 ((1:Int)+IntKind.wrap .i64 (Int.tdiv (1:Int) 3))=1:=rfl;simp only [Int.reduceBEq,Int.reduceGE,Int.reduceLE,Al,w,ak,aB,aA,zu];generalize (text==[])=c1;generalize (other==[])=c2;generalize g1:(decide<|(kids.length:Int)>=1)=c6;generalize g2:(decide<|(kids.length:Int)<=1)=c7;have K:(c6&&c7)=true->FK ⟨42,1,text,other,kids⟩:=fun h=>by
    have:=Dw (m:=1) (k:=1) g1 g2 h;refine ⟨aF,aF,aF,aF,fun _=>.inl ⟨rfl,sj⟩,aF,aF,aF⟩
   cases c1<;>cases c2<;>cases c6<;>cases c7<;>exact ⟨_,rfl,rfl,fun h=>by first|(cases h;done)|exact ⟨K rfl,by simp [fU]⟩⟩
  by_cases q2:op=2
  .subst q2;have w:IntKind.wrap .i64 ((1:Int)+IntKind.wrap .i64 (Int.tdiv (2:Int) 3))=1:=rfl;simp only [Int.reduceBEq,Int.reduceGE,Int.reduceLE,Al,w,ak,aB,aA,zu];generalize (text==[])=c1;generalize (other==[])=c2;generalize g1:(decide<|(kids.length:Int)>=1)=c6;generalize g2:(decide<|(kids.length:Int)<=1)=c7;have K:(c6&&c7)=true->FK ⟨42,2,text,other,kids⟩:=fun h=>by
    have:=Dw (m:=1) (k:=1) g1 g2 h;refine ⟨aF,aF,aF,aF,fun _=>.inr<|.inl ⟨rfl,sj⟩,aF,aF,aF⟩
   cases c1<;>cases c2<;>cases c6<;>cases c7<;>exact ⟨_,rfl,rfl,fun h=>by first|(cases h;done)|exact ⟨K rfl,by simp [fU]⟩⟩
  by_cases q3:op=3
  .subst q3;have w:IntKind.wrap .i64 ((1:Int)+IntKind.wrap .i64 (Int.tdiv (3:Int) 3))=2:=rfl;simp only [Int.reduceBEq,Int.reduceGE,Int.reduceLE,Al,w,ak,aB,aA,zu];generalize (text==[])=c1;generalize (other==[])=c2;generalize g1:(decide<|(kids.length:Int)>=2)=c6;generalize g2:(decide<|(kids.length:Int)<=2)=c7;have K:(c6&&c7)=true->FK ⟨42,3,text,other,kids⟩:=fun h=>by
    have:=Dw (m:=2) (k:=2) g1 g2 h;refine ⟨aF,aF,aF,aF,fun _=>.inr<|.inr ⟨rfl,sj⟩,aF,aF,aF⟩
   cases c1<;>cases c2<;>cases c6<;>cases c7<;>exact ⟨_,rfl,rfl,fun h=>by first|(cases h;done)|exact ⟨K rfl,by simp [fU]⟩⟩
  have e2:(decide (op>=1)&&decide (op<=3))=false:=by
   cases h:(decide (op>=1)&&decide (op<=3)) with
   | false=>rfl
   | true=>simp only [dA,jS] at h;omega
  have e3:(op==3)=false:=by simpa using q3
  simp only [e2,e3,aA,ak];exact ⟨false,rfl,rfl,fun h=>by cases h⟩
 .by_cases q1:op=1
  .subst q1;have w:IntKind.wrap .i64 ((2:Int)+IntKind.wrap .i64 (Int.tdiv (1:Int) 3))=2:=rfl;simp only [Int.reduceBEq,Int.reduceGE,Int.reduceLE,Al,w,ak,aB,aA,zu];generalize (text==[])=c1;generalize (other==[])=c2;generalize g1:(decide<|(kids.length:Int)>=2)=c6;generalize g2:(decide<|(kids.length:Int)<=2)=c7;have K:(c6&&c7)=true->FK ⟨43,1,text,other,kids⟩:=fun h=>by
    have:=Dw (m:=2) (k:=2) g1 g2 h;refine ⟨aF,aF,aF,aF,aF,fun _=>.inl ⟨rfl,sj⟩,aF,aF⟩
   cases c1<;>cases c2<;>cases c6<;>cases c7<;>exact ⟨_,rfl,rfl,fun h=>by first|(cases h;done)|exact ⟨K rfl,by simp [fU]⟩⟩
  by_cases q3:op=3
  .subst q3;have w:IntKind.wrap .i64 ((2:Int)+IntKind.wrap .i64 (Int.tdiv (3:Int) 3))=3:=rfl;simp only [Int.reduceBEq,Int.reduceGE,Int.reduceLE,Al,w,ak,aB,aA,zu];generalize (text==[])=c1;generalize (other==[])=c2;generalize g1:(decide<|(kids.length:Int)>=3)=c6;generalize g2:(decide<|(kids.length:Int)<=3)=c7;have K:(c6&&c7)=true->FK ⟨43,3,text,other,kids⟩:=fun h=>by
    have:=Dw (m:=3) (k:=3) g1 g2 h;refine ⟨aF,aF,aF,aF,aF,fun _=>.inr ⟨rfl,sj⟩,aF,aF⟩
   cases c1<;>cases c2<;>cases c6<;>cases c7<;>exact ⟨_,rfl,rfl,fun h=>by first|(cases h;done)|exact ⟨K rfl,by simp [fU]⟩⟩
  have e1:(op==1)=false:=by simpa using q1
  have e3:(op==3)=false:=by simpa using q3
  simp only [e1,e3,aA,ak];exact ⟨false,rfl,rfl,fun h=>by cases h⟩
 .skip
  generalize (op==0)=c1;generalize (text==[])=c2;generalize (other==[])=c3;generalize g1:(decide<|(kids.length:Int)>=1)=c6;generalize g2:(decide<|(kids.length:Int)<=7)=c7;cases c1<;>cases c2<;>cases c3<;>cases c6<;>cases c7<;>cases bn<;>exact ⟨_,rfl,rfl,fun _=>⟨FK.other aF,by simp [fU]⟩⟩
 .simp only [hlm,Dt,Al,zu];generalize (op==0)=c1;generalize (text==[])=c2;generalize (other==[])=c3;cases c1<;>cases c2<;>cases c3<;>exact ⟨_,rfl,rfl,fun _=>⟨FK.other aF,by simp [fU]⟩⟩
def iP (k:Int):Bool:=decide (k>=1)&&decide (k<=15)
def isS (k:Int):Bool:=decide (k>=20)&&decide (k<=34)
def dL (k:Int):Bool:=k==1||(k==5||k==6)
def Dn (k:Int):nY k=some (iP k):=by unfold nY;rw [Ak];rfl
def GU (k:Int):CQ k=some (iP k):=by unfold CQ;rw [Nw];rfl
def avF (k:Int):TM k=some (isS k):=by unfold TM;rw [Ak];rfl
def avG (k:Int):JC k=some (isS k):=by unfold JC;rw [Nw];rfl
def RQ (k:Int):FY k=some (dL k):=by
 unfold FY dL;cases (k==1)<;>cases (k==5)<;>rfl
def aer (k:Int):QL k=some (dL k):=by
 unfold QL dL;cases (k==1)<;>cases (k==5)<;>rfl
def aes {k:Int} (h:dL k=true):iP k=true:=by
 unfold dL at h;simp only [iX,iG] at h;rcases h with rfl|rfl|rfl<;>rfl
def avH (n:aG) (k:Nat) (kd:Int) (hf:FK n) (hk:k < n.Kids.length) (hl:n.Kids.length<=400):∃ b:Bool,mY n (k:Int) kd=some b/\qU n (k:Int) kd=some b:=by
 have hw:IntKind.wrap .i64 ((n.Kids.length:Int) - 1)=(n.Kids.length:Int) - 1:=wrap64 ah ah;obtain ⟨f28,f29,f30,f31,f42,f43,_,_⟩:=hf;obtain ⟨kind,op,text,other,kids⟩:=n;simp only at hk hl hw f28 f29 f30 f31 f42 f43;have hEL:=@aes kd;rcases jF (kind=9) with rfl|h9
 .refine ⟨dL kd,?_,?_⟩<;>simp only [mY,qO,qU,qR,Int.reduceBEq,aB,RQ,aer,ak]
 rcases jF (kind=10) with rfl|h10
 .refine ⟨dL kd,?_,?_⟩<;>simp only [mY,qO,qU,qR,Int.reduceBEq,aB,aA,RQ,aer,ak]
 rcases jF (kind=15) with rfl|ug
 .simp only [mY,qO,qU,qR,Int.reduceBEq,aB,aA,RQ,aer,Dn,GU,ak];generalize iP kd=e at*;generalize dL kd=l at*;by_cases h0:k=0
  .subst h0;have d1:decide (((0:Nat):Int) > 0)=false:=aF;have d2:(((0:Nat):Int)==0)=true:=aF;rw [d1,d2];cases e<;>cases l<;>first|exact ⟨_,rfl,rfl⟩|exact absurd (hEL rfl) aF
  .have d1:decide ((k:Int) > 0)=true:=bZ;have d2:((k:Int)==0)=false:=bZ;rw [d1,d2];cases e<;>exact ⟨_,rfl,rfl⟩
 rcases jF (kind=28) with rfl|uh
 .simp only [mY,qO,qU,oK,qR,uI,Int.reduceBEq,aB,aA,Dn,GU,ak];by_cases h0:k=0
  .subst h0;have d1:decide (((0:Nat):Int) > 0)=false:=aF;have d2:(((0:Nat):Int)==0)=true:=aF;rw [d1,d2];cases iP kd<;>exact ⟨_,rfl,rfl⟩
  .have d1:decide ((k:Int) > 0)=true:=bZ;have d2:((k:Int)==0)=false:=bZ;rw [d1,d2];exact ⟨_,rfl,rfl⟩
 rcases jF (kind=29) with rfl|ZW
 .have hlen:=f29 rfl;simp only [mY,qO,qU,oK,qR,uI,Int.reduceBEq,aB,aA,Dn,GU,ak];rcases (show k=0\/k=1 by omega) with rfl|rfl
  .cases iP kd<;>exact ⟨_,rfl,rfl⟩
  .exact ⟨_,rfl,rfl⟩
 rcases jF (kind=30) with rfl|ZX
 .have hlen:=f30 rfl;simp only [mY,qO,qU,oK,qR,uI,Int.reduceBEq,aB,aA,Dn,GU,ak];rcases (show k=0\/k=1 by omega) with rfl|rfl
  .cases (kd==33)<;>exact ⟨_,rfl,rfl⟩
  .exact ⟨_,rfl,rfl⟩
 rcases jF (kind=31) with rfl|h31
 .have hlen:=f31 rfl;simp only [mY,qO,qU,oK,qR,uI,Int.reduceBEq,aB,aA,Dn,GU,ak,hw,hlen];rcases (show k=0\/k=1\/k=2\/k=3 by omega) with rfl|rfl|rfl|rfl
  .cases iP kd<;>cases (kd==16)<;>exact ⟨_,rfl,rfl⟩
  .cases iP kd<;>cases (kd==16)<;>exact ⟨_,rfl,rfl⟩
  .cases iP kd<;>cases (kd==16)<;>exact ⟨_,rfl,rfl⟩
  .exact ⟨_,rfl,rfl⟩
 rcases jF (kind=32) with rfl|h32
 .simp only [mY,qO,yU,qU,oK,qR,uI,zh,Int.reduceBEq,aB,aA];exact ⟨_,rfl,rfl⟩
 rcases jF (kind=40) with rfl|vZ
 .simp only [mY,qO,yU,qU,oK,qR,uI,zh,Int.reduceBEq,aB,aA];exact ⟨_,rfl,rfl⟩
 rcases jF (kind=41) with rfl|lY
 .simp only [mY,qO,yU,qU,oK,qR,uI,zh,Int.reduceBEq,aB,aA];exact ⟨_,rfl,rfl⟩
 rcases jF (kind=33) with rfl|gZ
 .simp only [mY,qO,yU,qU,oK,qR,uI,zh,Int.reduceBEq,aB,aA,avF,avG,ak];exact ⟨_,rfl,rfl⟩
 rcases jF (kind=42) with rfl|ZY
 .simp only [mY,qO,yU,qU,oK,qR,uI,zh,Int.reduceBEq,aB,aA,Dn,GU,ak,hw];rcases f42 rfl with ⟨rfl,hlen⟩|⟨rfl,hlen⟩|⟨rfl,hlen⟩<;>rw [hlen]
  .obtain rfl:k=0:=ah;cases iP kd<;>exact ⟨_,rfl,rfl⟩
  .obtain rfl:k=0:=ah;cases (kd==33)<;>exact ⟨_,rfl,rfl⟩
  .rcases (show k=0\/k=1 by omega) with rfl|rfl
   .cases iP kd<;>exact ⟨_,rfl,rfl⟩
   .cases (kd==33)<;>exact ⟨_,rfl,rfl⟩
 rcases jF (kind=43) with rfl|h43
 .simp only [mY,qO,yU,qU,oK,qR,uI,zh,Int.reduceBEq,aB,aA,Dn,GU,ak,hw];rcases f43 rfl with ⟨rfl,hlen⟩|⟨rfl,hlen⟩<;>rw [hlen]
  .rcases (show k=0\/k=1 by omega) with rfl|rfl
   .cases iP kd<;>exact ⟨_,rfl,rfl⟩
   .cases iP kd<;>exact ⟨_,rfl,rfl⟩
  .rcases (show k=0\/k=1\/k=2 by omega) with rfl|rfl|rfl
   .cases iP kd<;>exact ⟨_,rfl,rfl⟩
   .cases iP kd<;>exact ⟨_,rfl,rfl⟩
   .cases (kd==33)<;>exact ⟨_,rfl,rfl⟩
 rcases jF (kind=44) with rfl|kR
 .simp only [mY,qO,yU,qU,oK,qR,uI,zh,Int.reduceBEq,aB,aA,ak,hw];cases ((k:Int)==(kids.length:Int) - 1)<;>cases (kd==33)<;>exact ⟨_,rfl,rfl⟩
 rcases jF (kind=45) with rfl|h45
 .simp only [mY,qO,yU,qU,oK,qR,uI,zh,YT,Ak,Nw,Int.reduceBEq,aB,aA,ak];cases (decide (kd>=40)&&decide (kd<=44))<;>exact ⟨_,rfl,rfl⟩
 have e:∀ k,kind≠k->(kind==k)=false:=fun k h=>by simpa using h
 refine ⟨iP kd,?_,?_⟩
 .simp only [mY,qO,yU,e 9 h9,e 10 h10,e 15 ug,e 28 uh,e 29 ZW,e 30 ZX,e 31 h31,e 32 h32,e 40 vZ,e 41 lY,e 33 gZ,e 42 ZY,e 43 h43,e 44 kR,e 45 h45,aA,Dn,ak]
 .simp only [qU,oK,qR,uI,zh,e 9 h9,e 10 h10,e 15 ug,e 28 uh,e 29 ZW,e 30 ZX,e 31 h31,e 32 h32,e 40 vZ,e 41 lY,e 33 gZ,e 42 ZY,e 43 h43,e 44 kR,e 45 h45,aA,GU,ak]
mutual
def aU:aD->Nat
 | ⟨_,_,_,_,ks⟩=>bq ks+1
def bq:List aD->Nat
 | []=>0
 | t::ts=>aU t+bq ts
end
mutual
def dQ (b:Nat):aD->List aG
 | ⟨k,o,t,p,ks⟩=>jd b ks++[⟨k,o,t,p,jG b ks⟩]
def jd (b:Nat):List aD->List aG
 | []=>[]
 | t::ts=>dQ b t++jd (b+aU t) ts
def jG (b:Nat):List aD->List Int
 | []=>[]
 | t::ts=>(((b+aU t:Nat):Int) - 1)::jG (b+aU t) ts
end
mutual
def EO {P:aD->Prop} (h:∀ t:aD,(∀ k,k∈t.kids->P k)->P t):∀ t,P t
 | ⟨k,o,x,y,ks⟩=>h ⟨k,o,x,y,ks⟩ (akB h ks)
def akB {P:aD->Prop} (h:∀ t:aD,(∀ k,k∈t.kids->P k)->P t):∀ (ks:List aD) k,k∈ks->P k
 | [],k,hk=>by cases hk
 | t::ts,k,hk=>(jW.1 hk).elim (fun e=>e ▸ EO h t) (akB h ts k)
end
mutual
def su:∀ (t:aD) (b:Nat),(dQ b t).length=aU t
 | ⟨k,o,x,y,ks⟩,b=>by rw [dQ,aU,ny,NV ks b];rfl
def NV:∀ (ts:List aD) (b:Nat),(jd b ts).length=bq ts
 | [],b=>by rw [jd,bq];rfl
 | t::ts,b=>by rw [jd,bq,ny,su t b,NV ts _]
end
def He (t:aD):1<=aU t:=by cases t;rw [aU];omega
def Ki (t:aD):aU t=bq t.kids+1:=by cases t;rw [aU]
def xZ:∀ ts:List aD,ts.length<=bq ts
 | []=>by simp [bq]
 | t::ts=>by have:=He t;have:=xZ ts;rw [bq];simp only [nu];omega
def Dq:∀ {ts:List aD} {t:aD},t∈ts->aU t<=bq ts
 | t'::ts,t,h=>by
  rw [bq];rcases jW.1 h with rfl|h
  .omega
  .have:=Dq h;omega
def RL:∀ (a b:List aD),bq (a++b)=bq a+bq b
 | [],b=>by simp [bq]
 | t::a,b=>by rw [Hf,bq,bq,RL a b];omega
def akC:∀ (a b:List aD) (s:Nat),jd s (a++b)=jd s a++jd (s+bq a) b
 | [],b,s=>by simp [jd,bq]
 | t::a,b,s=>by rw [Hf,jd,jd,bq,akC a b,lW,ER]
def aeu:∀ (a b:List aD) (s:Nat),jG s (a++b)=jG s a++jG (s+bq a) b
 | [],b,s=>by simp [jG,bq]
 | t::a,b,s=>by rw [Hf,jG,jG,bq,aeu a b,ER];rfl
def NW:∀ (ts:List aD) (b:Nat),(jG b ts).length=ts.length
 | [],b=>rfl
 | t::ts,b=>by rw [jG,nu,nu,NW ts _]
def Cc (d:Int) (x:aG):aG:=⟨x.Kind,x.Op,x.Text,x.Other,x.Kids.map (·+d)⟩
def avJ (x:aG):Cc 0 x=x:=by
 unfold Cc;cases x;simp
def avK (d e:Int) (x:aG):Cc d (Cc e x)=Cc (e+d) x:=by
 unfold Cc;simp only [IV,aG.mk.injEq,true_and];refine yP fun k _=>?_;simp only [Function.comp_apply];omega
mutual
def aev:∀ (t:aD) (b d:Nat),dQ (b+d) t=(dQ b t).map (Cc d)
 | ⟨k,o,x,y,ks⟩,b,d=>by
  rw [dQ,dQ,Ww,akD ks b d,akE ks b d];rfl
def akD:∀ (ts:List aD) (b d:Nat),jd (b+d) ts=(jd b ts).map (Cc d)
 | [],b,d=>rfl
 | t::ts,b,d=>by
  rw [jd,jd,Ww,aev t b d,aap,akD ts _ d]
def akE:∀ (ts:List aD) (b d:Nat),jG (b+d) ts=(jG b ts).map (·+(d:Int))
 | [],b,d=>rfl
 | t::ts,b,d=>by
  rw [jG,jG,lH,aap,akE ts _ d];congr 1;omega
end
def avL (t:aD) (b:Nat):(dQ b t).map (Cc<|-(b:Int))=dQ 0 t:=by
 have:=aev t 0 b;rw [wm] at this;rw [this,IV];refine (yP fun x _=>?_).trans (akF _);simp only [Function.comp_apply,avK];rw [show (b:Int)+ -(b:Int)=0 by omega,avJ];rfl
def akG:∀ (ts:List aD) (b:Nat) (k:Int),k∈jG b ts->0<=k/\k < b+bq ts
 | [],b,k,h=>by cases h
 | t::ts,b,k,h=>by
  rw [jG] at h;rw [bq];have:=He t;rcases jW.1 h with rfl|h
  .omega
  .have:=akG ts _ k h;omega
mutual
def aew:∀ (t:aD) (b:Nat) (x:aG),x∈dQ b t->∀ k,k∈x.Kids->0<=k/\k < b+aU t
 | ⟨kd,o,x,y,ks⟩,b,n,h,k,hk=>by
  rw [dQ] at h;rw [aU];rcases mJ.1 h with h|h
  .have:=akH ks b n h k hk;omega
  .rw [yg.1 h] at hk;have:=akG ks b k hk;omega
def akH:∀ (ts:List aD) (b:Nat) (x:aG),x∈jd b ts->∀ k,k∈x.Kids->0<=k/\k < b+bq ts
 | [],b,n,h,k,hk=>by rw [jd] at h;cases h
 | t::ts,b,n,h,k,hk=>by
  rw [jd] at h;rw [bq];rcases mJ.1 h with h|h
  .have:=aew t b n h k hk;omega
  .have:=akH ts _ n h k hk;omega
end
mutual
def TA (a:List aG):aD->Nat->Nat->Prop
 | ⟨kd,op,x,y,ts⟩,s,i=>∃ n,a[i]?=some n/\n.Kind=kd/\n.Op=op/\n.Text=x/\n.Other=y/\KA a ts n.Kids s i
def KA (a:List aG):List aD->List Int->Nat->Nat->Prop
 | [],ks,s,e=>ks=[]/\s=e
 | t::ts,ks,s,e=>∃ (k:Nat) (ks':List Int),ks=(k:Int)::ks'/\s<=k/\k < e/\TA a t s k/\KA a ts ks' (k+1) e
end
def part (a:List aG) (s e:Nat):List aG:=(a.drop s).take (e - s)
def akI {a:List aG} {s m e:Nat} (h1:s<=m) (h2:m<=e):part a s m++part a m e=part a s e:=by
 unfold part;rw [show e - s=(m - s)+(e - m) by omega,List.take_add,Wx,show s+(m - s)=m by omega]
def avM {a:List aG} {i:Nat} {n:aG} (h:a[i]?=some n):part a i (i+1)=[n]:=by
 obtain ⟨hi,rfl⟩:=dV.1 h;unfold part;rw [show i+1 - i=1 by omega,xX hi];rfl
def avN (a:List aG) (i:Nat):part a i i=[]:=by
 unfold part;simp
def ajh (a:List aG):part a 0 a.length=a:=by
 unfold part;simp
def TA.lt {a:List aG} {t:aD} {s i:Nat} (h:TA a t s i):i < a.length:=by
 cases t;rw [TA] at h;obtain ⟨n,hn,_⟩:=h;exact (dV.1 hn).1
mutual
def TA.part {a:List aG}:∀ {t:aD} {s i:Nat},TA a t s i->s<=i/\aU t=i+1 - s/\part a s (i+1)=dQ s t
 | ⟨kd,op,x,y,ts⟩,s,i,h=>by
  rw [TA] at h;obtain ⟨n,hn,rfl,rfl,rfl,rfl,hk⟩:=h;obtain ⟨h1,h2,h3,h4⟩:=KA.part hk;refine ⟨h1,by rw [aU];omega,?_⟩;rw [dQ,<- h3,<- h4,<- akI h1 (Nat.le_succ i),avM hn]
def KA.part {a:List aG}:∀ {ts:List aD} {ks:List Int} {s e:Nat},KA a ts ks s e->s<=e/\bq ts=e - s/\Go.Proofs.Tryz.part a s e=jd s ts/\ks=jG s ts
 | [],ks,s,e,h=>by
  rw [KA] at h;obtain ⟨rfl,rfl⟩:=h;exact ⟨dK _,by rw [bq];omega,by rw [avN,jd],by rw [jG]⟩
 | t::ts,ks,s,e,h=>by
  rw [KA] at h;obtain ⟨k,ks',rfl,h1,h2,ht,hk⟩:=h;obtain ⟨g1,g2,g3⟩:=TA.part ht;obtain ⟨k1,k2,k3,k4⟩:=KA.part hk;have e1:s+aU t=k+1:=ah;refine ⟨ah,by rw [bq];omega,?_,?_⟩
  .rw [jd,e1,<- g3,<- k3,akI ah ah]
  .rw [jG,e1,<- k4];congr 1;omega
end
mutual
def aex {a:List aG}:∀ {t t':aD} {s s' i:Nat},TA a t s i->TA a t' s' i->t=t'/\s=s'
 | ⟨kd,op,x,y,ts⟩,⟨kd',op',x',y',ts'⟩,s,s',i,h,h'=>by
  rw [TA] at h h';obtain ⟨n,hn,rfl,rfl,rfl,rfl,hk⟩:=h;obtain ⟨n',hn',rfl,rfl,rfl,rfl,hk'⟩:=h';rw [hn] at hn';cases hn';obtain ⟨rfl,rfl⟩:=akJ hk hk';exact ⟨rfl,rfl⟩
def akJ {a:List aG}:∀ {ts ts':List aD} {ks:List Int} {s s' e:Nat},KA a ts ks s e->KA a ts' ks s' e->ts=ts'/\s=s'
 | [],[],ks,s,s',e,h,h'=>by
  rw [KA] at h h';exact ⟨rfl,h.2.trans h'.2.symm⟩
 | [],t'::ts',ks,s,s',e,h,h'=>by
  simp only [KA] at h h';obtain ⟨k,ks',e1,_⟩:=h';rw [h.1] at e1;cases e1
 | t::ts,[],ks,s,s',e,h,h'=>by
  simp only [KA] at h h';obtain ⟨k,ks',e1,_⟩:=h;rw [h'.1] at e1;cases e1
 | t::ts,t'::ts',ks,s,s',e,h,h'=>by
  rw [KA] at h h';obtain ⟨k,ks',rfl,_,_,ht,hk⟩:=h;obtain ⟨k2,ks2,e1,_,_,ht',hk'⟩:=h';injection e1 with e1 e2;have:k=k2:=ah;subst this;subst e2;obtain ⟨rfl,rfl⟩:=aex ht ht';obtain ⟨rfl,_⟩:=akJ hk hk';exact ⟨rfl,rfl⟩
end
def akK {a:List aG} {r:List Int} {e:Nat} (ih:∀ k s:Nat,k < e->r[k]?=some (s:Int)->∃ t,TA a t s k):∀ (ks:List Int) (s:Nat),Go.Av.Kids r (s:Int) (e:Int) ks->∃ ts,KA a ts ks s e
  | [],s,h=>by
    simp only [Go.Av.Kids] at h;exact ⟨[],by rw [KA];exact ⟨rfl,ah⟩⟩
  | k::ks,s,h=>by
    obtain ⟨h0,h1,h2,h3,h4⟩:=h;obtain ⟨kn,rfl⟩:=akL (show 0<=k by omega);rw [Hg] at h3;obtain ⟨t,ht⟩:=ih kn s ah h3;obtain ⟨ts,hts⟩:=akK ih ks (kn+1) (by (have:((kn+1:Nat):Int)=(kn:Int)+1:=by omega);rw [this];exact h4);exact ⟨t::ts,by rw [KA];exact ⟨kn,ks,rfl,ah,ah,ht,hts⟩⟩
def akM {a:List aG} {r:List Int} (hl:Low r) (hk:∀ (i:Nat) (hi:i < a.length),∃ s,r[i]?=some s/\Go.Av.Kids r s (i:Int) a[i].Kids):∀ (i s:Nat),i < a.length->r[i]?=some (s:Int)->∃ t,TA a t s i:=by
 intro i;induction i using Nat.strongRecOn with
 | ind i ih=>
  intro s hi hs;obtain ⟨s',hs',hks⟩:=hk i hi;rw [hs] at hs';cases hs';obtain ⟨ts,hts⟩:=akK (a:=a) (r:=r) (e:=i) (fun k s hk' hr=>ih k hk' s ah hr) _ _ hks;exact ⟨⟨a[i].Kind,a[i].Op,a[i].Text,a[i].Other,ts⟩,by rw [TA];exact ⟨a[i],fZ hi,rfl,rfl,rfl,rfl,hts⟩⟩
def Rs {a:List aG} (h:qY a=true):1<=a.length/\a.length<=400/\∃ r,starts (kZ a) []=some r/\r.length=a.length/\Low r/\
  (∀ i,i < a.length->∃ (t:aD) (s:Nat),r[i]?=some (s:Int)/\TA a t s i)/\∃ t,TA a t 0 (a.length - 1):=by
 unfold qY at h;simp only [dA,jS] at h;obtain ⟨⟨h1,h2⟩,h3⟩:=h;cases hst:starts (kZ a) [] with
 | none=>rw [hst] at h3;cases h3
 | some r=>
  rw [hst] at h3;obtain ⟨⟨m,hm,hml⟩,hl,hk⟩:=adq _ (fun j s h=>by simp at h) hst;have hrl:r.length=a.length:=by rw [hm];simp [hml,kZ]
  have hk':∀ (i:Nat) (hi:i < a.length),∃ s,r[i]?=some s/\Go.Av.Kids r s (i:Int) a[i].Kids:=fun i hi=>by
   obtain ⟨s,e1,e2⟩:=hk i a[i].Kids (by simp [kZ,fZ hi]);simp only [Kn,wm] at e1 e2;exact ⟨s,e1,e2⟩
  refine ⟨h1,h2,r,rfl,hrl,hl,fun i hi=>?_,?_⟩
  .obtain ⟨s,hs,_⟩:=hk' i hi;have:=(hl i s hs).1;obtain ⟨sn,rfl⟩:=akL this;obtain ⟨t,ht⟩:=akM hl hk' i sn hi hs;exact ⟨t,sn,hs,ht⟩
  .have:r[a.length - 1]?=some ((0:Nat):Int):=by simpa [Ro] using h3
   exact akM hl hk' (a.length - 1) 0 ah this
def adw {a:List aG} (h:qY a=true):∀ x,x∈a->x.Kids.length<=400/\∀ k,k∈x.Kids->0<=k/\k < a.length:=by
 obtain ⟨h1,h2,r,_,_,_,hT,t,ht⟩:=Rs h;obtain ⟨g1,g2,g3⟩:=ht.part;rw [show a.length - 1+1=a.length by omega,ajh] at g3;intro x hx;constructor
 .obtain ⟨i,hi,rfl⟩:=List.getElem_of_mem hx;obtain ⟨t',s,_,ht'⟩:=hT i hi;cases t';rw [TA] at ht';obtain ⟨n,hn,_,_,_,_,hk⟩:=ht';rw [fZ hi] at hn;cases hn;obtain ⟨k1,k2,k3,k4⟩:=hk.part;have:=xZ ‹List aD›;rw [k4,NW];omega
 .intro k hk;rw [g3] at hx;have:=aew t 0 x hx k hk;omega
def akN (a:List aG) (e:aG) (M i:Nat):∀ (ts:List aD) (j n s:Nat) (acc:List aD),(∀ t,t∈ts->∀ s k:Nat,TA a t s k->k < i->(Gp M).BL a (k:Int)=some t)->KA a ts (e.Kids.drop j) s i->acc.length=j->j<=e.Kids.length->e.Kids.length<=100000->ts.length < n->
  JE M (Gp M) n (a,e,(j:Int),acc)=some ⟨e.Kind,e.Op,e.Text,e.Other,acc++ts⟩
 | [],j,n,s,acc,ih,h,ha,hj,he,hn=>by
  simp only [KA] at h;obtain ⟨n,rfl⟩:∃ m,n=m+1:=⟨n - 1,by simp at hn;omega⟩
  have hlt: ¬j < e.Kids.length:=by
   intro hlt;rw [drop_cons hlt] at h;cases h.1
  rw [JE];simp only [gP hlt,aA,Kv]
 | t::ts,j,n,s,acc,ih,h,ha,hj,he,hn=>by
  simp only [KA] at h;obtain ⟨k,ks',hd,h1,h2,BZ,hka⟩:=h;simp only [nu] at hn;obtain ⟨n,rfl⟩:∃ m,n=m+1:=⟨n - 1,ah⟩
  have hlt:j < e.Kids.length:=by
   cases vY j e.Kids.length with
   | inl h=>exact h
   | inr h=>rw [xY h] at hd;cases hd
  rw [drop_cons hlt] at hd;injection hd with hd1 hd2;rw [JE];simp only [fO hlt,aB,bJ hlt,hd1,ak];rw [ih t aF s k BZ h2,ak,mH bZ,ak,wrap64 ah ah];have:=akN a e M i ts (j+1) n (k+1) (acc++[t]) (fun t' h'=>ih t'<|by simp [h']) (hd2 ▸ hka) (by simp [ha]) ah he ah;rw [lW] at this;exact this
def avO (a:List aG):∀ (t:aD) (s i N:Nat),TA a t s i->i<=100000->2*aU t+2<=N->(Gp N).BL a (i:Int)=some t:=by
 intro t;induction t using EO with
 | h t ih=>
  intro s i N h hi hN;obtain ⟨M,rfl⟩:∃ M,N=M+1:=⟨N - 1,ah⟩
  obtain ⟨kd,op,x,y,ts⟩:=t;have hsz:=(TA.part h).2.1;rw [TA] at h;obtain ⟨n,hn,rfl,rfl,rfl,rfl,hk⟩:=h;obtain ⟨h1,h2,h3,h4⟩:=hk.part;have hkl:n.Kids.length=ts.length:=by rw [h4,NW]
  have htl:=xZ ts;rw [aU] at hsz hN;show Vg M (Gp M) a (i:Int)=_;unfold Vg;rw [zA hn,ak];have:=akN a n M i ts 0 M s [] (fun t' ht' s' k BZ hki=>ih t' ht' s' k M BZ ah (by have:=Dq ht';omega)) (by simpa using hk) rfl ah ah ah;simpa using this
def avP (N:Nat) (a:List aG) (hN:1000 < N) {t:aD} (h:TA a t 0 (a.length - 1)) (h1:1<=a.length) (h2:a.length<=400):MI N a=some t:=by
 obtain ⟨_,hs,_⟩:=h.part;unfold MI;rw [wrap64 ah ah,show (a.length:Int) - 1=((a.length - 1:Nat):Int) by omega];have:=avO a t 0 (a.length - 1) N h ah ah;show Option.bind ((Gp N).BL a _) _=_;rw [this];rfl
def akO (t:aD) (G:Nat):∀ (ts:List aD) (j n:Nat) (acc:List aG) (ids:List Int),(∀ k,k∈ts->∀ acc:List aG,acc.length+aU k<=1000000->(GJ G).BP k acc=some (acc++dQ acc.length k))->t.kids.drop j=ts->ts.length < n->
  acc.length+bq ts<=999999->ids.length+ts.length<=1000000->t.kids.length<=1000000->
  JM G (GJ G) n (t,(j:Int),acc,ids)=some (acc++jd acc.length ts++[⟨t.kind,t.op,t.text,t.other,ids++jG acc.length ts⟩])
 | [],j,n,acc,ids,ih,hd,hn,hacc,aaq,htl=>by
  obtain ⟨n,rfl⟩:∃ m,n=m+1:=⟨n - 1,by simp at hn;omega⟩
  have hj: ¬j < t.kids.length:=by
   intro h;rw [drop_cons h] at hd;cases hd
  rw [JM];simp only [gP hj,aA];rw [mH bZ,ak];simp [jd,jG]
 | k::ts,j,n,acc,ids,ih,hd,hn,hacc,aaq,htl=>by
  simp only [nu] at hn aaq;rw [bq] at hacc;obtain ⟨n,rfl⟩:∃ m,n=m+1:=⟨n - 1,ah⟩
  have hj:j < t.kids.length:=by
   cases vY j t.kids.length with
   | inl h=>exact h
   | inr h=>rw [xY h] at hd;cases hd
  rw [drop_cons hj] at hd;injection hd with hd1 hd2;have hsz:=He k;have hlen:(acc++dQ acc.length k).length=acc.length+aU k:=by rw [ny,su]
  rw [JM];simp only [fO hj,aB,bJ hj,hd1,ak];rw [ih k aF acc ah,ak,hlen,wrap64 ah ah,mH bZ,ak,wrap64 ah ah];have:=akO t G ts (j+1) n (acc++dQ acc.length k) (ids++[((acc.length+aU k:Nat):Int) - 1]) (fun k' h'=>ih k'<|by simp [h']) hd2 ah (by rw [hlen];omega) bZ htl;rw [hlen] at this;rw [show ((j:Int)+1)=((j+1:Nat):Int) by omega,this,jd,jG];simp only [lW,Hf,Fh]
def avQ:∀ (t:aD) (N:Nat) (acc:List aG),2*aU t+2<=N->acc.length+aU t<=1000000->(GJ N).BP t acc=some (acc++dQ acc.length t):=by
 intro t;induction t using EO with
 | h t ih=>
  intro N acc hN ha;obtain ⟨M,rfl⟩:∃ M,N=M+1:=⟨N - 1,ah⟩
  have hsz:=Ki t;have htl:=xZ t.kids;show Vw M (GJ M) t acc=_;unfold Vw;have:=akO t M t.kids 0 M acc [] (fun k hk acc' ha'=>ih k hk M acc' (by have:=Dq hk;omega) ha') rfl ah ah bZ ah;refine Kj this ?_;obtain ⟨kd,op,x,y,ts⟩:=t;rw [dQ];simp
def adI (N:Nat) (t:aD) (hN:2*aU t+2<=N) (h:aU t<=1000000):Ni N t=some (dQ 0 t):=by
 unfold Ni;have:=avQ t N [] hN (by simpa using h);show Option.bind ((GJ N).BP t []) _=_;rw [this];simp
def avR (N:Nat) (kb:(List aG×Int×Int×List aG)->Option (List aG)) (a:List aG) (d:Int) (i:Nat) (hi:i < a.length) (hi2:i<=1048576) (out:List aG) (ho:out.length=i) (hk:a[i].Kids.length<=1048576)
  (hr:∀ k,k∈a[i].Kids-> -9223372036854775808<=k+d/\k+d<=9223372036854775807):
  ∀ (n j:Nat) (ks:List Int),a[i].Kids.length - j < n->j<=a[i].Kids.length->ks.length=j->
   QW N kb n (a,d,(i:Int),out,a[i],(j:Int),ks)=kb (a,d,((i+1:Nat):Int),out++[⟨a[i].Kind,a[i].Op,a[i].Text,a[i].Other,ks++(a[i].Kids.drop j).map (·+d)⟩]):=by
 intro n;induction n with
 | zero=>intro j ks h;omega
 | succ n ih=>
  intro j ks hn hj hks;rw [QW,bJ hi,ak];by_cases h:j < a[i].Kids.length
  .have hx:=hr _ (kE h);simp only [fO h,aB,bJ hi,bJ h,ak,EM h<|by simp only [maxLen];omega];rw [wrap64 hx.1 hx.2,mH bZ,ak,ih (j+1) _ ah ah (by simp [hks]),drop_cons h];simp only [lH,lW,Hf,Fh]
  .simp only [gP h,aA];rw [mH bZ,ak,drop_nil h,wrap64 ah ah];simp
def avS (N:Nat) (a:List aG) (d:Int) (hN:1048577 < N) (ha:a.length<=1048576) (hs:∀ x,x∈a->x.Kids.length<=1048576) (hr:∀ x,x∈a->∀ k,k∈x.Kids-> -9223372036854775808<=k+d/\k+d<=9223372036854775807):
  ∀ (n i:Nat) (out:List aG),a.length - i < n->i<=a.length->out.length=i->JU N n (a,d,(i:Int),out)=some (out++(a.drop i).map (Cc d)):=by
 intro n;induction n with
 | zero=>intro i out h;omega
 | succ n ih=>
  intro i out hn hi ho;rw [JU];by_cases h:i < a.length
  .have hx:=hs _ (kE h);simp only [fO h,aB,bJ h,ak];have:=avR N (JU N n) a d i h ah out ho ah (hr _<|kE h) N 0 [] ah ah rfl;simp only [zy,Fh] at this;refine Kj this ?_;rw [ih (i+1) _ ah ah (by simp [ho]),drop_cons h];simp only [lH,lW,Hf,Fh,Cc]
  .simp only [gP h,aA];rw [drop_nil h];simp
def avT (N:Nat) (a:List aG) (d:Int) (hN:1048577 < N) (ha:a.length<=1048576) (hs:∀ x,x∈a->x.Kids.length<=1048576) (hr:∀ x,x∈a->∀ k,k∈x.Kids-> -9223372036854775808<=k+d/\k+d<=9223372036854775807):
  Zh N a d=some (a.map<|Cc d):=by
 have:=avS N a d hN ha hs hr N 0 [] ah ah rfl;rw [zy,Fh] at this;exact this
mutual
def akP:∀ (t:aD) (b:Nat) (x:aG),x∈dQ b t->x.Kids.length < aU t
 | ⟨kd,o,x,y,ks⟩,b,n,h=>by
  rw [dQ] at h;rw [aU];rcases mJ.1 h with h|h
  .have:=akQ ks b n h;omega
  .rw [yg.1 h];have:=xZ ks;simp only [NW];omega
def akQ:∀ (ts:List aD) (b:Nat) (x:aG),x∈jd b ts->x.Kids.length < bq ts
 | [],b,n,h=>by rw [jd] at h;cases h
 | t::ts,b,n,h=>by
  rw [jd] at h;rw [bq];rcases mJ.1 h with h|h
  .have:=akP t b n h;omega
  .have:=akQ ts _ n h;omega
end
def avU (N:Nat) (t:aD) (b d:Nat) (hN:1048577 < N) (h:b+d+aU t<=1000000):Zh N (dQ b t) (d:Int)=some (dQ (b+d) t):=by
 rw [aev];exact avT N _ _ hN (by rw [su];omega) (fun x hx=>by have:=akP t b x hx;omega) fun x hx k hk=>by have:=aew t b x hx k hk;omega
def akR (N:Nat) (n0:aG) (ts:List aD) (hN:1048577 < N) (hsz:bq ts<=900000):∀ (rest done:List aD) (n:Nat),done++rest=ts->rest.length < n->
  Nl N n (ts.map<|dQ 0,n0,(done.length:Int),jd 0 done,jG 0 done)=some (dQ 0 ⟨n0.Kind,n0.Op,n0.Text,n0.Other,ts⟩)
 | [],done,n,hd,hn=>by
  obtain ⟨n,rfl⟩:∃ m,n=m+1:=⟨n - 1,by simp at hn;omega⟩
  rw [Kv] at hd;subst hd;have hl:=xZ done;have: ¬done.length < (done.map<|dQ 0).length:=aF;rw [Nl];simp only [gP this,aA];rw [mH (by rw [NV];simp;omega),ak,dQ]
 | t::rest,done,n,hd,hn=>by
  simp only [nu] at hn;obtain ⟨n,rfl⟩:∃ m,n=m+1:=⟨n - 1,ah⟩
  have hlt:done.length < (ts.map<|dQ 0).length:=by rw [<- hd];simp
  have hlt2:done.length < ts.length:=by simpa using hlt
  have hx:(ts.map<|dQ 0)[done.length]'hlt=dQ 0 t:=by simp [<- hd]
  have hsum:bq done+aU t+bq rest=bq ts:=by rw [<- hd,RL,bq];omega
  have hl:=xZ done;have hp:=He t;rw [Nl];simp only [fO hlt,aB,bJ hlt,ak,hx,NV];have hsh:=avU N t 0 (bq done) hN ah;rw [wm] at hsh;rw [hsh,ak,mH (by rw [NV,su];omega),ak,ny,NV,su,wrap64 (n:=((bq done+aU t:Nat):Int) - 1) ah ah,mH (by rw [NW];simp;omega),ak,wrap64 ah ah];have:=akR N n0 ts hN hsz rest (done++[t]) n (by simpa using hd) ah;rw [akC,aeu,wm] at this;simp only [jd,jG,Kv,ny,nu,Kn] at this;exact this
def avV (N:Nat) (n0:aG) (ts:List aD) (hN:1048577 < N) (hsz:bq ts<=900000):vV N n0 (ts.map<|dQ 0)=some (dQ 0 ⟨n0.Kind,n0.Op,n0.Text,n0.Other,ts⟩):=
 akR N n0 ts hN hsz ts [] N rfl (by have:=xZ ts;omega)
mutual
def iW:aD->Nat
 | ⟨_,_,_,_,ks⟩=>uQ ks+1
def uQ:List aD->Nat
 | []=>0
 | t::ts=>max (iW t) (uQ ts)
end
mutual
def aey:∀ t:aD,iW t<=aU t
 | ⟨k,o,x,y,ks⟩=>by have:=akS ks;rw [iW,aU];omega
def akS:∀ ts:List aD,uQ ts<=bq ts
 | []=>by rw [uQ,bq];omega
 | t::ts=>by have:=aey t;have:=akS ts;rw [uQ,bq];omega
end
def avW (t:aD):iW t=uQ t.kids+1:=by cases t;rw [iW]
def akT (t:aD) (G:Nat) (hsz:aU t<=100000):∀ (ts:List aD) (j n m:Nat),(∀ k,k∈ts->(JG G).tL k=some (iW k:Int))->t.kids.drop j=ts->ts.length < n->m<=100000->
  JF G (JG G) n (t,(m:Int),(j:Int))=some (((max m (uQ ts)+1:Nat):Int))
 | [],j,n,m,ih,hd,hn,hm=>by
  obtain ⟨n,rfl⟩:∃ m,n=m+1:=⟨n - 1,by simp at hn;omega⟩
  have hj: ¬j < t.kids.length:=by
   intro h;rw [drop_cons h] at hd;cases hd
  rw [JF];simp only [gP hj,aA];rw [wrap64 ah ah,uQ];congr 1;omega
 | k::ts,j,n,m,ih,hd,hn,hm=>by
  simp only [nu] at hn;obtain ⟨n,rfl⟩:∃ m,n=m+1:=⟨n - 1,ah⟩
  have hj:j < t.kids.length:=by
   cases vY j t.kids.length with
   | inl h=>exact h
   | inr h=>rw [xY h] at hd;cases hd
  have hjl:t.kids.length<=100000:=by have:=xZ t.kids;have:=Ki t;omega
  have hmem:k∈t.kids:=by
   have:k∈t.kids.drop j:=by rw [hd];simp
   exact List.mem_of_mem_drop this
  have hkd:iW k<=100000:=by have:=aey k;have:=Dq hmem;have:=Ki t;omega
  rw [drop_cons hj] at hd;injection hd with hd1 hd2;rw [JF];simp only [fO hj,aB,bJ hj,hd1,ak];rw [ih k aF,ak,wrap64 ah ah];have hmax:(if (iW k:Int) > (m:Int) then (iW k:Int) else (m:Int))=((max m (iW k):Nat):Int):=by split<;>omega
  rw [hmax,show ((j:Int)+1)=((j+1:Nat):Int) by omega,akT t G hsz ts (j+1) n (max m<|iW k) (fun k' h'=>ih k'<|by simp [h']) hd2 ah ah,uQ,Nat.max_assoc]
def adH:∀ (t:aD) (N:Nat),2*aU t+2<=N->aU t<=100000->(JG N).tL t=some (iW t:Int):=by
 intro t;induction t using EO with
 | h t ih=>
  intro N hN hsz;obtain ⟨M,rfl⟩:∃ M,N=M+1:=⟨N - 1,ah⟩
  have h1:=Ki t;have h2:=xZ t.kids;show Vi M (JG M) t=_;unfold Vi;have:=akT t M hsz t.kids 0 M 0 (fun k hk=>ih k hk M (by have:=Dq hk;omega) (by have:=Dq hk;omega)) rfl ah ah;refine Kj this ?_;rw [avW,Nat.zero_max]
def akU (a:List aG) (d:List Int):Prop:=∀ (j:Nat) (v:Int),d[j]?=some v->∃ t s,TA a t s j/\v=iW t
def akV (N:Nat) (kb:(List aG×Int×List Int)->Option Int) (a:List aG) (ha:a.length<=400) (i:Nat) (hi:i < a.length) (d:List Int) (hd:d.length=i) (hok:akU a d) (hkl:a[i].Kids.length<=400):∀ (ts:List aD) (j n s m:Nat),KA a ts (a[i].Kids.drop j) s i->j<=a[i].Kids.length->ts.length < n->m<=1000->bq ts<=400->
  Jb N kb n (a,(i:Int),d,(m:Int),(j:Int))=kb (a,((i+1:Nat):Int),d++[((max m (uQ ts+(if ts=[] then 0 else 1)):Nat):Int)])
 | [],j,n,s,m,h,hj,hn,hm,hsz=>by
  simp only [KA] at h;obtain ⟨n,rfl⟩:∃ m,n=m+1:=⟨n - 1,by simp at hn;omega⟩
  have hlt: ¬j < a[i].Kids.length:=by
   intro hlt;rw [drop_cons hlt] at h;cases h.1
  rw [Jb,bJ hi,ak];simp only [gP hlt,aA];rw [mH bZ,ak,wrap64 ah ah,uQ];simp
 | t::ts,j,n,s,m,h,hj,hn,hm,hsz=>by
  simp only [KA] at h;obtain ⟨k,ks',hdk,h1,h2,BZ,hka⟩:=h;simp only [nu] at hn;rw [bq] at hsz;obtain ⟨n,rfl⟩:∃ m,n=m+1:=⟨n - 1,ah⟩
  have hlt:j < a[i].Kids.length:=by
   cases vY j a[i].Kids.length with
   | inl h=>exact h
   | inr h=>rw [xY h] at hdk;cases hdk
  rw [drop_cons hlt] at hdk;injection hdk with hd1 hd2;have hkd:k < d.length:=ah;obtain ⟨t',s',ht',hv⟩:=hok k d[k] (fZ hkd);obtain ⟨rfl,rfl⟩:=aex BZ ht';have hdl:=aey t;rw [Jb,bJ hi,ak];simp only [fO hlt,aB,bJ hi,bJ hlt,ak,hd1];rw [bJ hkd,ak,hv,wrap64 (n:=1+(iW t:Int)) ah ah,wrap64 ah ah];have hmax:(if 1+(iW t:Int) > (m:Int) then 1+(iW t:Int) else (m:Int))=((max m (iW t+1):Nat):Int):=by split<;>omega
  rw [hmax,show ((j:Int)+1)=((j+1:Nat):Int) by omega,akV N kb a ha i hi d hd hok hkl ts (j+1) n (k+1) _ (hd2 ▸ hka) ah ah ah ah,uQ];have e:max (max m<|iW t+1) (uQ ts+(if ts=[] then 0 else 1))=max m (max (iW t) (uQ ts)+(if t::ts=[] then 0 else 1)):=by
   have h3:(t::ts=[])=False:=aF;simp only [h3,if_false];split
   .subst_vars;rw [uQ];omega
   .omega
  rw [e]
def avX (N:Nat) (a:List aG) (hN:1000 < N) (ha:a.length<=400) (h1:1<=a.length) (hT:∀ i,i < a.length->∃ (t:aD) (s:Nat),TA a t s i) {t0:aD} (h0:TA a t0 0 (a.length - 1)):∀ (n i:Nat) (d:List Int),a.length - i < n->i<=a.length->d.length=i->akU a d->
  FX N n (a,(i:Int),d)=some (iW t0:Int):=by
 intro n;induction n with
 | zero=>intro i d h;omega
 | succ n ih=>
  intro i d hn hi hd hok;rw [FX];by_cases h:i < a.length
  .obtain ⟨t,s,ht⟩:=hT i h;have htp:=ht.part;obtain ⟨kd,op,x,y,ts⟩:=t;have ht2:=ht;rw [TA] at ht2;obtain ⟨n0,hn0,_,_,_,_,hk⟩:=ht2;rw [fZ h] at hn0;cases hn0;obtain ⟨k1,k2,k3,k4⟩:=hk.part;have hl:=xZ ts;have hkl:a[i].Kids.length=ts.length:=by rw [k4,NW]
   rw [aU] at htp;have:=akV N (FX N n) a ha i h d hd hok ah ts 0 N s 1 (by simpa using hk) ah ah ah ah;simp only [fO h,aB];refine Kj this ?_;have e:max 1 (uQ ts+(if ts=[] then 0 else 1))=iW ⟨a[i].Kind,a[i].Op,a[i].Text,a[i].Other,ts⟩:=by
    rw [iW];split
    .subst_vars;rw [uQ];rfl
    .omega
   refine ih (i+1) _ ah ah (by simp [hd]) fun j v hv=>?_;rw [List.getElem?_append] at hv;split at hv
   .exact hok j v hv
   .rename_i hj;have hji:j=i:=by
     have:=(dV.1 hv).1;simp at this;omega
    subst hji;rw [hd,RG] at hv;simp only [KC,iI] at hv;refine ⟨_,_,ht,?_⟩;rw [<- hv,e];simp_all [iW]
  .simp only [gP h,aA];have hia:i=a.length:=ah;have hlt:a.length - 1 < d.length:=ah;obtain ⟨t',s',ht',hv⟩:=hok (a.length - 1) _ (fZ hlt);obtain ⟨rfl,_⟩:=aex h0 ht';have hx:=bJ hlt;rw [wrap64 ah ah,show (a.length:Int) - 1=((a.length - 1:Nat):Int) by omega,hx,ak,hv]
def adD (N:Nat) (a:List aG) (hN:1048577 < N) (hs:∀ x,x∈a->mD x) (hsh:qY a=true) {t:aD} (ht:TA a t 0 (a.length - 1)):Qf N a=some (iW t:Int):=by
 obtain ⟨h1,h2,r,_,_,_,hT,_⟩:=Rs hsh;unfold Qf;rw [aiV N a hN hs,hsh,ak];exact avX N a ah h2 h1 (fun i hi=>by obtain ⟨t,s,_,h⟩:=hT i hi;exact ⟨t,s,h⟩) ht N 0 [] ah ah rfl (fun j v h=>by simp at h)
def avY (N:Nat) (a:List aG) (hN:1048577 < N) (ha:a.length<=400) (i:Nat) (hi:i < a.length) (hf:FK a[i]) (hkl:a[i].Kids.length<=400) (hkr:∀ k,k∈a[i].Kids->0<=k/\k < a.length) (dJ xq:(List aG×Int)->Option Bool) (c:Bool)
  (hkb:∃ b:Bool,dJ (a,((i+1:Nat):Int))=some b/\xq (a,((i+1:Nat):Int))=some (b&&c)):∀ (n j:Nat),a[i].Kids.length - j < n->j<=a[i].Kids.length->
  ∃ b:Bool,CF N dJ n (a,(i:Int),(j:Int))=some b/\MJ N xq n (a,(i:Int),a[i],(j:Int))=some (b&&c):=by
 intro n;induction n with
 | zero=>intro j h;omega
 | succ n ih=>
  intro j hn hj;rw [CF,MJ,bJ hi,ak];by_cases h:j < a[i].Kids.length
  .have hk:=hkr _ (kE h);have hk2:a[i].Kids[j].toNat < a.length:=ah;have hx:ix a a[i].Kids[j]=some a[a[i].Kids[j].toNat]:=by
    have:=bJ hk2;rwa [adp hk.1] at this
   obtain ⟨b,b1,b2⟩:=avH a[i] j a[a[i].Kids[j].toNat].Kind hf h hkl;simp only [fO h,aB,bJ hi,bJ h,ak,hx,b1,b2];cases b with
   | false=>exact ⟨false,rfl,rfl⟩
   | true=>
    simp only [fE,aA];rw [wrap64 ah ah,show ((j:Int)+1)=((j+1:Nat):Int) by omega];exact ih (j+1) ah ah
  .simp only [gP h,aA];rw [wrap64 ah ah];exact hkb
def avZ (a:List aG):Prop:=∀ x,x∈a->FK x/\fU x.Kind
def awc (N:Nat) (a:List aG) (hN:1048577+400 < N) (ha:a.length<=400) (hs:∀ x,x∈a->mD x) (hk:∀ x,x∈a->x.Kids.length<=400/\∀ k,k∈x.Kids->0<=k/\k < a.length) (c:Bool) (hc:Option.bind (MI N a) (fun r=>(tL N r).bind fun q=>some<|decide<|q<=40)=some c):∀ (n i:Nat),a.length - i < n->i<=a.length->
  ∃ b:Bool,wZ N n (a,(i:Int))=some b/\Ez N n (a,(i:Int))=some (b&&c)/\(b=true->∀ x,x∈a.drop i->FK x/\fU x.Kind):=by
 intro n;induction n with
 | zero=>intro i h;omega
 | succ n ih=>
  intro i hn hi;rw [wZ,Ez];by_cases h:i < a.length
  .have hx:=kE h;obtain ⟨hk1,hk2⟩:=hk _ hx;obtain ⟨b,b1,b2,b3⟩:=atW N a[i] ah (hs _ hx) hk1;simp only [fO h,aB,bJ h,ak,b1,b2];cases b with
   | false=>exact ⟨false,rfl,rfl,fun h=>by cases h⟩
   | true=>
    simp only [fE,aA];obtain ⟨q,q1,q2,q3⟩:=ih (i+1) ah ah;obtain ⟨b',e1,e2⟩:=avY N a ah ha i h (b3 rfl).1 hk1 hk2 (wZ N n) (Ez N n) c ⟨q,q1,q2⟩ N 0 ah ah;refine ⟨b',e1,e2,fun hb x hx=>?_⟩;rw [drop_cons h] at hx;rcases jW.1 hx with rfl|hx
    .exact b3 rfl
    .refine q3 ?_ x hx;subst hb;have:∀ (m j:Nat),a[i].Kids.length - j < m->j<=a[i].Kids.length->CF N (wZ N n) m (a,(i:Int),(j:Int))=some true->q=true:=by
      intro m;induction m with
      | zero=>intro j h;omega
      | succ m ihm=>
       intro j hm hj hh;rw [CF,bJ h,ak] at hh;by_cases hlt:j < a[i].Kids.length
       .simp only [fO hlt,aB,bJ h,bJ hlt,ak] at hh;obtain ⟨y1,_,hh⟩:=dn.1 hh;obtain ⟨y2,_,hh⟩:=dn.1 hh;cases y2 with
        | false=>cases hh
        | true=>
         simp only [fE,aA] at hh;rw [wrap64 ah ah,show ((j:Int)+1)=((j+1:Nat):Int) by omega] at hh;exact ihm (j+1) ah ah hh
       .simp only [gP hlt,aA] at hh;rw [wrap64 ah ah] at hh;have hh':wZ N n (a,((i+1:Nat):Int))=some true:=hh;rw [q1] at hh';exact iV hh'
     exact this N 0 ah ah e1
  .simp only [gP h,aA];refine ⟨true,rfl,by rw [hc,iF],fun _ x hx=>?_⟩;rw [drop_nil h] at hx;cases hx
def asw (N:Nat) (a:List aG) (hN:1048577+400 < N) (hs:∀ x,x∈a->mD x):∃ b:Bool,yV N a=some b/\Vj N a=some b/\(b=true->qY a=true/\avZ a):=by
 unfold yV Vj;rw [aiV N a ah hs,arJ N a ah];simp only [ak];cases hsh:qY a with
 | false=>exact ⟨false,rfl,rfl,fun h=>by cases h⟩
 | true=>
  obtain ⟨h1,h2,r,_,_,_,hT,t,ht⟩:=Rs hsh;have hd:=adD N a ah hs hsh ht;obtain ⟨_,hsz,_⟩:=ht.part;have hdi:tL N t=some (iW t:Int):=adH t N ah ah;have hc:Option.bind (MI N a) (fun r=>(tL N r).bind fun q=>some<|decide<|q<=40)=some (decide<|(iW t:Int)<=40):=by
   rw [avP N a ah ht h1 h2,ak,hdi,ak]
  obtain ⟨b,b1,b2,b3⟩:=awc N a hN h2 hs (adw hsh) _ hc N 0 ah ah;have b1':wZ N N (a,0)=some b:=b1;have b2':Ez N N (a,0)=some (b&&decide ((iW t:Int)<=40)):=b2;simp only [fE,aA,hd,ak,b1',b2'];by_cases hle:(iW t:Int)<=40
  .have e1:decide ((iW t:Int) > 40)=false:=bZ;have e2:decide ((iW t:Int)<=40)=true:=bZ;simp only [e1,e2,aA,ak,EU];exact ⟨b,rfl,rfl,fun hb=>⟨trivial,fun x hx=>b3 hb x<|by simpa using hx⟩⟩
  .have e1:decide ((iW t:Int) > 40)=true:=bZ;have e2:decide ((iW t:Int)<=40)=false:=bZ;simp only [e1,e2,aB,ak,Kl];exact ⟨false,rfl,rfl,fun h=>by cases h⟩
def TA.node {a:List aG} {t:aD} {s i:Nat} (h:TA a t s i):∃ n,a[i]?=some n/\t.kind=n.Kind/\t.op=n.Op/\t.text=n.Text/\t.other=n.Other/\KA a t.kids n.Kids s i/\t.kids.length=n.Kids.length:=by
 obtain ⟨kd,op,x,y,ts⟩:=t;rw [TA] at h;obtain ⟨n,hn,rfl,rfl,rfl,rfl,hk⟩:=h;have h4:=hk.part.2.2.2;exact ⟨n,hn,rfl,rfl,rfl,rfl,hk,by rw [h4,NW]⟩
def KA.get {a:List aG}:∀ {ts:List aD} {ks:List Int} {s e:Nat},KA a ts ks s e->∀ (j:Nat) (t:aD),ts[j]?=some t->∃ k s':Nat,ks[j]?=some (k:Int)/\TA a t s' k/\k < e
 | [],ks,s,e,h,j,t,hj=>by simp at hj
 | t0::ts,ks,s,e,h,j,t,hj=>by
  rw [KA] at h;obtain ⟨k,ks',rfl,h1,h2,ht,hk⟩:=h;cases j with
  | zero=>
   simp only [KC,iI] at hj;subst hj;exact ⟨k,s,rfl,ht,h2⟩
  | succ j=>
   simp only [NY] at hj ⊢;exact KA.get hk j t hj
def tx (x:aG):Prop:=x.Text.length<=1048576/\x.Other.length<=1048576
def txT (t:aD):Prop:=∀ x,x∈dQ 0 t->tx x
def aso {a:List aG} (hs:∀ x,x∈a->mD x) {t:aD} {s i:Nat} (h:TA a t s i):txT t:=by
 have h3:=h.part.2.2;intro x hx;rw [<- avL t s,<- h3] at hx;obtain ⟨y,hy,rfl⟩:=zH.1 hx;have:y∈a:=by
  unfold part at hy;exact List.mem_of_mem_drop (awd hy)
 have:=hs y this;unfold mD at this;exact ⟨this.1,this.2.1⟩
mutual
def KD (b:Nat):aD->List Int
 | ⟨_,_,_,_,ks⟩=>qC b ks++[(b:Int)]
def qC (b:Nat):List aD->List Int
 | []=>[]
 | t::ts=>KD b t++qC (b+aU t) ts
end
mutual
def aeA:∀ (t:aD) (b:Nat),(KD b t).length=aU t
 | ⟨_,_,_,_,ks⟩,b=>by rw [KD,aU,ny,NZ ks b];rfl
def NZ:∀ (ts:List aD) (b:Nat),(qC b ts).length=bq ts
 | [],b=>by rw [qC,bq];rfl
 | t::ts,b=>by rw [qC,bq,ny,aeA t b,NZ ts _]
end
def akW (t:aD) (b:Nat):(KD b t)[aU t - 1]?=some (b:Int):=by
 obtain ⟨k,o,x,y,ks⟩:=t;rw [KD,aU,awe,qB (by rw [NZ];omega),NZ,RG];rfl
def akX:∀ (a c:List aD) (b:Nat),qC b (a++c)=qC b a++qC (b+bq a) c
 | [],c,b=>by simp [qC,bq]
 | t::a,c,b=>by rw [Hf,qC,qC,bq,akX a c,lW,ER]
def awf (b:Nat) (ts:List aD):∀ (m:Nat) (ET yt:List aD),ET.length=m->ET++yt=ts->∀ out:List Int,(∀ i,i < bq ts->out[b+i]?=(qC b ts)[i]?)->walk out ((b+bq ET:Nat):Int) (jG b ET).reverse=some (b:Int):=by
 intro m;induction m with
 | zero=>
  intro ET yt hl _ out _;have:ET=[]:=VP.1 hl;subst this;simp [jG,walk,bq]
 | succ m ih=>
  intro ET yt hl he out ho;obtain ⟨u,t,rfl⟩:∃ u t,ET=u++[t]:=by
   rcases List.eq_nil_or_concat ET with rfl|⟨u,t,rfl⟩
   .cases hl
   .exact ⟨u,t,aF⟩
  have hp:=He t;have hsz:bq (u++[t])=bq u+aU t:=by rw [RL,bq,bq];omega
  rw [aeu,List.reverse_append,jG,jG,List.reverse_cons,List.reverse_nil,Fh,aeB,walk,hsz];have hne: ¬(((b+(bq u+aU t):Nat):Int)=0\/(((b+bq u+aU t:Nat):Int) - 1)≠((b+(bq u+aU t):Nat):Int) - 1):=ah;rw [bL hne];have htot:bq ts=bq u+(aU t+bq yt):=by rw [<- he,RL,hsz];omega
  have hi:(((b+(bq u+aU t):Nat):Int) - 1).toNat=b+(bq u+(aU t - 1)):=ah;rw [hi,ho _ ah];have hst:qC b ts=qC b u++(KD (b+bq u) t++qC (b+bq u+aU t) yt):=by
   rw [<- he,lW,aeB,akX,qC]
  rw [hst,qB (by rw [NZ];omega),NZ,aeC,sw (by rw [aeA];omega),akW];exact ih u (t::yt) (by simpa using hl) (by rw [<- he];simp) out ho
mutual
def akY:∀ (t:aD) (b:Nat) (rest:List (List Int)) (out:List Int),out.length=b->starts (kZ (dQ b t)++rest) out=starts rest (out++KD b t)
 | ⟨k,o,x,y,ks⟩,b,rest,out,hb=>by
  have h1:=akZ ks b ([jG b ks]++rest) out hb;have hl:(out++qC b ks).length=b+bq ks:=by rw [ny,NZ,hb]
  rw [dQ,KD];have e:kZ (jd b ks++[(⟨k,o,x,y,jG b ks⟩:aG)])++rest=kZ (jd b ks)++([jG b ks]++rest):=by
   unfold kZ;rw [Ww,lW];rfl
  rw [e,h1,aeB,starts,hl];have:=awf b ks ks.length ks [] rfl aF (out++qC b ks) (fun i hi=>by rw [qB ah,hb,aeC]);rw [this,ak,lW]
def akZ:∀ (ts:List aD) (b:Nat) (rest:List (List Int)) (out:List Int),out.length=b->starts (kZ (jd b ts)++rest) out=starts rest (out++qC b ts)
 | [],b,rest,out,hb=>by
  rw [jd,qC,Kv];rfl
 | t::ts,b,rest,out,hb=>by
  rw [jd,qC];have e:kZ (dQ b t++jd (b+aU t) ts)++rest=kZ (dQ b t)++(kZ (jd (b+aU t) ts)++rest):=by
   unfold kZ;rw [Ww,lW]
  rw [e,akY t b _ out hb,akZ ts (b+aU t) rest _ (by rw [ny,aeA,hb]),lW]
end
def avv (t:aD) (h:aU t<=400):qY (dQ 0 t)=true:=by
 have hp:=He t;have hs:=akY t 0 [] [] rfl;rw [Kv,Fh] at hs;unfold qY;rw [hs,su];simp only [starts,Ro,akW,dA,jS];exact ⟨⟨hp,h⟩,aF⟩
def PR (a:List aG) (b:Nat) (l:List aG):Prop:=∀ (i:Nat) (x:aG),l[i]?=some x->a[b+i]?=some x
def PR.left {a l1 l2:List aG} {b:Nat} (h:PR a b (l1++l2)):PR a b l1:=fun i x hx=>h i x (by rw [sw (dV.1 hx).1];exact hx)
def PR.right {a l1 l2:List aG} {b:Nat} (h:PR a b (l1++l2)):PR a (b+l1.length) l2:=fun i x hx=>by
 have:=h (l1.length+i) x (by rw [qB ah,aeC];exact hx);rw [ER];exact this
mutual
def ala {a:List aG}:∀ (t:aD) (b:Nat),PR a b (dQ b t)->TA a t b (b+aU t - 1)
 | ⟨k,o,x,y,ks⟩,b,h=>by
  rw [dQ] at h;have h1:=alb ks b h.left;have h2:=h.right 0 _ rfl;rw [NV,EP] at h2;rw [aU,show b+(bq ks+1) - 1=b+bq ks by omega,TA];exact ⟨_,h2,rfl,rfl,rfl,rfl,h1⟩
def alb {a:List aG}:∀ (ts:List aD) (b:Nat),PR a b (jd b ts)->KA a ts (jG b ts) b (b+bq ts)
 | [],b,h=>by
  rw [KA,jG,bq];exact ⟨rfl,rfl⟩
 | t::ts,b,h=>by
  rw [jd] at h;have hp:=He t;have h1:=ala t b h.left;have h2:=alb ts (b+aU t) (by have:=h.right;rw [su] at this;exact this);rw [KA,jG,bq];refine ⟨b+aU t - 1,jG (b+aU t) ts,?_,ah,ah,h1,?_⟩
  .congr 1;omega
  .rw [show b+aU t - 1+1=b+aU t by omega,<- ER];exact h2
end
def akx (t:aD):TA (dQ 0 t) t 0 ((dQ 0 t).length - 1):=by
 have:=ala (a:=dQ 0 t) t 0 (fun i x hx=>by rw [wm];exact hx);rw [wm] at this;rw [su];exact this
def awg (o:Int):CS o=zY o:=rfl
def alc (o:Int):∃ v,zY o=some v/\v<=12:=by
 have h:∀ {c:Bool} {x y:Option Int},(∃ v,x=some v/\v<=12)->(∃ v,y=some v/\v<=12)->∃ v,(bif c then x else y)=some v/\v<=12:=fun {c x y} hx hy=>by
  cases c
  .exact hy
  .exact hx
 have h4:∀ b,∃ v,Gg (o,b)=some v/\v<=12:=fun b=>h ⟨10,rfl,aH⟩ (h ⟨12,rfl,aH⟩ ⟨0,rfl,aH⟩);have h3:∀ b,∃ v,Jm (o,b)=some v/\v<=12:=fun b=>h ⟨9,rfl,aH⟩ (h (h4 _)<|h (h4 _)<|h4 _);have h2:∀ b,∃ v,BA (o,b)=some v/\v<=12:=fun b=>h ⟨7,rfl,aH⟩ (h ⟨8,rfl,aH⟩<|h (h3 _)<|h3 _);have h1:∀ b,∃ v,Jo (o,b)=some v/\v<=12:=fun b=>h ⟨6,rfl,aH⟩ (h (h2 _)<|h (h2 _)<|h (h2 _)<|h (h2 _)<|h (h2 _)<|h2 _);exact h ⟨3,rfl,aH⟩ (h ⟨4,rfl,aH⟩<|h (h1 _)<|h1 _)
def bF (o:Int):Int:=(zY o).getD 0
def aar (o:Int):zY o=some (bF o):=by
 obtain ⟨v,h,_⟩:=alc o;unfold bF;rw [h];rfl
def NJ (o:Int):bF o<=12:=by
 obtain ⟨v,h,h2⟩:=alc o;unfold bF;rw [h];exact h2
def lv (k o:Int):Int:=
 bif k==15 then 1 else bif k==14 then 2 else bif k==13 then 5 else bif k==12 then bF o else bif k==11 then 11 else bif k==9||k==10 then 13 else bif k==6 then 14 else
 bif k==1||(k==2||(k==3||(k==4||(k==5||(k==7||k==8))))) then 15 else 0
def ald (n:aG):Mq n=some (lv n.Kind n.Op):=by
 have h2:∀ b:Bool,Et b=some (bif b then 15 else 0):=fun b=>by cases b<;>rfl
 unfold Mq lv;rw [aar];cases n.Kind==15
 .cases n.Kind==14
  .cases n.Kind==13
   .cases n.Kind==12
    .cases n.Kind==11
     .simp only [aA,TY];cases n.Kind==9
      .cases n.Kind==10
       .cases n.Kind==6
        .cases n.Kind==1
         .cases n.Kind==2
          .cases n.Kind==3
           .cases n.Kind==4
            .cases n.Kind==5
             .cases n.Kind==7
              .cases n.Kind==8<;>rfl
              .rfl
             .rfl
            .rfl
           .rfl
          .rfl
         .rfl
        .rfl
       .rfl
      .rfl
     .rfl
    .rfl
   .rfl
  .rfl
 .rfl
def posB (p:aI):Bool:=(decide (p.Level>=1)&&decide (p.Level<=15))&&(!p.jo||p.Level==14)
def aep (p:aI):CG p=some (posB p):=by
 unfold CG posB;rw [Ak,ak];cases (decide (p.Level>=1)&&decide (p.Level<=15))<;>cases p.jo<;>rfl
def adG (p:aI):MN p=some (posB p):=by
 unfold MN posB;rw [Nw,ak];cases (decide (p.Level>=1)&&decide (p.Level<=15))<;>cases p.jo<;>rfl
def fK (k o:Int) (p:aI):Bool:=
 !(!posB p||lv k o==0)&&(!(p.aV&&k==13)&&(!(p.aW&&(k==12&&o==62))&&(!(p.eZ&&(k==11||(k==9||k==4)))&&((p.jo&&k==9)||decide (lv k o>=p.Level)))))
def Wj (c d:Bool):(bif c then some true else some d)=some (c||d):=by cases c<;>rfl
def aea (c d:Bool):(bif c then some d else some false)=some (c&&d):=by cases c<;>rfl
def awh (c d:Bool):(bif c then some false else some d)=some (!c&&d):=by cases c<;>rfl
def auw (n:aG) (p:aI):Qt n p=some (fK n.Kind n.Op p):=by
 unfold Qt fK;rw [aep,ald];simp only [ak,Wj,aea,awh]
def iY (o:Int):Int×Int:=
 bif bF o==3 then (3,4) else bif bF o==4 then (4,5) else bif bF o==6 then (7,7) else bif bF o==7 then (8,8) else bif bF o==8 then (8,9) else bif bF o==9 then (9,10) else bif bF o==10 then (10,11) else (13,11)
def awi (o:Int):Qu o=some (iY o):=by
 unfold Qu iY;rw [aar,ak];cases bF o==3<;>cases bF o==4<;>cases bF o==6<;>cases bF o==7<;>cases bF o==8<;>cases bF o==9<;>cases bF o==10<;>rfl
def jX (kd o:Int) (n:Nat) (k:Nat) (p:aI):aI:=
 bif kd==15 then (bif decide (k > 0) then ⟨1,false,p.aV,p.aW,false⟩ else ⟨14,false,p.aV,p.aW,p.eZ⟩)
 else bif kd==14 then (bif decide (k > 0) then ⟨2,false,p.aV,p.aW,false⟩ else ⟨3,false,p.aV,p.aW,p.eZ⟩)
 else bif kd==13 then (bif decide (n > 1) then ⟨1,false,false,false,false⟩ else ⟨5,false,p.aV,p.aW,p.eZ⟩)
 else bif kd==12 then (bif decide (k > 0) then ⟨(iY o).2,false,p.aV,p.aW,o==99⟩ else ⟨(iY o).1,false,p.aV,p.aW,p.eZ⟩)
 else bif kd==11 then ⟨11,false,p.aV,p.aW,false⟩
 else bif kd==9||kd==10 then ⟨14,false,p.aV,p.aW,false⟩
 else bif kd==6 then ⟨14,true,p.aV,p.aW,false⟩ else ⟨1,false,false,false,false⟩
def Ku (n:aG) (k:Nat) (p:aI) (hk:k < n.Kids.length) (hl:n.Kids.length<=1000000) (hp:posB p=true) (hlv:lv n.Kind n.Op≠0):mF n (k:Int) p=some (jX n.Kind n.Op n.Kids.length k p):=by
 have h0:(lv n.Kind n.Op==0)=false:=by simpa using hlv
 have h1:(decide ((k:Int)>=0)&&decide ((k:Int)<=(n.Kids.length:Int) - 1))=true:=bZ;have hg:decide ((k:Int) > 0)=decide (k > 0):=by by_cases h:k > 0<;>simp [h]
 have hz:((k:Int)==0)=!decide (k > 0):=by
  by_cases h:k=0
  .subst h;rfl
  .have h1:((k:Int)==0)=false:=bZ;have h2:decide (k > 0)=true:=bZ;rw [h1,h2];rfl
 have hn:decide ((n.Kids.length:Int) > 1)=decide (n.Kids.length > 1):=by by_cases h:n.Kids.length > 1<;>simp [h]<;>omega
 unfold mF jX;rw [wrap64 ah ah,Ak,aep,ald,hp,h1];simp only [ak,fE,aA,aea,hg,hz,hn,h0,awi];cases n.Kind==15
 .cases n.Kind==14
  .cases n.Kind==13
   .cases n.Kind==12
    .cases n.Kind==11
     .cases n.Kind==9
      .cases n.Kind==10
       .cases h6:n.Kind==6<;>(show Qv (n,p,p.eZ&&!decide (k > 0),false)=_;rw [Qv,h6];rfl)
       .rfl
      .rfl
     .rfl
    .cases decide (k > 0)<;>cases p.eZ<;>rfl
   .have hk0:decide (n.Kids.length > 1)=false->decide (k > 0)=false:=fun h=>by simp at h ⊢;omega
    cases hq:decide (n.Kids.length > 1)
    .rw [hk0 hq];cases p.eZ<;>rfl
    .rfl
  .cases decide (k > 0)<;>cases p.eZ<;>rfl
 .cases decide (k > 0)<;>cases p.eZ<;>rfl
def awj (N:Nat) (a:List aG) (kb:(List aG×Int)->Option Bool) (i:Nat) (hi:i < a.length) (hi2:i<=100000) (hkl:a[i].Kids.length<=100000):∀ (m j:Nat),a[i].Kids.length - j < m->j<=a[i].Kids.length->CF N kb m (a,(i:Int),(j:Int))=some true->
  kb (a,((i+1:Nat):Int))=some true/\∀ (q:Nat) (hq:q < a[i].Kids.length),j<=q->∃ y,ix a a[i].Kids[q]=some y/\mY a[i] (q:Int) y.Kind=some true:=by
 intro m;induction m with
 | zero=>intro j h;omega
 | succ m ihm=>
  intro j hm hj hh;rw [CF,bJ hi,ak] at hh;by_cases hlt:j < a[i].Kids.length
  .simp only [fO hlt,aB,bJ hi,bJ hlt,ak] at hh;obtain ⟨y1,h1,hh⟩:=dn.1 hh;obtain ⟨y2,h2,hh⟩:=dn.1 hh;cases y2 with
   | false=>cases hh
   | true=>
    simp only [fE,aA] at hh;rw [wrap64 ah ah,show ((j:Int)+1)=((j+1:Nat):Int) by omega] at hh;obtain ⟨r1,r2⟩:=ihm (j+1) ah ah hh;refine ⟨r1,fun q hq hjq=>?_⟩;by_cases hqj:q=j
    .subst hqj;exact ⟨y1,h1,h2⟩
    .exact r2 q hq ah
  .simp only [gP hlt,aA] at hh;rw [wrap64 ah ah] at hh;exact ⟨hh,fun q hq hjq=>ah⟩
def ale (N:Nat) (a:List aG) (x:aG):Prop:=yT N x=some true/\∀ (q:Nat) (hq:q < x.Kids.length),∃ y,ix a x.Kids[q]=some y/\mY x (q:Int) y.Kind=some true
def awk (N:Nat) (a:List aG) (ha:a.length<=400) (hk:∀ x,x∈a->x.Kids.length<=400) (hN:500 < N):∀ (n i:Nat),a.length - i < n->i<=a.length->wZ N n (a,(i:Int))=some true->∀ x,x∈a.drop i->ale N a x:=by
 intro n;induction n with
 | zero=>intro i h;omega
 | succ n ih=>
  intro i hn hi h x hx;rw [wZ] at h;by_cases hlt:i < a.length
  .simp only [fO hlt,aB,bJ hlt,ak] at h;obtain ⟨b,hb,h⟩:=dn.1 h;cases b with
   | false=>cases h
   | true=>
    simp only [fE,aA] at h;have hkl:=hk _ (kE hlt);obtain ⟨h1,h2⟩:=awj N a (wZ N n) i hlt ah ah N 0 ah ah h;rw [drop_cons hlt] at hx;rcases jW.1 hx with rfl|hx
    .exact ⟨hb,fun q hq=>h2 q hq ah⟩
    .exact ih (i+1) ah ah h1 x hx
  .rw [drop_nil hlt] at hx;cases hx
def ajc (N:Nat) (a:List aG) (hN:500 < N) (hsh:qY a=true) (h:yV N a=some true):∀ x,x∈a->ale N a x:=by
 unfold yV at h;obtain ⟨y,_,h⟩:=dn.1 h;cases y with
 | true=>cases h
 | false=>
  rw [aA] at h;intro x hx;have h2:=(Rs hsh).2.1;exact awk N a h2 (fun z hz=>(adw hsh z hz).1) hN N 0 ah ah h x (by rw [zy];exact hx)
def adz (N:Nat) (n:aG) (h:yT N n=some true):∃ lo hi,El n=some (lo,hi)/\CB n=some true/\lo<=(n.Kids.length:Int)/\(n.Kids.length:Int)<=hi:=by
 unfold yT at h;obtain ⟨⟨lo,hi⟩,h1,h⟩:=bind_some h;obtain ⟨y6,h2,h⟩:=bind_some h;obtain ⟨y13,h3,h⟩:=bind_some h;cases h;rcases Ny h3 with ⟨_,h3⟩|⟨_,h3⟩
 .obtain ⟨bP,ho,h3⟩:=bind_some h3;rcases Ny h3 with ⟨hc,h3⟩|⟨_,h3⟩
  .subst hc;obtain ⟨fD,_,h3⟩:=bind_some h3;rcases Ny h3 with ⟨_,h3⟩|⟨_,h3⟩
   .obtain ⟨r16,hl,h3⟩:=bind_some h3;cases h3;rw [Ak] at hl;have hl:=iV hl;simp only [dA,jS] at hl;exact ⟨lo,hi,h1,ho,ah,ah⟩
   .cases h3
  .cases h3
 .cases h3
def Ar (n:aG):Prop:=
 (n.Kind=1\/n.Kind=2\/n.Kind=3\/n.Kind=4->n.Kids.length=0)/\(n.Kind=5\/n.Kind=13->1<=n.Kids.length)/\(n.Kind=6\/n.Kind=9\/n.Kind=10\/n.Kind=11->n.Kids.length=1)/\
 (n.Kind=12\/n.Kind=15->n.Kids.length=2)/\(n.Kind=14->n.Kids.length=3)
def awl (o:Int) (h:Em o=some true):bF o≠0:=by
 have hk:∀ b,qL b=some b:=fun b=>by cases b<;>rfl
 unfold Em at h;simp only [hk] at h;have hc:o=60\/o=57\/o=58\/o=59\/o=55\/o=56\/o=99\/o=63\/o=48\/o=47\/o=50\/o=62\/o=49\/o=67\/o=46\/o=45\/o=44:=by
  have key:∀ (c:Int) (x:Option Bool),(bif (o==c) then some (o==c) else x)=some true->o=c\/x=some true:=fun c x h=>by
   cases hoc:o==c with
   | true=>exact .inl (by simpa using hoc)
   | false=>rw [hoc] at h;exact .inr h
  rcases key _ _ h with e|h;· exact .inl e
  rcases key _ _ h with e|h;· simp [e]
  rcases key _ _ h with e|h;· simp [e]
  rcases key _ _ h with e|h;· simp [e]
  rcases key _ _ h with e|h;· simp [e]
  rcases key _ _ h with e|h;· simp [e]
  rcases key _ _ h with e|h;· simp [e]
  rcases key _ _ h with e|h;· simp [e]
  rcases key _ _ h with e|h;· simp [e]
  rcases key _ _ h with e|h;· simp [e]
  rcases key _ _ h with e|h;· simp [e]
  rcases key _ _ h with e|h;· simp [e]
  rcases key _ _ h with e|h;· simp [e]
  rcases key _ _ h with e|h;· simp [e]
  rcases key _ _ h with e|h;· simp [e]
  rcases key _ _ h with e|h;· simp [e]
  have:=iV h;have e:o=44:=by simpa using this
  simp [e]
 rcases hc with e|e|e|e|e|e|e|e|e|e|e|e|e|e|e|e|e<;>subst e<;>decide
def arZ (N:Nat) (n:aG) (h:yT N n=some true) (he:iP n.Kind=true):Ar n/\lv n.Kind n.Op≠0:=by
 obtain ⟨lo,hi,h1,h2,h3,h4⟩:=adz N n h;have hc:n.Kind=1\/n.Kind=2\/n.Kind=3\/n.Kind=4\/n.Kind=5\/n.Kind=6\/n.Kind=7\/n.Kind=8\/n.Kind=9\/n.Kind=10\/n.Kind=11\/n.Kind=12\/n.Kind=13\/n.Kind=14\/n.Kind=15:=by
  unfold iP at he;simp only [dA,jS] at he;omega
 have many:∀ (a b:Int),El n=some (a,b)->a<=(n.Kids.length:Int)/\(n.Kids.length:Int)<=b:=fun a b hm=>by
  rw [hm] at h1;cases h1;exact ⟨h3,h4⟩
 have val:∀ (c:Int) (r:Int×Int),n.Kind=c->(∀ m:aG,m.Kind=c->El m=some r)->r.1<=(n.Kids.length:Int)/\(n.Kids.length:Int)<=r.2:=fun c r e hm=>many _ _ (hm n e);have step:∀ (c:Int),n.Kind=c->El n=El ⟨c,n.Op,n.Text,n.Other,n.Kids⟩:=fun c e=>by
  obtain ⟨k,o,x,y,ks⟩:=n;subst e;rfl
 have Kz:n.Kind=12->CB n=Option.bind (Em n.Op) (fun qm=>some qm):=fun e=>by
  obtain ⟨k,o,x,y,ks⟩:=n;subst e;rfl
 unfold Ar;rcases hc with e|e|e|e|e|e|e|e|e|e|e|e|e|e|e;all_goals
  have hm:=step _ e;simp only [e]
 case inl=>
  have hq:=many 0 0 (hm.trans rfl);refine ⟨⟨fun h=>ah,fun h=>ah,fun h=>ah,fun h=>ah,fun h=>ah⟩,?_⟩;intro h;have h:(15:Int)=0:=h;omega
 case inr.inl=>
  have hq:=many 0 0 (hm.trans rfl);refine ⟨⟨fun h=>ah,fun h=>ah,fun h=>ah,fun h=>ah,fun h=>ah⟩,?_⟩;intro h;have h:(15:Int)=0:=h;omega
 case inr.inr.inl=>
  have hq:=many 0 0 (hm.trans rfl);refine ⟨⟨fun h=>ah,fun h=>ah,fun h=>ah,fun h=>ah,fun h=>ah⟩,?_⟩;intro h;have h:(15:Int)=0:=h;omega
 case inr.inr.inr.inl=>
  have hq:=many 0 0 (hm.trans rfl);refine ⟨⟨fun h=>ah,fun h=>ah,fun h=>ah,fun h=>ah,fun h=>ah⟩,?_⟩;intro h;have h:(15:Int)=0:=h;omega
 case inr.inr.inr.inr.inl=>
  have hq:=many 1 6 (hm.trans rfl);refine ⟨⟨fun h=>ah,fun h=>ah,fun h=>ah,fun h=>ah,fun h=>ah⟩,?_⟩;intro h;have h:(15:Int)=0:=h;omega
 case inr.inr.inr.inr.inr.inl=>
  have hq:=many 1 1 (hm.trans rfl);refine ⟨⟨fun h=>ah,fun h=>ah,fun h=>ah,fun h=>ah,fun h=>ah⟩,?_⟩;intro h;have h:(14:Int)=0:=h;omega
 case inr.inr.inr.inr.inr.inr.inl=>
  have hq:=many 0 6 (hm.trans rfl);refine ⟨⟨fun h=>ah,fun h=>ah,fun h=>ah,fun h=>ah,fun h=>ah⟩,?_⟩;intro h;have h:(15:Int)=0:=h;omega
 case inr.inr.inr.inr.inr.inr.inr.inl=>
  have hq:=many 0 6 (hm.trans rfl);refine ⟨⟨fun h=>ah,fun h=>ah,fun h=>ah,fun h=>ah,fun h=>ah⟩,?_⟩;intro h;have h:(15:Int)=0:=h;omega
 case inr.inr.inr.inr.inr.inr.inr.inr.inl=>
  have hq:=many 1 1 (hm.trans rfl);refine ⟨⟨fun h=>ah,fun h=>ah,fun h=>ah,fun h=>ah,fun h=>ah⟩,?_⟩;intro h;have h:(13:Int)=0:=h;omega
 case inr.inr.inr.inr.inr.inr.inr.inr.inr.inl=>
  have hq:=many 1 1 (hm.trans rfl);refine ⟨⟨fun h=>ah,fun h=>ah,fun h=>ah,fun h=>ah,fun h=>ah⟩,?_⟩;intro h;have h:(13:Int)=0:=h;omega
 case inr.inr.inr.inr.inr.inr.inr.inr.inr.inr.inl=>
  have hq:=many 1 1 (hm.trans rfl);refine ⟨⟨fun h=>ah,fun h=>ah,fun h=>ah,fun h=>ah,fun h=>ah⟩,?_⟩;intro h;have h:(11:Int)=0:=h;omega
 case inr.inr.inr.inr.inr.inr.inr.inr.inr.inr.inr.inl=>
  have hq:=many 2 2 (hm.trans rfl);refine ⟨⟨fun h=>ah,fun h=>ah,fun h=>ah,fun h=>ah,fun h=>ah⟩,?_⟩;have h5:=Kz e;rw [h2] at h5;have h6:Em n.Op=some true:=by
   cases hb:Em n.Op with
   | none=>rw [hb] at h5;cases h5
   | some v=>rw [hb] at h5;cases h5;rfl
  exact awl n.Op h6
 case inr.inr.inr.inr.inr.inr.inr.inr.inr.inr.inr.inr.inl=>
  have hq:=many 1 6 (hm.trans rfl);refine ⟨⟨fun h=>ah,fun h=>ah,fun h=>ah,fun h=>ah,fun h=>ah⟩,?_⟩;intro h;have h:(5:Int)=0:=h;omega
 case inr.inr.inr.inr.inr.inr.inr.inr.inr.inr.inr.inr.inr.inl=>
  have hq:=many 3 3 (hm.trans rfl);refine ⟨⟨fun h=>ah,fun h=>ah,fun h=>ah,fun h=>ah,fun h=>ah⟩,?_⟩;intro h;have h:(2:Int)=0:=h;omega
 case inr.inr.inr.inr.inr.inr.inr.inr.inr.inr.inr.inr.inr.inr=>
  have hq:=many 2 2 (hm.trans rfl);refine ⟨⟨fun h=>ah,fun h=>ah,fun h=>ah,fun h=>ah,fun h=>ah⟩,?_⟩;intro h;have h:(1:Int)=0:=h;omega
def asa (x:aG) (q:Nat) (kd:Int) (h:mY x (q:Int) kd=some true) (he:iP x.Kind=true):iP kd=true/\((x.Kind=9\/x.Kind=10\/(x.Kind=15/\q=0))->dL kd=true):=by
 have hc:x.Kind=1\/x.Kind=2\/x.Kind=3\/x.Kind=4\/x.Kind=5\/x.Kind=6\/x.Kind=7\/x.Kind=8\/x.Kind=9\/x.Kind=10\/x.Kind=11\/x.Kind=12\/x.Kind=13\/x.Kind=14\/x.Kind=15:=by
  unfold iP at he;simp only [dA,jS] at he;omega
 have other:mY x (q:Int) kd=Option.bind (nY kd) (fun r=>some r)->iP kd=true:=fun e=>by
  rw [e,Dn] at h;exact iV h
 have target:mY x (q:Int) kd=Option.bind (FY kd) (fun r=>some r)->dL kd=true:=fun e=>by
  rw [e,RQ] at h;exact iV h
 obtain ⟨k,o,s,t,ks⟩:=x;rcases hc with e|e|e|e|e|e|e|e|e|e|e|e|e|e|e<;>(have e:k=_:=e;subst e)
 case inr.inr.inr.inr.inr.inr.inr.inr.inl=>
  have:=target rfl;exact ⟨aes this,fun _=>this⟩
 case inr.inr.inr.inr.inr.inr.inr.inr.inr.inl=>
  have:=target rfl;exact ⟨aes this,fun _=>this⟩
 case inr.inr.inr.inr.inr.inr.inr.inr.inr.inr.inr.inr.inr.inr=>
  have e:mY ⟨15,o,s,t,ks⟩ (q:Int) kd=((nY kd).bind fun qp=>bif qp then bif (decide<|(q:Int) > 0) then some true else ((FY kd).bind fun nW=>some nW) else (some false)).bind fun TP=>some TP:=rfl;rw [e,Dn,RQ] at h;simp only [ak] at h;cases hk:iP kd with
  | false=>rw [hk] at h;cases h
  | true=>
   rw [hk] at h;refine ⟨rfl,fun hh=>?_⟩;have hq:q=0:=by
    rcases hh with h'|h'|h'
    .have h':(15:Int)=9:=h';omega
    .have h':(15:Int)=10:=h';omega
    .exact h'.2
   subst hq;cases hl:dL kd with
   | true=>rfl
   | false=>rw [hl] at h;cases h
 all_goals
  refine ⟨other rfl,fun hh=>?_⟩;exfalso;simp at hh
def asb (N:Nat) (n:aG) (h:yT N n=some true) (hk:n.Kind=15):n.Op≠99:=by
 obtain ⟨_,_,_,h2,_,_⟩:=adz N n h;have e:CB n=Option.bind (wY n.Op) (fun kV=>some kV):=by
  obtain ⟨k,o,x,y,ks⟩:=n;have hk:k=15:=hk;subst hk;rfl
 intro nO;rw [e,nO] at h2;unfold wY at h2;rw [Ak] at h2;have h2:=iV h2;revert h2;decide
mutual
def allT (P:aD->Prop):aD->Prop
 | ⟨k,o,x,y,ks⟩=>P ⟨k,o,x,y,ks⟩/\Dm P ks
def Dm (P:aD->Prop):List aD->Prop
 | []=>True
 | t::ts=>allT P t/\Dm P ts
end
mutual
def akz {P Q:aD->Prop} (h:∀ t,P t->Q t):∀ t:aD,allT P t->allT Q t
 | ⟨k,o,x,y,ks⟩,ht=>by
  rw [allT] at ht ⊢;exact ⟨h _ ht.1,alf h ks ht.2⟩
def alf {P Q:aD->Prop} (h:∀ t,P t->Q t):∀ ts:List aD,Dm P ts->Dm Q ts
 | [],_=>by rw [Dm];trivial
 | t::ts,ht=>by
  rw [Dm] at ht ⊢;exact ⟨akz h t ht.1,alf h ts ht.2⟩
end
def alg (p q:aI):Prop:=p.Level=14/\q.Level=14/\p.jo=q.jo/\p.eZ=q.eZ
def kinds {k:Int} (he:iP k=true):k=1\/k=2\/k=3\/k=4\/k=5\/k=6\/k=7\/k=8\/k=9\/k=10\/k=11\/k=12\/k=13\/k=14\/k=15:=by
 unfold iP at he;simp only [dA,jS] at he;omega
def awm {k o:Int} {p q:aI} (he:iP k=true) (h:alg p q):fK k o p=fK k o q/\(fK k o p=true->k<=9):=by
 obtain ⟨h1,h2,h3,h4⟩:=h;have hp:posB p=posB q:=by unfold posB;rw [h1,h2,h3]
 have ho:=NJ o;have low:lv k o < 14->(k==9)=false->∀ r:aI,r.Level=14->fK k o r=false:=fun hl h9 r hr=>by
  unfold fK;rw [h9,hr];have:decide (lv k o>=14)=false:=bZ;rw [this];simp
 rcases kinds he with e|e|e|e|e|e|e|e|e|e|e|e|e|e|e<;>subst e
 case inr.inr.inr.inr.inr.inr.inr.inr.inr.inl=>
  have l:lv 10 o < 14:=by show (13:Int) < 14;decide
  rw [low l rfl p h1,low l rfl q h2];exact ⟨rfl,fun h=>by cases h⟩
 case inr.inr.inr.inr.inr.inr.inr.inr.inr.inr.inl=>
  have l:lv 11 o < 14:=by show (11:Int) < 14;decide
  rw [low l rfl p h1,low l rfl q h2];exact ⟨rfl,fun h=>by cases h⟩
 case inr.inr.inr.inr.inr.inr.inr.inr.inr.inr.inr.inl=>
  have l:lv 12 o < 14:=by show bF o < 14;omega
  rw [low l rfl p h1,low l rfl q h2];exact ⟨rfl,fun h=>by cases h⟩
 case inr.inr.inr.inr.inr.inr.inr.inr.inr.inr.inr.inr.inl=>
  have l:lv 13 o < 14:=by show (5:Int) < 14;decide
  rw [low l rfl p h1,low l rfl q h2];exact ⟨rfl,fun h=>by cases h⟩
 case inr.inr.inr.inr.inr.inr.inr.inr.inr.inr.inr.inr.inr.inl=>
  have l:lv 14 o < 14:=by show (2:Int) < 14;decide
  rw [low l rfl p h1,low l rfl q h2];exact ⟨rfl,fun h=>by cases h⟩
 case inr.inr.inr.inr.inr.inr.inr.inr.inr.inr.inr.inr.inr.inr=>
  have l:lv 15 o < 14:=by show (1:Int) < 14;decide
  rw [low l rfl p h1,low l rfl q h2];exact ⟨rfl,fun h=>by cases h⟩
 all_goals
  refine ⟨?_,fun _=>aH⟩;unfold fK;rw [hp,h1,h2,h3,h4];simp
def NP {k o:Int} {n j:Nat} {p:aI} (he:iP k=true):posB (jX k o n j p)=true:=by
 have hs:∀ o,posB ⟨(iY o).1,false,p.aV,p.aW,p.eZ⟩=true/\posB ⟨(iY o).2,false,p.aV,p.aW,o==99⟩=true:=fun o=>by
  unfold iY posB;cases bF o==3<;>cases bF o==4<;>cases bF o==6<;>cases bF o==7<;>cases bF o==8<;>cases bF o==9<;>cases bF o==10<;>exact ⟨rfl,rfl⟩
 rcases kinds he with e|e|e|e|e|e|e|e|e|e|e|e|e|e|e<;>subst e
 case inr.inr.inr.inr.inr.inr.inr.inr.inr.inr.inr.inl=>
  unfold jX;cases decide (j > 0)
  .exact (hs o).1
  .exact (hs o).2
 case inr.inr.inr.inr.inr.inr.inr.inr.inr.inr.inr.inr.inl=>
  unfold jX;cases decide (n > 1)<;>rfl
 all_goals (unfold jX;first|rfl|(cases decide (j > 0)<;>rfl))
def spl (k:Int):List UInt8:=(Cy k).getD []
def aje (k:Int):Cy k=some (spl k):=by
 obtain ⟨x,h,_⟩:=arv k;unfold spl;rw [h];rfl
def sg (k:Int):av:=⟨k,spl k,0⟩
def oV:aI:=⟨1,false,false,false,false⟩
def adv (b:Bool) (x y:List av):List av:=bif b then sg 32::(y++[sg 33]) else x
def NA:Bool->List (List av)->List av
 | _,[]=>[]
 | b,x::xs=>(bif b then [sg 36] else [])++(x++NA true xs)
def ajT {α:Type} {l:List α} (h:l.length=2):∃ a b,l=[a,b]:=by
 match l,h with
 | [a,b],_=>exact ⟨a,b,rfl⟩
def aur {α:Type} {l:List α} (h:l.length=3):∃ a b c,l=[a,b,c]:=by
 match l,h with
 | [a,b,c],_=>exact ⟨a,b,c,rfl⟩
structure GN (t:aD):Prop where
 e:iP t.kind=true
 lv:lv t.kind t.op≠0
 a0:t.kind=1\/t.kind=2\/t.kind=3\/t.kind=4->t.kids.length=0
 a1:t.kind=6\/t.kind=9\/t.kind=10\/t.kind=11->t.kids.length=1
 a2:t.kind=12\/t.kind=15->t.kids.length=2
 a3:t.kind=14->t.kids.length=3
 ai:t.kind=5\/t.kind=13->1<=t.kids.length
 le:t.kids.length<=400
 ke:∀ k,k∈t.kids->iP k.kind=true
 kl:∀ k,t.kids[0]?=some k->t.kind=9\/t.kind=10\/t.kind=15->dL k.kind=true
 op:t.kind=15->t.op≠99
def adA {P:aD->Prop} {t:aD} (h:allT P t):P t:=by
 obtain ⟨k,o,x,y,ks⟩:=t;rw [allT] at h;exact h.1
def adB {P:aD->Prop} {t:aD} (h:allT P t):∀ k,k∈t.kids->allT P k:=by
 have key:∀ ts:List aD,Dm P ts->∀ k,k∈ts->allT P k:=by
  intro ts;induction ts with
  | nil=>intro _ k hk;cases hk
  | cons u ts ih=>
   intro h k hk;rw [Dm] at h;rcases jW.1 hk with rfl|hk
   .exact h.1
   .exact ih h.2 k hk
 obtain ⟨k,o,x,y,ks⟩:=t;rw [allT] at h;exact key ks h.2
def kd (l:List av) (i:Nat):Int:=(l[i]?.map (·.Kind)).getD 0
def bI (l:List av) (i:Nat) (b:Bool) (ns:List (List UInt8)):dS l (i:Int) b ns=some (kd l i):=by
 unfold dS kd;by_cases h:i < l.length
 .have:decide ((i:Int)>=(l.length:Int))=false:=bZ;rw [this,aA,bJ h,ak,fZ h];rfl
 .have:decide ((i:Int)>=(l.length:Int))=true:=bZ;rw [this,aB,vW ah];rfl
def wz (L:List aG):Prop:=∀ x,x∈L->x.Kids.length<=20000/\x.Text.length<=1048576/\x.Other.length<=1048576
def awn (N:Nat) (kb:(List aG×Int×Int×List aG)->Option (List aG)) (a:List aG) (d:Int) (i:Nat) (hi:i < a.length) (hi2:i<=1000000) (out:List aG) (ho:out.length<=1000000) (hk:a[i].Kids.length<=20000):
  ∀ (n j:Nat) (ks:List Int),a[i].Kids.length - j < n->j<=a[i].Kids.length->ks.length=j->
   ∃ x:aG,(x.Kids.length=a[i].Kids.length/\x.Text=a[i].Text/\x.Other=a[i].Other)/\QW N kb n (a,d,(i:Int),out,a[i],(j:Int),ks)=kb (a,d,((i+1:Nat):Int),out++[x]):=by
 intro n;induction n with
 | zero=>intro j ks h;omega
 | succ n ih=>
  intro j ks hn hj hks;rw [QW,bJ hi,ak];by_cases h:j < a[i].Kids.length
  .simp only [fO h,aB,bJ hi,bJ h,ak,EM h<|by simp only [maxLen];omega];rw [mH bZ,ak];exact ih (j+1) _ ah ah (by simp [hks])
  .simp only [gP h,aA];rw [mH bZ,ak,wrap64 ah ah];exact ⟨⟨a[i].Kind,a[i].Op,a[i].Text,a[i].Other,ks⟩,⟨by show ks.length=_;omega,rfl,rfl⟩,rfl⟩
def awo (N:Nat) (a:List aG) (d:Int) (hN:1048577 < N) (ha:a.length<=500000) (hs:wz a):
  ∀ (n i:Nat) (out:List aG),a.length - i < n->i<=a.length->out.length=i->wz out->∃ r,JU N n (a,d,(i:Int),out)=some r/\r.length=a.length/\wz r:=by
 intro n;induction n with
 | zero=>intro i out h;omega
 | succ n ih=>
  intro i out hn hi ho hso;rw [JU];by_cases h:i < a.length
  .have hx:=hs _ (kE h);simp only [fO h,aB,bJ h,ak];obtain ⟨x,x1,x2⟩:=awn N (JU N n) a d i h ah out ah hx.1 N 0 [] ah ah rfl;obtain ⟨r,r1,r2,r3⟩:=ih (i+1) (out++[x]) ah ah (by simp [ho]) (fun z hz=>by
    rcases mJ.1 hz with hz|hz
    .exact hso z hz
    .rw [yg.1 hz,x1.1,x1.2.1,x1.2.2];exact hx)
   exact ⟨r,Kj x2 r1,r2,r3⟩
  .simp only [gP h,aA];exact ⟨out,rfl,ah,hso⟩
def awp (N:Nat) (a:List aG) (d:Int) (hN:1048577 < N) (ha:a.length<=500000) (hs:wz a):∃ r,Zh N a d=some r/\r.length=a.length/\wz r:=
 awo N a d hN ha hs N 0 [] ah ah rfl fun z hz=>by cases hz
def qz (Ls:List (List aG)):Nat:=(Ls.map (·.length)).sum
def GZ (L:List aG) (Ls:List (List aG)):qz (L::Ls)=L.length+qz Ls:=by simp [qz]
def auL (a b:List (List aG)):qz (a++b)=qz a+qz b:=by simp [qz]
def awq (N:Nat) (n0:aG) (Ls:List (List aG)) (hN:1048577 < N) (hnt:n0.Text.length<=1048576/\n0.Other.length<=1048576) (hl:qz Ls<=400000) (hk:Ls.length<=10000) (hs:∀ L,L∈Ls->wz L):∀ (n i:Nat) (acc:List aG) (ids:List Int),Ls.length - i < n->i<=Ls.length->acc.length+qz (Ls.drop i)=qz Ls->ids.length=i->wz acc->
  ∃ r,Nl N n (Ls,n0,(i:Int),acc,ids)=some r/\r.length=qz Ls+1/\wz r:=by
 intro n;induction n with
 | zero=>intro i acc ids h;omega
 | succ n ih=>
  intro i acc ids hn hi hacc aaq hsa;rw [Nl];by_cases h:i < Ls.length
  .rw [drop_cons h,GZ] at hacc;obtain ⟨r,r1,r2,r3⟩:=awp N Ls[i] (acc.length:Int) hN ah (hs _<|kE h);simp only [fO h,aB,bJ h,ak,r1];rw [mH ah,ak,mH bZ,ak,wrap64 (n:=(i:Int)+1) ah ah];exact ih (i+1) (acc++r) _ ah ah (by rw [ny,r2];omega) (by simp [aaq]) (fun z hz=>by
    rcases mJ.1 hz with hz|hz
    .exact hsa z hz
    .exact r3 z hz)
  .simp only [gP h,aA];rw [drop_nil h] at hacc;have h0:qz []=0:=rfl;rw [mH bZ,ak];refine ⟨_,rfl,bZ,fun z hz=>?_⟩;rcases mJ.1 hz with hz|hz
   .exact hsa z hz
   .rw [yg.1 hz];exact ⟨by show ids.length<=_;omega,hnt.1,hnt.2⟩
def awr (N:Nat) (n0:aG) (Ls:List (List aG)) (hN:1048577 < N) (hnt:n0.Text.length<=1048576/\n0.Other.length<=1048576) (hl:qz Ls<=400000) (hk:Ls.length<=10000) (hs:∀ L,L∈Ls->wz L):∃ r,vV N n0 Ls=some r/\r.length=qz Ls+1/\wz r:=
 awq N n0 Ls hN hnt hl hk hs N 0 [] [] ah ah (by rw [zy];simp) rfl fun z hz=>by cases hz
abbrev PI:=Option (bQ×Int×Bool×List (List UInt8))
abbrev PS:=Option (cZ×Int×Bool×List av)
def PB (l:List av) (i:Nat) (x:PI) (y:PS):Prop:=
 ∃ (p:bQ) (X:cZ) (j:Nat) (b:Bool) (ns:List (List UInt8)) (ns':List av),x=some (p,(j:Int),b,ns)/\y=some (X,(j:Int),b,ns')/\i<=j/\j<=l.length/\ns.length<=j/\ns'.length<=j/\wz X.l/\X.l.length<=2*(j - i)+1/\
  (b=false->i < j/\X.l=dQ 0 p.tree/\p.target=(!X.held&&dL p.tree.kind)/\aU p.tree+1<=2*(j - i))
def Cb {l:List av} (hl:l.length<=3000) {N i j:Nat} (hN:1048577 < N) (k op:Int) (tx:List UInt8) (htx:tx.length<=1048576) (tg:Bool) (ps:List aD) (Ls:List (List aG)) (b:Bool) (ns:List (List UInt8)) (ns':List av) (hij:i<=j) (hj:j<=l.length) (hn:ns.length<=j) (hn':ns'.length<=j)
  (Aq:qz Ls<=2*(j - i)) (hLk:Ls.length<=10000) (hsm:∀ L,L∈Ls->wz L) (qA:tg=dL k) (hok:b=false->i < j/\Ls=ps.map (dQ 0)/\bq ps+2<=2*(j - i)):
  ∃ r,vV N ⟨k,op,tx,[],[]⟩ Ls=some r/\PB l i (some (⟨⟨k,op,tx,[],ps⟩,tg⟩,(j:Int),b,ns)) (some (⟨r,false⟩,(j:Int),b,ns')):=by
 obtain ⟨r,r1,r2,r3⟩:=awr N ⟨k,op,tx,[],[]⟩ Ls hN ⟨htx,aF⟩ ah hLk hsm;refine ⟨r,r1,_,_,j,b,ns,ns',rfl,rfl,hij,hj,hn,hn',r3,(by show r.length<=_;omega),fun hb=>?_⟩;obtain ⟨h1,h2,h3⟩:=hok hb;have hm:=avV N ⟨k,op,tx,[],[]⟩ ps hN ah;rw [<- h2,r1] at hm;refine ⟨h1,iV hm,?_,by rw [aU];omega⟩;rw [qA];rfl
def mK {α β γ δ:Type} (x:Option (α×β×γ×δ)):(Option.bind x fun r=>some (r.1,r.2.1,r.2.2.1,r.2.2.2))=x:=by
 cases x<;>rfl
def mO (l:List av) (i:Nat) (b:Bool) (ns:List av):kP l (i:Int) b ns=some (kd l i):=by
 unfold kP kd;by_cases h:i < l.length
 .have:decide ((i:Int)>=(l.length:Int))=false:=bZ;rw [this,aA,bJ h,ak,fZ h];rfl
 .have:decide ((i:Int)>=(l.length:Int))=true:=bZ;rw [this,aB,vW ah];rfl
def dz {l:List av} {i:Nat} (h:kd l i≠0):i < l.length:=by
 cases vY i l.length with
 | inl h=>exact h
 | inr g=>exfalso;apply h;unfold kd;rw [vW ah];rfl
def iQ {l:List av} {i:Nat} (h:i < l.length):kd l i=l[i].Kind:=by unfold kd;rw [fZ h];rfl
def Fe (k:Int) (l:List av) (i:Nat) (ns:List av):kQ k l (i:Int) true ns=some (⟨0,[],0⟩,(i:Int),true):=by
 unfold kQ;simp only [aB,ak]
def Kw {k:Int} {l:List av} {i:Nat} (b:Bool) (ns:List av) (h:kd l i≠k):kQ k l (i:Int) b ns=some (⟨0,[],0⟩,(i:Int),true):=by
 unfold kQ;have e:(kd l i !=k)=true:=by simpa using h
 cases b<;>simp only [aB,aA,mO,ak,e]
def ow {k:Int} {l:List av} {i:Nat} (ns:List av) (hi:i < l.length) (hl:l.length<=100000) (h:kd l i=k):kQ k l (i:Int) false ns=some (l[i],((i+1:Nat):Int),false):=by
 unfold kQ;have e:(kd l i !=k)=false:=by simp [h]
 simp only [aA,mO,ak,e,bJ hi];rw [wrap64 ah ah];rfl
def ZO (k:Int) (l:List av) (i:Nat) (ns:List (List UInt8)):uJ k l (i:Int) true ns=some (false,(i:Int),true):=by
 unfold uJ;simp only [aB,ak]
def Rt {k:Int} {l:List av} {i:Nat} (b:Bool) (ns:List (List UInt8)) (h:kd l i≠k):uJ k l (i:Int) b ns=some (false,(i:Int),true):=by
 unfold uJ;have e:(kd l i !=k)=true:=by simpa using h
 cases b<;>simp only [aB,aA,bI,ak,e]
def ES {k:Int} {l:List av} {i:Nat} (ns:List (List UInt8)) (hi:i<=100000) (h:kd l i=k):uJ k l (i:Int) false ns=some (true,((i+1:Nat):Int),false):=by
 unfold uJ;have e:(kd l i !=k)=false:=by simp [h]
 simp only [aA,bI,ak,e];rw [wrap64 ah ah];rfl
def Dy {l:List av} {i:Nat} (b:Bool) (ns:List (List UInt8)) (hi:i < l.length) (hl:l.length<=100000):xL l (i:Int) b ns=some (l[i].Text,((i+1:Nat):Int)):=by
 unfold xL;rw [bJ hi,ak,wrap64 ah ah];rfl
def akv {l:List av} {i:Nat} (b:Bool) (ns:List (List UInt8)) (h:kd l i≠6):vH l (i:Int) b ns=some ([],(i:Int),true):=by
 unfold vH;have e:(kd l i !=6)=true:=by simpa using h
 cases b<;>simp only [aB,aA,bI,ak,e]
def RN {l:List av} {i:Nat} (ns:List (List UInt8)) (hi:i < l.length) (hl:l.length<=100000) (h:kd l i=6):vH l (i:Int) false ns=some (l[i].Text,((i+1:Nat):Int),false):=by
 unfold vH;have e:(kd l i !=6)=false:=by simp [h]
 simp only [aA,bI,ak,e,Dy false ns hi hl]
def awt (k:Int):EB k=zX k:=by
 unfold EB zX;rfl
def awu (k:Int):EC k=zW k:=by
 unfold EC zW;rfl
def awv (l:List av) (hl:l.length<=3000) (N N':Nat):∀ (n n' i:Nat) (ns:List (List UInt8)) (ns':List av),l.length - i < n->l.length - i < n'->i<=l.length->ns.length<=i->ns'.length<=i->
  ∃ (j:Nat) (ms:List (List UInt8)) (ms':List av),i<=j/\j<=l.length/\ms.length<=j/\ms'.length<=j/\xK N l false n ((i:Int),ns)=some ((j:Int),ms)/\QZ N' l false n' ((i:Int),ns')=some ((j:Int),ms'):=by
 intro n;induction n with
 | zero=>intro n' i ns ns' h;omega
 | succ n ih=>
  intro n' i ns ns' hn hn' hi h1 h2;cases n' with
  | zero=>omega
  | succ n'=>
   rw [xK,QZ];simp only [bY,aB,bI,mO,ak];by_cases e1:kd l i=1
   .have hlt:=dz (l:=l) (i:=i) (by rw [e1];decide);have e2:(kd l i==2)=false:=by rw [e1];decide
    simp only [e1,tZ,aB,ak,Int.reduceBEq,aA];unfold JI Zi;simp only [];rw [wrap64 ah ah];obtain ⟨j,ms,ms',a1,a2,a3,a4,a5,a6⟩:=ih n' (i+1) ns ns' ah ah ah ah ah;exact ⟨j,ms,ms',ah,a2,a3,a4,a5,a6⟩
   .have f1:(kd l i==1)=false:=by simpa using e1
    by_cases e2:kd l i=2
    .have hlt:=dz (l:=l) (i:=i) (by rw [e2];decide);simp only [e2,Int.reduceBEq,aB,aA,ak,bJ hlt];rw [mH bZ,mH bZ];simp only [ak];unfold JI Zi;simp only [];rw [wrap64 ah ah];obtain ⟨j,ms,ms',a1,a2,a3,a4,a5,a6⟩:=ih n' (i+1) (ns++[l[i].Text]) (ns'++[l[i]]) ah ah ah bZ bZ;exact ⟨j,ms,ms',ah,a2,a3,a4,a5,a6⟩
    .have f2:(kd l i==2)=false:=by simpa using e2
     simp only [f1,f2,aA,ak];exact ⟨i,ns,ns',ah,hi,h1,h2,rfl,rfl⟩
def ake {l:List av} (hl:l.length<=3000) {N N':Nat} (hN:3000 < N) (hN':3000 < N') {i:Nat} (ns:List (List UInt8)) (ns':List av) (hi:i<=l.length) (h1:ns.length<=i) (h2:ns'.length<=i):
  ∃ (j:Nat) (ms:List (List UInt8)) (ms':List av),i<=j/\j<=l.length/\ms.length<=j/\ms'.length<=j/\Gx N l (i:Int) false ns=some ((j:Int),ms)/\Ra N' l (i:Int) false ns'=some ((j:Int),ms'):=
 awv l hl N N' N N' i ns ns' ah ah hi h1 h2
def auN (l:List av) {N':Nat} (hN':0 < N') (i:Nat) (ns':List av):Ra N' l (i:Int) true ns'=some ((i:Int),ns'):=by
 obtain ⟨n,rfl⟩:∃ n,N'=n+1:=⟨N' - 1,ah⟩
 unfold Ra;rw [QZ];simp only [fE,aA,ak]
def dD (k:Int):Bool:=k==32||(k==34||k==30)
def dF (k:Int):Bool:=k==33||(k==35||k==31)
def NU (k:Int):EB k=some (dD k):=by
 unfold EB dD;cases (k==32)<;>cases (k==34)<;>rfl
def RO (k:Int):EC k=some (dF k):=by
 unfold EC dF;cases (k==33)<;>cases (k==35)<;>rfl
def Kz (k:Int):zX k=some (dD k):=by rw [<- awt];exact NU k
def Wv (k:Int):zW k=some (dF k):=by rw [<- awu];exact RO k
def Kg {k:Int} (h:dD k=true):dF k=false/\(k==36)=false:=by
 unfold dD at h;simp only [iX,iG] at h;rcases h with h|h|h<;>subst h<;>decide
def aww {k:Int} (h:dF k=true):(k==36)=false:=by
 unfold dF at h;simp only [iX,iG] at h;rcases h with h|h|h<;>subst h<;>decide
def awx (l:List av) (hl:l.length<=3000) (N N' i:Nat) (b b':Bool) (q:Int) (ns:List (List UInt8)) (ns':List av):∀ (n n' j d:Nat),l.length - j < n->l.length - j < n'->i<=j->1<=d->d<=j->
  ∃ r,oL N l q b ns n (l.drop i,(d:Int),((j - i:Nat):Int))=some r/\Np N' l q b' ns' n' ((d:Int),(j:Int))=some r/\(r=true->d=1->kd l j≠33):=by
 intro n;induction n with
 | zero=>intro n' j d h;omega
 | succ n ih=>
  intro n' j d hn hn' hij hd hdj;cases n' with
  | zero=>omega
  | succ n'=>
   rw [oL,Np];by_cases hj:j < l.length
   .have hj':j - i < (l.drop i).length:=by rw [EZ];omega
    have he:(l.drop i)[j - i]=l[j]:=by rw [List.getElem_drop];congr 1;omega
    simp only [fO hj,fO hj',aB,bJ hj,bJ hj',he,ak,NU,Kz,RO];rw [iQ hj];have next:∀ d':Nat,1<=d'->d'<=j+1->∃ r,oL N l q b ns n (l.drop i,(d':Int),(IntKind.wrap .i64<|((j - i:Nat):Int)+1))=some r/\Np N' l q b' ns' n' ((d':Int),(IntKind.wrap .i64<|(j:Int)+1))=some r:=fun d' g1 g2=>by
     rw [wrap64 ah ah,wrap64 ah ah];obtain ⟨r,r1,r2,_⟩:=ih n' (j+1) d' ah ah ah g1 g2;refine ⟨r,?_,r2⟩;rw [show (((j - i:Nat):Int)+1)=((j+1 - i:Nat):Int) by omega];exact r1
    cases ho:dD l[j].Kind with
    | true=>
     obtain ⟨o1,o2⟩:=Kg ho;simp only [aB];unfold xJ VB;simp only [bJ hj,ak,Wv,o1,aA];unfold QY;simp only [bJ hj,ak,o2];rw [wrap64 (n:=(d:Int)+1) ah ah];have g1:decide (((d:Int)+1)<=0)=false:=by rw [decide_eq_false_iff_not];omega
     have g2:(((d:Int)+1)==0)=false:=by rw [fF];omega
     have g3:(((d:Int)+1)==1)=false:=by rw [fF];omega
     simp only [g1,g2,g3,aA,ak];obtain ⟨r,r1,r2⟩:=next (d+1) ah ah
     refine ⟨r,r1,r2,fun _ _ hk=>?_⟩;rw [hk] at ho;revert ho;decide
    | false=>
     simp only [aA];unfold VB;simp only [bJ hj,ak,Wv];cases hc:dF l[j].Kind with
     | true=>
      have o2:=aww hc;simp only [aB];unfold xJ QY;simp only [bJ hj,ak,o2];rw [wrap64 (n:=(d:Int) - 1) ah ah];by_cases hd1:d=1
      .subst hd1;exact ⟨false,rfl,rfl,fun h=>by cases h⟩
      .have g1:decide (((d:Int) - 1)<=0)=false:=bZ;have g2:(((d:Int) - 1)==0)=false:=bZ;simp only [g1,g2,aA];obtain ⟨r,r1,r2⟩:=next (d - 1) ah ah
       rw [show (((d - 1:Nat)):Int)=(d:Int) - 1 by omega] at r1 r2;refine ⟨r,r1,?_,fun _ h=>absurd h hd1⟩;cases (((d:Int) - 1)==1)<;>exact r2
     | false=>
      simp only [aA];unfold xJ QY;simp only [bJ hj,ak];have g1:decide ((d:Int)<=0)=false:=bZ;have g2:((d:Int)==0)=false:=bZ;simp only [g1,g2,aA];have n33:l[j].Kind≠33:=fun hk=>by rw [hk] at hc;revert hc;decide
      cases zD:(l[j].Kind==36) with
      | true=>
       cases h1:((d:Int)==1) with
       | true=>exact ⟨true,rfl,rfl,fun _ _=>n33⟩
       | false=>
        simp only [aB,aA,ak];obtain ⟨r,r1,r2⟩:=next d hd ah
        exact ⟨r,r1,r2,fun _ _=>n33⟩
      | false=>
       obtain ⟨r,r1,r2⟩:=next d hd ah
       refine ⟨r,?_,?_,fun _ _=>n33⟩
       .simp only [aA,ak];exact r1
       .cases ((d:Int)==1)<;>exact r2
   .have hj': ¬(j - i < (l.drop i).length):=by rw [EZ];omega
    simp only [gP hj,gP hj',aA];exact ⟨false,rfl,rfl,fun h=>by cases h⟩
def avh {l:List av} (hl:l.length<=3000) {N N':Nat} (hN:3001 < N) (hN':3001 < N') {i:Nat} (ns:List (List UInt8)) (ns':List av) (h32:kd l i=32):
  ∃ r,Ab N l (i:Int) false ns=some r/\VD N' l (i:Int) false ns'=some r/\(r=true->kd l (i+1)≠33):=by
 have hi:i < l.length:=dz (by rw [h32];decide);have aas:l[i].Kind=32:=by rw [<- iQ hi];exact h32
 unfold Ab VD;rw [ZV ah ah];have hd:(l.drop i).take (l.length - i)=l.drop i:=VQ aF;rw [hd];obtain ⟨n,rfl⟩:∃ n,N=n+1:=⟨N - 1,ah⟩
 obtain ⟨n',rfl⟩:∃ n',N'=n'+1:=⟨N' - 1,ah⟩
 obtain ⟨r,r1,r2,r3⟩:=awx l hl (n+1) (n'+1) i false false (i:Int) ns ns' n n' (i+1) 1 ah ah ah ah ah;refine ⟨r,?_,?_,fun h=>r3 h rfl⟩
 .have hj':0 < (l.drop i).length:=by rw [EZ];omega
  have he:(l.drop i)[0]=l[i]:=by rw [List.getElem_drop];rfl
  rw [show i+1 - i=1 by omega] at r1;rw [ak,oL];have c1:decide ((0:Int) < ((l.drop i).length:Int))=true:=by simp only [jS];omega
  have c2:ix (l.drop i) (0:Int)=some l[i]:=by rw [<- he];exact bJ (i:=0) hj'
  simp only [c1,c2,aB,ak,NU,aas];exact r1
 .simp only [aA,mO,h32,ak,bne_self_eq_false];rw [Np];simp only [fO hi,aB,bJ hi,ak,Kz,aas];have o:dD 32=true:=aH;simp only [o,aB];unfold VB;simp only [bJ hi,ak,Wv,aas];have c:dF 32=false:=aH;simp only [c,aA];unfold QY;simp only [bJ hi,ak,aas];rw [wrap64 (n:=(i:Int)+1) ah ah];exact r2
def awy (t:aD) (hb:Bool) (h:aU t<=1000000):∃ nd,acM ⟨dQ 0 t,hb⟩=some nd/\nd.Kind=t.kind:=by
 have hl:=su t 0;have hp:=He t;unfold acM;simp only [];have c1:(((dQ 0 t).length:Int)==0)=false:=by rw [fF];omega
 have c2:(dQ 0 t).length - 1 < (dQ 0 t).length:=ah;rw [c1,aA,wrap64 ah ah,show ((dQ 0 t).length:Int) - 1=(((dQ 0 t).length - 1:Nat):Int) by omega,bJ c2];refine ⟨_,rfl,?_⟩;cases t with
 | mk k o tx ot ks=>
  simp only [dQ];simp
def akq (t:aD) (hb:Bool) (h:aU t<=1000000):QX ⟨dQ 0 t,hb⟩=some (!hb&&dL t.kind):=by
 obtain ⟨nd,h1,h2⟩:=awy t hb h;unfold QX;cases hb with
 | true=>rfl
 | false=>simp only [bY,aB,h1,ak,RQ,h2,iF]
def pF (R:eX) (v:Int) (r:bH) (l:List av) (i:Int) (b:Bool) (ns:List (List UInt8)):Option (bQ×Int×Bool×List (List UInt8)):=
 bif v==1 then R.ou r l i b ns else bif v==2 then R.oM r l i b ns else bif v==3 then R.xR r l i b ns else bif v==4 then R.vM r l i b ns
 else bif v==5 then R.vL r l i b ns else bif v==6 then R.xP r l i b ns else bif v==7 then R.uL r l i b ns else bif v==8 then R.uK r l i b ns
 else bif v==9 then R.vK r l i b ns else bif v==10 then R.vJ r l i b ns else bif v==11 then R.om r l i b ns else bif v==12 then R.xO r l i b ns
 else bif v==13 then R.xM l i b ns else bif v==14 then R.lV l i b ns else R.zk l i b ns
def dR (q:aI):bH:=⟨q.aV,q.aW⟩
def fu (t:aD) (h:Bool):bQ:=⟨t,!h&&dL t.kind⟩
def RdM (l:List av) (M:Nat) (q:aI) (i j:Nat) (t:aD) (h:Bool):Prop:=∀ ns:List (List UInt8),pF (aJ M) q.Level (dR q) l (i:Int) false ns=some (fu t h,(j:Int),false,ns)
def mP {l:List av} {M:Nat} {q:aI} {i j:Nat} {t:aD} {h:Bool} {v:Int} (hq:q.Level=v) (e:∀ ns:List (List UInt8),pF (aJ M) v (dR q) l (i:Int) false ns=some (fu t h,(j:Int),false,ns)):RdM l M q i j t h:=fun ns=>by rw [hq];exact e ns
def Rd (l:List av) (q:aI) (i j:Nat) (t:aD) (h:Bool):Prop:=∀ M,1100000+100*(l.length - i)+4*(16 - q.Level.toNat)<=M->RdM l M q i j t h
def bG (q:aI) (lv:Int):aI:=⟨lv,false,q.aV,q.aW,false⟩
def lX (k:Int):Bool:=k==3||(k==4||(k==6||(k==7||(k==8||(k==32||k==68)))))
def oQ (k:Int):Bool:=(wY k).getD false
def ajd (k:Int):wY k=some (oQ k):=by
 unfold oQ wY;rw [Ak];cases (k==54)<;>rfl
def adN (k:Int):JB k=some (oQ k):=(show JB k=wY k from rfl).trans (ajd k)
def Dr (k:Int):xE k=some (k==51||k==52):=by
 unfold xE;cases (k==51)<;>rfl
def VU (k:Int):Gu k=some (lX k):=by
 unfold Gu ED lX;cases (k==3)<;>cases (k==4)<;>cases (k==6)<;>cases (k==7)<;>cases (k==8)<;>cases (k==32)<;>cases (k==68)<;>rfl
def GX (k:Int):CS k=some (bF k):=by rw [awg];exact aar k
def cont (lv:Int) (q:aI) (k:Int):Bool:=
 bif lv==1 then oQ k else bif lv==2 then k==65 else bif lv==5 then k==24&&!q.aV
 else bif lv==8 then lX k else bif lv==12 then k==60 else bif lv==13 then (k==51||k==52)
 else bif lv==11 then false else bif lv==14 then false else bif lv==15 then false
 else k !=0&&(k !=99&&(bF k==lv&&(k !=62||!q.aW)))
def qD (k v:Int):Prop:=(v=3->k=44)/\(v=4->k=45)/\(v=6->k=67\/k=46)/\(v=7->k≠0/\k≠99)/\(v=9->k≠0/\k≠99/\k≠62)/\(v=10->k≠0/\k≠99/\k≠62)
def RS (k:Int):qD k (bF k):=by
 have c:∀ {c:Bool} {x y:Option Int},(c=true->∃ v,x=some v/\qD k v)->(c=false->∃ v,y=some v/\qD k v)->∃ v,(bif c then x else y)=some v/\qD k v:=fun {c x y} hx hy=>by
  cases c
  .exact hy rfl
  .exact hx rfl
 have e:∀ {z:Int},(k==z)=true->k=z:=fun h=>by simpa using h
 have q0:∃ v:Int,(some 0:Option Int)=some v/\qD k v:=⟨0,rfl,by unfold qD;omega⟩
 have kT:∃ v:Int,(some 12:Option Int)=some v/\qD k v:=⟨12,rfl,by unfold qD;omega⟩
 have q8:∃ v:Int,(some 8:Option Int)=some v/\qD k v:=⟨8,rfl,by unfold qD;omega⟩
 have h4:∀ z:Int,k=z/\(z=57\/z=58)\/z=59->∃ v,Gg (k,k==z)=some v/\qD k v:=fun z hz=>c (fun h=>⟨10,rfl,by have:=e h;unfold qD;omega⟩) fun h=>c (fun _=>kT) fun _=>q0;have h3:∀ z:Int,k=z/\z=55\/z=56->∃ v,Jm (k,k==z)=some v/\qD k v:=fun z hz=>c (fun h=>⟨9,rfl,by have:=e h;unfold qD;omega⟩) fun h=>c (fun h=>h4 57<|.inl ⟨e h,.inl rfl⟩) fun _=>c (fun h=>h4 58<|.inl ⟨e h,.inr rfl⟩) fun _=>h4 59 (.inr rfl);have h2:∀ z:Int,k=z/\(z=63\/z=48\/z=47\/z=50\/z=62)\/z=49->∃ v,BA (k,k==z)=some v/\qD k v:=fun z hz=>c (fun h=>⟨7,rfl,by have:=e h;unfold qD;omega⟩) fun h=>c (fun _=>q8) fun _=>c (fun h=>h3 55<|.inl ⟨e h,rfl⟩) fun _=>h3 56 (.inr rfl);have h1:∀ z:Int,k=z/\z=67\/z=46->∃ v,Jo (k,k==z)=some v/\qD k v:=fun z hz=>c (fun h=>⟨6,rfl,by have:=e h;unfold qD;omega⟩) fun h=>c (fun h=>h2 63<|.inl ⟨e h,ah⟩) fun _=>c (fun h=>h2 48<|.inl ⟨e h,ah⟩) fun _=>c (fun h=>h2 47<|.inl ⟨e h,ah⟩) fun _=>c (fun h=>h2 50<|.inl ⟨e h,ah⟩) fun _=>c (fun h=>h2 62<|.inl ⟨e h,ah⟩) fun _=>h2 49 (.inr rfl);have h0:∃ v,zY k=some v/\qD k v:=c (fun h=>⟨3,rfl,by have:=e h;unfold qD;omega⟩) fun h=>c (fun h=>⟨4,rfl,by have:=e h;unfold qD;omega⟩) fun h=>c (fun h=>h1 67<|.inl ⟨e h,rfl⟩) fun _=>h1 46 (.inr rfl);obtain ⟨v,h5,h6⟩:=h0;rw [aar] at h5;cases h5;exact h6
def alh (q:aI) (k:Int):cont 3 q k=(k==44):=by
 cases h:k==44 with
 | true=>rw [eq_of_beq h];rfl
 | false=>
  have hq:=(RS k).1;show (k !=0&&(k !=99&&(bF k==3&&(k !=62||!q.aW))))=false;have:(bF k==3)=false:=by
   have: ¬bF k=3:=fun e=>by have:=hq e;subst this;cases h
   simpa using this
  rw [this];simp
def ali (q:aI) (k:Int):cont 4 q k=(k==45):=by
 cases h:k==45 with
 | true=>rw [eq_of_beq h];rfl
 | false=>
  have hq:=(RS k).2.1;show (k !=0&&(k !=99&&(bF k==4&&(k !=62||!q.aW))))=false;have:(bF k==4)=false:=by
   have: ¬bF k=4:=fun e=>by have:=hq e;subst this;cases h
   simpa using this
  rw [this];simp
def alj (q:aI) (k:Int):cont 6 q k=(k==67||k==46):=by
 cases h:k==67 with
 | true=>rw [eq_of_beq h];rfl
 | false=>
  cases h2:k==46 with
  | true=>rw [eq_of_beq h2];rfl
  | false=>
   have hq:=(RS k).2.2.1;show (k !=0&&(k !=99&&(bF k==6&&(k !=62||!q.aW))))=false;have:(bF k==6)=false:=by
    have: ¬bF k=6:=fun e=>by
     rcases hq e with e|e<;>subst e
     .cases h
     .cases h2
    simpa using this
   rw [this];simp
def awz (q:aI) (k:Int):cont 7 q k=(bF k==7&&(k !=62||!q.aW)):=by
 cases h:bF k==7 with
 | true=>
  have hq:=(RS k).2.2.2.1 (eq_of_beq h);have h1:(k !=0)=true:=by simpa using hq.1
  have h2:(k !=99)=true:=by simpa using hq.2
  show (k !=0&&(k !=99&&(bF k==7&&(k !=62||!q.aW))))=_;rw [h,h1,h2];rfl
 | false=>
  show (k !=0&&(k !=99&&(bF k==7&&(k !=62||!q.aW))))=_;rw [h];simp
def aau (q:aI) (k v:Int) (hv:v=9\/v=10):cont v q k=(bF k==v):=by
 have hd:cont v q k=(k !=0&&(k !=99&&(bF k==v&&(k !=62||!q.aW)))):=by rcases hv with rfl|rfl<;>rfl
 rw [hd];cases h:bF k==v with
 | true=>
  have e:=eq_of_beq h;have hq:k≠0/\k≠99/\k≠62:=by
   rcases hv with rfl|rfl
   .exact (RS k).2.2.2.2.1 e
   .exact (RS k).2.2.2.2.2 e
  have h1:(k !=0)=true:=by simpa using hq.1
  have h2:(k !=99)=true:=by simpa using hq.2.1
  have h3:(k !=62)=true:=by simpa using hq.2.2
  rw [h1,h2,h3];rfl
 | false=>simp
section
variable (l:List av) (q:aI) (i j:Nat) (t:aD) (h:Bool) (hsz:aU t<=400)
theorem awC (hq:q.Level=1) (hr:Rd l (bG q 2) i j t h) (hc:cont 1 q (kd l j)=false) (hsz:aU t<=400):Rd l q i j t h:=by
 intro M hM;obtain ⟨M,rfl⟩:∃ m,M=m+1:=⟨M - 1,ah⟩
 refine mP hq fun ns=>?_;have hc:oQ (kd l j)=false:=hc;have e:=hr M (by rw [hq] at hM;show _+4*(16 - (2:Int).toNat)<=M;have:(2:Int).toNat=2:=rfl;have:(1:Int).toNat=1:=rfl;omega) ns;have e':(aJ M).oM (dR q) l (i:Int) false ns=some (fu t h,(j:Int),false,ns):=e;show Dh M (aJ M) (dR q) l (i:Int) false ns=_;unfold Dh;rw [e'];simp only [ak,aA,bI,adN,hc];unfold fu;cases (!h&&dL t.kind)<;>rfl
theorem awD (hq:q.Level=2) (hr:Rd l (bG q 3) i j t h) (hc:cont 2 q (kd l j)=false):Rd l q i j t h:=by
 intro M hM;obtain ⟨M,rfl⟩:∃ m,M=m+1:=⟨M - 1,ah⟩
 refine mP hq fun ns=>?_;have hc:(kd l j==65)=false:=hc;have hc2:(kd l j !=65)=true:=by rw [bne,hc];rfl
 have e:=hr M (by rw [hq] at hM;show _+4*(16 - (3:Int).toNat)<=M;have:(2:Int).toNat=2:=rfl;have:(3:Int).toNat=3:=rfl;omega) ns;have e':(aJ M).xR (dR q) l (i:Int) false ns=some (fu t h,(j:Int),false,ns):=e;show Df M (aJ M) (dR q) l (i:Int) false ns=_;unfold Df;rw [e'];simp only [ak,aA,bI,hc2,aB]
theorem alk (hq:q.Level=12) (hr:Rd l (bG q 13) i j t h) (hc:cont 12 q (kd l j)=false):Rd l q i j t h:=by
 intro M hM;obtain ⟨M,rfl⟩:∃ m,M=m+1:=⟨M - 1,ah⟩
 refine mP hq fun ns=>?_;have hc:(kd l j==60)=false:=hc;have hc2:(kd l j !=60)=true:=by rw [bne,hc];rfl
 have e:=hr M (by rw [hq] at hM;show _+4*(16 - (13:Int).toNat)<=M;have:(12:Int).toNat=12:=rfl;have:(13:Int).toNat=13:=rfl;omega) ns;have e':(aJ M).xM l (i:Int) false ns=some (fu t h,(j:Int),false,ns):=e;show CY M (aJ M) (dR q) l (i:Int) false ns=_;unfold CY;rw [e'];simp only [ak,aA,bI,hc2,aB]
theorem alm {k:Int} (hk:(k==56||(k==55||k==61))=false):(bif (k !=55) then bif (k !=56) then some (k !=61) else some false else some false)=some true:=by
 rw [Kk,Kk] at hk;rw [bne,bne,bne,hk.1,hk.2.1,hk.2.2];rfl
theorem awE (hq:q.Level=11) (hr:Rd l (bG q 13) i j t h) (hc:cont 12 q (kd l j)=false) (hk:(kd l i==56||(kd l i==55||kd l i==61))=false):Rd l q i j t h:=by
 intro M hM;obtain ⟨M,rfl⟩:∃ m,M=m+1:=⟨M - 1,ah⟩
 refine mP hq fun ns=>?_;have e:=alk l (bG q 12) i j t h rfl hr hc M (by rw [hq] at hM;show _+4*(16 - (12:Int).toNat)<=M;have:(11:Int).toNat=11:=rfl;have:(12:Int).toNat=12:=rfl;omega) ns;have e':(aJ M).xO (dR q) l (i:Int) false ns=some (fu t h,(j:Int),false,ns):=e;show Ag M (aJ M) (dR q) l (i:Int) false ns=_;unfold Ag;rw [bI];simp only [ak,aA,alm hk,aB,e']
theorem awF (hq:q.Level=13) (hr:Rd l (bG q 14) i j t h) (hc:cont 13 q (kd l j)=false) (hk:(kd l i==51||kd l i==52)=false):Rd l q i j t h:=by
 intro M hM;obtain ⟨M,rfl⟩:∃ m,M=m+1:=⟨M - 1,ah⟩
 refine mP hq fun ns=>?_;have hc:(kd l j==51||kd l j==52)=false:=hc;have e:=hr M (by rw [hq] at hM;show _+4*(16 - (14:Int).toNat)<=M;have:(14:Int).toNat=14:=rfl;have:(13:Int).toNat=13:=rfl;omega) ns;have e':(aJ M).lV l (i:Int) false ns=some (fu t h,(j:Int),false,ns):=e;show Af M (aJ M) l (i:Int) false ns=_;unfold Af;rw [bI];simp only [ak,bY,aB,Dr,hk,aA,e',bI,hc];unfold fu;cases (!h&&dL t.kind)<;>rfl
theorem awG (hq:q.Level=14) (hr:Rd l (bG q 15) i j t h) (hk:kd l i≠68):Rd l q i j t h:=by
 intro M hM;obtain ⟨M,rfl⟩:∃ m,M=m+1:=⟨M - 1,ah⟩
 refine mP hq fun ns=>?_;have hk2:(kd l i !=68)=true:=by simpa using hk
 have e:=hr M (by rw [hq] at hM;show _+4*(16 - (15:Int).toNat)<=M;have:(14:Int).toNat=14:=rfl;have:(15:Int).toNat=15:=rfl;omega) ns;have e':(aJ M).zk l (i:Int) false ns=some (fu t h,(j:Int),false,ns):=e;show rP M (aJ M) l (i:Int) false ns=_;unfold rP;rw [bI];simp only [ak,aA,hk2,aB,e']
end
def Ln (l:List av) (a f:Nat):Prop:=a<=f/\(∀ k,a<=k->k < f->kd l k=1)/\kd l f≠1/\kd l f≠2
def aln (l:List av) (hl:l.length<=3000) (N':Nat) (ns:List (List UInt8)):∀ (n a f fuel:Nat),f - a<=n->n < fuel->Ln l a f->xK N' l false fuel ((a:Int),ns)=some ((f:Int),ns)
 | 0,a,f,fuel,h1,h2,h=>by
  obtain ⟨fuel,rfl⟩:∃ m,fuel=m+1:=⟨fuel - 1,ah⟩
  have e:a=f:=by have:=h.1;omega
  subst e;have e1:(kd l a==1)=false:=by simpa using h.2.2.1
  have e2:(kd l a==2)=false:=by simpa using h.2.2.2
  rw [xK];simp only [bI,ak,bY,aB,e1,aA,e2]
 | n+1,a,f,fuel,h1,h2,h=>by
  obtain ⟨fuel,rfl⟩:∃ m,fuel=m+1:=⟨fuel - 1,ah⟩
  by_cases e:a=f
  .subst e;have e1:(kd l a==1)=false:=by simpa using h.2.2.1
   have e2:(kd l a==2)=false:=by simpa using h.2.2.2
   rw [xK];simp only [bI,ak,bY,aB,e1,aA,e2]
  .have hlt:a < f:=by have:=h.1;omega
   have e1:kd l a=1:=h.2.1 a (dK _) hlt;have ha:=dz (l:=l) (i:=a) (by rw [e1];decide);rw [xK];simp only [bY,aB,bI,ak,e1,tZ];unfold JI;simp only [];rw [wrap64 ah ah,show (a:Int)+1=((a+1:Nat):Int) by omega];exact aln l hl N' ns n (a+1) f fuel ah ah ⟨ah,fun k g1 g2=>h.2.1 k ah g2,h.2.2⟩
def Ln.le {l:List av} {a f:Nat} (h:Ln l a f) (ha:a<=l.length):f<=l.length:=by
 by_cases e:a=f
 .omega
 .have h1:=h.1;have:=dz (l:=l) (i:=f - 1) (by rw [h.2.1 (f - 1) ah ah];decide);omega
def aeD (l:List av) (hl:l.length<=3000) {N a f:Nat} (ns:List (List UInt8)) (hN:3000 < N) (ha:a<=l.length) (h:Ln l a f):Gx N l (a:Int) false ns=some ((f:Int),ns):=by
 unfold Gx;have:=h.le ha;rw [aln l hl N ns (f - a) a f N ah ah h]
def Dz (lv most:Int) (sd:Int×Int):Prop:=(lv=3/\most=3000/\sd=(3,4))\/(lv=4/\most=3000/\sd=(4,5))\/(lv=6/\most=1/\sd=(7,7))\/(lv=7/\most=1/\sd=(8,8))\/(lv=8/\most=3000/\sd=(8,9))\/(lv=9/\most=3000/\sd=(9,10))\/(lv=10/\most=3000/\sd=(10,11))
def Wy {lv most:Int} {sd:Int×Int} (hc:Dz lv most sd):3<=lv/\lv<=10/\lv < sd.2/\sd.2<=11/\most<=3000:=by
 rcases hc with ⟨rfl,rfl,rfl⟩|⟨rfl,rfl,rfl⟩|⟨rfl,rfl,rfl⟩|⟨rfl,rfl,rfl⟩|⟨rfl,rfl,rfl⟩|⟨rfl,rfl,rfl⟩|⟨rfl,rfl,rfl⟩<;>decide
def Fp (M:Nat) (lv:Int) (l:List av) (n:Nat) (r:bH) (j:Int) (t:aD) (h:Bool) (ns:List (List UInt8)):Option (bQ×Int×Bool×List (List UInt8)):=
 bif lv==3 then vU M (aJ M) l n (r,j,false,t.kind,t.op,t.text,t.other,t.kids,(!h&&dL t.kind),ns)
 else bif lv==4 then vT M (aJ M) l n (r,j,false,t.kind,t.op,t.text,t.other,t.kids,(!h&&dL t.kind),ns)
 else bif lv==8 then vR M (aJ M) l n (r,j,false,t.kind,t.op,t.text,t.other,t.kids,(!h&&dL t.kind),ns)
 else bif lv==9 then vQ M (aJ M) l n (r,j,false,t.kind,t.op,t.text,t.other,t.kids,(!h&&dL t.kind),ns)
 else vP M (aJ M) l n (r,j,false,t.kind,t.op,t.text,t.other,t.kids,(!h&&dL t.kind),ns)
def alo (M:Nat) (l:List av) (n:Nat) (r:bH) (j:Int) (t:aD) (h:Bool) (ns:List (List UInt8)):Fp M 3 l n r j t h ns=vU M (aJ M) l n (r,j,false,t.kind,t.op,t.text,t.other,t.kids,(!h&&dL t.kind),ns):=rfl
def alp (M:Nat) (l:List av) (n:Nat) (r:bH) (j:Int) (t:aD) (h:Bool) (ns:List (List UInt8)):Fp M 4 l n r j t h ns=vT M (aJ M) l n (r,j,false,t.kind,t.op,t.text,t.other,t.kids,(!h&&dL t.kind),ns):=rfl
def alq (M:Nat) (l:List av) (n:Nat) (r:bH) (j:Int) (t:aD) (h:Bool) (ns:List (List UInt8)):Fp M 8 l n r j t h ns=vR M (aJ M) l n (r,j,false,t.kind,t.op,t.text,t.other,t.kids,(!h&&dL t.kind),ns):=rfl
def alr (M:Nat) (l:List av) (n:Nat) (r:bH) (j:Int) (t:aD) (h:Bool) (ns:List (List UInt8)):Fp M 9 l n r j t h ns=vQ M (aJ M) l n (r,j,false,t.kind,t.op,t.text,t.other,t.kids,(!h&&dL t.kind),ns):=rfl
def als (M:Nat) (l:List av) (n:Nat) (r:bH) (j:Int) (t:aD) (h:Bool) (ns:List (List UInt8)):Fp M 10 l n r j t h ns=vP M (aJ M) l n (r,j,false,t.kind,t.op,t.text,t.other,t.kids,(!h&&dL t.kind),ns):=rfl
def Ch (l:List av) (lv:Int) (_:Int) (_:Int×Int) (q:aI) (i j:Nat) (t:aD) (h:Bool) (c:Nat):Prop:=
 (lv≠6/\lv≠7/\∀ (M:Nat) (ns:List (List UInt8)),1100000+100*(l.length - i)+4*(16 - lv.toNat)<=M+1->pF (aJ<|M+1) lv (dR q) l (i:Int) false ns=Fp M lv l (M - c) (dR q) (j:Int) t h ns)\/
 ((lv=6\/lv=7)/\(c=0/\Rd l (bG q<|lv+1) i j t h\/c=1/\Rd l (bG q lv) i j t h))
def awH {lv:Int} (l:List av) (q:aI) (i j:Nat) (t:aD) (h:Bool) (hv:lv=3\/lv=4\/lv=8\/lv=9\/lv=10) (M:Nat) (ns:List (List UInt8)) (hr:RdM l M (bG q<|lv+1) i j t h):pF (aJ<|M+1) lv (dR q) l (i:Int) false ns=Fp M lv l M (dR q) (j:Int) t h ns:=by
 have e:=hr ns;rcases hv with rfl|rfl|rfl|rfl|rfl
 .have e':(aJ M).vM (dR q) l (i:Int) false ns=some (fu t h,(j:Int),false,ns):=e;show Nb M (aJ M) (dR q) l (i:Int) false ns=_;unfold Nb;rw [e'];rfl
 .have e':(aJ M).vL (dR q) l (i:Int) false ns=some (fu t h,(j:Int),false,ns):=e;show Na M (aJ M) (dR q) l (i:Int) false ns=_;unfold Na;rw [e'];rfl
 .have e':(aJ M).vK (dR q) l (i:Int) false ns=some (fu t h,(j:Int),false,ns):=e;show MW M (aJ M) (dR q) l (i:Int) false ns=_;unfold MW;rw [e'];rfl
 .have e':(aJ M).vJ (dR q) l (i:Int) false ns=some (fu t h,(j:Int),false,ns):=e;show MV M (aJ M) (dR q) l (i:Int) false ns=_;unfold MV;rw [e'];rfl
 .have e':(aJ M).om (dR q) l (i:Int) false ns=some (fu t h,(j:Int),false,ns):=e;show MU M (aJ M) (dR q) l (i:Int) false ns=_;unfold MU;rw [e'];rfl
def Ch.first {l:List av} {lv most:Int} {sd:Int×Int} (hc:Dz lv most sd) {q:aI} {i j:Nat} {t:aD} {h:Bool} (hr:Rd l (bG q<|lv+1) i j t h):Ch l lv most sd q i j t h 0:=by
 have hb:=Wy hc;by_cases hv:lv=6\/lv=7
 .exact .inr ⟨hv,.inl ⟨rfl,hr⟩⟩
 .refine .inl ⟨ah,ah,fun M ns hM=>awH l q i j t h ?_ M ns (hr M<|by show _+4*(16 - (lv+1).toNat)<=M;omega)⟩;rcases hc with ⟨rfl,_⟩|⟨rfl,_⟩|⟨rfl,_⟩|⟨rfl,_⟩|⟨rfl,_⟩|⟨rfl,_⟩|⟨rfl,_⟩<;>omega
def awI {lv:Int} (l:List av) (M n:Nat) (q:aI) (j:Nat) (t:aD) (h:Bool) (ns:List (List UInt8)) (hv:lv=3\/lv=4\/lv=8\/lv=9\/lv=10) (hs:cont lv q (kd l j)=false):Fp M lv l (n+1) (dR q) (j:Int) t h ns=some (fu t h,(j:Int),false,ns):=by
 obtain ⟨k,o,x,y,ks⟩:=t;rcases hv with rfl|rfl|rfl|rfl|rfl
 .rw [alh] at hs;rw [alo,vU];simp only [bY,aB,bI,ak,hs,aA];rfl
 .rw [ali] at hs;rw [alp,vT];simp only [bY,aB,bI,ak,hs,aA];rfl
 .have hs:lX (kd l j)=false:=hs;rw [alq,vR];simp only [bY,aB,bI,ak,VU,hs,aA];rfl
 .rw [aau q _ 9<|.inl rfl] at hs;rw [alr,vQ];simp only [bY,aB,bI,ak,GX,hs,aA];rfl
 .rw [aau q _ 10<|.inr rfl] at hs;rw [als,vP];simp only [bY,aB,bI,ak,GX,hs,aA];rfl
def awJ {lv most:Int} {sd:Int×Int} (hc:Dz lv most sd) (l:List av) (hl:l.length<=3000) (M n:Nat) (hM:1048577 < M) (q:aI) (j j2:Nat) (h hb:Bool) (ns:List (List UInt8)) (t u:aD) (hgo:cont lv q (kd l j)=true) (hv:lv≠6/\lv≠7)
  (f0 f:Nat) (op:Int) (hf:lv=8/\f0=j/\op=99\/lv≠8/\f0=j+1/\op=kd l j/\j < l.length) (hj0:j<=l.length) (hln:(lv=3\/lv=4)/\Ln l f0 f\/ ¬(lv=3\/lv=4)/\f=f0) (hr:RdM l M (bG q sd.2) f j2 u hb):
  Fp M lv l (n+1) (dR q) (j:Int) t h ns=Fp M lv l n (dR q) (j2:Int) ⟨12,op,[],[],[t,u]⟩ false ns:=by
 have e:=hr ns;obtain ⟨k,o,x,y,ks⟩:=t;rcases hc with ⟨rfl,rfl,rfl⟩|⟨rfl,rfl,rfl⟩|⟨rfl,rfl,rfl⟩|⟨rfl,rfl,rfl⟩|⟨rfl,rfl,rfl⟩|⟨rfl,rfl,rfl⟩|⟨rfl,rfl,rfl⟩
 .rcases hf with ⟨h8,_⟩|⟨_,rfl,rfl,hj⟩
  .exact absurd h8 aH
  rcases hln with ⟨_,hln⟩|⟨h3,_⟩
  .rw [alh] at hgo;have hk:kd l j=44:=eq_of_beq hgo;have e':(aJ M).vM (dR q) l (f:Int) false ns=some (fu u hb,(j2:Int),false,ns):=e;rw [alo,vU];simp only [bY,aB,bI,ak,hgo];rw [wrap64 ah ah,show (j:Int)+1=((j+1:Nat):Int) by omega,aeD l hl ns ah (show j+1<=l.length by omega) hln,ak];dsimp only;rw [e',hk];rfl
  .exact absurd (Or.inl rfl) h3
 .rcases hf with ⟨h8,_⟩|⟨_,rfl,rfl,hj⟩
  .exact absurd h8 aH
  rcases hln with ⟨_,hln⟩|⟨h3,_⟩
  .rw [ali] at hgo;have hk:kd l j=45:=eq_of_beq hgo;have e':(aJ M).vL (dR q) l (f:Int) false ns=some (fu u hb,(j2:Int),false,ns):=e;rw [alp,vT];simp only [bY,aB,bI,ak,hgo];rw [wrap64 ah ah,show (j:Int)+1=((j+1:Nat):Int) by omega,aeD l hl ns ah (show j+1<=l.length by omega) hln,ak];dsimp only;rw [e',hk];rfl
  .exact absurd (Or.inr rfl) h3
 .exact absurd rfl hv.1
 .exact absurd rfl hv.2
 .rcases hf with ⟨_,rfl,rfl⟩|⟨h8,_⟩
  .rcases hln with ⟨h3,_⟩|⟨_,rfl⟩
   .exact absurd h3 aH
   have hgo:lX (kd l f)=true:=hgo;have e':(aJ M).vK (dR q) l (f:Int) false ns=some (fu u hb,(j2:Int),false,ns):=e;rw [alq,vR];simp only [bY,aB,bI,ak,VU,hgo,e'];rfl
  .exact absurd rfl h8
 .rcases hf with ⟨h8,_⟩|⟨_,rfl,rfl,hj⟩
  .exact absurd h8 aH
  rcases hln with ⟨h3,_⟩|⟨_,rfl⟩
  .exact absurd h3 aH
  rw [aau q _ 9<|.inl rfl] at hgo;have e':(aJ M).vJ (dR q) l ((j+1:Nat):Int) false ns=some (fu u hb,(j2:Int),false,ns):=e;rw [alr,vQ];simp only [bY,aB,bI,ak,GX,hgo];rw [wrap64 ah ah,show (j:Int)+1=((j+1:Nat):Int) by omega,e'];rfl
 .rcases hf with ⟨h8,_⟩|⟨_,rfl,rfl,hj⟩
  .exact absurd h8 aH
  rcases hln with ⟨h3,_⟩|⟨_,rfl⟩
  .exact absurd h3 aH
  rw [aau q _ 10<|.inr rfl] at hgo;have e':(aJ M).om (dR q) l ((j+1:Nat):Int) false ns=some (fu u hb,(j2:Int),false,ns):=e;rw [als,vP];simp only [bY,aB,bI,ak,GX,hgo];rw [wrap64 ah ah,show (j:Int)+1=((j+1:Nat):Int) by omega,e'];rfl
def awK {l:List av} (hl:l.length<=3000) {q:aI} (hq:q.Level=6) {i j j2:Nat} {t u:aD} {h hb:Bool} (hr:Rd l (bG q 7) i j t h) (hgo:cont 6 q (kd l j)=true) (hij:i<=j) (hj:j < l.length) (hr2:Rd l (bG q 7) (j+1) j2 u hb):Rd l q i j2 ⟨12,kd l j,[],[],[t,u]⟩ false:=by
 intro M hM;obtain ⟨M,rfl⟩:∃ m,M=m+1:=⟨M - 1,ah⟩
 refine mP hq fun ns=>?_;have n6:(6:Int).toNat=6:=rfl;have n7:(7:Int).toNat=7:=rfl;have e:=hr M (by rw [hq] at hM;show _+4*(16 - (7:Int).toNat)<=M;omega) ns;have e2:=hr2 M (by rw [hq] at hM;show _+4*(16 - (7:Int).toNat)<=M;omega) ns;have e':(aJ M).uL (dR q) l (i:Int) false ns=some (fu t h,(j:Int),false,ns):=e;have e2':(aJ M).uL (dR q) l ((j+1:Nat):Int) false ns=some (fu u hb,(j2:Int),false,ns):=e2;rw [alj] at hgo;have hc:(bif (kd l j !=67) then some (kd l j !=46) else some false)=some false:=by
  cases h6:kd l j==67 with
  | true=>rw [bne,h6];rfl
  | false=>rw [h6,Aj] at hgo;rw [bne,bne,h6,hgo];rfl
 show GI M (aJ M) (dR q) l (i:Int) false ns=_;unfold GI;rw [e'];simp only [ak,aA,bI,hc];rw [wrap64 ah ah,show (j:Int)+1=((j+1:Nat):Int) by omega,e2'];rfl
def awL {l:List av} {q:aI} (hq:q.Level=6) {i j:Nat} {t:aD} {h:Bool} (hr:Rd l (bG q 7) i j t h) (hs:cont 6 q (kd l j)=false):Rd l q i j t h:=by
 intro M hM;obtain ⟨M,rfl⟩:∃ m,M=m+1:=⟨M - 1,ah⟩
 refine mP hq fun ns=>?_;have n6:(6:Int).toNat=6:=rfl;have n7:(7:Int).toNat=7:=rfl;have e:=hr M (by rw [hq] at hM;show _+4*(16 - (7:Int).toNat)<=M;omega) ns;have e':(aJ M).uL (dR q) l (i:Int) false ns=some (fu t h,(j:Int),false,ns):=e;rw [alj,Kk] at hs;have hc:(bif (kd l j !=67) then some (kd l j !=46) else some false)=some true:=by rw [bne,bne,hs.1,hs.2];rfl
 show GI M (aJ M) (dR q) l (i:Int) false ns=_;unfold GI;rw [e'];simp only [ak,aA,bI,hc,aB]
def alu (q:aI) (k:Int):(bif (bF k !=7) then some true else bif (dR q).bX then some (k==62) else some false)=some (!cont 7 q k):=by
 rw [awz];show (bif (bF k !=7) then some true else bif q.aW then some (k==62) else some false)=_;rw [bne,bne];cases (bF k==7)<;>cases q.aW<;>cases (k==62)<;>rfl
def awM {l:List av} (hl:l.length<=3000) {q:aI} (hq:q.Level=7) {i j j2:Nat} {t u:aD} {h hb:Bool} (hr:Rd l (bG q 8) i j t h) (hgo:cont 7 q (kd l j)=true) (hij:i<=j) (hj:j < l.length) (hr2:Rd l (bG q 8) (j+1) j2 u hb):Rd l q i j2 ⟨12,kd l j,[],[],[t,u]⟩ false:=by
 intro M hM;obtain ⟨M,rfl⟩:∃ m,M=m+1:=⟨M - 1,ah⟩
 refine mP hq fun ns=>?_;have n6:(8:Int).toNat=8:=rfl;have n7:(7:Int).toNat=7:=rfl;have e:=hr M (by rw [hq] at hM;show _+4*(16 - (8:Int).toNat)<=M;omega) ns;have e2:=hr2 M (by rw [hq] at hM;show _+4*(16 - (8:Int).toNat)<=M;omega) ns;have e':(aJ M).uK (dR q) l (i:Int) false ns=some (fu t h,(j:Int),false,ns):=e;have e2':(aJ M).uK (dR q) l ((j+1:Nat):Int) false ns=some (fu u hb,(j2:Int),false,ns):=e2;show GH M (aJ M) (dR q) l (i:Int) false ns=_;unfold GH;rw [e'];simp only [ak,aA,bI,GX,alu,hgo,fE];rw [wrap64 ah ah,show (j:Int)+1=((j+1:Nat):Int) by omega,e2'];rfl
def awN {l:List av} {q:aI} (hq:q.Level=7) {i j:Nat} {t:aD} {h:Bool} (hr:Rd l (bG q 8) i j t h) (hs:cont 7 q (kd l j)=false):Rd l q i j t h:=by
 intro M hM;obtain ⟨M,rfl⟩:∃ m,M=m+1:=⟨M - 1,ah⟩
 refine mP hq fun ns=>?_;have n6:(8:Int).toNat=8:=rfl;have n7:(7:Int).toNat=7:=rfl;have e:=hr M (by rw [hq] at hM;show _+4*(16 - (8:Int).toNat)<=M;omega) ns;have e':(aJ M).uK (dR q) l (i:Int) false ns=some (fu t h,(j:Int),false,ns):=e;show GH M (aJ M) (dR q) l (i:Int) false ns=_;unfold GH;rw [e'];simp only [ak,aA,bI,GX,alu,hs,bY,aB]
def aeE {l:List av} (hl:l.length<=3000) {lv most:Int} {sd:Int×Int} (hc:Dz lv most sd) {q:aI} {i j:Nat} {t:aD} {h:Bool} {c:Nat} (hch:Ch l lv most sd q i j t h c) (hcm:(c:Int) < most) {j2:Nat} {hb:Bool} {u:aD} (hz:aU t+aU u<=1000) (hgo:cont lv q (kd l j)=true)
  (f0 f:Nat) (op:Int) (hf:lv=8/\f0=j/\op=99\/lv≠8/\f0=j+1/\op=kd l j/\j < l.length) (hj0:j<=l.length) (hln:(lv=3\/lv=4)/\Ln l f0 f\/ ¬(lv=3\/lv=4)/\f=f0) (hij:i < f) (hfl:f<=l.length) (hr:Rd l (bG q sd.2) f j2 u hb):Ch l lv most sd q i j2 ⟨12,op,[],[],[t,u]⟩ false (c+1):=by
 have hb:=Wy hc;rcases hch with ⟨h6,h7,hch⟩|⟨hv,hch⟩
 .refine .inl ⟨h6,h7,fun M ns hM=>?_⟩;rw [hch M ns hM];obtain ⟨n,hn⟩:∃ n,M - c=n+1:=⟨M - c - 1,ah⟩
  rw [hn,awJ hc l hl M n ah q j j2 h _ ns t u hgo ⟨h6,h7⟩ f0 f op hf hj0 hln (hr M<|by show _+4*(16 - sd.2.toNat)<=M;omega),show M - (c+1)=n by omega]
 .refine .inr ⟨hv,.inr ?_⟩;rcases hf with ⟨h8,_⟩|⟨_,rfl,rfl,hj⟩
  .omega
  rcases hln with ⟨h3,_⟩|⟨_,rfl⟩
  .omega
  rcases hch with ⟨rfl,hr1⟩|⟨rfl,_⟩
  .refine ⟨rfl,?_⟩;rcases hc with ⟨rfl,_⟩|⟨rfl,_⟩|⟨rfl,_,rfl⟩|⟨rfl,_,rfl⟩|⟨rfl,_⟩|⟨rfl,_⟩|⟨rfl,_⟩
   .omega
   .omega
   .exact awK hl (q:=bG q 6) rfl hr1 hgo ah hj hr
   .exact awM hl (q:=bG q 7) rfl hr1 hgo ah hj hr
   .omega
   .omega
   .omega
  .exfalso;rcases hc with ⟨rfl,_⟩|⟨rfl,_⟩|⟨rfl,rfl,_⟩|⟨rfl,rfl,_⟩|⟨rfl,_⟩|⟨rfl,_⟩|⟨rfl,_⟩<;>omega
def awO {l:List av} {q:aI} {lv:Int} (hq:q.Level=lv) {i j:Nat} {t:aD} {h:Bool} (hr:Rd l (bG q lv) i j t h):Rd l q i j t h:=fun M hM ns=>by
 have e:=hr M (by rw [hq] at hM;exact hM) ns;rw [hq];exact e
def Ch.done {l:List av} {lv most:Int} {sd:Int×Int} (hc:Dz lv most sd) {q:aI} (hq:q.Level=lv) {i j:Nat} {t:aD} {h:Bool} {c:Nat} (hch:Ch l lv most sd q i j t h c) (hcm:(c:Int)<=most) (hs:cont lv q (kd l j)=false\/most=1/\ ¬(c:Int) < most):Rd l q i j t h:=by
 have hb:=Wy hc;rcases hch with ⟨h6,h7,hch⟩|⟨hv,hch⟩
 .intro M hM;rw [hq] at hM;obtain ⟨M,rfl⟩:∃ m,M=m+1:=⟨M - 1,ah⟩
  refine mP hq fun ns=>?_;rw [hch M ns hM];obtain ⟨n,hn⟩:∃ n,M - c=n+1:=⟨M - c - 1,ah⟩
  rw [hn];have hv:lv=3\/lv=4\/lv=8\/lv=9\/lv=10:=by rcases hc with ⟨rfl,_⟩|⟨rfl,_⟩|⟨rfl,_⟩|⟨rfl,_⟩|⟨rfl,_⟩|⟨rfl,_⟩|⟨rfl,_⟩<;>omega
  have hs:cont lv q (kd l j)=false:=by
   rcases hs with hs|hs
   .exact hs
   .exfalso;rcases hc with ⟨rfl,rfl,_⟩|⟨rfl,rfl,_⟩|⟨rfl,_⟩|⟨rfl,_⟩|⟨rfl,rfl,_⟩|⟨rfl,rfl,_⟩|⟨rfl,rfl,_⟩<;>omega
  exact awI l M n q j t h ns hv hs
 .rcases hch with ⟨rfl,hr⟩|⟨rfl,hr⟩
  .have hs:cont lv q (kd l j)=false:=by
    rcases hs with hs|hs
    .exact hs
    .exfalso;rcases hc with ⟨rfl,_⟩|⟨rfl,_⟩|⟨rfl,rfl,_⟩|⟨rfl,rfl,_⟩|⟨rfl,_⟩|⟨rfl,_⟩|⟨rfl,_⟩<;>omega
   rcases hv with rfl|rfl
   .exact awL hq hr hs
   .exact awN hq hr hs
  .exact awO hq hr
def iw {j n:Nat} (h:j<=n) (hn:n<=100000):IntKind.wrap .i64 ((j:Int)+1)=((j+1:Nat):Int):=by rw [wrap64 ah ah];omega
section
variable (l:List av) (hl:l.length<=3000) (q:aI)
include hl
theorem awP (hq:q.Level=1) {i j j2:Nat} {t u:aD} {h2:Bool} (hr:Rd l (bG q 2) i j t false) (hL:dL t.kind=true) (ha:oQ (kd l j)=true) (hij:i<=j) (hj:j < l.length) (hr2:Rd l (bG q 1) (j+1) j2 u h2) (hz:aU t+aU u<=1000):Rd l q i j2 ⟨15,kd l j,[],[],[t,u]⟩ false:=by
 intro M hM;obtain ⟨M,rfl⟩:∃ m,M=m+1:=⟨M - 1,ah⟩
 refine mP hq fun ns=>?_;have n1:(1:Int).toNat=1:=rfl;have n2:(2:Int).toNat=2:=rfl;have e:=hr M (by rw [hq] at hM;show _+4*(16 - (2:Int).toNat)<=M;omega) ns;have e2:=hr2 M (by rw [hq] at hM;show _+4*(16 - (1:Int).toNat)<=M;omega) ns;have e':(aJ M).oM (dR q) l (i:Int) false ns=some (⟨t,true⟩,(j:Int),false,ns):=by
  have e:_=some ((⟨t,!false&&dL t.kind⟩:bQ),(j:Int),false,ns):=e;rw [hL] at e;exact e
 have e2':(aJ M).ou (dR q) l ((j+1:Nat):Int) false ns=some (fu u h2,(j2:Int),false,ns):=e2;show Dh M (aJ M) (dR q) l (i:Int) false ns=_;unfold Dh;rw [e'];simp only [ak,aA,bI,adN,ha,fE,iw (nP hj) (show l.length<=100000 by omega),e2'];rfl
theorem awQ (hq:q.Level=2) {i j j2 j3:Nat} {t u v:aD} {h1 h2 h3:Bool} (hr:Rd l (bG q 3) i j t h1) (ha:kd l j=65) (hij:i<=j) (hj:j < l.length) (hr2:Rd l (bG q 2) (j+1) j2 u h2) (hb:kd l j2=66) (hj2:j < j2) (hj3:j2 < l.length) (hr3:Rd l (bG q 2) (j2+1) j3 v h3) (hz:aU t+aU u+aU v<=1000):Rd l q i j3 ⟨14,0,[],[],[t,u,v]⟩ false:=by
 intro M hM;obtain ⟨M,rfl⟩:∃ m,M=m+1:=⟨M - 1,ah⟩
 refine mP hq fun ns=>?_;have n2:(2:Int).toNat=2:=rfl;have n3:(3:Int).toNat=3:=rfl;have e:=hr M (by rw [hq] at hM;show _+4*(16 - (3:Int).toNat)<=M;omega) ns;have e2:=hr2 M (by rw [hq] at hM;show _+4*(16 - (2:Int).toNat)<=M;omega) ns;have e3:=hr3 M (by rw [hq] at hM;show _+4*(16 - (2:Int).toNat)<=M;omega) ns;have e':(aJ M).xR (dR q) l (i:Int) false ns=some (fu t h1,(j:Int),false,ns):=e;have e2':(aJ M).oM (dR q) l ((j+1:Nat):Int) false ns=some (fu u h2,(j2:Int),false,ns):=e2;have e3':(aJ M).oM (dR q) l ((j2+1:Nat):Int) false ns=some (fu v h3,(j3:Int),false,ns):=e3;have c65:(kd l j !=65)=false:=by rw [ha];rfl
 show Df M (aJ M) (dR q) l (i:Int) false ns=_;unfold Df;rw [e'];simp only [ak,aA,bI,c65,iw (nP hj) (show l.length<=100000 by omega),e2',ES ns (show j2<=100000 by omega) hb,e3'];rfl
theorem awS {k:Int} (hk:(k==56||(k==55||k==61))=true):(bif (k !=55) then bif (k !=56) then some (k !=61) else some false else some false)=some false:=by
 rw [bne,bne,bne];revert hk;cases (k==55)<;>cases (k==56)<;>cases (k==61)<;>simp
theorem awT (hq:q.Level=11) {i j:Nat} {t:aD} {h1:Bool} (hk:(kd l i==56||(kd l i==55||kd l i==61))=true) (hi:i < l.length) (hr:Rd l (bG q 11) (i+1) j t h1) (hz:aU t<=1000):Rd l q i j ⟨11,kd l i,[],[],[t]⟩ false:=by
 intro M hM;obtain ⟨M,rfl⟩:∃ m,M=m+1:=⟨M - 1,ah⟩
 refine mP hq fun ns=>?_;have n1:(11:Int).toNat=11:=rfl;have e:=hr M (by rw [hq] at hM;show _+4*(16 - (11:Int).toNat)<=M;omega) ns;have e':(aJ M).om (dR q) l ((i+1:Nat):Int) false ns=some (fu t h1,(j:Int),false,ns):=e;show Ag M (aJ M) (dR q) l (i:Int) false ns=_;unfold Ag;rw [bI];simp only [ak,aA,awS l hl hk,iw (nP hi) (show l.length<=100000 by omega),e'];rfl
theorem alv (hq:q.Level=12) {i j j2:Nat} {t u:aD} {h1 h2:Bool} (hr:Rd l (bG q 13) i j t h1) (ha:kd l j=60) (hij:i<=j) (hj:j < l.length) (hr2:Rd l (bG q 11) (j+1) j2 u h2) (hz:aU t+aU u<=1000):Rd l q i j2 ⟨12,60,[],[],[t,u]⟩ false:=by
 intro M hM;obtain ⟨M,rfl⟩:∃ m,M=m+1:=⟨M - 1,ah⟩
 refine mP hq fun ns=>?_;have n1:(11:Int).toNat=11:=rfl;have n2:(12:Int).toNat=12:=rfl;have n3:(13:Int).toNat=13:=rfl;have e:=hr M (by rw [hq] at hM;show _+4*(16 - (13:Int).toNat)<=M;omega) ns;have e2:=hr2 M (by rw [hq] at hM;show _+4*(16 - (11:Int).toNat)<=M;omega) ns;have e':(aJ M).xM l (i:Int) false ns=some (fu t h1,(j:Int),false,ns):=e;have e2':(aJ M).om (dR q) l ((j+1:Nat):Int) false ns=some (fu u h2,(j2:Int),false,ns):=e2;have c60:(kd l j !=60)=false:=by rw [ha];rfl
 show CY M (aJ M) (dR q) l (i:Int) false ns=_;unfold CY;rw [e'];simp only [ak,aA,bI,c60,iw (nP hj) (show l.length<=100000 by omega),e2'];rfl
theorem awV (hq:q.Level=11) {i j j2:Nat} {t u:aD} {h1 h2:Bool} (hk:(kd l i==56||(kd l i==55||kd l i==61))=false) (hr:Rd l (bG q 13) i j t h1) (ha:kd l j=60) (hij:i<=j) (hj:j < l.length) (hr2:Rd l (bG q 11) (j+1) j2 u h2) (hz:aU t+aU u<=1000):Rd l q i j2 ⟨12,60,[],[],[t,u]⟩ false:=by
 intro M hM;obtain ⟨M,rfl⟩:∃ m,M=m+1:=⟨M - 1,ah⟩
 refine mP hq fun ns=>?_;have n1:(11:Int).toNat=11:=rfl;have n2:(12:Int).toNat=12:=rfl;have e:=alv l hl (bG q 12) rfl hr ha hij hj hr2 hz M (by rw [hq] at hM;show _+4*(16 - (12:Int).toNat)<=M;omega) ns;have e':(aJ M).xO (dR q) l (i:Int) false ns=some (fu ⟨12,60,[],[],[t,u]⟩ false,(j2:Int),false,ns):=e;show Ag M (aJ M) (dR q) l (i:Int) false ns=_;unfold Ag;rw [bI];simp only [ak,aA,alm hk,aB,e']
theorem awW (hq:q.Level=15) {i j:Nat} {t:aD} {h1:Bool} (ha:kd l i=32) (hi:i < l.length) (hr:Rd l oV (i+1) j t h1) (hb:kd l j=33) (hj:j < l.length):Rd l q i (j+1) t true:=by
 intro M hM;obtain ⟨M,rfl⟩:∃ m,M=m+1:=⟨M - 1,ah⟩
 refine mP hq fun ns=>?_;have n1:(1:Int).toNat=1:=rfl;have e:=hr M (by rw [hq] at hM;show _+4*(16 - (1:Int).toNat)<=M;omega) ns;have e':(aJ M).ou ⟨false,false⟩ l ((i+1:Nat):Int) false ns=some (fu t h1,(j:Int),false,ns):=e;show oN M (aJ M) l (i:Int) false ns=_;unfold oN;rw [aA,bI,ak,ha];show Option.bind ((aJ M).ou ⟨false,false⟩ l (IntKind.wrap .i64<|(i:Int)+1) false ns) _=_;rw [iw (nP hi) (show l.length<=100000 by omega),e',ak];dsimp only;rw [ES ns (show j<=100000 by omega) hb];rfl
theorem awX {M:Nat} {i j:Nat} {t:aD} {h1:Bool} {ns:List (List UInt8)} (h6:kd l i=6) (e:(aJ<|M+2).lV l (i:Int) false ns=some (fu t h1,(j:Int),false,ns)):(aJ M).vI l (i:Int) false ns=some (fu t h1,(j:Int),false,ns):=by
 have ef:rP (M+1) (aJ<|M+1) l (i:Int) false ns=some (fu t h1,(j:Int),false,ns):=e;unfold rP at ef;have Wz:(kd l i !=68)=true:=by rw [h6];rfl
 rw [bI] at ef;simp only [ak,aA,Wz,aB] at ef;rw [mK] at ef;have ep:oN M (aJ M) l (i:Int) false ns=some (fu t h1,(j:Int),false,ns):=ef;unfold oN at ep;rw [aA,bI,ak,h6] at ep;have ep:Option.bind ((aJ M).vI l (i:Int) false ns) (fun xC=>some (xC.1,xC.2.1,xC.2.2.1,xC.2.2.2))=some (fu t h1,(j:Int),false,ns):=ep;rw [mK] at ep;exact ep
theorem adF {M i j:Nat} {t:aD} {h1:Bool} (ns:List (List UInt8)) (hi:i < l.length) (hk:(kd l (i+1)==6||kd l (i+1)==68)=true) (hr:Rd l (bG q 14) (i+1) j t h1) (hM:1100000+100*(l.length - (i+1))+10<=M):Gy (M+1) (aJ<|M+1) l (i:Int) false ns=some ((⟨⟨9,kd l i,[],[],[t]⟩,false⟩:bQ),(j:Int),false,ns):=by
 have n2:(14:Int).toNat=14:=rfl;have el:(aJ<|M+1).BM l ((i+1:Nat):Int) false ns=some (fu t h1,(j:Int),false,ns):=by
  show Ae M (aJ M) l ((i+1:Nat):Int) false ns=_;unfold Ae;rw [aA,bI,ak];cases h68:kd l (i+1)==68 with
  | true=>
   have e:=hr M (by show _+4*(16 - (14:Int).toNat)<=M;omega) ns;have e':(aJ M).lV l ((i+1:Nat):Int) false ns=some (fu t h1,(j:Int),false,ns):=e;rw [aB,e'];rfl
  | false=>
   rw [h68,Bool.or_false] at hk;have e:=hr (M+2) (by show _+4*(16 - (14:Int).toNat)<=M+2;omega) ns;have e':(aJ<|M+2).lV l ((i+1:Nat):Int) false ns=some (fu t h1,(j:Int),false,ns):=e;rw [aA,ak,hk,aB,awX l hl (eq_of_beq hk) e'];rfl
 unfold Gy;rw [bI,ak,iw (nP hi) (show l.length<=100000 by omega),el];rfl
theorem awY (hq:q.Level=13) {i j:Nat} {t:aD} {h1:Bool} (hs:(kd l i==51||kd l i==52)=true) (hi:i < l.length) (hk:(kd l (i+1)==6||kd l (i+1)==68)=true) (hr:Rd l (bG q 14) (i+1) j t h1) (hz:aU t<=1000):Rd l q i j ⟨9,kd l i,[],[],[t]⟩ false:=by
 intro M hM;obtain ⟨M,rfl⟩:∃ m,M=m+3:=⟨M - 3,ah⟩
 refine mP hq fun ns=>?_;have n1:(13:Int).toNat=13:=rfl;have e:=adF l hl q (M:=M) ns hi hk hr (by rw [hq,n1] at hM;omega);have e:(aJ<|M+2).tQ l (i:Int) false ns=_:=e;show Af (M+2) (aJ<|M+2) l (i:Int) false ns=_;unfold Af;rw [bI];simp only [ak,bY,aB,Dr,hs,e];rfl
theorem awZ (hq:q.Level=13) {i j:Nat} {t:aD} (hr:Rd l (bG q 14) i j t false) (hL:dL t.kind=true) (hk:(kd l i==51||kd l i==52)=false) (hs:(kd l j==51||kd l j==52)=true) (hij:i<=j) (hj:j < l.length) (hz:aU t<=1000):Rd l q i (j+1) ⟨10,kd l j,[],[],[t]⟩ false:=by
 intro M hM;obtain ⟨M,rfl⟩:∃ m,M=m+1:=⟨M - 1,ah⟩
 refine mP hq fun ns=>?_;have n1:(13:Int).toNat=13:=rfl;have n2:(14:Int).toNat=14:=rfl;have e:=hr M (by rw [hq] at hM;show _+4*(16 - (14:Int).toNat)<=M;omega) ns;have e':(aJ M).lV l (i:Int) false ns=some (⟨t,true⟩,(j:Int),false,ns):=by
  have e:_=some ((⟨t,!false&&dL t.kind⟩:bQ),(j:Int),false,ns):=e;rw [hL] at e;exact e
 show Af M (aJ M) l (i:Int) false ns=_;unfold Af;rw [bI];simp only [ak,bY,aB,Dr,hk,aA,e',fE,bI,hs,iw (nP hj)<|show l.length<=100000 by omega];rfl
theorem axa (hq:q.Level=14) {i j:Nat} {t:aD} {h1:Bool} (ha:kd l i=68) (hi:i < l.length) (hk:(kd l (i+1)==51||kd l (i+1)==52)=false) (hr:Rd l (bG q 14) (i+1) j t h1) (hz:aU t<=1000):Rd l q i j ⟨6,0,[],[],[t]⟩ false:=by
 intro M hM;obtain ⟨M,rfl⟩:∃ m,M=m+1:=⟨M - 1,ah⟩
 refine mP hq fun ns=>?_;have n2:(14:Int).toNat=14:=rfl;have e:=hr M (by rw [hq] at hM;show _+4*(16 - (14:Int).toNat)<=M;omega) ns;have e':(aJ M).lV l ((i+1:Nat):Int) false ns=some (fu t h1,(j:Int),false,ns):=e;have Wz:(kd l i !=68)=false:=by rw [ha];rfl
 show rP M (aJ M) l (i:Int) false ns=_;unfold rP;rw [bI];simp only [ak,aA,Wz,iw (nP hi) (show l.length<=100000 by omega),bI,Dr,hk,e'];cases t;rfl
theorem axb (hq:q.Level=14) {i j:Nat} {t:aD} {h1:Bool} (ha:kd l i=68) (hi:i+1 < l.length) (hs:(kd l (i+1)==51||kd l (i+1)==52)=true) (hk:(kd l (i+1+1)==6||kd l (i+1+1)==68)=true) (hr:Rd l (bG q 14) (i+1+1) j t h1) (hz:aU t<=900):Rd l q i j ⟨6,0,[],[],[⟨9,kd l<|i+1,[],[],[t]⟩]⟩ false:=by
 intro M hM;obtain ⟨M,rfl⟩:∃ m,M=m+3:=⟨M - 3,ah⟩
 refine mP hq fun ns=>?_;have n2:(14:Int).toNat=14:=rfl;have e:=adF l hl q (M:=M) (i:=i+1) ns hi hk hr (by rw [hq,n2] at hM;omega);have e:(aJ<|M+2).tQ l ((i+1:Nat):Int) false ns=_:=e;have Wz:(kd l i !=68)=false:=by rw [ha];rfl
 show rP (M+2) (aJ<|M+2) l (i:Int) false ns=_;unfold rP;rw [bI];simp only [ak,aA,Wz,iw (show i<=l.length by omega) (show l.length<=100000 by omega),bI,Dr,hs,aB,e];rfl
theorem axc (hq:q.Level=15) {i:Nat} (k:Int) (hk:k=3\/k=4\/k=5) (ha:kd l i=k) (hi:i < l.length):Rd l q i (i+1) ⟨k - 1,0,l[i].Text,[],[]⟩ false:=by
 intro M hM;obtain ⟨M,rfl⟩:∃ m,M=m+1:=⟨M - 1,ah⟩
 refine mP hq fun ns=>?_;show oN M (aJ M) l (i:Int) false ns=_;unfold oN;rw [aA,bI,ak,ha,Dy false ns hi ah];rcases hk with rfl|rfl|rfl<;>rfl
theorem axd (hq:q.Level=15) {i:Nat} (ha:kd l i=6) (hi:i < l.length) (hn:kd l (i+1)≠34):Rd l q i (i+1) ⟨1,0,l[i].Text,[],[]⟩ false:=by
 intro M hM;obtain ⟨M,rfl⟩:∃ m,M=m+2:=⟨M - 2,ah⟩
 refine mP hq fun ns=>?_;have c34:(kd l (i+1)==34)=false:=by simpa using hn
 have e:(aJ<|M+1).vI l (i:Int) false ns=some (fu ⟨1,0,l[i].Text,[],[]⟩ false,((i+1:Nat):Int),false,ns):=by
  show CW M (aJ M) l (i:Int) false ns=_;unfold CW;rw [Dy false ns hi ah,ak];dsimp only;rw [bI,ak,c34];rfl
 show oN (M+1) (aJ<|M+1) l (i:Int) false ns=_;unfold oN;rw [aA,bI,ak,ha];show Option.bind ((aJ<|M+1).vI l (i:Int) false ns) _=_;rw [e];rfl
end
def KE (l:List av) (en:Int):Nat->Nat->List aD->Prop
 | _,_,[]=>False
 | i,j,[t]=>∃ (h:Bool) (k:Nat),Rd l oV i k t h/\i < k/\k < l.length/\kd l k=en/\j=k+1
 | i,j,t::u::ts=>∃ (h:Bool) (k f:Nat),Rd l oV i k t h/\i < k/\k < l.length/\kd l k=36/\Ln l (k+1) f/\KE l en f j (u::ts)
section
variable (l:List av) (hl:l.length<=3000)
include hl
theorem alx (en:Int) (hen:en≠36) (M:Nat) (ns:List (List UInt8)):∀ (ts:List aD) (i j n:Nat) (parts:List aD),KE l en i j ts->parts.length+ts.length<=6->ts.length<=n->1100000+100*(l.length - i)+60<=M->∃ k:Nat,j=k+1/\k < l.length/\kd l k=en/\BO M (aJ M) l n (⟨false,false⟩,(i:Int),false,parts,ns)=some (parts++ts,(k:Int),false,ns)
 | [],i,j,n,parts,h,_,_,_=>by cases h
 | [t],i,j,n,parts,h,hp,hn,hM=>by
  obtain ⟨hh,k,hr,hik,hk,he,rfl⟩:=h;obtain ⟨n,rfl⟩:∃ m,n=m+1:=⟨n - 1,by simp at hn;omega⟩
  have e:=hr M (by show _+4*(16 - (1:Int).toNat)<=M;have:(1:Int).toNat=1:=rfl;omega) ns;have e':(aJ M).ou ⟨false,false⟩ l (i:Int) false ns=some (fu t hh,(k:Int),false,ns):=e;have c36:(kd l k !=36)=true:=by rw [he];simpa using hen
  simp only [aav] at hp;refine ⟨k,rfl,hk,he,?_⟩;rw [BO];simp only [bY,aB,e',ak];rw [mH bZ,ak,aA,bI,ak,ak,c36,aB];rfl
 | t::u::ts,i,j,n,parts,h,hp,hn,hM=>by
  obtain ⟨hh,k,f,hr,hik,hk,he,g1,hrest⟩:=h;have gl:=g1.1;simp only [nu] at hp hn;obtain ⟨n,rfl⟩:∃ m,n=m+1:=⟨n - 1,ah⟩
  have e:=hr M (by show _+4*(16 - (1:Int).toNat)<=M;have:(1:Int).toNat=1:=rfl;omega) ns;have e':(aJ M).ou ⟨false,false⟩ l (i:Int) false ns=some (fu t hh,(k:Int),false,ns):=e;have c36:(kd l k !=36)=false:=by rw [he];rfl
  obtain ⟨k2,k2a,k2b,k2c,ih⟩:=alx en hen M ns (u::ts) f j n (parts++[t]) hrest bZ bZ ah;have c6:((((parts++[t]).length:Nat):Int)==6)=false:=by
   simp;omega
  refine ⟨k2,k2a,k2b,k2c,?_⟩;rw [BO];simp only [bY,aB,e',ak];rw [mH bZ,ak,aA,bI,ak,ak,c36,aA];have c6':((((parts++[(fu t hh).tree]).length:Nat):Int)==6)=false:=c6;rw [c6',aA,iw (nP hk) (show l.length<=100000 by omega),aeD l hl ns ah (show k+1<=l.length by omega) g1,ak];refine Kj ih ?_;simp
theorem aeG (en:Int) (hen:en=33\/en=35) (M:Nat) (ns:List (List UInt8)) (ts:List aD) (i j:Nat) (h:KE l en i j ts) (ht:ts.length<=6) (hne:kd l i≠en\/en=35) (hM:1100000+100*(l.length - i)+60<=M):Db (M+1) (aJ<|M+1) en l (i:Int) false ns=some (ts,(j:Int),false,ns):=by
 obtain ⟨k,rfl,hk,he,e⟩:=alx l hl en ah M ns ts i j M [] h (by simpa using ht) ah hM;have e':(aJ<|M+1).EF ⟨false,false⟩ l (i:Int) false ns=some (ts,(k:Int),false,ns):=e;have hc:(bif (kd l i==en) then some (en==33) else some false)=some false:=by
  rcases hne with h|h
  .have:(kd l i==en)=false:=by simpa using h
   rw [this];rfl
  .subst h;cases (kd l i==35)<;>rfl
 unfold Db;rw [bI,ak,hc,ak,aA,e',ak];dsimp only;rw [ES ns (show k<=100000 by omega) he];rfl
theorem axi (q:aI) (hq:q.Level=15) {i j:Nat} (ts:List aD) (ha:kd l i=6) (hb:kd l (i+1)=34) (hi:i+1 < l.length) (h:KE l 35 (i+2) j ts) (ht:ts.length<=6) (hz:bq ts<=1000):Rd l q i j ⟨5,0,(l[i]' ah).Text,[],ts⟩ false:=by
 intro M hM;obtain ⟨M,rfl⟩:∃ m,M=m+4:=⟨M - 4,ah⟩
 refine mP hq fun ns=>?_;have n15:(15:Int).toNat=15:=rfl;rw [hq,n15] at hM;have e0:=aeG l hl 35 (.inr rfl) M ns ts (i+2) j h ht (.inr rfl) ah;have WA:(aJ<|M+2).xQ 35 l ((i+2:Nat):Int) false ns=_:=e0;have c34:(kd l (i+1)==34)=true:=by rw [hb];rfl
 have e:(aJ<|M+3).vI l (i:Int) false ns=some (fu ⟨5,0,(l[i]' ah).Text,[],ts⟩ false,(j:Int),false,ns):=by
  show CW (M+2) (aJ<|M+2) l (i:Int) false ns=_;unfold CW;rw [Dy false ns ah ah,ak];dsimp only;rw [bI,ak,c34,aB,iw (show i+1<=l.length by omega) (show l.length<=100000 by omega),WA];rfl
 show oN (M+3) (aJ<|M+3) l (i:Int) false ns=_;unfold oN;rw [aA,bI,ak,ha];show Option.bind ((aJ<|M+3).vI l (i:Int) false ns) _=_;rw [e];rfl
theorem aly (q:aI) (hq:q.Level=15) {i j:Nat} (k:Int) (hk:k=7\/k=8) (ts:List aD) (ha:kd l i=k) (hb:kd l (i+1)=32) (hi:i+2 < l.length) (h:ts=[]/\kd l (i+2)=33/\j=i+3\/kd l (i+2)≠33/\KE l 33 (i+2) j ts) (ht:ts.length<=6) (hz:bq ts<=1000):Rd l q i j ⟨k,0,(l[i]' ah).Text,[],ts⟩ false:=by
 intro M hM;obtain ⟨M,rfl⟩:∃ m,M=m+3:=⟨M - 3,ah⟩
 refine mP hq fun ns=>?_;have n15:(15:Int).toNat=15:=rfl;rw [hq,n15] at hM;have e0:Db (M+1) (aJ<|M+1) 33 l ((i+2:Nat):Int) false ns=some (ts,(j:Int),false,ns):=by
  rcases h with ⟨rfl,h2,rfl⟩|⟨h2,h3⟩
  .unfold Db;rw [bI,ak,h2,iw (show i+2<=l.length by omega)<|show l.length<=100000 by omega];rfl
  .exact aeG l hl 33 (.inl rfl) M ns ts (i+2) j h3 ht (.inl h2) ah
 have WA:(aJ<|M+2).xQ 33 l ((i+2:Nat):Int) false ns=_:=e0;have hk2:∀ v:Int,EG (M+2) (aJ<|M+2) l (((l[i]' ah).Text,((i+1:Nat):Int)),false,ns,v)=some ((⟨⟨v,0,(l[i]' ah).Text,[],ts⟩,false⟩:bQ),(j:Int),false,ns):=fun v=>by
  unfold EG;dsimp only;rw [ES ns (show i+1<=100000 by omega) hb,ak];dsimp only;rw [aB,WA];rfl
 show oN (M+2) (aJ<|M+2) l (i:Int) false ns=_;unfold oN;rw [aA,bI,ak,ha];have c32:(kd l (i+1) !=32)=false:=by rw [hb];rfl
 rcases hk with rfl|rfl
 .show Ac (M+2) (aJ<|M+2) l (7,(i:Int),false,ns,true)=_;unfold Ac;dsimp only;rw [aB,Dy false ns ah ah,ak];exact hk2 7
 .show Ac (M+2) (aJ<|M+2) l (8,(i:Int),false,ns,true)=_;unfold Ac;dsimp only;rw [aB,Dy false ns ah ah,ak];dsimp only;have hno:(bif ((l[i]' ah).Text==[108,101,110,103,116,104]) then (dS l ((i+1:Nat):Int) false ns).bind fun zl=>some (zl !=32) else some false)=some false:=by
   rw [bI,ak,c32];cases ((l[i]' ah).Text==[108,101,110,103,116,104])<;>rfl
  rw [hno];exact hk2 8
theorem axj (q:aI) (hq:q.Level=15) {i:Nat} (ha:kd l i=8) (hi:i < l.length) (hb:kd l (i+1)≠32) (hx:l[i].Text=[108,101,110,103,116,104]):Rd l q i (i+1) ⟨8,0,l[i].Text,[],[]⟩ false:=by
 intro M hM;obtain ⟨M,rfl⟩:∃ m,M=m+1:=⟨M - 1,ah⟩
 refine mP hq fun ns=>?_;have c32:(kd l (i+1) !=32)=true:=by simpa using hb
 show oN M (aJ M) l (i:Int) false ns=_;unfold oN;rw [aA,bI,ak,ha];show Ac M (aJ M) l (8,(i:Int),false,ns,true)=_;unfold Ac;dsimp only;rw [aB,Dy false ns hi ah,ak];dsimp only;have hno:(bif (l[i].Text==[108,101,110,103,116,104]) then (dS l ((i+1:Nat):Int) false ns).bind fun zl=>some (zl !=32) else some false)=some true:=by
  rw [bI,ak,c32,hx];rfl
 rw [hno];rfl
end
def Sg (l:List av) (i:Nat) (x:List av):Prop:=∃ r,l.drop i=x++r
def Sg.left {l:List av} {i:Nat} {x y:List av} (h:Sg l i (x++y)):Sg l i x:=by
 obtain ⟨r,hr⟩:=h;exact ⟨y++r,by rw [hr,lW]⟩
def Sg.right {l:List av} {i:Nat} {x y:List av} (h:Sg l i (x++y)):Sg l (i+x.length) y:=by
 obtain ⟨r,hr⟩:=h;exact ⟨r,by rw [<- Wx,hr,lW,List.drop_left' rfl]⟩
def Sg.tl {l:List av} {i:Nat} {t:av} {y:List av} (h:Sg l i (t::y)):Sg l (i+1) y:=Sg.right (x:=[t]) h
def Sg.hd {l:List av} {i:Nat} {t:av} {y:List av} (h:Sg l i (t::y)):∃ hi:i < l.length,l[i]=t:=by
 obtain ⟨r,hr⟩:=h;have hi:i < l.length:=by
  have:=congrArg List.length hr;simp at this;omega
 refine ⟨hi,?_⟩;rw [xX hi] at hr;exact (List.cons.inj hr).1
def aHq {l:List av} {i:Nat} {t:av} {y:List av} (h:Sg l i (t::y)):kd l i=t.Kind:=by
 obtain ⟨hi,e⟩:=h.hd;rw [iQ hi,e]
def Sg.len {l:List av} {i:Nat} {x:List av} (h:Sg l i x) (hi:i<=l.length):i+x.length<=l.length:=by
 obtain ⟨r,hr⟩:=h;have:=congrArg List.length hr;simp at this;omega
def Sg.all (l:List av):Sg l 0 l:=⟨[],aF⟩
def jw (q:aI) (k:Int):Prop:=k≠34/\∀ lv:Int,q.Level<=lv->cont lv q k=false
def jw.up {q q':aI} {k:Int} (h:jw q k) (hl:q.Level<=q'.Level) (h1:q'.aV=q.aV) (h2:q'.aW=q.aW):jw q' k:=
 ⟨h.1,fun lv hv=>by
  have:=h.2 lv ah;unfold cont at this ⊢;rw [h1,h2];exact this⟩
def ajm (q:aI):jw q 0:=⟨aH,fun lv _=>by
 unfold cont;by_cases h1:lv=1
 .subst h1;rfl
 have e1:(lv==1)=false:=by simpa using h1
 by_cases h2:lv=2
 .subst h2;rfl
 have e2:(lv==2)=false:=by simpa using h2
 rw [e1,e2];cases (lv==5)<;>cases (lv==8)<;>cases (lv==12)<;>cases (lv==13)<;>cases (lv==11)<;>cases (lv==14)<;>cases (lv==15)<;>rfl⟩
def qd (l:List av) (i:Nat) (c:Bool):Prop:=∀ (M:Nat) (ns:List (List UInt8)),5000<=M->(bif (kd l i==32) then (Ab M l (i:Int) false ns).bind fun kV=>some kV else some false)=some c
def InS (l:List av) (q:aI) (i j:Nat) (t:aD) (c:Nat):Prop:=∃ (nm:List UInt8) (ks:List aD),t=⟨13,0,nm,[],ks⟩/\∀ (M:Nat) (ns:List (List UInt8)),1100000+100*(l.length - i)+44<=M+1->
 ∃ n,M - c<=n/\((∃ r:bQ×Int×Bool×List (List UInt8),r.2.2.2=ns/\pF (aJ<|M+1) 5 (dR q) l (i:Int) false ns=tT M (aJ M) l n (dR q,r,(j:Int),false,nm,ks))\/
  ∃ r:List aD×Int×Bool×List (List UInt8),r.2.2.2=ns/\pF (aJ<|M+1) 5 (dR q) l (i:Int) false ns=rQ M (aJ M) l n (dR q,r,(j:Int),false,nm,ks))
def Au (l:List av) (q:aI) (i j:Nat) (t:aD) (h:Bool) (c:Nat):Prop:=(Rd l (bG q 6) i j t h/\(q.aV=false->qd l i false))\/(h=false/\InS l q i j t c)
def alz (l:List av) (q:aI) {i j:Nat} {t:aD} {h:Bool} (hcm:q.aV=false->qd l i false) (hr:Rd l (bG q 6) i j t h):Au l q i j t h 0:=.inl ⟨hr,hcm⟩
def aeH {l:List av} {q:aI} {i M:Nat} {ns:List (List UInt8)} {c:Bool} (hM:5000<=M) (hcm:q.aV=false->qd l i c) (hn:q.aV=true->c=false):(bif (!false) then (dS l (i:Int) false ns).bind fun iq=>bif (iq==32) then bif (!(dR q).bS) then (Ab M l (i:Int) false ns).bind fun kV=>some kV else some false else some false else some false)=some c:=by
 rw [bY,aB,bI,ak];show (bif (kd l i==32) then bif (!q.aV) then (Ab M l (i:Int) false ns).bind fun kV=>some kV else some false else some false)=_;cases hq:q.aV with
 | true=>rw [hn hq];cases (kd l i==32)<;>rfl
 | false=>exact hcm hq M ns hM
def Oa {l:List av} {q:aI} {j:Nat} (ns:List (List UInt8)):(bif (!false) then (dS l (j:Int) false ns).bind fun rR=>bif (rR==24) then some (!(dR q).bS) else some false else some false)=some (cont 5 q<|kd l j):=by
 rw [bY,aB,bI,ak];show _=some (kd l j==24&&!q.aV);cases (kd l j==24)<;>rfl
section
variable (l:List av) (hl:l.length<=3000)
include hl
theorem axl (q:aI) (hn:q.aV=false) {i k:Nat} (ts:List aD) (hcm:qd l i true) (ha:kd l i=32) (hi:i < l.length) (h:KE l 33 (i+1) k ts) (ht:ts.length<=6) (hne:kd l (i+1)≠33) (hk:i < k) (hk2:k+1 < l.length) (hin:kd l k=24) (hnm:kd l (k+1)=6) (hz:bq ts<=1000):Au l q i (k+2) ⟨13,0,(l[k+1]'hk2).Text,[],ts⟩ false 0:=by
 refine .inr ⟨rfl,_,ts,rfl,fun M ns hM=>?_⟩;obtain ⟨M,rfl⟩:∃ m,M=m+2:=⟨M - 2,ah⟩
 have e0:=aeG l hl 33 (.inl rfl) M ns ts (i+1) k h ht (.inl hne) ah;have WA:(aJ<|M+2).xQ 33 l ((i+1:Nat):Int) false ns=_:=e0;have hg:cont 5 q (kd l k)=true:=by show (kd l k==24&&!q.aV)=true;rw [hin,hn];rfl
 have c24:(kd l k !=24)=false:=by rw [hin];rfl
 have hnn:Zc ts=some false:=by
  cases ts with
  | nil=>exact h.elim
  | cons _ _=>rfl
 refine ⟨M+2,ah,.inr ⟨(ts,(k:Int),false,ns),rfl,?_⟩⟩;show Ai (M+2) (aJ<|M+2) (dR q) l (i:Int) false ns=_;unfold Ai;rw [aeH ah (fun _=>hcm) (fun e=>by rw [hn] at e;cases e),ak,aB,iw (nP hi) (show l.length<=100000 by omega),WA,ak];dsimp only;have dN:(bif (!false) then (dS l (k:Int) false ns).bind fun jL=>some (jL !=24) else some false)=some false:=by rw [bY,aB,bI,ak,c24]
 rw [dN,ak,aA,Oa,ak,hg,aB,hnn,ak,iw (show k<=l.length by omega) (show l.length<=100000 by omega),RN ns hk2 ah hnm,ak]
theorem axn (q:aI) (hn:q.aV=false) {i j:Nat} {t:aD} {h:Bool} {c:Nat} (hch:Au l q i j t h c) (hc:c<=3000) (hj:j+1 < l.length) (hin:kd l j=24) (hnm:kd l (j+1)=6) (hz:aU t<=1000):Au l q i (j+2) ⟨13,0,(l[j+1]'hj).Text,[],[t]⟩ false (c+1):=by
 refine .inr ⟨rfl,_,[t],rfl,fun M ns hM=>?_⟩;have hg:cont 5 q (kd l j)=true:=by show (kd l j==24&&!q.aV)=true;rw [hin,hn];rfl
 have n6:(6:Int).toNat=6:=rfl;rcases hch with ⟨hr,hcm⟩|⟨_,nm,ks,rfl,hs⟩
 .have e:=hr M (by show _+4*(16 - (6:Int).toNat)<=M;omega) ns;have e':(aJ M).xP (dR q) l (i:Int) false ns=some (fu t h,(j:Int),false,ns):=e;refine ⟨M,ah,.inl ⟨(fu t h,(j:Int),false,ns),rfl,?_⟩⟩;show Ai M (aJ M) (dR q) l (i:Int) false ns=_;unfold Ai;rw [aeH ah hcm fun _=>rfl,ak,aA,e',ak];dsimp only;rw [Oa,ak,hg,aB,iw (show j<=l.length by omega) (show l.length<=100000 by omega),RN ns hj ah hnm,ak];rfl
 .obtain ⟨n,hn1,hs⟩:=hs M ns hM;obtain ⟨n,rfl⟩:∃ k,n=k+1:=⟨n - 1,ah⟩
  refine ⟨n,ah,?_⟩;rcases hs with ⟨r,hr,hs⟩|⟨r,hr,hs⟩
  .refine .inl ⟨r,hr,hs.trans ?_⟩;rw [tT,hr,Oa,ak,hg,aB,iw (show j<=l.length by omega) (show l.length<=100000 by omega),RN ns hj ah hnm,ak]
  .refine .inr ⟨r,hr,hs.trans ?_⟩;rw [rQ,hr,Oa,ak,hg,aB,iw (show j<=l.length by omega) (show l.length<=100000 by omega),RN ns hj ah hnm,ak]
omit hl in
theorem Au.done (q:aI) (hq:q.Level=5) {i j:Nat} {t:aD} {h:Bool} {c:Nat} (hch:Au l q i j t h c) (hc:c<=3000) (hs:cont 5 q (kd l j)=false):Rd l q i j t h:=by
 intro M hM;have n5:(5:Int).toNat=5:=rfl;have n6:(6:Int).toNat=6:=rfl;rw [hq,n5] at hM;obtain ⟨M,rfl⟩:∃ m,M=m+1:=⟨M - 1,ah⟩
 refine mP hq fun ns=>?_;rcases hch with ⟨hr,hcm⟩|⟨rfl,nm,ks,rfl,hx⟩
 .have e:=hr M (by show _+4*(16 - (6:Int).toNat)<=M;omega) ns;have e':(aJ M).xP (dR q) l (i:Int) false ns=some (fu t h,(j:Int),false,ns):=e;show Ai M (aJ M) (dR q) l (i:Int) false ns=_;unfold Ai;rw [aeH ah hcm fun _=>rfl,ak,aA,e',ak];dsimp only;rw [Oa,ak,hs,aA]
 .obtain ⟨n,hn1,hx⟩:=hx M ns ah;obtain ⟨n,rfl⟩:∃ k,n=k+1:=⟨n - 1,ah⟩
  rcases hx with ⟨r,hr,hx⟩|⟨r,hr,hx⟩
  .rw [hx,tT,hr,Oa,ak,hs,aA];rfl
  .rw [hx,rQ,hr,Oa,ak,hs,aA];rfl
end
def inn:Nat->List av->Bool
 | d,[]=>d==0
 | d,t::ts=>bif dD t.Kind then inn (d+1) ts else bif dF t.Kind then !(d==0)&&inn (d - 1) ts else (bif d==0&&t.Kind==36 then false else inn d ts)
def aaw (l:List av) (M:Nat) (i:Int) (ns:List (List UInt8)) (L:List av) (kb:(List av×Int×Int)->Option Bool) (j D:Nat) (hj:j<=3000) (hD:1<=D):xJ M l i false ns kb (L,(j:Int),(D:Int))=kb (L,(D:Int),((j+1:Nat):Int)):=by
 unfold xJ;dsimp only;rw [lG (show¬(D:Int)<=0 by omega),aA,iw hj ah]
def aax (l:List av) (hl:l.length<=3000) (M i:Nat) (ns:List (List UInt8)) (L:List av) (hL:L=l.drop i) (r:Bool):∀ (x:List av) (d j n:Nat) (c:av),Sg l (i+j) (x++[c])->dF c.Kind=true/\r=false\/c.Kind=36/\r=true->inn d x=true->x.length < n->d+x.length<=4000->oL M l (i:Int) false ns n (L,((d+1:Nat):Int),(j:Int))=some r
 | [],d,j,n,c,hs,hc,hi,hn,hd=>by
  obtain ⟨n,rfl⟩:∃ m,n=m+1:=⟨n - 1,by simp at hn;omega⟩
  have hs:Sg l (i+j) (c::[]):=hs;obtain ⟨hj,hk⟩:=hs.hd;have hd0:d=0:=by simpa [inn] using hi
  subst hd0;have Oc:j < L.length:=by rw [hL];simp;omega
  have WB:L[j]=c:=by subst hL;rw [List.getElem_drop];exact hk
  rw [oL,fO Oc,aB,bJ Oc,ak,WB,NU,ak];rcases hc with ⟨hc,rfl⟩|⟨hc,rfl⟩
  .have hop:dD c.Kind=false:=by
    cases h:dD c.Kind with
    | false=>rfl
    | true=>rw [(Kg h).1] at hc;cases hc
   rw [hop,aA,RO,ak,hc,aB];unfold xJ;rfl
  .rw [hc,show dD 36=false from rfl,aA,RO,ak,show dF 36=false from rfl,aA];rfl
 | t::x,d,j,n,c,hs,hc,hi,hn,hd=>by
  simp only [nu] at hn hd;obtain ⟨n,rfl⟩:∃ m,n=m+1:=⟨n - 1,ah⟩
  have hs:Sg l (i+j) (t::(x++[c])):=hs;obtain ⟨hj,hk⟩:=hs.hd;have htl:Sg l (i+(j+1)) (x++[c]):=hs.tl;have Oc:j < L.length:=by rw [hL];simp;omega
  have WB:L[j]=t:=by subst hL;rw [List.getElem_drop];exact hk
  rw [inn] at hi;rw [oL,fO Oc,aB,bJ Oc,ak,WB,NU,ak];cases ho:dD t.Kind with
  | true=>
   rw [ho,aB] at hi;rw [aB,wrap64 ah ah,show ((d+1:Nat):Int)+1=((d+1+1:Nat):Int) by omega,aaw l M i ns L _ j (d+1+1) ah ah];exact aax l hl M i ns L hL r x (d+1) (j+1) n c htl hc hi ah ah
  | false=>
   rw [ho,aA] at hi;rw [aA,RO,ak];cases hcl:dF t.Kind with
   | true=>
    rw [hcl,aB] at hi;cases d with
    | zero=>cases hi
    | succ d=>
     have hi:inn d x=true:=by simpa using hi
     rw [aB,wrap64 ah ah,show ((d+1+1:Nat):Int) - 1=((d+1:Nat):Int) by omega,aaw l M i ns L _ j (d+1) ah ah];exact aax l hl M i ns L hL r x d (j+1) n c htl hc hi ah ah
   | false=>
    rw [hcl,aA] at hi;have zD:(d==0&&t.Kind==36)=false:=by
     cases h:(d==0&&t.Kind==36) with
     | true=>rw [h,aB] at hi;cases hi
     | false=>rfl
    rw [zD,aA] at hi;have hb:(bif (t.Kind==36) then some (((d+1:Nat):Int)==1) else some false)=some false:=by
     cases h:t.Kind==36 with
     | false=>rfl
     | true=>
      rw [h,EU] at zD;have: ¬d=0:=by simpa using zD
      have:(((d+1:Nat):Int)==1)=false:=bZ;rw [this];rfl
    rw [aA,hb,ak,aA,aaw l M i ns L _ j (d+1) ah ah];exact aax l hl M i ns L hL r x d (j+1) n c htl hc hi ah ah
def alA (l:List av) (hl:l.length<=3000) (i:Nat) (o c:av) (x:List av) (r:Bool) (hs:Sg l i (o::(x++[c]))) (ho:o.Kind=32) (hc:dF c.Kind=true/\r=false\/c.Kind=36/\r=true) (hi:inn 0 x=true):qd l i r:=by
 intro M ns hM;obtain ⟨hj,hk⟩:=hs.hd;have hlen:=hs.tl.len ah;simp only [ny,aav] at hlen;obtain ⟨M,rfl⟩:∃ m,M=m+1:=⟨M - 1,ah⟩
 have hkd:kd l i=32:=by rw [iQ hj,hk,ho]
 have hcut:=ZV (l:=l) (a:=i) (b:=l.length) ah (dK _);have ht:(l.drop i).take (l.length - i)=l.drop i:=VQ aF;rw [ht] at hcut;have Oc:0 < (l.drop i).length:=bZ;have WB:(l.drop i)[0]=o:=by rw [List.getElem_drop];exact hk
 have e0:ix (l.drop i) 0=some (l.drop i)[0]:=bJ Oc;rw [hkd,show ((32:Int)==32)=true from rfl,aB];unfold Ab;rw [hcut,ak,oL,gN (show (0:Int) < ((l.drop i).length:Int) by omega),aB,e0,ak,WB,NU,ho,ak,show dD 32=true from rfl,aB];have:=aaw l (M+1) (i:Int) ns (l.drop i) (oL (M+1) l (i:Int) false ns M) 0 1 ah ah;have this:xJ (M+1) l (i:Int) false ns (oL (M+1) l (i:Int) false ns M) (l.drop i,0,IntKind.wrap .i64<|0+1)=_:=this;rw [this,aax l hl (M+1) i ns (l.drop i) rfl r x 0 (0+1) M c hs.tl hc hi ah ah];rfl
def axo (l:List av) (hl:l.length<=3000) (i:Nat) (o c:av) (x:List av) (hs:Sg l i (o::(x++[c]))) (ho:o.Kind=32) (hc:dF c.Kind=true) (hi:inn 0 x=true):qd l i false:=alA l hl i o c x false hs ho (.inl ⟨hc,rfl⟩) hi
def axp (l:List av) (hl:l.length<=3000) (i:Nat) (o c:av) (x:List av) (hs:Sg l i (o::(x++[c]))) (ho:o.Kind=32) (hc:c.Kind=36) (hi:inn 0 x=true):qd l i true:=alA l hl i o c x true hs ho (.inr ⟨hc,rfl⟩) hi
def axq (l:List av) (i:Nat) (h:kd l i≠32):qd l i false:=by
 intro M ns hM;have:(kd l i==32)=false:=by simpa using h
 rw [this];rfl
def arV (k:Int):zX k=some (dD k):=Kz k
def arW (k:Int):zW k=some (dF k):=Wv k
def Od {lv most:Int} {sd:Int×Int} (hc:Dz lv most sd) (hm:0<=most) {l:List av} {q:aI} {i j:Nat} {t:aD} {h:Bool} (hr:Rd l (bG q<|lv+1) i j t h) (hn:cont lv q (kd l j)=false):Rd l (bG q lv) i j t h:=
 Ch.done hc (q:=bG q lv) rfl (Ch.first hc (q:=bG q lv) hr) (by simpa using hm) (.inl hn)
def alB {l:List av} {q:aI} {i j:Nat} {t:aD} {h:Bool} (lv:Int) (h1:1<=lv) (h10:lv<=10) (hsz:aU t<=400) (hr:Rd l (bG q<|lv+1) i j t h) (hn:cont lv q (kd l j)=false) (hcm:lv=5->q.aV=false->qd l i false):Rd l (bG q lv) i j t h:=by
 have:lv=1\/lv=2\/lv=3\/lv=4\/lv=5\/lv=6\/lv=7\/lv=8\/lv=9\/lv=10:=ah;rcases this with rfl|rfl|rfl|rfl|rfl|rfl|rfl|rfl|rfl|rfl
 .exact awC l (bG q 1) i j t h rfl hr hn hsz
 .exact awD l (bG q 2) i j t h rfl hr hn
 .exact Od (.inl ⟨rfl,rfl,rfl⟩) ah hr hn
 .exact Od (.inr<|.inl ⟨rfl,rfl,rfl⟩) ah hr hn
 .exact Au.done l (bG q 5) rfl (alz l (bG q 5) (hcm rfl) hr) ah hn
 .exact Od (.inr<|.inr<|.inl ⟨rfl,rfl,rfl⟩) ah hr hn
 .exact Od (.inr<|.inr<|.inr<|.inl ⟨rfl,rfl,rfl⟩) ah hr hn
 .exact Od (.inr<|.inr<|.inr<|.inr<|.inl ⟨rfl,rfl,rfl⟩) ah hr hn
 .exact Od (.inr<|.inr<|.inr<|.inr<|.inr<|.inl ⟨rfl,rfl,rfl⟩) ah hr hn
 .exact Od (.inr<|.inr<|.inr<|.inr<|.inr<|.inr ⟨rfl,rfl,rfl⟩) ah hr hn
def down {l:List av} {q:aI} {i j:Nat} {t:aD} {h:Bool} (hsz:aU t<=400) (hcm:q.aV=false->qd l i false):∀ (n:Nat) (b:Int),1<=b->b+n<=11->Rd l (bG q<|b+n) i j t h->(∀ lv:Int,b<=lv->cont lv q (kd l j)=false)->Rd l (bG q b) i j t h
 | 0,b,_,_,hr,_=>by
  have:b+((0:Nat):Int)=b:=ah;rw [this] at hr;exact hr
 | n+1,b,h1,h2,hr,hn=>by
  have hr':Rd l (bG q<|(b+1)+(n:Int)) i j t h:=by
   have:b+((n+1:Nat):Int)=(b+1)+(n:Int):=ah;rw [<- this];exact hr
  exact alB b h1 ah hsz (down hsz hcm n (b+1) ah ah hr' fun lv hv=>hn lv ah) (hn b ah) fun _=>hcm
def axr {l:List av} {q:aI} {i j:Nat} {t:aD} {h:Bool} (hr:Rd l (bG q 15) i j t h) (hk:kd l i≠68):Rd l (bG q 14) i j t h:=awG l (bG q 14) i j t h rfl hr hk
def axt {l:List av} {q:aI} {i j:Nat} {t:aD} {h:Bool} (hr:Rd l (bG q 14) i j t h) (hk:(kd l i==51||kd l i==52)=false) (hc:cont 13 q (kd l j)=false):Rd l (bG q 13) i j t h:=awF l (bG q 13) i j t h rfl hr hc hk
def axu {l:List av} {q:aI} {i j:Nat} {t:aD} {h:Bool} (hr:Rd l (bG q 13) i j t h) (hc:cont 12 q (kd l j)=false):Rd l (bG q 12) i j t h:=alk l (bG q 12) i j t h rfl hr hc
def axv {l:List av} {q:aI} {i j:Nat} {t:aD} {h:Bool} (hr:Rd l (bG q 13) i j t h) (hc:cont 12 q (kd l j)=false) (hk:(kd l i==56||(kd l i==55||kd l i==61))=false):Rd l (bG q 11) i j t h:=awE l (bG q 11) i j t h rfl hr hc hk
def Oe (k:Int):Bool:=!dD k&&(!dF k&&!(k==36))
def axw {t:av} (h:Oe t.Kind=true) (d:Nat) (y:List av):inn d (t::y)=inn d y:=by
 unfold Oe at h;simp only [dA,kF] at h;rw [inn,h.1,aA,h.2.1,aA,h.2.2,Kl,aA]
def axx {t:av} (h:dD t.Kind=true) (d:Nat) (y:List av):inn d (t::y)=inn (d+1) y:=by
 rw [inn,h,aB]
def axy {t:av} (h:dF t.Kind=true) (d:Nat) (y:List av):inn (d+1) (t::y)=inn d y:=by
 have hop:dD t.Kind=false:=by
  cases ho:dD t.Kind with
  | false=>rfl
  | true=>rw [(Kg ho).1] at h;cases h
 rw [inn,hop,aA,h,aB];simp
end Go.Proofs.Tryz
