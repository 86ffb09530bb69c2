/-
 Plain lemmas on the models, part 1.
-/
import Derived.Test.YtaobbpcbeopddaaGreatDoorRxGL1
namespace Go.Proofs.Tryz
open Go.Av
set_option maxRecDepth 100000
set_option linter.all false
def jy (s:List UInt8) (i:Nat):Int:=match s[i]? with|some b=>(b.toNat:Int)|none=>-1
def awu (b:UInt8):(b.toNat:Int) < 256:=by have:=b.toNat_lt;omega
def agk (b:UInt8):IntKind.wrap .i64 ((b.toNat:Nat):Int)=(b.toNat:Int):=by have:=awu b;exact wrap64 ah ah
def agl {s:List UInt8} {i:Nat} (h:i < s.length):jy s i=(s[i].toNat:Int):=by
 unfold jy;rw [fQ h]
def agm {s:List UInt8} {i:Nat} (h: ¬i < s.length):jy s i= -1:=by
 unfold jy;rw [AA ah]
def XB {s:List UInt8} {i:Nat} (h:jy s i≠ -1):i < s.length:=by
 cases xA i s.length with
 | inl h=>exact h
 | inr h'=>exact absurd (agm ah) h
def XC (a b c:Int):Bu a b c=some (decide (a>=b)&&decide (a<=c)):=by
 unfold Bu;by_cases h:a>=b<;>simp [h]
def zX (a b c:Int):oI a b c=some (decide (a>=b)&&decide (a<=c)):=by
 unfold oI;by_cases h:a>=b<;>simp [h]
def TG (s:List UInt8) (hs:s.length<=1048576) (i:Nat):Gh s (i:Int)=some (jy s i):=by
 unfold Gh;rw [XC,wrap64 ah ah,av,fU (by omega:(i:Int)>=0),rO];by_cases h:i < s.length
 .rw [fU ah,kE,aG,bS h,av,agl h,agk]
 .rw [nE ah,dN,aH,agm h]
def TH (s:List UInt8) (i:Nat):CU s (i:Int)=some (jy s i):=by
 unfold CU;rw [nE (by omega: ¬(i:Int) < 0),aG,av];by_cases h:i < s.length
 .rw [nE ah,aG,bS h,av,agl h,agk]
 .rw [fU ah,aH,agm h]
def TI (c:Int):Bool:=decide (c>=48)&&decide (c<=57)
def amF (c:Int):Sc c=some (TI c):=by
 unfold Sc;rw [zX];rfl
def amG (c:Int):SN c=some (TI c):=by
 unfold SN TI;by_cases h:c>=48<;>simp [h]
def OW (c:Int):Bool:=(decide (c>=97)&&decide (c<=122))||((decide (c>=65)&&decide (c<=90))||c==95)
def amH (c:Int):Sb c=some (OW c):=by
 unfold Sb OW;rw [zX,zX];cases (decide (c>=97)&&decide (c<=122))<;>cases (decide (c>=65)&&decide (c<=90))<;>rfl
def amI (c:Int):Td c=some (OW c):=by
 unfold Td OW;cases decide (c>=97)<;>cases decide (c<=122)<;>cases decide (c>=65)<;>cases decide (c<=90)<;>rfl
def XD (c:Int):Bool:=OW c||TI c
def awv (c:Int):Wp c=some (XD c):=by
 unfold Wp XD;rw [amH,amF];cases OW c<;>rfl
def aww (c:Int):WX c=some (XD c):=by
 unfold WX XD;rw [amI,amG];cases OW c<;>rfl
def awx {s:List UInt8} {i:Nat} (h:TI (jy s i)=true):i < s.length:=by
 refine XB fun e=>?_;rw [e] at h;cases h
def Gt {s:List UInt8} (hs:s.length<=1048576) {i:Nat} (h:i<=s.length+1):IntKind.wrap .i64 ((i:Int)+1)=((i+1:Nat):Int):=by
 rw [wrap64 ah ah];omega
def awy (N M:Nat) (s:List UInt8) (hs:s.length<=1048576):∀ (n m i:Nat),s.length - i < n->s.length - i < m->i<=s.length->∃ r:Nat,NV N n (s,(i:Int))=some (r:Int)/\Ot M m (s,(i:Int))=some (r:Int)/\i<=r/\r<=s.length:=by
 intro n;induction n with
 | zero=>intro m i h;omega
 | succ n ih=>
  intro m i hn hm hi;obtain ⟨m,rfl⟩:∃ k,m=k+1:=⟨m - 1,ah⟩
  rw [NV,Ot,TH,TG s hs,av,av,amF,amG,av,av];cases h:TI (jy s i) with
  | false=>exact ⟨i,rfl,rfl,cZ _,hi⟩
  | true=>
   have:=awx h;rw [aH,aH,Gt hs ah];obtain ⟨r,h1,h2,h3,h4⟩:=ih m (i+1) ah ah ah;exact ⟨r,h1,h2,ah,h4⟩
def agn (N:Nat) (s:List UInt8) (hs:s.length<=1048576) (hN:s.length < N) (i:Nat) (hi:i<=s.length):∃ r:Nat,NW N s (i:Int)=some (r:Int)/\SQ N s (i:Int)=some (r:Int)/\i<=r/\r<=s.length:=
 awy N N s hs N N i ah ah hi
def amJ (N:Nat) (s:List UInt8) (hs:s.length<=1048576) (hN:s.length < N) (a y:Nat) (z:Int) (hy:y<=s.length) (hay:a<=y) (hz:(((y:Int)==(a:Int))=true)↔((z==0)=true)):
  ∃ r:Int,Sj N (s,(a:Int),(y:Int))=some r/\Ou N (s,(y:Int),z)=some r/\(r= -1\/(a < r/\r<=s.length)):=by
 simp only [Sj,Ou];cases he:((y:Int)==(a:Int)) with
 | true=>
  rw [hz.1 he];exact ⟨-1,rfl,rfl,.inl rfl⟩
 | false=>
  have hz0:(z==0)=false:=by
   cases h:(z==0) with
   | false=>rfl
   | true=>rw [hz.2 h] at he;cases he
  have hne: ¬(y:Int)=a:=by simpa using he
  have hcond:((some<|jy s y).bind fun fV=>bif (fV==101) then some true else ((some<|jy s y).bind fun xJ=>some<|xJ==69))=some (jy s y==101||jy s y==69):=by
   cases h:(jy s y==101)<;>simp [h]
  have awz:(bif (jy s y==101) then some true else some (jy s y==69))=some (jy s y==101||jy s y==69):=by
   cases (jy s y==101)<;>rfl
  rw [hz0,aG,aG,TH,TG s hs,hcond,av,av,awz,av];have hdone:∃ r:Int,Wx N (y:Int)=some r/\WV N (y:Int)=some r/\(r= -1\/(a < r/\r<=s.length)):=⟨y,rfl,rfl,.inr ⟨ah,ah⟩⟩
  cases hE:(jy s y==101||jy s y==69) with
  | false=>exact hdone
  | true=>
   have hlt:y < s.length:=by
    refine XB fun e=>?_;rw [e] at hE;cases hE
   have hk3:∀ x:Nat,x<=s.length->y<=x->∃ r:Int,Si N (s,(y:Int),(x:Int))=some r/\SV N (s,(y:Int),(x:Int))=some r/\(r= -1\/(a < r/\r<=s.length)):=by
    intro x hx hyx;obtain ⟨r,h1,h2,h3,h4⟩:=agn N s hs hN x hx;simp only [Si,SV,h1,h2,av];by_cases hr:(r:Int) > x
    .rw [fU hr];exact ⟨r,rfl,rfl,.inr ⟨ah,ah⟩⟩
    .rw [nE hr];exact hdone
   have hs1:=Gt hs (i:=y) ah;have hs2:=Gt hs (i:=y+1) ah;have hsg:((some<|jy s<|y+1).bind fun NY=>bif (NY==43) then some true else ((some<|jy s<|y+1).bind fun gM=>some<|gM==45))=some (jy s (y+1)==43||jy s (y+1)==45):=by
    cases h:(jy s (y+1)==43)<;>simp [h]
   have awC:(bif (jy s (y+1)==43) then some true else some (jy s (y+1)==45))=some (jy s (y+1)==43||jy s (y+1)==45):=by
    cases (jy s (y+1)==43)<;>rfl
   simp only [aH,hs1,hs2,TH,TG s hs,av] at hsg awC ⊢;simp only [hsg,av];cases hS:(jy s (y+1)==43||jy s (y+1)==45) with
   | true=>
    have:y+1 < s.length:=by
     refine XB fun e=>?_;rw [e] at hS;cases hS
    exact hk3 (y+1+1) ah ah
   | false=>exact hk3 (y+1) ah ah
def amK (N:Nat) (s:List UInt8) (hs:s.length<=1048576) (hN:s.length < N) (i:Nat) (hi:i < s.length):
  ∃ r:Int,KV N s (i:Int)=some r/\SX N s (i:Int)=some r/\(r= -1\/(i < r/\r<=s.length)):=by
 unfold KV SX;obtain ⟨r,h1,h2,h3,h4⟩:=agn N s hs hN i ah;rw [XC,wrap64 (n:=(s.length:Int) - 1) ah ah,nE (by omega: ¬(i:Int) < 0),fU (by omega:(i:Int)>=0),fU (by omega:(i:Int)<=(s.length:Int) - 1),aG,av,ajw,kE,aG,h1,h2,av,av,TH,TG s hs,av,av];cases hd:(jy s r==46) with
 | false=>
  rw [aG,aG,wrap64 (n:=(r:Int) - i) ah ah];refine amJ N s hs hN i r _ h4 h3 ?_;constructor
  .intro h;have:=eq_of_beq h;rw [this];simp
  .intro h;have:=eq_of_beq h;exact mR.2 ah
 | true=>
  have hlt:r < s.length:=by
   refine XB fun e=>?_;rw [e] at hd;cases hd
  obtain ⟨q,g1,g2,g3,g4⟩:=agn N s hs hN (r+1) ah;rw [aH,aH,Gt hs ah,g1,g2,av,av,wrap64 (n:=(r:Int) - i) ah ah,wrap64 (n:=(q:Int) - r) ah ah,wrap64 (n:=(q:Int) - r - 1) ah ah,wrap64 ah ah];have agp:=amJ N s hs hN i q ((r:Int) - i+((q:Int) - r - 1)) g4 ah;by_cases he:(r:Int)=i/\(q:Int)=((r+1:Nat):Int)
  .have e1:((r:Int)==(i:Int))=true:=mR.2 he.1;have e2:((q:Int)==((r+1:Nat):Int))=true:=mR.2 he.2;have e3:(((r:Int) - i+((q:Int) - r - 1))==0)=true:=mR.2 ah;simp only [e1,e2,aH,av,Ou,e3];exact ⟨-1,rfl,rfl,.inl rfl⟩
  .have hc:(bif ((r:Int)==(i:Int)) then some ((q:Int)==((r+1:Nat):Int)) else some false)=some false:=by
    cases e1:((r:Int)==(i:Int)) with
    | false=>rfl
    | true=>
     have e2:((q:Int)==((r+1:Nat):Int))=false:=by
      cases e2:((q:Int)==((r+1:Nat):Int)) with
      | false=>rfl
      | true=>exact absurd ⟨eq_of_beq e1,eq_of_beq e2⟩ he
     rw [e2];rfl
   rw [hc,av,aG];refine agp ?_;have n1:((q:Int)==(i:Int))=false:=by
    cases e:((q:Int)==(i:Int)) with
    | false=>rfl
    | true=>have:=eq_of_beq e;omega
   have n2:(((r:Int) - i+((q:Int) - r - 1))==0)=false:=by
    cases e:(((r:Int) - i+((q:Int) - r - 1))==0) with
    | false=>rfl
    | true=>have:=eq_of_beq e;exact absurd ⟨ah,ah⟩ he
   rw [n1,n2]
def awD (N M:Nat) (s:List UInt8) (hs:s.length<=1048576) (q:Int) (hq:q≠10) (hq2:q≠92):∀ (n m i:Nat),s.length+1 - i < n->s.length+1 - i < m->i<=s.length+1->
  ∃ r:Int,Iz N n (s,q,(i:Int))=some r/\Gi M m (s,q,(i:Int))=some r/\(r= -1\/(i < r/\r<=s.length)):=by
 intro n;induction n with
 | zero=>intro m i h;omega
 | succ n ih=>
  intro m i hn hm hi;obtain ⟨m,rfl⟩:∃ k,m=k+1:=⟨m - 1,ah⟩
  rw [Iz,Gi];by_cases h:i < s.length
  .simp only [gJ h,aH,bS h,av,agk,Gt hs (by omega:i<=s.length+1)];have hge:=ih m;by_cases h10:(s[i].toNat:Int)=10
   .have e1:((s[i].toNat:Int)==q)=false:=by
     cases e:((s[i].toNat:Int)==q) with
     | false=>rfl
     | true=>have:=eq_of_beq e;omega
    have e2:((s[i].toNat:Int)==10)=true:=mR.2 h10;have e3:((s[i].toNat:Int) !=10)=false:=by rw [bne,e2];rfl
    rw [e1,e2,e3];exact ⟨-1,rfl,rfl,.inl rfl⟩
   .have e2:((s[i].toNat:Int)==10)=false:=by
     cases e:((s[i].toNat:Int)==10) with
     | false=>rfl
     | true=>exact absurd (eq_of_beq e) h10
    have e3:((s[i].toNat:Int) !=10)=true:=by rw [bne,e2];rfl
    rw [e2,e3];simp only [aH,aG];cases e1:((s[i].toNat:Int)==q) with
    | true=>exact ⟨((i+1:Nat):Int),rfl,rfl,.inr ⟨ah,ah⟩⟩
    | false=>
     simp only [aG];cases e4:((s[i].toNat:Int)==92) with
     | false=>
      simp only [aG,av,Sk,Ov,Gt hs (by omega:i<=s.length+1)];obtain ⟨r,h1,h2,h3⟩:=hge (i+1) ah ah ah;exact ⟨r,h1,h2,h3.imp id fun h=>⟨ah,h.2⟩⟩
     | true=>
      rw [aH,aH,TH,TG s hs,av,av,av];cases e5:(jy s (i+1)==10) with
      | true=>
       have e6:(jy s (i+1) !=10)=false:=by rw [bne,e5];rfl
       have hlt:i+1 < s.length:=by
        refine XB fun e=>?_;rw [e] at e5;cases e5
       have awE:((s[i+1].toNat:Int) !=10)=false:=by
        rw [agl hlt] at e6;exact e6
       rw [e6];obtain ⟨m,rfl⟩:∃ k,m=k+1:=⟨m - 1,ah⟩
       simp only [aH,aG,Ov,Gt hs (by omega:i<=s.length+1)];rw [Gi];simp only [gJ hlt,aH,bS hlt,av,awE,aG];exact ⟨-1,rfl,rfl,.inl rfl⟩
      | false=>
       have e6:(jy s (i+1) !=10)=true:=by rw [bne,e5];rfl
       rw [e6];simp only [aH,aG,Sk,Ov,Gt hs (by omega:i+1<=s.length+1)];obtain ⟨r,h1,h2,h3⟩:=hge (i+1+1) ah ah ah;exact ⟨r,h1,h2,h3.imp id fun h=>⟨ah,h.2⟩⟩
  .simp only [iW h,aG,av];exact ⟨-1,rfl,rfl,.inl rfl⟩
def amL (N:Nat) (s:List UInt8) (hs:s.length<=1048576) (hN:s.length+2 < N) (q:Int) (hq:q≠10) (hq2:q≠92) (i:Nat) (hi:i < s.length):
  ∃ r:Int,Sl N s (i:Int) q=some r/\SY N s (i:Int) q=some r/\(r= -1\/(i < r/\r<=s.length)):=by
 unfold Sl SY;rw [TH,TG s hs,av,av,Gt hs ah];cases (jy s i !=q) with
 | true=>exact ⟨-1,rfl,rfl,.inl rfl⟩
 | false=>
  obtain ⟨r,h1,h2,h3⟩:=awD N N s hs q hq hq2 N N (i+1) ah ah ah;exact ⟨r,h1,h2,h3.imp id fun h=>⟨ah,h.2⟩⟩
def amM (N:Nat) (s:List UInt8) (hs:s.length<=1048576) (hN:s.length+2 < N) (i:Nat) (hi:i < s.length):
  ∃ r:Int,KW N s (i:Int)=some r/\Ta N s (i:Int)=some r/\(r= -1\/(i < r/\r<=s.length)):=by
 obtain ⟨r,h1,h2,h3⟩:=amL N s hs hN 34 aD aD i hi;unfold KW Ta;rw [h1,h2];exact ⟨r,rfl,rfl,h3⟩
def amN (N:Nat) (s:List UInt8) (hs:s.length<=1048576) (hN:s.length+2 < N) (i:Nat) (hi:i < s.length):
  ∃ r:Int,KX N s (i:Int)=some r/\Tc N s (i:Int)=some r/\(r= -1\/(i < r/\r<=s.length)):=by
 obtain ⟨r,h1,h2,h3⟩:=amL N s hs hN 47 aD aD i hi;unfold KX Tc;simp only [h1,h2,av];cases (r==IntKind.wrap .i64 ((i:Int)+2)) with
 | true=>exact ⟨-1,rfl,rfl,.inl rfl⟩
 | false=>exact ⟨r,rfl,rfl,h3⟩
def awF (N M:Nat) (s:List UInt8) (hs:s.length<=1048576):∀ (n m i:Nat),s.length - i < n->s.length - i < m->i<=s.length->∃ b:Bool,KU N n (s,(i:Int))=some b/\Ow M m (s,(i:Int))=some b:=by
 intro n;induction n with
 | zero=>intro m i h;omega
 | succ n ih=>
  intro m i hn hm hi;obtain ⟨m,rfl⟩:∃ k,m=k+1:=⟨m - 1,ah⟩
  rw [KU,Ow];by_cases h:i < s.length
  .simp only [gJ h,aH,bS h,av,awv,aww,Gt hs (by omega:i<=s.length+1)];cases XD (IntKind.wrap .i64 ((s[i].toNat:Nat):Int)) with
   | false=>exact ⟨false,rfl,rfl⟩
   | true=>exact ih m (i+1) ah ah ah
  .simp only [iW h,aG,zX,XC,av];cases hc:(decide ((s.length:Int)>=1)&&decide ((s.length:Int)<=12)) with
   | false=>exact ⟨false,rfl,rfl⟩
   | true=>
    have h0:0 < s.length:=by
     simp only [dL,lG] at hc;omega
    have e:ix s 0=some s[0]:=bS h0;simp only [aH,e,av,amH,amI];exact ⟨_,rfl,rfl⟩
def amO (N:Nat) (s:List UInt8) (hs:s.length<=1048576) (hN:s.length < N):∃ b:Bool,Wt N s=some b/\abz N s=some b:=
 awF N N s hs N N 0 ah ah ah
def abO:Wu=some sF:=rfl
def awG:abb=some zy:=rfl
def agq:abe=some zx:=rfl
def awH (N M:Nat) (l:List (List UInt8)) (x:List UInt8) (hl:l.length<=1048576):∀ (n m i:Nat),l.length - i < n->l.length - i < m->i<=l.length->
  ∃ r:Int,NT N n (l,x,(i:Int))=some r/\Ox M m (l,x,(i:Int))=some r/\(-1<=r/\(0<=r->x∈l))/\r < l.length:=by
 intro n;induction n with
 | zero=>intro m i h;omega
 | succ n ih=>
  intro m i hn hm hi;obtain ⟨m,rfl⟩:∃ k,m=k+1:=⟨m - 1,ah⟩
  rw [NT,Ox];by_cases h:i < l.length
  .have hst:IntKind.wrap .i64 ((i:Int)+1)=((i+1:Nat):Int):=Nh h (by simp only [maxLen];omega);have hc:(x==l[i])=(l[i]==x):=by
    cases e:(l[i]==x) with
    | true=>have:=eq_of_beq e;subst this;simp
    | false=>
     have: ¬l[i]=x:=by simpa using e
     simpa using fun e=>this e.symm
   simp only [gJ h,aH,bS h,av,hst,hc];cases he:(l[i]==x) with
   | true=>exact ⟨(i:Int),rfl,rfl,⟨ah,fun _=>by have:=eq_of_beq he;rw [<- this];exact mQ h⟩,ah⟩
   | false=>exact ih m (i+1) ah ah ah
  .simp only [iW h,aG];exact ⟨-1,rfl,rfl,⟨ah,fun h=>ah⟩,ah⟩
def amP (N:Nat) (l:List (List UInt8)) (x:List UInt8) (hl:l.length<=1048576) (hN:l.length < N):∃ r:Int,Wv N l x=some r/\WY N l x=some r/\(-1<=r/\(0<=r->x∈l))/\r < l.length:=
 awH N N l x hl N N 0 ah ah ah
def amQ (N:Nat) (x:List UInt8) (hN:100 < N):∃ r:Int,Ww N x=some r/\WZ N x=some r/\(r=0\/(10<=r/\r<=26)):=by
 obtain ⟨r,h1,h2,h3,h4⟩:=amP N sF x aD (by have:sF.length=17:=rfl;omega);have hl:sF.length=17:=rfl;unfold Ww WZ;rw [abO,av,h1,h2];simp only [av];by_cases h:r < 0
 .rw [fU h];exact ⟨0,rfl,rfl,.inl rfl⟩
 .rw [nE h,wrap64 (n:=10+r) ah ah];exact ⟨10+r,rfl,rfl,.inr ah⟩
def XE (N:Nat) (x:List UInt8) (hN:100 < N):∃ b:Bool,Iy N x=some b/\Te N x=some b/\(b=true->x∈zy):=by
 obtain ⟨r,h1,h2,h3,h4⟩:=amP N zy x aD (by have:zy.length=21:=rfl;omega);unfold Iy Te abA;rw [awG,av,h1,h2];exact ⟨_,rfl,rfl,fun h=>h3.2<|by simpa using h⟩
def awI (b:UInt8):(((b).toNat:Int)==10)=(b==10):=by
 cases h:(b==10) with
 | true=>have:=eq_of_beq h;subst this;rfl
 | false=>
  have hne:b≠10:=by simpa using h
  have: ¬b.toNat=10:=fun e=>hne (UInt8.toNat.inj e);simp;omega
def awJ (N:Nat) (t:List UInt8) (ht:t.length<=maxLen):∀ (n i:Nat),t.length - i < n->i<=t.length->NU N n (t,(i:Int))=some (!(t.drop i).contains 10):=by
 intro n;induction n with
 | zero=>intro i h;omega
 | succ n ih=>
  intro i hn hi;rw [NU];by_cases h:i < t.length
  .simp only [gJ h,aH,bS h,av,awI,Nh h ht];rw [ih (i+1) ah ah,drop_cons h,List.contains_cons];by_cases he:t[i]=10
   .simp [he]
   .have h1:(t[i]==10)=false:=by simpa using he
    have h2:((10:UInt8)==t[i])=false:=by simpa using fun e=>he e.symm
    rw [h1,h2,aG,Kt]
  .simp only [iW h,aG];rw [drop_nil h];rfl
def amR (N:Nat) (t:List UInt8) (hN:t.length < N) (ht:t.length<=maxLen):Sd N t=some (!t.contains 10):=by
 unfold Sd;have:=awJ N t ht N 0 ah ah;simpa using this
def awK (l:List UInt8) (c:UInt8):decide (Go.Lib.indexByte l c>=0)=l.contains c:=by
 induction l with
 | nil=>rfl
 | cons b l ih=>
  rw [List.contains_cons];unfold Go.Lib.indexByte;by_cases h:(b==c)=true
  .have:(c==b)=true:=by have:=eq_of_beq h;subst this;simp
   simp [h,this]
  .have hf:(b==c)=false:=by simpa using h
   have hf2:(c==b)=false:=by
    have: ¬b=c:=by simpa using hf
    simpa using fun e=>this e.symm
   rw [hf,hf2,Kt,<- ih];have hge:=Go.Lib.indexByte_ge l c;simp only [Bool.false_eq_true,if_false];split
   .rename_i he;have:Go.Lib.indexByte l c= -1:=by simpa using he
    rw [this]
   .rename_i he;have: ¬Go.Lib.indexByte l c= -1:=by simpa using he
    have h1:Go.Lib.indexByte l c>=0:=ah;have h2:Go.Lib.indexByte l c+1>=0:=ah;simp [h1,h2]
def awL (t:List UInt8):WU t=some (t.contains 10):=by
 have h0:WT t=some (Go.Lib.indexByte t 10):=by
  unfold WT;by_cases h:(([10]:List UInt8)==t)=true
  .have:=eq_of_beq h;subst this;rfl
  .have hf:(([10]:List UInt8)==t)=false:=by simpa using h
   rw [hf,aG];rfl
 unfold WU aby
 rw [h0,av,av,awK]
def amS (k:Int):∃ x:List UInt8,CX k=some x/\(k=0->x=[]):=by
 unfold CX;rw [zX,zX,abO,agq];simp only [av];cases h1:(k==1) with
 | true=>exact ⟨[10],rfl,fun h=>by subst h;cases h1⟩
 | false=>
  cases h2:(decide (k>=10)&&decide (k<=26)) with
  | true=>
   simp only [dL,lG] at h2;obtain ⟨j,rfl⟩:∃ j:Nat,k=(j:Int)+10:=⟨(k - 10).toNat,ah⟩
   have hl:sF.length=17:=rfl;have hw:IntKind.wrap .i64 ((j:Int)+10 - 10)=(j:Int):=by rw [wrap64 ah ah];omega
   rw [aG,aH,hw,bS ah];exact ⟨_,rfl,fun h=>ah⟩
  | false=>
   cases h3:(decide (k>=30)&&decide (k<=68)) with
   | true=>
    simp only [dL,lG] at h3;obtain ⟨j,rfl⟩:∃ j:Nat,k=(j:Int)+30:=⟨(k - 30).toNat,ah⟩
    have hl:zx.length=39:=rfl;have hw:IntKind.wrap .i64 ((j:Int)+30 - 30)=(j:Int):=by rw [wrap64 ah ah];omega
    rw [aG,aG,aH,hw,bS ah];exact ⟨_,rfl,fun h=>ah⟩
   | false=>exact ⟨[],rfl,fun _=>rfl⟩
def awM (k:Int):∃ x:List UInt8,CX k=some x/\Xd k=some x/\(k=0->x=[]):=by
 have hkw:Xb k=some (decide (k>=10)&&decide (k<=26)):=by
  unfold Xb;rw [XC];rfl
 have hsg:Xc k=some (decide (k>=30)&&decide (k<=68)):=by
  unfold Xc;rw [XC];rfl
 unfold CX Xd;rw [zX,zX,hkw,hsg,abO,agq];simp only [av];cases h1:(k==1) with
 | true=>exact ⟨[10],rfl,rfl,fun h=>by subst h;cases h1⟩
 | false=>
  cases h2:(decide (k>=10)&&decide (k<=26)) with
  | true=>
   simp only [dL,lG] at h2;obtain ⟨j,rfl⟩:∃ j:Nat,k=(j:Int)+10:=⟨(k - 10).toNat,ah⟩
   have hl:sF.length=17:=rfl;have hw:IntKind.wrap .i64 ((j:Int)+10 - 10)=(j:Int):=by rw [wrap64 ah ah];omega
   rw [aG,aH,hw,bS ah];exact ⟨_,rfl,rfl,fun h=>ah⟩
  | false=>
   cases h3:(decide (k>=30)&&decide (k<=68)) with
   | true=>
    simp only [dL,lG] at h3;obtain ⟨j,rfl⟩:∃ j:Nat,k=(j:Int)+30:=⟨(k - 30).toNat,ah⟩
    have hl:zx.length=39:=rfl;have hw:IntKind.wrap .i64 ((j:Int)+30 - 30)=(j:Int):=by rw [wrap64 ah ah];omega
    rw [aG,aG,aH,hw,bS ah];exact ⟨_,rfl,rfl,fun h=>ah⟩
   | false=>exact ⟨[],rfl,rfl,fun _=>rfl⟩
def awO (N:Nat) (x:List UInt8) (hx:x.length<=1048576) (hN:x.length+200 < N):∃ b:Bool,Bo N x=some b/\Xa N x=some b/\(x=[]->b=false):=by
 unfold Bo Xa;obtain ⟨q,h1,h2⟩:=amO N x hx ah;obtain ⟨r,g1,g2,_⟩:=amQ N x ah;obtain ⟨c,f1,f2,_⟩:=XE N x ah;have hq:x=[]->q=false:=by
  intro e;subst e;unfold Wt at h1;obtain ⟨M,rfl⟩:∃ m,N=m+1:=⟨N - 1,ah⟩
  rw [KU] at h1;have e1:decide ((0:Int) < (([]:List UInt8).length:Int))=false:=rfl;have e2:oI (([]:List UInt8).length:Int) 1 12=some false:=rfl;rw [e1,aG,e2] at h1;simpa using h1.symm
 rw [h1,h2,av,av];cases hqv:q with
 | false=>exact ⟨false,rfl,rfl,fun _=>rfl⟩
 | true=>
  rw [aH,aH,g1,g2,av,av];cases (r==0) with
  | false=>exact ⟨false,rfl,rfl,fun _=>rfl⟩
  | true=>
   rw [aH,aH,f1,f2];exact ⟨!c,rfl,rfl,fun e=>by rw [hq e] at hqv;cases hqv⟩
def agr (x:List UInt8):(x==[])=true↔x=[]:=aF
def amU (N:Nat) (t:aC) (ht:t.Text.length<=1048576) (hN:t.Text.length+200 < N):∃ b:Bool,qY N t=some b/\Xe N t=some b/\(t.Kind=0->b=false):=by
 obtain ⟨sp,s1,s2,s3⟩:=awM t.Kind;obtain ⟨nb,n1,n2,n3⟩:=awO N t.Text ht hN;obtain ⟨bb,b1,b2,b3⟩:=XE N t.Text ah;have hk1:∀ y:Bool,¬t.Text=[]->∃ b:Bool,yN N (t,y)=some b/\Tf N (t,y)=some b/\(t.Kind=0->y=false->b=false):=by
  intro y hne;have hbn:(t.Text==[])=false:=by
   cases e:(t.Text==[]) with
   | false=>rfl
   | true=>exact absurd ((agr _).1 e) hne
  simp only [yN,Tf];rw [n1,n2,b1,b2,s1,s2,hbn];cases y with
  | true=>exact ⟨nb,rfl,rfl,fun _ h=>by cases h⟩
  | false=>
   cases h8:(t.Kind==8) with
   | true=>
    refine ⟨bb,rfl,rfl,fun h=>?_⟩;rw [h] at h8;cases h8
   | false=>
    have hc:(sp==t.Text)=(t.Text==sp):=by
     cases e:(t.Text==sp) with
     | true=>have:=eq_of_beq e;rw [this];simp
     | false=>
      have: ¬t.Text=sp:=by simpa using e
      simpa using fun e=>this e.symm
    refine ⟨t.Text==sp,by rw [<- hc];rfl,rfl,fun h _=>?_⟩;rw [s3 h];exact hbn
 unfold qY Xe;by_cases hne:t.Text=[]
 .have e0:(t.Text==[])=true:=(agr _).2 hne;rw [e0,aH];refine ⟨false,?_,rfl,fun _=>rfl⟩;have hl:decide ((t.Text.length:Int) > 0)=false:=by rw [hne];rfl
  have hst:KW N t.Text 0=some (-1):=by
   rw [hne];rfl
  have hre:KX N t.Text 0=some (-1):=by
   rw [hne];rfl
  have hm1:((-1:Int)==(t.Text.length:Int))=false:=by rw [hne];rfl
  rw [hl,hst,hre];have hk:∀ y,yN N (t,y)=some false:=by
   intro y;simp only [yN];rw [n1,n3 hne,b1,s1,e0];have hbb:bb=false:=by
    cases h:bb with
    | false=>rfl
    | true=>
     have:=b3 h;rw [hne] at this;exact absurd this aD
   rw [hbb];cases y<;>cases (t.Kind==8)<;>rfl
  simp only [av,aG,hm1,hk];cases (t.Kind==2)<;>cases (t.Kind==3)<;>cases (t.Kind==4)<;>cases (t.Kind==5)<;>cases (t.Kind==6)<;>rfl
 .have e0:(t.Text==[])=false:=by
   cases e:(t.Text==[]) with
   | false=>rfl
   | true=>exact absurd ((agr _).1 e) hne
  have hpos:0 < t.Text.length:=by
   cases UN t.Text.length with
   | inl h=>exact absurd (Cq.1 h) hne
   | inr h=>exact h
  have hl:decide ((t.Text.length:Int) > 0)=true:=fU ah;rw [e0,aG,hl];simp only [aH];cases h2:(t.Kind==2) with
  | true=>
   have e:ix t.Text 0=some t.Text[0]:=bS hpos;have hp:=amR N t.Text ah (by simp only [maxLen];omega);have hc:=awL t.Text;rw [aH,aH,e,hp,hc];simp only [av];refine ⟨((t.Text[0].toNat:Int)==35)&&!t.Text.contains 10,?_,?_,fun h=>?_⟩
   .cases ((t.Text[0].toNat:Int)==35)<;>rfl
   .cases ((t.Text[0].toNat:Int)==35)<;>rfl
   .rw [h] at h2;cases h2
  | false=>
   rw [aG,aG];cases h3:(t.Kind==3) with
   | true=>
    obtain ⟨r,f1,f2,_⟩:=amK N t.Text ht ah 0 hpos;have OX:KV N t.Text 0=some r:=f1;have f2':SX N t.Text 0=some r:=f2;rw [aH,aH,OX,f2'];refine ⟨_,rfl,rfl,fun h=>?_⟩;rw [h] at h3;cases h3
   | false=>
    rw [aG,aG];cases h4:(t.Kind==4) with
    | true=>
     obtain ⟨r,f1,f2,_⟩:=amM N t.Text ht ah 0 hpos;have OX:KW N t.Text 0=some r:=f1;have f2':Ta N t.Text 0=some r:=f2;rw [aH,aH,OX,f2'];refine ⟨_,rfl,rfl,fun h=>?_⟩;rw [h] at h4;cases h4
    | false=>
     rw [aG,aG];cases h5:(t.Kind==5) with
     | true=>
      obtain ⟨r,f1,f2,_⟩:=amN N t.Text ht ah 0 hpos;have OX:KX N t.Text 0=some r:=f1;have f2':Tc N t.Text 0=some r:=f2;rw [aH,aH,OX,f2'];refine ⟨_,rfl,rfl,fun h=>?_⟩;rw [h] at h5;cases h5
     | false=>
      rw [aG,aG];cases h6:(t.Kind==6) with
      | true=>
       obtain ⟨b,k1,k2,k3⟩:=hk1 true hne;refine ⟨b,k1,k2,fun h=>?_⟩;rw [h] at h6;cases h6
      | false=>
       obtain ⟨b,k1,k2,k3⟩:=hk1 (t.Kind==7) hne;refine ⟨b,k1,k2,fun h=>k3 h ?_⟩;rw [h];rfl
def xW (a:List aK):List (List Int):=a.map (·.Kids)
def awP {a:List aK} {i:Nat} (h:i < a.length):(xW a).drop i=a[i].Kids::(xW a).drop (i+1):=by
 have h':i < (xW a).length:=by simpa [xW] using h
 rw [drop_cons h'];simp [xW]
def awQ (N:Nat) (kb:(List aK×Int×List Int)->Option (List Int×Bool)) (a:List aK) (i:Nat) (hi:i < a.length) (hi2:i<=100000) (out:List Int) (ho:out.length=i) (hl:Low out) (hk:a[i].Kids.length<=1048576):
  ∀ (n j:Nat) (at_:Int),j < n->j<=a[i].Kids.length->0<=at_->at_<=i->
   NP N kb n (a,(i:Int),out,at_,(j:Int) - 1)=match walk out at_ (a[i].Kids.take j).reverse with
    | none=>some ([],false)
    | some s=>kb (a,((i+1:Nat):Int),out++[s]):=by
 intro n;induction n with
 | zero=>intro j at_ h;omega
 | succ n ih=>
  intro j at_ hn hj h0 h1;rw [NP];cases j with
  | zero=>
   have:decide (((0:Nat):Int) - 1>=0)=false:=aF;simp only [this,aG,List.take_zero,List.reverse_nil,walk];rw [gL (by simp [ho];omega),av,wrap64 ah ah];rfl
  | succ j=>
   have hjk:j < a[i].Kids.length:=ah;rw [auN hjk];simp only [auO,aH,auP,bS hi,bS hjk,av];rw [wrap64 (n:=at_ - 1) ah ah];unfold walk;by_cases hc:a[i].Kids[j]≠at_ - 1
   .have h2:(a[i].Kids[j] !=at_ - 1)=true:=by simpa using hc
    rw [h2,aH,av,aH,dA<|.inr hc]
   .have h2:(a[i].Kids[j] !=at_ - 1)=false:=by simpa using hc
    rw [h2,aG,av];by_cases hz:at_=0
    .have h3:(at_==0)=true:=by simpa using hz
     rw [h3,aH,dA<|.inl hz]
    .have h3:(at_==0)=false:=by simpa using hz
     rw [h3,aG,bI fun h=>h.elim hz hc];have hlt:(at_ - 1).toNat < out.length:=ah;have hx:ix out (at_ - 1)=some out[(at_ - 1).toNat]:=by
      have:=bS hlt;rwa [asQ ah] at this
     rw [hx,av,fQ hlt];have hlow:=hl _ _ (fQ hlt);rw [wrap64 ah ah];exact ih j _ ah ah hlow.1 ah
def awR (N:Nat) (a:List aK) (hN:1048577 < N) (ha:a.length<=100000) (hk:∀ x,x∈a->x.Kids.length<=1048576):∀ (n i:Nat) (out:List Int),a.length - i < n->i<=a.length->out.length=i->Low out->
  KQ N n (a,(i:Int),out)=match starts ((xW a).drop i) out with
   | none=>some ([],false)
   | some r=>some (r,true):=by
 intro n;induction n with
 | zero=>intro i out h;omega
 | succ n ih=>
  intro i out hn hi ho hl;rw [KQ];by_cases h:i < a.length
  .have hkl:=hk _ (mQ h);simp only [gJ h,aH,bS h,av];rw [wrap64 (n:=(a[i].Kids.length:Int) - 1) ah ah,awQ N _ a i h ah out ho hl hkl N _ _ ah (cZ _) ah ah,List.take_length,awP h,starts,ho];cases hw:walk out (i:Int) a[i].Kids.reverse with
   | none=>rfl
   | some s=>
    have hs:=aff hl _ ah hw;simp only [av];exact ih (i+1) _ ah ah (by simp [ho]) (hl.snoc hs.1 ah)
  .simp only [iW h,aG];have:(xW a).drop i=[]:=drop_nil (by simpa [xW] using h);rw [this];rfl
def ags (r:List Int) (n:Nat):Bool:=r[n - 1]?==some 0
def za (a:List aK):Bool:=
 (decide (1<=a.length)&&decide (a.length<=400))&&(match starts (xW a) [] with
  | none=>false
  | some r=>ags r a.length)
def awS (a b c:Int):Bu a b c=some (decide (a>=b)&&decide (a<=c)):=by
 unfold Bu;cases decide (a>=b)<;>rfl
def LC (a b c:Int):oI a b c=some (decide (a>=b)&&decide (a<=c)):=by
 unfold oI;cases decide (a>=b)<;>rfl
def awT {a:List aK} (hs:∀ x,x∈a->yF x):∀ x,x∈a->x.Kids.length<=1048576:=fun x hx=>by
 have:=hs x hx;unfold yF at this;omega
def awU (N:Nat) (a:List aK) (hN:1048577 < N) (ha:a.length<=400) (hs:∀ x,x∈a->yF x):aaY N a=match starts (xW a) [] with
  | none=>some ([],false)
  | some r=>some (r,true):=by
 have:=awR N a hN ah (awT hs) N 0 [] ah ah rfl (fun j s h=>by simp at h);rw [zC] at this;exact this
def amV (N:Nat) (a:List aK) (hN:1048577 < N) (hs:∀ x,x∈a->yF x):RX N a=some (za a):=by
 unfold RX za;rw [LC,av];by_cases h1:1<=a.length
 .by_cases h2:a.length<=400
  .have e1:decide ((a.length:Int)>=1)=true:=bT;have e2:decide ((a.length:Int)<=400)=true:=bT;simp only [e1,e2,ajw,kE,aG,h1,h2,ajx,rO,awU N a hN h2 hs];cases hst:starts (xW a) [] with
   | none=>rfl
   | some r=>
    obtain ⟨⟨m,hm,hml⟩,_,_⟩:=afg _ (fun j s h=>by simp at h) hst;have hrl:r.length=a.length:=by rw [hm];simp [hml,xW]
    have hlt:a.length - 1 < r.length:=ah;have hx:ix r ((a.length:Int) - 1)=some r[a.length - 1]:=by
     have:=bS hlt;rwa [show ((a.length - 1:Nat):Int)=(a.length:Int) - 1 by omega] at this
    simp only [av,aH];rw [wrap64 (n:=(a.length:Int) - 1) ah ah,hx,av,av];simp only [ags,fQ hlt];congr 1
  .have e2:decide ((a.length:Int)<=400)=false:=bT;simp [e2,h2]
 .have e1:decide ((a.length:Int)>=1)=false:=bT;simp [e1,h1]
def FK (n:aK):Prop:=
 (n.Kind=28->2<=n.Kids.length/\n.Kids.length<=3)/\(n.Kind=29->n.Kids.length=2)/\(n.Kind=30->n.Kids.length=2)/\(n.Kind=31->n.Kids.length=4)/\
 (n.Kind=42->n.Op=1/\n.Kids.length=1\/n.Op=2/\n.Kids.length=1\/n.Op=3/\n.Kids.length=2)/\(n.Kind=43->n.Op=1/\n.Kids.length=2\/n.Op=3/\n.Kids.length=3)/\
 (n.Kind=12->n.Kids.length=2/\n.Text=[]/\n.Other=[])/\(n.Kind=11->n.Kids.length=1/\n.Text=[]/\n.Other=[])
def FK.other {n:aK} (h:n.Kind≠28/\n.Kind≠29/\n.Kind≠30/\n.Kind≠31/\n.Kind≠42/\n.Kind≠43/\n.Kind≠12/\n.Kind≠11):FK n:=
 ⟨fun e=>absurd e h.1,fun e=>absurd e h.2.1,fun e=>absurd e h.2.2.1,fun e=>absurd e h.2.2.2.1,fun e=>absurd e h.2.2.2.2.1,fun e=>absurd e h.2.2.2.2.2.1,fun e=>absurd e h.2.2.2.2.2.2.1,fun e=>absurd e h.2.2.2.2.2.2.2⟩
def nR (k:Int):Bool:=decide (k>=1)&&decide (k<=15)
def eT (k:Int):Bool:=k==1||(k==5||k==6)
def acT (k:Int):oU k=some (nR k):=by unfold oU;rw [LC];rfl
def ahH (k:Int):IC k=some (eT k):=by
 unfold IC eT;cases (k==1)<;>cases (k==5)<;>rfl
def apg {k:Int} (h:eT k=true):nR k=true:=by
 unfold eT at h;simp only [lH,mR] at h;rcases h with rfl|rfl|rfl<;>rfl
mutual
def aZ:aA->Nat
 | ⟨_,_,_,_,ks⟩=>aW ks+1
def aW:List aA->Nat
 | []=>0
 | t::ts=>aZ t+aW ts
end
mutual
def bN (b:Nat):aA->List aK
 | ⟨k,o,t,p,ks⟩=>jB b ks++[⟨k,o,t,p,lW b ks⟩]
def jB (b:Nat):List aA->List aK
 | []=>[]
 | t::ts=>bN b t++jB (b+aZ t) ts
def lW (b:Nat):List aA->List Int
 | []=>[]
 | t::ts=>(((b+aZ t:Nat):Int) - 1)::lW (b+aZ t) ts
end
mutual
def nN {P:aA->Prop} (h:∀ t:aA,(∀ k,k∈t.kids->P k)->P t):∀ t,P t
 | ⟨k,o,x,y,ks⟩=>h ⟨k,o,x,y,ks⟩ (aph h ks)
def aph {P:aA->Prop} (h:∀ t:aA,(∀ k,k∈t.kids->P k)->P t):∀ (ks:List aA) k,k∈ks->P k
 | [],k,hk=>by cases hk
 | t::ts,k,hk=>(fF.1 hk).elim (fun e=>e ▸ nN h t) (aph h ts k)
end
mutual
def BM:∀ (t:aA) (b:Nat),(bN b t).length=aZ t
 | ⟨k,o,x,y,ks⟩,b=>by rw [bN,aZ,jQ,Uo ks b];rfl
def Uo:∀ (ts:List aA) (b:Nat),(jB b ts).length=aW ts
 | [],b=>by rw [jB,aW];rfl
 | t::ts,b=>by rw [jB,aW,jQ,BM t b,Uo ts _]
end
def Yr (t:aA):1<=aZ t:=by cases t;rw [aZ];omega
def Pq (t:aA):aZ t=aW t.kids+1:=by cases t;rw [aZ]
def BL:∀ ts:List aA,ts.length<=aW ts
 | []=>by simp [aW]
 | t::ts=>by have:=Yr t;have:=BL ts;rw [aW];simp only [fT];omega
def Ju:∀ {ts:List aA} {t:aA},t∈ts->aZ t<=aW ts
 | t'::ts,t,h=>by
  rw [aW];rcases fF.1 h with rfl|h
  .omega
  .have:=Ju h;omega
def JD:∀ (a b:List aA),aW (a++b)=aW a+aW b
 | [],b=>by simp [aW]
 | t::a,b=>by rw [wm,aW,aW,JD a b];omega
def apj:∀ (a b:List aA) (s:Nat),jB s (a++b)=jB s a++jB (s+aW a) b
 | [],b,s=>by simp [jB,aW]
 | t::a,b,s=>by rw [wm,jB,jB,aW,apj a b,kC,Kn]
def apk:∀ (a b:List aA) (s:Nat),lW s (a++b)=lW s a++lW (s+aW a) b
 | [],b,s=>by simp [lW,aW]
 | t::a,b,s=>by rw [wm,lW,lW,aW,apk a b,Kn];rfl
def Uq:∀ (ts:List aA) (b:Nat),(lW b ts).length=ts.length
 | [],b=>rfl
 | t::ts,b=>by rw [lW,fT,fT,Uq ts _]
def DN (d:Int) (x:aK):aK:=⟨x.Kind,x.Op,x.Text,x.Other,x.Kids.map (·+d)⟩
def aBi (x:aK):DN 0 x=x:=by
 unfold DN;cases x;simp
def aBj (d e:Int) (x:aK):DN d (DN e x)=DN (e+d) x:=by
 unfold DN;simp only [nW,aK.mk.injEq,true_and];refine qx fun k _=>?_;simp only [Function.comp_apply];omega
mutual
def acL:∀ (t:aA) (b d:Nat),bN (b+d) t=(bN b t).map (DN d)
 | ⟨k,o,x,y,ks⟩,b,d=>by
  rw [bN,bN,vZ,apl ks b d,apm ks b d];rfl
def apl:∀ (ts:List aA) (b d:Nat),jB (b+d) ts=(jB b ts).map (DN d)
 | [],b,d=>rfl
 | t::ts,b,d=>by
  rw [jB,jB,vZ,acL t b d,ZG,apl ts _ d]
def apm:∀ (ts:List aA) (b d:Nat),lW (b+d) ts=(lW b ts).map (·+(d:Int))
 | [],b,d=>rfl
 | t::ts,b,d=>by
  rw [lW,lW,jV,ZG,apm ts _ d];congr 1;omega
end
def aBk (t:aA) (b:Nat):(bN b t).map (DN<|-(b:Int))=bN 0 t:=by
 have:=acL t 0 b;rw [qM] at this;rw [this,nW];refine (qx fun x _=>?_).trans (ML _);simp only [Function.comp_apply,aBj];rw [show (b:Int)+ -(b:Int)=0 by omega,aBi];rfl
def apn:∀ (ts:List aA) (b:Nat) (k:Int),k∈lW b ts->0<=k/\k < b+aW ts
 | [],b,k,h=>by cases h
 | t::ts,b,k,h=>by
  rw [lW] at h;rw [aW];have:=Yr t;rcases fF.1 h with rfl|h
  .omega
  .have:=apn ts _ k h;omega
mutual
def acU:∀ (t:aA) (b:Nat) (x:aK),x∈bN b t->∀ k,k∈x.Kids->0<=k/\k < b+aZ t
 | ⟨kd,o,x,y,ks⟩,b,n,h,k,hk=>by
  rw [bN] at h;rw [aZ];rcases jo.1 h with h|h
  .have:=apo ks b n h k hk;omega
  .rw [nG.1 h] at hk;have:=apn ks b k hk;omega
def apo:∀ (ts:List aA) (b:Nat) (x:aK),x∈jB b ts->∀ k,k∈x.Kids->0<=k/\k < b+aW ts
 | [],b,n,h,k,hk=>by rw [jB] at h;cases h
 | t::ts,b,n,h,k,hk=>by
  rw [jB] at h;rw [aW];rcases jo.1 h with h|h
  .have:=acU t b n h k hk;omega
  .have:=apo ts _ n h k hk;omega
end
mutual
def TA (a:List aK):aA->Nat->Nat->Prop
 | ⟨kd,op,x,y,ts⟩,s,i=>∃ n,a[i]?=some n/\n.Kind=kd/\n.Op=op/\n.Text=x/\n.Other=y/\KA a ts n.Kids s i
def KA (a:List aK):List aA->List Int->Nat->Nat->Prop
 | [],ks,s,e=>ks=[]/\s=e
 | t::ts,ks,s,e=>∃ (k:Nat) (ks':List Int),ks=(k:Int)::ks'/\s<=k/\k < e/\TA a t s k/\KA a ts ks' (k+1) e
end
def part (a:List aK) (s e:Nat):List aK:=(a.drop s).take (e - s)
def apq {a:List aK} {s m e:Nat} (h1:s<=m) (h2:m<=e):part a s m++part a m e=part a s e:=by
 unfold part;rw [show e - s=(m - s)+(e - m) by omega,List.take_add,UQ,show s+(m - s)=m by omega]
def aBl {a:List aK} {i:Nat} {n:aK} (h:a[i]?=some n):part a i (i+1)=[n]:=by
 obtain ⟨hi,rfl⟩:=dK.1 h;unfold part;rw [show i+1 - i=1 by omega,zB hi];rfl
def aBm (a:List aK) (i:Nat):part a i i=[]:=by
 unfold part;simp
def anM (a:List aK):part a 0 a.length=a:=by
 unfold part;simp
def TA.lt {a:List aK} {t:aA} {s i:Nat} (h:TA a t s i):i < a.length:=by
 cases t;rw [TA] at h;obtain ⟨n,hn,_⟩:=h;exact (dK.1 hn).1
mutual
def TA.part {a:List aK}:∀ {t:aA} {s i:Nat},TA a t s i->s<=i/\aZ t=i+1 - s/\part a s (i+1)=bN s t
 | ⟨kd,op,x,y,ts⟩,s,i,h=>by
  rw [TA] at h;obtain ⟨n,hn,rfl,rfl,rfl,rfl,hk⟩:=h;obtain ⟨h1,h2,h3,h4⟩:=KA.part hk;refine ⟨h1,by rw [aZ];omega,?_⟩;rw [bN,<- h3,<- h4,<- apq h1 (Nat.le_succ i),aBl hn]
def KA.part {a:List aK}:∀ {ts:List aA} {ks:List Int} {s e:Nat},KA a ts ks s e->s<=e/\aW ts=e - s/\Go.Proofs.Tryz.part a s e=jB s ts/\ks=lW s ts
 | [],ks,s,e,h=>by
  rw [KA] at h;obtain ⟨rfl,rfl⟩:=h;exact ⟨cZ _,by rw [aW];omega,by rw [aBm,jB],by rw [lW]⟩
 | t::ts,ks,s,e,h=>by
  rw [KA] at h;obtain ⟨k,ks',rfl,h1,h2,ht,hk⟩:=h;obtain ⟨g1,g2,g3⟩:=TA.part ht;obtain ⟨k1,k2,k3,k4⟩:=KA.part hk;have e1:s+aZ t=k+1:=ah;refine ⟨ah,by rw [aW];omega,?_,?_⟩
  .rw [jB,e1,<- g3,<- k3,apq ah ah]
  .rw [lW,e1,<- k4];congr 1;omega
end
mutual
def ahI {a:List aK}:∀ {t t':aA} {s s' i:Nat},TA a t s i->TA a t' s' i->t=t'/\s=s'
 | ⟨kd,op,x,y,ts⟩,⟨kd',op',x',y',ts'⟩,s,s',i,h,h'=>by
  rw [TA] at h h';obtain ⟨n,hn,rfl,rfl,rfl,rfl,hk⟩:=h;obtain ⟨n',hn',rfl,rfl,rfl,rfl,hk'⟩:=h';rw [hn] at hn';cases hn';obtain ⟨rfl,rfl⟩:=apr hk hk';exact ⟨rfl,rfl⟩
def apr {a:List aK}:∀ {ts ts':List aA} {ks:List Int} {s s' e:Nat},KA a ts ks s e->KA a ts' ks s' e->ts=ts'/\s=s'
 | [],[],ks,s,s',e,h,h'=>by
  rw [KA] at h h';exact ⟨rfl,h.2.trans h'.2.symm⟩
 | [],t'::ts',ks,s,s',e,h,h'=>by
  simp only [KA] at h h';obtain ⟨k,ks',e1,_⟩:=h';rw [h.1] at e1;cases e1
 | t::ts,[],ks,s,s',e,h,h'=>by
  simp only [KA] at h h';obtain ⟨k,ks',e1,_⟩:=h;rw [h'.1] at e1;cases e1
 | t::ts,t'::ts',ks,s,s',e,h,h'=>by
  rw [KA] at h h';obtain ⟨k,ks',rfl,_,_,ht,hk⟩:=h;obtain ⟨k2,ks2,e1,_,_,ht',hk'⟩:=h';injection e1 with e1 e2;have:k=k2:=ah;subst this;subst e2;obtain ⟨rfl,rfl⟩:=ahI ht ht';obtain ⟨rfl,_⟩:=apr hk hk';exact ⟨rfl,rfl⟩
end
def aps {a:List aK} {r:List Int} {e:Nat} (ih:∀ k s:Nat,k < e->r[k]?=some (s:Int)->∃ t,TA a t s k):∀ (ks:List Int) (s:Nat),Go.Av.Kids r (s:Int) (e:Int) ks->∃ ts,KA a ts ks s e
  | [],s,h=>by
    simp only [Go.Av.Kids] at h;exact ⟨[],by rw [KA];exact ⟨rfl,ah⟩⟩
  | k::ks,s,h=>by
    obtain ⟨h0,h1,h2,h3,h4⟩:=h;obtain ⟨kn,rfl⟩:=qL (show 0<=k by omega);rw [Ho] at h3;obtain ⟨t,ht⟩:=ih kn s ah h3;obtain ⟨ts,hts⟩:=aps ih ks (kn+1) (by (have:((kn+1:Nat):Int)=(kn:Int)+1:=by omega);rw [this];exact h4);exact ⟨t::ts,by rw [KA];exact ⟨kn,ks,rfl,ah,ah,ht,hts⟩⟩
def apt {a:List aK} {r:List Int} (hl:Low r) (hk:∀ (i:Nat) (hi:i < a.length),∃ s,r[i]?=some s/\Go.Av.Kids r s (i:Int) a[i].Kids):∀ (i s:Nat),i < a.length->r[i]?=some (s:Int)->∃ t,TA a t s i:=by
 intro i;induction i using Nat.strongRecOn with
 | ind i ih=>
  intro s hi hs;obtain ⟨s',hs',hks⟩:=hk i hi;rw [hs] at hs';cases hs';obtain ⟨ts,hts⟩:=aps (a:=a) (r:=r) (e:=i) (fun k s hk' hr=>ih k hk' s ah hr) _ _ hks;exact ⟨⟨a[i].Kind,a[i].Op,a[i].Text,a[i].Other,ts⟩,by rw [TA];exact ⟨a[i],fQ hi,rfl,rfl,rfl,rfl,hts⟩⟩
def Kj {a:List aK} (h:za a=true):1<=a.length/\a.length<=400/\∃ r,starts (xW a) []=some r/\r.length=a.length/\Low r/\
  (∀ i,i < a.length->∃ (t:aA) (s:Nat),r[i]?=some (s:Int)/\TA a t s i)/\∃ t,TA a t 0 (a.length - 1):=by
 unfold za at h;simp only [dL,lG] at h;obtain ⟨⟨h1,h2⟩,h3⟩:=h;cases hst:starts (xW a) [] with
 | none=>rw [hst] at h3;cases h3
 | some r=>
  rw [hst] at h3;obtain ⟨⟨m,hm,hml⟩,hl,hk⟩:=afg _ (fun j s h=>by simp at h) hst;have hrl:r.length=a.length:=by rw [hm];simp [hml,xW]
  have hk':∀ (i:Nat) (hi:i < a.length),∃ s,r[i]?=some s/\Go.Av.Kids r s (i:Int) a[i].Kids:=fun i hi=>by
   obtain ⟨s,e1,e2⟩:=hk i a[i].Kids (by simp [xW,fQ hi]);simp only [zA,qM] at e1 e2;exact ⟨s,e1,e2⟩
  refine ⟨h1,h2,r,rfl,hrl,hl,fun i hi=>?_,?_⟩
  .obtain ⟨s,hs,_⟩:=hk' i hi;have:=(hl i s hs).1;obtain ⟨sn,rfl⟩:=qL this;obtain ⟨t,ht⟩:=apt hl hk' i sn hi hs;exact ⟨t,sn,hs,ht⟩
  .have:r[a.length - 1]?=some ((0:Nat):Int):=by simpa [ags] using h3
   exact apt hl hk' (a.length - 1) 0 ah this
def agw {a:List aK} (h:za a=true):∀ x,x∈a->x.Kids.length<=400/\∀ k,k∈x.Kids->0<=k/\k < a.length:=by
 obtain ⟨h1,h2,r,_,_,_,hT,t,ht⟩:=Kj h;obtain ⟨g1,g2,g3⟩:=ht.part;rw [show a.length - 1+1=a.length by omega,anM] at g3;intro x hx;constructor
 .obtain ⟨i,hi,rfl⟩:=List.getElem_of_mem hx;obtain ⟨t',s,_,ht'⟩:=hT i hi;cases t';rw [TA] at ht';obtain ⟨n,hn,_,_,_,_,hk⟩:=ht';rw [fQ hi] at hn;cases hn;obtain ⟨k1,k2,k3,k4⟩:=hk.part;have:=BL ‹List aA›;rw [k4,Uq];omega
 .intro k hk;rw [g3] at hx;have:=acU t 0 x hx k hk;omega
def apu (t:aA) (G:Nat):∀ (ts:List aA) (j n:Nat) (acc:List aK) (ids:List Int),(∀ k,k∈ts->∀ acc:List aK,acc.length+aZ k<=1000000->(Jj G).Du k acc=some (acc++bN acc.length k))->t.kids.drop j=ts->ts.length < n->
  acc.length+aW ts<=999999->ids.length+ts.length<=1000000->t.kids.length<=1000000->
  Ls G (Jj G) n (t,(j:Int),acc,ids)=some (acc++jB acc.length ts++[⟨t.kind,t.op,t.text,t.other,ids++lW acc.length ts⟩])
 | [],j,n,acc,ids,ih,hd,hn,hacc,apv,htl=>by
  obtain ⟨n,rfl⟩:∃ m,n=m+1:=⟨n - 1,by simp at hn;omega⟩
  have hj: ¬j < t.kids.length:=by
   intro h;rw [drop_cons h] at hd;cases hd
  rw [Ls];simp only [iW hj,aG];rw [gL bT,av];simp [jB,lW]
 | k::ts,j,n,acc,ids,ih,hd,hn,hacc,apv,htl=>by
  simp only [fT] at hn apv;rw [aW] at hacc;obtain ⟨n,rfl⟩:∃ m,n=m+1:=⟨n - 1,ah⟩
  have hj:j < t.kids.length:=by
   cases xA j t.kids.length with
   | inl h=>exact h
   | inr h=>rw [AJ h] at hd;cases hd
  rw [drop_cons hj] at hd;injection hd with hd1 hd2;have hsz:=Yr k;have hlen:(acc++bN acc.length k).length=acc.length+aZ k:=by rw [jQ,BM]
  rw [Ls];simp only [gJ hj,aH,bS hj,hd1,av];rw [ih k aF acc ah,av,hlen,wrap64 ah ah,gL bT,av,wrap64 ah ah];have:=apu t G ts (j+1) n (acc++bN acc.length k) (ids++[((acc.length+aZ k:Nat):Int) - 1]) (fun k' h'=>ih k'<|by simp [h']) hd2 ah (by rw [hlen];omega) bT htl;rw [hlen] at this;rw [show ((j:Int)+1)=((j+1:Nat):Int) by omega,this,jB,lW];simp only [kC,wm,uS]
def aBn:∀ (t:aA) (N:Nat) (acc:List aK),2*aZ t+2<=N->acc.length+aZ t<=1000000->(Jj N).Du t acc=some (acc++bN acc.length t):=by
 intro t;induction t using nN with
 | h t ih=>
  intro N acc hN ha;obtain ⟨M,rfl⟩:∃ M,N=M+1:=⟨N - 1,ah⟩
  have hsz:=Pq t;have htl:=BL t.kids;show Xr M (Jj M) t acc=_;unfold Xr;have:=apu t M t.kids 0 M acc [] (fun k hk acc' ha'=>ih k hk M acc' (by have:=Ju hk;omega) ha') rfl ah ah bT ah;refine Hw this ?_;obtain ⟨kd,op,x,y,ts⟩:=t;rw [bN];simp
def agY (N:Nat) (t:aA) (hN:2*aZ t+2<=N) (h:aZ t<=1000000):Lu N t=some (bN 0 t):=by
 unfold Lu;have:=aBn t N [] hN (by simpa using h);show Option.bind ((Jj N).Du t []) _=_;rw [this];simp
def aBo (N:Nat) (kb:(List aK×Int×Int×List aK)->Option (List aK)) (a:List aK) (d:Int) (i:Nat) (hi:i < a.length) (hi2:i<=1048576) (out:List aK) (ho:out.length=i) (hk:a[i].Kids.length<=1048576)
  (hr:∀ k,k∈a[i].Kids-> -9223372036854775808<=k+d/\k+d<=9223372036854775807):
  ∀ (n j:Nat) (ks:List Int),a[i].Kids.length - j < n->j<=a[i].Kids.length->ks.length=j->
   Np N kb n (a,d,(i:Int),out,a[i],(j:Int),ks)=kb (a,d,((i+1:Nat):Int),out++[⟨a[i].Kind,a[i].Op,a[i].Text,a[i].Other,ks++(a[i].Kids.drop j).map (·+d)⟩]):=by
 intro n;induction n with
 | zero=>intro j ks h;omega
 | succ n ih=>
  intro j ks hn hj hks;rw [Np,bS hi,av];by_cases h:j < a[i].Kids.length
  .have hx:=hr _ (mQ h);simp only [gJ h,aH,bS hi,bS h,av,Nh h<|by simp only [maxLen];omega];rw [wrap64 hx.1 hx.2,gL bT,av,ih (j+1) _ ah ah (by simp [hks]),drop_cons h];simp only [jV,kC,wm,uS]
  .simp only [iW h,aG];rw [gL bT,av,drop_nil h,wrap64 ah ah];simp
def aBp (N:Nat) (a:List aK) (d:Int) (hN:1048577 < N) (ha:a.length<=1048576) (hs:∀ x,x∈a->x.Kids.length<=1048576) (hr:∀ x,x∈a->∀ k,k∈x.Kids-> -9223372036854775808<=k+d/\k+d<=9223372036854775807):
  ∀ (n i:Nat) (out:List aK),a.length - i < n->i<=a.length->out.length=i->Il N n (a,d,(i:Int),out)=some (out++(a.drop i).map (DN d)):=by
 intro n;induction n with
 | zero=>intro i out h;omega
 | succ n ih=>
  intro i out hn hi ho;rw [Il];by_cases h:i < a.length
  .have hx:=hs _ (mQ h);simp only [gJ h,aH,bS h,av];have:=aBo N (Il N n) a d i h ah out ho ah (hr _<|mQ h) N 0 [] ah ah rfl;simp only [zC,uS] at this;refine Hw this ?_;rw [ih (i+1) _ ah ah (by simp [ho]),drop_cons h];simp only [jV,kC,wm,uS,DN]
  .simp only [iW h,aG];rw [drop_nil h];simp
def aBq (N:Nat) (a:List aK) (d:Int) (hN:1048577 < N) (ha:a.length<=1048576) (hs:∀ x,x∈a->x.Kids.length<=1048576) (hr:∀ x,x∈a->∀ k,k∈x.Kids-> -9223372036854775808<=k+d/\k+d<=9223372036854775807):
  VJ N a d=some (a.map<|DN d):=by
 have:=aBp N a d hN ha hs hr N 0 [] ah ah rfl;rw [zC,uS] at this;exact this
mutual
def Yd:∀ (t:aA) (b:Nat) (x:aK),x∈bN b t->x.Kids.length < aZ t
 | ⟨kd,o,x,y,ks⟩,b,n,h=>by
  rw [bN] at h;rw [aZ];rcases jo.1 h with h|h
  .have:=apw ks b n h;omega
  .rw [nG.1 h];have:=BL ks;simp only [Uq];omega
def apw:∀ (ts:List aA) (b:Nat) (x:aK),x∈jB b ts->x.Kids.length < aW ts
 | [],b,n,h=>by rw [jB] at h;cases h
 | t::ts,b,n,h=>by
  rw [jB] at h;rw [aW];rcases jo.1 h with h|h
  .have:=Yd t b n h;omega
  .have:=apw ts _ n h;omega
end
def aBr (N:Nat) (t:aA) (b d:Nat) (hN:1048577 < N) (h:b+d+aZ t<=1000000):VJ N (bN b t) (d:Int)=some (bN (b+d) t):=by
 rw [acL];exact aBq N _ _ hN (by rw [BM];omega) (fun x hx=>by have:=Yd t b x hx;omega) fun x hx k hk=>by have:=acU t b x hx k hk;omega
def apx (N:Nat) (n0:aK) (ts:List aA) (hN:1048577 < N) (hsz:aW ts<=900000):∀ (rest done:List aA) (n:Nat),done++rest=ts->rest.length < n->
  KI N n (ts.map<|bN 0,n0,(done.length:Int),jB 0 done,lW 0 done)=some (bN 0 ⟨n0.Kind,n0.Op,n0.Text,n0.Other,ts⟩)
 | [],done,n,hd,hn=>by
  obtain ⟨n,rfl⟩:∃ m,n=m+1:=⟨n - 1,by simp at hn;omega⟩
  rw [pQ] at hd;subst hd;have hl:=BL done;have: ¬done.length < (done.map<|bN 0).length:=aF;rw [KI];simp only [iW this,aG];rw [gL (by rw [Uo];simp;omega),av,bN]
 | t::rest,done,n,hd,hn=>by
  simp only [fT] at hn;obtain ⟨n,rfl⟩:∃ m,n=m+1:=⟨n - 1,ah⟩
  have hlt:done.length < (ts.map<|bN 0).length:=by rw [<- hd];simp
  have hlt2:done.length < ts.length:=by simpa using hlt
  have hx:(ts.map<|bN 0)[done.length]'hlt=bN 0 t:=by simp [<- hd]
  have hsum:aW done+aZ t+aW rest=aW ts:=by rw [<- hd,JD,aW];omega
  have hl:=BL done;have hp:=Yr t;rw [KI];simp only [gJ hlt,aH,bS hlt,av,hx,Uo];have hsh:=aBr N t 0 (aW done) hN ah;rw [qM] at hsh;rw [hsh,av,gL (by rw [Uo,BM];omega),av,jQ,Uo,BM,wrap64 (n:=((aW done+aZ t:Nat):Int) - 1) ah ah,gL (by rw [Uq];simp;omega),av,wrap64 ah ah];have:=apx N n0 ts hN hsz rest (done++[t]) n (by simpa using hd) ah;rw [apj,apk,qM] at this;simp only [jB,lW,pQ,jQ,fT,zA] at this;exact this
def aoQ (N:Nat) (n0:aK) (ts:List aA) (hN:1048577 < N) (hsz:aW ts<=900000):iN N n0 (ts.map<|bN 0)=some (bN 0 ⟨n0.Kind,n0.Op,n0.Text,n0.Other,ts⟩):=
 apx N n0 ts hN hsz ts [] N rfl (by have:=BL ts;omega)
mutual
def jU:aA->Nat
 | ⟨_,_,_,_,ks⟩=>jm ks+1
def jm:List aA->Nat
 | []=>0
 | t::ts=>max (jU t) (jm ts)
end
mutual
def ahJ:∀ t:aA,jU t<=aZ t
 | ⟨k,o,x,y,ks⟩=>by have:=apy ks;rw [jU,aZ];omega
def apy:∀ ts:List aA,jm ts<=aW ts
 | []=>by rw [jm,aW];omega
 | t::ts=>by have:=ahJ t;have:=apy ts;rw [jm,aW];omega
end
def aBs (t:aA):jU t=jm t.kids+1:=by cases t;rw [jU]
def apz (t:aA) (G:Nat) (hsz:aZ t<=100000):∀ (ts:List aA) (j n m:Nat),(∀ k,k∈ts->(Lr G).zW k=some (jU k:Int))->t.kids.drop j=ts->ts.length < n->m<=100000->
  Lp G (Lr G) n (t,(m:Int),(j:Int))=some (((max m (jm ts)+1:Nat):Int))
 | [],j,n,m,ih,hd,hn,hm=>by
  obtain ⟨n,rfl⟩:∃ m,n=m+1:=⟨n - 1,by simp at hn;omega⟩
  have hj: ¬j < t.kids.length:=by
   intro h;rw [drop_cons h] at hd;cases hd
  rw [Lp];simp only [iW hj,aG];rw [wrap64 ah ah,jm];congr 1;omega
 | k::ts,j,n,m,ih,hd,hn,hm=>by
  simp only [fT] at hn;obtain ⟨n,rfl⟩:∃ m,n=m+1:=⟨n - 1,ah⟩
  have hj:j < t.kids.length:=by
   cases xA j t.kids.length with
   | inl h=>exact h
   | inr h=>rw [AJ h] at hd;cases hd
  have hjl:t.kids.length<=100000:=by have:=BL t.kids;have:=Pq t;omega
  have hmem:k∈t.kids:=by
   have:k∈t.kids.drop j:=by rw [hd];simp
   exact List.mem_of_mem_drop this
  have hkd:jU k<=100000:=by have:=ahJ k;have:=Ju hmem;have:=Pq t;omega
  rw [drop_cons hj] at hd;injection hd with hd1 hd2;rw [Lp];simp only [gJ hj,aH,bS hj,hd1,av];rw [ih k aF,av,wrap64 ah ah];have hmax:(if (jU k:Int) > (m:Int) then (jU k:Int) else (m:Int))=((max m (jU k):Nat):Int):=by split<;>omega
  rw [hmax,show ((j:Int)+1)=((j+1:Nat):Int) by omega,apz t G hsz ts (j+1) n (max m<|jU k) (fun k' h'=>ih k'<|by simp [h']) hd2 ah ah,jm,Nat.max_assoc]
def anW:∀ (t:aA) (N:Nat),2*aZ t+2<=N->aZ t<=100000->(Lr N).zW t=some (jU t:Int):=by
 intro t;induction t using nN with
 | h t ih=>
  intro N hN hsz;obtain ⟨M,rfl⟩:∃ M,N=M+1:=⟨N - 1,ah⟩
  have h1:=Pq t;have h2:=BL t.kids;show Xp M (Lr M) t=_;unfold Xp;have:=apz t M hsz t.kids 0 M 0 (fun k hk=>ih k hk M (by have:=Ju hk;omega) (by have:=Ju hk;omega)) rfl ah ah;refine Hw this ?_;rw [aBs,Nat.zero_max]
def apA (a:List aK) (d:List Int):Prop:=∀ (j:Nat) (v:Int),d[j]?=some v->∃ t s,TA a t s j/\v=jU t
def apB (N:Nat) (kb:(List aK×Int×List Int)->Option Int) (a:List aK) (ha:a.length<=400) (i:Nat) (hi:i < a.length) (d:List Int) (hd:d.length=i) (hok:apA a d) (hkl:a[i].Kids.length<=400):∀ (ts:List aA) (j n s m:Nat),KA a ts (a[i].Kids.drop j) s i->j<=a[i].Kids.length->ts.length < n->m<=1000->aW ts<=400->
  KR N kb n (a,(i:Int),d,(m:Int),(j:Int))=kb (a,((i+1:Nat):Int),d++[((max m (jm ts+(if ts=[] then 0 else 1)):Nat):Int)])
 | [],j,n,s,m,h,hj,hn,hm,hsz=>by
  simp only [KA] at h;obtain ⟨n,rfl⟩:∃ m,n=m+1:=⟨n - 1,by simp at hn;omega⟩
  have hlt: ¬j < a[i].Kids.length:=by
   intro hlt;rw [drop_cons hlt] at h;cases h.1
  rw [KR,bS hi,av];simp only [iW hlt,aG];rw [gL bT,av,wrap64 ah ah,jm];simp
 | t::ts,j,n,s,m,h,hj,hn,hm,hsz=>by
  simp only [KA] at h;obtain ⟨k,ks',hdk,h1,h2,uE,hka⟩:=h;simp only [fT] at hn;rw [aW] at hsz;obtain ⟨n,rfl⟩:∃ m,n=m+1:=⟨n - 1,ah⟩
  have hlt:j < a[i].Kids.length:=by
   cases xA j a[i].Kids.length with
   | inl h=>exact h
   | inr h=>rw [AJ h] at hdk;cases hdk
  rw [drop_cons hlt] at hdk;injection hdk with hd1 hd2;have hkd:k < d.length:=ah;obtain ⟨t',s',ht',hv⟩:=hok k d[k] (fQ hkd);obtain ⟨rfl,rfl⟩:=ahI uE ht';have hdl:=ahJ t;rw [KR,bS hi,av];simp only [gJ hlt,aH,bS hi,bS hlt,av,hd1];rw [bS hkd,av,hv,wrap64 (n:=1+(jU t:Int)) ah ah,wrap64 ah ah];have hmax:(if 1+(jU t:Int) > (m:Int) then 1+(jU t:Int) else (m:Int))=((max m (jU t+1):Nat):Int):=by split<;>omega
  rw [hmax,show ((j:Int)+1)=((j+1:Nat):Int) by omega,apB N kb a ha i hi d hd hok hkl ts (j+1) n (k+1) _ (hd2 ▸ hka) ah ah ah ah,jm];have e:max (max m<|jU t+1) (jm ts+(if ts=[] then 0 else 1))=max m (max (jU t) (jm ts)+(if t::ts=[] then 0 else 1)):=by
   have h3:(t::ts=[])=False:=aF;simp only [h3,if_false];split
   .subst_vars;rw [jm];omega
   .omega
  rw [e]
def aBt (N:Nat) (a:List aK) (hN:1000 < N) (ha:a.length<=400) (h1:1<=a.length) (hT:∀ i,i < a.length->∃ (t:aA) (s:Nat),TA a t s i) {t0:aA} (h0:TA a t0 0 (a.length - 1)):∀ (n i:Nat) (d:List Int),a.length - i < n->i<=a.length->d.length=i->apA a d->
  Iu N n (a,(i:Int),d)=some (jU t0:Int):=by
 intro n;induction n with
 | zero=>intro i d h;omega
 | succ n ih=>
  intro i d hn hi hd hok;rw [Iu];by_cases h:i < a.length
  .obtain ⟨t,s,ht⟩:=hT i h;have htp:=ht.part;obtain ⟨kd,op,x,y,ts⟩:=t;have ht2:=ht;rw [TA] at ht2;obtain ⟨n0,hn0,_,_,_,_,hk⟩:=ht2;rw [fQ h] at hn0;cases hn0;obtain ⟨k1,k2,k3,k4⟩:=hk.part;have hl:=BL ts;have hkl:a[i].Kids.length=ts.length:=by rw [k4,Uq]
   rw [aZ] at htp;have:=apB N (Iu N n) a ha i h d hd hok ah ts 0 N s 1 (by simpa using hk) ah ah ah ah;simp only [gJ h,aH];refine Hw this ?_;have e:max 1 (jm ts+(if ts=[] then 0 else 1))=jU ⟨a[i].Kind,a[i].Op,a[i].Text,a[i].Other,ts⟩:=by
    rw [jU];split
    .subst_vars;rw [jm];rfl
    .omega
   refine ih (i+1) _ ah ah (by simp [hd]) fun j v hv=>?_;rw [List.getElem?_append] at hv;split at hv
   .exact hok j v hv
   .rename_i hj;have hji:j=i:=by
     have:=(dK.1 hv).1;simp at this;omega
    subst hji;rw [hd,adM] at hv;simp only [Fz,iG] at hv;refine ⟨_,_,ht,?_⟩;rw [<- hv,e];simp_all [jU]
  .simp only [iW h,aG];have hia:i=a.length:=ah;have hlt:a.length - 1 < d.length:=ah;obtain ⟨t',s',ht',hv⟩:=hok (a.length - 1) _ (fQ hlt);obtain ⟨rfl,_⟩:=ahI h0 ht';have hx:=bS hlt;rw [wrap64 ah ah,show (a.length:Int) - 1=((a.length - 1:Nat):Int) by omega,hx,av,hv]
def anL (N:Nat) (a:List aK) (hN:1048577 < N) (hs:∀ x,x∈a->yF x) (hsh:za a=true) {t:aA} (ht:TA a t 0 (a.length - 1)):Wj N a=some (jU t:Int):=by
 obtain ⟨h1,h2,r,_,_,_,hT,_⟩:=Kj hsh;unfold Wj;rw [amV N a hN hs,hsh,av];exact aBt N a ah h2 h1 (fun i hi=>by obtain ⟨t,s,_,h⟩:=hT i hi;exact ⟨t,s,h⟩) ht N 0 [] ah ah rfl (fun j v h=>by simp at h)
def TA.node {a:List aK} {t:aA} {s i:Nat} (h:TA a t s i):∃ n,a[i]?=some n/\t.kind=n.Kind/\t.op=n.Op/\t.text=n.Text/\t.other=n.Other/\KA a t.kids n.Kids s i/\t.kids.length=n.Kids.length:=by
 obtain ⟨kd,op,x,y,ts⟩:=t;rw [TA] at h;obtain ⟨n,hn,rfl,rfl,rfl,rfl,hk⟩:=h;have h4:=hk.part.2.2.2;exact ⟨n,hn,rfl,rfl,rfl,rfl,hk,by rw [h4,Uq]⟩
def KA.get {a:List aK}:∀ {ts:List aA} {ks:List Int} {s e:Nat},KA a ts ks s e->∀ (j:Nat) (t:aA),ts[j]?=some t->∃ k s':Nat,ks[j]?=some (k:Int)/\TA a t s' k/\k < e
 | [],ks,s,e,h,j,t,hj=>by simp at hj
 | t0::ts,ks,s,e,h,j,t,hj=>by
  rw [KA] at h;obtain ⟨k,ks',rfl,h1,h2,ht,hk⟩:=h;cases j with
  | zero=>
   simp only [Fz,iG] at hj;subst hj;exact ⟨k,s,rfl,ht,h2⟩
  | succ j=>
   simp only [MG] at hj ⊢;exact KA.get hk j t hj
def tx (x:aK):Prop:=x.Text.length<=1048576/\x.Other.length<=1048576
def txT (t:aA):Prop:=∀ x,x∈bN 0 t->tx x
def ayg {a:List aK} (hs:∀ x,x∈a->yF x) {t:aA} {s i:Nat} (h:TA a t s i):txT t:=by
 have h3:=h.part.2.2;intro x hx;rw [<- aBk t s,<- h3] at hx;obtain ⟨y,hy,rfl⟩:=jW.1 hx;have:y∈a:=by
  unfold part at hy;exact List.mem_of_mem_drop (adQ hy)
 have:=hs y this;unfold yF at this;exact ⟨this.1,this.2.1⟩
def PR (a:List aK) (b:Nat) (l:List aK):Prop:=∀ (i:Nat) (x:aK),l[i]?=some x->a[b+i]?=some x
def PR.left {a l1 l2:List aK} {b:Nat} (h:PR a b (l1++l2)):PR a b l1:=fun i x hx=>h i x (by rw [uR (dK.1 hx).1];exact hx)
def PR.right {a l1 l2:List aK} {b:Nat} (h:PR a b (l1++l2)):PR a (b+l1.length) l2:=fun i x hx=>by
 have:=h (l1.length+i) x (by rw [uQ ah,asN];exact hx);rw [Kn];exact this
def dn {α:Type} {c:Bool} {x y:Option α} (hx:∃ v,x=some v) (hy:∃ v,y=some v):∃ v,(bif c then x else y)=some v:=by
 cases c
 .exact hy
 .exact hx
def aCr (o:Int):OH o=Gc o:=rfl
def apE (o:Int):∃ v,Gc o=some v/\v<=12:=by
 have h:∀ {c:Bool} {x y:Option Int},(∃ v,x=some v/\v<=12)->(∃ v,y=some v/\v<=12)->∃ v,(bif c then x else y)=some v/\v<=12:=fun {c x y} hx hy=>by
  cases c
  .exact hy
  .exact hx
 have h4:∀ b,∃ v,La (o,b)=some v/\v<=12:=fun b=>h ⟨10,rfl,aD⟩ (h ⟨12,rfl,aD⟩ ⟨0,rfl,aD⟩);have h3:∀ b,∃ v,Od (o,b)=some v/\v<=12:=fun b=>h ⟨9,rfl,aD⟩ (h (h4 _)<|h (h4 _)<|h4 _);have h2:∀ b,∃ v,EB (o,b)=some v/\v<=12:=fun b=>h ⟨7,rfl,aD⟩ (h ⟨8,rfl,aD⟩<|h (h3 _)<|h3 _);have h1:∀ b,∃ v,Oe (o,b)=some v/\v<=12:=fun b=>h ⟨6,rfl,aD⟩ (h (h2 _)<|h (h2 _)<|h (h2 _)<|h (h2 _)<|h (h2 _)<|h2 _);exact h ⟨3,rfl,aD⟩ (h ⟨4,rfl,aD⟩<|h (h1 _)<|h1 _)
def bg (o:Int):Int:=(Gc o).getD 0
def acV (o:Int):Gc o=some (bg o):=by
 obtain ⟨v,h,_⟩:=apE o;unfold bg;rw [h];rfl
def OY (o:Int):bg o<=12:=by
 obtain ⟨v,h,h2⟩:=apE o;unfold bg;rw [h];exact h2
def lv (k o:Int):Int:=
 bif k==15 then 1 else bif k==14 then 2 else bif k==13 then 5 else bif k==12 then bg o else bif k==11 then 11 else bif k==9||k==10 then 13 else bif k==6 then 14 else
 bif k==1||(k==2||(k==3||(k==4||(k==5||(k==7||k==8))))) then 15 else 0
def ahM (n:aK):Lb n=some (lv n.Kind n.Op):=by
 have h2:∀ b:Bool,Gf b=some (bif b then 15 else 0):=fun b=>by cases b<;>rfl
 unfold Lb lv;rw [acV];cases n.Kind==15
 .cases n.Kind==14
  .cases n.Kind==13
   .cases n.Kind==12
    .cases n.Kind==11
     .simp only [aG,WB];cases n.Kind==9
      .cases n.Kind==10
       .cases n.Kind==6
        .cases n.Kind==1
         .cases n.Kind==2
          .cases n.Kind==3
           .cases n.Kind==4
            .cases n.Kind==5
             .cases n.Kind==7
              .cases n.Kind==8<;>rfl
              .rfl
             .rfl
            .rfl
           .rfl
          .rfl
         .rfl
        .rfl
       .rfl
      .rfl
     .rfl
    .rfl
   .rfl
  .rfl
 .rfl
def posB (p:aN):Bool:=(decide (p.Level>=1)&&decide (p.Level<=15))&&(!p.tV||p.Level==14)
def agV (p:aN):Oc p=some (posB p):=by
 unfold Oc posB;rw [LC,av];cases (decide (p.Level>=1)&&decide (p.Level<=15))<;>cases p.tV<;>rfl
def agX (p:aN):WS p=some (posB p):=by
 unfold WS posB;rw [awS,av];cases (decide (p.Level>=1)&&decide (p.Level<=15))<;>cases p.tV<;>rfl
def dD (k o:Int) (p:aN):Bool:=
 !(!posB p||lv k o==0)&&(!(p.bC&&k==13)&&(!(p.bE&&(k==12&&o==62))&&(!(p.iZ&&(k==11||(k==9||k==4)))&&((p.tV&&k==9)||decide (lv k o>=p.Level)))))
def aCs (c d:Bool):(bif c then some true else some d)=some (c||d):=by cases c<;>rfl
def ahN (c d:Bool):(bif c then some d else some false)=some (c&&d):=by cases c<;>rfl
def aCt (c d:Bool):(bif c then some false else some d)=some (!c&&d):=by cases c<;>rfl
def aCu (n:aK) (p:aN):WC n p=some (dD n.Kind n.Op p):=by
 unfold WC dD;rw [agV,ahM];simp only [av,aCs,ahN,aCt]
def jk (o:Int):Int×Int:=
 bif bg o==3 then (3,4) else bif bg o==4 then (4,5) else bif bg o==6 then (7,7) else bif bg o==7 then (8,8) else bif bg o==8 then (8,9) else bif bg o==9 then (9,10) else bif bg o==10 then (10,11) else (13,11)
def aCv (o:Int):WE o=some (jk o):=by
 unfold WE jk;rw [acV,av];cases bg o==3<;>cases bg o==4<;>cases bg o==6<;>cases bg o==7<;>cases bg o==8<;>cases bg o==9<;>cases bg o==10<;>rfl
def dJ (kd o:Int) (n:Nat) (k:Nat) (p:aN):aN:=
 bif kd==15 then (bif decide (k > 0) then ⟨1,false,p.bC,p.bE,false⟩ else ⟨14,false,p.bC,p.bE,p.iZ⟩)
 else bif kd==14 then (bif decide (k > 0) then ⟨2,false,p.bC,p.bE,false⟩ else ⟨3,false,p.bC,p.bE,p.iZ⟩)
 else bif kd==13 then (bif decide (n > 1) then ⟨1,false,false,false,false⟩ else ⟨5,false,p.bC,p.bE,p.iZ⟩)
 else bif kd==12 then (bif decide (k > 0) then ⟨(jk o).2,false,p.bC,p.bE,o==99⟩ else ⟨(jk o).1,false,p.bC,p.bE,p.iZ⟩)
 else bif kd==11 then ⟨11,false,p.bC,p.bE,false⟩
 else bif kd==9||kd==10 then ⟨14,false,p.bC,p.bE,false⟩
 else bif kd==6 then ⟨14,true,p.bC,p.bE,false⟩ else ⟨1,false,false,false,false⟩
def aCw (n:aK) (k:Nat) (p:aN) (hk:k < n.Kids.length) (hl:n.Kids.length<=1000000) (hp:posB p=true) (hlv:lv n.Kind n.Op≠0):kP n (k:Int) p=some (dJ n.Kind n.Op n.Kids.length k p):=by
 have h0:(lv n.Kind n.Op==0)=false:=by simpa using hlv
 have h1:(decide ((k:Int)>=0)&&decide ((k:Int)<=(n.Kids.length:Int) - 1))=true:=bT;have hg:decide ((k:Int) > 0)=decide (k > 0):=by by_cases h:k > 0<;>simp [h]
 have hz:((k:Int)==0)=!decide (k > 0):=by
  by_cases h:k=0
  .subst h;rfl
  .have h1:((k:Int)==0)=false:=bT;have h2:decide (k > 0)=true:=bT;rw [h1,h2];rfl
 have hn:decide ((n.Kids.length:Int) > 1)=decide (n.Kids.length > 1):=by by_cases h:n.Kids.length > 1<;>simp [h]<;>omega
 unfold kP dJ;rw [wrap64 ah ah,LC,agV,ahM,hp,h1];simp only [av,kE,aG,ahN,hg,hz,hn,h0,aCv];cases n.Kind==15
 .cases n.Kind==14
  .cases n.Kind==13
   .cases n.Kind==12
    .cases n.Kind==11
     .cases n.Kind==9
      .cases n.Kind==10
       .cases h6:n.Kind==6<;>(show Sr (n,p,p.iZ&&!decide (k > 0),false)=_;rw [Sr,h6];rfl)
       .rfl
      .rfl
     .rfl
    .cases decide (k > 0)<;>cases p.iZ<;>rfl
   .have hk0:decide (n.Kids.length > 1)=false->decide (k > 0)=false:=fun h=>by simp at h ⊢;omega
    cases hq:decide (n.Kids.length > 1)
    .rw [hk0 hq];cases p.iZ<;>rfl
    .rfl
  .cases decide (k > 0)<;>cases p.iZ<;>rfl
 .cases decide (k > 0)<;>cases p.iZ<;>rfl
def aCx (N:Nat) (a:List aK) (kb:(List aK×Int)->Option Bool) (i:Nat) (hi:i < a.length) (hi2:i<=100000) (hkl:a[i].Kids.length<=100000):∀ (m j:Nat),a[i].Kids.length - j < m->j<=a[i].Kids.length->IE N kb m (a,(i:Int),(j:Int))=some true->
  kb (a,((i+1:Nat):Int))=some true/\∀ (q:Nat) (hq:q < a[i].Kids.length),j<=q->∃ y,ix a a[i].Kids[q]=some y/\Gb a[i] (q:Int) y.Kind=some true:=by
 intro m;induction m with
 | zero=>intro j h;omega
 | succ m ihm=>
  intro j hm hj hh;rw [IE,bS hi,av] at hh;by_cases hlt:j < a[i].Kids.length
  .simp only [gJ hlt,aH,bS hi,bS hlt,av] at hh;obtain ⟨y1,h1,hh⟩:=dB.1 hh;obtain ⟨y2,h2,hh⟩:=dB.1 hh;cases y2 with
   | false=>cases hh
   | true=>
    simp only [kE,aG] at hh;rw [wrap64 ah ah,show ((j:Int)+1)=((j+1:Nat):Int) by omega] at hh;obtain ⟨r1,r2⟩:=ihm (j+1) ah ah hh;refine ⟨r1,fun q hq hjq=>?_⟩;by_cases hqj:q=j
    .subst hqj;exact ⟨y1,h1,h2⟩
    .exact r2 q hq ah
  .simp only [iW hlt,aG] at hh;rw [wrap64 ah ah] at hh;exact ⟨hh,fun q hq hjq=>ah⟩
def apF (N:Nat) (a:List aK) (x:aK):Prop:=Bq N x=some true/\∀ (q:Nat) (hq:q < x.Kids.length),∃ y,ix a x.Kids[q]=some y/\Gb x (q:Int) y.Kind=some true
def aCz (N:Nat) (a:List aK) (ha:a.length<=400) (hk:∀ x,x∈a->x.Kids.length<=400) (hN:500 < N):∀ (n i:Nat),a.length - i < n->i<=a.length->Br N n (a,(i:Int))=some true->∀ x,x∈a.drop i->apF N a x:=by
 intro n;induction n with
 | zero=>intro i h;omega
 | succ n ih=>
  intro i hn hi h x hx;rw [Br] at h;by_cases hlt:i < a.length
  .simp only [gJ hlt,aH,bS hlt,av] at h;obtain ⟨b,hb,h⟩:=dB.1 h;cases b with
   | false=>cases h
   | true=>
    simp only [kE,aG] at h;have hkl:=hk _ (mQ hlt);obtain ⟨h1,h2⟩:=aCx N a (Br N n) i hlt ah ah N 0 ah ah h;rw [drop_cons hlt] at hx;rcases fF.1 hx with rfl|hx
    .exact ⟨hb,fun q hq=>h2 q hq ah⟩
    .exact ih (i+1) ah ah h1 x hx
  .rw [drop_nil hlt] at hx;cases hx
def anc (N:Nat) (a:List aK) (hN:500 < N) (hsh:za a=true) (h:zL N a=some true):∀ x,x∈a->apF N a x:=by
 unfold zL at h;obtain ⟨y,_,h⟩:=dB.1 h;cases y with
 | true=>cases h
 | false=>
  rw [aG] at h;intro x hx;have h2:=(Kj hsh).2.1;exact aCz N a h2 (fun z hz=>(agw hsh z hz).1) hN N 0 ah ah h x (by rw [zC];exact hx)
def agy (N:Nat) (n:aK) (h:Bq N n=some true):∃ lo hi,Iw n=some (lo,hi)/\Ew n=some true/\lo<=(n.Kids.length:Int)/\(n.Kids.length:Int)<=hi:=by
 unfold Bq at h;obtain ⟨⟨lo,hi⟩,h1,h⟩:=bind_some h;obtain ⟨y6,h2,h⟩:=bind_some h;obtain ⟨y13,h3,h⟩:=bind_some h;cases h;rcases Nc h3 with ⟨_,h3⟩|⟨_,h3⟩
 .obtain ⟨bH,ho,h3⟩:=bind_some h3;rcases Nc h3 with ⟨hc,h3⟩|⟨_,h3⟩
  .subst hc;obtain ⟨qZ,_,h3⟩:=bind_some h3;rcases Nc h3 with ⟨_,h3⟩|⟨_,h3⟩
   .obtain ⟨r16,hl,h3⟩:=bind_some h3;cases h3;rw [LC] at hl;have hl:=kD hl;simp only [dL,lG] at hl;exact ⟨lo,hi,h1,ho,ah,ah⟩
   .cases h3
  .cases h3
 .cases h3
def Ar (n:aK):Prop:=
 (n.Kind=1\/n.Kind=2\/n.Kind=3\/n.Kind=4->n.Kids.length=0)/\(n.Kind=5\/n.Kind=13->1<=n.Kids.length)/\(n.Kind=6\/n.Kind=9\/n.Kind=10\/n.Kind=11->n.Kids.length=1)/\
 (n.Kind=12\/n.Kind=15->n.Kids.length=2)/\(n.Kind=14->n.Kids.length=3)
def aCA (o:Int) (h:Ga o=some true):bg o≠0:=by
 have hk:∀ b,rW b=some b:=fun b=>by cases b<;>rfl
 unfold Ga at h;simp only [hk] at h;have hc:o=60\/o=57\/o=58\/o=59\/o=55\/o=56\/o=99\/o=63\/o=48\/o=47\/o=50\/o=62\/o=49\/o=67\/o=46\/o=45\/o=44:=by
  have key:∀ (c:Int) (x:Option Bool),(bif (o==c) then some (o==c) else x)=some true->o=c\/x=some true:=fun c x h=>by
   cases hoc:o==c with
   | true=>exact .inl (by simpa using hoc)
   | false=>rw [hoc] at h;exact .inr h
  rcases key _ _ h with e|h;· exact .inl e
  rcases key _ _ h with e|h;· simp [e]
  rcases key _ _ h with e|h;· simp [e]
  rcases key _ _ h with e|h;· simp [e]
  rcases key _ _ h with e|h;· simp [e]
  rcases key _ _ h with e|h;· simp [e]
  rcases key _ _ h with e|h;· simp [e]
  rcases key _ _ h with e|h;· simp [e]
  rcases key _ _ h with e|h;· simp [e]
  rcases key _ _ h with e|h;· simp [e]
  rcases key _ _ h with e|h;· simp [e]
  rcases key _ _ h with e|h;· simp [e]
  rcases key _ _ h with e|h;· simp [e]
  rcases key _ _ h with e|h;· simp [e]
  rcases key _ _ h with e|h;· simp [e]
  rcases key _ _ h with e|h;· simp [e]
  have:=kD h;have e:o=44:=by simpa using this
  simp [e]
 rcases hc with e|e|e|e|e|e|e|e|e|e|e|e|e|e|e|e|e<;>subst e<;>decide
def axq (N:Nat) (n:aK) (h:Bq N n=some true) (he:nR n.Kind=true):Ar n/\lv n.Kind n.Op≠0:=by
 obtain ⟨lo,hi,h1,h2,h3,h4⟩:=agy N n h;have hc:n.Kind=1\/n.Kind=2\/n.Kind=3\/n.Kind=4\/n.Kind=5\/n.Kind=6\/n.Kind=7\/n.Kind=8\/n.Kind=9\/n.Kind=10\/n.Kind=11\/n.Kind=12\/n.Kind=13\/n.Kind=14\/n.Kind=15:=by
  unfold nR at he;simp only [dL,lG] at he;omega
 have many:∀ (a b:Int),Iw n=some (a,b)->a<=(n.Kids.length:Int)/\(n.Kids.length:Int)<=b:=fun a b hm=>by
  rw [hm] at h1;cases h1;exact ⟨h3,h4⟩
 have val:∀ (c:Int) (r:Int×Int),n.Kind=c->(∀ m:aK,m.Kind=c->Iw m=some r)->r.1<=(n.Kids.length:Int)/\(n.Kids.length:Int)<=r.2:=fun c r e hm=>many _ _ (hm n e);have step:∀ (c:Int),n.Kind=c->Iw n=Iw ⟨c,n.Op,n.Text,n.Other,n.Kids⟩:=fun c e=>by
  obtain ⟨k,o,x,y,ks⟩:=n;subst e;rfl
 have opS:n.Kind=12->Ew n=Option.bind (Ga n.Op) (fun wO=>some wO):=fun e=>by
  obtain ⟨k,o,x,y,ks⟩:=n;subst e;rfl
 unfold Ar;rcases hc with e|e|e|e|e|e|e|e|e|e|e|e|e|e|e;all_goals
  have hm:=step _ e;simp only [e]
 case inl=>
  have hq:=many 0 0 (hm.trans rfl);refine ⟨⟨fun h=>ah,fun h=>ah,fun h=>ah,fun h=>ah,fun h=>ah⟩,?_⟩;intro h;have h:(15:Int)=0:=h;omega
 case inr.inl=>
  have hq:=many 0 0 (hm.trans rfl);refine ⟨⟨fun h=>ah,fun h=>ah,fun h=>ah,fun h=>ah,fun h=>ah⟩,?_⟩;intro h;have h:(15:Int)=0:=h;omega
 case inr.inr.inl=>
  have hq:=many 0 0 (hm.trans rfl);refine ⟨⟨fun h=>ah,fun h=>ah,fun h=>ah,fun h=>ah,fun h=>ah⟩,?_⟩;intro h;have h:(15:Int)=0:=h;omega
 case inr.inr.inr.inl=>
  have hq:=many 0 0 (hm.trans rfl);refine ⟨⟨fun h=>ah,fun h=>ah,fun h=>ah,fun h=>ah,fun h=>ah⟩,?_⟩;intro h;have h:(15:Int)=0:=h;omega
 case inr.inr.inr.inr.inl=>
  have hq:=many 1 6 (hm.trans rfl);refine ⟨⟨fun h=>ah,fun h=>ah,fun h=>ah,fun h=>ah,fun h=>ah⟩,?_⟩;intro h;have h:(15:Int)=0:=h;omega
 case inr.inr.inr.inr.inr.inl=>
  have hq:=many 1 1 (hm.trans rfl);refine ⟨⟨fun h=>ah,fun h=>ah,fun h=>ah,fun h=>ah,fun h=>ah⟩,?_⟩;intro h;have h:(14:Int)=0:=h;omega
 case inr.inr.inr.inr.inr.inr.inl=>
  have hq:=many 0 6 (hm.trans rfl);refine ⟨⟨fun h=>ah,fun h=>ah,fun h=>ah,fun h=>ah,fun h=>ah⟩,?_⟩;intro h;have h:(15:Int)=0:=h;omega
 case inr.inr.inr.inr.inr.inr.inr.inl=>
  have hq:=many 0 6 (hm.trans rfl);refine ⟨⟨fun h=>ah,fun h=>ah,fun h=>ah,fun h=>ah,fun h=>ah⟩,?_⟩;intro h;have h:(15:Int)=0:=h;omega
 case inr.inr.inr.inr.inr.inr.inr.inr.inl=>
  have hq:=many 1 1 (hm.trans rfl);refine ⟨⟨fun h=>ah,fun h=>ah,fun h=>ah,fun h=>ah,fun h=>ah⟩,?_⟩;intro h;have h:(13:Int)=0:=h;omega
 case inr.inr.inr.inr.inr.inr.inr.inr.inr.inl=>
  have hq:=many 1 1 (hm.trans rfl);refine ⟨⟨fun h=>ah,fun h=>ah,fun h=>ah,fun h=>ah,fun h=>ah⟩,?_⟩;intro h;have h:(13:Int)=0:=h;omega
 case inr.inr.inr.inr.inr.inr.inr.inr.inr.inr.inl=>
  have hq:=many 1 1 (hm.trans rfl);refine ⟨⟨fun h=>ah,fun h=>ah,fun h=>ah,fun h=>ah,fun h=>ah⟩,?_⟩;intro h;have h:(11:Int)=0:=h;omega
 case inr.inr.inr.inr.inr.inr.inr.inr.inr.inr.inr.inl=>
  have hq:=many 2 2 (hm.trans rfl);refine ⟨⟨fun h=>ah,fun h=>ah,fun h=>ah,fun h=>ah,fun h=>ah⟩,?_⟩;have h5:=opS e;rw [h2] at h5;have h6:Ga n.Op=some true:=by
   cases hb:Ga n.Op with
   | none=>rw [hb] at h5;cases h5
   | some v=>rw [hb] at h5;cases h5;rfl
  exact aCA n.Op h6
 case inr.inr.inr.inr.inr.inr.inr.inr.inr.inr.inr.inr.inl=>
  have hq:=many 1 6 (hm.trans rfl);refine ⟨⟨fun h=>ah,fun h=>ah,fun h=>ah,fun h=>ah,fun h=>ah⟩,?_⟩;intro h;have h:(5:Int)=0:=h;omega
 case inr.inr.inr.inr.inr.inr.inr.inr.inr.inr.inr.inr.inr.inl=>
  have hq:=many 3 3 (hm.trans rfl);refine ⟨⟨fun h=>ah,fun h=>ah,fun h=>ah,fun h=>ah,fun h=>ah⟩,?_⟩;intro h;have h:(2:Int)=0:=h;omega
 case inr.inr.inr.inr.inr.inr.inr.inr.inr.inr.inr.inr.inr.inr=>
  have hq:=many 2 2 (hm.trans rfl);refine ⟨⟨fun h=>ah,fun h=>ah,fun h=>ah,fun h=>ah,fun h=>ah⟩,?_⟩;intro h;have h:(1:Int)=0:=h;omega
def axt (x:aK) (q:Nat) (kd:Int) (h:Gb x (q:Int) kd=some true) (he:nR x.Kind=true):nR kd=true/\((x.Kind=9\/x.Kind=10\/(x.Kind=15/\q=0))->eT kd=true):=by
 have hc:x.Kind=1\/x.Kind=2\/x.Kind=3\/x.Kind=4\/x.Kind=5\/x.Kind=6\/x.Kind=7\/x.Kind=8\/x.Kind=9\/x.Kind=10\/x.Kind=11\/x.Kind=12\/x.Kind=13\/x.Kind=14\/x.Kind=15:=by
  unfold nR at he;simp only [dL,lG] at he;omega
 have other:Gb x (q:Int) kd=Option.bind (oU kd) (fun r=>some r)->nR kd=true:=fun e=>by
  rw [e,acT] at h;exact kD h
 have target:Gb x (q:Int) kd=Option.bind (IC kd) (fun r=>some r)->eT kd=true:=fun e=>by
  rw [e,ahH] at h;exact kD h
 obtain ⟨k,o,s,t,ks⟩:=x;rcases hc with e|e|e|e|e|e|e|e|e|e|e|e|e|e|e<;>(have e:k=_:=e;subst e)
 case inr.inr.inr.inr.inr.inr.inr.inr.inl=>
  have:=target rfl;exact ⟨apg this,fun _=>this⟩
 case inr.inr.inr.inr.inr.inr.inr.inr.inr.inl=>
  have:=target rfl;exact ⟨apg this,fun _=>this⟩
 case inr.inr.inr.inr.inr.inr.inr.inr.inr.inr.inr.inr.inr.inr=>
  have e:Gb ⟨15,o,s,t,ks⟩ (q:Int) kd=((oU kd).bind fun iD=>bif iD then bif (decide<|(q:Int) > 0) then some true else ((IC kd).bind fun mH=>some mH) else (some false)).bind fun WA=>some WA:=rfl;rw [e,acT,ahH] at h;simp only [av] at h;cases hk:nR kd with
  | false=>rw [hk] at h;cases h
  | true=>
   rw [hk] at h;refine ⟨rfl,fun hh=>?_⟩;have hq:q=0:=by
    rcases hh with h'|h'|h'
    .have h':(15:Int)=9:=h';omega
    .have h':(15:Int)=10:=h';omega
    .exact h'.2
   subst hq;cases hl:eT kd with
   | true=>rfl
   | false=>rw [hl] at h;cases h
 all_goals
  refine ⟨other rfl,fun hh=>?_⟩;exfalso;simp at hh
def axu (N:Nat) (n:aK) (h:Bq N n=some true) (hk:n.Kind=15):n.Op≠99:=by
 obtain ⟨_,_,_,h2,_,_⟩:=agy N n h;have e:Ew n=Option.bind (CS n.Op) (fun lM=>some lM):=by
  obtain ⟨k,o,x,y,ks⟩:=n;have hk:k=15:=hk;subst hk;rfl
 intro iF;rw [e,iF] at h2;unfold CS at h2;rw [LC] at h2;have h2:=kD h2;revert h2;decide
mutual
def allT (P:aA->Prop):aA->Prop
 | ⟨k,o,x,y,ks⟩=>P ⟨k,o,x,y,ks⟩/\zZ P ks
def zZ (P:aA->Prop):List aA->Prop
 | []=>True
 | t::ts=>allT P t/\zZ P ts
end
mutual
def ajl {P Q:aA->Prop} (h:∀ t,P t->Q t):∀ t:aA,allT P t->allT Q t
 | ⟨k,o,x,y,ks⟩,ht=>by
  rw [allT] at ht ⊢;exact ⟨h _ ht.1,apG h ks ht.2⟩
def apG {P Q:aA->Prop} (h:∀ t,P t->Q t):∀ ts:List aA,zZ P ts->zZ Q ts
 | [],_=>by rw [zZ];trivial
 | t::ts,ht=>by
  rw [zZ] at ht ⊢;exact ⟨ajl h t ht.1,apG h ts ht.2⟩
end
def ahP (p q:aN):Prop:=p.Level=14/\q.Level=14/\p.tV=q.tV/\p.iZ=q.iZ
def abY (p q:aN):Prop:=p=q\/ahP p q
def TQ (k:Int) (p q:aN):Prop:=p=q\/k<=9
def kinds {k:Int} (he:nR k=true):k=1\/k=2\/k=3\/k=4\/k=5\/k=6\/k=7\/k=8\/k=9\/k=10\/k=11\/k=12\/k=13\/k=14\/k=15:=by
 unfold nR at he;simp only [dL,lG] at he;omega
def apH {k o:Int} {p q:aN} (he:nR k=true) (h:ahP p q):dD k o p=dD k o q/\(dD k o p=true->k<=9):=by
 obtain ⟨h1,h2,h3,h4⟩:=h;have hp:posB p=posB q:=by unfold posB;rw [h1,h2,h3]
 have ho:=OY o;have low:lv k o < 14->(k==9)=false->∀ r:aN,r.Level=14->dD k o r=false:=fun hl h9 r hr=>by
  unfold dD;rw [h9,hr];have:decide (lv k o>=14)=false:=bT;rw [this];simp
 rcases kinds he with e|e|e|e|e|e|e|e|e|e|e|e|e|e|e<;>subst e
 case inr.inr.inr.inr.inr.inr.inr.inr.inr.inl=>
  have l:lv 10 o < 14:=by show (13:Int) < 14;decide
  rw [low l rfl p h1,low l rfl q h2];exact ⟨rfl,fun h=>by cases h⟩
 case inr.inr.inr.inr.inr.inr.inr.inr.inr.inr.inl=>
  have l:lv 11 o < 14:=by show (11:Int) < 14;decide
  rw [low l rfl p h1,low l rfl q h2];exact ⟨rfl,fun h=>by cases h⟩
 case inr.inr.inr.inr.inr.inr.inr.inr.inr.inr.inr.inl=>
  have l:lv 12 o < 14:=by show bg o < 14;omega
  rw [low l rfl p h1,low l rfl q h2];exact ⟨rfl,fun h=>by cases h⟩
 case inr.inr.inr.inr.inr.inr.inr.inr.inr.inr.inr.inr.inl=>
  have l:lv 13 o < 14:=by show (5:Int) < 14;decide
  rw [low l rfl p h1,low l rfl q h2];exact ⟨rfl,fun h=>by cases h⟩
 case inr.inr.inr.inr.inr.inr.inr.inr.inr.inr.inr.inr.inr.inl=>
  have l:lv 14 o < 14:=by show (2:Int) < 14;decide
  rw [low l rfl p h1,low l rfl q h2];exact ⟨rfl,fun h=>by cases h⟩
 case inr.inr.inr.inr.inr.inr.inr.inr.inr.inr.inr.inr.inr.inr=>
  have l:lv 15 o < 14:=by show (1:Int) < 14;decide
  rw [low l rfl p h1,low l rfl q h2];exact ⟨rfl,fun h=>by cases h⟩
 all_goals
  refine ⟨?_,fun _=>aD⟩;unfold dD;rw [hp,h1,h2,h3,h4];simp
def anq {k o:Int} {p q:aN} (he:nR k=true) (h:abY p q):dD k o p=dD k o q/\(dD k o p=true->TQ k p q):=by
 rcases h with rfl|h
 .exact ⟨rfl,fun _=>.inl rfl⟩
 .obtain ⟨h1,h2⟩:=apH (o:=o) he h;exact ⟨h1,fun hf=>.inr<|h2 hf⟩
def anp {k o:Int} {n j:Nat} {p q:aN} (he:nR k=true) (h:TQ k p q):abY (dJ k o n j p) (dJ k o n j q):=by
 rcases h with rfl|h9
 .exact .inl rfl
 .rcases kinds he with e|e|e|e|e|e|e|e|e|e|e|e|e|e|e<;>subst e<;>first
   | exact .inl rfl
   | exact .inr ⟨rfl,rfl,rfl,rfl⟩
   | (exfalso;omega)
def Ac {k o:Int} {n j:Nat} {p:aN} (he:nR k=true):posB (dJ k o n j p)=true:=by
 have hs:∀ o,posB ⟨(jk o).1,false,p.bC,p.bE,p.iZ⟩=true/\posB ⟨(jk o).2,false,p.bC,p.bE,o==99⟩=true:=fun o=>by
  unfold jk posB;cases bg o==3<;>cases bg o==4<;>cases bg o==6<;>cases bg o==7<;>cases bg o==8<;>cases bg o==9<;>cases bg o==10<;>exact ⟨rfl,rfl⟩
 rcases kinds he with e|e|e|e|e|e|e|e|e|e|e|e|e|e|e<;>subst e
 case inr.inr.inr.inr.inr.inr.inr.inr.inr.inr.inr.inl=>
  unfold dJ;cases decide (j > 0)
  .exact (hs o).1
  .exact (hs o).2
 case inr.inr.inr.inr.inr.inr.inr.inr.inr.inr.inr.inr.inl=>
  unfold dJ;cases decide (n > 1)<;>rfl
 all_goals (unfold dJ;first|rfl|(cases decide (j > 0)<;>rfl))
def spl (k:Int):List UInt8:=(CX k).getD []
def agz (k:Int):CX k=some (spl k):=by
 obtain ⟨x,h,_⟩:=amS k;unfold spl;rw [h];rfl
def sg (k:Int):aC:=⟨k,spl k,0⟩
def zk (k:Int):jZ k=some (sg k):=by unfold jZ;rw [agz];rfl
def bG:aN:=⟨1,false,false,false,false⟩
def tgt (k:Int) (j:Nat):Bool:=((j:Int)==0)&&((k==9)||((k==10)||(k==15)))
def BK (f:Bool) (k o:Int) (p:aN):Bool:=bif f then (lv k o !=15||k==4) else !dD k o p
def qj (b:Bool) (x y:List aC):List aC:=bif b then sg 32::(y++[sg 33]) else x
def bW:Bool->List (List aC)->List aC
 | _,[]=>[]
 | b,x::xs=>(bif b then [sg 36] else [])++(x++bW true xs)
def fG (k o:Int) (x:List UInt8) (l:List (List aC)):List aC:=
 bif k==1 then [⟨6,x,0⟩] else bif k==2 then [⟨3,x,0⟩] else bif k==3 then [⟨4,x,0⟩] else bif k==4 then [⟨5,x,0⟩]
 else bif k==5 then ⟨6,x,0⟩::sg 34::(bW false l++[sg 35])
 else bif k==7 then ⟨7,x,0⟩::sg 32::(bW false l++[sg 33])
 else bif k==8 then ⟨8,x,0⟩::sg 32::(bW false l++[sg 33])
 else bif k==9 then sg o::l.getD 0 []
 else bif k==11 then sg o::l.getD 0 []
 else bif k==6 then sg 68::l.getD 0 []
 else bif k==10 then l.getD 0 []++[sg o]
 else bif k==13 then (bif decide (l.length > 1) then sg 32::(bW false l++[sg 33]) else l.getD 0 [])++[sg 24,⟨6,x,0⟩]
 else bif k==14 then l.getD 0 []++(sg 65::(l.getD 1 []++(sg 66::l.getD 2 [])))
 else l.getD 0 []++((bif o==99 then [] else [sg o])++l.getD 1 [])
mutual
def lU (f:Bool):aA->aN->List aC
 | ⟨k,o,x,y,ks⟩,p=>fG k o x (dI f k o ks.length 0 p ks)
def dI (f:Bool) (k o:Int) (n j:Nat) (p:aN):List aA->List (List aC)
 | []=>[]
 | t::ts=>(bif tgt k j then lU f t (dJ k o n j p) else qj (BK f t.kind t.op<|dJ k o n j p) (lU f t<|dJ k o n j p) (lU f t bG))::dI f k o n (j+1) p ts
end
def gq (f:Bool) (t:aA) (p:aN):List aC:=qj (BK f t.kind t.op p) (lU f t p) (lU f t bG)
def jM (f:Bool) (k o:Int) (n j:Nat) (p:aN) (t:aA):List aC:=bif tgt k j then lU f t (dJ k o n j p) else gq f t (dJ k o n j p)
def rD (f:Bool) (k o:Int) (n j:Nat) (p:aN) (t:aA) (ts:List aA):dI f k o n j p (t::ts)=jM f k o n j p t::dI f k o n (j+1) p ts:=by rw [dI];rfl
def TT (f:Bool) (k o:Int) (n:Nat) (p:aN):∀ (ts:List aA) (j:Nat),(dI f k o n j p ts).length=ts.length
 | [],j=>by rw [dI];rfl
 | t::ts,j=>by rw [rD,fT,TT f k o n p ts,fT]
def Jq (f:Bool) (t:aA) (p:aN):lU f t p=fG t.kind t.op t.text (dI f t.kind t.op t.kids.length 0 p t.kids):=by
 obtain ⟨k,o,x,y,ks⟩:=t;rw [lU]
def Ab {α:Type} {l:List α} (h:l.length=2):∃ a b,l=[a,b]:=by
 match l,h with
 | [a,b],_=>exact ⟨a,b,rfl⟩
def Pm {α:Type} {l:List α} (h:l.length=3):∃ a b c,l=[a,b,c]:=by
 match l,h with
 | [a,b,c],_=>exact ⟨a,b,c,rfl⟩
structure GN (t:aA):Prop where
 e:nR t.kind=true
 lv:lv t.kind t.op≠0
 a0:t.kind=1\/t.kind=2\/t.kind=3\/t.kind=4->t.kids.length=0
 a1:t.kind=6\/t.kind=9\/t.kind=10\/t.kind=11->t.kids.length=1
 a2:t.kind=12\/t.kind=15->t.kids.length=2
 a3:t.kind=14->t.kids.length=3
 ai:t.kind=5\/t.kind=13->1<=t.kids.length
 le:t.kids.length<=400
 ke:∀ k,k∈t.kids->nR k.kind=true
 kl:∀ k,t.kids[0]?=some k->t.kind=9\/t.kind=10\/t.kind=15->eT k.kind=true
 op:t.kind=15->t.op≠99
def mD {P:aA->Prop} {t:aA} (h:allT P t):P t:=by
 obtain ⟨k,o,x,y,ks⟩:=t;rw [allT] at h;exact h.1
def nO {P:aA->Prop} {t:aA} (h:allT P t):∀ k,k∈t.kids->allT P k:=by
 have key:∀ ts:List aA,zZ P ts->∀ k,k∈ts->allT P k:=by
  intro ts;induction ts with
  | nil=>intro _ k hk;cases hk
  | cons u ts ih=>
   intro h k hk;rw [zZ] at h;rcases fF.1 hk with rfl|hk
   .exact h.1
   .exact ih h.2 k hk
 obtain ⟨k,o,x,y,ks⟩:=t;rw [allT] at h;exact key ks h.2
def abZ {k:Int} (h:eT k=true):k<=9:=by
 unfold eT at h;simp only [lH,mR] at h;omega
def aCB (f:Bool):∀ t:aA,allT GN t->(∀ p q,TQ t.kind p q->lU f t p=lU f t q)/\(∀ p q,abY p q->gq f t p=gq f t q):=by
 intro t;induction t using nN with
 | h t ih=>
  intro h;have g:=mD h;have hk:=nO h;have hB:∀ p q,TQ t.kind p q->lU f t p=lU f t q:=fun p q hr=>by
   have key:∀ (ts:List aA) (j:Nat),(∀ k,k∈ts->k∈t.kids)->(j=0->∀ k,ts[0]?=some k->t.kids[0]?=some k)->dI f t.kind t.op t.kids.length j p ts=dI f t.kind t.op t.kids.length j q ts:=by
    intro ts;induction ts with
    | nil=>intro j _ _;rw [dI,dI]
    | cons u ts ih2=>
     intro j hm h0;have hu:=hm u aF;have hrel:=anp (o:=t.op) (n:=t.kids.length) (j:=j) g.e hr;rw [rD,rD,ih2 (j+1) (fun k hk=>hm k<|by simp [hk]) fun e=>ah];congr 1;unfold jM;cases ht:tgt t.kind j with
     | true=>
      have hj:j=0:=by
       unfold tgt at ht;simp only [dL,mR] at ht;omega
      have Gz:u.kind<=9:=abZ (g.kl u (h0 hj u rfl) (by
       unfold tgt at ht;simp only [dL,lH,mR] at ht;exact ht.2))
      exact (ih u hu<|hk u hu).1 _ _ (.inr Gz)
     | false=>exact (ih u hu<|hk u hu).2 _ _ hrel
   rw [Jq,Jq,key t.kids 0 (fun k hk=>hk) fun _ k hk=>hk]
  refine ⟨hB,fun p q hr=>?_⟩;obtain ⟨h1,h2⟩:=anq (o:=t.op) g.e hr;unfold gq BK;rw [h1];cases f with
  | false=>
   cases hf:dD t.kind t.op q with
   | true=>exact hB p q (h2<|by rw [h1];exact hf)
   | false=>rfl
  | true=>
   cases hx:(lv t.kind t.op !=15||t.kind==4) with
   | true=>rfl
   | false=>
    simp only [aH,qj,aG,hx];simp only [ME,bne_eq_false_iff_eq] at hx;refine hB p q (.inr ?_);have hl:=hx.1;have ho:=OY t.op;rcases kinds g.e with e|e|e|e|e|e|e|e|e|e|e|e|e|e|e<;>rw [e] at hl ⊢<;>first
     | decide
     | (exfalso;simp [lv] at hl;done)
     | (exfalso;simp [lv] at hl;omega)
def acW:∀ (l:List (List aC)) (b:Bool),(bW b l).length<=(l.map List.length).sum+l.length
 | [],b=>by simp [bW]
 | x::xs,b=>by
  have:=acW xs true;rw [bW];cases b<;>simp only [aH,aG,jQ,jV,MO,fT,zA]<;>omega
def aCC (l:List (List aC)) (j:Nat):(l.getD j []).length<=(l.map List.length).sum:=by
 induction l generalizing j with
 | nil=>simp
 | cons x l ih=>
  cases j with
  | zero=>simp
  | succ j=>
   have:=ih j;simp only [List.getD_cons_succ,jV,MO];omega
def aCD (k o:Int) (x:List UInt8) (l:List (List aC)) (h2:k≠14->(l.getD 0 []).length+(l.getD 1 []).length<=(l.map List.length).sum) (h3:(l.getD 0 []).length+(l.getD 1 []).length+(l.getD 2 []).length<=(l.map List.length).sum):(fG k o x l).length<=(l.map List.length).sum+l.length+4:=by
 have c:=acW l false;have g0:=aCC l 0;have key:∀ (b:Bool) (x y:List aC) (n:Nat),x.length<=n->y.length<=n->(bif b then x else y).length<=n:=fun b x y n hx hy=>by cases b<;>assumption
 unfold fG;repeat' (refine key _ _ _ _ ?_ ?_)
 all_goals (try simp only [jQ,fT,zA])
 all_goals (try omega)
 .have:=key (decide<|l.length > 1) (sg 32::(bW false l++[sg 33])) (l.getD 0 []) ((l.map List.length).sum+l.length+2) (by simp only [jQ,fT,zA];omega) ah;omega
 .have:=key (o==99) [] [sg o] 1 aF aF;by_cases h:k=14
  .omega
  .have:=h2 h;omega
def aCE (l:List (List aC)):(l.getD 0 []).length+(l.getD 1 []).length+(l.getD 2 []).length<=(l.map List.length).sum:=by
 match l with
 | []=>simp
 | [a]=>simp
 | [a,b]=>simp
 | a::b::c::r=>simp;omega
def anP (k o:Int) (x:List UInt8) (l:List (List aC)):(fG k o x l).length<=(l.map List.length).sum+l.length+4:=by
 have h:=aCE l;exact aCD k o x l (fun _=>ah) h
mutual
def Us (f:Bool):∀ (t:aA) (p:aN),(lU f t p).length+4<=8*aZ t
 | ⟨k,o,x,y,ks⟩,p=>by
  have h1:=anP k o x (dI f k o ks.length 0 p ks);have h2:=acX f k o ks.length p ks 0;have h3:=TT f k o ks.length p ks 0;rw [lU,aZ];omega
def acX (f:Bool) (k o:Int) (n:Nat) (p:aN):∀ (ts:List aA) (j:Nat),((dI f k o n j p ts).map List.length).sum+ts.length<=8*aW ts
 | [],j=>by rw [dI];simp
 | t::ts,j=>by
  have h1:=acX f k o n p ts (j+1);have h2:=Us f t (dJ k o n j p);have h3:=Us f t bG;rw [dI,aW];simp only [jV,MO,fT];cases tgt k j<;>simp only [aH,aG]
  .unfold qj;cases BK f t.kind t.op (dJ k o n j p)<;>simp only [aH,aG,fT,jQ,zA]<;>omega
  .omega
end
def apI (f:Bool) (t:aA) (p:aN):(gq f t p).length+2<=8*aZ t:=by
 have h2:=Us f t p;have h3:=Us f t bG;unfold gq qj;cases BK f t.kind t.op p<;>simp only [aH,aG,fT,jQ,zA]<;>omega
def DR (f:Bool) (k o:Int) (n j:Nat) (p:aN) (t:aA):(jM f k o n j p t).length+2<=8*aZ t:=by
 unfold jM;have h1:=Us f t (dJ k o n j p);have h2:=apI f t (dJ k o n j p);cases tgt k j<;>simp only [aH,aG]<;>omega
def Yv (a:List aK) (f:Bool) (t:aA):Prop:=∀ (s i M:Nat) (p:aN),TA a t s i->posB p=true->1000+8*aZ t<=M->aZ t<=100000->(dV M).wP ⟨a,f⟩ (i:Int) p=some (lU f t p)
def SpE (a:List aK) (f:Bool) (t:aA):Prop:=∀ (s i M:Nat) (p:aN),TA a t s i->posB p=true->1001+8*aZ t<=M->aZ t<=100000->(dV M).gu ⟨a,f⟩ (i:Int) p=some (gq f t p)
def zw {a:List aK} {f:Bool} {t:aA} (h:Yv a f t):SpE a f t:=by
 intro s i M p hT hp hM hsz;obtain ⟨M,rfl⟩:∃ m,M=m+1:=⟨M - 1,ah⟩
 obtain ⟨n,hn,e1,e2,e3,e4,hka,hkl⟩:=hT.node;have hl2:=Us f t bG;have plain:Option.bind ((dV M).wP ⟨a,f⟩ (i:Int) p) (fun r=>some r)=some (lU f t p):=by rw [h s i M p hT hp ah hsz];rfl
 have r1:(dV M).wP ⟨a,f⟩ (i:Int) (⟨1,false,false,false,false⟩:aN)=some (lU f t bG):=h s i M bG hT rfl ah hsz;have par:((jZ 32).bind fun jv=>Option.bind Ay fun kN=>((dV M).wP ⟨a,f⟩ (i:Int) kN).bind fun Lh=>(app 32 [jv] Lh).bind fun x40=>(jZ 33).bind fun Eu=>(app 32 x40 [Eu]).bind fun Iq=>some Iq)=some (sg 32::(lU f t bG++[sg 33])):=by
  simp only [zk,av,Ay,r1];rw [gL bT,av,gL bT,av];rfl
 show WO M (dV M) ⟨a,f⟩ (i:Int) p=_;unfold WO gq BK qj;simp only [QC hn,av,aCu,ahM,par,<- e1,<- e2];cases f with
 | false=>
  cases dD t.kind t.op p with
  | true=>exact plain
  | false=>rfl
 | true=>
  have e:(bif lv t.kind t.op==15 then some (t.kind !=4) else some false)=some (!(lv t.kind t.op !=15||t.kind==4)):=by
   rw [ahN];congr 1;simp [bne]
  cases hx:(lv t.kind t.op !=15||t.kind==4) with
  | true=>
   rw [hx] at e;cases dD t.kind t.op p<;>simp only [aH,aG,kE,av,e]
  | false=>
   rw [hx] at e;cases dD t.kind t.op p<;>simp only [aH,aG,kE,dN,av,e]<;>exact plain
def ahQ {a:List aK} {f:Bool} {t kid:aA} {n:Nat} (hall:allT GN kid) (h:Yv a f kid) (hl:eT kid.kind=true) (M s i:Nat) (p:aN) (uE:TA a kid s i) (hM:1001+8*aZ kid<=M) (hsz:aZ kid<=100000) (k o:Int) (ht:tgt k 0=true):
  (dV M).zM ⟨a,f⟩ (i:Int)=some (jM f k o n 0 p kid):=by
 obtain ⟨M,rfl⟩:∃ m,M=m+1:=⟨M - 1,ah⟩
 show Option.bind ((dV M).wP ⟨a,f⟩ (i:Int) (⟨14,false,false,false,false⟩:aN)) (fun r2=>some r2)=_;rw [h s i M ⟨14,false,false,false,false⟩ uE rfl ah hsz,av];unfold jM;rw [ht,aH,(aCB f kid hall).1 ⟨14,false,false,false,false⟩ (dJ k o n 0 p)<|.inr<|abZ hl]
def apJ {a:List aK} {f:Bool} (M:Nat) (k o:Int) (n:Nat) (p:aN) (hk:∀ j,dJ k o n j p=bG) (uV:∀ j,tgt k j=false) (ks:List Int) (hlen:ks.length<=400):∀ (ts:List aA) (g j s e:Nat) (acc:List aC),(∀ t,t∈ts->Yv a f t/\1001+8*aZ t<=M/\aZ t<=100000)->KA a ts (ks.drop j) s e->j<=ks.length->ts.length < g->acc.length+8*aW ts<=900000->
  Db M (dV M) g (ks,⟨a,f⟩,(j:Int),acc)=some (acc++bW (decide<|j > 0) (dI f k o n j p ts))
 | [],g,j,s,e,acc,_,hka,hj,hg,ha=>by
  obtain ⟨g,rfl⟩:∃ m,g=m+1:=⟨g - 1,by simp at hg;omega⟩
  rw [KA] at hka;have hlt: ¬j < ks.length:=by
   intro h;rw [drop_cons h] at hka;cases hka.1
  rw [Db];simp only [iW hlt,aG];rw [dI];cases decide (j > 0)<;>simp [bW]
 | t::ts,g,j,s,e,acc,hB,hka,hj,hg,ha=>by
  simp only [fT] at hg;obtain ⟨g,rfl⟩:∃ m,g=m+1:=⟨g - 1,ah⟩
  rw [KA] at hka;obtain ⟨i,ks',e1,h1,h2,h3,h4⟩:=hka;have hlt:j < ks.length:=by
   cases xA j ks.length with
   | inl h=>exact h
   | inr h=>rw [AJ h] at e1;cases e1
  have hget:ks[j]?=some (i:Int):=by
   have:=congrArg (fun l=>l[0]?) e1;simpa using this
  have hdrop:ks.drop (j+1)=ks':=by
   have:=congrArg List.tail e1;simpa using this
  obtain ⟨b1,b2,b3⟩:=hB t aF;rw [aW] at ha;have hte:=apI f t bG;have hkt:jM f k o n j p t=gq f t bG:=by unfold jM;rw [uV,aG,hk]
  have step:∀ acc':List aC,acc'.length<=acc.length+1->Sw M (dV M) (Db M (dV M) g) (ks,(j:Int),⟨a,f⟩,acc')=some (acc'++(jM f k o n j p t++bW true (dI f k o n (j+1) p ts))):=fun acc' hl=>by
   unfold Sw;have r1:(dV M).gu ⟨a,f⟩ (i:Int) (⟨1,false,false,false,false⟩:aN)=some (gq f t bG):=zw b1 s i M bG h3 rfl b2 b3;simp only [QC hget,av,Ay,r1];rw [gL ah,av,wrap64 ah ah,show (j:Int)+1=((j+1:Nat):Int) by omega];have:=apJ M k o n p hk uV ks hlen ts g (j+1) (i+1) e (acc'++gq f t bG) (fun u hu=>hB u<|by simp [hu]) (by rw [hdrop];exact h4) ah ah (by rw [jQ];omega);rw [this,hkt,show decide (j+1 > 0)=true by simp];simp
  rw [Db];simp only [gJ hlt,aH];rw [rD,bW];have hg:decide ((j:Int) > 0)=decide (j > 0):=by by_cases h:j > 0<;>simp [h]
  rw [hg];cases hj:decide (j > 0) with
  | true=>
   simp only [aH,zk,av];rw [gL bT,av];have:=step (acc++[sg 36]) aF;simpa using this
  | false=>
   simp only [aG];have:=step acc ah;simpa using this
def spB (a:List aK) (f:Bool):∀ t:aA,allT GN t->Yv a f t:=by
 intro t;induction t using nN with
 | h t ih=>
  intro hall s i M p hT hp hM aJY;have g:=mD hall;have ahR:=nO hall;have hk:∀ k,k∈t.kids->Yv a f k:=fun k hk=>ih k hk (nO hall k hk);have hsz:=Pq t;have hl:=g.le;obtain ⟨M,rfl⟩:∃ m,M=m+3:=⟨M - 3,ah⟩
  obtain ⟨n,hn,e1,e2,e3,e4,hka,hkl⟩:=hT.node;have hnl:n.Kids.length<=400:=ah;have hkp:∀ j,j < t.kids.length->kP n (j:Int) p=some (dJ t.kind t.op t.kids.length j p):=fun j hj=>by
   have:=aCw n j p ah ah hp (by rw [<- e1,<- e2];exact g.lv);rw [this,<- e1,<- e2,hkl]
  show WI (M+2) (dV<|M+2) ⟨a,f⟩ (i:Int) p=_;unfold WI;simp only [QC hn,av];have bN:∀ (hk1:∀ j,dJ t.kind t.op t.kids.length j p=bG) (hk2:∀ j,tgt t.kind j=false) (Q:Nat),1000+8*aZ t<=Q+3->(dV<|Q+1).Da ⟨a,f⟩ n.Kids=some (bW false<|dI f t.kind t.op t.kids.length 0 p t.kids):=fun hk1 hk2 Q hQ=>by
   show Db Q (dV Q) Q (n.Kids,⟨a,f⟩,((0:Nat):Int),[])=_;rw [apJ Q t.kind t.op t.kids.length p hk1 hk2 n.Kids hnl t.kids Q 0 s i [] (fun k hkm=>⟨hk k hkm,by have:=Ju hkm;omega,by have:=Ju hkm;omega⟩) hka ah (by have:=BL t.kids;omega) bT];rfl
  have hcl:=acW (dI f t.kind t.op t.kids.length 0 p t.kids) false;have hcs:=acX f t.kind t.op t.kids.length p t.kids 0;have hcn:=TT f t.kind t.op t.kids.length p t.kids 0;have named:∀ (tk:aC) (op:Int),0<=op->op<=100->(∀ j,dJ t.kind t.op t.kids.length j p=bG)->(∀ j,tgt t.kind j=false)->(dV<|M+2).EC ⟨a,f⟩ tk n.Kids op=some (tk::sg op::(bW false (dI f t.kind t.op t.kids.length 0 p t.kids)++[sg<|op+1])):=fun tk op o1 o2 hk1 hk2=>by
   show ((jZ op).bind fun r4=>((dV<|M+1).Da ⟨a,f⟩ n.Kids).bind fun r5=>(app 32 [tk,r4] r5).bind fun x6=>(jZ<|IntKind.wrap .i64<|op+1).bind fun r9=>(app 32 x6 [r9]).bind fun x10=>some x10)=_;rw [zk,av,bN hk1 hk2 M ah,av,gL bT,av,wrap64 ah ah,zk,av,gL bT,av];rfl
  rw [Jq];clear ih hT;obtain ⟨k,o,x,y,ks⟩:=t;obtain ⟨nk,no,nx,ny,nks⟩:=n;simp only at e1 e2 e3 e4;subst e1 e2 e3 e4;simp only at hsz hl hka hkl hnl hkp;have hc:=kinds g.e;simp only at hc;rcases hc with e|e|e|e|e|e|e|e|e|e|e|e|e|e|e<;>subst e
  .rfl
  .rfl
  .rfl
  .rfl
  .exact (congrArg (Option.bind · fun wM=>some wM)<|named ⟨6,x,0⟩ 34 aD aD (fun j=>rfl) fun j=>by unfold tgt;simp)
  ·
   have h1:=g.a1 aF;obtain ⟨kid,rfl⟩:=Zz.1 h1;have hm:kid∈(aA.mk 6 o x y [kid]).kids:=aF;have PD:aW [kid]=aZ kid:=by rw [aW,aW];omega
   have hkt:=DR f 6 o 1 0 p kid;simp only [KA] at hka;obtain ⟨c,ks',rfl,h1,h2,uE,rfl,h3⟩:=hka;subst h3;have DT:kP ⟨6,o,x,y,[(c:Int)]⟩ 0 p=some (dJ 6 o 1 0 p):=hkp 0 aF;have r1:(dV<|M+2).gu ⟨a,f⟩ (c:Int) (dJ 6 o 1 0 p)=some (jM f 6 o 1 0 p kid):=zw (hk kid hm) s c (M+2) _ uE (Ac g.e) ah ah;show ((jZ 68).bind fun Bj=>(ix [(c:Int)] 0).bind fun e138=>(kP ⟨6,o,x,y,[(c:Int)]⟩ 0 p).bind fun xE=>((dV<|M+2).gu ⟨a,f⟩ e138 xE).bind fun II=>(app 32 [Bj] II).bind fun Sy=>some Sy)=some (fG 6 o x<|dI f 6 o 1 0 p [kid]);have hix:ix [(c:Int)] 0=some (c:Int):=rfl;rw [zk,av,hix,av,DT,av,r1,av,gL bT,av,rD,dI];rfl
  .exact (congrArg (Option.bind · fun r97=>some r97)<|named ⟨7,x,0⟩ 32 aD aD (fun j=>rfl) fun j=>by unfold tgt;simp)
  .exact (congrArg (Option.bind · fun r99=>some r99)<|named ⟨8,x,0⟩ 32 aD aD (fun j=>rfl) fun j=>by unfold tgt;simp)
  ·
   have h1:=g.a1 aF;obtain ⟨kid,rfl⟩:=Zz.1 h1;have hm:kid∈(aA.mk 9 o x y [kid]).kids:=aF;have PD:aW [kid]=aZ kid:=by rw [aW,aW];omega
   have hkt:=DR f 9 o 1 0 p kid;simp only [KA] at hka;obtain ⟨c,ks',rfl,h1,h2,uE,rfl,h3⟩:=hka;subst h3;have DT:kP ⟨9,o,x,y,[(c:Int)]⟩ 0 p=some (dJ 9 o 1 0 p):=hkp 0 aF;have r1:=ahQ (n:=1) (t:=⟨9,o,x,y,[kid]⟩) (ahR kid hm) (hk kid hm) (g.kl kid rfl<|.inl rfl) (M+2) s c p uE ah ah 9 o rfl;show ((jZ o).bind fun oQ=>(ix [(c:Int)] 0).bind fun WJ=>((dV<|M+2).zM ⟨a,f⟩ WJ).bind fun mW=>(app 32 [oQ] mW).bind fun x107=>some x107)=some (fG 9 o x<|dI f 9 o 1 0 p [kid]);have hix:ix [(c:Int)] 0=some (c:Int):=rfl;rw [zk,av,hix,av,r1,av,gL bT,av,rD,dI];rfl
  ·
   have h1:=g.a1 aF;obtain ⟨kid,rfl⟩:=Zz.1 h1;have hm:kid∈(aA.mk 10 o x y [kid]).kids:=aF;have PD:aW [kid]=aZ kid:=by rw [aW,aW];omega
   have hkt:=DR f 10 o 1 0 p kid;simp only [KA] at hka;obtain ⟨c,ks',rfl,h1,h2,uE,rfl,h3⟩:=hka;subst h3;have DT:kP ⟨10,o,x,y,[(c:Int)]⟩ 0 p=some (dJ 10 o 1 0 p):=hkp 0 aF;have r1:=ahQ (n:=1) (t:=⟨10,o,x,y,[kid]⟩) (ahR kid hm) (hk kid hm) (g.kl kid rfl<|.inr<|.inl rfl) (M+2) s c p uE ah ah 10 o rfl;show ((ix [(c:Int)] 0).bind fun Lf=>((dV<|M+2).zM ⟨a,f⟩ Lf).bind fun Bf=>(jZ o).bind fun rR=>(app 32 Bf [rR]).bind fun x115=>some x115)=some (fG 10 o x<|dI f 10 o 1 0 p [kid]);have hix:ix [(c:Int)] 0=some (c:Int):=rfl;rw [hix,av,r1,av,zk,av,gL bT,av,rD,dI];rfl
  ·
   have h1:=g.a1 aF;obtain ⟨kid,rfl⟩:=Zz.1 h1;have hm:kid∈(aA.mk 11 o x y [kid]).kids:=aF;have PD:aW [kid]=aZ kid:=by rw [aW,aW];omega
   have hkt:=DR f 11 o 1 0 p kid;simp only [KA] at hka;obtain ⟨c,ks',rfl,h1,h2,uE,rfl,h3⟩:=hka;subst h3;have DT:kP ⟨11,o,x,y,[(c:Int)]⟩ 0 p=some (dJ 11 o 1 0 p):=hkp 0 aF;have r1:(dV<|M+2).gu ⟨a,f⟩ (c:Int) (dJ 11 o 1 0 p)=some (jM f 11 o 1 0 p kid):=zw (hk kid hm) s c (M+2) _ uE (Ac g.e) ah ah;show ((jZ o).bind fun Bj=>(ix [(c:Int)] 0).bind fun e138=>(kP ⟨11,o,x,y,[(c:Int)]⟩ 0 p).bind fun xE=>((dV<|M+2).gu ⟨a,f⟩ e138 xE).bind fun II=>(app 32 [Bj] II).bind fun Sy=>some Sy)=some (fG 11 o x<|dI f 11 o 1 0 p [kid]);have hix:ix [(c:Int)] 0=some (c:Int):=rfl;rw [zk,av,hix,av,DT,av,r1,av,gL bT,av,rD,dI];rfl
  ·
   have h1:=g.a2 aF;obtain ⟨kx,ky,rfl⟩:=Ab h1;have hmx:kx∈(aA.mk 12 o x y [kx,ky]).kids:=aF;have PE:ky∈(aA.mk 12 o x y [kx,ky]).kids:=aF;have PD:aW [kx,ky]=aZ kx+aZ ky:=by rw [aW,aW,aW];omega
   have hkt:=DR f 12 o 2 0 p kx;have apK:=DR f 12 o 2 1 p ky;simp only [KA] at hka;obtain ⟨c,ks',rfl,h1,h2,uE,c2,apL,rfl,h3,h4,PG,rfl,h5⟩:=hka;subst h5;have DT:kP ⟨12,o,x,y,[(c:Int),(c2:Int)]⟩ 0 p=some (dJ 12 o 2 0 p):=hkp 0 aF;have Yw:kP ⟨12,o,x,y,[(c:Int),(c2:Int)]⟩ 1 p=some (dJ 12 o 2 1 p):=hkp 1 aF;have hix:ix [(c:Int),(c2:Int)] 0=some (c:Int):=rfl;have Yx:ix [(c:Int),(c2:Int)] 1=some (c2:Int):=rfl;have q1:(dV<|M+1).gu ⟨a,f⟩ (c2:Int) (dJ 12 o 2 1 p)=some (jM f 12 o 2 1 p ky):=zw (hk ky PE) (c+1) c2 (M+1) _ PG (Ac g.e) ah ah;have q2:(dV<|M+2).gu ⟨a,f⟩ (c2:Int) (dJ 12 o 2 1 p)=some (jM f 12 o 2 1 p ky):=zw (hk ky PE) (c+1) c2 (M+2) _ PG (Ac g.e) ah ah;have e2:fG 12 o x (dI f 12 o 2 0 p [kx,ky])=jM f 12 o 2 0 p kx++((bif o==99 then [] else [sg o])++jM f 12 o 2 1 p ky):=by
    rw [rD,rD,dI];rfl
   have r1:(dV<|M+1).gu ⟨a,f⟩ (c:Int) (dJ 12 o 2 0 p)=some (jM f 12 o 2 0 p kx):=zw (hk kx hmx) s c (M+1) _ uE (Ac g.e) ah ah;show Option.bind ((ix [(c:Int),(c2:Int)] 0).bind fun e4=>(kP ⟨12,o,x,y,[(c:Int),(c2:Int)]⟩ 0 p).bind fun r5=>((dV<|M+1).gu ⟨a,f⟩ e4 r5).bind fun r6=>(bif (o !=99) then (jZ o).bind fun jr=>(app 32 r6 [jr]).bind fun WG=>Lc (M+1) (dV<|M+1) (⟨a,f⟩,⟨12,o,x,y,[(c:Int),(c2:Int)]⟩,p,WG) else (Lc (M+1) (dV<|M+1) (⟨a,f⟩,⟨12,o,x,y,[(c:Int),(c2:Int)]⟩,p,r6)))) (fun SA=>some SA)=some (fG 12 o x<|dI f 12 o 2 0 p [kx,ky]);have fin:∀ l:List aC,l.length<=(jM f 12 o 2 0 p kx).length+1->Lc (M+1) (dV<|M+1) (⟨a,f⟩,⟨12,o,x,y,[(c:Int),(c2:Int)]⟩,p,l)=some (l++jM f 12 o 2 1 p ky):=fun l hl=>by
    unfold Lc;simp only [Yx,Yw,q1,av];rw [gL ah,av]
   rw [hix,av,DT,av,r1,av,e2];cases ho:o==99 with
   | true=>
    simp only [bne,ho,kE,aG,aH];rw [fin _ ah];rfl
   | false=>
    simp only [bne,ho,dN,aG,aH,zk,av];rw [gL bT,av,fin _ aF];simp
  ·
   have h1:=g.ai aF;simp only at h1;obtain ⟨kid,rest,rfl⟩:∃ kid rest,ks=kid::rest:=by
    cases ks with
    | nil=>simp at h1
    | cons u us=>exact ⟨u,us,rfl⟩
   have hm:kid∈(aA.mk 13 o x y<|kid::rest).kids:=aF;have aKa:=hka;rw [KA] at hka;obtain ⟨c,ks',rfl,h1,h2,uE,hrest⟩:=hka;have PD:aW (kid::rest)=aZ kid+aW rest:=by rw [aW]
   have DT:kP ⟨13,o,x,y,(c:Int)::ks'⟩ 0 p=some (dJ 13 o (kid::rest).length 0 p):=hkp 0 aF;have hkt:=DR f 13 o (kid::rest).length 0 p kid;have r1:(dV<|M+2).gu ⟨a,f⟩ (c:Int) (dJ 13 o (kid::rest).length 0 p)=some (jM f 13 o (kid::rest).length 0 p kid):=zw (hk kid hm) s c (M+2) _ uE (Ac g.e) ah ah;have hix:ix ((c:Int)::ks') 0=some (c:Int):=rfl;have fin:∀ l:List aC,l.length<=900000->Ld (M+2) (dV<|M+2) (⟨13,o,x,y,(c:Int)::ks'⟩,l)=some (l++[sg 24,⟨6,x,0⟩]):=fun l hl=>by
    unfold Ld;simp only [zk,av];rw [gL bT,av]
   show ((ix ((c:Int)::ks') 0).bind fun WK=>(kP ⟨13,o,x,y,(c:Int)::ks'⟩ 0 p).bind fun WL=>((dV<|M+2).gu ⟨a,f⟩ WK WL).bind fun Lg=>bif (decide<|(((c:Int)::ks').length:Int) > 1) then (jZ 32).bind fun abq=>((dV<|M+2).Da ⟨a,f⟩<|(c:Int)::ks').bind fun abr=>(app 32 [abq] abr).bind fun abt=>(jZ 33).bind fun abu=>(app 32 abt [abu]).bind fun WM=>Ld (M+2) (dV<|M+2) (⟨13,o,x,y,(c:Int)::ks'⟩,WM) else (Ld (M+2) (dV<|M+2) (⟨13,o,x,y,(c:Int)::ks'⟩,Lg)))=some (fG 13 o x<|dI f 13 o (kid::rest).length 0 p<|kid::rest);rw [hix,av,DT,av,r1,av];have e0:fG 13 o x (dI f 13 o (kid::rest).length 0 p<|kid::rest)=(bif decide ((kid::rest).length > 1) then sg 32::(bW false (dI f 13 o (kid::rest).length 0 p<|kid::rest)++[sg 33]) else jM f 13 o (kid::rest).length 0 p kid)++[sg 24,⟨6,x,0⟩]:=by
    show (bif decide ((dI f 13 o (kid::rest).length 0 p<|kid::rest).length > 1) then _ else (dI f 13 o (kid::rest).length 0 p<|kid::rest).getD 0 [])++_=_;rw [TT,rD];rfl
   rw [e0];cases hn:decide ((kid::rest).length > 1) with
   | true=>
    have hn2:1 < (kid::rest).length:=by simpa using hn
    have hl1:=bN (fun j=>by unfold dJ;simp only [hn];rfl) (fun j=>by unfold tgt;simp) (M+1) ah;have hl2:(dV<|M+2).Da ⟨a,f⟩ ((c:Int)::ks')=some (bW false<|dI f 13 o (kid::rest).length 0 p<|kid::rest):=hl1;have aCG:(bW false<|dI f 13 o (kid::rest).length 0 p<|kid::rest).length<=800000:=by
     have:=acW (dI f 13 o (kid::rest).length 0 p<|kid::rest) false;have:=acX f 13 o (kid::rest).length p (kid::rest) 0;have:=TT f 13 o (kid::rest).length p (kid::rest) 0;omega
    generalize bW false (dI f 13 o (kid::rest).length 0 p<|kid::rest)=CL at hl2 aCG ⊢;rw [fU ah,aH,zk,av,hl2,av,gL bT,av,zk,av,gL bT,av,fin _ bT];rfl
   | false=>
    have hn2: ¬1 < (kid::rest).length:=by simpa using hn
    rw [nE ah,aG,fin _ ah];rfl
  ·
   have h1:=g.a3 rfl;obtain ⟨kx,ky,kz,rfl⟩:=Pm h1;have hmx:kx∈(aA.mk 14 o x y [kx,ky,kz]).kids:=aF;have PE:ky∈(aA.mk 14 o x y [kx,ky,kz]).kids:=aF;have hmz:kz∈(aA.mk 14 o x y [kx,ky,kz]).kids:=aF;have PD:aW [kx,ky,kz]=aZ kx+aZ ky+aZ kz:=by rw [aW,aW,aW,aW];omega
   have hkt:=DR f 14 o 3 0 p kx;have apK:=DR f 14 o 3 1 p ky;have aKb:=DR f 14 o 3 2 p kz;simp only [KA] at hka;obtain ⟨c,ks',rfl,h1,h2,uE,c2,apL,rfl,h3,h4,PG,c3,ks3,rfl,h5,h6,aCH,rfl,h7⟩:=hka;subst h7;have DT:kP ⟨14,o,x,y,[(c:Int),(c2:Int),(c3:Int)]⟩ 0 p=some (dJ 14 o 3 0 p):=hkp 0 aF;have Yw:kP ⟨14,o,x,y,[(c:Int),(c2:Int),(c3:Int)]⟩ 1 p=some (dJ 14 o 3 1 p):=hkp 1 aF;have aCI:kP ⟨14,o,x,y,[(c:Int),(c2:Int),(c3:Int)]⟩ 2 p=some (dJ 14 o 3 2 p):=hkp 2 aF;have hix:ix [(c:Int),(c2:Int),(c3:Int)] 0=some (c:Int):=rfl;have Yx:ix [(c:Int),(c2:Int),(c3:Int)] 1=some (c2:Int):=rfl;have aCJ:ix [(c:Int),(c2:Int),(c3:Int)] 2=some (c3:Int):=rfl;have r1:(dV<|M+1).gu ⟨a,f⟩ (c:Int) (dJ 14 o 3 0 p)=some (jM f 14 o 3 0 p kx):=zw (hk kx hmx) s c (M+1) _ uE (Ac g.e) ah ah;have q1:(dV<|M+1).gu ⟨a,f⟩ (c2:Int) (dJ 14 o 3 1 p)=some (jM f 14 o 3 1 p ky):=zw (hk ky PE) (c+1) c2 (M+1) _ PG (Ac g.e) ah ah;have z1:(dV<|M+1).gu ⟨a,f⟩ (c3:Int) (dJ 14 o 3 2 p)=some (jM f 14 o 3 2 p kz):=zw (hk kz hmz) (c2+1) c3 (M+1) _ aCH (Ac g.e) ah ah;have e2:fG 14 o x (dI f 14 o 3 0 p [kx,ky,kz])=jM f 14 o 3 0 p kx++(sg 65::(jM f 14 o 3 1 p ky++(sg 66::jM f 14 o 3 2 p kz))):=by
    rw [rD,rD,rD,dI];rfl
   show Option.bind ((ix [(c:Int),(c2:Int),(c3:Int)] 0).bind fun e4=>(kP ⟨14,o,x,y,[(c:Int),(c2:Int),(c3:Int)]⟩ 0 p).bind fun r5=>((dV<|M+1).gu ⟨a,f⟩ e4 r5).bind fun r6=>(jZ 65).bind fun fV=>(app 32 r6 [fV]).bind fun x34=>(ix [(c:Int),(c2:Int),(c3:Int)] 1).bind fun e39=>(kP ⟨14,o,x,y,[(c:Int),(c2:Int),(c3:Int)]⟩ 1 p).bind fun qg=>((dV<|M+1).gu ⟨a,f⟩ e39 qg).bind fun xG=>(app 32 x34 xG).bind fun x42=>(jZ 66).bind fun r45=>(app 32 x42 [r45]).bind fun x46=>(ix [(c:Int),(c2:Int),(c3:Int)] 2).bind fun e51=>(kP ⟨14,o,x,y,[(c:Int),(c2:Int),(c3:Int)]⟩ 2 p).bind fun rT=>((dV<|M+1).gu ⟨a,f⟩ e51 rT).bind fun kL=>(app 32 x46 kL).bind fun x54=>some x54) (fun SA=>some SA)=some (fG 14 o x<|dI f 14 o 3 0 p [kx,ky,kz]);rw [hix,av,DT,av,r1,av,zk,av,gL bT,av,Yx,av,Yw,av,q1,av,gL bT,av,zk,av,gL bT,av,aCJ,av,aCI,av,z1,av,gL bT,av,e2];simp
  ·
   have iF:=g.op rfl;simp only at iF;have h1:=g.a2 aF;obtain ⟨kx,ky,rfl⟩:=Ab h1;have hmx:kx∈(aA.mk 15 o x y [kx,ky]).kids:=aF;have PE:ky∈(aA.mk 15 o x y [kx,ky]).kids:=aF;have PD:aW [kx,ky]=aZ kx+aZ ky:=by rw [aW,aW,aW];omega
   have hkt:=DR f 15 o 2 0 p kx;have apK:=DR f 15 o 2 1 p ky;simp only [KA] at hka;obtain ⟨c,ks',rfl,h1,h2,uE,c2,apL,rfl,h3,h4,PG,rfl,h5⟩:=hka;subst h5;have DT:kP ⟨15,o,x,y,[(c:Int),(c2:Int)]⟩ 0 p=some (dJ 15 o 2 0 p):=hkp 0 aF;have Yw:kP ⟨15,o,x,y,[(c:Int),(c2:Int)]⟩ 1 p=some (dJ 15 o 2 1 p):=hkp 1 aF;have hix:ix [(c:Int),(c2:Int)] 0=some (c:Int):=rfl;have Yx:ix [(c:Int),(c2:Int)] 1=some (c2:Int):=rfl;have q1:(dV<|M+1).gu ⟨a,f⟩ (c2:Int) (dJ 15 o 2 1 p)=some (jM f 15 o 2 1 p ky):=zw (hk ky PE) (c+1) c2 (M+1) _ PG (Ac g.e) ah ah;have q2:(dV<|M+2).gu ⟨a,f⟩ (c2:Int) (dJ 15 o 2 1 p)=some (jM f 15 o 2 1 p ky):=zw (hk ky PE) (c+1) c2 (M+2) _ PG (Ac g.e) ah ah;have e2:fG 15 o x (dI f 15 o 2 0 p [kx,ky])=jM f 15 o 2 0 p kx++((bif o==99 then [] else [sg o])++jM f 15 o 2 1 p ky):=by
    rw [rD,rD,dI];rfl
   have r1:=ahQ (n:=2) (t:=⟨15,o,x,y,[kx,ky]⟩) (ahR kx hmx) (hk kx hmx) (g.kl kx rfl<|.inr<|.inr rfl) (M+2) s c p uE ah ah 15 o rfl;show ((ix [(c:Int),(c2:Int)] 0).bind fun e120=>((dV<|M+2).zM ⟨a,f⟩ e120).bind fun qR=>(jZ o).bind fun nY=>(app 32 qR [nY]).bind fun abo=>(ix [(c:Int),(c2:Int)] 1).bind fun e128=>(kP ⟨15,o,x,y,[(c:Int),(c2:Int)]⟩ 1 p).bind fun sS=>((dV<|M+2).gu ⟨a,f⟩ e128 sS).bind fun qb=>(app 32 abo qb).bind fun abp=>some abp)=some (fG 15 o x<|dI f 15 o 2 0 p [kx,ky]);rw [hix,av,r1,av,zk,av,gL bT,av,Yx,av,Yw,av,q2,av,gL bT,av,e2,show (o==99)=false by simpa using iF];simp
def kd (l:List aC) (i:Nat):Int:=(l[i]?.map (·.Kind)).getD 0
def bL (l:List aC) (i:Nat) (b:Bool) (ns:List (List UInt8)):fu l (i:Int) b ns=some (kd l i):=by
 unfold fu kd;by_cases h:i < l.length
 .have:decide ((i:Int)>=(l.length:Int))=false:=bT;rw [this,aG,bS h,av,fQ h];rfl
 .have:decide ((i:Int)>=(l.length:Int))=true:=bT;rw [this,aH,AA ah];rfl
def EX {α β γ δ:Type} (x:Option (α×β×γ×δ)):(Option.bind x fun r=>some (r.1,r.2.1,r.2.2.1,r.2.2.2))=x:=by
 cases x<;>rfl
def dG {l:List aC} {i:Nat} (h:kd l i≠0):i < l.length:=by
 cases xA i l.length with
 | inl h=>exact h
 | inr g=>exfalso;apply h;unfold kd;rw [AA ah];rfl
def lF {l:List aC} {i:Nat} (h:i < l.length):kd l i=l[i].Kind:=by unfold kd;rw [fQ h];rfl
def aob (k:Int) (l:List aC) (i:Nat) (ns:List (List UInt8)):ug k l (i:Int) true ns=some (false,(i:Int),true):=by
 unfold ug;simp only [aH,av]
def acs {k:Int} {l:List aC} {i:Nat} (b:Bool) (ns:List (List UInt8)) (h:kd l i≠k):ug k l (i:Int) b ns=some (false,(i:Int),true):=by
 unfold ug;have e:(kd l i !=k)=true:=by simpa using h
 cases b<;>simp only [aH,aG,bL,av,e]
def LQ {k:Int} {l:List aC} {i:Nat} (ns:List (List UInt8)) (hi:i<=100000) (h:kd l i=k):ug k l (i:Int) false ns=some (true,((i+1:Nat):Int),false):=by
 unfold ug;have e:(kd l i !=k)=false:=by simp [h]
 simp only [aG,bL,av,e];rw [wrap64 ah ah];rfl
def PI {l:List aC} {i:Nat} (b:Bool) (ns:List (List UInt8)) (hi:i < l.length) (hl:l.length<=100000):uh l (i:Int) b ns=some (l[i].Text,((i+1:Nat):Int)):=by
 unfold uh;rw [bS hi,av,wrap64 ah ah];rfl
def azg {l:List aC} {i:Nat} (b:Bool) (ns:List (List UInt8)) (h:kd l i≠6):zO l (i:Int) b ns=some ([],(i:Int),true):=by
 unfold zO;have e:(kd l i !=6)=true:=by simpa using h
 cases b<;>simp only [aH,aG,bL,av,e]
def Yb {l:List aC} {i:Nat} (ns:List (List UInt8)) (hi:i < l.length) (hl:l.length<=100000) (h:kd l i=6):zO l (i:Int) false ns=some (l[i].Text,((i+1:Nat):Int),false):=by
 unfold zO;have e:(kd l i !=6)=false:=by simp [h]
 simp only [aG,bL,av,e,PI false ns hi hl]
def aCK (k:Int):Gj k=Oj k:=by
 unfold Gj Oj;rfl
def aCL (k:Int):Gl k=Oi k:=by
 unfold Gl Oi;rfl
def jL (k:Int):Bool:=k==32||(k==34||k==30)
def lS (k:Int):Bool:=k==33||(k==35||k==31)
def TV (k:Int):Gj k=some (jL k):=by
 unfold Gj jL;cases (k==32)<;>cases (k==34)<;>rfl
def Ya (k:Int):Gl k=some (lS k):=by
 unfold Gl lS;cases (k==33)<;>cases (k==35)<;>rfl
def opS (k:Int):Oj k=some (jL k):=by rw [<- aCK];exact TV k
def clS (k:Int):Oi k=some (lS k):=by rw [<- aCL];exact Ya k
def Pf {k:Int} (h:jL k=true):lS k=false/\(k==36)=false:=by
 unfold jL at h;simp only [lH,mR] at h;rcases h with h|h|h<;>subst h<;>decide
def pF (R:eU) (v:Int) (r:bn) (l:List aC) (i:Int) (b:Bool) (ns:List (List UInt8)):Option (dx×Int×Bool×List (List UInt8)):=
 bif v==1 then R.oW r l i b ns else bif v==2 then R.tq r l i b ns else bif v==3 then R.zR r l i b ns else bif v==4 then R.xU r l i b ns
 else bif v==5 then R.xS r l i b ns else bif v==6 then R.yQ r l i b ns else bif v==7 then R.wU r l i b ns else bif v==8 then R.vE r l i b ns
 else bif v==9 then R.xQ r l i b ns else bif v==10 then R.xP r l i b ns else bif v==11 then R.ru r l i b ns else bif v==12 then R.zQ r l i b ns
 else bif v==13 then R.zP l i b ns else bif v==14 then R.qh l i b ns else R.Bw l i b ns
def dW (q:aN):bn:=⟨q.bC,q.bE⟩
def eY (t:aA) (h:Bool):dx:=⟨t,!h&&eT t.kind⟩
def RdM (l:List aC) (M:Nat) (q:aN) (i j:Nat) (t:aA) (h:Bool):Prop:=∀ ns:List (List UInt8),pF (aL M) q.Level (dW q) l (i:Int) false ns=some (eY t h,(j:Int),false,ns)
def ow {l:List aC} {M:Nat} {q:aN} {i j:Nat} {t:aA} {h:Bool} {v:Int} (hq:q.Level=v) (e:∀ ns:List (List UInt8),pF (aL M) v (dW q) l (i:Int) false ns=some (eY t h,(j:Int),false,ns)):RdM l M q i j t h:=fun ns=>by rw [hq];exact e ns
def Rd (l:List aC) (q:aN) (i j:Nat) (t:aA) (h:Bool):Prop:=∀ M,1100000+100*(l.length - i)+4*(16 - q.Level.toNat)<=M->RdM l M q i j t h
def bA (q:aN) (lv:Int):aN:=⟨lv,false,q.bC,q.bE,false⟩
def qm (k:Int):Bool:=k==3||(k==4||(k==6||(k==7||(k==8||(k==32||k==68)))))
def nM (k:Int):Bool:=(CS k).getD false
def ane (k:Int):CS k=some (nM k):=by
 unfold nM CS;rw [LC];cases (k==54)<;>rfl
def acy (k:Int):Xj k=some (nM k):=(show Xj k=CS k from rfl).trans (ane k)
def Dy (k:Int):IV k=some (k==51||k==52):=by
 unfold IV;cases (k==51)<;>rfl
def XY (k:Int):OE k=some (qm k):=by
 unfold OE Gm qm;cases (k==3)<;>cases (k==4)<;>cases (k==6)<;>cases (k==7)<;>cases (k==8)<;>cases (k==32)<;>cases (k==68)<;>rfl
def Dz (k:Int):OH k=some (bg k):=by rw [aCr];exact acV k
def cont (lv:Int) (q:aN) (k:Int):Bool:=
 bif lv==1 then nM k else bif lv==2 then k==65 else bif lv==5 then k==24&&!q.bC
 else bif lv==8 then qm k else bif lv==12 then k==60 else bif lv==13 then (k==51||k==52)
 else bif lv==11 then false else bif lv==14 then false else bif lv==15 then false
 else k !=0&&(k !=99&&(bg k==lv&&(k !=62||!q.bE)))
def rZ (k v:Int):Prop:=(v=3->k=44)/\(v=4->k=45)/\(v=6->k=67\/k=46)/\(v=7->k≠0/\k≠99)/\(v=9->k≠0/\k≠99/\k≠62)/\(v=10->k≠0/\k≠99/\k≠62)
def Ut (k:Int):rZ k (bg k):=by
 have c:∀ {c:Bool} {x y:Option Int},(c=true->∃ v,x=some v/\rZ k v)->(c=false->∃ v,y=some v/\rZ k v)->∃ v,(bif c then x else y)=some v/\rZ k v:=fun {c x y} hx hy=>by
  cases c
  .exact hy rfl
  .exact hx rfl
 have e:∀ {z:Int},(k==z)=true->k=z:=fun h=>by simpa using h
 have q0:∃ v:Int,(some 0:Option Int)=some v/\rZ k v:=⟨0,rfl,by unfold rZ;omega⟩
 have lZ:∃ v:Int,(some 12:Option Int)=some v/\rZ k v:=⟨12,rfl,by unfold rZ;omega⟩
 have q8:∃ v:Int,(some 8:Option Int)=some v/\rZ k v:=⟨8,rfl,by unfold rZ;omega⟩
 have h4:∀ z:Int,k=z/\(z=57\/z=58)\/z=59->∃ v,La (k,k==z)=some v/\rZ k v:=fun z hz=>c (fun h=>⟨10,rfl,by have:=e h;unfold rZ;omega⟩) fun h=>c (fun _=>lZ) fun _=>q0;have h3:∀ z:Int,k=z/\z=55\/z=56->∃ v,Od (k,k==z)=some v/\rZ k v:=fun z hz=>c (fun h=>⟨9,rfl,by have:=e h;unfold rZ;omega⟩) fun h=>c (fun h=>h4 57<|.inl ⟨e h,.inl rfl⟩) fun _=>c (fun h=>h4 58<|.inl ⟨e h,.inr rfl⟩) fun _=>h4 59 (.inr rfl);have h2:∀ z:Int,k=z/\(z=63\/z=48\/z=47\/z=50\/z=62)\/z=49->∃ v,EB (k,k==z)=some v/\rZ k v:=fun z hz=>c (fun h=>⟨7,rfl,by have:=e h;unfold rZ;omega⟩) fun h=>c (fun _=>q8) fun _=>c (fun h=>h3 55<|.inl ⟨e h,rfl⟩) fun _=>h3 56 (.inr rfl);have h1:∀ z:Int,k=z/\z=67\/z=46->∃ v,Oe (k,k==z)=some v/\rZ k v:=fun z hz=>c (fun h=>⟨6,rfl,by have:=e h;unfold rZ;omega⟩) fun h=>c (fun h=>h2 63<|.inl ⟨e h,ah⟩) fun _=>c (fun h=>h2 48<|.inl ⟨e h,ah⟩) fun _=>c (fun h=>h2 47<|.inl ⟨e h,ah⟩) fun _=>c (fun h=>h2 50<|.inl ⟨e h,ah⟩) fun _=>c (fun h=>h2 62<|.inl ⟨e h,ah⟩) fun _=>h2 49 (.inr rfl);have h0:∃ v,Gc k=some v/\rZ k v:=c (fun h=>⟨3,rfl,by have:=e h;unfold rZ;omega⟩) fun h=>c (fun h=>⟨4,rfl,by have:=e h;unfold rZ;omega⟩) fun h=>c (fun h=>h1 67<|.inl ⟨e h,rfl⟩) fun _=>h1 46 (.inr rfl);obtain ⟨v,h5,h6⟩:=h0;rw [acV] at h5;cases h5;exact h6
def apM (q:aN) (k:Int):cont 3 q k=(k==44):=by
 cases h:k==44 with
 | true=>rw [eq_of_beq h];rfl
 | false=>
  have hq:=(Ut k).1;show (k !=0&&(k !=99&&(bg k==3&&(k !=62||!q.bE))))=false;have:(bg k==3)=false:=by
   have: ¬bg k=3:=fun e=>by have:=hq e;subst this;cases h
   simpa using this
  rw [this];simp
def apN (q:aN) (k:Int):cont 4 q k=(k==45):=by
 cases h:k==45 with
 | true=>rw [eq_of_beq h];rfl
 | false=>
  have hq:=(Ut k).2.1;show (k !=0&&(k !=99&&(bg k==4&&(k !=62||!q.bE))))=false;have:(bg k==4)=false:=by
   have: ¬bg k=4:=fun e=>by have:=hq e;subst this;cases h
   simpa using this
  rw [this];simp
def apO (q:aN) (k:Int):cont 6 q k=(k==67||k==46):=by
 cases h:k==67 with
 | true=>rw [eq_of_beq h];rfl
 | false=>
  cases h2:k==46 with
  | true=>rw [eq_of_beq h2];rfl
  | false=>
   have hq:=(Ut k).2.2.1;show (k !=0&&(k !=99&&(bg k==6&&(k !=62||!q.bE))))=false;have:(bg k==6)=false:=by
    have: ¬bg k=6:=fun e=>by
     rcases hq e with e|e<;>subst e
     .cases h
     .cases h2
    simpa using this
   rw [this];simp
def aCN (q:aN) (k:Int):cont 7 q k=(bg k==7&&(k !=62||!q.bE)):=by
 cases h:bg k==7 with
 | true=>
  have hq:=(Ut k).2.2.2.1 (eq_of_beq h);have h1:(k !=0)=true:=by simpa using hq.1
  have h2:(k !=99)=true:=by simpa using hq.2
  show (k !=0&&(k !=99&&(bg k==7&&(k !=62||!q.bE))))=_;rw [h,h1,h2];rfl
 | false=>
  show (k !=0&&(k !=99&&(bg k==7&&(k !=62||!q.bE))))=_;rw [h];simp
def acZ (q:aN) (k v:Int) (hv:v=9\/v=10):cont v q k=(bg k==v):=by
 have hd:cont v q k=(k !=0&&(k !=99&&(bg k==v&&(k !=62||!q.bE)))):=by rcases hv with rfl|rfl<;>rfl
 rw [hd];cases h:bg k==v with
 | true=>
  have e:=eq_of_beq h;have hq:k≠0/\k≠99/\k≠62:=by
   rcases hv with rfl|rfl
   .exact (Ut k).2.2.2.2.1 e
   .exact (Ut k).2.2.2.2.2 e
  have h1:(k !=0)=true:=by simpa using hq.1
  have h2:(k !=99)=true:=by simpa using hq.2.1
  have h3:(k !=62)=true:=by simpa using hq.2.2
  rw [h1,h2,h3];rfl
 | false=>simp
section
variable (l:List aC) (q:aN) (i j:Nat) (t:aA) (h:Bool) (hsz:aZ t<=400)
theorem aCO (hq:q.Level=1) (hr:Rd l (bA q 2) i j t h) (hc:cont 1 q (kd l j)=false) (hsz:aZ t<=400):Rd l q i j t h:=by
 intro M hM;obtain ⟨M,rfl⟩:∃ m,M=m+1:=⟨M - 1,ah⟩
 refine ow hq fun ns=>?_;have hc:nM (kd l j)=false:=hc;have e:=hr M (by rw [hq] at hM;show _+4*(16 - (2:Int).toNat)<=M;have:(2:Int).toNat=2:=rfl;have:(1:Int).toNat=1:=rfl;omega) ns;have e':(aL M).tq (dW q) l (i:Int) false ns=some (eY t h,(j:Int),false,ns):=e;show EN M (aL M) (dW q) l (i:Int) false ns=_;unfold EN;rw [e'];simp only [av,aG,bL,acy,hc];unfold eY;cases (!h&&eT t.kind)<;>rfl
theorem aCP (hq:q.Level=2) (hr:Rd l (bA q 3) i j t h) (hc:cont 2 q (kd l j)=false):Rd l q i j t h:=by
 intro M hM;obtain ⟨M,rfl⟩:∃ m,M=m+1:=⟨M - 1,ah⟩
 refine ow hq fun ns=>?_;have hc:(kd l j==65)=false:=hc;have hc2:(kd l j !=65)=true:=by rw [bne,hc];rfl
 have e:=hr M (by rw [hq] at hM;show _+4*(16 - (3:Int).toNat)<=M;have:(2:Int).toNat=2:=rfl;have:(3:Int).toNat=3:=rfl;omega) ns;have e':(aL M).zR (dW q) l (i:Int) false ns=some (eY t h,(j:Int),false,ns):=e;show EM M (aL M) (dW q) l (i:Int) false ns=_;unfold EM;rw [e'];simp only [av,aG,bL,hc2,aH]
theorem apP (hq:q.Level=12) (hr:Rd l (bA q 13) i j t h) (hc:cont 12 q (kd l j)=false):Rd l q i j t h:=by
 intro M hM;obtain ⟨M,rfl⟩:∃ m,M=m+1:=⟨M - 1,ah⟩
 refine ow hq fun ns=>?_;have hc:(kd l j==60)=false:=hc;have hc2:(kd l j !=60)=true:=by rw [bne,hc];rfl
 have e:=hr M (by rw [hq] at hM;show _+4*(16 - (13:Int).toNat)<=M;have:(12:Int).toNat=12:=rfl;have:(13:Int).toNat=13:=rfl;omega) ns;have e':(aL M).zP l (i:Int) false ns=some (eY t h,(j:Int),false,ns):=e;show EJ M (aL M) (dW q) l (i:Int) false ns=_;unfold EJ;rw [e'];simp only [av,aG,bL,hc2,aH]
theorem apQ {k:Int} (hk:(k==56||(k==55||k==61))=false):(bif (k !=55) then bif (k !=56) then some (k !=61) else some false else some false)=some true:=by
 rw [ME,ME] at hk;rw [bne,bne,bne,hk.1,hk.2.1,hk.2.2];rfl
theorem aCQ (hq:q.Level=11) (hr:Rd l (bA q 13) i j t h) (hc:cont 12 q (kd l j)=false) (hk:(kd l i==56||(kd l i==55||kd l i==61))=false):Rd l q i j t h:=by
 intro M hM;obtain ⟨M,rfl⟩:∃ m,M=m+1:=⟨M - 1,ah⟩
 refine ow hq fun ns=>?_;have e:=apP l (bA q 12) i j t h rfl hr hc M (by rw [hq] at hM;show _+4*(16 - (12:Int).toNat)<=M;have:(11:Int).toNat=11:=rfl;have:(12:Int).toNat=12:=rfl;omega) ns;have e':(aL M).zQ (dW q) l (i:Int) false ns=some (eY t h,(j:Int),false,ns):=e;show BA M (aL M) (dW q) l (i:Int) false ns=_;unfold BA;rw [bL];simp only [av,aG,apQ hk,aH,e']
theorem aCR (hq:q.Level=13) (hr:Rd l (bA q 14) i j t h) (hc:cont 13 q (kd l j)=false) (hk:(kd l i==51||kd l i==52)=false):Rd l q i j t h:=by
 intro M hM;obtain ⟨M,rfl⟩:∃ m,M=m+1:=⟨M - 1,ah⟩
 refine ow hq fun ns=>?_;have hc:(kd l j==51||kd l j==52)=false:=hc;have e:=hr M (by rw [hq] at hM;show _+4*(16 - (14:Int).toNat)<=M;have:(14:Int).toNat=14:=rfl;have:(13:Int).toNat=13:=rfl;omega) ns;have e':(aL M).qh l (i:Int) false ns=some (eY t h,(j:Int),false,ns):=e;show Bz M (aL M) l (i:Int) false ns=_;unfold Bz;rw [bL];simp only [av,dN,aH,Dy,hk,aG,e',bL,hc];unfold eY;cases (!h&&eT t.kind)<;>rfl
theorem aCS (hq:q.Level=14) (hr:Rd l (bA q 15) i j t h) (hk:kd l i≠68):Rd l q i j t h:=by
 intro M hM;obtain ⟨M,rfl⟩:∃ m,M=m+1:=⟨M - 1,ah⟩
 refine ow hq fun ns=>?_;have hk2:(kd l i !=68)=true:=by simpa using hk
 have e:=hr M (by rw [hq] at hM;show _+4*(16 - (15:Int).toNat)<=M;have:(14:Int).toNat=14:=rfl;have:(15:Int).toNat=15:=rfl;omega) ns;have e':(aL M).Bw l (i:Int) false ns=some (eY t h,(j:Int),false,ns):=e;show wW M (aL M) l (i:Int) false ns=_;unfold wW;rw [bL];simp only [av,aG,hk2,aH,e']
end
def Ln (l:List aC) (a f:Nat):Prop:=a<=f/\(∀ k,a<=k->k < f->kd l k=1)/\kd l f≠1/\kd l f≠2
def ahh (l:List aC) (hl:l.length<=3000) (N':Nat) (ns:List (List UInt8)):∀ (n a f fuel:Nat),f - a<=n->n < fuel->Ln l a f->Bv N' l false fuel ((a:Int),ns)=some ((f:Int),ns)
 | 0,a,f,fuel,h1,h2,h=>by
  obtain ⟨fuel,rfl⟩:∃ m,fuel=m+1:=⟨fuel - 1,ah⟩
  have e:a=f:=by have:=h.1;omega
  subst e;have e1:(kd l a==1)=false:=by simpa using h.2.2.1
  have e2:(kd l a==2)=false:=by simpa using h.2.2.2
  rw [Bv];simp only [bL,av,dN,aH,e1,aG,e2]
 | n+1,a,f,fuel,h1,h2,h=>by
  obtain ⟨fuel,rfl⟩:∃ m,fuel=m+1:=⟨fuel - 1,ah⟩
  by_cases e:a=f
  .subst e;have e1:(kd l a==1)=false:=by simpa using h.2.2.1
   have e2:(kd l a==2)=false:=by simpa using h.2.2.2
   rw [Bv];simp only [bL,av,dN,aH,e1,aG,e2]
  .have hlt:a < f:=by have:=h.1;omega
   have e1:kd l a=1:=h.2.1 a (cZ _) hlt;have ha:=dG (l:=l) (i:=a) (by rw [e1];decide);rw [Bv];simp only [dN,aH,bL,av,e1,Hy];unfold Tm;simp only [];rw [wrap64 ah ah,show (a:Int)+1=((a+1:Nat):Int) by omega];exact ahh l hl N' ns n (a+1) f fuel ah ah ⟨ah,fun k g1 g2=>h.2.1 k ah g2,h.2.2⟩
def Ln.le {l:List aC} {a f:Nat} (h:Ln l a f) (ha:a<=l.length):f<=l.length:=by
 by_cases e:a=f
 .omega
 .have h1:=h.1;have:=dG (l:=l) (i:=f - 1) (by rw [h.2.1 (f - 1) ah ah];decide);omega
def ahS (l:List aC) (hl:l.length<=3000) {N a f:Nat} (ns:List (List UInt8)) (hN:3000 < N) (ha:a<=l.length) (h:Ln l a f):IU N l (a:Int) false ns=some ((f:Int),ns):=by
 unfold IU;have:=h.le ha;rw [ahh l hl N ns (f - a) a f N ah ah h]
def Fb (lv most:Int) (sd:Int×Int):Prop:=(lv=3/\most=3000/\sd=(3,4))\/(lv=4/\most=3000/\sd=(4,5))\/(lv=6/\most=1/\sd=(7,7))\/(lv=7/\most=1/\sd=(8,8))\/(lv=8/\most=3000/\sd=(8,9))\/(lv=9/\most=3000/\sd=(9,10))\/(lv=10/\most=3000/\sd=(10,11))
def Yy {lv most:Int} {sd:Int×Int} (hc:Fb lv most sd):3<=lv/\lv<=10/\lv < sd.2/\sd.2<=11/\most<=3000:=by
 rcases hc with ⟨rfl,rfl,rfl⟩|⟨rfl,rfl,rfl⟩|⟨rfl,rfl,rfl⟩|⟨rfl,rfl,rfl⟩|⟨rfl,rfl,rfl⟩|⟨rfl,rfl,rfl⟩|⟨rfl,rfl,rfl⟩<;>decide
def GL (M:Nat) (lv:Int) (l:List aC) (n:Nat) (r:bn) (j:Int) (t:aA) (h:Bool) (ns:List (List UInt8)):Option (dx×Int×Bool×List (List UInt8)):=
 bif lv==3 then yY M (aL M) l n (r,j,false,t.kind,t.op,t.text,t.other,t.kids,(!h&&eT t.kind),ns)
 else bif lv==4 then yX M (aL M) l n (r,j,false,t.kind,t.op,t.text,t.other,t.kids,(!h&&eT t.kind),ns)
 else bif lv==8 then yT M (aL M) l n (r,j,false,t.kind,t.op,t.text,t.other,t.kids,(!h&&eT t.kind),ns)
 else bif lv==9 then yS M (aL M) l n (r,j,false,t.kind,t.op,t.text,t.other,t.kids,(!h&&eT t.kind),ns)
 else yR M (aL M) l n (r,j,false,t.kind,t.op,t.text,t.other,t.kids,(!h&&eT t.kind),ns)
def apR (M:Nat) (l:List aC) (n:Nat) (r:bn) (j:Int) (t:aA) (h:Bool) (ns:List (List UInt8)):GL M 3 l n r j t h ns=yY M (aL M) l n (r,j,false,t.kind,t.op,t.text,t.other,t.kids,(!h&&eT t.kind),ns):=rfl
def apS (M:Nat) (l:List aC) (n:Nat) (r:bn) (j:Int) (t:aA) (h:Bool) (ns:List (List UInt8)):GL M 4 l n r j t h ns=yX M (aL M) l n (r,j,false,t.kind,t.op,t.text,t.other,t.kids,(!h&&eT t.kind),ns):=rfl
def apT (M:Nat) (l:List aC) (n:Nat) (r:bn) (j:Int) (t:aA) (h:Bool) (ns:List (List UInt8)):GL M 8 l n r j t h ns=yT M (aL M) l n (r,j,false,t.kind,t.op,t.text,t.other,t.kids,(!h&&eT t.kind),ns):=rfl
def apU (M:Nat) (l:List aC) (n:Nat) (r:bn) (j:Int) (t:aA) (h:Bool) (ns:List (List UInt8)):GL M 9 l n r j t h ns=yS M (aL M) l n (r,j,false,t.kind,t.op,t.text,t.other,t.kids,(!h&&eT t.kind),ns):=rfl
def apV (M:Nat) (l:List aC) (n:Nat) (r:bn) (j:Int) (t:aA) (h:Bool) (ns:List (List UInt8)):GL M 10 l n r j t h ns=yR M (aL M) l n (r,j,false,t.kind,t.op,t.text,t.other,t.kids,(!h&&eT t.kind),ns):=rfl
def Ch (l:List aC) (lv:Int) (_:Int) (_:Int×Int) (q:aN) (i j:Nat) (t:aA) (h:Bool) (c:Nat):Prop:=
 (lv≠6/\lv≠7/\∀ (M:Nat) (ns:List (List UInt8)),1100000+100*(l.length - i)+4*(16 - lv.toNat)<=M+1->pF (aL<|M+1) lv (dW q) l (i:Int) false ns=GL M lv l (M - c) (dW q) (j:Int) t h ns)\/
 ((lv=6\/lv=7)/\(c=0/\Rd l (bA q<|lv+1) i j t h\/c=1/\Rd l (bA q lv) i j t h))
def aCT {lv:Int} (l:List aC) (q:aN) (i j:Nat) (t:aA) (h:Bool) (hv:lv=3\/lv=4\/lv=8\/lv=9\/lv=10) (M:Nat) (ns:List (List UInt8)) (hr:RdM l M (bA q<|lv+1) i j t h):pF (aL<|M+1) lv (dW q) l (i:Int) false ns=GL M lv l M (dW q) (j:Int) t h ns:=by
 have e:=hr ns;rcases hv with rfl|rfl|rfl|rfl|rfl
 .have e':(aL M).xU (dW q) l (i:Int) false ns=some (eY t h,(j:Int),false,ns):=e;show Jh M (aL M) (dW q) l (i:Int) false ns=_;unfold Jh;rw [e'];rfl
 .have e':(aL M).xS (dW q) l (i:Int) false ns=some (eY t h,(j:Int),false,ns):=e;show Jg M (aL M) (dW q) l (i:Int) false ns=_;unfold Jg;rw [e'];rfl
 .have e':(aL M).xQ (dW q) l (i:Int) false ns=some (eY t h,(j:Int),false,ns):=e;show Jf M (aL M) (dW q) l (i:Int) false ns=_;unfold Jf;rw [e'];rfl
 .have e':(aL M).xP (dW q) l (i:Int) false ns=some (eY t h,(j:Int),false,ns):=e;show Ja M (aL M) (dW q) l (i:Int) false ns=_;unfold Ja;rw [e'];rfl
 .have e':(aL M).ru (dW q) l (i:Int) false ns=some (eY t h,(j:Int),false,ns):=e;show IZ M (aL M) (dW q) l (i:Int) false ns=_;unfold IZ;rw [e'];rfl
def Ch.first {l:List aC} {lv most:Int} {sd:Int×Int} (hc:Fb lv most sd) {q:aN} {i j:Nat} {t:aA} {h:Bool} (hr:Rd l (bA q<|lv+1) i j t h):Ch l lv most sd q i j t h 0:=by
 have hb:=Yy hc;by_cases hv:lv=6\/lv=7
 .exact .inr ⟨hv,.inl ⟨rfl,hr⟩⟩
 .refine .inl ⟨ah,ah,fun M ns hM=>aCT l q i j t h ?_ M ns (hr M<|by show _+4*(16 - (lv+1).toNat)<=M;omega)⟩;rcases hc with ⟨rfl,_⟩|⟨rfl,_⟩|⟨rfl,_⟩|⟨rfl,_⟩|⟨rfl,_⟩|⟨rfl,_⟩|⟨rfl,_⟩<;>omega
def aCU {lv:Int} (l:List aC) (M n:Nat) (q:aN) (j:Nat) (t:aA) (h:Bool) (ns:List (List UInt8)) (hv:lv=3\/lv=4\/lv=8\/lv=9\/lv=10) (hs:cont lv q (kd l j)=false):GL M lv l (n+1) (dW q) (j:Int) t h ns=some (eY t h,(j:Int),false,ns):=by
 obtain ⟨k,o,x,y,ks⟩:=t;rcases hv with rfl|rfl|rfl|rfl|rfl
 .rw [apM] at hs;rw [apR,yY];simp only [dN,aH,bL,av,hs,aG];rfl
 .rw [apN] at hs;rw [apS,yX];simp only [dN,aH,bL,av,hs,aG];rfl
 .have hs:qm (kd l j)=false:=hs;rw [apT,yT];simp only [dN,aH,bL,av,XY,hs,aG];rfl
 .rw [acZ q _ 9<|.inl rfl] at hs;rw [apU,yS];simp only [dN,aH,bL,av,Dz,hs,aG];rfl
 .rw [acZ q _ 10<|.inr rfl] at hs;rw [apV,yR];simp only [dN,aH,bL,av,Dz,hs,aG];rfl
def aCV {lv most:Int} {sd:Int×Int} (hc:Fb lv most sd) (l:List aC) (hl:l.length<=3000) (M n:Nat) (hM:1048577 < M) (q:aN) (j j2:Nat) (h hb:Bool) (ns:List (List UInt8)) (t u:aA) (hgo:cont lv q (kd l j)=true) (hv:lv≠6/\lv≠7)
  (f0 f:Nat) (op:Int) (hf:lv=8/\f0=j/\op=99\/lv≠8/\f0=j+1/\op=kd l j/\j < l.length) (hj0:j<=l.length) (hln:(lv=3\/lv=4)/\Ln l f0 f\/ ¬(lv=3\/lv=4)/\f=f0) (hr:RdM l M (bA q sd.2) f j2 u hb):
  GL M lv l (n+1) (dW q) (j:Int) t h ns=GL M lv l n (dW q) (j2:Int) ⟨12,op,[],[],[t,u]⟩ false ns:=by
 have e:=hr ns;obtain ⟨k,o,x,y,ks⟩:=t;rcases hc with ⟨rfl,rfl,rfl⟩|⟨rfl,rfl,rfl⟩|⟨rfl,rfl,rfl⟩|⟨rfl,rfl,rfl⟩|⟨rfl,rfl,rfl⟩|⟨rfl,rfl,rfl⟩|⟨rfl,rfl,rfl⟩
 .rcases hf with ⟨h8,_⟩|⟨_,rfl,rfl,hj⟩
  .exact absurd h8 aD
  rcases hln with ⟨_,hln⟩|⟨h3,_⟩
  .rw [apM] at hgo;have hk:kd l j=44:=eq_of_beq hgo;have e':(aL M).xU (dW q) l (f:Int) false ns=some (eY u hb,(j2:Int),false,ns):=e;rw [apR,yY];simp only [dN,aH,bL,av,hgo];rw [wrap64 ah ah,show (j:Int)+1=((j+1:Nat):Int) by omega,ahS l hl ns ah (show j+1<=l.length by omega) hln,av];dsimp only;rw [e',hk];rfl
  .exact absurd (Or.inl rfl) h3
 .rcases hf with ⟨h8,_⟩|⟨_,rfl,rfl,hj⟩
  .exact absurd h8 aD
  rcases hln with ⟨_,hln⟩|⟨h3,_⟩
  .rw [apN] at hgo;have hk:kd l j=45:=eq_of_beq hgo;have e':(aL M).xS (dW q) l (f:Int) false ns=some (eY u hb,(j2:Int),false,ns):=e;rw [apS,yX];simp only [dN,aH,bL,av,hgo];rw [wrap64 ah ah,show (j:Int)+1=((j+1:Nat):Int) by omega,ahS l hl ns ah (show j+1<=l.length by omega) hln,av];dsimp only;rw [e',hk];rfl
  .exact absurd (Or.inr rfl) h3
 .exact absurd rfl hv.1
 .exact absurd rfl hv.2
 .rcases hf with ⟨_,rfl,rfl⟩|⟨h8,_⟩
  .rcases hln with ⟨h3,_⟩|⟨_,rfl⟩
   .exact absurd h3 aD
   have hgo:qm (kd l f)=true:=hgo;have e':(aL M).xQ (dW q) l (f:Int) false ns=some (eY u hb,(j2:Int),false,ns):=e;rw [apT,yT];simp only [dN,aH,bL,av,XY,hgo,e'];rfl
  .exact absurd rfl h8
 .rcases hf with ⟨h8,_⟩|⟨_,rfl,rfl,hj⟩
  .exact absurd h8 aD
  rcases hln with ⟨h3,_⟩|⟨_,rfl⟩
  .exact absurd h3 aD
  rw [acZ q _ 9<|.inl rfl] at hgo;have e':(aL M).xP (dW q) l ((j+1:Nat):Int) false ns=some (eY u hb,(j2:Int),false,ns):=e;rw [apU,yS];simp only [dN,aH,bL,av,Dz,hgo];rw [wrap64 ah ah,show (j:Int)+1=((j+1:Nat):Int) by omega,e'];rfl
 .rcases hf with ⟨h8,_⟩|⟨_,rfl,rfl,hj⟩
  .exact absurd h8 aD
  rcases hln with ⟨h3,_⟩|⟨_,rfl⟩
  .exact absurd h3 aD
  rw [acZ q _ 10<|.inr rfl] at hgo;have e':(aL M).ru (dW q) l ((j+1:Nat):Int) false ns=some (eY u hb,(j2:Int),false,ns):=e;rw [apV,yR];simp only [dN,aH,bL,av,Dz,hgo];rw [wrap64 ah ah,show (j:Int)+1=((j+1:Nat):Int) by omega,e'];rfl
def aCW {l:List aC} (hl:l.length<=3000) {q:aN} (hq:q.Level=6) {i j j2:Nat} {t u:aA} {h hb:Bool} (hr:Rd l (bA q 7) i j t h) (hgo:cont 6 q (kd l j)=true) (hij:i<=j) (hj:j < l.length) (hr2:Rd l (bA q 7) (j+1) j2 u hb):Rd l q i j2 ⟨12,kd l j,[],[],[t,u]⟩ false:=by
 intro M hM;obtain ⟨M,rfl⟩:∃ m,M=m+1:=⟨M - 1,ah⟩
 refine ow hq fun ns=>?_;have n6:(6:Int).toNat=6:=rfl;have n7:(7:Int).toNat=7:=rfl;have e:=hr M (by rw [hq] at hM;show _+4*(16 - (7:Int).toNat)<=M;omega) ns;have e2:=hr2 M (by rw [hq] at hM;show _+4*(16 - (7:Int).toNat)<=M;omega) ns;have e':(aL M).wU (dW q) l (i:Int) false ns=some (eY t h,(j:Int),false,ns):=e;have e2':(aL M).wU (dW q) l ((j+1:Nat):Int) false ns=some (eY u hb,(j2:Int),false,ns):=e2;rw [apO] at hgo;have hc:(bif (kd l j !=67) then some (kd l j !=46) else some false)=some false:=by
  cases h6:kd l j==67 with
  | true=>rw [bne,h6];rfl
  | false=>rw [h6,Kt] at hgo;rw [bne,bne,h6,hgo];rfl
 show EL M (aL M) (dW q) l (i:Int) false ns=_;unfold EL;rw [e'];simp only [av,aG,bL,hc];rw [wrap64 ah ah,show (j:Int)+1=((j+1:Nat):Int) by omega,e2'];rfl
def aCX {l:List aC} {q:aN} (hq:q.Level=6) {i j:Nat} {t:aA} {h:Bool} (hr:Rd l (bA q 7) i j t h) (hs:cont 6 q (kd l j)=false):Rd l q i j t h:=by
 intro M hM;obtain ⟨M,rfl⟩:∃ m,M=m+1:=⟨M - 1,ah⟩
 refine ow hq fun ns=>?_;have n6:(6:Int).toNat=6:=rfl;have n7:(7:Int).toNat=7:=rfl;have e:=hr M (by rw [hq] at hM;show _+4*(16 - (7:Int).toNat)<=M;omega) ns;have e':(aL M).wU (dW q) l (i:Int) false ns=some (eY t h,(j:Int),false,ns):=e;rw [apO,ME] at hs;have hc:(bif (kd l j !=67) then some (kd l j !=46) else some false)=some true:=by rw [bne,bne,hs.1,hs.2];rfl
 show EL M (aL M) (dW q) l (i:Int) false ns=_;unfold EL;rw [e'];simp only [av,aG,bL,hc,aH]
def apW (q:aN) (k:Int):(bif (bg k !=7) then some true else bif (dW q).dz then some (k==62) else some false)=some (!cont 7 q k):=by
 rw [aCN];show (bif (bg k !=7) then some true else bif q.bE then some (k==62) else some false)=_;rw [bne,bne];cases (bg k==7)<;>cases q.bE<;>cases (k==62)<;>rfl
def aCY {l:List aC} (hl:l.length<=3000) {q:aN} (hq:q.Level=7) {i j j2:Nat} {t u:aA} {h hb:Bool} (hr:Rd l (bA q 8) i j t h) (hgo:cont 7 q (kd l j)=true) (hij:i<=j) (hj:j < l.length) (hr2:Rd l (bA q 8) (j+1) j2 u hb):Rd l q i j2 ⟨12,kd l j,[],[],[t,u]⟩ false:=by
 intro M hM;obtain ⟨M,rfl⟩:∃ m,M=m+1:=⟨M - 1,ah⟩
 refine ow hq fun ns=>?_;have n6:(8:Int).toNat=8:=rfl;have n7:(7:Int).toNat=7:=rfl;have e:=hr M (by rw [hq] at hM;show _+4*(16 - (8:Int).toNat)<=M;omega) ns;have e2:=hr2 M (by rw [hq] at hM;show _+4*(16 - (8:Int).toNat)<=M;omega) ns;have e':(aL M).vE (dW q) l (i:Int) false ns=some (eY t h,(j:Int),false,ns):=e;have e2':(aL M).vE (dW q) l ((j+1:Nat):Int) false ns=some (eY u hb,(j2:Int),false,ns):=e2;show EK M (aL M) (dW q) l (i:Int) false ns=_;unfold EK;rw [e'];simp only [av,aG,bL,Dz,apW,hgo,kE];rw [wrap64 ah ah,show (j:Int)+1=((j+1:Nat):Int) by omega,e2'];rfl
def aCZ {l:List aC} {q:aN} (hq:q.Level=7) {i j:Nat} {t:aA} {h:Bool} (hr:Rd l (bA q 8) i j t h) (hs:cont 7 q (kd l j)=false):Rd l q i j t h:=by
 intro M hM;obtain ⟨M,rfl⟩:∃ m,M=m+1:=⟨M - 1,ah⟩
 refine ow hq fun ns=>?_;have n6:(8:Int).toNat=8:=rfl;have n7:(7:Int).toNat=7:=rfl;have e:=hr M (by rw [hq] at hM;show _+4*(16 - (8:Int).toNat)<=M;omega) ns;have e':(aL M).vE (dW q) l (i:Int) false ns=some (eY t h,(j:Int),false,ns):=e;show EK M (aL M) (dW q) l (i:Int) false ns=_;unfold EK;rw [e'];simp only [av,aG,bL,Dz,apW,hs,dN,aH]
def ahT {l:List aC} (hl:l.length<=3000) {lv most:Int} {sd:Int×Int} (hc:Fb lv most sd) {q:aN} {i j:Nat} {t:aA} {h:Bool} {c:Nat} (hch:Ch l lv most sd q i j t h c) (hcm:(c:Int) < most) {j2:Nat} {hb:Bool} {u:aA} (hz:aZ t+aZ u<=1000) (hgo:cont lv q (kd l j)=true)
  (f0 f:Nat) (op:Int) (hf:lv=8/\f0=j/\op=99\/lv≠8/\f0=j+1/\op=kd l j/\j < l.length) (hj0:j<=l.length) (hln:(lv=3\/lv=4)/\Ln l f0 f\/ ¬(lv=3\/lv=4)/\f=f0) (hij:i < f) (hfl:f<=l.length) (hr:Rd l (bA q sd.2) f j2 u hb):Ch l lv most sd q i j2 ⟨12,op,[],[],[t,u]⟩ false (c+1):=by
 have hb:=Yy hc;rcases hch with ⟨h6,h7,hch⟩|⟨hv,hch⟩
 .refine .inl ⟨h6,h7,fun M ns hM=>?_⟩;rw [hch M ns hM];obtain ⟨n,hn⟩:∃ n,M - c=n+1:=⟨M - c - 1,ah⟩
  rw [hn,aCV hc l hl M n ah q j j2 h _ ns t u hgo ⟨h6,h7⟩ f0 f op hf hj0 hln (hr M<|by show _+4*(16 - sd.2.toNat)<=M;omega),show M - (c+1)=n by omega]
 .refine .inr ⟨hv,.inr ?_⟩;rcases hf with ⟨h8,_⟩|⟨_,rfl,rfl,hj⟩
  .omega
  rcases hln with ⟨h3,_⟩|⟨_,rfl⟩
  .omega
  rcases hch with ⟨rfl,hr1⟩|⟨rfl,_⟩
  .refine ⟨rfl,?_⟩;rcases hc with ⟨rfl,_⟩|⟨rfl,_⟩|⟨rfl,_,rfl⟩|⟨rfl,_,rfl⟩|⟨rfl,_⟩|⟨rfl,_⟩|⟨rfl,_⟩
   .omega
   .omega
   .exact aCW hl (q:=bA q 6) rfl hr1 hgo ah hj hr
   .exact aCY hl (q:=bA q 7) rfl hr1 hgo ah hj hr
   .omega
   .omega
   .omega
  .exfalso;rcases hc with ⟨rfl,_⟩|⟨rfl,_⟩|⟨rfl,rfl,_⟩|⟨rfl,rfl,_⟩|⟨rfl,_⟩|⟨rfl,_⟩|⟨rfl,_⟩<;>omega
def aDa {l:List aC} {q:aN} {lv:Int} (hq:q.Level=lv) {i j:Nat} {t:aA} {h:Bool} (hr:Rd l (bA q lv) i j t h):Rd l q i j t h:=fun M hM ns=>by
 have e:=hr M (by rw [hq] at hM;exact hM) ns;rw [hq];exact e
def ada {l:List aC} {lv most:Int} {sd:Int×Int} (hc:Fb lv most sd) {q:aN} (hq:q.Level=lv) {i j:Nat} {t:aA} {h:Bool} {c:Nat} (hch:Ch l lv most sd q i j t h c) (hcm:(c:Int)<=most) (hs:cont lv q (kd l j)=false\/most=1/\ ¬(c:Int) < most):Rd l q i j t h:=by
 have hb:=Yy hc;rcases hch with ⟨h6,h7,hch⟩|⟨hv,hch⟩
 .intro M hM;rw [hq] at hM;obtain ⟨M,rfl⟩:∃ m,M=m+1:=⟨M - 1,ah⟩
  refine ow hq fun ns=>?_;rw [hch M ns hM];obtain ⟨n,hn⟩:∃ n,M - c=n+1:=⟨M - c - 1,ah⟩
  rw [hn];have hv:lv=3\/lv=4\/lv=8\/lv=9\/lv=10:=by rcases hc with ⟨rfl,_⟩|⟨rfl,_⟩|⟨rfl,_⟩|⟨rfl,_⟩|⟨rfl,_⟩|⟨rfl,_⟩|⟨rfl,_⟩<;>omega
  have hs:cont lv q (kd l j)=false:=by
   rcases hs with hs|hs
   .exact hs
   .exfalso;rcases hc with ⟨rfl,rfl,_⟩|⟨rfl,rfl,_⟩|⟨rfl,_⟩|⟨rfl,_⟩|⟨rfl,rfl,_⟩|⟨rfl,rfl,_⟩|⟨rfl,rfl,_⟩<;>omega
  exact aCU l M n q j t h ns hv hs
 .rcases hch with ⟨rfl,hr⟩|⟨rfl,hr⟩
  .have hs:cont lv q (kd l j)=false:=by
    rcases hs with hs|hs
    .exact hs
    .exfalso;rcases hc with ⟨rfl,_⟩|⟨rfl,_⟩|⟨rfl,rfl,_⟩|⟨rfl,rfl,_⟩|⟨rfl,_⟩|⟨rfl,_⟩|⟨rfl,_⟩<;>omega
   rcases hv with rfl|rfl
   .exact aCX hq hr hs
   .exact aCZ hq hr hs
  .exact aDa hq hr
def dR {j n:Nat} (h:j<=n) (hn:n<=100000):IntKind.wrap .i64 ((j:Int)+1)=((j+1:Nat):Int):=by rw [wrap64 ah ah];omega
section
variable (l:List aC) (hl:l.length<=3000) (q:aN)
include hl
theorem aDb (hq:q.Level=1) {i j j2:Nat} {t u:aA} {h2:Bool} (hr:Rd l (bA q 2) i j t false) (hL:eT t.kind=true) (ha:nM (kd l j)=true) (hij:i<=j) (hj:j < l.length) (hr2:Rd l (bA q 1) (j+1) j2 u h2) (hz:aZ t+aZ u<=1000):Rd l q i j2 ⟨15,kd l j,[],[],[t,u]⟩ false:=by
 intro M hM;obtain ⟨M,rfl⟩:∃ m,M=m+1:=⟨M - 1,ah⟩
 refine ow hq fun ns=>?_;have n1:(1:Int).toNat=1:=rfl;have n2:(2:Int).toNat=2:=rfl;have e:=hr M (by rw [hq] at hM;show _+4*(16 - (2:Int).toNat)<=M;omega) ns;have e2:=hr2 M (by rw [hq] at hM;show _+4*(16 - (1:Int).toNat)<=M;omega) ns;have e':(aL M).tq (dW q) l (i:Int) false ns=some (⟨t,true⟩,(j:Int),false,ns):=by
  have e:_=some ((⟨t,!false&&eT t.kind⟩:dx),(j:Int),false,ns):=e;rw [hL] at e;exact e
 have e2':(aL M).oW (dW q) l ((j+1:Nat):Int) false ns=some (eY u h2,(j2:Int),false,ns):=e2;show EN M (aL M) (dW q) l (i:Int) false ns=_;unfold EN;rw [e'];simp only [av,aG,bL,acy,ha,kE,dR (kG hj) (show l.length<=100000 by omega),e2'];rfl
theorem aDc (hq:q.Level=2) {i j j2 j3:Nat} {t u v:aA} {h1 h2 h3:Bool} (hr:Rd l (bA q 3) i j t h1) (ha:kd l j=65) (hij:i<=j) (hj:j < l.length) (hr2:Rd l (bA q 2) (j+1) j2 u h2) (hb:kd l j2=66) (hj2:j < j2) (hj3:j2 < l.length) (hr3:Rd l (bA q 2) (j2+1) j3 v h3) (hz:aZ t+aZ u+aZ v<=1000):Rd l q i j3 ⟨14,0,[],[],[t,u,v]⟩ false:=by
 intro M hM;obtain ⟨M,rfl⟩:∃ m,M=m+1:=⟨M - 1,ah⟩
 refine ow hq fun ns=>?_;have n2:(2:Int).toNat=2:=rfl;have n3:(3:Int).toNat=3:=rfl;have e:=hr M (by rw [hq] at hM;show _+4*(16 - (3:Int).toNat)<=M;omega) ns;have e2:=hr2 M (by rw [hq] at hM;show _+4*(16 - (2:Int).toNat)<=M;omega) ns;have e3:=hr3 M (by rw [hq] at hM;show _+4*(16 - (2:Int).toNat)<=M;omega) ns;have e':(aL M).zR (dW q) l (i:Int) false ns=some (eY t h1,(j:Int),false,ns):=e;have e2':(aL M).tq (dW q) l ((j+1:Nat):Int) false ns=some (eY u h2,(j2:Int),false,ns):=e2;have e3':(aL M).tq (dW q) l ((j2+1:Nat):Int) false ns=some (eY v h3,(j3:Int),false,ns):=e3;have c65:(kd l j !=65)=false:=by rw [ha];rfl
 show EM M (aL M) (dW q) l (i:Int) false ns=_;unfold EM;rw [e'];simp only [av,aG,bL,c65,dR (kG hj) (show l.length<=100000 by omega),e2',LQ ns (show j2<=100000 by omega) hb,e3'];rfl
theorem aDe {k:Int} (hk:(k==56||(k==55||k==61))=true):(bif (k !=55) then bif (k !=56) then some (k !=61) else some false else some false)=some false:=by
 rw [bne,bne,bne];revert hk;cases (k==55)<;>cases (k==56)<;>cases (k==61)<;>simp
theorem aDf (hq:q.Level=11) {i j:Nat} {t:aA} {h1:Bool} (hk:(kd l i==56||(kd l i==55||kd l i==61))=true) (hi:i < l.length) (hr:Rd l (bA q 11) (i+1) j t h1) (hz:aZ t<=1000):Rd l q i j ⟨11,kd l i,[],[],[t]⟩ false:=by
 intro M hM;obtain ⟨M,rfl⟩:∃ m,M=m+1:=⟨M - 1,ah⟩
 refine ow hq fun ns=>?_;have n1:(11:Int).toNat=11:=rfl;have e:=hr M (by rw [hq] at hM;show _+4*(16 - (11:Int).toNat)<=M;omega) ns;have e':(aL M).ru (dW q) l ((i+1:Nat):Int) false ns=some (eY t h1,(j:Int),false,ns):=e;show BA M (aL M) (dW q) l (i:Int) false ns=_;unfold BA;rw [bL];simp only [av,aG,aDe l hl hk,dR (kG hi) (show l.length<=100000 by omega),e'];rfl
theorem apX (hq:q.Level=12) {i j j2:Nat} {t u:aA} {h1 h2:Bool} (hr:Rd l (bA q 13) i j t h1) (ha:kd l j=60) (hij:i<=j) (hj:j < l.length) (hr2:Rd l (bA q 11) (j+1) j2 u h2) (hz:aZ t+aZ u<=1000):Rd l q i j2 ⟨12,60,[],[],[t,u]⟩ false:=by
 intro M hM;obtain ⟨M,rfl⟩:∃ m,M=m+1:=⟨M - 1,ah⟩
 refine ow hq fun ns=>?_;have n1:(11:Int).toNat=11:=rfl;have n2:(12:Int).toNat=12:=rfl;have n3:(13:Int).toNat=13:=rfl;have e:=hr M (by rw [hq] at hM;show _+4*(16 - (13:Int).toNat)<=M;omega) ns;have e2:=hr2 M (by rw [hq] at hM;show _+4*(16 - (11:Int).toNat)<=M;omega) ns;have e':(aL M).zP l (i:Int) false ns=some (eY t h1,(j:Int),false,ns):=e;have e2':(aL M).ru (dW q) l ((j+1:Nat):Int) false ns=some (eY u h2,(j2:Int),false,ns):=e2;have c60:(kd l j !=60)=false:=by rw [ha];rfl
 show EJ M (aL M) (dW q) l (i:Int) false ns=_;unfold EJ;rw [e'];simp only [av,aG,bL,c60,dR (kG hj) (show l.length<=100000 by omega),e2'];rfl
theorem aDh (hq:q.Level=11) {i j j2:Nat} {t u:aA} {h1 h2:Bool} (hk:(kd l i==56||(kd l i==55||kd l i==61))=false) (hr:Rd l (bA q 13) i j t h1) (ha:kd l j=60) (hij:i<=j) (hj:j < l.length) (hr2:Rd l (bA q 11) (j+1) j2 u h2) (hz:aZ t+aZ u<=1000):Rd l q i j2 ⟨12,60,[],[],[t,u]⟩ false:=by
 intro M hM;obtain ⟨M,rfl⟩:∃ m,M=m+1:=⟨M - 1,ah⟩
 refine ow hq fun ns=>?_;have n1:(11:Int).toNat=11:=rfl;have n2:(12:Int).toNat=12:=rfl;have e:=apX l hl (bA q 12) rfl hr ha hij hj hr2 hz M (by rw [hq] at hM;show _+4*(16 - (12:Int).toNat)<=M;omega) ns;have e':(aL M).zQ (dW q) l (i:Int) false ns=some (eY ⟨12,60,[],[],[t,u]⟩ false,(j2:Int),false,ns):=e;show BA M (aL M) (dW q) l (i:Int) false ns=_;unfold BA;rw [bL];simp only [av,aG,apQ hk,aH,e']
theorem aDi (hq:q.Level=15) {i j:Nat} {t:aA} {h1:Bool} (ha:kd l i=32) (hi:i < l.length) (hr:Rd l bG (i+1) j t h1) (hb:kd l j=33) (hj:j < l.length):Rd l q i (j+1) t true:=by
 intro M hM;obtain ⟨M,rfl⟩:∃ m,M=m+1:=⟨M - 1,ah⟩
 refine ow hq fun ns=>?_;have n1:(1:Int).toNat=1:=rfl;have e:=hr M (by rw [hq] at hM;show _+4*(16 - (1:Int).toNat)<=M;omega) ns;have e':(aL M).oW ⟨false,false⟩ l ((i+1:Nat):Int) false ns=some (eY t h1,(j:Int),false,ns):=e;show rX M (aL M) l (i:Int) false ns=_;unfold rX;rw [aG,bL,av,ha];show Option.bind ((aL M).oW ⟨false,false⟩ l (IntKind.wrap .i64<|(i:Int)+1) false ns) _=_;rw [dR (kG hi) (show l.length<=100000 by omega),e',av];dsimp only;rw [LQ ns (show j<=100000 by omega) hb];rfl
theorem aDj {M:Nat} {i j:Nat} {t:aA} {h1:Bool} {ns:List (List UInt8)} (h6:kd l i=6) (e:(aL<|M+2).qh l (i:Int) false ns=some (eY t h1,(j:Int),false,ns)):(aL M).xM l (i:Int) false ns=some (eY t h1,(j:Int),false,ns):=by
 have ef:wW (M+1) (aL<|M+1) l (i:Int) false ns=some (eY t h1,(j:Int),false,ns):=e;unfold wW at ef;have Yz:(kd l i !=68)=true:=by rw [h6];rfl
 rw [bL] at ef;simp only [av,aG,Yz,aH] at ef;rw [EX] at ef;have ep:rX M (aL M) l (i:Int) false ns=some (eY t h1,(j:Int),false,ns):=ef;unfold rX at ep;rw [aG,bL,av,h6] at ep;have ep:Option.bind ((aL M).xM l (i:Int) false ns) (fun Dm=>some (Dm.1,Dm.2.1,Dm.2.2.1,Dm.2.2.2))=some (eY t h1,(j:Int),false,ns):=ep;rw [EX] at ep;exact ep
theorem apY {M i j:Nat} {t:aA} {h1:Bool} (ns:List (List UInt8)) (hi:i < l.length) (hk:(kd l (i+1)==6||kd l (i+1)==68)=true) (hr:Rd l (bA q 14) (i+1) j t h1) (hM:1100000+100*(l.length - (i+1))+10<=M):IY (M+1) (aL<|M+1) l (i:Int) false ns=some ((⟨⟨9,kd l i,[],[],[t]⟩,false⟩:dx),(j:Int),false,ns):=by
 have n2:(14:Int).toNat=14:=rfl;have el:(aL<|M+1).IW l ((i+1:Nat):Int) false ns=some (eY t h1,(j:Int),false,ns):=by
  show IX M (aL M) l ((i+1:Nat):Int) false ns=_;unfold IX;rw [aG,bL,av];cases h68:kd l (i+1)==68 with
  | true=>
   have e:=hr M (by show _+4*(16 - (14:Int).toNat)<=M;omega) ns;have e':(aL M).qh l ((i+1:Nat):Int) false ns=some (eY t h1,(j:Int),false,ns):=e;rw [aH,e'];rfl
  | false=>
   rw [h68,Bool.or_false] at hk;have e:=hr (M+2) (by show _+4*(16 - (14:Int).toNat)<=M+2;omega) ns;have e':(aL<|M+2).qh l ((i+1:Nat):Int) false ns=some (eY t h1,(j:Int),false,ns):=e;rw [aG,av,hk,aH,aDj l hl (eq_of_beq hk) e'];rfl
 unfold IY;rw [bL,av,dR (kG hi) (show l.length<=100000 by omega),el];rfl
theorem aDk (hq:q.Level=13) {i j:Nat} {t:aA} {h1:Bool} (hs:(kd l i==51||kd l i==52)=true) (hi:i < l.length) (hk:(kd l (i+1)==6||kd l (i+1)==68)=true) (hr:Rd l (bA q 14) (i+1) j t h1) (hz:aZ t<=1000):Rd l q i j ⟨9,kd l i,[],[],[t]⟩ false:=by
 intro M hM;obtain ⟨M,rfl⟩:∃ m,M=m+3:=⟨M - 3,ah⟩
 refine ow hq fun ns=>?_;have n1:(13:Int).toNat=13:=rfl;have e:=apY l hl q (M:=M) ns hi hk hr (by rw [hq,n1] at hM;omega);have e:(aL<|M+2).xO l (i:Int) false ns=_:=e;show Bz (M+2) (aL<|M+2) l (i:Int) false ns=_;unfold Bz;rw [bL];simp only [av,dN,aH,Dy,hs,e];rfl
theorem aDl (hq:q.Level=13) {i j:Nat} {t:aA} (hr:Rd l (bA q 14) i j t false) (hL:eT t.kind=true) (hk:(kd l i==51||kd l i==52)=false) (hs:(kd l j==51||kd l j==52)=true) (hij:i<=j) (hj:j < l.length) (hz:aZ t<=1000):Rd l q i (j+1) ⟨10,kd l j,[],[],[t]⟩ false:=by
 intro M hM;obtain ⟨M,rfl⟩:∃ m,M=m+1:=⟨M - 1,ah⟩
 refine ow hq fun ns=>?_;have n1:(13:Int).toNat=13:=rfl;have n2:(14:Int).toNat=14:=rfl;have e:=hr M (by rw [hq] at hM;show _+4*(16 - (14:Int).toNat)<=M;omega) ns;have e':(aL M).qh l (i:Int) false ns=some (⟨t,true⟩,(j:Int),false,ns):=by
  have e:_=some ((⟨t,!false&&eT t.kind⟩:dx),(j:Int),false,ns):=e;rw [hL] at e;exact e
 show Bz M (aL M) l (i:Int) false ns=_;unfold Bz;rw [bL];simp only [av,dN,aH,Dy,hk,aG,e',kE,bL,hs,dR (kG hj)<|show l.length<=100000 by omega];rfl
theorem aDm (hq:q.Level=14) {i j:Nat} {t:aA} {h1:Bool} (ha:kd l i=68) (hi:i < l.length) (hk:(kd l (i+1)==51||kd l (i+1)==52)=false) (hr:Rd l (bA q 14) (i+1) j t h1) (hz:aZ t<=1000):Rd l q i j ⟨6,0,[],[],[t]⟩ false:=by
 intro M hM;obtain ⟨M,rfl⟩:∃ m,M=m+1:=⟨M - 1,ah⟩
 refine ow hq fun ns=>?_;have n2:(14:Int).toNat=14:=rfl;have e:=hr M (by rw [hq] at hM;show _+4*(16 - (14:Int).toNat)<=M;omega) ns;have e':(aL M).qh l ((i+1:Nat):Int) false ns=some (eY t h1,(j:Int),false,ns):=e;have Yz:(kd l i !=68)=false:=by rw [ha];rfl
 show wW M (aL M) l (i:Int) false ns=_;unfold wW;rw [bL];simp only [av,aG,Yz,dR (kG hi) (show l.length<=100000 by omega),bL,Dy,hk,e'];cases t;rfl
theorem aDn (hq:q.Level=14) {i j:Nat} {t:aA} {h1:Bool} (ha:kd l i=68) (hi:i+1 < l.length) (hs:(kd l (i+1)==51||kd l (i+1)==52)=true) (hk:(kd l (i+1+1)==6||kd l (i+1+1)==68)=true) (hr:Rd l (bA q 14) (i+1+1) j t h1) (hz:aZ t<=900):Rd l q i j ⟨6,0,[],[],[⟨9,kd l<|i+1,[],[],[t]⟩]⟩ false:=by
 intro M hM;obtain ⟨M,rfl⟩:∃ m,M=m+3:=⟨M - 3,ah⟩
 refine ow hq fun ns=>?_;have n2:(14:Int).toNat=14:=rfl;have e:=apY l hl q (M:=M) (i:=i+1) ns hi hk hr (by rw [hq,n2] at hM;omega);have e:(aL<|M+2).xO l ((i+1:Nat):Int) false ns=_:=e;have Yz:(kd l i !=68)=false:=by rw [ha];rfl
 show wW (M+2) (aL<|M+2) l (i:Int) false ns=_;unfold wW;rw [bL];simp only [av,aG,Yz,dR (show i<=l.length by omega) (show l.length<=100000 by omega),bL,Dy,hs,aH,e];rfl
theorem aDo (hq:q.Level=15) {i:Nat} (k:Int) (hk:k=3\/k=4\/k=5) (ha:kd l i=k) (hi:i < l.length):Rd l q i (i+1) ⟨k - 1,0,l[i].Text,[],[]⟩ false:=by
 intro M hM;obtain ⟨M,rfl⟩:∃ m,M=m+1:=⟨M - 1,ah⟩
 refine ow hq fun ns=>?_;show rX M (aL M) l (i:Int) false ns=_;unfold rX;rw [aG,bL,av,ha,PI false ns hi ah];rcases hk with rfl|rfl|rfl<;>rfl
theorem aDp (hq:q.Level=15) {i:Nat} (ha:kd l i=6) (hi:i < l.length) (hn:kd l (i+1)≠34):Rd l q i (i+1) ⟨1,0,l[i].Text,[],[]⟩ false:=by
 intro M hM;obtain ⟨M,rfl⟩:∃ m,M=m+2:=⟨M - 2,ah⟩
 refine ow hq fun ns=>?_;have c34:(kd l (i+1)==34)=false:=by simpa using hn
 have e:(aL<|M+1).xM l (i:Int) false ns=some (eY ⟨1,0,l[i].Text,[],[]⟩ false,((i+1:Nat):Int),false,ns):=by
  show EH M (aL M) l (i:Int) false ns=_;unfold EH;rw [PI false ns hi ah,av];dsimp only;rw [bL,av,c34];rfl
 show rX (M+1) (aL<|M+1) l (i:Int) false ns=_;unfold rX;rw [aG,bL,av,ha];show Option.bind ((aL<|M+1).xM l (i:Int) false ns) _=_;rw [e];rfl
end
def LY (l:List aC) (en:Int):Nat->Nat->List aA->Prop
 | _,_,[]=>False
 | i,j,[t]=>∃ (h:Bool) (k:Nat),Rd l bG i k t h/\i < k/\k < l.length/\kd l k=en/\j=k+1
 | i,j,t::u::ts=>∃ (h:Bool) (k f:Nat),Rd l bG i k t h/\i < k/\k < l.length/\kd l k=36/\Ln l (k+1) f/\LY l en f j (u::ts)
section
variable (l:List aC) (hl:l.length<=3000)
include hl
theorem apZ (en:Int) (hen:en≠36) (M:Nat) (ns:List (List UInt8)):∀ (ts:List aA) (i j n:Nat) (parts:List aA),LY l en i j ts->parts.length+ts.length<=6->ts.length<=n->1100000+100*(l.length - i)+60<=M->∃ k:Nat,j=k+1/\k < l.length/\kd l k=en/\BD M (aL M) l n (⟨false,false⟩,(i:Int),false,parts,ns)=some (parts++ts,(k:Int),false,ns)
 | [],i,j,n,parts,h,_,_,_=>by cases h
 | [t],i,j,n,parts,h,hp,hn,hM=>by
  obtain ⟨hh,k,hr,hik,hk,he,rfl⟩:=h;obtain ⟨n,rfl⟩:∃ m,n=m+1:=⟨n - 1,by simp at hn;omega⟩
  have e:=hr M (by show _+4*(16 - (1:Int).toNat)<=M;have:(1:Int).toNat=1:=rfl;omega) ns;have e':(aL M).oW ⟨false,false⟩ l (i:Int) false ns=some (eY t hh,(k:Int),false,ns):=e;have c36:(kd l k !=36)=true:=by rw [he];simpa using hen
  simp only [QD] at hp;refine ⟨k,rfl,hk,he,?_⟩;rw [BD];simp only [dN,aH,e',av];rw [gL bT,av,aG,bL,av,av,c36,aH];rfl
 | t::u::ts,i,j,n,parts,h,hp,hn,hM=>by
  obtain ⟨hh,k,f,hr,hik,hk,he,g1,hrest⟩:=h;have gl:=g1.1;simp only [fT] at hp hn;obtain ⟨n,rfl⟩:∃ m,n=m+1:=⟨n - 1,ah⟩
  have e:=hr M (by show _+4*(16 - (1:Int).toNat)<=M;have:(1:Int).toNat=1:=rfl;omega) ns;have e':(aL M).oW ⟨false,false⟩ l (i:Int) false ns=some (eY t hh,(k:Int),false,ns):=e;have c36:(kd l k !=36)=false:=by rw [he];rfl
  obtain ⟨k2,k2a,k2b,k2c,ih⟩:=apZ en hen M ns (u::ts) f j n (parts++[t]) hrest bT bT ah;have c6:((((parts++[t]).length:Nat):Int)==6)=false:=by
   simp;omega
  refine ⟨k2,k2a,k2b,k2c,?_⟩;rw [BD];simp only [dN,aH,e',av];rw [gL bT,av,aG,bL,av,av,c36,aG];have c6':((((parts++[(eY t hh).tree]).length:Nat):Int)==6)=false:=c6;rw [c6',aG,dR (kG hk) (show l.length<=100000 by omega),ahS l hl ns ah (show k+1<=l.length by omega) g1,av];refine Hw ih ?_;simp
theorem ahV (en:Int) (hen:en=33\/en=35) (M:Nat) (ns:List (List UInt8)) (ts:List aA) (i j:Nat) (h:LY l en i j ts) (ht:ts.length<=6) (hne:kd l i≠en\/en=35) (hM:1100000+100*(l.length - i)+60<=M):Dn (M+1) (aL<|M+1) en l (i:Int) false ns=some (ts,(j:Int),false,ns):=by
 obtain ⟨k,rfl,hk,he,e⟩:=apZ l hl en ah M ns ts i j M [] h (by simpa using ht) ah hM;have e':(aL<|M+1).Dj ⟨false,false⟩ l (i:Int) false ns=some (ts,(k:Int),false,ns):=e;have hc:(bif (kd l i==en) then some (en==33) else some false)=some false:=by
  rcases hne with h|h
  .have:(kd l i==en)=false:=by simpa using h
   rw [this];rfl
  .subst h;cases (kd l i==35)<;>rfl
 unfold Dn;rw [bL,av,hc,av,aG,e',av];dsimp only;rw [LQ ns (show k<=100000 by omega) he];rfl
theorem aDu (q:aN) (hq:q.Level=15) {i j:Nat} (ts:List aA) (ha:kd l i=6) (hb:kd l (i+1)=34) (hi:i+1 < l.length) (h:LY l 35 (i+2) j ts) (ht:ts.length<=6) (hz:aW ts<=1000):Rd l q i j ⟨5,0,(l[i]' ah).Text,[],ts⟩ false:=by
 intro M hM;obtain ⟨M,rfl⟩:∃ m,M=m+4:=⟨M - 4,ah⟩
 refine ow hq fun ns=>?_;have n15:(15:Int).toNat=15:=rfl;rw [hq,n15] at hM;have e0:=ahV l hl 35 (.inr rfl) M ns ts (i+2) j h ht (.inr rfl) ah;have YA:(aL<|M+2).xR 35 l ((i+2:Nat):Int) false ns=_:=e0;have c34:(kd l (i+1)==34)=true:=by rw [hb];rfl
 have e:(aL<|M+3).xM l (i:Int) false ns=some (eY ⟨5,0,(l[i]' ah).Text,[],ts⟩ false,(j:Int),false,ns):=by
  show EH (M+2) (aL<|M+2) l (i:Int) false ns=_;unfold EH;rw [PI false ns ah ah,av];dsimp only;rw [bL,av,c34,aH,dR (show i+1<=l.length by omega) (show l.length<=100000 by omega),YA];rfl
 show rX (M+3) (aL<|M+3) l (i:Int) false ns=_;unfold rX;rw [aG,bL,av,ha];show Option.bind ((aL<|M+3).xM l (i:Int) false ns) _=_;rw [e];rfl
theorem aqa (q:aN) (hq:q.Level=15) {i j:Nat} (k:Int) (hk:k=7\/k=8) (ts:List aA) (ha:kd l i=k) (hb:kd l (i+1)=32) (hi:i+2 < l.length) (h:ts=[]/\kd l (i+2)=33/\j=i+3\/kd l (i+2)≠33/\LY l 33 (i+2) j ts) (ht:ts.length<=6) (hz:aW ts<=1000):Rd l q i j ⟨k,0,(l[i]' ah).Text,[],ts⟩ false:=by
 intro M hM;obtain ⟨M,rfl⟩:∃ m,M=m+3:=⟨M - 3,ah⟩
 refine ow hq fun ns=>?_;have n15:(15:Int).toNat=15:=rfl;rw [hq,n15] at hM;have e0:Dn (M+1) (aL<|M+1) 33 l ((i+2:Nat):Int) false ns=some (ts,(j:Int),false,ns):=by
  rcases h with ⟨rfl,h2,rfl⟩|⟨h2,h3⟩
  .unfold Dn;rw [bL,av,h2,dR (show i+2<=l.length by omega)<|show l.length<=100000 by omega];rfl
  .exact ahV l hl 33 (.inl rfl) M ns ts (i+2) j h3 ht (.inl h2) ah
 have YA:(aL<|M+2).xR 33 l ((i+2:Nat):Int) false ns=_:=e0;have hk2:∀ v:Int,Gn (M+2) (aL<|M+2) l (((l[i]' ah).Text,((i+1:Nat):Int)),false,ns,v)=some ((⟨⟨v,0,(l[i]' ah).Text,[],ts⟩,false⟩:dx),(j:Int),false,ns):=fun v=>by
  unfold Gn;dsimp only;rw [LQ ns (show i+1<=100000 by omega) hb,av];dsimp only;rw [aH,YA];rfl
 show rX (M+2) (aL<|M+2) l (i:Int) false ns=_;unfold rX;rw [aG,bL,av,ha];have c32:(kd l (i+1) !=32)=false:=by rw [hb];rfl
 rcases hk with rfl|rfl
 .show Dl (M+2) (aL<|M+2) l (7,(i:Int),false,ns,true)=_;unfold Dl;dsimp only;rw [aH,PI false ns ah ah,av];exact hk2 7
 .show Dl (M+2) (aL<|M+2) l (8,(i:Int),false,ns,true)=_;unfold Dl;dsimp only;rw [aH,PI false ns ah ah,av];dsimp only;have hno:(bif ((l[i]' ah).Text==[108,101,110,103,116,104]) then (fu l ((i+1:Nat):Int) false ns).bind fun tZ=>some (tZ !=32) else some false)=some false:=by
   rw [bL,av,c32];cases ((l[i]' ah).Text==[108,101,110,103,116,104])<;>rfl
  rw [hno];exact hk2 8
theorem aDv (q:aN) (hq:q.Level=15) {i:Nat} (ha:kd l i=8) (hi:i < l.length) (hb:kd l (i+1)≠32) (hx:l[i].Text=[108,101,110,103,116,104]):Rd l q i (i+1) ⟨8,0,l[i].Text,[],[]⟩ false:=by
 intro M hM;obtain ⟨M,rfl⟩:∃ m,M=m+1:=⟨M - 1,ah⟩
 refine ow hq fun ns=>?_;have c32:(kd l (i+1) !=32)=true:=by simpa using hb
 show rX M (aL M) l (i:Int) false ns=_;unfold rX;rw [aG,bL,av,ha];show Dl M (aL M) l (8,(i:Int),false,ns,true)=_;unfold Dl;dsimp only;rw [aH,PI false ns hi ah,av];dsimp only;have hno:(bif (l[i].Text==[108,101,110,103,116,104]) then (fu l ((i+1:Nat):Int) false ns).bind fun tZ=>some (tZ !=32) else some false)=some true:=by
  rw [bL,av,c32,hx];rfl
 rw [hno];rfl
end
def Sg (l:List aC) (i:Nat) (x:List aC):Prop:=∃ r,l.drop i=x++r
def Sg.left {l:List aC} {i:Nat} {x y:List aC} (h:Sg l i (x++y)):Sg l i x:=by
 obtain ⟨r,hr⟩:=h;exact ⟨y++r,by rw [hr,kC]⟩
def Sg.right {l:List aC} {i:Nat} {x y:List aC} (h:Sg l i (x++y)):Sg l (i+x.length) y:=by
 obtain ⟨r,hr⟩:=h;exact ⟨r,by rw [<- UQ,hr,kC,List.drop_left' rfl]⟩
def Sg.tl {l:List aC} {i:Nat} {t:aC} {y:List aC} (h:Sg l i (t::y)):Sg l (i+1) y:=Sg.right (x:=[t]) h
def Sg.hd {l:List aC} {i:Nat} {t:aC} {y:List aC} (h:Sg l i (t::y)):∃ hi:i < l.length,l[i]=t:=by
 obtain ⟨r,hr⟩:=h;have hi:i < l.length:=by
  have:=congrArg List.length hr;simp at this;omega
 refine ⟨hi,?_⟩;rw [zB hi] at hr;exact (List.cons.inj hr).1
def Sg.kd {l:List aC} {i:Nat} {t:aC} {y:List aC} (h:Sg l i (t::y)):kd l i=t.Kind:=by
 obtain ⟨hi,e⟩:=h.hd;rw [lF hi,e]
def Sg.len {l:List aC} {i:Nat} {x:List aC} (h:Sg l i x) (hi:i<=l.length):i+x.length<=l.length:=by
 obtain ⟨r,hr⟩:=h;have:=congrArg List.length hr;simp at this;omega
def Sg.all (l:List aC):Sg l 0 l:=⟨[],aF⟩
def jH (q:aN) (k:Int):Prop:=k≠34/\∀ lv:Int,q.Level<=lv->cont lv q k=false
def jH.up {q q':aN} {k:Int} (h:jH q k) (hl:q.Level<=q'.Level) (h1:q'.bC=q.bC) (h2:q'.bE=q.bE):jH q' k:=
 ⟨h.1,fun lv hv=>by
  have:=h.2 lv ah;unfold cont at this ⊢;rw [h1,h2];exact this⟩
def ayp (q:aN):jH q 0:=⟨aD,fun lv _=>by
 unfold cont;by_cases h1:lv=1
 .subst h1;rfl
 have e1:(lv==1)=false:=by simpa using h1
 by_cases h2:lv=2
 .subst h2;rfl
 have e2:(lv==2)=false:=by simpa using h2
 rw [e1,e2];cases (lv==5)<;>cases (lv==8)<;>cases (lv==12)<;>cases (lv==13)<;>cases (lv==11)<;>cases (lv==14)<;>cases (lv==15)<;>rfl⟩
def rH (l:List aC) (i:Nat) (c:Bool):Prop:=∀ (M:Nat) (ns:List (List UInt8)),5000<=M->(bif (kd l i==32) then (Di M l (i:Int) false ns).bind fun lM=>some lM else some false)=some c
def InS (l:List aC) (q:aN) (i j:Nat) (t:aA) (c:Nat):Prop:=∃ (nm:List UInt8) (ks:List aA),t=⟨13,0,nm,[],ks⟩/\∀ (M:Nat) (ns:List (List UInt8)),1100000+100*(l.length - i)+44<=M+1->
 ∃ n,M - c<=n/\((∃ r:dx×Int×Bool×List (List UInt8),r.2.2.2=ns/\pF (aL<|M+1) 5 (dW q) l (i:Int) false ns=yU M (aL M) l n (dW q,r,(j:Int),false,nm,ks))\/
  ∃ r:List aA×Int×Bool×List (List UInt8),r.2.2.2=ns/\pF (aL<|M+1) 5 (dW q) l (i:Int) false ns=zS M (aL M) l n (dW q,r,(j:Int),false,nm,ks))
def JE (l:List aC) (q:aN) (i j:Nat) (t:aA) (h:Bool) (c:Nat):Prop:=(Rd l (bA q 6) i j t h/\(q.bC=false->rH l i false))\/(h=false/\InS l q i j t c)
def aqb (l:List aC) (q:aN) {i j:Nat} {t:aA} {h:Bool} (hcm:q.bC=false->rH l i false) (hr:Rd l (bA q 6) i j t h):JE l q i j t h 0:=.inl ⟨hr,hcm⟩
def ahW {l:List aC} {q:aN} {i M:Nat} {ns:List (List UInt8)} {c:Bool} (hM:5000<=M) (hcm:q.bC=false->rH l i c) (hn:q.bC=true->c=false):(bif (!false) then (fu l (i:Int) false ns).bind fun jq=>bif (jq==32) then bif (!(dW q).dh) then (Di M l (i:Int) false ns).bind fun lM=>some lM else some false else some false else some false)=some c:=by
 rw [dN,aH,bL,av];show (bif (kd l i==32) then bif (!q.bC) then (Di M l (i:Int) false ns).bind fun lM=>some lM else some false else some false)=_;cases hq:q.bC with
 | true=>rw [hn hq];cases (kd l i==32)<;>rfl
 | false=>exact hcm hq M ns hM
def PK {l:List aC} {q:aN} {j:Nat} (ns:List (List UInt8)):(bif (!false) then (fu l (j:Int) false ns).bind fun Dq=>bif (Dq==24) then some (!(dW q).dh) else some false else some false)=some (cont 5 q<|kd l j):=by
 rw [dN,aH,bL,av];show _=some (kd l j==24&&!q.bC);cases (kd l j==24)<;>rfl
section
variable (l:List aC) (hl:l.length<=3000)
include hl
theorem aDx (q:aN) (hn:q.bC=false) {i k:Nat} (ts:List aA) (hcm:rH l i true) (ha:kd l i=32) (hi:i < l.length) (h:LY l 33 (i+1) k ts) (ht:ts.length<=6) (hne:kd l (i+1)≠33) (hk:i < k) (hk2:k+1 < l.length) (hin:kd l k=24) (hnm:kd l (k+1)=6) (hz:aW ts<=1000):JE l q i (k+2) ⟨13,0,(l[k+1]'hk2).Text,[],ts⟩ false 0:=by
 refine .inr ⟨rfl,_,ts,rfl,fun M ns hM=>?_⟩;obtain ⟨M,rfl⟩:∃ m,M=m+2:=⟨M - 2,ah⟩
 have e0:=ahV l hl 33 (.inl rfl) M ns ts (i+1) k h ht (.inl hne) ah;have YA:(aL<|M+2).xR 33 l ((i+1:Nat):Int) false ns=_:=e0;have hg:cont 5 q (kd l k)=true:=by show (kd l k==24&&!q.bC)=true;rw [hin,hn];rfl
 have c24:(kd l k !=24)=false:=by rw [hin];rfl
 have hnn:neN ts=some false:=by
  cases ts with
  | nil=>exact h.elim
  | cons _ _=>rfl
 refine ⟨M+2,ah,.inr ⟨(ts,(k:Int),false,ns),rfl,?_⟩⟩;show BF (M+2) (aL<|M+2) (dW q) l (i:Int) false ns=_;unfold BF;rw [ahW ah (fun _=>hcm) (fun e=>by rw [hn] at e;cases e),av,aH,dR (kG hi) (show l.length<=100000 by omega),YA,av];dsimp only;have iL:(bif (!false) then (fu l (k:Int) false ns).bind fun CG=>some (CG !=24) else some false)=some false:=by rw [dN,aH,bL,av,c24]
 rw [iL,av,aG,PK,av,hg,aH,hnn,av,dR (show k<=l.length by omega) (show l.length<=100000 by omega),Yb ns hk2 ah hnm,av]
theorem aDy (q:aN) (hn:q.bC=false) {i j:Nat} {t:aA} {h:Bool} {c:Nat} (hch:JE l q i j t h c) (hc:c<=3000) (hj:j+1 < l.length) (hin:kd l j=24) (hnm:kd l (j+1)=6) (hz:aZ t<=1000):JE l q i (j+2) ⟨13,0,(l[j+1]'hj).Text,[],[t]⟩ false (c+1):=by
 refine .inr ⟨rfl,_,[t],rfl,fun M ns hM=>?_⟩;have hg:cont 5 q (kd l j)=true:=by show (kd l j==24&&!q.bC)=true;rw [hin,hn];rfl
 have n6:(6:Int).toNat=6:=rfl;rcases hch with ⟨hr,hcm⟩|⟨_,nm,ks,rfl,hs⟩
 .have e:=hr M (by show _+4*(16 - (6:Int).toNat)<=M;omega) ns;have e':(aL M).yQ (dW q) l (i:Int) false ns=some (eY t h,(j:Int),false,ns):=e;refine ⟨M,ah,.inl ⟨(eY t h,(j:Int),false,ns),rfl,?_⟩⟩;show BF M (aL M) (dW q) l (i:Int) false ns=_;unfold BF;rw [ahW ah hcm fun _=>rfl,av,aG,e',av];dsimp only;rw [PK,av,hg,aH,dR (show j<=l.length by omega) (show l.length<=100000 by omega),Yb ns hj ah hnm,av];rfl
 .obtain ⟨n,hn1,hs⟩:=hs M ns hM;obtain ⟨n,rfl⟩:∃ k,n=k+1:=⟨n - 1,ah⟩
  refine ⟨n,ah,?_⟩;rcases hs with ⟨r,hr,hs⟩|⟨r,hr,hs⟩
  .refine .inl ⟨r,hr,hs.trans ?_⟩;rw [yU,hr,PK,av,hg,aH,dR (show j<=l.length by omega) (show l.length<=100000 by omega),Yb ns hj ah hnm,av]
  .refine .inr ⟨r,hr,hs.trans ?_⟩;rw [zS,hr,PK,av,hg,aH,dR (show j<=l.length by omega) (show l.length<=100000 by omega),Yb ns hj ah hnm,av]
omit hl in
theorem ahX (q:aN) (hq:q.Level=5) {i j:Nat} {t:aA} {h:Bool} {c:Nat} (hch:JE l q i j t h c) (hc:c<=3000) (hs:cont 5 q (kd l j)=false):Rd l q i j t h:=by
 intro M hM;have n5:(5:Int).toNat=5:=rfl;have n6:(6:Int).toNat=6:=rfl;rw [hq,n5] at hM;obtain ⟨M,rfl⟩:∃ m,M=m+1:=⟨M - 1,ah⟩
 refine ow hq fun ns=>?_;rcases hch with ⟨hr,hcm⟩|⟨rfl,nm,ks,rfl,hx⟩
 .have e:=hr M (by show _+4*(16 - (6:Int).toNat)<=M;omega) ns;have e':(aL M).yQ (dW q) l (i:Int) false ns=some (eY t h,(j:Int),false,ns):=e;show BF M (aL M) (dW q) l (i:Int) false ns=_;unfold BF;rw [ahW ah hcm fun _=>rfl,av,aG,e',av];dsimp only;rw [PK,av,hs,aG]
 .obtain ⟨n,hn1,hx⟩:=hx M ns ah;obtain ⟨n,rfl⟩:∃ k,n=k+1:=⟨n - 1,ah⟩
  rcases hx with ⟨r,hr,hx⟩|⟨r,hr,hx⟩
  .rw [hx,yU,hr,PK,av,hs,aG];rfl
  .rw [hx,zS,hr,PK,av,hs,aG];rfl
end
def inn:Nat->List aC->Bool
 | d,[]=>d==0
 | d,t::ts=>bif jL t.Kind then inn (d+1) ts else bif lS t.Kind then !(d==0)&&inn (d - 1) ts else (bif d==0&&t.Kind==36 then false else inn d ts)
def adb (l:List aC) (M:Nat) (i:Int) (ns:List (List UInt8)) (L:List aC) (kb:(List aC×Int×Int)->Option Bool) (j D:Nat) (hj:j<=3000) (hD:1<=D):zN M l i false ns kb (L,(j:Int),(D:Int))=kb (L,(D:Int),((j+1:Nat):Int)):=by
 unfold zN;dsimp only;rw [nE (show¬(D:Int)<=0 by omega),aG,dR hj ah]
def ade (l:List aC) (hl:l.length<=3000) (M i:Nat) (ns:List (List UInt8)) (L:List aC) (hL:L=l.drop i) (r:Bool):∀ (x:List aC) (d j n:Nat) (c:aC),Sg l (i+j) (x++[c])->lS c.Kind=true/\r=false\/c.Kind=36/\r=true->inn d x=true->x.length < n->d+x.length<=4000->qD M l (i:Int) false ns n (L,((d+1:Nat):Int),(j:Int))=some r
 | [],d,j,n,c,hs,hc,hi,hn,hd=>by
  obtain ⟨n,rfl⟩:∃ m,n=m+1:=⟨n - 1,by simp at hn;omega⟩
  have hs:Sg l (i+j) (c::[]):=hs;obtain ⟨hj,hk⟩:=hs.hd;have hd0:d=0:=by simpa [inn] using hi
  subst hd0;have PL:j < L.length:=by rw [hL];simp;omega
  have YB:L[j]=c:=by subst hL;rw [List.getElem_drop];exact hk
  rw [qD,gJ PL,aH,bS PL,av,YB,TV,av];rcases hc with ⟨hc,rfl⟩|⟨hc,rfl⟩
  .have hop:jL c.Kind=false:=by
    cases h:jL c.Kind with
    | false=>rfl
    | true=>rw [(Pf h).1] at hc;cases hc
   rw [hop,aG,Ya,av,hc,aH];unfold zN;rfl
  .rw [hc,show jL 36=false from rfl,aG,Ya,av,show lS 36=false from rfl,aG];rfl
 | t::x,d,j,n,c,hs,hc,hi,hn,hd=>by
  simp only [fT] at hn hd;obtain ⟨n,rfl⟩:∃ m,n=m+1:=⟨n - 1,ah⟩
  have hs:Sg l (i+j) (t::(x++[c])):=hs;obtain ⟨hj,hk⟩:=hs.hd;have htl:Sg l (i+(j+1)) (x++[c]):=hs.tl;have PL:j < L.length:=by rw [hL];simp;omega
  have YB:L[j]=t:=by subst hL;rw [List.getElem_drop];exact hk
  rw [inn] at hi;rw [qD,gJ PL,aH,bS PL,av,YB,TV,av];cases ho:jL t.Kind with
  | true=>
   rw [ho,aH] at hi;rw [aH,wrap64 ah ah,show ((d+1:Nat):Int)+1=((d+1+1:Nat):Int) by omega,adb l M i ns L _ j (d+1+1) ah ah];exact ade l hl M i ns L hL r x (d+1) (j+1) n c htl hc hi ah ah
  | false=>
   rw [ho,aG] at hi;rw [aG,Ya,av];cases hcl:lS t.Kind with
   | true=>
    rw [hcl,aH] at hi;cases d with
    | zero=>cases hi
    | succ d=>
     have hi:inn d x=true:=by simpa using hi
     rw [aH,wrap64 ah ah,show ((d+1+1:Nat):Int) - 1=((d+1:Nat):Int) by omega,adb l M i ns L _ j (d+1) ah ah];exact ade l hl M i ns L hL r x d (j+1) n c htl hc hi ah ah
   | false=>
    rw [hcl,aG] at hi;have ET:(d==0&&t.Kind==36)=false:=by
     cases h:(d==0&&t.Kind==36) with
     | true=>rw [h,aH] at hi;cases hi
     | false=>rfl
    rw [ET,aG] at hi;have hb:(bif (t.Kind==36) then some (((d+1:Nat):Int)==1) else some false)=some false:=by
     cases h:t.Kind==36 with
     | false=>rfl
     | true=>
      rw [h,FC] at ET;have: ¬d=0:=by simpa using ET
      have:(((d+1:Nat):Int)==1)=false:=bT;rw [this];rfl
    rw [aG,hb,av,aG,adb l M i ns L _ j (d+1) ah ah];exact ade l hl M i ns L hL r x d (j+1) n c htl hc hi ah ah
def aqc (l:List aC) (hl:l.length<=3000) (i:Nat) (o c:aC) (x:List aC) (r:Bool) (hs:Sg l i (o::(x++[c]))) (ho:o.Kind=32) (hc:lS c.Kind=true/\r=false\/c.Kind=36/\r=true) (hi:inn 0 x=true):rH l i r:=by
 intro M ns hM;obtain ⟨hj,hk⟩:=hs.hd;have hlen:=hs.tl.len ah;simp only [jQ,QD] at hlen;obtain ⟨M,rfl⟩:∃ m,M=m+1:=⟨M - 1,ah⟩
 have hkd:kd l i=32:=by rw [lF hj,hk,ho]
 have hcut:=afe (l:=l) (a:=i) (b:=l.length) ah (cZ _);have ht:(l.drop i).take (l.length - i)=l.drop i:=aea aF;rw [ht] at hcut;have PL:0 < (l.drop i).length:=bT;have YB:(l.drop i)[0]=o:=by rw [List.getElem_drop];exact hk
 have e0:ix (l.drop i) 0=some (l.drop i)[0]:=bS PL;rw [hkd,show ((32:Int)==32)=true from rfl,aH];unfold Di;rw [hcut,av,qD,fU (show (0:Int) < ((l.drop i).length:Int) by omega),aH,e0,av,YB,TV,ho,av,show jL 32=true from rfl,aH];have:=adb l (M+1) (i:Int) ns (l.drop i) (qD (M+1) l (i:Int) false ns M) 0 1 ah ah;have this:zN (M+1) l (i:Int) false ns (qD (M+1) l (i:Int) false ns M) (l.drop i,0,IntKind.wrap .i64<|0+1)=_:=this;rw [this,ade l hl (M+1) i ns (l.drop i) rfl r x 0 (0+1) M c hs.tl hc hi ah ah];rfl
def aDz (l:List aC) (hl:l.length<=3000) (i:Nat) (o c:aC) (x:List aC) (hs:Sg l i (o::(x++[c]))) (ho:o.Kind=32) (hc:lS c.Kind=true) (hi:inn 0 x=true):rH l i false:=aqc l hl i o c x false hs ho (.inl ⟨hc,rfl⟩) hi
def aDA (l:List aC) (hl:l.length<=3000) (i:Nat) (o c:aC) (x:List aC) (hs:Sg l i (o::(x++[c]))) (ho:o.Kind=32) (hc:c.Kind=36) (hi:inn 0 x=true):rH l i true:=aqc l hl i o c x true hs ho (.inr ⟨hc,rfl⟩) hi
def aDB (l:List aC) (i:Nat) (h:kd l i≠32):rH l i false:=by
 intro M ns hM;have:(kd l i==32)=false:=by simpa using h
 rw [this];rfl
def axl (k:Int):Oj k=some (jL k):=opS k
def axn (k:Int):Oi k=some (lS k):=clS k
def PN {lv most:Int} {sd:Int×Int} (hc:Fb lv most sd) (hm:0<=most) {l:List aC} {q:aN} {i j:Nat} {t:aA} {h:Bool} (hr:Rd l (bA q<|lv+1) i j t h) (hn:cont lv q (kd l j)=false):Rd l (bA q lv) i j t h:=
 ada hc (q:=bA q lv) rfl (Ch.first hc (q:=bA q lv) hr) (by simpa using hm) (.inl hn)
def aqd {l:List aC} {q:aN} {i j:Nat} {t:aA} {h:Bool} (lv:Int) (h1:1<=lv) (h10:lv<=10) (hsz:aZ t<=400) (hr:Rd l (bA q<|lv+1) i j t h) (hn:cont lv q (kd l j)=false) (hcm:lv=5->q.bC=false->rH l i false):Rd l (bA q lv) i j t h:=by
 have:lv=1\/lv=2\/lv=3\/lv=4\/lv=5\/lv=6\/lv=7\/lv=8\/lv=9\/lv=10:=ah;rcases this with rfl|rfl|rfl|rfl|rfl|rfl|rfl|rfl|rfl|rfl
 .exact aCO l (bA q 1) i j t h rfl hr hn hsz
 .exact aCP l (bA q 2) i j t h rfl hr hn
 .exact PN (.inl ⟨rfl,rfl,rfl⟩) ah hr hn
 .exact PN (.inr<|.inl ⟨rfl,rfl,rfl⟩) ah hr hn
 .exact ahX l (bA q 5) rfl (aqb l (bA q 5) (hcm rfl) hr) ah hn
 .exact PN (.inr<|.inr<|.inl ⟨rfl,rfl,rfl⟩) ah hr hn
 .exact PN (.inr<|.inr<|.inr<|.inl ⟨rfl,rfl,rfl⟩) ah hr hn
 .exact PN (.inr<|.inr<|.inr<|.inr<|.inl ⟨rfl,rfl,rfl⟩) ah hr hn
 .exact PN (.inr<|.inr<|.inr<|.inr<|.inr<|.inl ⟨rfl,rfl,rfl⟩) ah hr hn
 .exact PN (.inr<|.inr<|.inr<|.inr<|.inr<|.inr ⟨rfl,rfl,rfl⟩) ah hr hn
def down {l:List aC} {q:aN} {i j:Nat} {t:aA} {h:Bool} (hsz:aZ t<=400) (hcm:q.bC=false->rH l i false):∀ (n:Nat) (b:Int),1<=b->b+n<=11->Rd l (bA q<|b+n) i j t h->(∀ lv:Int,b<=lv->cont lv q (kd l j)=false)->Rd l (bA q b) i j t h
 | 0,b,_,_,hr,_=>by
  have:b+((0:Nat):Int)=b:=ah;rw [this] at hr;exact hr
 | n+1,b,h1,h2,hr,hn=>by
  have hr':Rd l (bA q<|(b+1)+(n:Int)) i j t h:=by
   have:b+((n+1:Nat):Int)=(b+1)+(n:Int):=ah;rw [<- this];exact hr
  exact aqd b h1 ah hsz (down hsz hcm n (b+1) ah ah hr' fun lv hv=>hn lv ah) (hn b ah) fun _=>hcm
def aDC {l:List aC} {q:aN} {i j:Nat} {t:aA} {h:Bool} (hr:Rd l (bA q 15) i j t h) (hk:kd l i≠68):Rd l (bA q 14) i j t h:=aCS l (bA q 14) i j t h rfl hr hk
def aDD {l:List aC} {q:aN} {i j:Nat} {t:aA} {h:Bool} (hr:Rd l (bA q 14) i j t h) (hk:(kd l i==51||kd l i==52)=false) (hc:cont 13 q (kd l j)=false):Rd l (bA q 13) i j t h:=aCR l (bA q 13) i j t h rfl hr hc hk
def aDE {l:List aC} {q:aN} {i j:Nat} {t:aA} {h:Bool} (hr:Rd l (bA q 13) i j t h) (hc:cont 12 q (kd l j)=false):Rd l (bA q 12) i j t h:=apP l (bA q 12) i j t h rfl hr hc
def aDF {l:List aC} {q:aN} {i j:Nat} {t:aA} {h:Bool} (hr:Rd l (bA q 13) i j t h) (hc:cont 12 q (kd l j)=false) (hk:(kd l i==56||(kd l i==55||kd l i==61))=false):Rd l (bA q 11) i j t h:=aCQ l (bA q 11) i j t h rfl hr hc hk
def Jz (k:Int):Bool:=!jL k&&(!lS k&&!(k==36))
def aDG {t:aC} (h:Jz t.Kind=true) (d:Nat) (y:List aC):inn d (t::y)=inn d y:=by
 unfold Jz at h;simp only [dL,kX] at h;rw [inn,h.1,aG,h.2.1,aG,h.2.2,MK,aG]
def aDH {t:aC} (h:jL t.Kind=true) (d:Nat) (y:List aC):inn d (t::y)=inn (d+1) y:=by
 rw [inn,h,aH]
def aDI {t:aC} (h:lS t.Kind=true) (d:Nat) (y:List aC):inn (d+1) (t::y)=inn d y:=by
 have hop:jL t.Kind=false:=by
  cases ho:jL t.Kind with
  | false=>rfl
  | true=>rw [(Pf ho).1] at h;cases h
 rw [inn,hop,aG,h,aH];simp
def lD (l:List aC) (i:Nat):List UInt8:=(l[i]?.map (·.Text)).getD []
def ze {l:List aC} {i:Nat} (h:i < l.length):lD l i=l[i].Text:=by unfold lD;rw [fQ h];rfl
def wZ:aN:=⟨14,false,false,false,false⟩
mutual
inductive bV (l:List aC):aN->Nat->Nat->aA->Bool->Prop
 | par {p:aN} {i j:Nat} {t:aA} {h:Bool}:kd l i=32->i+1 < j->j < l.length->bV l bG (i+1) j t h->kd l j=33->bV l p i (j+1) t true
 | bare {p:aN} {i j:Nat} {t:aA}:dD t.kind t.op p=true->i < j->j<=l.length->dH l p i j t->bV l p i j t false
inductive dH (l:List aC):aN->Nat->Nat->aA->Prop
 | leaf {p:aN} {i:Nat} (k:Int):k=3\/k=4\/k=5->kd l i=k->dH l p i (i+1) ⟨k - 1,0,lD l i,[],[]⟩
 | name {p:aN} {i:Nat}:kd l i=6->dH l p i (i+1) ⟨1,0,lD l i,[],[]⟩
 | index {p:aN} {i j:Nat} {ts:List aA}:kd l i=6->kd l (i+1)=34->i+2 < j->j < l.length->kd l j=35->ts.length<=6->oZ l (i+2) j ts->dH l p i (j+1) ⟨5,0,lD l i,[],ts⟩
 | nI {p:aN} {i:Nat} (k:Int):k=7\/k=8->kd l i=k->kd l (i+1)=32->kd l (i+2)=33->dH l p i (i+3) ⟨k,0,lD l i,[],[]⟩
 | call {p:aN} {i j:Nat} {ts:List aA} (k:Int):k=7\/k=8->kd l i=k->kd l (i+1)=32->i+2 < j->j < l.length->kd l j=33->ts.length<=6->oZ l (i+2) j ts->dH l p i (j+1) ⟨k,0,lD l i,[],ts⟩
 | len {p:aN} {i:Nat}:kd l i=8->kd l (i+1)≠32->lD l i=[108,101,110,103,116,104]->dH l p i (i+1) ⟨8,0,lD l i,[],[]⟩
 | field {p:aN} {i j:Nat} {t:aA} {h:Bool}:kd l i=68->i+1 < j->bV l ⟨14,true,false,false,false⟩ (i+1) j t h->dH l p i j ⟨6,0,[],[],[t]⟩
 | pre {p:aN} {i j:Nat} {t:aA} (o:Int):o=51\/o=52->kd l i=o->eT t.kind=true->i+1 < j->dH l wZ (i+1) j t->dH l p i j ⟨9,o,[],[],[t]⟩
 | post {p:aN} {i j:Nat} {t:aA} (o:Int):o=51\/o=52->kd l j=o->eT t.kind=true->i < j->dH l wZ i j t->dH l p i (j+1) ⟨10,o,[],[],[t]⟩
 | unary {p:aN} {i j:Nat} {t:aA} {h:Bool} (o:Int):o=55\/o=56\/o=61->kd l i=o->i+1 < j->bV l ⟨11,false,p.bC,p.bE,false⟩ (i+1) j t h->dH l p i j ⟨11,o,[],[],[t]⟩
 | bin {p:aN} {i m f j:Nat} {a b:aA} {h1 h2:Bool} (o:Int):bg o≠0->o≠99->kd l m=o->i < m->f < j->((bg o=3\/bg o=4)/\Ln l (m+1) f\/ ¬(bg o=3\/bg o=4)/\f=m+1)->bV l ⟨(jk o).1,false,p.bC,p.bE,p.iZ⟩ i m a h1->bV l ⟨(jk o).2,false,p.bC,p.bE,false⟩ f j b h2->dH l p i j ⟨12,o,[],[],[a,b]⟩
 | cat {p:aN} {i m j:Nat} {a b:aA} {h1 h2:Bool}:i < m->m < j->bV l ⟨8,false,p.bC,p.bE,p.iZ⟩ i m a h1->bV l ⟨9,false,p.bC,p.bE,true⟩ m j b h2->dH l p i j ⟨12,99,[],[],[a,b]⟩
 | one {p:aN} {i m:Nat} {t:aA} {h:Bool}:i < m->kd l m=24->kd l (m+1)=6->bV l ⟨5,false,p.bC,p.bE,p.iZ⟩ i m t h->dH l p i (m+2) ⟨13,0,lD l<|m+1,[],[t]⟩
 | many {p:aN} {i m:Nat} {ts:List aA}:kd l i=32->i+1 < m->kd l m=33->kd l (m+1)=24->kd l (m+2)=6->2<=ts.length->ts.length<=6->oZ l (i+1) m ts->dH l p i (m+3) ⟨13,0,lD l<|m+2,[],ts⟩
 | cond {p:aN} {i m n j:Nat} {a b c:aA} {h1 h2 h3:Bool}:i < m->kd l m=65->m+1 < n->kd l n=66->n+1 < j->bV l ⟨3,false,p.bC,p.bE,p.iZ⟩ i m a h1->bV l ⟨2,false,p.bC,p.bE,false⟩ (m+1) n b h2->bV l ⟨2,false,p.bC,p.bE,false⟩ (n+1) j c h3->dH l p i j ⟨14,0,[],[],[a,b,c]⟩
 | assign {p:aN} {i m j:Nat} {a b:aA} {h:Bool} (o:Int):nM o=true->kd l m=o->i < m->m+1 < j->eT a.kind=true->dH l wZ i m a->bV l ⟨1,false,p.bC,p.bE,false⟩ (m+1) j b h->dH l p i j ⟨15,o,[],[],[a,b]⟩
inductive oZ (l:List aC):Nat->Nat->List aA->Prop
 | one {i j:Nat} {t:aA} {h:Bool}:i < j->bV l bG i j t h->oZ l i j [t]
 | cons {i k f j:Nat} {t u:aA} {ts:List aA} {h:Bool}:i < k->kd l k=36->Ln l (k+1) f->f < j->bV l bG i k t h->oZ l f j (u::ts)->oZ l i j (t::u::ts)
end
def bV.lt {l:List aC} {p:aN} {i j:Nat} {t:aA} {h:Bool} (d:bV l p i j t h):i < j/\j<=l.length:=by
 cases d with
 | par=>omega
 | bare=>omega
def dH.low {l:List aC} {p:aN} {i j:Nat} {t:aA} (d:dH l p i j t) (hk:t.kind<=9) (q:aN):dH l q i j t:=by
 cases d with
 | leaf k h1 h2=>exact .leaf k h1 h2
 | name h1=>exact .name h1
 | index h1 h2 h3 h4 h5 h6 h7=>exact .index h1 h2 h3 h4 h5 h6 h7
 | nI k h1 h2 h3 h4=>exact .nI k h1 h2 h3 h4
 | call k h1 h2 h3 h4 h5 h6 h7 h8=>exact .call k h1 h2 h3 h4 h5 h6 h7 h8
 | len h1 h2 h3=>exact .len h1 h2 h3
 | field h1 h2 h3=>exact .field h1 h2 h3
 | pre o h1 h2 h3 h4 h5=>exact .pre o h1 h2 h3 h4 h5
 | post=>exact absurd hk (by show¬(10:Int)<=9;omega)
 | unary=>exact absurd hk (by show¬(11:Int)<=9;omega)
 | bin=>exact absurd hk (by show¬(12:Int)<=9;omega)
 | cat=>exact absurd hk (by show¬(12:Int)<=9;omega)
 | one=>exact absurd hk (by show¬(13:Int)<=9;omega)
 | many=>exact absurd hk (by show¬(13:Int)<=9;omega)
 | cond=>exact absurd hk (by show¬(14:Int)<=9;omega)
 | assign=>exact absurd hk (by show¬(15:Int)<=9;omega)
def zY {l:List aC} {m f:Nat} {P:Prop} (h:P/\Ln l (m+1) f\/ ¬P/\f=m+1):m+1<=f:=by
 rcases h with ⟨_,h⟩|⟨_,h⟩
 .exact h.1
 .omega
def rF {k o:Int} {p:aN} (h:dD k o p=true) (hd:p.tV=false):p.Level<=lv k o:=by
 unfold dD at h;rw [hd] at h;simp only [dL,Ec,Kt,lG] at h;exact h.2.2.2.2
def bV.lvl {l:List aC} {p:aN} {i j:Nat} {t:aA} {h:Bool} (d:bV l p i j t h) (hd:p.tV=false):h=true\/p.Level<=lv t.kind t.op:=by
 cases d with
 | par=>exact .inl rfl
 | bare hfit=>exact .inr (rF hfit hd)
def aDJ {k o:Int} {p:aN} (h:dD k o p=true) (hs:p.iZ=true):k≠11/\k≠9/\k≠4:=by
 unfold dD at h;rw [hs] at h;simp only [dL,rO,kX,ME,QJ] at h;exact h.2.2.2.1
def aDK {k o:Int} {p:aN} (h:dD k o p=true) (hk:k=13):p.bC=false:=by
 unfold dD at h;simp only [dL,kX,ajE] at h;rcases h.2.1 with h|h
 .exact h
 .rw [hk] at h;cases h
def aDL {k o:Int} {p:aN} (h:dD k o p=true) (hk:k=12) (ho:o=62):p.bE=false:=by
 unfold dD at h;simp only [dL,kX,ajE] at h;rcases h.2.2.1 with h|h
 .exact h
 .rw [hk,ho] at h;rcases h with h|h<;>cases h
def aDM {o:Int} (h:12<=bg o):jk o=(13,11):=by
 have:=OY o;have e:bg o=12:=ah;unfold jk;rw [e];rfl
def OZ {l:List aC} {p:aN} {i j:Nat} {t:aA} (d:dH l p i j t) (h:eT t.kind=true):kd l i=6\/kd l i=68:=by
 cases d with
 | leaf k h1 h2=>rcases h1 with rfl|rfl|rfl<;>cases h
 | name h1=>exact .inl h1
 | index h1=>exact .inl h1
 | nI k h1=>rcases h1 with rfl|rfl<;>cases h
 | call k h1=>rcases h1 with rfl|rfl<;>cases h
 | field h1=>exact .inr h1
 | len|pre|post|unary|bin|cat|one|many|cond|assign=>cases h
def adf (k:Int):Bool:=qm k||(k==5||(k==51||(k==52||(k==55||(k==56||k==61)))))
structure PO (p:aN) (t:aA) (k:Int):Prop where
 o:adf k=true
 s:p.iZ=true->t.kind≠11->t.kind≠9->t.kind≠4->qm k=true
 a:12<=lv t.kind t.op->k≠55/\k≠56/\k≠61
 b:14<=lv t.kind t.op->k≠51/\k≠52
 c:15<=lv t.kind t.op->k≠68
structure FsD (p:aN) (t:aA) (h:Bool) (k:Int):Prop where
 o:adf k=true
 s:p.iZ=true->qm k=true
 a:h=true\/12<=lv t.kind t.op->k≠55/\k≠56/\k≠61
 b:h=true\/14<=lv t.kind t.op->k≠51/\k≠52
 c:h=true\/15<=lv t.kind t.op->k≠68
def PO.beg {p:aN} {t:aA} {k:Int} (h:qm k=true) (a:12<=lv t.kind t.op->k≠55/\k≠56/\k≠61) (b:14<=lv t.kind t.op->k≠51/\k≠52) (c:15<=lv t.kind t.op->k≠68):PO p t k:=⟨by unfold adf;rw [h];rfl,fun _ _ _ _=>h,a,b,c⟩
def PO.LZ {p:aN} {t:aA} {k:Int} (h:k=3\/k=4\/k=6\/k=7\/k=8\/k=32):PO p t k:=by
 rcases h with rfl|rfl|rfl|rfl|rfl|rfl<;>exact .beg rfl (fun _=>aD) (fun _=>aD) (fun _=>aD)
def ayr {k:Int} (h:qm k=true):k≠55/\k≠56/\k≠61/\k≠51/\k≠52:=by
 unfold qm at h;simp only [lH,mR] at h;omega
def aqf (l:List aC):∀ (n i j:Nat),j - i<=n->(∀ p t,i < j->dH l p i j t->PO p t (kd l i))/\(∀ p t h,bV l p i j t h->FsD p t h (kd l i)):=by
 intro n;induction n with
 | zero=>exact fun i j hn=>⟨fun p t hij=>ah,fun p t h d=>by have:=d.lt;omega⟩
 | succ n ih=>
  intro i j hn;have hN:∀ p t,i < j->dH l p i j t->PO p t (kd l i):=by
   intro p t hij d;cases d with
   | leaf k h1 h2=>
    rw [h2];rcases h1 with rfl|rfl|rfl
    .exact .LZ ah
    .exact .LZ ah
    .exact ⟨rfl,fun _ _ _ h=>absurd rfl h,fun _=>aD,fun _=>aD,fun _=>aD⟩
   | name h1=>exact .LZ ah
   | index h1=>exact .LZ ah
   | nI k h1 h2=>exact .LZ ah
   | call k h1 h2=>exact .LZ ah
   | len h1=>exact .LZ ah
   | field h1=>rw [h1];exact .beg rfl (fun _=>aD) (fun _=>aD) (fun h=>absurd h<|by show¬(15:Int)<=14;omega)
   | pre o h1 h2=>
    rw [h2];exact ⟨by rcases h1 with rfl|rfl<;>rfl,fun _ _ h=>absurd rfl h,fun _=>ah,fun h=>absurd h (by show¬(14:Int)<=13;omega),fun h=>absurd h<|by show¬(15:Int)<=13;omega⟩
   | post o h1 h2 h3 h4 h5=>rcases OZ h5 h3 with e|e<;>rw [e]<;>exact .beg rfl (fun _=>aD) (fun _=>aD) (fun h=>absurd h<|by show¬(15:Int)<=13;omega)
   | unary o h1 h2=>
    rw [h2];exact ⟨by rcases h1 with rfl|rfl|rfl<;>rfl,fun _ h=>absurd rfl h,fun h=>absurd h (by show¬(12:Int)<=11;omega),fun h=>absurd h (by show¬(14:Int)<=11;omega),fun h=>absurd h<|by show¬(15:Int)<=11;omega⟩
   | bin o h1 h2 h3 h4 h5 h6 h7 h8=>
    have hlt:=h7.lt;have r:=(ih i _ (by have:=zY h6;omega)).2 _ _ _ h7;have ho:=OY o;refine ⟨r.o,fun hs _ _ _=>r.s hs,fun h=>r.a ?_,fun h=>absurd h (by show¬(14:Int)<=bg o;omega),fun h=>absurd h<|by show¬(15:Int)<=bg o;omega⟩;have h:12<=bg o:=h;cases h7 with
    | par=>exact .inl rfl
    | bare hf=>
     have:=rF hf rfl;rw [aDM h] at this;exact .inr (by have this:(13:Int)<=_:=this;omega)
   | cat h1 h2 h3 h4=>
    have r:=(ih i _ ah).2 _ _ _ h3;exact ⟨r.o,fun hs _ _ _=>r.s hs,fun h=>absurd h (by show¬(12:Int)<=8;omega),fun h=>absurd h (by show¬(14:Int)<=8;omega),fun h=>absurd h<|by show¬(15:Int)<=8;omega⟩
   | one h1 h2 h3 h4=>
    have r:=(ih i _ ah).2 _ _ _ h4;exact ⟨r.o,fun hs _ _ _=>r.s hs,fun h=>absurd h (by show¬(12:Int)<=5;omega),fun h=>absurd h (by show¬(14:Int)<=5;omega),fun h=>absurd h<|by show¬(15:Int)<=5;omega⟩
   | many h1=>exact .LZ ah
   | cond h1 h2 h3 h4 h5 h6=>
    have r:=(ih i _ ah).2 _ _ _ h6;exact ⟨r.o,fun hs _ _ _=>r.s hs,fun h=>absurd h (by show¬(12:Int)<=2;omega),fun h=>absurd h (by show¬(14:Int)<=2;omega),fun h=>absurd h<|by show¬(15:Int)<=2;omega⟩
   | assign o h1 h2 h3 h4 h5 h6=>rcases OZ h6 h5 with e|e<;>rw [e]<;>exact .beg rfl (fun _=>aD) (fun _=>aD) (fun h=>absurd h<|by show¬(15:Int)<=1;omega)
  refine ⟨hN,fun p t h d=>?_⟩;cases d with
  | par h1=>rw [h1];exact ⟨rfl,fun _=>rfl,fun _=>aD,fun _=>aD,fun _=>aD⟩
  | bare hf hij _ d=>
   have r:=hN p t hij d;refine ⟨r.o,fun hs=>?_,fun h=>r.a ?_,fun h=>r.b ?_,fun h=>r.c ?_⟩
   .obtain ⟨s1,s2,s3⟩:=aDJ hf hs;exact r.s hs s1 s2 s3
   all_goals
    rcases h with h|h
    .cases h
    .exact h
def bV.first {l:List aC} {p:aN} {i j:Nat} {t:aA} {h:Bool} (d:bV l p i j t h):FsD p t h (kd l i):=(aqf l (j - i) i j<|cZ _).2 p t h d
def dH.first {l:List aC} {p:aN} {i j:Nat} {t:aA} (d:dH l p i j t) (h:i < j):PO p t (kd l i):=(aqf l (j - i) i j<|cZ _).1 p t h d
def seg (l:List aC) (i j:Nat):List aC:=(l.drop i).take (j - i)
def xX {l:List aC} {i m j:Nat} (h1:i<=m) (h2:m<=j):seg l i j=seg l i m++seg l m j:=by
 unfold seg;have e:j - i=(m - i)+(j - m):=ah;rw [e,List.take_add,UQ,show i+(m - i)=m by omega]
def wY {l:List aC} {i:Nat} (h:i < l.length):seg l i (i+1)=[l[i]]:=by
 unfold seg;rw [show i+1 - i=1 by omega,zB h];rfl
def aDN (l:List aC) (i:Nat):seg l i i=[]:=by
 unfold seg;rw [adM];rfl
def aqg {l:List aC} {i j:Nat}:Sg l i (seg l i j):=⟨(l.drop i).drop<|j - i,by unfold seg;rw [List.take_append_drop]⟩
def Bl (l:List aC) (e i j:Nat):Prop:=∀ d y,inn (e+d) (seg l i j++y)=inn (e+d) y
def Bl.nil (l:List aC) (e i:Nat):Bl l e i i:=fun d y=>by rw [aDN,uS]
def Bl.up {l:List aC} {i j:Nat} (h:Bl l 0 i j) (e:Nat):Bl l e i j:=fun d y=>by
 have:=h (e+d) y;rwa [qM] at this
def Bl.app {l:List aC} {e i m j:Nat} (h1:i<=m) (h2:m<=j) (a:Bl l e i m) (b:Bl l e m j):Bl l e i j:=fun d y=>by
 rw [xX h1 h2,kC,a d,b d]
def Bl.tok {l:List aC} {i:Nat} (hi:i < l.length) (h:Jz (kd l i)=true) (e:Nat):Bl l e i (i+1):=fun d y=>by
 rw [wY hi];exact aDG (by rw [<- lF hi];exact h) _ _
def aDO {l:List aC} {i:Nat} (hi:i < l.length) (h:kd l i=36):Bl l 1 i (i+1):=fun d y=>by
 rw [wY hi];have hk:l[i].Kind=36:=by rw [<- lF hi];exact h
 show inn (1+d) (l[i]::y)=_;rw [inn,hk];have:(1+d==0)=false:=aF;rw [this];rfl
def Bl.wrap {l:List aC} {i j:Nat} (hij:i < j) (hj:j < l.length) (ho:jL (kd l i)=true) (hc:lS (kd l j)=true) (h:Bl l 1 (i+1) j):Bl l 0 i (j+1):=fun d y=>by
 have hi:i < l.length:=ah;rw [xX (show i<=i+1 by omega) (show i+1<=j+1 by omega),xX (show i+1<=j by omega) (show j<=j+1 by omega),wY hi,wY hj,kC,kC];show inn (0+d) (l[i]::(seg l (i+1) j++l[j]::y))=_;rw [aDH (by rw [<- lF hi];exact ho),show 0+d+1=1+d by omega,h d,show 1+d=0+d+1 by omega,aDI<|by rw [<- lF hj];exact hc]
def Bl.ln {l:List aC} {e:Nat}:∀ (n a f:Nat),f - a<=n->a<=f->f<=l.length->(∀ k,a<=k->k < f->kd l k=1)->Bl l e a f
 | 0,a,f,h,h1,_,_=>by
  have:a=f:=ah;subst this;exact .nil l e a
 | n+1,a,f,h,h1,h2,hk=>by
  by_cases ha:a=f
  .subst ha;exact .nil l e a
  .exact (Bl.tok ah (by rw [hk a ah ah];rfl) e).app ah ah (Bl.ln n (a+1) f ah ah h2 fun k h3 h4=>hk k ah h4)
def aqh {k:Int} (h:k≠32/\k≠34/\k≠30/\k≠33/\k≠35/\k≠31/\k≠36):Jz k=true:=by
 unfold Jz jL lS;obtain ⟨h1,h2,h3,h4,h5,h6,h7⟩:=h;have f:∀ {z:Int},k≠z->(k==z)=false:=fun h=>by simpa using h
 rw [f h1,f h2,f h3,f h4,f h5,f h6,f h7];rfl
def aom {o:Int} (h:bg o≠0):Jz o=true:=by
 refine aqh ?_;refine ⟨?_,?_,?_,?_,?_,?_,?_⟩<;>(intro e;subst e;exact h rfl)
def aon {o:Int} (h:nM o=true):Jz o=true:=by
 refine aqh ?_;refine ⟨?_,?_,?_,?_,?_,?_,?_⟩<;>(intro e;subst e;cases h)
def ahY {l:List aC} {i:Nat} {k:Int} (h:kd l i=k) (hk:k≠0):i < l.length:=dG (by rw [h];exact hk)
def aDP (l:List aC):∀ (n i j:Nat),j - i<=n->(∀ p t,i < j->j<=l.length->dH l p i j t->Bl l 0 i j)/\(∀ p t h,bV l p i j t h->Bl l 0 i j)/\(∀ ts,j<=l.length->oZ l i j ts->Bl l 1 i j):=by
 intro n;induction n with
 | zero=>
  refine fun i j hn=>⟨fun p t hij=>ah,fun p t h d=>by have:=d.lt;omega,fun ts hj d=>?_⟩
  cases d with
  | one h1 h2=>have:=h2.lt;omega
  | cons h1 h2 h3 h4=>have:=h3.1;omega
 | succ n ih=>
  intro i j hn;have hN:∀ p t,i < j->j<=l.length->dH l p i j t->Bl l 0 i j:=by
   intro p t hij hj d;cases d with
   | leaf k h1 h2=>exact .tok ah (by rw [h2];rcases h1 with rfl|rfl|rfl<;>rfl) 0
   | name h1=>exact .tok ah (by rw [h1];rfl) 0
   | index h1 h2 h3 h4 h5 h6 h7=>exact (Bl.tok ah (by rw [h1];rfl) 0).app ah ah (.wrap ah h4 (by rw [h2];rfl) (by rw [h5];rfl)<|(ih (i+2) _ ah).2.2 _ ah h7)
   | nI k h1 h2 h3 h4=>exact (Bl.tok ah (by rw [h2];rcases h1 with rfl|rfl<;>rfl) 0).app ah ah (Bl.wrap (i:=i+1) (j:=i+2) ah ah (by rw [h3];rfl) (by rw [h4];rfl)<|.nil l 1 _)
   | call k h1 h2 h3 h4 h5 h6 h7 h8=>exact (Bl.tok ah (by rw [h2];rcases h1 with rfl|rfl<;>rfl) 0).app ah ah (.wrap ah h5 (by rw [h3];rfl) (by rw [h6];rfl)<|(ih (i+2) _ ah).2.2 _ ah h8)
   | len h1=>exact .tok ah (by rw [h1];rfl) 0
   | field h1 h2 h3=>exact (Bl.tok ah (by rw [h1];rfl) 0).app ah ah ((ih (i+1) j ah).2.1 _ _ _ h3)
   | pre o h1 h2 h3 h4 h5=>exact (Bl.tok ah (by rw [h2];rcases h1 with rfl|rfl<;>rfl) 0).app ah ah ((ih (i+1) j ah).1 _ _ h4 hj h5)
   | post o h1 h2 h3 h4 h5=>exact ((ih i _ ah).1 _ _ h4 ah h5).app ah ah (.tok ah (by rw [h2];rcases h1 with rfl|rfl<;>rfl) 0)
   | unary o h1 h2 h3 h4=>exact (Bl.tok ah (by rw [h2];rcases h1 with rfl|rfl|rfl<;>rfl) 0).app ah ah ((ih (i+1) j ah).2.1 _ _ _ h4)
   | @bin _ _ m f _ a b _ _ o h1 h2 h3 h4 h5 h6 h7 h8=>
    have hl7:=h7.lt;have hl8:=h8.lt;have Pb:m+1<=f:=zY h6;have ln:Bl l 0 (m+1) f:=by
     rcases h6 with ⟨_,h6⟩|⟨_,h6⟩
     .exact .ln (f - (m+1)) _ _ ah Pb ah h6.2.1
     .rw [h6];exact .nil l 0 _
    exact ((ih i m ah).2.1 _ _ _ h7).app ah ah ((Bl.tok ah (by rw [h3];exact aom h1) 0).app ah ah<|ln.app Pb ah<|(ih f j ah).2.1 _ _ _ h8)
   | cat h1 h2 h3 h4=>exact ((ih i _ ah).2.1 _ _ _ h3).app ah ah ((ih _ j ah).2.1 _ _ _ h4)
   | @one _ _ m t h h1 h2 h3 h4=>exact ((ih i m ah).2.1 _ _ _ h4).app ah ah ((Bl.tok ah (by rw [h2];rfl) 0).app ah ah<|Bl.tok (i:=m+1) ah (by rw [h3];rfl) 0)
   | @many _ _ m ts h1 h2 h3 h4 h5 h6 h7 h8=>exact (Bl.wrap ah ah (by rw [h1];rfl) (by rw [h3];rfl)<|(ih (i+1) m ah).2.2 _ ah h8).app ah ah ((Bl.tok (i:=m+1) ah (by rw [h4];rfl) 0).app ah ah<|Bl.tok (i:=m+2) ah (by rw [h5];rfl) 0)
   | @cond _ _ m n2 _ a b c _ _ _ h1 h2 h3 h4 h5 h6 h7 h8=>exact ((ih i m ah).2.1 _ _ _ h6).app ah ah ((Bl.tok ah (by rw [h2];rfl) 0).app ah ah<|((ih (m+1) n2 ah).2.1 _ _ _ h7).app ah ah<|(Bl.tok ah (by rw [h4];rfl) 0).app ah ah<|(ih (n2+1) j ah).2.1 _ _ _ h8)
   | @assign _ _ m _ a b _ o h1 h2 h3 h4 h5 h6 h7=>exact ((ih i m ah).1 _ _ h3 ah h6).app ah ah ((Bl.tok ah (by rw [h2];exact aon h1) 0).app ah ah<|(ih (m+1) j ah).2.1 _ _ _ h7)
  refine ⟨hN,fun p t h d=>?_,fun ts hj d=>?_⟩
  .cases d with
   | par h1 h2 h3 h4 h5=>exact .wrap ah h3 (by rw [h1];rfl) (by rw [h5];rfl) (((ih (i+1) _ ah).2.1 _ _ _ h4).up 1)
   | bare h1 h2 h3 h4=>exact hN p t h2 h3 h4
  .cases d with
   | one h1 h2=>
    cases h2 with
    | par g1 g2 g3 g4 g5=>exact (Bl.wrap ah g3 (by rw [g1];rfl) (by rw [g5];rfl)<|((ih (i+1) _ ah).2.1 _ _ _ g4).up 1).up 1
    | bare g1 g2 g3 g4=>exact (hN _ _ g2 g3 g4).up 1
   | @cons _ k f _ t u ts h h1 h2 h3 h4 h5 h6=>
    have:=h3.1;exact (((ih i k ah).2.1 _ _ _ h5).up 1).app ah ah ((aDO ah h2).app ah ah<|(Bl.ln (f - (k+1)) _ _ ah ah ah h3.2.1).app ah ah<|(ih f j ah).2.2 _ hj h6)
def bV.bal {l:List aC} {p:aN} {i j:Nat} {t:aA} {h:Bool} (d:bV l p i j t h):Bl l 0 i j:=(aDP l (j - i) i j<|cZ _).2.1 p t h d
def Bl.inn {l:List aC} {i j:Nat} (h:Bl l 0 i j):inn 0 (seg l i j)=true:=by
 have:=h 0 [];rw [pQ] at this;rw [this];rfl
def ahd (l:List aC) (hl:l.length<=3000):∀ (n i j:Nat),j - i<=n->(∀ p t,i < j->j<=l.length->dH l p i j t->6<=lv t.kind t.op->rH l i false)/\(∀ p t h,bV l p i j t h->h=true\/6<=lv t.kind t.op->rH l i false):=by
 intro n;induction n with
 | zero=>exact fun i j hn=>⟨fun p t hij=>ah,fun p t h d=>by have:=d.lt;omega⟩
 | succ n ih=>
  intro i j hn;have no:∀ k:Int,kd l i=k->k≠32->rH l i false:=fun k h hk=>aDB l i (by rw [h];exact hk);have hN:∀ p t,i < j->j<=l.length->dH l p i j t->6<=lv t.kind t.op->rH l i false:=by
   intro p t hij hj d h6;cases d with
   | leaf k h1 h2=>exact no k h2 ah
   | name h1=>exact no 6 h1 aD
   | index h1=>exact no 6 h1 aD
   | nI k h1 h2=>exact no k h2 ah
   | call k h1 h2=>exact no k h2 ah
   | len h1=>exact no 8 h1 aD
   | field h1=>exact no 68 h1 aD
   | pre o h1 h2=>exact no o h2 ah
   | post o h1 h2 h3 h4 h5=>rcases OZ h5 h3 with e|e<;>exact no _ e aD
   | unary o h1 h2=>exact no o h2 ah
   | @bin _ _ m f _ a b _ _ o h1 h2 h3 h4 h5 h6' h7 h8=>
    have Pb:m+1<=f:=zY h6';refine (ih i m ah).2 _ _ _ h7 ?_;have h6:6<=bg o:=h6;cases h7 with
    | par=>exact .inl rfl
    | bare hf=>
     have hs:7<=(jk o).1:=by
      have ho:=OY o;have:bg o=6\/bg o=7\/bg o=8\/bg o=9\/bg o=10\/bg o=11\/bg o=12:=ah;unfold jk;rcases this with e|e|e|e|e|e|e<;>rw [e]<;>decide
     exact .inr (by have:=rF hf rfl;have this:(jk o).1<=_:=this;omega)
   | @cat _ _ m _ a b _ _ h1 h2 h3 h4=>
    refine (ih i m ah).2 _ _ _ h3 ?_;cases h3 with
    | par=>exact .inl rfl
    | bare hf=>exact .inr (by have:=rF hf rfl;have this:(8:Int)<=_:=this;omega)
   | one=>exact absurd h6 (by show¬(6:Int)<=5;omega)
   | many=>exact absurd h6 (by show¬(6:Int)<=5;omega)
   | cond=>exact absurd h6 (by show¬(6:Int)<=2;omega)
   | assign=>exact absurd h6 (by show¬(6:Int)<=1;omega)
  refine ⟨hN,fun p t h d hh=>?_⟩;cases d with
  | @par _ _ j t h h1 h2 h3 h4 h5=>
   have hi:i < l.length:=ah;refine aDz l hl i l[i] l[j] (seg l (i+1) j) ?_ (by rw [<- lF hi];exact h1) (by rw [<- lF h3,h5];rfl) h4.bal.inn;have:=aqg (l:=l) (i:=i) (j:=j+1);rwa [xX (show i<=i+1 by omega) (show i+1<=j+1 by omega),xX (show i+1<=j by omega) (show j<=j+1 by omega),wY hi,wY h3] at this
  | bare h1 h2 h3 h4=>
   rcases hh with h|h
   .cases h
   .exact hN p t h2 h3 h4 h
def bV.cm {l:List aC} (hl:l.length<=3000) {p:aN} {i j:Nat} {t:aA} {h:Bool} (d:bV l p i j t h) (hh:h=true\/6<=lv t.kind t.op):rH l i false:=(ahd l hl (j - i) i j<|cZ _).2 p t h d hh
def PS {lv:Int} {q:aN} {k:Int} (h1:lv=1->nM k=false) (h2:lv=2->k≠65) (h5:lv=5->k≠24) (h8:lv=8->qm k=false) (h12:lv=12->k≠60) (Gy:lv=13->k≠51/\k≠52) (ho:bg k≠lv):cont lv q k=false:=by
 have f:∀ {a b:Int},a≠b->(a==b)=false:=fun h=>by simpa using h
 unfold cont;by_cases e1:lv=1
 .subst e1;exact h1 rfl
 by_cases e2:lv=2
 .subst e2;exact f (h2 rfl)
 by_cases e5:lv=5
 .subst e5;show (k==24&&!q.bC)=false;rw [f<|h5 rfl];rfl
 by_cases e8:lv=8
 .subst e8;exact h8 rfl
 by_cases e12:lv=12
 .subst e12;exact f (h12 rfl)
 by_cases e13:lv=13
 .subst e13;show (k==51||k==52)=false;rw [f (Gy rfl).1,f (Gy rfl).2];rfl
 rw [f e1,f e2,f e5,f e8,f e12,f e13,f ho];cases (lv==11)<;>cases (lv==14)<;>cases (lv==15)<;>simp
def LD {k:Int} (h:nM k=true):(38<=k/\k<=43)\/k=54:=by
 unfold nM CS at h;rw [LC] at h;by_cases e:k=54
 .exact .inr e
 .have:(k==54)=false:=by simpa using e
  rw [this] at h;left;simpa using h
def Jp {o:Int} (h:bg o≠0):o=44\/o=45\/o=67\/o=46\/o=63\/o=48\/o=47\/o=50\/o=62\/o=49\/o=99\/o=55\/o=56\/o=57\/o=58\/o=59\/o=60:=by
 apply Classical.byContradiction;intro hn;simp only [not_or] at hn;obtain ⟨a1,a2,a3,a4,a5,a6,a7,a8,a9,a10,a11,a12,a13,a14,a15,a16,a17⟩:=hn;apply h;have f:∀ {a b:Int},¬a=b->(a==b)=false:=fun h=>by simpa using h
 unfold bg Gc Oe EB Od La;simp only [f a1,f a2,f a3,f a4,f a5,f a6,f a7,f a8,f a9,f a10,f a11,f a12,f a13,f a14,f a15,f a16,f a17,aG,ZJ]
def abR {k:Int} (h:qm k=true):k=3\/k=4\/k=6\/k=7\/k=8\/k=32\/k=68:=by
 unfold qm at h;simp only [lH,mR] at h;omega
def adh {k:Int} (h:k=33\/k=35\/k=36\/k=66) (q:aN) (b:Int) (hb:1<=b):jH (bA q b) k:=by
 refine ⟨ah,fun lv hv=>?_⟩;have hv:b<=lv:=hv;rcases h with rfl|rfl|rfl|rfl<;>exact PS (fun _=>rfl) (fun _=>aD) (fun _=>aD) (fun _=>rfl) (fun _=>aD) (fun _=>aD) (by show (0:Int)≠lv;omega)
def aDV (q:aN) (b:Int) (hb:3<=b):jH (bA q b) 65:=by
 refine ⟨ah,fun lv hv=>?_⟩;have hv:b<=lv:=hv;exact PS (fun _=>rfl) (fun _=>ah) (fun _=>aD) (fun _=>rfl) (fun _=>aD) (fun _=>aD) (by show (0:Int)≠lv;omega)
def aDW (q:aN) (b:Int) (hb:6<=b):jH (bA q b) 24:=by
 refine ⟨ah,fun lv hv=>?_⟩;have hv:b<=lv:=hv;exact PS (fun _=>rfl) (fun _=>ah) (fun _=>ah) (fun _=>rfl) (fun _=>aD) (fun _=>aD) (by show (0:Int)≠lv;omega)
def aDX {k:Int} (h:k=51\/k=52) (q:aN) (b:Int) (hb:14<=b):jH (bA q b) k:=by
 refine ⟨ah,fun lv hv=>?_⟩;have hv:b<=lv:=hv;rcases h with rfl|rfl<;>exact PS (fun _=>rfl) (fun _=>ah) (fun _=>ah) (fun _=>rfl) (fun _=>aD) (fun _=>ah) (by show (0:Int)≠lv;omega)
def aDY {k:Int} (h:nM k=true) (q:aN) (b:Int) (hb:2<=b):jH (bA q b) k:=by
 have hl:=LD h;refine ⟨ah,fun lv hv=>?_⟩;have hv:b<=lv:=hv;have h8:qm k=false:=by
  cases e:qm k with
  | false=>rfl
  | true=>have:=abR e;omega
 refine PS (fun _=>ah) (fun _=>ah) (fun _=>ah) (fun _=>h8) (fun _=>ah) (fun _=>ah) ?_;intro e;have:=Jp (o:=k) ah;omega
def ahZ {k:Int} (h:bg k≠0) (iF:k≠99) (q:aN) (b:Int) (hb:bg k < b):jH (bA q b) k:=by
 have hl:=Jp h;refine ⟨ah,fun lv hv=>?_⟩;have hv:b<=lv:=hv;have h8:qm k=false:=by
  cases e:qm k with
  | false=>rfl
  | true=>have:=abR e;omega
 have h1:nM k=false:=by
  cases e:nM k with
  | false=>rfl
  | true=>have:=LD e;omega
 refine PS (fun _=>h1) (fun _=>ah) (fun _=>ah) (fun _=>h8) (fun e=>?_) (fun _=>ah) ah;intro e60;subst e60;have:(12:Int) < b:=hb;omega
def aDZ {k:Int} (h:qm k=true) (q:aN) (b:Int) (hb:9<=b):jH (bA q b) k:=by
 have hl:=abR h;refine ⟨ah,fun lv hv=>?_⟩;have hv:b<=lv:=hv;have h1:nM k=false:=by
  cases e:nM k with
  | false=>rfl
  | true=>have:=LD e;omega
 refine PS (fun _=>h1) (fun _=>ah) (fun _=>ah) (fun _=>ah) (fun e=>ah) (fun _=>ah) ?_;intro e;have:=Jp (o:=k) ah;omega
def jH.to {q:aN} {a b:Int} {k:Int} (h:jH (bA q a) k) (hab:a<=b):jH (bA q b) k:=⟨h.1,fun lv hv=>h.2 lv (by have hv:b<=lv:=hv;show a<=lv;omega)⟩
def jH.eleven {q:aN} {k:Int} (h:jH (bA q 12) k):jH (bA q 11) k:=⟨h.1,fun lv hv=>by
 have hv:11<=lv:=hv;by_cases e:lv=11
 .subst e;rfl
 .exact h.2 lv (by show 12<=lv;omega)⟩
def aqj {l:List aC} {q:aN} {i j:Nat} {t:aA} {h:Bool} (hsz:aZ t<=400):∀ (n:Nat) (b:Int),1<=b->b+n<=11->(6<=b+n->rH l i false)->Rd l (bA q<|b+n) i j t h->jH (bA q b) (kd l j)->Rd l (bA q b) i j t h
 | 0,b,_,_,_,hr,_=>by
  have:b+((0:Nat):Int)=b:=ah;rw [this] at hr;exact hr
 | n+1,b,h1,h2,hcm,hr,hn=>by
  have e:b+((n+1:Nat):Int)=(b+1)+(n:Int):=ah;rw [e] at hr hcm;exact aqd b h1 ah hsz (aqj hsz n (b+1) ah ah hcm hr<|hn.to ah) (hn.2 b<|Cu b) fun e5 _=>hcm ah
def desc {l:List aC} {q:aN} {i j:Nat} {t:aA} {h:Bool} (hsz:aZ t<=400) (a b:Int) (hb:1<=b) (hab:b<=a) (ha:a<=11) (hcm:6<=a->rH l i false) (hr:Rd l (bA q a) i j t h) (hn:jH (bA q b) (kd l j)):Rd l (bA q b) i j t h:=by
 have e:b+(((a - b).toNat:Nat):Int)=a:=ah;exact aqj hsz (a - b).toNat b hb ah (by rw [e];exact hcm) (by rw [e];exact hr) hn
def aia {l:List aC} {q:aN} {i j:Nat} {t:aA} {h:Bool} (hsz:aZ t<=400) (b:Int) (hb:1<=b) (hb2:b<=13) (hcm:rH l i false) (hk:kd l i≠55/\kd l i≠56/\kd l i≠61) (hr:Rd l (bA q 13) i j t h) (hn:jH (bA q b) (kd l j)):Rd l (bA q b) i j t h:=by
 have f:∀ {z:Int},kd l i≠z->(kd l i==z)=false:=fun h=>by simpa using h
 by_cases e13:b=13
 .subst e13;exact hr
 have c12:cont 12 q (kd l j)=false:=hn.2 12 (by show b<=12;omega);by_cases e12:b=12
 .subst e12;exact aDE hr c12
 have jw:=aDF hr c12 (by rw [f hk.1,f hk.2.1,f hk.2.2];rfl);exact desc hsz 11 b hb ah ah (fun _=>hcm) jw hn
def aqk {l:List aC} {q:aN} {i j:Nat} {t:aA} {h:Bool} (hsz:aZ t<=400) (b:Int) (hb:1<=b) (hb2:b<=14) (hcm:rH l i false) (hk:kd l i≠55/\kd l i≠56/\kd l i≠61) (hk2:kd l i≠51/\kd l i≠52) (hr:Rd l (bA q 14) i j t h) (hn:jH (bA q b) (kd l j)):Rd l (bA q b) i j t h:=by
 have f:∀ {z:Int},kd l i≠z->(kd l i==z)=false:=fun h=>by simpa using h
 by_cases e14:b=14
 .subst e14;exact hr
 exact aia hsz b hb ah hcm hk (aDD hr (by rw [f hk2.1,f hk2.2];rfl)<|hn.2 13<|by show b<=13;omega) hn
def PU {l:List aC} {q:aN} {i j:Nat} {t:aA} {h:Bool} (hsz:aZ t<=400) (b:Int) (hb:1<=b) (hb2:b<=15) (hcm:rH l i false) (hk:kd l i≠55/\kd l i≠56/\kd l i≠61) (hk2:kd l i≠51/\kd l i≠52) (hk3:kd l i≠68) (hr:Rd l (bA q 15) i j t h) (hn:jH (bA q b) (kd l j)):Rd l (bA q b) i j t h:=by
 by_cases e15:b=15
 .subst e15;exact hr
 exact aqk hsz b hb ah hcm hk hk2 (aDC hr hk3) hn
def DU (k o:Int) (x y:List UInt8) (t:aA):aZ ⟨k,o,x,y,[t]⟩=aZ t+1:=by simp only [aZ,aW]
def JF (k o:Int) (x y:List UInt8) (t u:aA):aZ ⟨k,o,x,y,[t,u]⟩=aZ t+aZ u+1:=by simp only [aZ,aW];omega
def aql (k o:Int) (x y:List UInt8) (t u v:aA):aZ ⟨k,o,x,y,[t,u,v]⟩=aZ t+aZ u+aZ v+1:=by simp only [aZ,aW];omega
structure PV (l:List aC) (n:Nat):Prop where
 N:∀ i j,j - i<=n->∀ p t,i < j->j<=l.length->dH l p i j t->aZ t<=400->∀ q,(t.kind<=9\/(q.bC=p.bC/\q.bE=p.bE))->(t.kind=13->q.bC=false)->(t.kind=12->t.op=62->q.bE=false)->∀ b,1<=b->b<=lv t.kind t.op->jH (bA q b) (kd l j)->Rd l (bA q b) i j t false
 D:∀ i j,j - i<=n->∀ p t h,bV l p i j t h->aZ t<=400->∀ q,q.bC=p.bC->q.bE=p.bE->∀ b,1<=b->b<=15->(h=true\/b<=lv t.kind t.op)->jH (bA q b) (kd l j)->Rd l (bA q b) i j t h
 C:∀ i j,j - i<=n->∀ p t h,bV l p i j t h->aZ t<=400->∀ q,q.bC=p.bC->q.bE=p.bE->∀ v sd,Fb v 3000 sd->(h=true\/v<=lv t.kind t.op)->jH (bA q<|v+1) (kd l j)->∃ c,c < j - i/\Ch l v 3000 sd (bA q v) i j t h c
 I:∀ i j,j - i<=n->∀ p t h,bV l p i j t h->aZ t<=400->∀ q,q.bC=p.bC->q.bE=p.bE->q.bC=false->(h=true\/5<=lv t.kind t.op)->jH (bA q 6) (kd l j)->∃ c,c < j - i/\JE l (bA q 5) i j t h c
 L:∀ i j,j - i<=n->∀ ts en,oZ l i j ts->kd l j=en->(en=33\/en=35)->j < l.length->aW ts<=400->LY l en i (j+1) ts
def agI {l:List aC} {i j:Nat} {ts:List aA} (d:oZ l i j ts):adf (kd l i)=true:=by
 cases d with
 | one h1 h2=>exact h2.first.o
 | cons h1 h2 h3 h4 h5 h6=>exact h5.first.o
def aib {o:Int} (h:bg o=3\/bg o=4\/bg o=9\/bg o=10):Fb (bg o) 3000 (jk o)/\(jk o).1=bg o:=by
 unfold jk;rcases h with e|e|e|e<;>rw [e]
 .exact ⟨.inl ⟨rfl,rfl,rfl⟩,rfl⟩
 .exact ⟨.inr<|.inl ⟨rfl,rfl,rfl⟩,rfl⟩
 .exact ⟨.inr<|.inr<|.inr<|.inr<|.inr<|.inl ⟨rfl,rfl,rfl⟩,rfl⟩
 .exact ⟨.inr<|.inr<|.inr<|.inr<|.inr<|.inr ⟨rfl,rfl,rfl⟩,rfl⟩
def aEa {o:Int} (h:bg o=6\/bg o=7):Fb (bg o) 1 (jk o)/\(jk o).1=bg o+1/\(jk o).2=bg o+1:=by
 unfold jk;rcases h with e|e<;>rw [e]
 .exact ⟨.inr<|.inr<|.inl ⟨rfl,rfl,rfl⟩,rfl,rfl⟩
 .exact ⟨.inr<|.inr<|.inr<|.inl ⟨rfl,rfl,rfl⟩,rfl,rfl⟩
def aic {o:Int} (h:bg o≠0) (iF:o≠99):bg o=3\/bg o=4\/bg o=6\/bg o=7\/bg o=9\/bg o=10\/(bg o=12/\o=60):=by
 rcases Jp h with e|e|e|e|e|e|e|e|e|e|e|e|e|e|e|e|e<;>subst e<;>first|(exact absurd rfl iF)|decide
def aqm {o:Int} (h:bg o≠0) (iF:o≠99) (q:aN) (hg:o=62->q.bE=false) (h12:o≠60):cont (bg o) q o=true:=by
 rcases Jp h with e|e|e|e|e|e|e|e|e|e|e|e|e|e|e|e|e<;>subst e<;>first|rfl|(exact absurd rfl iF)|(exact absurd rfl h12)|(unfold cont;rw [hg rfl];rfl)
section
variable (l:List aC) (hl:l.length<=3000)
include hl
theorem aqn {n:Nat} (ih:PV l n) {p:aN} {i m f j:Nat} {a b:aA} {h1 h2:Bool} (o:Int) (hn:j - i<=n+1) (ho:bg o=3\/bg o=4\/bg o=9\/bg o=10) (iF:o≠99) (hk:kd l m=o) (him:i < m) (hfj:f < j) (hln:(bg o=3\/bg o=4)/\Ln l (m+1) f\/ ¬(bg o=3\/bg o=4)/\f=m+1)
  (da:bV l ⟨(jk o).1,false,p.bC,p.bE,p.iZ⟩ i m a h1) (db:bV l ⟨(jk o).2,false,p.bC,p.bE,false⟩ f j b h2) (hz:aZ a+aZ b<=400) (q:aN) (q1:q.bC=p.bC) (q2:q.bE=p.bE) (hf:jH (bA q<|bg o+1) (kd l j)):
  ∃ c,c < j - i/\Ch l (bg o) 3000 (jk o) (bA q<|bg o) i j ⟨12,o,[],[],[a,b]⟩ false c:=by
 obtain ⟨hch,hs⟩:=aib ho;have hlb:=db.lt;have Pb:m+1<=f:=zY hln;have hb:=Yy hch;have hml:m < l.length:=ah;obtain ⟨c,hc,hA⟩:=ih.C i m ah _ a h1 da ah q q1 q2 (bg o) (jk o) hch (by
  cases da with
  | par=>exact .inl rfl
  | bare hfit=>
   have:=rF hfit rfl;have this:(jk o).1<=_:=this;exact .inr ah) (by rw [hk];exact ahZ ah iF q _ ah)
 have hB:=ih.D f j ah _ b h2 db ah q q1 q2 (jk o).2 ah ah (by
  cases db with
  | par=>exact .inl rfl
  | bare hfit=>exact .inr<|rF hfit rfl) (hf.to ah)
 have aEb:o≠60:=by
  intro e;rw [e] at ho;have:bg 60=12:=rfl;omega
 have aEc:o≠62:=by
  intro e;rw [e] at ho;have:bg 62=7:=rfl;omega
 refine ⟨c+1,ah,?_⟩;exact ahT hl hch hA ah ah (by rw [hk];exact aqm ah iF (bA q<|bg o) (fun e=>absurd e aEc) aEb) (m+1) f o (.inr ⟨by
  intro e;rw [e] at ho;omega,rfl,hk.symm,hml⟩) ah hln ah ah hB
theorem aqo {n:Nat} (ih:PV l n) {p:aN} {i m j:Nat} {a b:aA} {h1 h2:Bool} (hn:j - i<=n+1) (him:i < m) (hfj:m < j)
  (da:bV l ⟨8,false,p.bC,p.bE,p.iZ⟩ i m a h1) (db:bV l ⟨9,false,p.bC,p.bE,true⟩ m j b h2) (hz:aZ a+aZ b<=400) (q:aN) (q1:q.bC=p.bC) (q2:q.bE=p.bE) (hf:jH (bA q 9) (kd l j)):
  ∃ c,c < j - i/\Ch l 8 3000 (8,9) (bA q 8) i j ⟨12,99,[],[],[a,b]⟩ false c:=by
 have hch:Fb 8 3000 (8,9):=.inr (.inr<|.inr<|.inr<|.inl ⟨rfl,rfl,rfl⟩);have hlb:=db.lt;have hbg:qm (kd l m)=true:=db.first.s rfl
 obtain ⟨c,hc,hA⟩:=ih.C i m ah _ a h1 da ah q q1 q2 8 (8,9) hch (by
  cases da with
  | par=>exact .inl rfl
  | bare hfit=>exact .inr<|rF hfit rfl) (aDZ hbg q _ ah)
 have hB:=ih.D m j ah _ b h2 db ah q q1 q2 9 ah ah (by
  cases db with
  | par=>exact .inl rfl
  | bare hfit=>exact .inr<|rF hfit rfl) hf
 refine ⟨c+1,ah,?_⟩;exact ahT hl hch hA ah ah hbg m m 99 (.inl ⟨rfl,rfl,rfl⟩) ah (.inr ⟨ah,rfl⟩) ah ah hB
theorem aqp {n:Nat} (ih:PV l n) {p:aN} {i m:Nat} {t:aA} {h:Bool} (hn:m+2 - i<=n+1) (him:i < m) (k1:kd l m=24) (k2:kd l (m+1)=6) (d:bV l ⟨5,false,p.bC,p.bE,p.iZ⟩ i m t h) (hz:aZ t<=400) (q:aN) (q1:q.bC=p.bC) (q2:q.bE=p.bE) (hq:q.bC=false):
  ∃ c,c < m+2 - i/\JE l (bA q 5) i (m+2) ⟨13,0,lD l<|m+1,[],[t]⟩ false c:=by
 have hm1:m+1 < l.length:=ahY k2 aD;obtain ⟨c,hc,hA⟩:=ih.I i m ah _ t h d hz q q1 q2 hq (by
  cases d with
  | par=>exact .inl rfl
  | bare hfit=>exact .inr<|rF hfit rfl) (by rw [k1];exact aDW q 6 ah)
 rw [ze hm1];exact ⟨c+1,ah,aDy l hl (bA q 5) hq hA ah hm1 k1 k2 ah⟩
theorem aqr {n:Nat} (ih:PV l n) {i m:Nat} {ts:List aA} (hn:m+3 - i<=n+1) (k1:kd l i=32) (him:i+1 < m) (k2:kd l m=33) (k3:kd l (m+1)=24) (k4:kd l (m+2)=6) (h2:2<=ts.length) (h6:ts.length<=6) (d:oZ l (i+1) m ts) (hz:aW ts<=400) (q:aN) (hq:q.bC=false):JE l (bA q 5) i (m+3) ⟨13,0,lD l<|m+2,[],ts⟩ false 0:=by
 have hm2:m+2 < l.length:=ahY k4 aD;have hls:=ih.L (i+1) m ah ts 33 d k2 (.inl rfl) ah hz;have hcm:rH l i true:=by
  have hi:i < l.length:=ah;cases d with
  | one=>simp at h2
  | @cons _ k f _ t u ts h g1 g2 g3 g4 g5 g6=>
   have hk:=ahY g2 aD;refine aDA l hl i l[i] l[k] (seg l (i+1) k) ?_ (by rw [<- lF hi];exact k1) (by rw [<- lF hk];exact g2) g5.bal.inn;have:=aqg (l:=l) (i:=i) (j:=k+1);rwa [xX (show i<=i+1 by omega) (show i+1<=k+1 by omega),xX (show i+1<=k by omega) (show k<=k+1 by omega),wY hi,wY hk] at this
 have hne:kd l (i+1)≠33:=fun e=>by
  have:=agI d;rw [e] at this;cases this
 rw [ze hm2];exact aDx l hl (bA q 5) hq (k:=m+1) ts hcm k1 ah hls h6 hne ah hm2 k3 k4 ah
end
end Go.Proofs.Tryz
