/-
 Plain lemmas on the models, part 21.
-/
import Derived.Test.YtaobbpcbeopddaaGreatDoorRxGP20
namespace Go.Proofs.Tryz
open Go.Av
set_option maxRecDepth 100000
set_option linter.all false
def acv {o v:Int} (h:bg o=v):jk o=bif v==3 then (3,4) else bif v==4 then (4,5) else bif v==6 then (7,7) else bif v==7 then (8,8) else bif v==8 then (8,9) else bif v==9 then (9,10) else bif v==10 then (10,11) else (13,11):=by
 unfold jk;rw [h]
def acw {x:Option Bool} {f:Bool->Option (dx×Int×Bool×List (List UInt8))}:Option.bind (bif true then some true else x) f=f true:=rfl
section
variable (l:List aC) (hl:l.length<=3000) (hc:∀ k,kd l k≠2)
include hl
theorem ayF {M:Nat} (S:mM l M) (N:Nat) (a g:Bool) (i:Nat):∀ (n k:Nat) (k0 o0:Int) (x0 y0:List UInt8) (eu:List aA) (tg h:Bool) (ns:List (List UInt8)),bV l ⟨10,false,a,g,false⟩ i k ⟨k0,o0,x0,y0,eu⟩ h->tg=(!h&&eT k0)->Sn l 10 a g i (yR N (aL M) l n (⟨a,g⟩,(k:Int),false,k0,o0,x0,y0,eu,tg,ns)):=by
 intro n;induction n with
 | zero=>intro k k0 o0 x0 y0 eu tg h ns d e t Jw j ns' hx;cases hx
 | succ n ih=>
  intro k k0 o0 x0 y0 eu tg h ns d e t Jw j ns' hx;have hk:=d.lt.2;rw [yR,dN,aH,bL,av,Dz,av,av] at hx;cases ht:(bg (kd l k)==10) with
  | false=>
   rw [ht,aG] at hx;cases hx;exact ⟨k,h,rfl,d,e⟩
  | true=>
   rw [ht,aH] at hx;have ho:bg (kd l k)=10:=eq_of_beq ht;have iF:kd l k≠99:=fun e=>by rw [e] at ho;exact absurd ho aD
   have Ae:kd l k≠62:=fun e=>by rw [e] at ho;exact absurd ho aD
   have hkl:k < l.length:=dG fun e=>by rw [e] at ho;exact absurd ho aD
   rw [av,dR hk<|show l.length<=100000 by omega] at hx;obtain ⟨⟨⟨t2,zh⟩,j2,b2,n2⟩,hr,hx⟩:=dB.1 hx;rw [show xL (kd l k) (⟨⟨k0,o0,x0,y0,eu⟩,tg⟩:dx) (⟨t2,zh⟩:dx)=some ⟨⟨12,kd l k,[],[],[⟨k0,o0,x0,y0,eu⟩,t2]⟩,false⟩ from rfl,av] at hx;cases b2 with
   | true=>
    exfalso;cases n with
    | zero=>cases hx
    | succ n=>rw [yR] at hx;cases hx
   | false=>
    obtain ⟨k2,h2,q1,q2,q3⟩:=S.un (k+1) ns a g hkl _ _ _ _ hr;subst q1;have hsd:=acv ho;exact ih k2 12 (kd l k) [] [] _ false false n2 (Pt (kd l k) ho aD iF (fun _=>Ae) rfl (.inr ⟨by rw [ho];decide,rfl⟩) (by rw [hsd];exact d)<|by rw [hsd];exact q2) rfl _ _ _ _ hx
theorem ayG {M:Nat} (S:mM l M) (i:Nat) (ns:List (List UInt8)) (a g:Bool) (hi:i<=l.length):Sn l 10 a g i (IZ M (aL M) ⟨a,g⟩ l (i:Int) false ns):=by
 intro t tg j ns' h;unfold IZ at h;obtain ⟨⟨⟨⟨k0,o0,x0,y0,eu⟩,pG⟩,j1,b1,n1⟩,hr,h⟩:=dB.1 h;cases b1 with
 | true=>
  exfalso;cases M with
  | zero=>cases h
  | succ M=>rw [yR] at h;cases h
 | false=>
  obtain ⟨k,hh,q1,q2,q3⟩:=S.un i ns a g hi _ _ _ _ hr;subst q1;exact ayF l hl S M a g i M k k0 o0 x0 y0 eu pG hh n1 (q2.down aD aD) q3 _ _ _ _ h
theorem ayH {M:Nat} (S:mM l M) (N:Nat) (a g:Bool) (i:Nat):∀ (n k:Nat) (k0 o0:Int) (x0 y0:List UInt8) (eu:List aA) (tg h:Bool) (ns:List (List UInt8)),bV l ⟨9,false,a,g,false⟩ i k ⟨k0,o0,x0,y0,eu⟩ h->tg=(!h&&eT k0)->Sn l 9 a g i (yS N (aL M) l n (⟨a,g⟩,(k:Int),false,k0,o0,x0,y0,eu,tg,ns)):=by
 intro n;induction n with
 | zero=>intro k k0 o0 x0 y0 eu tg h ns d e t Jw j ns' hx;cases hx
 | succ n ih=>
  intro k k0 o0 x0 y0 eu tg h ns d e t Jw j ns' hx;have hk:=d.lt.2;rw [yS,dN,aH,bL,av,Dz,av,av] at hx;cases ht:(bg (kd l k)==9) with
  | false=>
   rw [ht,aG] at hx;cases hx;exact ⟨k,h,rfl,d,e⟩
  | true=>
   rw [ht,aH] at hx;have ho:bg (kd l k)=9:=eq_of_beq ht;have iF:kd l k≠99:=fun e=>by rw [e] at ho;exact absurd ho aD
   have Ae:kd l k≠62:=fun e=>by rw [e] at ho;exact absurd ho aD
   have hkl:k < l.length:=dG fun e=>by rw [e] at ho;exact absurd ho aD
   rw [av,dR hk<|show l.length<=100000 by omega] at hx;obtain ⟨⟨⟨t2,zh⟩,j2,b2,n2⟩,hr,hx⟩:=dB.1 hx;rw [show xL (kd l k) (⟨⟨k0,o0,x0,y0,eu⟩,tg⟩:dx) (⟨t2,zh⟩:dx)=some ⟨⟨12,kd l k,[],[],[⟨k0,o0,x0,y0,eu⟩,t2]⟩,false⟩ from rfl,av] at hx;cases b2 with
   | true=>
    exfalso;cases n with
    | zero=>cases hx
    | succ n=>rw [yS] at hx;cases hx
   | false=>
    obtain ⟨k2,h2,q1,q2,q3⟩:=S.mu (k+1) ns a g hkl _ _ _ _ hr;subst q1;have hsd:=acv ho;exact ih k2 12 (kd l k) [] [] _ false false n2 (Pt (kd l k) ho aD iF (fun _=>Ae) rfl (.inr ⟨by rw [ho];decide,rfl⟩) (by rw [hsd];exact d)<|by rw [hsd];exact q2) rfl _ _ _ _ hx
theorem ayI {M:Nat} (S:mM l M) (i:Nat) (ns:List (List UInt8)) (a g:Bool) (hi:i<=l.length):Sn l 9 a g i (Ja M (aL M) ⟨a,g⟩ l (i:Int) false ns):=by
 intro t tg j ns' h;unfold Ja at h;obtain ⟨⟨⟨⟨k0,o0,x0,y0,eu⟩,pG⟩,j1,b1,n1⟩,hr,h⟩:=dB.1 h;cases b1 with
 | true=>
  exfalso;cases M with
  | zero=>cases h
  | succ M=>rw [yS] at h;cases h
 | false=>
  obtain ⟨k,hh,q1,q2,q3⟩:=S.mu i ns a g hi _ _ _ _ hr;subst q1;exact ayH l hl S M a g i M k k0 o0 x0 y0 eu pG hh n1 (q2.down aD aD) q3 _ _ _ _ h
theorem ayJ {M:Nat} (S:mM l M) (N:Nat) (a g:Bool) (i:Nat):∀ (n k:Nat) (k0 o0:Int) (x0 y0:List UInt8) (eu:List aA) (tg h:Bool) (ns:List (List UInt8)),bV l ⟨8,false,a,g,false⟩ i k ⟨k0,o0,x0,y0,eu⟩ h->tg=(!h&&eT k0)->Sn l 8 a g i (yT N (aL M) l n (⟨a,g⟩,(k:Int),false,k0,o0,x0,y0,eu,tg,ns)):=by
 intro n;induction n with
 | zero=>intro k k0 o0 x0 y0 eu tg h ns d e t Jw j ns' hx;cases hx
 | succ n ih=>
  intro k k0 o0 x0 y0 eu tg h ns d e t Jw j ns' hx;have hk:=d.lt.2;rw [yT,dN,aH,bL,av,XY,av,av] at hx;cases ht:qm (kd l k) with
  | false=>
   rw [ht,aG] at hx;cases hx;exact ⟨k,h,rfl,d,e⟩
  | true=>
   rw [ht,aH] at hx;have hkl:k < l.length:=dG fun e=>by rw [e] at ht;cases ht
   obtain ⟨⟨⟨t2,zh⟩,j2,b2,n2⟩,hr,hx⟩:=dB.1 hx;rw [show xL 99 (⟨⟨k0,o0,x0,y0,eu⟩,tg⟩:dx) (⟨t2,zh⟩:dx)=some ⟨⟨12,99,[],[],[⟨k0,o0,x0,y0,eu⟩,t2]⟩,false⟩ from rfl,av] at hx;cases b2 with
   | true=>
    exfalso;cases n with
    | zero=>cases hx
    | succ n=>rw [yT] at hx;cases hx
   | false=>
    obtain ⟨k2,h2,q1,q2,q3⟩:=S.ad k ns a g hk _ _ _ _ hr;subst q1;have q2':=(anX l (k2 - k) k k2 (cZ _) ht).2 _ _ _ _ _ q2;have dl:=d.lt;have ql:=q2.lt;have h2e:((8:Int)==0)=false:=rfl;refine ih k2 12 99 [] [] _ false false n2 (.bare ?_ ah ql.2 (.cat dl.1 ql.1 d q2')) rfl _ _ _ _ hx;show dD 12 99 ⟨8,false,a,g,false⟩=true;cases a<;>cases g<;>rfl
theorem ayK {M:Nat} (S:mM l M) (i:Nat) (ns:List (List UInt8)) (a g:Bool) (hi:i<=l.length):Sn l 8 a g i (Jf M (aL M) ⟨a,g⟩ l (i:Int) false ns):=by
 intro t tg j ns' h;unfold Jf at h;obtain ⟨⟨⟨⟨k0,o0,x0,y0,eu⟩,pG⟩,j1,b1,n1⟩,hr,h⟩:=dB.1 h;cases b1 with
 | true=>
  exfalso;cases M with
  | zero=>cases h
  | succ M=>rw [yT] at h;cases h
 | false=>
  obtain ⟨k,hh,q1,q2,q3⟩:=S.ad i ns a g hi _ _ _ _ hr;subst q1;exact ayJ l hl S M a g i M k k0 o0 x0 y0 eu pG hh n1 (q2.down aD aD) q3 _ _ _ _ h
theorem ayL (hc:∀ k,kd l k≠2) {M:Nat} (S:mM l M) (N:Nat) (a g:Bool) (i:Nat):∀ (n k:Nat) (k0 o0:Int) (x0 y0:List UInt8) (eu:List aA) (tg h:Bool) (ns:List (List UInt8)),bV l ⟨4,false,a,g,false⟩ i k ⟨k0,o0,x0,y0,eu⟩ h->tg=(!h&&eT k0)->Sn l 4 a g i (yX N (aL M) l n (⟨a,g⟩,(k:Int),false,k0,o0,x0,y0,eu,tg,ns)):=by
 intro n;induction n with
 | zero=>intro k k0 o0 x0 y0 eu tg h ns d e t Jw j ns' hx;cases hx
 | succ n ih=>
  intro k k0 o0 x0 y0 eu tg h ns d e t Jw j ns' hx;have hk:=d.lt.2;rw [yX,dN,aH,bL,av,av] at hx;cases ht:(kd l k==45) with
  | false=>
   rw [ht,aG] at hx;cases hx;exact ⟨k,h,rfl,d,e⟩
  | true=>
   rw [ht,aH] at hx;have hkd:kd l k=45:=eq_of_beq ht;have hkl:k < l.length:=dG ah;have ho:bg 45=4:=rfl;rw [dR hk<|show l.length<=100000 by omega] at hx;obtain ⟨⟨f,n1⟩,hf,hx⟩:=dB.1 hx;obtain ⟨e1,f',e2,hln,hfl⟩:=agZ l hl hc N ns N (k+1) f n1 hkl hf;subst e2;obtain ⟨⟨⟨t2,zh⟩,j2,b2,n2⟩,hr,hx⟩:=dB.1 hx;rw [show xL 45 (⟨⟨k0,o0,x0,y0,eu⟩,tg⟩:dx) (⟨t2,zh⟩:dx)=some ⟨⟨12,45,[],[],[⟨k0,o0,x0,y0,eu⟩,t2]⟩,false⟩ from rfl,av] at hx;cases b2 with
   | true=>
    exfalso;cases n with
    | zero=>cases hx
    | succ n=>rw [yX] at hx;cases hx
   | false=>
    obtain ⟨k2,h2,q1,q2,q3⟩:=S.inn f' n1 a g hfl _ _ _ _ hr;subst q1;exact ih k2 12 45 [] [] _ false false n2 (Pt 45 ho aD aD (fun _=>aD) hkd (.inl ⟨by rw [ho];decide,hln⟩) d q2) rfl _ _ _ _ hx
theorem ayM (hc:∀ k,kd l k≠2) {M:Nat} (S:mM l M) (i:Nat) (ns:List (List UInt8)) (a g:Bool) (hi:i<=l.length):Sn l 4 a g i (Jg M (aL M) ⟨a,g⟩ l (i:Int) false ns):=by
 intro t tg j ns' h;unfold Jg at h;obtain ⟨⟨⟨⟨k0,o0,x0,y0,eu⟩,pG⟩,j1,b1,n1⟩,hr,h⟩:=dB.1 h;cases b1 with
 | true=>
  exfalso;cases M with
  | zero=>cases h
  | succ M=>rw [yX] at h;cases h
 | false=>
  obtain ⟨k,hh,q1,q2,q3⟩:=S.inn i ns a g hi _ _ _ _ hr;subst q1;exact ayL l hl hc S M a g i M k k0 o0 x0 y0 eu pG hh n1 (q2.down aD aD) q3 _ _ _ _ h
theorem ayN (hc:∀ k,kd l k≠2) {M:Nat} (S:mM l M) (N:Nat) (a g:Bool) (i:Nat):∀ (n k:Nat) (k0 o0:Int) (x0 y0:List UInt8) (eu:List aA) (tg h:Bool) (ns:List (List UInt8)),bV l ⟨3,false,a,g,false⟩ i k ⟨k0,o0,x0,y0,eu⟩ h->tg=(!h&&eT k0)->Sn l 3 a g i (yY N (aL M) l n (⟨a,g⟩,(k:Int),false,k0,o0,x0,y0,eu,tg,ns)):=by
 intro n;induction n with
 | zero=>intro k k0 o0 x0 y0 eu tg h ns d e t Jw j ns' hx;cases hx
 | succ n ih=>
  intro k k0 o0 x0 y0 eu tg h ns d e t Jw j ns' hx;have hk:=d.lt.2;rw [yY,dN,aH,bL,av,av] at hx;cases ht:(kd l k==44) with
  | false=>
   rw [ht,aG] at hx;cases hx;exact ⟨k,h,rfl,d,e⟩
  | true=>
   rw [ht,aH] at hx;have hkd:kd l k=44:=eq_of_beq ht;have hkl:k < l.length:=dG ah;have ho:bg 44=3:=rfl;rw [dR hk<|show l.length<=100000 by omega] at hx;obtain ⟨⟨f,n1⟩,hf,hx⟩:=dB.1 hx;obtain ⟨e1,f',e2,hln,hfl⟩:=agZ l hl hc N ns N (k+1) f n1 hkl hf;subst e2;obtain ⟨⟨⟨t2,zh⟩,j2,b2,n2⟩,hr,hx⟩:=dB.1 hx;rw [show xL 44 (⟨⟨k0,o0,x0,y0,eu⟩,tg⟩:dx) (⟨t2,zh⟩:dx)=some ⟨⟨12,44,[],[],[⟨k0,o0,x0,y0,eu⟩,t2]⟩,false⟩ from rfl,av] at hx;cases b2 with
   | true=>
    exfalso;cases n with
    | zero=>cases hx
    | succ n=>rw [yY] at hx;cases hx
   | false=>
    obtain ⟨k2,h2,q1,q2,q3⟩:=S.an f' n1 a g hfl _ _ _ _ hr;subst q1;exact ih k2 12 44 [] [] _ false false n2 (Pt 44 ho aD aD (fun _=>aD) hkd (.inl ⟨by rw [ho];decide,hln⟩) d q2) rfl _ _ _ _ hx
theorem ayO (hc:∀ k,kd l k≠2) {M:Nat} (S:mM l M) (i:Nat) (ns:List (List UInt8)) (a g:Bool) (hi:i<=l.length):Sn l 3 a g i (Jh M (aL M) ⟨a,g⟩ l (i:Int) false ns):=by
 intro t tg j ns' h;unfold Jh at h;obtain ⟨⟨⟨⟨k0,o0,x0,y0,eu⟩,pG⟩,j1,b1,n1⟩,hr,h⟩:=dB.1 h;cases b1 with
 | true=>
  exfalso;cases M with
  | zero=>cases h
  | succ M=>rw [yY] at h;cases h
 | false=>
  obtain ⟨k,hh,q1,q2,q3⟩:=S.an i ns a g hi _ _ _ _ hr;subst q1;exact ayN l hl hc S M a g i M k k0 o0 x0 y0 eu pG hh n1 (q2.down aD aD) q3 _ _ _ _ h
end
section
variable (l:List aC) (hl:l.length<=3000)
include hl
theorem ayP {M:Nat} (S:mM l M) (i:Nat) (ns:List (List UInt8)) (a g:Bool) (hi:i<=l.length):Sn l 7 a g i (EK M (aL M) ⟨a,g⟩ l (i:Int) false ns):=by
 intro t tg j ns' h;unfold EK at h;obtain ⟨⟨⟨t1,pG⟩,j1,b1,n1⟩,hr,h⟩:=dB.1 h;cases b1 with
 | true=>exfalso;rw [acw,aH] at h;cases h
 | false=>
  obtain ⟨k,hh,q1,q2,q3⟩:=S.ct i ns a g hi _ _ _ _ hr;have hq:=q2.lt;subst q1;dsimp only at h;rw [aG,bL,av,Dz,av,av] at h;have back:(some ((⟨t1,pG⟩:dx),((k:Nat):Int),false,n1):Option _)=some (⟨t,tg⟩,j,false,ns')->∃ (k:Nat) (h:Bool),j=(k:Int)/\bV l ⟨7,false,a,g,false⟩ i k t h/\tg=(!h&&eT t.kind):=fun h=>by
   cases h;exact ⟨k,hh,rfl,q2.down aD aD,q3⟩
  cases h7:(bg (kd l k) !=7) with
  | true=>
   rw [h7,aH,av,aH] at h;exact back h
  | false=>
   have ho:bg (kd l k)=7:=by simpa using h7
   have iF:kd l k≠99:=fun e=>by rw [e] at ho;exact absurd ho aD
   have hkl:k < l.length:=dG fun e=>by rw [e] at ho;exact absurd ho aD
   rw [h7,aG] at h;have hb:(bif g then some (kd l k==62) else some false)=some (g&&kd l k==62):=by cases g<;>rfl
   rw [hb,av] at h;cases hg:(g&&kd l k==62) with
   | true=>rw [hg,aH] at h;exact back h
   | false=>
    rw [hg,aG,av,dR (kG hkl)<|show l.length<=100000 by omega] at h;obtain ⟨⟨⟨t2,zh⟩,j2,b2,n2⟩,hr2,h⟩:=dB.1 h;cases h;obtain ⟨k2,Nk,w1,w2,w3⟩:=S.ct (k+1) n1 a g hkl _ _ _ _ hr2;have hsd:=acv ho;refine ⟨k2,false,w1,Pt (kd l k) ho aD iF (fun eg=>?_) rfl (.inr ⟨by rw [ho];decide,rfl⟩) (by rw [hsd];exact q2) (by rw [hsd];exact w2),rfl⟩;rw [eg,rO] at hg;simpa using hg
theorem ayQ {M:Nat} (S:mM l M) (i:Nat) (ns:List (List UInt8)) (a g:Bool) (hi:i<=l.length):Sn l 6 a g i (EL M (aL M) ⟨a,g⟩ l (i:Int) false ns):=by
 intro t tg j ns' h;unfold EL at h;obtain ⟨⟨⟨t1,pG⟩,j1,b1,n1⟩,hr,h⟩:=dB.1 h;cases b1 with
 | true=>exfalso;rw [acw,aH] at h;cases h
 | false=>
  obtain ⟨k,hh,q1,q2,q3⟩:=S.cm i ns a g hi _ _ _ _ hr;have hq:=q2.lt;subst q1;dsimp only at h;rw [aG,bL,av,av] at h;have hb:(bif (kd l k !=67) then some (kd l k !=46) else some false)=some (kd l k !=67&&kd l k !=46):=by cases (kd l k !=67)<;>rfl
  rw [hb,av] at h;cases ho:(kd l k !=67&&kd l k !=46) with
  | true=>
   rw [ho,aH] at h;cases h;exact ⟨k,hh,rfl,q2.down aD aD,q3⟩
  | false=>
   have ho':kd l k=67\/kd l k=46:=by
    by_cases e:kd l k=67
    .exact .inl e
    .right;have e1:(kd l k !=67)=true:=by simpa using e
     rw [e1,rO] at ho;simpa using ho
   have hkl:k < l.length:=dG ah;have hol:bg (kd l k)=6:=by rcases ho' with e|e<;>rw [e]<;>rfl
   rw [ho,aG,av,dR (kG hkl)<|show l.length<=100000 by omega] at h;obtain ⟨⟨⟨t2,zh⟩,j2,b2,n2⟩,hr2,h⟩:=dB.1 h;cases h;obtain ⟨k2,Nk,w1,w2,w3⟩:=S.cm (k+1) n1 a g hkl _ _ _ _ hr2;have hsd:=acv hol;exact ⟨k2,false,w1,Pt (kd l k) hol aD ah (fun _=>ah) rfl (.inr ⟨by rw [hol];decide,rfl⟩) (by rw [hsd];exact q2) (by rw [hsd];exact w2),rfl⟩
theorem ayR {M:Nat} (S:mM l M) (i:Nat) (ns:List (List UInt8)) (a g:Bool) (hi:i<=l.length):Sn l 2 a g i (EM M (aL M) ⟨a,g⟩ l (i:Int) false ns):=by
 intro t tg j ns' h;unfold EM at h;obtain ⟨⟨⟨t1,pG⟩,j1,b1,n1⟩,hr,h⟩:=dB.1 h;cases b1 with
 | true=>exfalso;rw [acw,aH] at h;cases h
 | false=>
  obtain ⟨k,hh,q1,q2,q3⟩:=S.orr i ns a g hi _ _ _ _ hr;have hq:=q2.lt;subst q1;dsimp only at h;rw [aG,bL,av,av] at h;cases tC:(kd l k !=65) with
  | true=>
   rw [tC,aH] at h;cases h;exact ⟨k,hh,rfl,q2.down aD aD,q3⟩
  | false=>
   have e65:kd l k=65:=by simpa using tC
   have hkl:k < l.length:=dG ah;rw [tC,aG,dR (kG hkl)<|show l.length<=100000 by omega] at h;obtain ⟨⟨⟨t2,zh⟩,j2,b2,n2⟩,hr2,h⟩:=dB.1 h;obtain ⟨⟨x,j3,b3⟩,ht,h⟩:=dB.1 h;dsimp only at ht h;cases b3 with
   | true=>exfalso;rw [aH] at h;cases h
   | false=>
    rw [aG] at h;cases b2 with
    | true=>
     exfalso;unfold ug at ht;cases ht
    | false=>
     obtain ⟨k2,Nk,w1,w2,w3⟩:=S.cd (k+1) n1 a g hkl _ _ _ _ hr2;have hw:=w2.lt;subst w1;obtain ⟨_,_,e1,e2⟩:=XW l hl hw.2 ht;have Jy:k2 < l.length:=dG ah;subst e2;obtain ⟨⟨⟨t4,tg4⟩,j4,b4,n4⟩,hr4,h⟩:=dB.1 h;cases h;obtain ⟨k4,hh4,z1,z2,z3⟩:=S.cd (k2+1) n2 a g Jy _ _ _ _ hr4;have hz:=z2.lt;refine ⟨k4,false,z1,.bare ?_ ah hz.2 (.cond hq.1 e65 hw.1 e1 hz.1 q2 w2 z2),rfl⟩;exact Dx (Cu 2) (show (2:Int)≠0 by decide) aD (show (14:Int)≠13/\(14:Int)≠12 by decide)
theorem ayS {M:Nat} (S:mM l M) (i:Nat) (ns:List (List UInt8)) (a g:Bool) (hi:i<=l.length):Sn l 1 a g i (EN M (aL M) ⟨a,g⟩ l (i:Int) false ns):=by
 intro t tg j ns' h;unfold EN at h;obtain ⟨⟨⟨t1,pG⟩,j1,b1,n1⟩,hr,h⟩:=dB.1 h;cases b1 with
 | true=>exfalso;rw [acw,aH] at h;cases h
 | false=>
  obtain ⟨k,hh,q1,q2,q3⟩:=S.cd i ns a g hi _ _ _ _ hr;have hq:=q2.lt;subst q1;dsimp only at h;rw [aG] at h;have back:(some ((⟨t1,pG⟩:dx),((k:Nat):Int),false,n1):Option _)=some (⟨t,tg⟩,j,false,ns')->∃ (k:Nat) (h:Bool),j=(k:Int)/\bV l ⟨1,false,a,g,false⟩ i k t h/\tg=(!h&&eT t.kind):=fun h=>by
   cases h;exact ⟨k,hh,rfl,q2.down aD aD,q3⟩
  cases pG with
  | false=>
   rw [show (bif (!false) then some true else _:Option Bool)=some true from rfl,av,aH] at h;exact back h
  | true=>
   rw [kE,aG,bL,av,acy,av,av] at h;cases ha:nM (kd l k) with
   | false=>rw [ha,dN,aH] at h;exact back h
   | true=>
    have hal:=LD ha;have hkl:k < l.length:=dG ah;rw [ha,kE,aG,av,dR (kG hkl)<|show l.length<=100000 by omega] at h;obtain ⟨⟨⟨t2,zh⟩,j2,b2,n2⟩,hr2,h⟩:=dB.1 h;cases h;obtain ⟨k2,Nk,w1,w2,w3⟩:=S.Jv (k+1) n1 a g hkl _ _ _ _ hr2;have hw:=w2.lt;cases q2 with
    | par=>cases q3
    | bare g1 g2 g3 g4=>
     have hL:eT t1.kind=true:=by
      rw [dN,rO] at q3;exact q3.symm
     obtain ⟨_,Gz⟩:=acu hL;refine ⟨k2,false,w1,.bare ?_ ah hw.2 (.assign (kd l k) ha rfl g2 hw.1 hL (g4.low Gz wZ) w2),rfl⟩;exact Dx (Cu 1) (show (1:Int)≠0 by decide) aD (show (15:Int)≠13/\(15:Int)≠12 by decide)
theorem ayT (hc:∀ k,kd l k≠2) {M:Nat} (S:mM l M) (N:Nat) (i:Nat):∀ (n f:Nat) (acc:List aA) (ns:List (List UInt8)),f<=l.length->acc.length<=5->(∀ j u us,oZ l f j (u::us)->oZ l i j (acc++u::us))->SnI l i (BD N (aL M) l n (⟨false,false⟩,(f:Int),false,acc,ns)):=by
 intro n;induction n with
 | zero=>intro f acc ns hf ha hP ts j ns' h;cases h
 | succ n ih=>
  intro f acc ns hf ha hP ts j ns' h;rw [BD,dN,aH] at h;obtain ⟨⟨⟨t1,pG⟩,j1,b1,n1⟩,hr,h⟩:=dB.1 h;rw [gL bT,av] at h;cases b1 with
  | true=>
   exfalso;rw [show (bif true then some true else _:Option Bool)=some true from rfl,av,aH] at h;cases h
  | false=>
   obtain ⟨k,hh,q1,q2,q3⟩:=S.Jv f ns false false hf _ _ _ _ hr;have hq:=q2.lt;subst q1;dsimp only at h;rw [aG,bL,av,av] at h;cases ET:(kd l k !=36) with
   | true=>
    rw [ET,aH] at h;cases h;exact ⟨k,rfl,hP k t1 []<|.one hq.1 q2,bT⟩
   | false=>
    have e36:kd l k=36:=by simpa using ET
    have hkl:k < l.length:=dG ah;rw [ET,aG] at h;cases h6:(((acc++[t1]).length:Int)==6) with
    | true=>
     exfalso;rw [h6,aH] at h;cases h
    | false=>
     have hlen:(acc++[t1]).length<=5:=by
      have: ¬(((acc++[t1]).length:Int)=6):=by simpa using h6
      simp only [jQ,fT,zA] at this ⊢;omega
     rw [h6,aG,dR (kG hkl)<|show l.length<=100000 by omega] at h;obtain ⟨⟨f2,n2⟩,hf2,h⟩:=dB.1 h;obtain ⟨e1,f',e2,hln,hfl⟩:=agZ l hl hc N n1 N (k+1) f2 n2 hkl hf2;subst e2;refine ih f' (acc++[t1]) n2 hfl hlen (fun j u us hd=>?_) _ _ _ h;have:=hP j t1 (u::us) (.cons hq.1 e36 hln hd.lt.1 q2 hd);rw [kC];exact this
theorem ayU (hc:∀ k,kd l k≠2) {M:Nat} (S:mM l M) (i:Nat) (ns:List (List UInt8)) (hi:i<=l.length):SnI l i (Tw M (aL M) ⟨false,false⟩ l (i:Int) false ns):=
 ayT l hl hc S M i M i [] ns hi aF (fun j u us h=>h)
end
def ayV (l:List aC) (N N':Nat) (i:Int) (b:Bool) (ns:List (List UInt8)) (ts:List aC):∀ (n n':Nat),n<=n'->∀ (d k:Int) (r:Bool),qD N l i b ns n (ts,d,k)=some r->qD N' l i b ns n' (ts,d,k)=some r:=by
 intro n;induction n with
 | zero=>intro n' _ d k r h;cases h
 | succ n ih=>
  intro n' hn d k r h;obtain ⟨n',rfl⟩:∃ m,n'=m+1:=⟨n' - 1,ah⟩
  have k3:∀ d':Int,zN N l i b ns (qD N l i b ns n) (ts,k,d')=some r->zN N' l i b ns (qD N' l i b ns n') (ts,k,d')=some r:=fun d' h=>by
   unfold zN at h ⊢;dsimp only at h ⊢;cases hd:decide (d'<=0) with
   | true=>rw [hd] at h;exact h
   | false=>rw [hd] at h;exact ih n' ah _ _ _ h
  rw [qD] at h ⊢;cases hk:decide (k < (ts.length:Int)) with
  | false=>rw [hk] at h;exact h
  | true=>
   rw [hk,aH] at h;rw [aH];obtain ⟨e,he,h⟩:=dB.1 h;obtain ⟨o,ho,h⟩:=dB.1 h;rw [he,av,ho,av];cases o with
   | true=>exact k3 _ h
   | false=>
    rw [aG] at h ⊢;obtain ⟨s,hs,h⟩:=dB.1 h;rw [hs,av];cases s with
    | true=>exact k3 _ h
    | false=>
     rw [aG] at h ⊢;obtain ⟨c,hcm,h⟩:=dB.1 h;rw [hcm,av];cases c with
     | true=>exact h
     | false=>exact k3 _ h
def ayW {l:List aC} {M M':Nat} {i:Int} {ns:List (List UInt8)} {r:Bool} (h:Di M l i false ns=some r) (hM:M<=M'):Di M' l i false ns=some r:=by
 unfold Di at h ⊢;obtain ⟨ts,ht,h⟩:=dB.1 h;rw [ht,av];exact ayV l M M' i false ns ts M M' hM 0 0 r h
def acz {g:Bool} {x:List UInt8} {ks:List aA}:dD (⟨13,0,x,[],ks⟩:aA).kind (⟨13,0,x,[],ks⟩:aA).op ⟨5,false,false,g,false⟩=true:=by
 show dD 13 0 ⟨5,false,false,g,false⟩=true;cases g<;>rfl
section
variable (l:List aC) (hl:l.length<=3000)
include hl
theorem acA {i:Nat} {b:Bool} {ns:List (List UInt8)} {x:List UInt8} {j:Int} (hi:i<=l.length) (h:zO l (i:Int) b ns=some (x,j,false)):b=false/\kd l i=6/\x=lD l i/\j=((i+1:Nat):Int):=by
 unfold zO at h;cases b with
 | true=>
  rw [aH,av,aH] at h;cases h
 | false=>
  rw [aG,bL,av,av] at h;cases h6:(kd l i !=6) with
  | true=>rw [h6,aH] at h;cases h
  | false=>
   have e6:kd l i=6:=by simpa using h6
   have hlt:i < l.length:=dG ah;unfold uh at h;rw [h6,aG,bS hlt,av,av,dR hi<|show l.length<=100000 by omega] at h;cases h;exact ⟨rfl,e6,(ze hlt).symm,rfl⟩
theorem ayX {M:Nat} (S:mM l M) (N:Nat) (a g:Bool) (i:Nat) (r:List aA×Int×Bool×List (List UInt8)):∀ (n k:Nat) (x:List UInt8) (ks:List aA),(∀ a',a=a'->a'=false)->bV l ⟨5,false,a,g,false⟩ i k ⟨13,0,x,[],ks⟩ false->Sn l 5 a g i (zS N (aL M) l n (⟨a,g⟩,r,(k:Int),false,x,ks)):=by
 intro n;induction n with
 | zero=>intro k x ks ha d t tg j ns' h;cases h
 | succ n ih=>
  intro k x ks ha d t tg j ns' h;have ha0:=ha a rfl;subst ha0;have hd:=d.lt;rw [zS,dN,aH,bL,av] at h;cases iL:(kd l k==24) with
  | false=>
   rw [iL,aG,av,aG] at h;cases h;exact ⟨k,false,rfl,d,rfl⟩
  | true=>
   have e24:=eq_of_beq iL;have hkl:k < l.length:=dG ah;rw [iL,aH,av,aH,dR hd.2<|show l.length<=100000 by omega] at h;obtain ⟨⟨x2,j2,b2⟩,hnm,h⟩:=dB.1 h;dsimp only at h;cases b2 with
   | true=>
    exfalso;cases n with
    | zero=>cases h
    | succ n=>rw [zS] at h;cases h
   | false=>
    obtain ⟨_,e6,ex,ej⟩:=acA l hl hkl hnm;have Jy:k+1 < l.length:=dG (l:=l) (i:=k+1) (by rw [e6];decide);subst ej;refine ih (k+1+1) x2 _ ha ?_ _ _ _ _ h;rw [ex];exact .bare acz ah Jy (.one hd.1 e24 e6 d)
theorem ayY {M:Nat} (S:mM l M) (N:Nat) (a g:Bool) (i:Nat) (r:dx×Int×Bool×List (List UInt8)):∀ (n k:Nat) (x:List UInt8) (ks:List aA),(∀ a',a=a'->a'=false)->bV l ⟨5,false,a,g,false⟩ i k ⟨13,0,x,[],ks⟩ false->Sn l 5 a g i (yU N (aL M) l n (⟨a,g⟩,r,(k:Int),false,x,ks)):=by
 intro n;induction n with
 | zero=>intro k x ks ha d t tg j ns' h;cases h
 | succ n ih=>
  intro k x ks ha d t tg j ns' h;have ha0:=ha a rfl;subst ha0;have hd:=d.lt;rw [yU,dN,aH,bL,av] at h;cases iL:(kd l k==24) with
  | false=>
   rw [iL,aG,av,aG] at h;cases h;exact ⟨k,false,rfl,d,rfl⟩
  | true=>
   have e24:=eq_of_beq iL;have hkl:k < l.length:=dG ah;rw [iL,aH,av,aH,dR hd.2<|show l.length<=100000 by omega] at h;obtain ⟨⟨x2,j2,b2⟩,hnm,h⟩:=dB.1 h;dsimp only at h;cases b2 with
   | true=>
    exfalso;cases n with
    | zero=>cases h
    | succ n=>rw [yU] at h;cases h
   | false=>
    obtain ⟨_,e6,ex,ej⟩:=acA l hl hkl hnm;have Jy:k+1 < l.length:=dG (l:=l) (i:=k+1) (by rw [e6];decide);subst ej;refine ih (k+1+1) x2 _ ha ?_ _ _ _ _ h;rw [ex];exact .bare acz ah Jy (.one hd.1 e24 e6 d)
theorem ayZ {M:Nat} (S:mM l M) (i:Nat) (ns:List (List UInt8)) (a g:Bool) (hi:i<=l.length):Sn l 5 a g i (BF M (aL M) ⟨a,g⟩ l (i:Int) false ns):=by
 intro t tg j ns' h;unfold BF at h;rw [dN,aH,bL,av] at h;obtain ⟨y,hy,h⟩:=dB.1 h;cases y with
 | false=>
  rw [aG] at h;obtain ⟨⟨⟨t1,pG⟩,j1,b1,n1⟩,hr,h⟩:=dB.1 h;cases b1 with
  | true=>
   exfalso;rw [show (bif (!true) then _ else some false:Option Bool)=some false from rfl,av,aG] at h;cases h
  | false=>
   obtain ⟨k,hh,q1,q2,q3⟩:=S.ma i ns a g hi _ _ _ _ hr;have hq:=q2.lt;subst q1;dsimp only at h;rw [dN,aH,bL,av] at h;cases iL:(kd l k==24&&!a) with
   | false=>
    have e:(bif kd l k==24 then some (!a) else some false)=some false:=by
     cases h':(kd l k==24) with
     | false=>rfl
     | true=>rw [h',rO] at iL;rw [iL];rfl
    rw [e,av,aG] at h;cases h;exact ⟨k,hh,rfl,q2.down aD aD,q3⟩
   | true=>
    simp only [dL,kX] at iL;obtain ⟨iL,ha⟩:=iL;have e24:=eq_of_beq iL;subst ha;have hkl:k < l.length:=dG ah;rw [iL,aH,av,dN,aH,dR hq.2<|show l.length<=100000 by omega] at h;obtain ⟨⟨x2,j2,b2⟩,hnm,h⟩:=dB.1 h;dsimp only at h;cases b2 with
    | true=>
     exfalso;cases M with
     | zero=>cases h
     | succ n=>rw [yU] at h;cases h
    | false=>
     obtain ⟨_,e6,ex,ej⟩:=acA l hl hkl hnm;have Jy:k+1 < l.length:=dG (l:=l) (i:=k+1) (by rw [e6];decide);subst ej;refine ayY l hl S M false g i _ M (k+1+1) x2 _ (fun _ e=>e.symm) ?_ _ _ _ _ h;rw [ex];exact .bare acz ah Jy (.one hq.1 e24 e6<|q2.down aD aD)
 | true=>
  rw [aH] at h;cases h32:(kd l i==32) with
  | false=>rw [h32] at hy;cases hy
  | true=>
   have e32:=eq_of_beq h32;rw [h32,aH] at hy;cases a with
   | true=>cases hy
   | false=>
    rw [dN,aH] at hy;obtain ⟨y2,hla,hy⟩:=dB.1 hy;cases hy;have hlt:i < l.length:=dG ah;rw [dR hi<|show l.length<=100000 by omega] at h;obtain ⟨⟨ts,j1,b1,n1⟩,hr,h⟩:=dB.1 h;cases b1 with
    | true=>
     exfalso;rw [show (bif (!true) then _ else some false:Option Bool)=some false from rfl,av,aG] at h;rw [show (bif (!true) then _ else some false:Option Bool)=some false from rfl,av,aG] at h;cases h
    | false=>
     dsimp only at h;rcases S.ls (i+1) ns 33 (.inl rfl) hlt _ _ _ hr with ⟨q0,_,_,q2⟩|⟨k,q1,q2,q3,q4⟩
     .exfalso;subst q0 q2;rw [dN,aH,bL,av,av] at h;cases iL:(kd l (i+1+1) !=24) with
      | true=>
       rw [iL,aH] at h;cases h
      | false=>
       have e24:kd l (i+1+1)=24:=by simpa using iL
       have XZ:(kd l (i+1+1)==24)=true:=by rw [e24];rfl
       rw [iL,aG,aH,av,XZ,aH,av,aH] at h;cases h
     .have hd:=q3.lt;subst q1;rw [dN,aH,bL,av,av] at h;cases iL:(kd l (k+1) !=24) with
      | true=>
       exfalso;rw [iL,aH] at h;cases h
      | false=>
       have e24:kd l (k+1)=24:=by simpa using iL
       have XZ:(kd l (k+1)==24)=true:=by rw [e24];rfl
       have hkl:k+1 < l.length:=dG (l:=l) (i:=k+1) (by rw [e24];decide);rw [iL,aG,aH,av,XZ,aH,av,aH] at h;obtain ⟨_,_,h⟩:=dB.1 h;rw [dR (kG hkl)<|show l.length<=100000 by omega] at h;obtain ⟨⟨x2,j2,b2⟩,hnm,h⟩:=dB.1 h;dsimp only at h;cases b2 with
       | true=>
        exfalso;cases M with
        | zero=>cases h
        | succ n=>rw [zS] at h;cases h
       | false=>
        obtain ⟨_,e6,ex,ej⟩:=acA l hl hkl hnm;have Jy:k+1+1 < l.length:=dG (l:=l) (i:=k+1+1) (by rw [e6];decide);subst ej;have h2:2<=ts.length:=by
         cases q3 with
         | cons=>simp
         | @one _ _ t1 h1 g1 g2=>
          exfalso;have dp:bV l bG i (k+1) t1 true:=.par e32 hd.1 ah g2 q2;have cm:=(ahd l hl (k+1 - i) i (k+1)<|cZ _).2 _ _ _ dp (.inl rfl);have:=cm (M+5000) ns ah;rw [h32,aH,ayW hla<|Nat.le_add_right M 5000] at this;cases this
        refine ayX l hl S M false g i _ M (k+1+1+1) x2 _ (fun _ e=>e.symm) ?_ _ _ _ _ h;rw [ex];exact .bare acz ah Jy (.many e32 hd.1 q2 e24 e6 h2 q4 q3)
theorem aod (hc:∀ k,kd l k≠2):∀ M:Nat,mM l M
 | 0=>by
  constructor<;>(intros;intro t;intros;rename_i h;cases h)
 | M+1=>by
  have S:=aod hc M;exact ⟨fun i ns a g hi=>ayS l hl S i ns a g hi,fun i ns a g hi=>ayR l hl S i ns a g hi,fun i ns a g hi=>ayO l hl hc S i ns a g hi,fun i ns a g hi=>ayM l hl hc S i ns a g hi,fun i ns a g hi=>ayZ l hl S i ns a g hi,fun i ns a g hi=>ayQ l hl S i ns a g hi,
   fun i ns a g hi=>ayP l hl S i ns a g hi,fun i ns a g hi=>ayK l hl S i ns a g hi,fun i ns a g hi=>ayI l hl S i ns a g hi,fun i ns a g hi=>ayG l hl S i ns a g hi,fun i ns a g hi=>ayE l hl S i ns a g hi,fun i ns a g hi=>ayD l hl S i ns a g hi,fun i ns a g hi=>ayC l hl S i ns a g hi,
   fun i ns a g hi=>ayz l hl S i ns a g hi,fun i ns a g hi=>ayw l hl S i ns a g hi,fun i ns hk=>ayB l hl S i ns hk,fun i ns hi=>ayA l hl S i ns,fun i ns hk=>ays l hl S i ns hk,fun i ns hk=>aoc l hl S i ns hk,fun i ns hi=>ayU l hl hc S i ns hi,fun i ns en hen hi=>ayt l hl S i ns en hen hi⟩
end
def aza {l:List aC} {a g s:Bool} {i j:Nat} {t:aA} {h:Bool} (d:bV l ⟨14,false,a,g,s⟩ i j t h):bV l ⟨14,true,a,g,s⟩ i j t h:=by
 cases d with
 | par g1 g2 g3 g4 g5=>exact .par g1 g2 g3 g4 g5
 | bare g1 g2 g3 g4=>
  refine .bare ?_ g2 g3 ((abT l (j - i) i j<|cZ _).1 ⟨14,false,a,g,s⟩ ⟨14,true,a,g,s⟩ t g2 (fun h=>h) (fun h=>h) (fun h=>h) g4);unfold dD posB at g1 ⊢;simp only [dL] at g1 ⊢;obtain ⟨p1,p2,p3,p4,p5⟩:=g1;refine ⟨?_,p2,p3,p4,?_⟩
  .have e1:(decide ((14:Int)>=1)&&decide ((14:Int)<=15))=true:=rfl;have e2:((14:Int)==14)=true:=rfl;have e3:(!true||(14:Int)==14)=true:=rfl;have e4:(!false||(14:Int)==14)=true:=rfl;rw [e1,e4] at p1;rw [e1,e3];exact p1
  .rw [Ec,Kt] at p5;rw [p5,Bool.or_true]
def aoe (N:Nat) (l:List aC) (hl:l.length<=3000) (hc:∀ k,kd l k≠2) (p:aN) (hp:posB p=true) (t:aA) (tg:Bool) (j:Int) (ns:List (List UInt8)) (h:Ji N p l 0 false []=some (⟨t,tg⟩,j,false,ns)):∃ (k:Nat) (hh:Bool),j=(k:Int)/\bV l p 0 k t hh:=by
 have S:=aod l hl hc N;obtain ⟨v,dl,a,g,s⟩:=p;have hv:1<=v/\v<=15/\(dl=true->v=14):=by
  unfold posB at hp;simp only [dL,lG,lH,kX,mR] at hp;refine ⟨hp.1.1,hp.1.2,fun e=>?_⟩;rcases hp.2 with g|g
  .rw [e] at g;cases g
  .exact g
 obtain ⟨hv1,hv2,hv3⟩:=hv;have ek:fu l ((0:Nat):Int) false []=some (kd l 0):=by rw [bL]
 have ek:fu l 0 false []=some (kd l 0):=ek;unfold Ji at h;obtain ⟨y,hy,h⟩:=dB.1 h;cases y with
 | true=>
  exfalso;rw [aH] at h;cases h
 | false=>
  rw [aG] at h;have hs:s=true->qm (kd l 0)=true:=fun es=>by
   subst es;have hy:Option.bind (fu l 0 false []) (fun jw=>(OE jw).bind fun dP=>some<|!dP)=some false:=hy;rw [ek,av,XY,av] at hy;have:=kD hy;simpa using this
  have sg:∀ (k:Nat) (hh:Bool),bV l ⟨v,false,a,g,false⟩ 0 k t hh->bV l ⟨v,false,a,g,s⟩ 0 k t hh:=fun k hh d=>by
   cases es:s with
   | false=>exact d
   | true=>exact (anX l k 0 k ah<|hs es).2 _ _ _ _ _ d
  have fin:(∃ (k:Nat) (hh:Bool),j=(k:Int)/\bV l ⟨v,false,a,g,false⟩ 0 k t hh/\tg=(!hh&&eT t.kind))->∃ (k:Nat) (hh:Bool),j=(k:Int)/\bV l ⟨v,dl,a,g,s⟩ 0 k t hh:=fun ⟨k,hh,q1,q2,_⟩=>by
   refine ⟨k,hh,q1,?_⟩;have d:=sg k hh q2;cases ed:dl with
   | false=>exact d
   | true=>
    have:=hv3 ed;subst this;exact aza d
  have go:∀ (w:Int) (x:Option (dx×Int×Bool×List (List UInt8))),v=w->Sn l w a g 0 x->Option.bind x (fun r=>some (r.1,r.2.1,r.2.2.1,r.2.2.2))=some (⟨t,tg⟩,j,false,ns)->∃ (k:Nat) (hh:Bool),j=(k:Int)/\bV l ⟨v,dl,a,g,s⟩ 0 k t hh:=fun w x ew hx hb=>by
   subst ew;rw [EX] at hb;exact fin (hx _ _ _ _ hb)
  have z:(0:Nat)<=l.length:=Ct _;have hcv:v=1\/v=2\/v=3\/v=4\/v=5\/v=6\/v=7\/v=8\/v=9\/v=10\/v=11\/v=12\/v=13\/v=14\/v=15:=ah;rcases hcv with e|e|e|e|e|e|e|e|e|e|e|e|e|e|e<;>subst e
  .exact go 1 _ rfl (S.Jv 0 [] a g z) h
  .exact go 2 _ rfl (S.cd 0 [] a g z) h
  .exact go 3 _ rfl (S.orr 0 [] a g z) h
  .exact go 4 _ rfl (S.an 0 [] a g z) h
  .exact go 5 _ rfl (S.inn 0 [] a g z) h
  .exact go 6 _ rfl (S.ma 0 [] a g z) h
  .exact go 7 _ rfl (S.cm 0 [] a g z) h
  .exact go 8 _ rfl (S.ct 0 [] a g z) h
  .exact go 9 _ rfl (S.ad 0 [] a g z) h
  .exact go 10 _ rfl (S.mu 0 [] a g z) h
  .exact go 11 _ rfl (S.un 0 [] a g z) h
  .exact go 12 _ rfl (S.pw 0 [] a g z) h
  .exact go 13 _ rfl (S.ic 0 [] a g z) h
  .have h:Option.bind (bif dl then (fu l 0 false []).bind fun KZ=>(IV KZ).bind fun qU=>some qU else some false) (fun iQ=>bif iQ then (xO N l 0 false []).bind fun lC=>some (lC.1,lC.2.1,lC.2.2.1,lC.2.2.2) else ((qh N l 0 false []).bind fun jS=>some (jS.1,jS.2.1,jS.2.2.1,jS.2.2.2)))=some (⟨t,tg⟩,j,false,ns):=h;cases ed:dl with
   | false=>
    subst ed;rw [aG,av,aG] at h;exact go 14 _ rfl (S.fd 0 [] a g z) h
   | true=>
    subst ed;rw [aH,ek,av,Dy,av,av] at h;cases hst:(kd l 0==51||kd l 0==52) with
    | false=>
     rw [hst,aG] at h;exact go 14 _ rfl (S.fd 0 [] a g z) h
    | true=>
     have hst':kd l 0=51\/kd l 0=52:=by simpa using hst
     rw [hst,aH,EX] at h;obtain ⟨k,q1,q2,q3,q4,q5,_⟩:=S.bf 0 [] hst' _ _ _ _ h;have ens:s=false:=by
      cases es:s with
      | false=>rfl
      | true=>
       have:=hs es;rcases hst' with e|e<;>rw [e] at this<;>cases this
     subst ens;refine ⟨k,false,q1,.bare ?_ q2 q3 (q4.low ah _)⟩;rw [q5];cases a<;>cases g<;>rfl
  .exact go 15 _ rfl (S.pr 0 [] a g z) h
def aof (l:List aC):∀ (n i j:Nat),j - i<=n->(∀ p t,i < j->dH l p i j t->aZ t+1<=2*(j - i))/\(∀ p t h,bV l p i j t h->aZ t+1<=2*(j - i))/\(∀ ts,oZ l i j ts->aW ts+1<=2*(j - i)):=by
 intro n;induction n with
 | zero=>exact fun i j hn=>⟨fun p t hij=>ah,fun p t h d=>by have:=d.lt;omega,fun ts d=>by have:=d.lt;omega⟩
 | succ n ih=>
  intro i j hn;have hN:∀ p t,i < j->dH l p i j t->aZ t+1<=2*(j - i):=by
   intro p t hij d;cases d with
   | leaf k h1 h2=>rw [aZ,aW];omega
   | name h1=>rw [aZ,aW];omega
   | @index _ _ j ts h1 h2 h3 h4 h5 h6 h7=>
    have:=(ih (i+2) j ah).2.2 _ h7;rw [aZ];omega
   | nI k h1 h2 h3 h4=>rw [aZ,aW];omega
   | @call _ _ j ts k h1 h2 h3 h4 h5 h6 h7 h8=>
    have:=(ih (i+2) j ah).2.2 _ h8;rw [aZ];omega
   | len h1 h2 h3=>rw [aZ,aW];omega
   | field h1 h2 h3=>
    have:=(ih (i+1) j ah).2.1 _ _ _ h3;rw [aZ,aW,aW];omega
   | pre o h1 h2 h3 h4 h5=>
    have:=(ih (i+1) j ah).1 _ _ h4 h5;rw [aZ,aW,aW];omega
   | @post _ _ j t o h1 h2 h3 h4 h5=>
    have:=(ih i j ah).1 _ _ h4 h5;rw [aZ,aW,aW];omega
   | unary o h1 h2 h3 h4=>
    have:=(ih (i+1) j ah).2.1 _ _ _ h4;rw [aZ,aW,aW];omega
   | @bin _ _ m f _ a b _ _ o h1 h2 h3 h4 h5 h6 h7 h8=>
    have:=zY h6;have:=(ih i m ah).2.1 _ _ _ h7;have:=(ih f j ah).2.1 _ _ _ h8;rw [aZ,aW,aW,aW];omega
   | @cat _ _ m _ a b _ _ h1 h2 h3 h4=>
    have:=(ih i m ah).2.1 _ _ _ h3;have:=(ih m j ah).2.1 _ _ _ h4;rw [aZ,aW,aW,aW];omega
   | @one _ _ m t _ h1 h2 h3 h4=>
    have:=(ih i m ah).2.1 _ _ _ h4;rw [aZ,aW,aW];omega
   | @many _ _ m ts h1 h2 h3 h4 h5 h6 h7 h8=>
    have:=(ih (i+1) m ah).2.2 _ h8;rw [aZ];omega
   | @cond _ _ m k _ a b c _ _ _ h1 h2 h3 h4 h5 h6 h7 h8=>
    have:=(ih i m ah).2.1 _ _ _ h6;have:=(ih (m+1) k ah).2.1 _ _ _ h7;have:=(ih (k+1) j ah).2.1 _ _ _ h8;rw [aZ,aW,aW,aW,aW];omega
   | @assign _ _ m _ a b _ o h1 h2 h3 h4 h5 h6 h7=>
    have:=(ih i m ah).1 _ _ h3 h6;have:=(ih (m+1) j ah).2.1 _ _ _ h7;rw [aZ,aW,aW,aW];omega
  refine ⟨hN,fun p t h d=>?_,fun ts d=>?_⟩
  .cases d with
   | @par _ _ j _ h h1 h2 h3 h4 h5=>
    have:=(ih (i+1) j ah).2.1 _ _ _ h4;omega
   | bare h1 h2 h3 h4=>exact hN p t h2 h4
  .cases d with
   | @one _ _ t h h1 h2=>
    have e:aW [t]=aZ t:=by rw [aW,aW];rfl
    rw [e];cases h2 with
    | @par _ _ j _ h g1 g2 g3 g4 g5=>
     have:=(ih (i+1) j ah).2.1 _ _ _ g4;omega
    | bare g1 g2 g3 g4=>exact hN _ t g2 g4
   | @cons _ k f _ t u us h h1 h2 h3 h4 h5 h6=>
    have:=h3.1;have:=(ih i k ah).2.1 _ _ _ h5;have:=(ih f j ah).2.2 _ h6;rw [aW];omega
def azc (N:Nat) (hN:2000000<=N) (l:List aC) (hl:l.length<=3000) (hc:∀ k,kd l k≠2) (p:aN) (hp:posB p=true) (x:List aK) (h:Jk N l p=some (x,(l.length:Int),⟨0,0⟩)):∃ (t:aA) (hh:Bool),bV l p 0 l.length t hh/\x=bN 0 t:=by
 unfold Jk at h;rw [agX,hp,av,kE,aG] at h;obtain ⟨c,hck,h⟩:=dB.1 h;have aog:∀ c:rQ,(!((c.Kind==0)&&((c.At==0)&&true)))=true->c≠⟨0,0⟩:=fun c e ec=>by
  subst ec;cases e
 cases e0:(!((c.Kind==0)&&((c.At==0)&&true))) with
 | true=>
  rw [e0,aH] at h;exact absurd (congrArg (fun r:List aK×Int×rQ=>r.2.2)<|kD h) (aog _ e0)
 | false=>
  rw [e0,aG] at h;obtain ⟨⟨⟨t,tg⟩,j,b,ns⟩,hlv,h⟩:=dB.1 h;cases b with
  | true=>
   rw [aH] at h;obtain ⟨q,_,h⟩:=dB.1 h;exact absurd (congrArg (fun r:List aK×Int×rQ=>r.2.2.Kind)<|kD h) (show (3:Int)≠0 by decide)
  | false=>
   rw [aG] at h;obtain ⟨f,hbd,h⟩:=dB.1 h;cases e1:(!((f.Kind==0)&&((f.At==0)&&true))) with
   | true=>
    rw [e1,aH] at h;exact absurd (congrArg (fun r:List aK×Int×rQ=>r.2.2)<|kD h) (aog _ e1)
   | false=>
    rw [e1,aG] at h;obtain ⟨y,hy,h⟩:=dB.1 h;obtain ⟨k,hh,q1,q2⟩:=aoe N l hl hc p hp t tg j ns hlv;have hq:=q2.lt;have hs:=(aof l (k - 0) 0 k<|cZ _).2.1 _ _ _ q2;have hy':=agY N t ah ah;have hy:Lu N t=some y:=hy;rw [hy'] at hy;cases hy;have ex:bN 0 t=x:=congrArg (fun r:List aK×Int×rQ=>r.1) (kD h);have ej:j=(l.length:Int):=congrArg (fun r:List aK×Int×rQ=>r.2.1) (kD h);have ek:k=l.length:=ah;rw [ek] at q2;exact ⟨t,hh,q2,ex.symm⟩
def azd (l:List aC) (hl:l.length<=3000) (N i:Nat) (q:Int) (ns:List (List UInt8)):∀ (n j d:Nat),l.length - j < n->i<=j->1<=d->d<=j->∃ r,qD N l q false ns n (l.drop i,(d:Int),((j - i:Nat):Int))=some r/\(r=true->d=1->kd l j≠33):=by
 intro n;induction n with
 | zero=>intro j d h;omega
 | succ n ih=>
  intro j d hn hij hd hdj;rw [qD];by_cases hj:j < l.length
  .have hj':j - i < (l.drop i).length:=by rw [Hu];omega
   have he:(l.drop i)[j - i]=l[j]:=by rw [List.getElem_drop];congr 1;omega
   simp only [gJ hj',aH,bS hj',he,av,TV,Ya];rw [lF hj];have next:∀ d':Nat,1<=d'->d'<=j+1->∃ r,zN N l q false ns (qD N l q false ns n) (l.drop i,((j - i:Nat):Int),(d':Int))=some r:=fun d' g1 g2=>by
    obtain ⟨r,r1,_⟩:=ih (j+1) d' ah ah g1 g2;unfold zN;dsimp only;rw [nE (show¬(d':Int)<=0 by omega),aG,wrap64 ah ah,show (((j - i:Nat):Int)+1)=((j+1 - i:Nat):Int) by omega];exact ⟨r,r1⟩
   cases ho:jL l[j].Kind with
   | true=>
    simp only [aH];rw [wrap64 ah ah];obtain ⟨r,r1⟩:=next (d+1) ah ah
    refine ⟨r,r1,fun _ _ hk=>?_⟩;rw [hk] at ho;cases ho
   | false=>
    simp only [aG];cases hc:lS l[j].Kind with
    | true=>
     simp only [aH];rw [wrap64 ah ah];by_cases hd1:d=1
     .subst hd1;exact ⟨false,rfl,fun h=>by cases h⟩
     .obtain ⟨r,r1⟩:=next (d - 1) ah ah
      rw [show (((d - 1:Nat)):Int)=(d:Int) - 1 by omega] at r1;exact ⟨r,r1,fun _ h=>absurd h hd1⟩
    | false=>
     have n33:l[j].Kind≠33:=fun hk=>by rw [hk] at hc;cases hc
     obtain ⟨r,r1⟩:=next d hd ah
     simp only [aG];cases (l[j].Kind==36)<;>cases ((d:Int)==1)<;>first
      | exact ⟨r,r1,fun _ _=>n33⟩
      | exact ⟨true,rfl,fun _ _=>n33⟩
  .have hj': ¬(j - i < (l.drop i).length):=by rw [Hu];omega
   simp only [iW hj',aG];exact ⟨false,rfl,fun h=>by cases h⟩
def aze {l:List aC} (hl:l.length<=3000) {N i:Nat} (hN:l.length - i < N) (ns:List (List UInt8)) (h32:kd l i=32):∃ r,Di N l (i:Int) false ns=some r/\(r=true->kd l (i+1)≠33):=by
 have hi:i < l.length:=dG (by rw [h32];decide);have azf:l[i].Kind=32:=by rw [<- lF hi];exact h32
 unfold Di;rw [afe ah ah];have hd:(l.drop i).take (l.length - i)=l.drop i:=aea aF;rw [hd];obtain ⟨n,rfl⟩:∃ n,N=n+1:=⟨N - 1,ah⟩
 obtain ⟨r,r1,r3⟩:=azd l hl (n+1) i (i:Int) ns n (i+1) 1 ah ah ah ah;refine ⟨r,?_,fun h=>r3 h rfl⟩;have hj':0 < (l.drop i).length:=by rw [Hu];omega
 have he:(l.drop i)[0]=l[i]:=by rw [List.getElem_drop];rfl
 rw [show i+1 - i=1 by omega] at r1;rw [av,qD];have c1:decide ((0:Int) < ((l.drop i).length:Int))=true:=by simp only [lG];omega
 have c2:ix (l.drop i) (0:Int)=some l[i]:=by rw [<- he];exact bS (i:=0) hj'
 simp only [c1,c2,aH,av,TV,azf];exact r1
def Tt {α:Type} (l:List aC) (i:Nat) (x:Option (α×Int×Bool×List (List UInt8))):Prop:=∃ (p:α) (j:Nat) (b:Bool) (ns:List (List UInt8)),x=some (p,(j:Int),b,ns)/\i<=j/\j<=l.length/\(b=false->i < j)
def Tt.bind {α β:Type} {l:List aC} {i i':Nat} {x:Option (α×Int×Bool×List (List UInt8))} {f:(α×Int×Bool×List (List UInt8))->Option (β×Int×Bool×List (List UInt8))} (h:Tt l i x) (g:∀ p (j:Nat) b ns,i<=j->j<=l.length->(b=false->i < j)->Tt l i' (f (p,(j:Int),b,ns))):Tt l i' (Option.bind x f):=by
 obtain ⟨p,j,b,ns,h1,h2,h3,h4⟩:=h;rw [h1];exact g p j b ns h2 h3 h4
def Tt.same {α:Type} {l:List aC} {i:Nat} {x:Option (α×Int×Bool×List (List UInt8))} (h:Tt l i x):Tt l i (Option.bind x fun r=>some (r.1,r.2.1,r.2.2.1,r.2.2.2)):=by rw [EX];exact h
def Tt.to {α:Type} {l:List aC} {i j:Nat} {p:α} {b:Bool} {ns:List (List UInt8)} (h1:i<=j) (h2:j<=l.length) (h3:b=false->i < j):Tt l i (some (p,(j:Int),b,ns)):=⟨p,j,b,ns,rfl,h1,h2,h3⟩
structure ou (l:List aC) (M:Nat):Prop where
 Jv:∀ (i:Nat) ns r,i<=l.length->20*(l.length - i)+16<=M->Tt l i ((aL M).oW r l (i:Int) false ns)
 cd:∀ (i:Nat) ns r,i<=l.length->20*(l.length - i)+15<=M->Tt l i ((aL M).tq r l (i:Int) false ns)
 orr:∀ (i:Nat) ns r,i<=l.length->20*(l.length - i)+14<=M->Tt l i ((aL M).zR r l (i:Int) false ns)
 an:∀ (i:Nat) ns r,i<=l.length->20*(l.length - i)+13<=M->Tt l i ((aL M).xU r l (i:Int) false ns)
 inn:∀ (i:Nat) ns r,i<=l.length->20*(l.length - i)+12<=M->Tt l i ((aL M).xS r l (i:Int) false ns)
 ma:∀ (i:Nat) ns r,i<=l.length->20*(l.length - i)+11<=M->Tt l i ((aL M).yQ r l (i:Int) false ns)
 cm:∀ (i:Nat) ns r,i<=l.length->20*(l.length - i)+10<=M->Tt l i ((aL M).wU r l (i:Int) false ns)
 ct:∀ (i:Nat) ns r,i<=l.length->20*(l.length - i)+9<=M->Tt l i ((aL M).vE r l (i:Int) false ns)
 ad:∀ (i:Nat) ns r,i<=l.length->20*(l.length - i)+8<=M->Tt l i ((aL M).xQ r l (i:Int) false ns)
 mu:∀ (i:Nat) ns r,i<=l.length->20*(l.length - i)+7<=M->Tt l i ((aL M).xP r l (i:Int) false ns)
 un:∀ (i:Nat) ns r,i<=l.length->20*(l.length - i)+6<=M->Tt l i ((aL M).ru r l (i:Int) false ns)
 pw:∀ (i:Nat) ns r,i<=l.length->20*(l.length - i)+5<=M->Tt l i ((aL M).zQ r l (i:Int) false ns)
 ic:∀ (i:Nat) ns,i<=l.length->20*(l.length - i)+4<=M->Tt l i ((aL M).zP l (i:Int) false ns)
 lvl:∀ (i:Nat) ns,i<=l.length->20*(l.length - i)+4<=M->Tt l i ((aL M).IW l (i:Int) false ns)
 fd:∀ (i:Nat) ns,i<=l.length->20*(l.length - i)+3<=M->Tt l i ((aL M).qh l (i:Int) false ns)
 pr:∀ (i:Nat) ns,i<=l.length->20*(l.length - i)+2<=M->Tt l i ((aL M).Bw l (i:Int) false ns)
 bf:∀ (i:Nat) ns,i < l.length->20*(l.length - i)+1<=M->Tt l i ((aL M).xO l (i:Int) false ns)
 vr:∀ (i:Nat) ns,i < l.length->20*(l.length - i)+1<=M->Tt l i ((aL M).xM l (i:Int) false ns)
 it:∀ (i:Nat) ns r,i<=l.length->20*(l.length - i)+17<=M->Tt l i ((aL M).Dj r l (i:Int) false ns)/\∀ j b ns',(aL M).Dj r l (i:Int) false ns≠some ([],j,b,ns')
 ls:∀ (i:Nat) ns en,i<=l.length->en≠0->20*(l.length - i)+18<=M->Tt l i ((aL M).xR en l (i:Int) false ns)/\(kd l i≠33->∀ j b ns',(aL M).xR en l (i:Int) false ns≠some ([],j,b,ns'))
section
set_option linter.unusedSectionVars false
variable (l:List aC) (hl:l.length<=3000)
include hl
theorem acB (k:Int) (j:Nat) (b:Bool) (ns:List (List UInt8)) (hj:j<=l.length):∃ (x:Bool) (j':Nat) (b':Bool),ug k l (j:Int) b ns=some (x,(j':Int),b')/\j<=j'/\(j'<=l.length\/k=0)/\(b'=false->b=false/\j < j'):=by
 cases b with
 | true=>exact ⟨false,j,true,aob k l j ns,cZ _,.inl hj,fun h=>by cases h⟩
 | false=>
  by_cases h:kd l j=k
  .refine ⟨true,j+1,false,LQ ns ah h,ah,?_,fun _=>⟨rfl,ah⟩⟩;by_cases hk:k=0
   .exact .inr hk
   .exact .inl (dG (l:=l) (i:=j)<|by rw [h];exact hk)
  .exact ⟨false,j,true,acs false ns h,cZ _,.inl hj,fun h=>by cases h⟩
theorem acC (j:Nat) (ns:List (List UInt8)) (hj:j<=l.length):∃ (x:List UInt8) (j':Nat) (b':Bool),zO l (j:Int) false ns=some (x,(j':Int),b')/\j<=j'/\j'<=l.length/\(b'=false->j < j'):=by
 by_cases h:kd l j=6
 .have hlt:=dG (l:=l) (i:=j) (by rw [h];decide);exact ⟨_,j+1,false,Yb ns hlt ah h,ah,hlt,fun _=>ah⟩
 .exact ⟨[],j,true,azg false ns h,cZ _,hj,fun h=>by cases h⟩
theorem ahe {α:Type} {i j:Nat} (b:Bool) (ns:List (List UInt8)) (h1:i<=j) (h2:j<=l.length):Tt l i ((OG l (j:Int) b ns).bind fun r=>some (r.1,(j:Int),r.2,ns)):=⟨_,j,true,ns,rfl,h1,h2,fun h=>by cases h⟩
theorem azh {M:Nat} (S:ou l M) (i:Nat) (ns:List (List UInt8)) (hi:i < l.length) (hM:20*(l.length - i)+1<=M+1):Tt l i (EH M (aL M) l (i:Int) false ns):=by
 unfold EH uh;rw [bS hi,av,dR (kG hi) (show l.length<=100000 by omega),av];dsimp only;rw [bL,av];cases LP:(kd l (i+1)==34) with
 | true=>
  have hlt2:=dG (l:=l) (i:=i+1) (by rw [eq_of_beq LP];decide);rw [aH,dR (kG hlt2)<|show l.length<=100000 by omega];exact (S.ls (i+1+1) ns 35 ah aD ah).1.bind fun p j b ns h1 h2 h3=>.to ah h2 (fun h=>by have:=h3 h;omega)
 | false=>
  exact .to ah hi fun _=>by omega
theorem azi {M:Nat} (S:ou l M) (i:Nat) (ns:List (List UInt8)) (hi:i<=l.length) (hM:20*(l.length - i)+2<=M+1):Tt l i (rX M (aL M) l (i:Int) false ns):=by
 unfold rX;rw [aG,bL,av];have text:∀ (h0:kd l i≠0),uh l (i:Int) false ns=some (lD l i,((i+1:Nat):Int)):=fun h0=>by
  have hlt:=dG (l:=l) (i:=i) h0;unfold uh;rw [bS hlt,av,dR hi (show l.length<=100000 by omega),ze hlt]
 have leaf:∀ (k:Int) (g:List UInt8->dx),k≠0->(kd l i==k)=true->Tt l i ((uh l (i:Int) false ns).bind fun r=>some (g r.1,r.2,false,ns)):=fun k g hk e=>by
  have e:=eq_of_beq e;rw [text (by rw [e];exact hk),av];exact .to ah (dG<|by rw [e];exact hk) fun _=>by omega
 have call:∀ k:Int,kd l i≠0->Tt l i (Gn M (aL M) l ((lD l i,((i+1:Nat):Int)),false,ns,k)):=fun k e=>by
  have hlt:=dG (l:=l) (i:=i) e;obtain ⟨x,j,b,t1,t2,t3,t4⟩:=acB l hl 32 (i+1) false ns ah;unfold Gn;dsimp only;rw [t1,av];have t3:j<=l.length:=t3.resolve_right aD;have stop:∀ b:Bool,Tt l i (OI M (aL M) l (k,(lD l i,((i+1:Nat):Int)),(j:Int),b,[],ns)):=fun b=>.to ah t3 fun _=>by omega
  cases x with
  | false=>exact stop b
  | true=>
   cases b with
   | true=>
    exfalso;by_cases e:kd l (i+1)=32
    .rw [LQ ns ah e] at t1;cases t1
    .rw [acs false ns e] at t1;cases t1
   | false=>exact (S.ls j ns 33 t3 aD (by have:=(t4 rfl).2;omega)).1.bind fun p j b ns h1 h2 h3=>.to ah h2 (fun h=>by have:=h3 h;omega)
 cases h3:(kd l i==3) with
 | true=>exact leaf 3 (fun z=>⟨⟨2,0,z,[],[]⟩,false⟩) aD h3
 | false=>
  rw [aG];cases h4:(kd l i==4) with
  | true=>exact leaf 4 (fun z=>⟨⟨3,0,z,[],[]⟩,false⟩) aD h4
  | false=>
   rw [aG];cases h5:(kd l i==5) with
   | true=>exact leaf 5 (fun z=>⟨⟨4,0,z,[],[]⟩,false⟩) aD h5
   | false=>
    rw [aG];cases h6:(kd l i==6) with
    | true=>
     have hlt:=dG (l:=l) (i:=i) (by rw [eq_of_beq h6];decide);exact (S.vr i ns hlt ah).same
    | false=>
     rw [aG];unfold Dl;dsimp only;cases h7:(kd l i==7) with
     | true=>
      have e7:=eq_of_beq h7;have h8:(kd l i==8)=false:=by rw [e7];rfl
      rw [aH,aH,text ah,av,h8,aG];exact call 7 ah
     | false=>
      rw [aG];cases h8:(kd l i==8) with
      | true=>
       have e8:=eq_of_beq h8;have hlt:=dG (l:=l) (i:=i) ah;rw [aH,text ah,av,aH];dsimp only;cases hlen:(lD l i==[108,101,110,103,116,104]) with
       | false=>exact call 8 ah
       | true=>
        rw [aH,bL,av,av];cases h32:(kd l (i+1) !=32) with
        | false=>exact call 8 ah
        | true=>exact .to ah hlt fun _=>by omega
      | false=>
       rw [aG];cases h32:(kd l i==32) with
       | false=>exact ahe (α:=dx) l hl false ns (cZ i) hi
       | true=>
        have hlt:=dG (l:=l) (i:=i) (by rw [eq_of_beq h32];decide);rw [aH,dR hi<|show l.length<=100000 by omega];refine (S.Jv (i+1) ns _ hlt ah).bind fun p j b ns h1 h2 h3=>?_;obtain ⟨x,j',b',t1,t2,t3,t4⟩:=acB l hl 33 j b ns h2;dsimp only;rw [t1,av];exact .to ah (t3.resolve_right aD) fun h=>by have:=(t4 h).2;omega
theorem azj {M:Nat} (S:ou l M) (i:Nat) (ns:List (List UInt8)) (hi:i<=l.length) (hM:20*(l.length - i)+3<=M+1):Tt l i (wW M (aL M) l (i:Int) false ns):=by
 unfold wW;rw [aG,bL,av,av];cases h68:(kd l i !=68) with
 | true=>exact (S.pr i ns hi ah).same
 | false=>
  have e:kd l i=68:=by simpa using h68
  have hlt:=dG (l:=l) (i:=i) (by rw [e];decide);rw [aG,dR hi (show l.length<=100000 by omega),bL,av,Dy,av];cases hs:(kd l (i+1)==51||kd l (i+1)==52) with
  | true=>
   have hs':kd l (i+1)=51\/kd l (i+1)=52:=by simpa using hs
   have hlt2:=dG (l:=l) (i:=i+1) ah;exact (S.bf (i+1) ns hlt2 ah).bind fun p j b ns h1 h2 h3=>.to ah h2 fun h=>by have:=h3 h;omega
  | false=>exact (S.fd (i+1) ns hlt ah).bind fun p j b ns h1 h2 h3=>.to ah h2 fun h=>by have:=h3 h;omega
theorem azk {M:Nat} (S:ou l M) (i:Nat) (ns:List (List UInt8)) (hi:i<=l.length) (hM:20*(l.length - i)+4<=M+1):Tt l i (IX M (aL M) l (i:Int) false ns):=by
 unfold IX;rw [aG,bL,av];cases h68:(kd l i==68) with
 | true=>exact (S.fd i ns hi ah).same
 | false=>
  rw [aG,av];cases h6:(kd l i==6) with
  | true=>exact (S.vr i ns (dG<|by rw [eq_of_beq h6];decide) ah).same
  | false=>exact ahe (α:=dx) l hl false ns (cZ i) hi
theorem azl {M:Nat} (S:ou l M) (i:Nat) (ns:List (List UInt8)) (hi:i < l.length) (hM:20*(l.length - i)+1<=M+1):Tt l i (IY M (aL M) l (i:Int) false ns):=by
 unfold IY;rw [bL,av,dR (kG hi)<|show l.length<=100000 by omega];exact (S.lvl (i+1) ns hi ah).bind fun p j b ns h1 h2 h3=>.to ah h2 fun h=>by have:=h3 h;omega
theorem azm {M:Nat} (S:ou l M) (i:Nat) (ns:List (List UInt8)) (hi:i<=l.length) (hM:20*(l.length - i)+4<=M+1):Tt l i (Bz M (aL M) l (i:Int) false ns):=by
 unfold Bz;rw [dN,aH,bL,av,Dy,av,av];cases hs:(kd l i==51||kd l i==52) with
 | true=>
  have hs':kd l i=51\/kd l i=52:=by simpa using hs
  exact (S.bf i ns (dG ah) ah).same
 | false=>
  refine (S.fd i ns hi ah).bind fun p j b ns h1 h2 h3=>?_;have back:Tt l i (some (p,(j:Int),b,ns)):=.to h1 h2 h3;cases b with
  | true=>exact back
  | false=>
   obtain ⟨t,tg⟩:=p;cases tg with
   | false=>exact back
   | true=>
    dsimp only;rw [aG,kE,aG,bL,av,Dy,av,av];cases hs2:(kd l j==51||kd l j==52) with
    | false=>exact back
    | true=>
     have hs3:kd l j=51\/kd l j=52:=by simpa using hs2
     have hjl:=dG (l:=l) (i:=j) ah;rw [kE,aG,av,dR h2<|show l.length<=100000 by omega];exact .to ah hjl fun _=>by omega
theorem azn {M:Nat} (S:ou l M) (i:Nat) (ns:List (List UInt8)) (r:bn) (hi:i<=l.length) (hM:20*(l.length - i)+5<=M+1):Tt l i (EJ M (aL M) r l (i:Int) false ns):=by
 unfold EJ;refine (S.ic i ns hi ah).bind fun p j b ns h1 h2 h3=>?_;cases b with
 | true=>exact .to h1 h2 h3
 | false=>
  dsimp only;rw [aG,bL,av,av];cases TU:(kd l j !=60) with
  | true=>exact .to h1 h2 h3
  | false=>
   have e:kd l j=60:=by simpa using TU
   have hjl:=dG (l:=l) (i:=j) ah;have:=h3 rfl;rw [aG,dR h2<|show l.length<=100000 by omega];exact (S.un (j+1) ns r hjl ah).bind fun p j b ns h1 h2 h3=>.to ah h2 fun h=>by have:=h3 h;omega
theorem azo {M:Nat} (S:ou l M) (i:Nat) (ns:List (List UInt8)) (r:bn) (hi:i<=l.length) (hM:20*(l.length - i)+6<=M+1):Tt l i (BA M (aL M) r l (i:Int) false ns):=by
 unfold BA;rw [bL,av,aG];by_cases ho:kd l i=55\/kd l i=56\/kd l i=61
 .have e:(bif (kd l i !=55) then bif (kd l i !=56) then some (kd l i !=61) else some false else some false)=some false:=by
   rcases ho with e|e|e<;>rw [e]<;>rfl
  have hlt:=dG (l:=l) (i:=i) ah;rw [e,av,aG,dR hi<|show l.length<=100000 by omega];exact (S.un (i+1) ns r hlt ah).bind fun p j b ns h1 h2 h3=>.to ah h2 fun h=>by have:=h3 h;omega
 .have e:(bif (kd l i !=55) then bif (kd l i !=56) then some (kd l i !=61) else some false else some false)=some true:=by
   have f:∀ {z:Int},kd l i≠z->(kd l i !=z)=true:=fun h=>by simpa using h
   rw [f fun e=>ho<|.inl e,f fun e=>ho<|.inr<|.inl e,f fun e=>ho<|.inr<|.inr e];rfl
  rw [e,av,aH];exact (S.pw i ns r hi ah).same
theorem ahf {j:Nat} {v:Int} (h:(bg (kd l j)==v)=true) (hv:v≠0):j < l.length:=by
 refine dG fun e=>?_;rw [e] at h;exact hv (eq_of_beq h).symm
end
section
set_option linter.unusedSectionVars false
variable (l:List aC) (hl:l.length<=3000)
include hl
theorem azp {M:Nat} (S:ou l M) (N:Nat) (r:bn) (i:Nat) (hM:20*(l.length - i)+7<=M+1):∀ (n j:Nat) (b:Bool) (k0 o0:Int) (x0 y0:List UInt8) (eu:List aA) (tg:Bool) (ns:List (List UInt8)),0 < n->(b=false->l.length - j < n/\i < j)->i<=j->j<=l.length->Tt l i (yR N (aL M) l n (r,(j:Int),b,k0,o0,x0,y0,eu,tg,ns)):=by
 intro n;induction n with
 | zero=>intro j b k0 o0 x0 y0 eu tg ns h;omega
 | succ n ih=>
  intro j b k0 o0 x0 y0 eu tg ns _ hb h1 h2;rw [yR];cases b with
  | true=>exact .to h1 h2 fun h=>by cases h
  | false=>
   obtain ⟨hb1,hb2⟩:=hb rfl;rw [dN,aH,bL,av,Dz,av,av];cases ho:(bg (kd l j)==10) with
   | false=>exact .to h1 h2 fun _=>hb2
   | true=>
    have hjl:=ahf l hl ho aD;rw [aH,av,dR h2<|show l.length<=100000 by omega];refine (S.un (j+1) ns r hjl ah).bind fun p j2 b2 qG g1 g2 g3=>?_;exact ih j2 b2 _ _ _ _ _ _ _ ah (fun h=>by have:=g3 h;omega) ah g2
theorem azq {M:Nat} (S:ou l M) (i:Nat) (ns:List (List UInt8)) (r:bn) (hi:i<=l.length) (hM:20*(l.length - i)+7<=M+1):Tt l i (IZ M (aL M) r l (i:Int) false ns):=by
 unfold IZ;refine (S.un i ns r hi ah).bind fun p j b ns h1 h2 h3=>?_;exact azp l hl S M r i hM M j b _ _ _ _ _ _ _ ah (fun h=>by have:=h3 h;omega) h1 h2
theorem azr {M:Nat} (S:ou l M) (N:Nat) (r:bn) (i:Nat) (hM:20*(l.length - i)+8<=M+1):∀ (n j:Nat) (b:Bool) (k0 o0:Int) (x0 y0:List UInt8) (eu:List aA) (tg:Bool) (ns:List (List UInt8)),0 < n->(b=false->l.length - j < n/\i < j)->i<=j->j<=l.length->Tt l i (yS N (aL M) l n (r,(j:Int),b,k0,o0,x0,y0,eu,tg,ns)):=by
 intro n;induction n with
 | zero=>intro j b k0 o0 x0 y0 eu tg ns h;omega
 | succ n ih=>
  intro j b k0 o0 x0 y0 eu tg ns _ hb h1 h2;rw [yS];cases b with
  | true=>exact .to h1 h2 fun h=>by cases h
  | false=>
   obtain ⟨hb1,hb2⟩:=hb rfl;rw [dN,aH,bL,av,Dz,av,av];cases ho:(bg (kd l j)==9) with
   | false=>exact .to h1 h2 fun _=>hb2
   | true=>
    have hjl:=ahf l hl ho aD;rw [aH,av,dR h2<|show l.length<=100000 by omega];refine (S.mu (j+1) ns r hjl ah).bind fun p j2 b2 qG g1 g2 g3=>?_;exact ih j2 b2 _ _ _ _ _ _ _ ah (fun h=>by have:=g3 h;omega) ah g2
theorem azs {M:Nat} (S:ou l M) (i:Nat) (ns:List (List UInt8)) (r:bn) (hi:i<=l.length) (hM:20*(l.length - i)+8<=M+1):Tt l i (Ja M (aL M) r l (i:Int) false ns):=by
 unfold Ja;refine (S.mu i ns r hi ah).bind fun p j b ns h1 h2 h3=>?_;exact azr l hl S M r i hM M j b _ _ _ _ _ _ _ ah (fun h=>by have:=h3 h;omega) h1 h2
theorem azt {M:Nat} (S:ou l M) (N:Nat) (r:bn) (i:Nat) (hM:20*(l.length - i)+9<=M+1):∀ (n j:Nat) (b:Bool) (k0 o0:Int) (x0 y0:List UInt8) (eu:List aA) (tg:Bool) (ns:List (List UInt8)),0 < n->(b=false->l.length - j < n/\i < j)->i<=j->j<=l.length->Tt l i (yT N (aL M) l n (r,(j:Int),b,k0,o0,x0,y0,eu,tg,ns)):=by
 intro n;induction n with
 | zero=>intro j b k0 o0 x0 y0 eu tg ns h;omega
 | succ n ih=>
  intro j b k0 o0 x0 y0 eu tg ns _ hb h1 h2;rw [yT];cases b with
  | true=>exact .to h1 h2 fun h=>by cases h
  | false=>
   obtain ⟨hb1,hb2⟩:=hb rfl;rw [dN,aH,bL,av,XY,av,av];cases ho:qm (kd l j) with
   | false=>exact .to h1 h2 fun _=>hb2
   | true=>
    have hjl:j < l.length:=dG fun e=>by rw [e] at ho;cases ho
    rw [aH];refine (S.ad j ns r h2 ah).bind fun p j2 b2 qG g1 g2 g3=>?_;exact ih j2 b2 _ _ _ _ _ _ _ ah (fun h=>by have:=g3 h;omega) ah g2
theorem azu {M:Nat} (S:ou l M) (i:Nat) (ns:List (List UInt8)) (r:bn) (hi:i<=l.length) (hM:20*(l.length - i)+9<=M+1):Tt l i (Jf M (aL M) r l (i:Int) false ns):=by
 unfold Jf;refine (S.ad i ns r hi ah).bind fun p j b ns h1 h2 h3=>?_;exact azt l hl S M r i hM M j b _ _ _ _ _ _ _ ah (fun h=>by have:=h3 h;omega) h1 h2
theorem azv {M:Nat} (S:ou l M) (i:Nat) (ns:List (List UInt8)) (r:bn) (hi:i<=l.length) (hM:20*(l.length - i)+10<=M+1):Tt l i (EK M (aL M) r l (i:Int) false ns):=by
 unfold EK;refine (S.ct i ns r hi ah).bind fun p j b ns h1 h2 h3=>?_;have back:Tt l i (some (p,(j:Int),b,ns)):=.to h1 h2 h3;cases b with
 | true=>exact back
 | false=>
  have:=h3 rfl;dsimp only;rw [aG,bL,av,Dz,av,av];cases h7:(bg (kd l j) !=7) with
  | true=>exact back
  | false=>
   have hjl:j < l.length:=ahf l hl (v:=7) (by simpa using h7) aD;have go:Tt l i (((aL M).vE r l (IntKind.wrap .i64<|(j:Int)+1) false ns).bind fun bZ=>(xL (kd l j) p bZ.1).bind fun qQ=>some (qQ,bZ.2.1,bZ.2.2.1,bZ.2.2.2)):=by
    rw [dR h2<|show l.length<=100000 by omega];exact (S.ct (j+1) ns r hjl ah).bind fun p j b ns h1 h2 h3=>.to ah h2 fun h=>by have:=h3 h;omega
   rw [aG];have hb:(bif r.dz then some (kd l j==62) else some false)=some (r.dz&&kd l j==62):=by cases r.dz<;>rfl
   rw [hb,av];cases (r.dz&&kd l j==62) with
   | true=>exact back
   | false=>exact go
theorem azw {M:Nat} (S:ou l M) (i:Nat) (ns:List (List UInt8)) (r:bn) (hi:i<=l.length) (hM:20*(l.length - i)+11<=M+1):Tt l i (EL M (aL M) r l (i:Int) false ns):=by
 unfold EL;refine (S.cm i ns r hi ah).bind fun p j b ns h1 h2 h3=>?_;have back:Tt l i (some (p,(j:Int),b,ns)):=.to h1 h2 h3;cases b with
 | true=>exact back
 | false=>
  have:=h3 rfl;dsimp only;rw [aG,bL,av,av];have hb:(bif (kd l j !=67) then some (kd l j !=46) else some false)=some (kd l j !=67&&kd l j !=46):=by cases (kd l j !=67)<;>rfl
  rw [hb,av];cases ho:(kd l j !=67&&kd l j !=46) with
  | true=>exact back
  | false=>
   have hjl:j < l.length:=dG fun e=>by rw [e] at ho;cases ho
   rw [aG,av,dR h2<|show l.length<=100000 by omega];exact (S.cm (j+1) ns r hjl ah).bind fun p j b ns h1 h2 h3=>.to ah h2 fun h=>by have:=h3 h;omega
theorem azx {M:Nat} (S:ou l M) (i:Nat) (ns:List (List UInt8)) (r:bn) (hi:i<=l.length) (hM:20*(l.length - i)+15<=M+1):Tt l i (EM M (aL M) r l (i:Int) false ns):=by
 unfold EM;refine (S.orr i ns r hi ah).bind fun p j b ns h1 h2 h3=>?_;have back:Tt l i (some (p,(j:Int),b,ns)):=.to h1 h2 h3;cases b with
 | true=>exact back
 | false=>
  have:=h3 rfl;dsimp only;rw [aG,bL,av,av];cases tC:(kd l j !=65) with
  | true=>exact back
  | false=>
   have e:kd l j=65:=by simpa using tC
   have hjl:j < l.length:=dG ah;rw [aG,dR h2<|show l.length<=100000 by omega];refine (S.cd (j+1) ns r hjl ah).bind fun p2 j2 b2 qG g1 g2 g3=>?_;obtain ⟨x,j3,b3,t1,t2,t3,t4⟩:=acB l hl 66 j2 b2 qG g2;have t3:j3<=l.length:=t3.resolve_right aD;dsimp only;rw [t1,av];cases b3 with
   | true=>exact .to ah t3 fun h=>by cases h
   | false=>
    have:=(t4 rfl).2;exact (S.cd j3 qG r t3 ah).bind fun p j b ns h1 h2 h3=>.to ah h2 fun h=>by have:=h3 h;omega
theorem azy {M:Nat} (S:ou l M) (i:Nat) (ns:List (List UInt8)) (r:bn) (hi:i<=l.length) (hM:20*(l.length - i)+16<=M+1):Tt l i (EN M (aL M) r l (i:Int) false ns):=by
 unfold EN;refine (S.cd i ns r hi ah).bind fun p j b ns h1 h2 h3=>?_;have back:Tt l i (some (p,(j:Int),b,ns)):=.to h1 h2 h3;cases b with
 | true=>exact back
 | false=>
  have:=h3 rfl;obtain ⟨t,tg⟩:=p;cases tg with
  | false=>exact back
  | true=>
   dsimp only;rw [aG,kE,aG,bL,av,acy,av,av];cases ha:nM (kd l j) with
   | false=>exact back
   | true=>
    have hjl:j < l.length:=dG fun e=>by rw [e] at ha;cases ha
    rw [kE,aG,av,dR h2<|show l.length<=100000 by omega];exact (S.Jv (j+1) ns r hjl ah).bind fun p j b ns h1 h2 h3=>.to ah h2 fun h=>by have:=h3 h;omega
section
variable (hn:∀ k,kd l k≠1) (hc:∀ k,kd l k≠2)
include hn hc
theorem ahg {N a:Nat} (ns:List (List UInt8)) (ha:a < l.length) (hN:0 < N):IU N l ((a+1:Nat):Int) false ns=some (((a+1:Nat):Int),ns):=by
 obtain ⟨n,rfl⟩:∃ n,N=n+1:=⟨N - 1,ah⟩
 unfold IU;exact ahh l hl (n+1) ns 0 (a+1) (a+1) (n+1) ah ah ⟨cZ _,fun k h1 h2=>ah,hn _,hc _⟩
end
def azz (hn:∀ k,kd l k≠1) (hc:∀ k,kd l k≠2) {M:Nat} (S:ou l M) (N:Nat) (hN:0 < N) (r:bn) (i:Nat) (hM:20*(l.length - i)+13<=M+1):∀ (n j:Nat) (b:Bool) (k0 o0:Int) (x0 y0:List UInt8) (eu:List aA) (tg:Bool) (ns:List (List UInt8)),0 < n->(b=false->l.length - j < n/\i < j)->i<=j->j<=l.length->Tt l i (yX N (aL M) l n (r,(j:Int),b,k0,o0,x0,y0,eu,tg,ns)):=by
 intro n;induction n with
 | zero=>intro j b k0 o0 x0 y0 eu tg ns h;omega
 | succ n ih=>
  intro j b k0 o0 x0 y0 eu tg ns _ hb h1 h2;rw [yX];cases b with
  | true=>exact .to h1 h2 fun h=>by cases h
  | false=>
   obtain ⟨hb1,hb2⟩:=hb rfl;rw [dN,aH,bL,av,av];cases ho:(kd l j==45) with
   | false=>exact .to h1 h2 fun _=>hb2
   | true=>
    have hjl:j < l.length:=dG (by rw [eq_of_beq ho];decide);rw [aH,dR h2 (show l.length<=100000 by omega),ahg l hl hn hc ns hjl (show 0 < N by omega),av];dsimp only;refine (S.inn (j+1) ns r hjl ah).bind fun p j2 b2 qG g1 g2 g3=>?_;exact ih j2 b2 _ _ _ _ _ _ _ ah (fun h=>by have:=g3 h;omega) ah g2
def azA (hn:∀ k,kd l k≠1) (hc:∀ k,kd l k≠2) {M:Nat} (S:ou l M) (i:Nat) (ns:List (List UInt8)) (r:bn) (hi:i<=l.length) (hM:20*(l.length - i)+13<=M+1):Tt l i (Jg M (aL M) r l (i:Int) false ns):=by
 unfold Jg;refine (S.inn i ns r hi ah).bind fun p j b ns h1 h2 h3=>?_;exact azz l hl hn hc S M ah r i hM M j b _ _ _ _ _ _ _ ah (fun h=>by have:=h3 h;omega) h1 h2
def azB (hn:∀ k,kd l k≠1) (hc:∀ k,kd l k≠2) {M:Nat} (S:ou l M) (N:Nat) (hN:0 < N) (r:bn) (i:Nat) (hM:20*(l.length - i)+14<=M+1):∀ (n j:Nat) (b:Bool) (k0 o0:Int) (x0 y0:List UInt8) (eu:List aA) (tg:Bool) (ns:List (List UInt8)),0 < n->(b=false->l.length - j < n/\i < j)->i<=j->j<=l.length->Tt l i (yY N (aL M) l n (r,(j:Int),b,k0,o0,x0,y0,eu,tg,ns)):=by
 intro n;induction n with
 | zero=>intro j b k0 o0 x0 y0 eu tg ns h;omega
 | succ n ih=>
  intro j b k0 o0 x0 y0 eu tg ns _ hb h1 h2;rw [yY];cases b with
  | true=>exact .to h1 h2 fun h=>by cases h
  | false=>
   obtain ⟨hb1,hb2⟩:=hb rfl;rw [dN,aH,bL,av,av];cases ho:(kd l j==44) with
   | false=>exact .to h1 h2 fun _=>hb2
   | true=>
    have hjl:j < l.length:=dG (by rw [eq_of_beq ho];decide);rw [aH,dR h2 (show l.length<=100000 by omega),ahg l hl hn hc ns hjl (show 0 < N by omega),av];dsimp only;refine (S.an (j+1) ns r hjl ah).bind fun p j2 b2 qG g1 g2 g3=>?_;exact ih j2 b2 _ _ _ _ _ _ _ ah (fun h=>by have:=g3 h;omega) ah g2
def azC (hn:∀ k,kd l k≠1) (hc:∀ k,kd l k≠2) {M:Nat} (S:ou l M) (i:Nat) (ns:List (List UInt8)) (r:bn) (hi:i<=l.length) (hM:20*(l.length - i)+14<=M+1):Tt l i (Jh M (aL M) r l (i:Int) false ns):=by
 unfold Jh;refine (S.an i ns r hi ah).bind fun p j b ns h1 h2 h3=>?_;exact azB l hl hn hc S M ah r i hM M j b _ _ _ _ _ _ _ ah (fun h=>by have:=h3 h;omega) h1 h2
def azD (hn:∀ k,kd l k≠1) (hc:∀ k,kd l k≠2) {M:Nat} (S:ou l M) (N:Nat) (hN:0 < N) (r:bn) (i:Nat) (hM:20*(l.length - i)+17<=M+1):∀ (n j:Nat) (acc:List aA) (ns:List (List UInt8)),l.length - j < n->i<=j->j<=l.length->acc.length<=5->Tt l i (BD N (aL M) l n (r,(j:Int),false,acc,ns))/\∀ j' b ns',BD N (aL M) l n (r,(j:Int),false,acc,ns)≠some ([],j',b,ns'):=by
 intro n;induction n with
 | zero=>intro j acc ns h;omega
 | succ n ih=>
  intro j acc ns hb h1 h2 ha;rw [BD,dN,aH];obtain ⟨p,j2,b2,qG,e,g1,g2,g3⟩:=S.Jv j ns r h2 ah;rw [e,av,gL bT,av];have ne:acc++[p.tree]≠[]:=aF;have stop:∀ b:Bool,Tt l i (some (acc++[p.tree],(j2:Int),b2||b,qG))/\∀ j' b' ns',(some (acc++[p.tree],(j2:Int),b2||b,qG):Option _)≠some ([],j',b',ns'):=fun b=>⟨.to ah g2 fun h=>by
   have:b2=false:=by cases b2 with
    | false=>rfl
    | true=>cases h
   have:=g3 this;omega,fun j' b' ns' e=>by
   injection e with e;injection e with e _;exact ne e⟩
  cases b2 with
  | true=>exact stop false
  | false=>
   have:=g3 rfl;dsimp only;rw [aG,bL,av,av];cases ET:(kd l j2 !=36) with
   | true=>exact stop false
   | false=>
    have e36:kd l j2=36:=by simpa using ET
    have hjl:j2 < l.length:=dG ah;rw [aG];cases h6:(((acc++[p.tree]).length:Int)==6) with
    | true=>exact stop true
    | false=>
     have hlen:(acc++[p.tree]).length<=5:=by
      have: ¬(((acc++[p.tree]).length:Int)=6):=by simpa using h6
      simp only [jQ,fT,zA] at this ⊢;omega
     rw [aG,dR g2 (show l.length<=100000 by omega),ahg l hl hn hc qG hjl hN,av];exact ih (j2+1) _ qG ah ah hjl hlen
def azE (hn:∀ k,kd l k≠1) (hc:∀ k,kd l k≠2) {M:Nat} (S:ou l M) (i:Nat) (ns:List (List UInt8)) (r:bn) (hi:i<=l.length) (hM:20*(l.length - i)+17<=M+1):Tt l i (Tw M (aL M) r l (i:Int) false ns)/\∀ j b ns',Tw M (aL M) r l (i:Int) false ns≠some ([],j,b,ns'):=
 azD l hl hn hc S M ah r i hM M i [] ns ah (cZ _) hi aF
def azF {M:Nat} (S:ou l M) (i:Nat) (ns:List (List UInt8)) (en:Int) (hi:i<=l.length) (hen:en≠0) (hM:20*(l.length - i)+18<=M+1):Tt l i (Dn M (aL M) en l (i:Int) false ns)/\(kd l i≠33->∀ j b ns',Dn M (aL M) en l (i:Int) false ns≠some ([],j,b,ns')):=by
 unfold Dn;rw [bL,av];obtain ⟨⟨ts,j,b,qG,e,h1,h2,h3⟩,ne⟩:=S.it i ns ⟨false,false⟩ hi ah;obtain ⟨x,j3,b3,t1,t2,t3,t4⟩:=acB l hl en j b qG h2;have t3:j3<=l.length:=t3.resolve_right hen;have go:(((aL M).Dj ⟨false,false⟩ l (i:Int) false ns).bind fun r8=>(ug en l r8.2.1 r8.2.2.1 r8.2.2.2).bind fun bJ=>some (r8.1,bJ.2.1,bJ.2.2,r8.2.2.2))=some (ts,(j3:Int),b3,qG):=by
  rw [e,av];dsimp only;rw [t1,av]
 have rest:Tt l i (some (ts,(j3:Int),b3,qG))/\(kd l i≠33->∀ j b ns',(some (ts,(j3:Int),b3,qG):Option _)≠some ([],j,b,ns')):=⟨.to ah t3 fun h=>by have:=t4 h;omega,fun _ j' b' ns' e'=>by
  injection e' with e';injection e' with e' _;rw [e'] at e;exact ne _ _ _ e⟩
 cases h1:(kd l i==en) with
 | false=>rw [aG,av,aG,go];exact rest
 | true=>
  rw [aH,av];cases oK:(en==33) with
  | false=>rw [aG,go];exact rest
  | true=>
   have e1:=eq_of_beq h1;have e2:=eq_of_beq oK;have hlt:=dG (l:=l) (i:=i) (by rw [e1];exact hen);rw [aH,dR hi<|show l.length<=100000 by omega];exact ⟨.to ah hlt fun _=>ah,fun h=>absurd (e1.trans e2) h⟩
def azG {M:Nat} (N:Nat) (r:bn) (i:Nat) (q:List aA×Int×Bool×List (List UInt8)):∀ (n j:Nat) (b:Bool) (x:List UInt8) (ks:List aA),0 < n->(b=false->l.length - j < n/\i < j)->i<=j->j<=l.length->Tt l i (zS N (aL M) l n (r,q,(j:Int),b,x,ks)):=by
 intro n;induction n with
 | zero=>intro j b x ks h;omega
 | succ n ih=>
  intro j b x ks _ hb h1 h2;rw [zS];cases b with
  | true=>exact .to h1 h2 fun h=>by cases h
  | false=>
   obtain ⟨hb1,hb2⟩:=hb rfl;rw [dN,aH,bL,av];have back:Tt l i (some ((⟨(⟨13,0,x,[],ks⟩:aA),false⟩:dx),(j:Int),false,q.2.2.2)):=.to h1 h2 fun _=>hb2;cases iL:(kd l j==24) with
   | false=>exact back
   | true=>
    have hjl:j < l.length:=dG (by rw [eq_of_beq iL];decide);rw [aH,av];cases r.dh with
    | true=>exact back
    | false=>
     obtain ⟨y,j2,b2,n1,n2,n3,n4⟩:=acC l hl (j+1) q.2.2.2 hjl;rw [dN,aH,dR h2 (show l.length<=100000 by omega),n1,av];exact ih j2 b2 y _ ah (fun h=>by have:=n4 h;omega) ah n3
def azH {M:Nat} (N:Nat) (r:bn) (i:Nat) (q:dx×Int×Bool×List (List UInt8)):∀ (n j:Nat) (b:Bool) (x:List UInt8) (ks:List aA),0 < n->(b=false->l.length - j < n/\i < j)->i<=j->j<=l.length->Tt l i (yU N (aL M) l n (r,q,(j:Int),b,x,ks)):=by
 intro n;induction n with
 | zero=>intro j b x ks h;omega
 | succ n ih=>
  intro j b x ks _ hb h1 h2;rw [yU];cases b with
  | true=>exact .to h1 h2 fun h=>by cases h
  | false=>
   obtain ⟨hb1,hb2⟩:=hb rfl;rw [dN,aH,bL,av];have back:Tt l i (some ((⟨(⟨13,0,x,[],ks⟩:aA),false⟩:dx),(j:Int),false,q.2.2.2)):=.to h1 h2 fun _=>hb2;cases iL:(kd l j==24) with
   | false=>exact back
   | true=>
    have hjl:j < l.length:=dG (by rw [eq_of_beq iL];decide);rw [aH,av];cases r.dh with
    | true=>exact back
    | false=>
     obtain ⟨y,j2,b2,n1,n2,n3,n4⟩:=acC l hl (j+1) q.2.2.2 hjl;rw [dN,aH,dR h2 (show l.length<=100000 by omega),n1,av];exact ih j2 b2 y _ ah (fun h=>by have:=n4 h;omega) ah n3
def azI {M:Nat} (S:ou l M) (i:Nat) (ns:List (List UInt8)) (r:bn) (hi:i<=l.length) (hM:20*(l.length - i)+12<=M+1):Tt l i (BF M (aL M) r l (i:Int) false ns):=by
 unfold BF;rw [dN,aH,bL,av];have alone:∀ f:Bool->Option (dx×Int×Bool×List (List UInt8)),f false=(((aL M).yQ r l (i:Int) false ns).bind fun dw=>(bif (!dw.2.2.1) then (fu l dw.2.1 dw.2.2.1 dw.2.2.2).bind fun abH=>bif (abH==24) then some (!r.dh) else (some false) else (some false)).bind fun Xm=>bif Xm then (zO l (IntKind.wrap .i64<|dw.2.1+1) dw.2.2.1 dw.2.2.2).bind fun zU=>yU M (aL M) l M (r,dw,zU.2.1,zU.2.2,zU.1,[dw.1.tree]) else (some (dw.1,dw.2.1,dw.2.2.1,dw.2.2.2)))->Tt l i (Option.bind (some false) f):=fun f hf=>by
  rw [av,hf];refine (S.ma i ns r hi ah).bind fun p j b qG h1 h2 h3=>?_;have back:Tt l i (some (p,(j:Int),b,qG)):=.to h1 h2 h3;cases b with
  | true=>exact back
  | false=>
   have:=h3 rfl;dsimp only;rw [dN,aH,bL,av];cases iL:(kd l j==24) with
   | false=>exact back
   | true=>
    have hjl:j < l.length:=dG (by rw [eq_of_beq iL];decide);rw [aH,av];cases hr:r.dh with
    | true=>exact back
    | false=>
     obtain ⟨y,j2,b2,n1,n2,n3,n4⟩:=acC l hl (j+1) qG hjl;rw [dN,aH,dR h2 (show l.length<=100000 by omega),n1,av];exact azH l hl M r i _ M j2 b2 y _ ah (fun h=>by have:=n4 h;omega) ah n3
 cases h32:(kd l i==32) with
 | false=>exact alone _ rfl
 | true=>
  have e32:=eq_of_beq h32;have hlt:=dG (l:=l) (i:=i) (by rw [e32];decide);rw [aH];cases hr:r.dh with
  | true=>rw [hr] at alone;exact alone _ rfl
  | false=>
   rw [hr] at alone;obtain ⟨c,c1,c2⟩:=aze hl (show l.length - i < M by omega) ns e32;rw [dN,aH,c1,av];cases c with
   | false=>exact alone _ rfl
   | true=>
    obtain ⟨⟨ts,j,b,qG,e,h1,h2,h3⟩,ne⟩:=S.ls (i+1) ns 33 hlt aD ah;rw [av,aH,dR hi (show l.length<=100000 by omega),e,av];have nn:ts≠[]:=fun h=>by rw [h] at e;exact ne (c2 rfl) _ _ _ e
    cases b with
    | true=>exact .to ah h2 fun h=>by cases h
    | false=>
     have:=h3 rfl;dsimp only;rw [dN,aH,bL,av,av];cases iL:(kd l j !=24) with
     | true=>exact ahe (α:=dx) l hl false qG ah h2
     | false=>
      have e24:kd l j=24:=by simpa using iL
      have XZ:(kd l j==24)=true:=by rw [e24];rfl
      have hjl:j < l.length:=dG (by rw [e24];decide);obtain ⟨y,j2,b2,n1,n2,n3,n4⟩:=acC l hl (j+1) qG hjl;have hne:∃ v,neN ts=some v:=by
       cases ts with
       | nil=>exact absurd rfl nn
       | cons=>exact ⟨_,rfl⟩
      obtain ⟨v,hv⟩:=hne;rw [aG,aH,av,XZ,aH,av,aH,hv,av,dR h2 (show l.length<=100000 by omega),n1,av];exact azG l hl M r i _ M j2 b2 y _ ah (fun h=>by have:=n4 h;omega) ah n3
def aoh (hn:∀ k,kd l k≠1) (hc:∀ k,kd l k≠2):∀ M:Nat,ou l M
 | 0=>by
  constructor<;>(intros;omega)
 | M+1=>by
  have S:=aoh hn hc M;exact ⟨fun i ns r h g=>azy l hl S i ns r h g,fun i ns r h g=>azx l hl S i ns r h g,fun i ns r h g=>azC l hl hn hc S i ns r h g,fun i ns r h g=>azA l hl hn hc S i ns r h g,fun i ns r h g=>azI l hl S i ns r h g,fun i ns r h g=>azw l hl S i ns r h g,fun i ns r h g=>azv l hl S i ns r h g,fun i ns r h g=>azu l hl S i ns r h g,fun i ns r h g=>azs l hl S i ns r h g,fun i ns r h g=>azq l hl S i ns r h g,fun i ns r h g=>azo l hl S i ns r h g,fun i ns r h g=>azn l hl S i ns r h g,
   fun i ns h g=>azm l hl S i ns h g,fun i ns h g=>azk l hl S i ns h g,fun i ns h g=>azj l hl S i ns h g,fun i ns h g=>azi l hl S i ns h g,fun i ns h g=>azl l hl S i ns h g,fun i ns h g=>azh l hl S i ns h g,fun i ns r h g=>azE l hl hn hc S i ns r h g,fun i ns en h h0 g=>azF l hl S i ns en h h0 g⟩
end
def ku (x' x:List aC):Prop:=∀ (d' d:Nat) (y' y:List aC),d'<=d->(fK d y=true->fK d' y'=true)->fK d (x++y)=true->fK d' (x'++y')=true
def ku.nil:ku [] []:=fun d' d y' y _ h g=>h g
def ku.app {x' x y' y:List aC} (h:ku x' x) (g:ku y' y):ku (x'++y') (x++y):=fun d' d z' z hd hz hx=>by
 rw [kC] at hx ⊢;exact h d' d _ _ hd (g d' d z' z hd hz) hx
def aoi {t:aC} (h:jL t.Kind=true) (d:Nat) (y:List aC):fK d (t::y)=(decide (d+1<=40)&&fK (d+1) y):=by
 have:om d t.Kind=d+1:=by unfold om;rw [h,(Pf h).1];rfl
 rw [fK,this]
def aoj {t:aC} (h:lS t.Kind=true) (d:Nat) (y:List aC):fK (d+1) (t::y)=(decide (d<=40)&&fK d y):=by
 have ho:jL t.Kind=false:=by
  cases ho:jL t.Kind with
  | false=>rfl
  | true=>rw [(Pf ho).1] at h;cases h
 have:om (d+1) t.Kind=d:=by unfold om;rw [h,ho];rfl
 rw [fK,this]
def ku.tok {t:aC} (h:jL t.Kind=false/\lS t.Kind=false):ku [t] [t]:=fun d' d y' y hd hy hx=>by
 have e:∀ d z,fK d ([t]++z)=(decide (d<=40)&&fK d z):=fun d z=>by
  show fK d (t::z)=_;have:om d t.Kind=d:=by unfold om;rw [h.1,h.2];rfl
  rw [fK,this]
 rw [e] at hx ⊢;simp only [dL,lG] at hx ⊢;exact ⟨ah,hy hx.2⟩
def ku.cons {t:aC} {x' x:List aC} (h:jL t.Kind=false/\lS t.Kind=false) (g:ku x' x):ku (t::x') (t::x):=ku.app (x':=[t]) (x:=[t]) (.tok h) g
def ku.wrap {o c:aC} {x' x:List aC} (ho:jL o.Kind=true) (hc:lS c.Kind=true) (g:ku x' x):ku (o::(x'++[c])) (o::(x++[c])):=fun d' d y' y hd hy hx=>by
 rw [wm,kC,aoi ho] at hx ⊢;simp only [dL,lG] at hx ⊢;refine ⟨ah,g (d'+1) (d+1) _ _ ah (fun h=>?_) hx.2⟩;show fK (d'+1) (c::y')=true;have h:fK (d+1) (c::y)=true:=h;rw [aoj hc] at h ⊢;simp only [dL,lG] at h ⊢;exact ⟨ah,hy h.2⟩
def ku.azJ {x' x:List aC} (g:ku x' x):ku x' (sg 32::(x++[sg 33])):=fun d' d y' y hd hy hx=>by
 rw [wm,kC,aoi rfl] at hx;simp only [dL,lG] at hx;refine g d' (d+1) _ _ ah (fun h=>?_) hx.2;have h:fK (d+1) (sg 33::y)=true:=h;rw [aoj rfl] at h;simp only [dL,lG] at h;exact hy h.2
def Pw (R:List aC->List aC->Prop):List (List aC)->List (List aC)->Prop
 | [],[]=>True
 | x::xs,y::ys=>R x y/\Pw R xs ys
 | _,_=>False
def Pw.len {R:List aC->List aC->Prop}:∀ {a b:List (List aC)},Pw R a b->a.length=b.length
 | [],[],_=>rfl
 | _::_,_::_,h=>by rw [fT,fT,Pw.len h.2]
 | [],_::_,h=>h.elim
 | _::_,[],h=>h.elim
def ku.getD:∀ {a b:List (List aC)},Pw ku a b->∀ j,ku (a.getD j []) (b.getD j [])
 | [],[],_,j=>by simp;exact .nil
 | x::xs,y::ys,h,0=>h.1
 | x::xs,y::ys,h,j+1=>by rw [List.getD_cons_succ,List.getD_cons_succ];exact ku.getD h.2 j
 | [],_::_,h,_=>h.elim
 | _::_,[],h,_=>h.elim
def aok:∀ {a b:List (List aC)} (c:Bool),Pw ku a b->ku (bW c a) (bW c b)
 | [],[],c,_=>by rw [bW];exact .nil
 | x::xs,y::ys,c,h=>by
  rw [bW,bW];refine .app ?_ (.app h.1<|aok true h.2);cases c with
  | false=>exact .nil
  | true=>exact .tok ⟨rfl,rfl⟩
 | [],_::_,_,h=>h.elim
 | _::_,[],_,h=>h.elim
def aol {o:Int} (h:Jz o=true):jL o=false/\lS o=false:=by
 unfold Jz at h;simp only [dL,kX] at h;exact ⟨h.1,h.2.1⟩
def azK (k o:Int) (x:List UInt8) (ks:List aA) (g:GN ⟨k,o,x,[],ks⟩) (c:CN ⟨k,o,x,[],ks⟩) (l1 l2:List (List aC)) (h:Pw ku l1 l2):ku (fG k o x l1) (fG k o x l2):=by
 have d:=ku.getD h;have li:=aok false h;have hl:=h.len;rcases kinds g.e with e|e|e|e|e|e|e|e|e|e|e|e|e|e|e<;>(have e:k=_:=e;subst e)
 .exact .tok ⟨rfl,rfl⟩
 .exact .tok ⟨rfl,rfl⟩
 .exact .tok ⟨rfl,rfl⟩
 .exact .tok ⟨rfl,rfl⟩
 .exact .cons ⟨rfl,rfl⟩ (.wrap (o:=sg 34) (c:=sg 35) rfl rfl li)
 .exact .cons ⟨rfl,rfl⟩ (d 0)
 .exact .cons ⟨rfl,rfl⟩ (.wrap (o:=sg 32) (c:=sg 33) rfl rfl li)
 .exact .cons ⟨rfl,rfl⟩ (.wrap (o:=sg 32) (c:=sg 33) rfl rfl li)
 .have:o=51\/o=52:=c.k9 (.inl rfl);rcases this with rfl|rfl<;>exact .cons ⟨rfl,rfl⟩ (d 0)
 .have:o=51\/o=52:=c.k9 (.inr rfl);rcases this with rfl|rfl<;>exact .app (d 0) (.tok ⟨rfl,rfl⟩)
 .have:o=55\/o=56\/o=61:=c.k11 rfl;rcases this with rfl|rfl|rfl<;>exact .cons ⟨rfl,rfl⟩ (d 0)
 .refine .app (d 0) (.app ?_ (d 1));cases iF:(o==99) with
  | true=>exact .nil
  | false=>
   have ho:bg o≠0:=g.lv;exact .tok (aol<|aom ho)
 .refine .app (x':=bif decide (l1.length > 1) then sg 32::(bW false l1++[sg 33]) else l1.getD 0 []) (x:=bif decide (l2.length > 1) then sg 32::(bW false l2++[sg 33]) else l2.getD 0 []) ?_ (.cons ⟨rfl,rfl⟩<|.tok ⟨rfl,rfl⟩);rw [hl];cases decide (l2.length > 1) with
  | true=>exact .wrap rfl rfl li
  | false=>exact d 0
 .exact .app (d 0) (.cons ⟨rfl,rfl⟩<|.app (d 1)<|.cons ⟨rfl,rfl⟩<|d 2)
 .refine .app (d 0) (.app ?_ (d 1));cases iF:(o==99) with
  | true=>exact .nil
  | false=>
   have hk:nM o=true:=c.k15 rfl;exact .tok (aol<|aon hk)
def azL:∀ t:aA,allT AN t->(∀ p q,okB t p->ku (fJ t) (lU true (strip t) q))/\∀ p q,ko t p->ku (aI t) (gq true (strip t) q):=by
 intro t;induction t using nN with
 | h t ih=>
  intro ha;have ak:=nO ha;have a:=mD ha;have hN:∀ p q,okB t p->ku (fJ t) (lU true (strip t) q):=fun p q h=>by
   rw [Gv] at h;have key:∀ (ts:List aA) (j:Nat),(∀ u,u∈ts->u∈t.kids)->(∀ u,j=0->ts[0]?=some u->t.kids[0]?=some u)->ji t.kind t.op t.kids.length j p ts->Pw ku (ts.map aI) (dI true t.kind t.op t.kids.length j q<|ts.map strip):=by
    intro ts;induction ts with
    | nil=>
     intro j _ _ _;show Pw ku [] (dI true t.kind t.op t.kids.length j q []);rw [dI];trivial
    | cons u ts ih2=>
     intro j hm h0 h;rw [jA] at h;have hu:=hm u aF;show Pw ku (aI u::ts.map aI) (dI true t.kind t.op t.kids.length j q<|strip u::ts.map strip);rw [rD];refine ⟨?_,ih2 (j+1) (fun v hv=>hm v<|by simp [hv]) (fun v h=>ah) h.2⟩;unfold jM;cases ht:tgt t.kind j with
     | false=>exact (ih u hu<|ak u hu).2 _ _ h.1
     | true=>
      obtain ⟨q1,q2⟩:=agP ht;have hp:=a.lf u (h0 u q1 rfl) q2;rcases h.1 with ⟨g,_⟩|⟨_,_,g⟩
      .rw [hp] at g;cases g
      .have:=(ih u hu<|ak u hu).1 _ (dJ t.kind t.op t.kids.length j q) g;unfold aI;rw [hp];exact this
   have pk:=key t.kids 0 (fun u hu=>hu) (fun u _ h=>h) h.2;obtain ⟨k,o,x,y,ks⟩:=t;rw [uy,h.1,aG,zf,Jq];show ku (fG k o x<|ks.map aI) (fG k o x<|dI true k o (ks.map strip).length 0 q<|ks.map strip);rw [mE];exact azK k o x ks a.gn a.c _ _ pk
  refine ⟨hN,fun p q h=>?_⟩;have e:gq true (strip t) q=qj (lv t.kind t.op !=15||t.kind==4) (lU true (strip t) q) (lU true (strip t) bG):=by
   unfold gq BK;rw [Dv,TL];rfl
  rw [e];unfold aI;rcases h with ⟨h1,h2⟩|⟨h1,_,h2⟩
  .rw [h1,a.fp h1];exact .wrap rfl rfl (hN _ _ h2)
  .rw [h1];cases (lv t.kind t.op !=15||t.kind==4) with
   | false=>exact hN _ _ h2
   | true=>exact .azJ (hN _ _ h2)
def NN (x:List aC):Prop:=∀ t,t∈x->t.Kind≠1/\t.Kind≠2
def NN.nil:NN []:=fun t h=>by cases h
def NN.app {x y:List aC} (hx:NN x) (hy:NN y):NN (x++y):=fun t h=>by
 rcases jo.1 h with h|h
 .exact hx t h
 .exact hy t h
def NN.one {t:aC} (h:t.Kind≠1/\t.Kind≠2):NN [t]:=fun u hu=>by rw [nG.1 hu];exact h
def NN.cons {t:aC} {x:List aC} (h:t.Kind≠1/\t.Kind≠2) (hx:NN x):NN (t::x):=.app (x:=[t]) (.one h) hx
def NN.sg {k:Int} (h:k≠1/\k≠2):NN [sg k]:=.one h
def NN.getD {l:List (List aC)} (h:∀ x,x∈l->NN x) (j:Nat):NN (l.getD j []):=by
 rw [Hl];cases e:l[j]? with
 | none=>exact .nil
 | some x=>exact h x (nT e)
def aoo:∀ (l:List (List aC)) (b:Bool),(∀ x,x∈l->NN x)->NN (bW b l)
 | [],b,_=>by rw [bW];exact .nil
 | x::l,b,h=>by
  rw [bW];refine .app ?_ (.app (h x aF)<|aoo l true fun y hy=>h y<|by simp [hy]);cases b with
  | false=>exact .nil
  | true=>exact .sg aD
def NN.par {b:Bool} {x y:List aC} (hx:NN x) (hy:NN y):NN (qj b x y):=by
 cases b with
 | false=>exact hx
 | true=>exact .cons aD (.app hy<|.sg aD)
def azM (t:aA) (g:GN t) (c:CN t) (l:List (List aC)) (h:∀ x,x∈l->NN x):NN (fG t.kind t.op t.text l):=by
 obtain ⟨k,o,x,y,ks⟩:=t;have d:=NN.getD h;have li:=aoo l false h;have n6:(6:Int)≠1/\(6:Int)≠2:=aD;rcases kinds g.e with e|e|e|e|e|e|e|e|e|e|e|e|e|e|e<;>(have e:k=_:=e;subst e)
 .exact .one n6
 .exact .one (t:=⟨3,x,0⟩) (by show (3:Int)≠1/\(3:Int)≠2;decide)
 .exact .one (t:=⟨4,x,0⟩) (by show (4:Int)≠1/\(4:Int)≠2;decide)
 .exact .one (t:=⟨5,x,0⟩) (by show (5:Int)≠1/\(5:Int)≠2;decide)
 .exact .cons n6 (.cons aD<|.app li<|.sg aD)
 .exact .cons aD (d 0)
 .exact .cons (t:=⟨7,x,0⟩) (by show (7:Int)≠1/\(7:Int)≠2;decide) (.cons aD<|.app li<|.sg aD)
 .exact .cons (t:=⟨8,x,0⟩) (by show (8:Int)≠1/\(8:Int)≠2;decide) (.cons aD<|.app li<|.sg aD)
 .have:o=51\/o=52:=c.k9 (.inl rfl);exact .cons (t:=sg o) (by show o≠1/\o≠2;omega) (d 0)
 .have:o=51\/o=52:=c.k9 (.inr rfl);exact .app (d 0) (.sg (k:=o) ⟨ah,ah⟩)
 .have:o=55\/o=56\/o=61:=c.k11 rfl;exact .cons (t:=sg o) (by show o≠1/\o≠2;omega) (d 0)
 .refine .app (d 0) (.app ?_ (d 1));cases iF:(o==99) with
  | true=>exact .nil
  | false=>
   have ho:bg o≠0:=g.lv;refine .sg ⟨fun e=>?_,fun e=>?_⟩<;>(subst e;exact ho rfl)
 .refine .app (x:=bif decide (l.length > 1) then sg 32::(bW false l++[sg 33]) else l.getD 0 []) ?_ (.cons aD<|.one n6);cases decide (l.length > 1) with
  | true=>exact .cons aD (.app li<|.sg aD)
  | false=>exact d 0
 .exact .app (d 0) (.cons aD<|.app (d 1)<|.cons aD<|d 2)
 .refine .app (d 0) (.app ?_ (d 1));cases iF:(o==99) with
  | true=>exact .nil
  | false=>
   have hk:nM o=true:=c.k15 rfl;have:=LD hk;exact .sg (k:=o) ⟨ah,ah⟩
def aop (f:Bool):∀ t:aA,allT GN t->allT CN t->∀ p,NN (lU f t p):=by
 intro t;induction t using nN with
 | h t ih=>
  intro hg hc p;rw [Jq];refine azM t (mD hg) (mD hc) _ ?_;have key:∀ (ts:List aA) (j:Nat),(∀ u,u∈ts->u∈t.kids)->∀ x,x∈dI f t.kind t.op t.kids.length j p ts->NN x:=by
   intro ts;induction ts with
   | nil=>intro j _ x hx;rw [dI] at hx;cases hx
   | cons u ts ih2=>
    intro j hm x hx;rw [rD] at hx;rcases fF.1 hx with rfl|hx
    .have hu:=hm u aF;have hB:=ih u hu (nO hg u hu) (nO hc u hu);unfold jM gq;cases tgt t.kind j with
     | true=>exact hB _
     | false=>exact NN.par (hB _) (hB _)
    .exact ih2 (j+1) (fun v hv=>hm v<|by simp [hv]) x hx
  exact key t.kids 0 fun u hu=>hu
def asw (f:Bool) (t:aA) (hg:allT GN t) (hc:allT CN t) (p:aN):NN (gq f t p):=by
 unfold gq;exact NN.par (aop f t hg hc p) (aop f t hg hc bG)
mutual
def aoq:∀ (t t':aA) (b:Nat),bN b t=bN b t'->t=t'
 | ⟨k,o,x,y,ks⟩,⟨k',o',x',y',ks'⟩,b,h=>by
  rw [bN,bN] at h;obtain ⟨h1,h2⟩:=List.append_inj' h rfl;simp only [List.cons.injEq,aK.mk.injEq,and_true] at h2;obtain ⟨rfl,rfl,rfl,rfl,h3⟩:=h2;rw [aor ks ks' b h1 h3]
def aor:∀ (ts ts':List aA) (b:Nat),jB b ts=jB b ts'->lW b ts=lW b ts'->ts=ts'
 | [],[],b,_,_=>rfl
 | [],t'::ts',b,_,h=>by simp [lW] at h
 | t::ts,[],b,_,h=>by simp [lW] at h
 | t::ts,t'::ts',b,h1,h2=>by
  rw [lW,lW] at h2;injection h2 with e1 e2;have e:aZ t=aZ t':=ah;rw [jB,jB] at h1;obtain ⟨g1,g2⟩:=List.append_inj h1 (by rw [BM,BM,e]);rw [<- e] at g2 e2;rw [aoq t t' b g1,aor ts ts' _ g2 e2]
end
def rG:Nat->List aC->Nat->Option Nat
 | _,[],_=>none
 | d,t::r,j=>bif t.Kind==32 then rG (d+1) r (j+1) else bif t.Kind==33 then (bif d==1 then some j else rG (d - 1) r (j+1)) else rG d r (j+1)
def pos:Bool->List aC->Nat->List cO
 | _,[],_=>[]
 | b,t::r,i=>(bif t.Kind==32&&!b then (rG 1 r<|i+1).toList.map (fun k:Nat=>(⟨(i:Int),(k:Int)⟩:cO)) else [])++pos (jN t.Kind) r (i+1)
def rY (s:cO):List aC->Nat->List aC
 | [],_=>[]
 | t::r,j=>bif ((j:Int) !=s.From)&&((j:Int) !=s.To) then t::rY s r (j+1) else rY s r (j+1)
def ahi {i k j:Nat} (h1:i≠j) (h2:k≠j) (t:aC) (r:List aC):rY ⟨(i:Int),(k:Int)⟩ (t::r) j=t::rY ⟨(i:Int),(k:Int)⟩ r (j+1):=by
 have e1:((j:Int) !=(i:Int))=true:=by rw [bne_iff_ne];omega
 have e2:((j:Int) !=(k:Int))=true:=by rw [bne_iff_ne];omega
 rw [rY,e1,e2];rfl
def aos {i k j:Nat} (h:i=j\/k=j) (t:aC) (r:List aC):rY ⟨(i:Int),(k:Int)⟩ (t::r) j=rY ⟨(i:Int),(k:Int)⟩ r (j+1):=by
 have e:(((j:Int) !=(i:Int))&&((j:Int) !=(k:Int)))=false:=by
  rcases h with h|h<;>subst h<;>simp
 rw [rY,e];rfl
def aot:∀ (r:List aC) (i k j:Nat),i < j->k < j->rY ⟨(i:Int),(k:Int)⟩ r j=r
 | [],_,_,_,_,_=>by rw [rY]
 | t::r,i,k,j,h1,h2=>by rw [ahi ah ah,aot r i k (j+1) ah ah]
def ahj:∀ (r:List aC) (d j:Nat),(rG (d+1) r j=none/\iq d r=none)\/∃ (k:Nat) (r':List aC),rG (d+1) r j=some k/\iq d r=some r'/\j<=k/\∀ i:Nat,i < j->rY ⟨(i:Int),(k:Int)⟩ r j=r'
 | [],d,j=>.inl ⟨by rw [rG],by rw [iq]⟩
 | t::r,d,j=>by
  have go:∀ e:Nat,rG (d+1) (t::r) j=rG (e+1) r (j+1)->iq d (t::r)=(iq e r).map (fun z=>t::z)->(rG (d+1) (t::r) j=none/\iq d (t::r)=none)\/∃ (k:Nat) (r':List aC),rG (d+1) (t::r) j=some k/\iq d (t::r)=some r'/\j<=k/\∀ i:Nat,i < j->rY ⟨(i:Int),(k:Int)⟩ (t::r) j=r':=fun e e1 e2=>by
   rw [e1,e2];rcases ahj r e (j+1) with ⟨h1,h2⟩|⟨k,r',h1,h2,h3,h4⟩
   .exact .inl ⟨h1,by rw [h2];rfl⟩
   .refine .inr ⟨k,t::r',h1,by rw [h2];rfl,ah,fun i hi=>?_⟩;rw [ahi ah ah,h4 i ah]
  by_cases k1:t.Kind=32
  .exact go (d+1) (by rw [rG,k1];rfl) (XR k1 d r)
  .have e1:(t.Kind==32)=false:=by simpa using k1
   by_cases k2:t.Kind=33
   .cases d with
    | zero=>
     refine .inr ⟨j,r,by rw [rG,k2];rfl,(Gx k2 r).1,cZ _,fun i hi=>?_⟩;rw [aos<|.inr rfl,aot r i j (j+1) ah ah]
    | succ d=>exact go d (by rw [rG,k2];rfl) ((Gx k2 r).2 d)
   .have e2:(t.Kind==33)=false:=by simpa using k2
    exact go d (by rw [rG,e1,e2];rfl) (XT k1 k2 d r)
def adE:∀ (r:List aC) (b:Bool) (j:Nat),(pos b r j).map (fun s=>rY s r j)=fZ b r/\∀ s,s∈pos b r j->∃ i k:Nat,s=⟨(i:Int),(k:Int)⟩/\j<=i/\j<=k
 | [],b,j=>⟨by rw [pos,fZ];rfl,fun s h=>by rw [pos] at h;cases h⟩
 | t::r,b,j=>by
  obtain ⟨h1,h2⟩:=adE r (jN t.Kind) (j+1);have e2:(pos (jN t.Kind) r<|j+1).map (fun s=>rY s (t::r) j)=(fZ (jN t.Kind) r).map fun z=>t::z:=by
   rw [<- h1,nW];refine qx fun s hs=>?_;obtain ⟨i,k,rfl,g1,g2⟩:=h2 s hs;exact ahi ah ah t r
  rw [pos,fZ];constructor
  .rw [vZ,e2];congr 1;cases (t.Kind==32&&!b) with
   | false=>rfl
   | true=>
    rw [aH,aH];rcases ahj r 0 (j+1) with ⟨g1,g2⟩|⟨k,r',g1,g2,g3,g4⟩
    .rw [g1,g2];rfl
    .rw [g1,g2];show [rY ⟨(j:Int),(k:Int)⟩ (t::r) j]=[r'];rw [aos<|.inl rfl,g4 j ah]
  .intro s hs;rcases jo.1 hs with hs|hs
   .cases hc:(t.Kind==32&&!b) with
    | false=>rw [hc] at hs;cases hs
    | true=>
     rw [hc,aH] at hs;rcases ahj r 0 (j+1) with ⟨g1,_⟩|⟨k,r',g1,_,g3,_⟩
     .rw [g1] at hs;cases hs
     .rw [g1] at hs;rw [nG.1 hs];exact ⟨j,k,rfl,cZ _,ah⟩
   .obtain ⟨i,k,e,g1,g2⟩:=h2 s hs;exact ⟨i,k,e,ah,ah⟩
def aou:∀ (r:List aC) (b:Bool) (j:Nat),(pos b r j).length<=r.length
 | [],b,j=>by rw [pos];exact cZ _
 | t::r,b,j=>by
  have:=aou r (jN t.Kind) (j+1);rw [pos,jQ,fT];have:(bif t.Kind==32&&!b then (rG 1 r<|j+1).toList.map (fun k:Nat=>(⟨(j:Int),(k:Int)⟩:cO)) else []).length<=1:=by
   cases (t.Kind==32&&!b) with
   | false=>exact Ct _
   | true=>
    rw [aH,mE];cases rG 1 r (j+1) with
    | none=>exact Ct _
    | some=>exact cZ _
  omega
def aov:∀ (r:List aC) (d:Nat) (r':List aC),iq d r=some r'->r'.length+1=r.length/\∀ t,t∈r'->t∈r
 | [],d,r',h=>by rw [iq] at h;cases h
 | t::r,d,r',h=>by
  have go:∀ e,(iq e r).map (fun z=>t::z)=some r'->r'.length+1=(t::r).length/\∀ u,u∈r'->u∈t::r:=fun e h=>by
   obtain ⟨z,h1,rfl⟩:=eD.1 h;obtain ⟨g1,g2⟩:=aov r e z h1;refine ⟨by rw [fT,fT,g1],fun u hu=>?_⟩;rcases fF.1 hu with rfl|hu
   .simp
   .simp [g2 u hu]
  by_cases k1:t.Kind=32
  .rw [XR k1] at h;exact go _ h
  .by_cases k2:t.Kind=33
   .cases d with
    | zero=>
     rw [(Gx k2 r).1] at h;cases h;exact ⟨rfl,fun u hu=>by simp [hu]⟩
    | succ d=>
     rw [(Gx k2 r).2] at h;exact go _ h
   .rw [XT k1 k2] at h;exact go _ h
def aow:∀ (r:List aC) (b:Bool) (r':List aC),r'∈fZ b r->r'.length+2=r.length/\∀ t,t∈r'->t∈r
 | [],b,r',h=>by rw [fZ] at h;cases h
 | t::r,b,r',h=>by
  rw [fZ] at h;rcases jo.1 h with h|h
  .cases hc:(t.Kind==32&&!b) with
   | false=>rw [hc] at h;cases h
   | true=>
    rw [hc,aH] at h;cases hx:iq 0 r with
    | none=>rw [hx] at h;cases h
    | some z=>
     rw [hx] at h;rw [nG.1 h];obtain ⟨g1,g2⟩:=aov r 0 z hx;exact ⟨by rw [fT];omega,fun u hu=>by simp [g2 u hu]⟩
  .obtain ⟨z,hz,rfl⟩:=jW.1 h;obtain ⟨g1,g2⟩:=aow r _ z hz;refine ⟨by rw [fT,fT];omega,fun u hu=>?_⟩;rcases fF.1 hu with rfl|hu
   .simp
   .simp [g2 u hu]
def He:Bool->List aC->Nat
 | _,[]=>0
 | b,t::ts=>(bif t.Kind==32&&!b then 1 else 0)+He (jN t.Kind) ts
def ajp:∀ (r:List aC) (b:Bool),Mt r->(fZ b r).length=He b r
 | [],b,_=>by rw [fZ,He];rfl
 | t::r,b,h=>by
  rw [fZ,He,jQ,mE,ajp r _ h.tl];congr 1;cases hc:(t.Kind==32&&!b) with
  | false=>rfl
  | true=>
   simp only [dL,mR] at hc;cases hx:iq 0 r with
   | none=>exact absurd hx (h [] t r rfl hc.1)
   | some z=>rfl
section
variable (N:Nat) (l:List aC) (hl:l.length<=3000)
include hl
theorem azN (i:Nat) (hi:i < l.length) (P:List cO) (hP:P.length<=i) (kI:(List aC×Int×List cO)->Option (List cO)):∀ (n j d:Nat),l.length - j < n->j<=l.length->1<=d->d<=j->xK N kI n (l,(i:Int),P,(d:Int),(j:Int))=kI (l,((i+1:Nat):Int),P++(rG d (l.drop j) j).toList.map fun k:Nat=>(⟨(i:Int),(k:Int)⟩:cO)):=by
 have w1:IntKind.wrap .i64 ((i:Int)+1)=((i+1:Nat):Int):=by rw [wrap64 ah ah];omega
 intro n;induction n with
 | zero=>intro j d h;omega
 | succ n ih=>
  intro j d hn hjl hd hdj;rw [xK];by_cases hj:j < l.length
  .have w2:IntKind.wrap .i64 ((j:Int)+1)=((j+1:Nat):Int):=by rw [wrap64 ah ah];omega
   rw [gJ hj,aH,bS hj,av,zB hj,rG];have go:∀ d':Nat,1<=d'->d'<=j+1->Dh N kI (xK N kI n) (l,(i:Int),(j:Int),P,(d':Int))=kI (l,((i+1:Nat):Int),P++(rG d' (l.drop<|j+1)<|j+1).toList.map fun k:Nat=>(⟨(i:Int),(k:Int)⟩:cO)):=fun d' h1 h2=>by
    unfold Dh;have e:((d':Int)==0)=false:=by rw [QJ];omega
    simp only [e,aG,w2];exact ih (j+1) d' ah ah ah h2
   cases h32:(l[j].Kind==32) with
   | true=>
    rw [aH,aH,wrap64 ah ah,show ((d:Int)+1)=((d+1:Nat):Int) by omega];exact go (d+1) ah ah
   | false=>
    rw [aG,aG];cases oK:(l[j].Kind==33) with
    | false=>exact go d hd ah
    | true=>
     rw [aH,aH,wrap64 ah ah];by_cases hd1:d=1
     .subst hd1;unfold Dh;have e:((((1:Nat):Int) - 1)==0)=true:=aD;simp only [e,aH];rw [gL bT,av];unfold Bt;simp only [w1];rfl
     .have e:(d==1)=false:=by simpa using hd1
      rw [e,aG,show ((d:Int) - 1)=((d - 1:Nat):Int) by omega];exact go (d - 1) ah ah
  .rw [iW hj,aG,AJ ah,rG];unfold Bt;simp only [w1];show _=kI (l,((i+1:Nat):Int),P++[]);rw [pQ]
theorem azO (hN:3001 < N):∀ (n i:Nat) (P:List cO) (b:Bool),l.length - i < n->i<=l.length->P.length<=i->(i=0->b=false)->(∀ j,i=j+1->∀ h:j < l.length,b=jN l[j].Kind)->uf N n (l,(i:Int),P)=some (P++pos b (l.drop i) i):=by
 intro n;induction n with
 | zero=>intro i P b h;omega
 | succ n ih=>
  intro i P b hn hi hP h0 h1;rw [uf];by_cases h:i < l.length
  .have w1:IntKind.wrap .i64 ((i:Int)+1)=((i+1:Nat):Int):=by rw [wrap64 ah ah];omega
   have next:∀ P':List cO,P'.length<=i+1->uf N n (l,((i+1:Nat):Int),P')=some (P'++pos (jN l[i].Kind) (l.drop<|i+1) (i+1)):=fun P' h'=>ih (i+1) P' _ ah ah h' ah fun j hj _=>by
    have:i=j:=ah;subst this;rfl
   have skip:Bt N (uf N n) (l,(i:Int),P)=some (P++pos (jN l[i].Kind) (l.drop<|i+1) (i+1)):=by
    unfold Bt;simp only [w1];exact next P ah
   have haf:IL l (i:Int)=some b:=by
    unfold IL;by_cases hi0:i=0
    .subst hi0;rw [h0 rfl];rfl
    .obtain ⟨j,rfl⟩:∃ j,i=j+1:=⟨i - 1,ah⟩
     have hj:j < l.length:=ah;rw [fU (show ((j+1:Nat):Int) > 0 by omega),aH,wrap64 ah ah,show ((j+1:Nat):Int) - 1=(j:Int) by omega,bS hj,h1 j rfl hj];simp only [av];unfold jN;cases (l[j].Kind==7)<;>rfl
   rw [gJ h,aH,bS h,av,zB h,pos];by_cases h32:l[i].Kind=32
   .have e:(l[i].Kind !=32)=false:=by rw [h32];rfl
    have e2:(l[i].Kind==32)=true:=by rw [h32];rfl
    rw [e,aG,haf,av,av,e2,rO];cases b with
    | true=>rw [aH];exact skip
    | false=>
     obtain ⟨N',rfl⟩:∃ k,N=k+1:=⟨N - 1,ah⟩
     rw [aG,xK,gJ h,aH,bS h,av,e2,aH];unfold Dh;have e3:(IntKind.wrap .i64 ((0:Int)+1)==0)=false:=aD;have e4:IntKind.wrap .i64 ((0:Int)+1)=((1:Nat):Int):=aD;simp only [e3,aG,w1,e4];rw [azN (N'+1) l hl i h P hP _ N' (i+1) 1 ah ah ah ah,next _ ?_]
     .rw [dN,aH,kC];rfl
     .rw [jQ,mE];cases rG 1 (l.drop<|i+1) (i+1) with
      | none=>show P.length+0<=_;omega
      | some=>show P.length+1<=_;omega
   .have e:(l[i].Kind !=32)=true:=by simpa using h32
    have e2:(l[i].Kind==32)=false:=by simpa using h32
    rw [e,aH,av,aH,e2,Ec,aG,uS];exact skip
  .rw [iW h,aG,AJ ah,pos,pQ]
theorem ajo (hN:3001 < N):SL N l=some (pos false l 0):=by
 have:=azO N l hl hN N 0 [] false ah ah aF (fun _=>rfl) (fun j h=>ah);rw [zC,uS] at this;exact this
theorem azP (s:cO):∀ (n i:Nat) (o:List aC),l.length - i < n->i<=l.length->o.length<=i->Jl N n (l,s,(i:Int),o)=some (o++rY s (l.drop i) i):=by
 intro n;induction n with
 | zero=>intro i o h;omega
 | succ n ih=>
  intro i o hn hi ho;rw [Jl];by_cases h:i < l.length
  .have w1:IntKind.wrap .i64 ((i:Int)+1)=((i+1:Nat):Int):=by rw [wrap64 ah ah];omega
   have e:(bif ((i:Int) !=s.From) then some ((i:Int) !=s.To) else some false)=some (((i:Int) !=s.From)&&((i:Int) !=s.To)):=by cases ((i:Int) !=s.From)<;>rfl
   rw [gJ h,aH,bS h,av,e,av,zB h,rY];cases (((i:Int) !=s.From)&&((i:Int) !=s.To)) with
   | true=>
    rw [aH,aH,gL bT,av];unfold Tz;simp only [w1];rw [ih (i+1) (o++[l[i]]) ah ah bT,kC];rfl
   | false=>
    rw [aG,aG];unfold Tz;simp only [w1];exact ih (i+1) o ah ah ah
  .rw [iW h,aG,AJ ah,rY,pQ]
theorem aox (hN:3001 < N) (s:cO):Xt N l s=some (rY s l 0):=by
 have:=azP N l hl s N 0 [] ah ah aF;rw [zC,uS] at this;exact this
end
def azQ (N:Nat) (a:List aC) (ha:a.length<=3000):∀ (n i c:Nat) (b:Bool),a.length - i < n->i<=a.length->c<=i->(i=0->b=false)->(∀ j,i=j+1->∀ h:j < a.length,b=jN a[j].Kind)->Gq N n (a,(c:Int),(i:Int))=some ((c+He b (a.drop i):Nat):Int):=by
 intro n;induction n with
 | zero=>intro i c b h;omega
 | succ n ih=>
  intro i c b hn hi hc h0 h1;rw [Gq];by_cases hlt:i < a.length
  .have k2:∀ c':Nat,c'<=i+1->TB N (Gq N n) (a,(i:Int),(c':Int))=some ((c'+He (jN a[i].Kind) (a.drop<|i+1):Nat):Int):=fun c' hc'=>by
    unfold TB;dsimp only;rw [wrap64 ah ah,show (i:Int)+1=((i+1:Nat):Int) by omega];exact ih (i+1) c' _ ah ah hc' ah fun j hj h=>by
     have:i=j:=ah;subst this;rfl
   have haf:IL a (i:Int)=some b:=by
    unfold IL;by_cases hi0:i=0
    .subst hi0;rw [h0 rfl];rfl
    .obtain ⟨j,rfl⟩:∃ j,i=j+1:=⟨i - 1,ah⟩
     have hj:j < a.length:=ah;rw [fU (show ((j+1:Nat):Int) > 0 by omega),aH,wrap64 ah ah,show ((j+1:Nat):Int) - 1=(j:Int) by omega,bS hj,h1 j rfl hj];simp only [av];unfold jN;cases (a[j].Kind==7)<;>rfl
   rw [gJ hlt,aH,bS hlt,av,zB hlt,He];cases (a[i].Kind==32) with
   | false=>
    simp only [aG,av,Ec];rw [k2 c ah,qM]
   | true=>
    simp only [aH,haf,av,rO];cases b with
    | true=>rw [kE,aG,aG,k2 c ah,qM]
    | false=>
     rw [dN,aH,aH,wrap64 ah ah,show (c:Int)+1=((c+1:Nat):Int) by omega,k2 (c+1) ah];congr 1;omega
  .rw [iW hlt,aG,AJ ah];rfl
def asA (N:Nat) (a:List aC) (ha:a.length<=3000) (hN:3000 < N):abM N a=some (He false a:Int):=by
 have:=azQ N a ha N 0 0 false ah ah ah (fun _=>rfl) (fun j h=>ah);rw [zC,qM] at this;exact this
def azR (N:Nat) (a b:List Int) (hl:a.length=b.length) (hm:a.length<=1048576):∀ (n i:Nat),a.length - i < n->i<=a.length->OQ N n (a,b,(i:Int))=some (decide<|a.drop i=b.drop i):=by
 intro n;induction n with
 | zero=>intro i h;omega
 | succ n ih=>
  intro i hn hi;rw [OQ];by_cases h:i < a.length
  .have h':i < b.length:=ah;simp only [gJ h,aH,bS h,bS h',av];rw [drop_cons h,drop_cons h'];by_cases he:a[i]=b[i]
   .have hb:(a[i] !=b[i])=false:=by simpa using he
    rw [hb,aG,Nh h (by simp only [maxLen];omega),ih (i+1) ah ah];simp only [List.cons.injEq,he,true_and]
   .have hb:(a[i] !=b[i])=true:=by simpa using he
    rw [hb,aH];simp only [List.cons.injEq,he,false_and,Ku]
  .have h': ¬i < b.length:=ah;simp only [iW h,aG];rw [drop_nil h,drop_nil h'];simp
def azS (N:Nat) (a b:List Int) (hm:a.length<=1048576) (hN:1048577 < N):Xu N a b=some (decide<|a=b):=by
 unfold Xu;by_cases hl:a.length=b.length
 .have e:((a.length:Int) !=(b.length:Int))=false:=by simp [hl]
  rw [e,aG];exact azR N a b hl hm N 0 ah ah
 .have e:((a.length:Int) !=(b.length:Int))=true:=bT;rw [e,aH];have:a≠b:=fun h=>hl (by rw [h]);simp [this]
def azT (N:Nat) (hN:1048577 < N) (x y:aK) (hk:x.Kids.length<=1048576):Xv N x y=some (decide<|x=y):=by
 obtain ⟨k,o,t,p,ks⟩:=x;obtain ⟨k',o',t',p',ks'⟩:=y;unfold Xv;rw [azS N ks ks' hk hN];have f:∀ {α:Type} [BEq α] [LawfulBEq α] {a b:α},a≠b->(a==b)=false:=fun h=>by simpa using h
 by_cases e1:k=k'
 .by_cases e2:o=o'
  .by_cases e3:t=t'
   .by_cases e4:p=p'
    .simp only [e1,e2,e3,e4,Hy,aH,av,aK.mk.injEq,true_and]
    .simp only [e1,e2,e3,Hy,aH,f e4,aG,av,aK.mk.injEq,e4,false_and,and_false,Ku]
   .simp only [e1,e2,Hy,aH,f e3,aG,av,aK.mk.injEq,e3,false_and,and_false,Ku]
  .simp only [e1,Hy,aH,f e2,aG,av,aK.mk.injEq,e2,false_and,and_false,Ku]
 .simp only [f e1,aG,av,aK.mk.injEq,e1,false_and,Ku]
def azU (N:Nat) (a b:List aK) (hN:1048577 < N) (hl:a.length=b.length) (hm:a.length<=1048576) (hk:∀ x,x∈a->x.Kids.length<=1048576):∀ (n i:Nat),a.length - i < n->i<=a.length->OT N n (b,a,(i:Int))=some (decide<|a.drop i=b.drop i):=by
 intro n;induction n with
 | zero=>intro i h;omega
 | succ n ih=>
  intro i hn hi;rw [OT];by_cases h:i < a.length
  .have h':i < b.length:=ah;simp only [gJ h,aH,bS h,bS h',av,azT N hN _ _<|hk _<|mQ h];rw [drop_cons h,drop_cons h'];by_cases he:a[i]=b[i]
   .rw [fU he,kE,aG,Nh h (by simp only [maxLen];omega),ih (i+1) ah ah];simp only [List.cons.injEq,he,true_and]
   .rw [nE he];simp only [List.cons.injEq,he,false_and,Ku,dN,aH]
  .have h': ¬i < b.length:=ah;simp only [iW h,aG];rw [drop_nil h,drop_nil h'];simp
def azV (N:Nat) (a b:List aK) (hN:1048577 < N) (hm:a.length<=1048576) (hk:∀ x,x∈a->x.Kids.length<=1048576):Xw N a b=some (decide<|a=b):=by
 unfold Xw abJ;by_cases hl:a.length=b.length
 .have e:((a.length:Int) !=(b.length:Int))=false:=by simp [hl]
  have:=azU N a b hN hl hm hk N 0 ah ah;rw [zC,zC] at this;rw [e,aG,show (0:Int)=((0:Nat):Int) from rfl,this,av]
 .have e:((a.length:Int) !=(b.length:Int))=true:=bT;rw [e,aH];have:a≠b:=fun h=>hl (by rw [h]);simp [this]
def NN.Yc {l:List aC} (h:NN l) (k:Nat):kd l k≠1/\kd l k≠2:=by
 by_cases hk:k < l.length
 .rw [lF hk];exact h _ (mQ hk)
 .unfold kd;rw [AA ah];decide
def azW (l:List aC) (hl:l.length<=3000) (j:Nat):∃ v,OC l (j:Int)=some v:=by
 unfold OC;by_cases h:j < l.length
 .rw [gJ h,aH,bS h];exact ⟨_,rfl⟩
 .rw [iW h,aG];by_cases h0:l.length=0
  .have e:((l.length:Int)==0)=true:=by simp [h0]
   rw [e];exact ⟨_,rfl⟩
  .have e:((l.length:Int)==0)=false:=by simp;intro e;simp [e] at h0
   rw [e,aG,wrap64 ah ah,show (l.length:Int) - 1=((l.length - 1:Nat):Int) by omega,bS<|show l.length - 1 < l.length by omega];exact ⟨_,rfl⟩
def azX (N:Nat) (hN:3000000<=N) (l:List aC) (hl:l.length<=3000) (hs:jG l) (hnn:NN l):∃ r,Jk N l bG=some r:=by
 obtain ⟨b,_,t2,_⟩:=ana N l ah hs;have hck:∃ c,OD N l=some c:=by
  cases b with
  | false=>exact ⟨⟨2,0⟩,by unfold OD;rw [t2];rfl⟩
  | true=>
   obtain ⟨c,c1,_⟩:=anV N l hl ah t2;exact ⟨c,c1⟩
 obtain ⟨c,hc⟩:=hck;unfold Jk;rw [agX,show posB bG=true from rfl,hc];simp only [av,kE,aG];cases (!((c.Kind==0)&&((c.At==0)&&true))) with
 | true=>exact ⟨_,rfl⟩
 | false=>
  rw [aG];obtain ⟨⟨t,tg⟩,j,b,ns,e,h1,h2,h3⟩:=(aoh l hl (fun k=>(hnn.Yc k).1) (fun k=>(hnn.Yc k).2) N).Jv 0 [] ⟨false,false⟩ ah ah;have e':Ji N bG l 0 false []=some (⟨t,tg⟩,(j:Int),b,ns):=by
   have e2:oW N ⟨false,false⟩ l 0 false []=some (⟨t,tg⟩,(j:Int),b,ns):=e;unfold Ji;show Option.bind (oW N ⟨false,false⟩ l 0 false []) _=_;rw [e2];rfl
  rw [e',av];cases b with
  | true=>
   obtain ⟨v,hv⟩:=azW l hl j;dsimp only;rw [aH,hv];exact ⟨_,rfl⟩
  | false=>
   obtain ⟨k,hh,q1,q2⟩:=aoe N l hl (fun k=>(hnn.Yc k).2) bG rfl t tg j ns e';have hq:=q2.lt;have hsz:=(aof l (k - 0) 0 k<|cZ _).2.1 _ _ _ q2;have e1:zV N t=some (aZ t:Int):=anO t N ah ah;have e2:zW N t=some (jU t:Int):=anW t N ah ah;have hL:Lu N t=some (bN 0 t):=agY N t ah ah;dsimp only;rw [aG];unfold Tx;rw [e1,av,e2,hL];cases decide ((aZ t:Int) > 400) with
   | true=>exact ⟨_,rfl⟩
   | false=>
    rw [aG,av];cases decide ((jU t:Int) > 40) with
    | true=>exact ⟨_,rfl⟩
    | false=>exact ⟨_,rfl⟩
def azY (N:Nat) (hN:3000000<=N) (l:List aC) (hl:l.length<=3000) (hs:jG l) (hnn:NN l):∃ (x:List aK) (b:Bool),Lv N l bG=some (x,b)/\(b=true->∃ t h,bV l bG 0 l.length t h/\x=bN 0 t):=by
 obtain ⟨⟨x,j,f⟩,hr⟩:=azX N hN l hl hs hnn;unfold Lv;rw [hr,av];dsimp only;cases hf:((f.Kind==0)&&((f.At==0)&&true)) with
 | false=>exact ⟨x,false,rfl,fun h=>by cases h⟩
 | true=>
  refine ⟨x,(j==(l.length:Int)),rfl,fun h=>?_⟩;simp only [dL,mR] at hf h;obtain ⟨fk,fa⟩:=f;have e1:fk=0:=hf.1;have e2:fa=0:=hf.2.1;subst e1 e2 h;exact azc N ah l hl (fun k=>(hnn.Yc k).2) bG rfl x hr
structure St (N:Nat) (t:aA) (A:aA):Prop where
 a:allT AN A
 s:strip A=t
 m:∀ u,u∈aI A->u∈gq true t bG
structure Full (N:Nat) (t:aA):Prop where
 sz:aZ t<=400
 dep:jU t<=40
 ok:ni N (gq true t bG)
 sm:jG (gq true t bG)
 nn:NN (gq true t bG)
 ns:fK 0 (gq true t bG)=true
def aoy (N:Nat) (hN:3000000<=N) {t A:aA} (F:Full N t) (S:St N t A) (hl:(aI A).length<=3000) (h:ko A bG):Lv N (aI A) bG=some (bN 0 t,true):=by
 have s:=S.s;subst s;obtain ⟨hh,d⟩:=ant (mD S.a).g (axK A S.a) (aI A) bG 0 rfl h (Sg.all _);rw [qM] at d;have adj:=(axg (aI A) _ 0 _<|cZ _).2.1 _ _ _ d;have e:=axj N _ hl ah adj.a fun u hu=>F.ok u (S.m u hu);obtain ⟨b,b1,b2,_⟩:=ana N (aI A) ah fun u hu=>F.sm u (S.m u hu);rw [b1] at e;rw [e] at b2;have hn:fK 0 (aI A)=true:=by
  have:=(azL A S.a).2 bG bG h 0 0 [] [] (cZ _) (fun h=>h);rw [pQ,pQ] at this;exact this F.ns
 obtain ⟨r,r1,r2,_⟩:=ayn N ah _ hl (strip A) hh d F.sz F.dep b2;rw [r2 hn] at r1;unfold Lv;rw [r1,av];dsimp only;have e0:((0:Int)==0&&((0:Int)==0&&true))=true:=rfl;rw [e0,aH,av,Hy]
def aAa (l:List aC):seg l 0 l.length=l:=by
 unfold seg;rw [zC];exact aea ah
def aAb (N:Nat) (hN:3000000<=N) {t A B:aA} (F:Full N t) (S:St N t A) (hl:(aI A).length<=3000) (h:ko A bG) (SB:St N t B) (hlB:(aI B).length<=3000) (s:cO) (hw:rY s (aI A) 0=aI B):∃ b,OU N (aI A) bG s=some b/\(b=true↔ko B bG):=by
 have w1:=aoy N hN F S hl h;have w2:=aox N (aI A) hl ah s;rw [hw] at w2;obtain ⟨y,two,w3,w4⟩:=azY N hN (aI B) hlB (fun u hu=>F.sm u<|SB.m u hu) (fun u hu=>F.nn u<|SB.m u hu);have hsz:=F.sz;have aJR:(bN 0 t).length=aZ t:=BM t 0;have hk:∀ x,x∈bN 0 t->x.Kids.length<=1048576:=fun x hx=>by
  have:=Yd t 0 x hx;omega
 have same:=azV N (bN 0 t) y ah ah hk;refine ⟨two&&decide (bN 0 t=y),?_,?_⟩
 .unfold OU;rw [w1,w2,av,av,w3,av];dsimp only;rw [aH,same];cases two<;>rfl
 .constructor
  .intro hb;simp only [dL,lG] at hb;obtain ⟨t',hh,d,e⟩:=w4 hb.1;have et:t=t':=aoq t t' 0 (by rw [hb.2,e]);subst et;rw [<- SB.s] at d;have nnB:NN (aI B):=fun u hu=>F.nn u (SB.m u hu);exact (axI (aI B) (fun k=>(nnB.Yc k).1) B SB.a).2 _ _ _ _ (aAa _) d
  .intro hB;have:=aoy N hN F SB hlB hB;rw [this] at w3;cases w3;simp
def aAd (N:Nat) (l:List aC) (P:List cO) (hP:P.length<=3000) (Q:Nat->Prop) (hc:∀ (k:Nat) (h:k < P.length),∃ b,OU N l bG P[k]=some b/\(b=true↔Q k)):∀ (n j:Nat),P.length - j < n->j<=P.length->(LA N 1 false false false false l n (P,(j:Int))=some (-1)/\∀ k,j<=k->k < P.length-> ¬Q k)\/∃ k,j<=k/\k < P.length/\Q k/\(∀ i,j<=i->i < k-> ¬Q i)/\LA N 1 false false false false l n (P,(j:Int))=some (k:Int):=by
 intro n;induction n with
 | zero=>intro j h;omega
 | succ n ih=>
  intro j hn hj;rw [LA];by_cases h:j < P.length
  .obtain ⟨b,b1,b2⟩:=hc j h;have b1':OU N l ⟨1,false,false,false,false⟩ P[j]=some b:=b1;unfold abK;rw [gJ h,aH,bS h,av,b1',av,av];cases b with
   | true=>exact .inr ⟨j,cZ _,h,b2.1 rfl,fun i h1 h2=>ah,rfl⟩
   | false=>
    have hq: ¬Q j:=fun hq=>by have:=b2.2 hq;cases this
    rw [aG,wrap64 ah ah,show (j:Int)+1=((j+1:Nat):Int) by omega];rcases ih (j+1) ah ah with ⟨h1,h2⟩|⟨k,h1,h2,h3,h4,h5⟩
    .refine .inl ⟨h1,fun k g1 g2=>?_⟩;by_cases e:k=j
     .subst e;exact hq
     .exact h2 k ah g2
    .refine .inr ⟨k,ah,h2,h3,fun i g1 g2=>?_,h5⟩;by_cases e:i=j
     .subst e;exact hq
     .exact h4 i ah g2
  .rw [iW h,aG];exact .inl ⟨rfl,fun k h1 h2=>ah⟩
def aAe (N:Nat) (hN:3000000<=N) {t:aA} (F:Full N t):∀ (n i:Nat) (A:aA),60 - i < n->i<=60->St N t A->BJ A bG->(aI A).length+2*i<=90->OV N n (bG,(i:Int),aI A)=some (gq false t bG):=by
 intro n;induction n with
 | zero=>intro i A h;omega
 | succ n ih=>
  intro i A hn hi S hg hl;have TU:i < 60:=ah;have hok:ko A bG:=(XP A S.a bG bG<|.self _).2 hg;have hP:=ajo N (aI A) ah ah;have hrm:=ayd A S.a;have hpm:=(adE (aI A) false 0).1;rw [hrm] at hpm;have hPl:=aou (aI A) false 0;have aJT:(pos false (aI A) 0).length=(pz A).length:=by
   have:=congrArg List.length hpm;rw [mE,mE] at this;exact this
  have at_:∀ (k:Nat) (h:k < (pos false (aI A) 0).length),rY (pos false (aI A) 0)[k] (aI A) 0=aI ((pz A)[k]' ah):=fun k h=>by
   have:=congrArg (fun z=>z[k]?) hpm;simp only [gD] at this;rw [fQ h,fQ<|show k < (pz A).length by omega] at this;exact kD this
  have sub:∀ v,v∈pz A->St N t v/\(aI v).length+2=(aI A).length:=fun v hv=>by
   have R:=axS A S.a v hv;have hm:aI v∈fZ false (aI A):=by rw [hrm];exact jW.2 ⟨v,hv,rfl⟩
   obtain ⟨g1,g2⟩:=aow (aI A) false _ hm;exact ⟨⟨R.a,R.s.trans S.s,fun u hu=>S.m u<|g2 u hu⟩,g1⟩
  rw [OV,fU (show (i:Int) < 60 by omega),aH,hP,av];have hix:=aAd N (aI A) (pos false (aI A) 0) ah (fun k=>∃ h:k < (pz A).length,ko (pz A)[k] bG) (fun k h=>by
   obtain ⟨SB,lB⟩:=sub _ (mQ<|show k < (pz A).length by omega);obtain ⟨b,b1,b2⟩:=aAb N hN F S ah hok SB ah _ (at_ k h);exact ⟨b,b1,fun hb=>⟨ah,b2.1 hb⟩,fun ⟨_,hk⟩=>b2.2 hk⟩) N 0 ah ah
  rcases hix with ⟨h1,h2⟩|⟨k,_,h2,⟨h3,hk⟩,h4,h5⟩
  .have h1':Xx N (pos false (aI A) 0) bG.Level bG.tV bG.bC bG.bE bG.iZ (aI A)=some (-1):=h1;rw [h1',av,fU (show (-1:Int) < 0 by decide),aH];unfold Xy;have:=axQ A S.a bG hg fun v hv hk=>by
    obtain ⟨k,hkl,rfl⟩:=List.getElem_of_mem hv;exact h2 k ah ah ⟨hkl,hk⟩
   rw [S.s] at this;rw [this]
  .have h5':Xx N (pos false (aI A) 0) bG.Level bG.tV bG.bC bG.bE bG.iZ (aI A)=some (k:Int):=h5;rw [h5',av,nE (show¬(k:Int) < 0 by omega),aG,bS h2,av,aox N (aI A) ah ah,av,at_ k h2];obtain ⟨SB,lB⟩:=sub _ (mQ h3);have esp:pz A=(pz A).take k++(pz A)[k]::(pz A).drop (k+1):=by
    rw [<- zB h3,List.take_append_drop]
   have hgB:=axP A S.a bG hg _ _ _ esp (fun v hv hv2=>by
    obtain ⟨i,hil,rfl⟩:=List.getElem_of_mem hv;rw [FD] at hil;rw [List.getElem_take] at hv2;exact h4 i ah ah ⟨ah,hv2⟩) hk
   rw [wrap64 ah ah,show (i:Int)+1=((i+1:Nat):Int) by omega];exact ih (i+1) _ ah ah SB hgB ah
def asx (N:Nat) (hN:3000000<=N) {t:aA} (F:Full N t) (hg:allT GN t) (hc:allT CN t) (hl:(gq true t bG).length<=90):Xz N (gq true t bG) bG=some (gq false t bG):=by
 have ea:=ajm t bG;have S:St N t (vV t):=⟨(adD t hg hc).2,(axT t hc).2,fun u hu=>by rw [<- ea];exact hu⟩
 unfold Xz abx;have ha:app 32 [] (gq true t bG)=some ([]++gq true t bG):=gL bT;rw [ha,av,av,uS,<- ea];exact aAe N hN F N 0 (vV t) ah ah S (axU t hg bG rfl).2 (by rw [ea];omega)
def SmS (L:List aK):Prop:=∀ x,x∈L->x.Kids.length<=20000/\x.Text.length<=20/\x.Other.length<=20
def ash {L:List aK} (h:SmS L):∀ x,x∈L->yF x:=fun x hx=>by
 obtain ⟨h1,h2,h3⟩:=h x hx;exact ⟨ah,ah,ah⟩
def Dr {α:Type} (b:List UInt8) (P:α->Prop) (x:Option (α×Int×Int)):Prop:=∃ a i h,x=some (a,i,h)/\P a/\0<=i/\i<=(b.length:Int)
def Dr.bind {α β:Type} {b:List UInt8} {P:α->Prop} {Q:β->Prop} {x:Option (α×Int×Int)} {f:α×Int×Int->Option (β×Int×Int)} (hx:Dr b P x) (hf:∀ a i h,P a->0<=i->i<=(b.length:Int)->Dr b Q (f (a,i,h))):Dr b Q (Option.bind x f):=by
 obtain ⟨a,i,h,rfl,h1,h2,h3⟩:=hx;exact hf a i h h1 h2 h3
def Dr.some {α:Type} {b:List UInt8} {P:α->Prop} {a:α} {i h:Int} (ha:P a) (h0:0<=i) (h1:i<=(b.length:Int)):Dr b P (some (a,i,h)):=⟨a,i,h,rfl,ha,h0,h1⟩
def Dr.imp {α:Type} {b:List UInt8} {P Q:α->Prop} {x:Option (α×Int×Int)} (hx:Dr b P x) (h:∀ a,P a->Q a):Dr b Q x:=by
 obtain ⟨a,i,k,rfl,h1,h2,h3⟩:=hx;exact ⟨a,i,k,rfl,h a h1,h2,h3⟩
def Dr.cond {α:Type} {b:List UInt8} {P:α->Prop} {c:Bool} {x y:Option (α×Int×Int)} (hx:c=true->Dr b P x) (hy:c=false->Dr b P y):Dr b P (bif c then x else y):=by
 cases c
 .exact hy rfl
 .exact hx rfl
def TW {α:Type} {b:List UInt8} {P:α->Prop} {x:Option (α×Int×Int)} (hx:Dr b P x):Dr b P (Option.bind x fun r=>Option.some (r.1,r.2.1,r.2.2)):=Dr.bind hx fun _ _ _ ha h0 h1=>Dr.some ha h0 h1
def acD (x:Int):0<=bits .and .i64 x 255/\bits .and .i64 x 255<=255:=by
 have e:bits .and .i64 x 255=IntKind.wrap .i64 (((BitVec.ofInt 64 x&&& BitVec.ofInt 64 255).toNat:Nat):Int):=rfl;have h:(BitVec.ofInt 64 x&&& BitVec.ofInt 64 255).toNat<=255:=by
  rw [BitVec.toNat_and];exact Nat.and_le_right
 rw [e,wrap64 ah ah];omega
section
set_option linter.unusedSectionVars false
variable (b:List UInt8) (hb:b.length<=1048576)
include hb
theorem Ye (i h:Int) (h0:0<=i) (h1:i<=(b.length:Int)):Dr b (fun x=>0<=x/\x<=255) (Ep b i h):=by
 unfold Ep Rv;refine Dr.cond (fun hc=>?_) fun hc=>?_
 .have hc:=nU hc;obtain ⟨n,rfl⟩:=qL h0;have hn:n < b.length:=ah;rw [bS hn,av];exact Dr.some (acD _) (by rw [wrap64 ah ah];omega) (by rw [wrap64 ah ah];omega)
 .exact Dr.some (acD _) h0 h1
theorem aoz {P:Int->Prop} {x n i h:Int} (hx:0<=x) (hn:0 < n) (h0:0<=i) (h1:i<=(b.length:Int)) (hP:∀ r,0<=r->r < n->P r):Dr b P ((KF x n).bind fun y=>some (y,i,h)):=by
 unfold KF;have:(n==0)=false:=bT;rw [this,aG,av];exact Dr.some (hP _ (adW _ hx)<|adS _ hn) h0 h1
theorem GA (n i h:Int) (h0:0<=i) (h1:i<=(b.length:Int)):Dr b (fun r=>0<=r/\(r < n\/n<=0/\r=0)) (jJ n b i h):=by
 unfold jJ;refine Dr.cond (fun hc=>?_) fun hc=>Dr.cond (fun hc2=>?_) fun hc2=>?_
 .have hc:=nU hc;exact Dr.some ⟨ah,.inr ⟨hc,rfl⟩⟩ h0 h1
 .have hc:=QG hc;exact Dr.bind (Ye b hb i h h0 h1) fun x i h hx h0 h1=>aoz b hb hx.1 ah h0 h1 fun r g1 g2=>⟨g1,.inl g2⟩
 .have hc:=QG hc;refine Dr.bind (Ye b hb i h h0 h1) fun x i h hx h0 h1=>Dr.bind (Ye b hb i h h0 h1) fun y i h hy h0 h1=>Dr.bind (Ye b hb i h h0 h1) fun z i h hz h0 h1=>Dr.bind (Ye b hb i h h0 h1) fun w i h hw h0 h1=>?_;refine aoz b hb ?_ ah h0 h1 fun r g1 g2=>⟨g1,.inl g2⟩
  dsimp only;rw [wrap64 (n:=x*16777216) ah ah,wrap64 (n:=y*65536) ah ah,wrap64 (n:=x*16777216+y*65536) ah ah,wrap64 (n:=z*256) ah ah,wrap64 (n:=x*16777216+y*65536+z*256) ah ah,wrap64 ah ah];omega
theorem aAg {P:List UInt8->Prop} (l:List (List UInt8)) (i h:Int) (h0:0<=i) (h1:i<=(b.length:Int)) (hl:0 < l.length) (hP:∀ x,x∈l->P x):Dr b P (vg l b i h):=by
 unfold vg;refine Dr.bind (GA b hb _ i h h0 h1) fun r i h hr h0 h1=>?_;obtain ⟨n,rfl⟩:=qL hr.1;have hn:n < l.length:=by rcases hr.2 with h|h<;>omega
 dsimp only;have e:ix l (n:Int)=some l[n]:=bS hn;rw [e,av];exact Dr.some (hP _<|mQ hn) h0 h1
theorem aAh (n i h:Int) (h0:0<=i) (h1:i<=(b.length:Int)):Dr b (fun _=>True) (zI n b i h):=Dr.bind (GA b hb _ i h h0 h1) fun _ _ _ _ h0 h1=>Dr.some trivial h0 h1
theorem aoA {P:Int->Prop} (l:List Int) (i h:Int) (h0:0<=i) (h1:i<=(b.length:Int)) (hl:0 < l.length) (hP:∀ x,x∈l->P x):Dr b P (Bd l b i h):=by
 unfold Bd;refine Dr.bind (GA b hb _ i h h0 h1) fun r i h hr h0 h1=>?_;obtain ⟨n,rfl⟩:=qL hr.1;have hn:n < l.length:=by rcases hr.2 with h|h<;>omega
 dsimp only;have e:ix l (n:Int)=some l[n]:=bS hn;rw [e,av];exact Dr.some (hP _<|mQ hn) h0 h1
theorem aoB (m:Nat) (l:List (List UInt8)) (i h:Int) (h0:0<=i) (h1:i<=(b.length:Int)) (hl:0 < l.length) (hP:(l.all fun x=>decide<|x.length<=m)=true):Dr b (fun x=>x.length<=m) (vg l b i h):=
 aAg b hb l i h h0 h1 hl fun x hx=>nU (kW.1 hP x hx)
def pw:Nat->Nat
 | 0=>1
 | n+1=>4*pw n
omit hb in
theorem ahm:∀ n,1<=pw n
 | 0=>by rw [pw];omega
 | n+1=>by have:=ahm n;rw [pw];omega
end
def lcA:Int:=6364136223846793005
def lcC:Int:=1442695040888963407
def lc (x:Int):Int:=x*lcA+lcC
def qH:Nat->Int->Int
 | 0,x=>x
 | n+1,x=>qH n (lc x)
def Yf:∀ (m n:Nat) (x:Int),qH (m+n) x=qH n (qH m x)
 | 0,n,x=>by rw [qM];rfl
 | m+1,n,x=>by
  rw [show m+1+n=(m+n)+1 by omega];show qH (m+n) (lc x)=qH n (qH m<|lc x);exact Yf m n (lc x)
def aoC (k:Nat):∃ p q u v:Int,(∀ x,qH (2 ^ k) x=p*x+q)/\p=1+2 ^ (k+2)*u/\q=2 ^ k*(1+2*v):=by
 induction k with
 | zero=>
  refine ⟨lcA,lcC,1591034055961698251,721347520444481703,fun x=>?_,aD,aD⟩;show qH 1 x=_;show x*lcA+lcC=_;rw [UU]
 | succ k ih=>
  obtain ⟨p,q,u,v,h1,h2,h3⟩:=ih;refine ⟨p*p,p*q+q,u+2 ^ (k+1)*u*u,v+2 ^ k*u*(1+2*v),fun x=>?_,?_,?_⟩
  .rw [show (2:Nat) ^ (k+1)=2 ^ k+2 ^ k by rw [Nat.pow_succ];omega,Yf,h1,h1,Int.mul_add,Int.mul_assoc,Int.add_assoc]
  .have e2:(2:Int) ^ (k+1+2)=2*2 ^ (k+2):=by rw [show k+1+2=(k+2)+1 by omega,Kr,UU]
   have e3:(2:Int) ^ (k+2)=2*2 ^ (k+1):=by rw [Kr,UU]
   rw [h2,e2];generalize (2:Int) ^ (k+2)=t at e3 ⊢;generalize (2:Int) ^ (k+1)=s at e3 ⊢;subst e3
   grind
  .have e1:(2:Int) ^ (k+1)=2*2 ^ k:=by rw [Kr,UU]
   have e2:(2:Int) ^ (k+2)=4*2 ^ k:=by rw [Kr,Kr];omega
   rw [h2,h3,e1,e2];generalize (2:Int) ^ k=t
   grind
def aAi (k:Nat) (x y:Int):∃ n d,qH n x=y+2 ^ k*d:=by
 induction k with
 | zero=>exact ⟨0,x - y,by show x=_;simp;omega⟩
 | succ k ih=>
  obtain ⟨n,d,h⟩:=ih;have e1:(2:Int) ^ (k+1)=2*2 ^ k:=by rw [Kr,UU]
  by_cases hd:d % 2=0
  .refine ⟨n,d / 2,?_⟩;rw [h,e1,show d=2*(d / 2) by omega];rw [Int.mul_left_comm,<- Int.mul_assoc,show 2*(d / 2) / 2=d / 2 by omega]
  .obtain ⟨p,q,u,v,h1,h2,h3⟩:=aoC k;refine ⟨n+2 ^ k,(1+d) / 2+v+2*u*(y+2 ^ k*d),?_⟩;have e2:(2:Int) ^ (k+2)=4*2 ^ k:=by rw [Kr,Kr];omega
   have hd2:d=2*((1+d) / 2) - 1:=ah;rw [Yf,h,h1,h2,h3,e1,e2];generalize (1+d) / 2=g at hd2 ⊢;subst hd2;generalize (2:Int) ^ k=t
   grind
def nu (h:Int):Int:=IntKind.wrap .i64 (IntKind.wrap .i64 (h*6364136223846793005)+1442695040888963407)
def jO:Nat->Int->Int
 | 0,h=>h
 | n+1,h=>jO n (nu h)
def acF:∀ (m n:Nat) (x:Int),jO (m+n) x=jO n (jO m x)
 | 0,n,x=>by rw [qM];rfl
 | m+1,n,x=>by
  rw [show m+1+n=(m+n)+1 by omega];show jO (m+n) (nu x)=jO n (jO m<|nu x);exact acF m n (nu x)
def aAj (h:Int): -9223372036854775808<=nu h/\nu h<=9223372036854775807:=by
 unfold nu;rw [adV];omega
def aoD (x:Int):∃ d,IntKind.wrap .i64 x=x+18446744073709551616*d:=by
 rw [adV];exact ⟨-((x+9223372036854775808) / 18446744073709551616),ah⟩
def aAk (h:Int):∃ d,nu h=lc h+18446744073709551616*d:=by
 unfold nu lc;obtain ⟨d1,h1⟩:=aoD (h*6364136223846793005);obtain ⟨d2,h2⟩:=aoD (IntKind.wrap .i64 (h*6364136223846793005)+1442695040888963407);refine ⟨d1+d2,?_⟩;rw [h2,h1];show _=h*6364136223846793005+1442695040888963407+_;generalize h*6364136223846793005=z;omega
def aho:∀ (n:Nat) (x d:Int),∃ e,qH n (x+18446744073709551616*d)=qH n x+18446744073709551616*e
 | 0,x,d=>⟨d,rfl⟩
 | n+1,x,d=>by
  have e:lc (x+18446744073709551616*d)=lc x+18446744073709551616*(d*lcA):=by
   unfold lc
   grind
  show ∃ e,qH n (lc<|x+18446744073709551616*d)=qH n (lc x)+18446744073709551616*e;rw [e];exact aho n (lc x) _
def aoE:∀ (n:Nat) (h:Int),∃ d,jO n h=qH n h+18446744073709551616*d
 | 0,h=>⟨0,by show h=h+_;omega⟩
 | n+1,h=>by
  obtain ⟨d,hd⟩:=aoE n (nu h);obtain ⟨d2,h2⟩:=aAk h;obtain ⟨e,he⟩:=aho n (lc h) d2;refine ⟨e+d,?_⟩;show jO n (nu h)=qH n (lc h)+_;rw [hd,h2,he];omega
def aoF (M:Nat) (hM:M=2 ^ 64) (x:Int):∃ d,qH M x=x+18446744073709551616*d:=by
 obtain ⟨p,q,u,v,h1,h2,h3⟩:=aoC 64;have e2:(2:Int) ^ (64+2)=73786976294838206464:=aD;have e3:(2:Int) ^ 64=18446744073709551616:=aD;rw [<- hM] at h1;rw [e2] at h2;rw [e3] at h3;refine ⟨4*u*x+(1+2*v),?_⟩;rw [h1,h2,h3]
 grind
def aAl (M:Nat) (hM:M=2 ^ 64) (k:Nat) (x:Int):∃ d,qH (M*k) x=x+18446744073709551616*d:=by
 induction k with
 | zero=>exact ⟨0,by rw [ZO];show x=_;omega⟩
 | succ k ih=>
  obtain ⟨d,hd⟩:=ih;obtain ⟨d2,h2⟩:=aoF M hM (x+18446744073709551616*d);refine ⟨d+d2,?_⟩;rw [Nat.mul_succ,Yf,hd,h2];omega
def aAm (M:Nat) (hM:M=2 ^ 64) (hM0:0 < M) (h y:Int) (h1: -9223372036854775808<=y) (h2:y<=9223372036854775807):∃ n,1<=n/\n<=M/\jO n h=y:=by
 obtain ⟨n,d,hn⟩:=aAi 64 h y;have e3:(2:Int) ^ 64=18446744073709551616:=aD;rw [e3] at hn;have key:∀ m,(∃ d,qH m h=y+18446744073709551616*d)->1<=m->jO m h=y:=fun m ⟨d,hm⟩ h1m=>by
  obtain ⟨d2,hd2⟩:=aoE m h;obtain ⟨m,rfl⟩:∃ k,m=k+1:=⟨m - 1,ah⟩
  have hr: -9223372036854775808<=jO (m+1) h/\jO (m+1) h<=9223372036854775807:=by
   rw [acF m 1 h];exact aAj _
  rw [hm] at hd2;omega
 obtain ⟨d2,hq⟩:=aAl M hM (n / M) h;have hsplit:qH n h=qH (n % M) (qH (M*(n / M)) h):=by
  rw [<- Yf,ZL]
 obtain ⟨e,he⟩:=aho (n % M) h d2;rw [hsplit,hq,he] at hn;have hm:qH (n % M) h=y+18446744073709551616*(d - e):=ah;rcases UN (n % M) with h0|h0
 .rw [h0] at hm;obtain ⟨d3,h3⟩:=aoF M hM h;refine ⟨M,hM0,cZ _,key _ ⟨d - e+d3,?_⟩ hM0⟩;rw [h3];have:h=y+18446744073709551616*(d - e):=hm;omega
 .exact ⟨n % M,h0,kG<|QK _ hM0,key _ ⟨_,hm⟩ h0⟩
def aAn (h y:Int) (h1: -9223372036854775808<=y) (h2:y<=9223372036854775807):∃ n,1<=n/\n<=2 ^ 64/\jO n h=y:=
 aAm (2 ^ 64) rfl aD h y h1 h2
inductive Pg (α:Type):Type
 | ret (a:α):Pg α
 | rd (k:Int->Pg α):Pg α
namespace Pg
def bind {α β:Type}:Pg α->(α->Pg β)->Pg β
 | ret a,f=>f a
 | rd k,f=>rd fun x=>(k x).bind f
def map {α β:Type} (g:α->β) (p:Pg α):Pg β:=p.bind fun a=>ret (g a)
inductive Post {α:Type} (P:α->Prop):Pg α->Prop
 | ret {a:α} (h:P a):Post P (.ret a)
 | rd {k:Int->Pg α} (h:∀ x,0<=x->x<=255->Post P (k x)):Post P (.rd k)
inductive Le {α:Type}:Pg α->Nat->Prop
 | ret {a:α} {n:Nat}:Le (.ret a) n
 | rd {k:Int->Pg α} {n:Nat} (h:∀ x,0<=x->x<=255->Le (k x) n):Le (.rd k) (n+1)
def One {α:Type}:Pg α->Prop
 | ret _=>False
 | rd _=>True
def Le.mono {α:Type} {p:Pg α} {n m:Nat} (h:Le p n) (hm:n<=m):Le p m:=by
 induction h generalizing m with
 | ret=>exact .ret
 | rd h ih=>
  obtain ⟨m,rfl⟩:∃ k,m=k+1:=⟨m - 1,ah⟩
  exact .rd fun x a b=>ih x a b ah
def Post.imp {α:Type} {P Q:α->Prop} {p:Pg α} (h:Post P p) (hi:∀ a,P a->Q a):Post Q p:=by
 induction h with
 | ret h=>exact .ret (hi _ h)
 | rd h ih=>exact .rd ih
def Post.bind {α β:Type} {P:α->Prop} {Q:β->Prop} {p:Pg α} {f:α->Pg β} (h:Post P p) (hf:∀ a,P a->Post Q (f a)):Post Q (p.bind f):=by
 induction h with
 | ret h=>exact hf _ h
 | rd h ih=>exact .rd ih
def eH.bind {α β:Type} {P:α->Prop} {p:Pg α} {f:α->Pg β} {n m k:Nat} (hp:Post P p) (h:Le p n) (hf:∀ a,P a->Le (f a) m) (hk:n+m<=k):Le (p.bind f) k:=by
 induction h generalizing k with
 | ret=>
  cases hp with
  | ret hp=>exact (hf _ hp).mono ah
 | rd h ih=>
  cases hp with
  | rd hp=>
   obtain ⟨k,rfl⟩:∃ j,k=j+1:=⟨k - 1,ah⟩
   exact .rd fun x a b=>ih x a b (hp x a b) ah
def One.bind {α β:Type} {p:Pg α} {f:α->Pg β} (h:One p):One (p.bind f):=by
 cases p with
 | ret=>cases h
 | rd=>trivial
def gen (h:Int):Int:=bits .and .i64 (bits .xor .i64 (Int.fdiv (nu h)<|2 ^ (min 33 64))<|Int.fdiv (nu h)<|2 ^ (min 45 64)) 255
def cb (b:List UInt8) (i:Nat) (h:Int):Int:=match b[i]? with
 | some e=>bits .and .i64 (IntKind.wrap .i64<|gen h+IntKind.wrap .i64 (e.toNat:Int)) 255
 | none=>gen h
def nx (b:List UInt8) (i:Nat):Nat:=if i < b.length then i+1 else i
def run {α:Type} (b:List UInt8):Pg α->Nat->Int->α×Nat×Int
 | ret a,i,h=>(a,i,h)
 | rd k,i,h=>run b (k<|cb b i h) (nx b i) (nu h)
def DC {α:Type}:Pg α->Int->α×Int
 | ret a,h=>(a,h)
 | rd k,h=>DC (k<|gen h) (nu h)
def run_bind {α β:Type} (b:List UInt8):∀ (p:Pg α) (f:α->Pg β) (i:Nat) (h:Int),run b (p.bind f) i h=run b (f (run b p i h).1) (run b p i h).2.1 (run b p i h).2.2
 | ret _,_,_,_=>rfl
 | rd k,f,i,h=>run_bind b (k<|cb b i h) f (nx b i) (nu h)
def aAo {b:List UInt8} {i:Nat} (h:i<=b.length):nx b i<=b.length:=by unfold nx;split<;>omega
def GD {α:Type} (b:List UInt8):∀ (p:Pg α) (i:Nat) (h:Int),i<=b.length->(run b p i h).2.1<=b.length
 | ret _,_,_,hi=>hi
 | rd k,i,h,hi=>GD b (k<|cb b i h) (nx b i) (nu h) (aAo hi)
def aAp (b:List UInt8):nx b b.length=b.length:=by unfold nx;split<;>omega
def run_end {α:Type} (b:List UInt8):∀ (p:Pg α) (h:Int),run b p b.length h=((DC p h).1,b.length,(DC p h).2)
 | ret _,_=>rfl
 | rd k,h=>by
  have e:cb b b.length h=gen h:=by unfold cb;rw [AA ah]
  show run b (k<|cb b b.length h) (nx b b.length) (nu h)=_;rw [e,aAp,run_end b (k<|gen h)<|nu h];rfl
def Yg (h:Int):0<=gen h/\gen h<=255:=acD _
def aoG (b:List UInt8) (i:Nat) (h:Int):0<=cb b i h/\cb b i h<=255:=by
 unfold cb;split
 .exact acD _
 .exact Yg h
def Yh {α:Type} {P:α->Prop} (b:List UInt8) {p:Pg α} (hp:Post P p):∀ (i:Nat) (h:Int),P (run b p i h).1:=by
 induction hp with
 | ret h=>intro i h';exact h
 | rd h ih=>intro i h';exact ih (cb b i h') (aoG b i h').1 (aoG b i h').2 (nx b i) (nu h')
def aAq {α:Type} {p:Pg α} {n:Nat} (hp:Le p n):∀ h:Int,∃ k,k<=n/\(DC p h).2=jO k h:=by
 induction hp with
 | ret=>intro h;exact ⟨0,ah,rfl⟩
 | rd h ih=>
  intro h';obtain ⟨k,h1,h2⟩:=ih (gen h') (Yg h').1 (Yg h').2 (nu h');exact ⟨k+1,ah,h2⟩
def aAr {α:Type} {p:Pg α} {n:Nat} (hp:Le p n) (ho:One p) (h:Int):∃ k,1<=k/\k<=n/\(DC p h).2=jO k h:=by
 cases hp with
 | ret=>cases ho
 | rd hk=>
  obtain ⟨k,h1,h2⟩:=aAq (hk (gen h) (Yg h).1 (Yg h).2) (nu h);exact ⟨k+1,ah,ah,h2⟩
def aoH {α:Type} (b:List UInt8):∀ (p:Pg α) (i:Nat) (h:Int),i<=(run b p i h).2.1
 | ret _,_,_=>cZ _
 | rd k,i,h=>by
  have:=aoH b (k<|cb b i h) (nx b i) (nu h);have h2:i<=nx b i:=by unfold nx;split<;>omega
  exact sH h2 this
def aAs {α:Type} (b:List UInt8) {p:Pg α} (ho:One p) (i:Nat) (h:Int) (hi:i < b.length):i < (run b p i h).2.1:=by
 cases p with
 | ret=>cases ho
 | rd k=>
  have:=aoH b (k<|cb b i h) (nx b i) (nu h);have h2:nx b i=i+1:=by unfold nx;rw [dA hi]
  rw [h2] at this;show i < (run b (k<|cb b i h) (nx b i)<|nu h).2.1;rw [h2];exact this
def GH {α:Type} (p:Pg α) (ok:α->Bool):Nat->Int->Option (α×Int)
 | 0,_=>none
 | n+1,h=>bif ok (DC p h).1 then some (DC p h) else GH p ok n (DC p h).2
def loop {α:Type} (b:List UInt8) (p:Pg α) (ok:α->Bool):Nat->Nat->Int->Option (α×Nat×Int)
 | 0,_,_=>none
 | n+1,i,h=>bif ok (run b p i h).1 then some (run b p i h) else loop b p ok n (run b p i h).2.1 (run b p i h).2.2
def aoI {α:Type} (b:List UInt8) (p:Pg α) (ok:α->Bool):∀ (n:Nat) (h:Int),(GH p ok n h).isSome=true->(loop b p ok n b.length h).isSome=true
 | 0,_,hs=>by cases hs
 | n+1,h,hs=>by
  rw [GH] at hs;rw [loop,run_end];dsimp only;cases hc:ok (DC p h).1 with
  | true=>rfl
  | false=>rw [hc,aG] at hs;rw [aG];exact aoI b p ok n (DC p h).2 hs
def acG {α:Type} (p:Pg α) (ok:α->Bool):∀ (n m:Nat) (h:Int),n<=m->(GH p ok n h).isSome=true->(GH p ok m h).isSome=true
 | 0,_,_,_,hs=>by cases hs
 | n+1,0,_,hm,_=>by omega
 | n+1,m+1,h,hm,hs=>by
  rw [GH] at hs ⊢;cases hc:ok (DC p h).1 with
  | true=>rfl
  | false=>rw [hc,aG] at hs;rw [aG];exact acG p ok n m _ ah hs
def jl {α:Type} (p:Pg α) (ok:α->Bool) (F:Nat):Nat->Int->Bool
 | 0,_=>true
 | n+1,h=>(GH p ok F h).isSome&&jl p ok F n (nu h)
def aoJ {α:Type} (p:Pg α) (ok:α->Bool) (F:Nat):∀ (n:Nat) (h:Int) (k:Nat),jl p ok F n h=true->k < n->(GH p ok F<|jO k h).isSome=true
 | 0,_,_,_,hk=>by omega
 | n+1,h,0,ha,_=>by
  rw [jl,dL] at ha;exact ha.1
 | n+1,h,k+1,ha,hk=>by
  rw [jl,dL] at ha;exact aoJ p ok F n (nu h) k ha.2 ah
def BN {α:Type} (p:Pg α) (ok:α->Bool) (F:Nat):∀ (n m:Nat) (h:Int),jl p ok F n h=true->jl p ok F m (jO n h)=true->jl p ok F (n+m) h=true
 | 0,m,h,_,h2=>by rw [qM];exact h2
 | n+1,m,h,h1,h2=>by
  rw [show n+1+m=(n+m)+1 by omega,jl,dL];rw [jl,dL] at h1;exact ⟨h1.1,BN p ok F n m (nu h) h1.2 h2⟩
def aAt {α:Type} {p:Pg α} {ok:α->Bool} {B F:Nat} {h0:Int} (hB:Le p B) (ho:One p) (ha:jl p ok F (B+1) h0=true):∀ (n:Nat) (h:Int),jO n h=h0->(GH p ok (n+F+1) h).isSome=true:=by
 intro n;induction n using Nat.strongRecOn with
 | _ n ih=>
  intro h hn;rw [GH];cases ok (DC p h).1 with
  | true=>rfl
  | false=>
   rw [aG];obtain ⟨k,k1,k2,k3⟩:=aAr hB ho h;rw [k3];by_cases hk:k<=n
   .have e:jO (n - k) (jO k h)=h0:=by rw [<- acF,show k+(n - k)=n by omega];exact hn
    exact acG p ok _ _ _ ah (ih (n - k) ah (jO k h) e)
   .have e:jO k h=jO (k - n) h0:=by rw [<- hn,<- acF,show n+(k - n)=k by omega]
    rw [e];exact acG p ok F _ _ ah (aoJ p ok F (B+1) h0 (k - n) ha ah)
def aoK {α:Type} {p:Pg α} {ok:α->Bool} {B F:Nat} {h0:Int} (hB:Le p B) (ho:One p) (ha:jl p ok F (B+1) h0=true) (h1: -9223372036854775808<=h0) (h2:h0<=9223372036854775807) (b:List UInt8) (M:Nat) (hM:18446744073709551616+F+1<=M):∀ (d i n:Nat) (h:Int),b.length - i=d->i<=b.length->M+d<=n->(loop b p ok n i h).isSome=true:=by
 intro d;induction d using Nat.strongRecOn with
 | _ d ih=>
  intro i n h hd hi hn;by_cases hlt:i < b.length
  .obtain ⟨n,rfl⟩:∃ k,n=k+1:=⟨n - 1,ah⟩
   rw [loop];cases ok (run b p i h).1 with
   | true=>rfl
   | false=>
    rw [aG];have g1:=aAs b ho i h hlt;have g2:=GD b p i h hi;exact ih (b.length - (run b p i h).2.1) ah _ n _ rfl g2 ah
  .have e:i=b.length:=ah;subst e;obtain ⟨k,_,k2,k3⟩:=aAn h h0 h1 h2;have e3:(2:Nat) ^ 64=18446744073709551616:=aD;rw [e3] at k2;exact aoI b p ok n h (acG p ok _ _ _ ah<|aAt hB ho ha k h k3)
def ahp {α:Type} (b:List UInt8) {P:α->Prop} {p:Pg α} (hp:Post P p) (ok:α->Bool):∀ (n i:Nat) (h:Int) (r:α×Nat×Int),i<=b.length->loop b p ok n i h=some r->P r.1/\ok r.1=true/\r.2.1<=b.length
 | 0,_,_,_,_,e=>by cases e
 | n+1,i,h,r,hi,e=>by
  rw [loop] at e;cases ho:ok (run b p i h).1 with
  | true=>
   rw [ho,aH] at e;cases e;exact ⟨Yh b hp i h,ho,GD b p i h hi⟩
  | false=>
   rw [ho,aG] at e;exact ahp b hp ok n _ _ r (GD b p i h hi) e
end Pg
def Sm {α β:Type} (b:List UInt8) (p:Pg α) (f:α->β) (i:Nat) (h:Int) (x:Option (β×Int×Int)):Prop:=x=some (f (Pg.run b p i h).1,((Pg.run b p i h).2.1:Int),(Pg.run b p i h).2.2)
def Sm.ret {α β:Type} {b:List UInt8} {a:α} {f:α->β} {i:Nat} {h:Int}:Sm b (.ret a) f i h (some (f a,(i:Int),h)):=rfl
def Sm.bind {α β γ δ:Type} {b:List UInt8} {p:Pg α} {f:α->β} {q:α->Pg γ} {g:γ->δ} {P:α->Prop} {i:Nat} {h:Int} {x:Option (β×Int×Int)} {y:β×Int×Int->Option (δ×Int×Int)} (hi:i<=b.length) (hp:Pg.Post P p) (hx:Sm b p f i h x) (hy:∀ a (i:Nat) h,P a->i<=b.length->Sm b (q a) g i h (y (f a,(i:Int),h))):Sm b (p.bind q) g i h (Option.bind x y):=by
 unfold Sm at hx hy ⊢;rw [hx,av,Pg.run_bind];exact hy _ _ _ (Pg.Yh b hp i h) (Pg.GD b p i h hi)
def DF {α β:Type} {b:List UInt8} {p:Pg α} {f:α->β} {i:Nat} {h:Int} {x:Option (β×Int×Int)} (hx:Sm b p f i h x):Sm b p f i h (Option.bind x fun r=>some (r.1,r.2.1,r.2.2)):=by
 unfold Sm at hx ⊢;rw [hx];rfl
def Sm.cond {α β:Type} {b:List UInt8} {p q:Pg α} {f:α->β} {i:Nat} {h:Int} {c:Bool} {x y:Option (β×Int×Int)} (hx:c=true->Sm b p f i h x) (hy:c=false->Sm b q f i h y):Sm b (bif c then p else q) f i h (bif c then x else y):=by
 cases c
 .exact hy rfl
 .exact hx rfl
def Sm.dr {α β:Type} {b:List UInt8} {p:Pg α} {f:α->β} {P:α->Prop} {Q:β->Prop} {i:Nat} {h:Int} {x:Option (β×Int×Int)} (hi:i<=b.length) (hx:Sm b p f i h x) (hp:Pg.Post P p) (hq:∀ a,P a->Q (f a)):Dr b Q x:=
 ⟨_,_,_,hx,hq _<|Pg.Yh b hp i h,ah,by have:=Pg.GD b p i h hi;omega⟩
def kR (n:Int):Pg Int:=bif decide (n<=0) then .ret 0 else bif decide (n<=256) then .rd fun x=>.ret (Int.tmod x n) else .rd fun x=>.rd fun y=>.rd fun z=>.rd fun w=>.ret (Int.tmod (IntKind.wrap .i64<|(IntKind.wrap .i64<|(IntKind.wrap .i64<|(IntKind.wrap .i64<|x*16777216)+(IntKind.wrap .i64<|y*65536))+(IntKind.wrap .i64<|z*256))+w) n)
def BO (n:Int):Pg Bool:=(kR n).bind fun r=>.ret (r==0)
def uz (l:List (List UInt8)):Pg (List UInt8):=(kR (l.length:Int)).bind fun r=>.ret (l[r.toNat]?.getD [])
def DI (l:List Int):Pg Int:=(kR (l.length:Int)).bind fun r=>.ret (l[r.toNat]?.getD 0)
def acH:Pg (List UInt8):=uz [[48],[49],[52,50],[51,46,53],[46,53],[55,46],[49,101,51],[50,69,45,52],[49,48,46,50,53,101,43,49]]
def acI:Pg (List UInt8):=uz [[34,34],[34,97,34],[34,120,32,121,34],[34,113,92,34,113,34],[34,92,110,34],[34,35,110,111,34],[34,47,34]]
def acJ:Pg (List UInt8):=uz [[47,97,47],[47,94,120,43,36,47],[47,97,92,47,98,47],[47,61,47],[47,32,47],[47,91,48,45,57,93,47]]
def GI:Pg (List UInt8):=uz [[120],[121],[110],[105],[97,114,114],[78,82],[70,83],[116,111,116,97,108],[97,49],[95,116],[99,111,117,110,116]]
def acK:Pg Int:=DI [60,57,58,59,55,56,56,99,99,99,63,48,47,50,62,62,49,67,46,45,44]
def eZ (n:Int):Pg.Post (fun r=>0<=r/\(r < n\/n<=0/\r=0)) (kR n):=by
 unfold kR;cases h1:decide (n<=0) with
 | true=>exact .ret ⟨ah,.inr ⟨nU h1,rfl⟩⟩
 | false=>
  have h1:=QG h1;cases decide (n<=256) with
  | true=>exact .rd fun x hx _=>.ret ⟨adW _ hx,.inl<|adS _ ah⟩
  | false=>
   refine .rd fun x hx hx2=>.rd fun y hy hy2=>.rd fun z hz hz2=>.rd fun w hw hw2=>.ret ⟨adW _ ?_,.inl<|adS _ ah⟩;rw [wrap64 (n:=x*16777216) ah ah,wrap64 (n:=y*65536) ah ah,wrap64 (n:=x*16777216+y*65536) ah ah,wrap64 (n:=z*256) ah ah,wrap64 (n:=x*16777216+y*65536+z*256) ah ah,wrap64 ah ah];omega
def below_le (n:Int) (h:n<=256):Pg.Le (kR n) 1:=by
 unfold kR;cases decide (n<=0) with
 | true=>exact .ret
 | false=>rw [fU h];exact .rd fun _ _ _=>.ret
def tF (n:Int):Pg.Post (fun _=>True) (BO n):=(eZ n).bind fun _ _=>.ret trivial
def TY (n:Int) (h:n<=256):Pg.Le (BO n) 1:=Pg.eH.bind (eZ n) (below_le n h) (m:=0) (fun _ _=>.ret) ah
def aAu {P:List UInt8->Prop} (l:List (List UInt8)) (hl:0 < l.length) (h:∀ x,x∈l->P x):Pg.Post P (uz l):=(eZ _).bind fun r hr=>.ret (by
 have hn:r.toNat < l.length:=ah;rw [fQ hn];exact h _<|mQ hn)
def JA (l:List (List UInt8)) (h:l.length<=256):Pg.Le (uz l) 1:=Pg.eH.bind (eZ _) (below_le _ ah) (m:=0) (fun _ _=>.ret) ah
def Ua {P:Int->Prop} (l:List Int) (hl:0 < l.length) (h:∀ x,x∈l->P x):Pg.Post P (DI l):=(eZ _).bind fun r hr=>.ret (by
 have hn:r.toNat < l.length:=ah;rw [fQ hn];exact h _<|mQ hn)
def Yi (l:List Int) (h:l.length<=256):Pg.Le (DI l) 1:=Pg.eH.bind (eZ _) (below_le _ ah) (m:=0) (fun _ _=>.ret) ah
abbrev Sh (x:List UInt8):Prop:=x.length<=20
def uD (l:List (List UInt8)) (hl:0 < l.length) (h:(l.all fun x=>decide<|x.length<=20)=true):Pg.Post Sh (uz l):=aAu l hl fun x hx=>nU (kW.1 h x hx)
def ahq:Pg.Post Sh acH:=uD _ aD aD
def ahr:Pg.Post Sh acI:=uD _ aD aD
def ahs:Pg.Post Sh acJ:=uD _ aD aD
def qo:Pg.Post Sh GI:=uD _ aD aD
def aht:Pg.Post (fun _=>True) acK:=Ua _ aD fun _ _=>trivial
def aAv:Pg.Le acH 1:=JA _ aD
def aAw:Pg.Le acI 1:=JA _ aD
def aAx:Pg.Le acJ 1:=JA _ aD
def Pv:Pg.Le GI 1:=JA _ aD
def aAy:Pg.Le acK 1:=Yi _ aD
section
variable (b:List UInt8) (hb:b.length<=1048576)
include hb
theorem Yj (i:Nat) (h:Int) (hi:i<=b.length):Sm b (.rd .ret) (fun x=>x) i h (Ep b (i:Int) h):=by
 unfold Ep Rv Sm;show _=some (Pg.cb b i h,((Pg.nx b i:Nat):Int),nu h);unfold Pg.cb Pg.nx;by_cases hlt:i < b.length
 .simp only [gJ hlt,aH,bS hlt,av,fQ hlt,dA hlt];rw [wrap64 (n:=(i:Int)+1) ah ah];rfl
 .simp only [iW hlt,aG,AA (show b.length<=i by omega),bI hlt];rfl
theorem vP (n:Int) (i:Nat) (h:Int) (hi:i<=b.length):Sm b (kR n) (fun x=>x) i h (jJ n b (i:Int) h):=by
 unfold jJ kR;have hp:Pg.Post (fun x:Int=>0<=x/\x<=255) (.rd .ret):=.rd fun x h1 h2=>.ret ⟨h1,h2⟩;refine Sm.cond (fun _=>Sm.ret) fun hc=>Sm.cond (fun _=>?_) fun _=>?_
 .have hc:=QG hc;have hn:(n==0)=false:=bT;refine Sm.bind (p:=.rd .ret) (q:=fun x=>.ret<|Int.tmod x n) hi hp (Yj b hb i h hi) fun x i h _ _=>?_;unfold KF;simp only [hn,aG,av];exact Sm.ret
 .have hc:=QG hc;have hn:(n==0)=false:=bT;refine Sm.bind (p:=.rd .ret) (q:=fun x=>.rd fun y=>.rd fun z=>.rd fun w=>.ret<|Int.tmod (IntKind.wrap .i64<|(IntKind.wrap .i64<|(IntKind.wrap .i64<|(IntKind.wrap .i64<|x*16777216)+(IntKind.wrap .i64<|y*65536))+(IntKind.wrap .i64<|z*256))+w) n) hi hp (Yj b hb i h hi) fun x i h _ hi=>?_;dsimp only;refine Sm.bind (p:=.rd .ret) (q:=fun y=>.rd fun z=>.rd fun w=>.ret<|Int.tmod (IntKind.wrap .i64<|(IntKind.wrap .i64<|(IntKind.wrap .i64<|(IntKind.wrap .i64<|x*16777216)+(IntKind.wrap .i64<|y*65536))+(IntKind.wrap .i64<|z*256))+w) n) hi hp (Yj b hb i h hi) fun y i h _ hi=>?_;dsimp only;refine Sm.bind (p:=.rd .ret) (q:=fun z=>.rd fun w=>.ret<|Int.tmod (IntKind.wrap .i64<|(IntKind.wrap .i64<|(IntKind.wrap .i64<|(IntKind.wrap .i64<|x*16777216)+(IntKind.wrap .i64<|y*65536))+(IntKind.wrap .i64<|z*256))+w) n) hi hp (Yj b hb i h hi) fun z i h _ hi=>?_;dsimp only;refine Sm.bind (p:=.rd .ret) (q:=fun w=>.ret<|Int.tmod (IntKind.wrap .i64<|(IntKind.wrap .i64<|(IntKind.wrap .i64<|(IntKind.wrap .i64<|x*16777216)+(IntKind.wrap .i64<|y*65536))+(IntKind.wrap .i64<|z*256))+w) n) hi hp (Yj b hb i h hi) fun w i h _ hi=>?_;dsimp only;unfold KF;simp only [hn,aG,av];exact Sm.ret
theorem Uc (n:Int) (i:Nat) (h:Int) (hi:i<=b.length):Sm b (BO n) (fun x=>x) i h (zI n b (i:Int) h):=by
 unfold zI BO;exact Sm.bind hi (eZ n) (vP b hb n i h hi) fun r i h _ hi=>Sm.ret
theorem JB (l:List (List UInt8)) (hl:0 < l.length) (i:Nat) (h:Int) (hi:i<=b.length):Sm b (uz l) (fun x=>x) i h (vg l b (i:Int) h):=by
 unfold vg uz;refine Sm.bind hi (eZ _) (vP b hb _ i h hi) fun r i h hr hi=>?_;obtain ⟨n,rfl⟩:=qL hr.1;have hn:n < l.length:=by rcases hr.2 with h|h<;>omega
 have e:ix l (n:Int)=some l[n]:=bS hn;dsimp only;rw [e,av,show Int.toNat ((n:Nat):Int)=n from rfl,fQ hn];exact Sm.ret
theorem Yk (l:List Int) (hl:0 < l.length) (i:Nat) (h:Int) (hi:i<=b.length):Sm b (DI l) (fun x=>x) i h (Bd l b (i:Int) h):=by
 unfold Bd DI;refine Sm.bind hi (eZ _) (vP b hb _ i h hi) fun r i h hr hi=>?_;obtain ⟨n,rfl⟩:=qL hr.1;have hn:n < l.length:=by rcases hr.2 with h|h<;>omega
 have e:ix l (n:Int)=some l[n]:=bS hn;dsimp only;rw [e,av,show Int.toNat ((n:Nat):Int)=n from rfl,fQ hn];exact Sm.ret
theorem aAz (i:Nat) (h:Int) (hi:i<=b.length):Sm b acH (fun x=>x) i h (aaI b (i:Int) h):=DF (JB b hb _ aD i h hi)
theorem aAA (i:Nat) (h:Int) (hi:i<=b.length):Sm b acI (fun x=>x) i h (aaJ b (i:Int) h):=DF (JB b hb _ aD i h hi)
theorem aAB (i:Nat) (h:Int) (hi:i<=b.length):Sm b acJ (fun x=>x) i h (aaK b (i:Int) h):=DF (JB b hb _ aD i h hi)
theorem JC (i:Nat) (h:Int) (hi:i<=b.length):Sm b GI (fun x=>x) i h (zJ b (i:Int) h):=DF (JB b hb _ aD i h hi)
theorem aAC (i:Nat) (h:Int) (hi:i<=b.length):Sm b acK (fun x=>x) i h (aaO b (i:Int) h):=DF (Yk b hb _ aD i h hi)
end
def ShN (x:aK):Prop:=x.Text.length<=20/\x.Other.length<=20
def Px (t:aA):Prop:=∀ x,x∈bN 0 t->ShN x
def aAD {t:aA} (h:Px t) (b:Nat):∀ x,x∈bN b t->ShN x:=fun x hx=>by
 have e:=acL t 0 b;rw [qM] at e;rw [e] at hx;obtain ⟨y,hy,rfl⟩:=jW.1 hx;exact h y hy
def aAE {ts:List aA} (h:∀ t,t∈ts->Px t):∀ (b:Nat) x,x∈jB b ts->ShN x:=by
 induction ts with
 | nil=>intro b x hx;rw [jB] at hx;cases hx
 | cons t ts ih=>
  intro b x hx;rw [jB] at hx;rcases jo.1 hx with hx|hx
  .exact aAD (h t aF) b x hx
  .exact ih (fun t' h'=>h t'<|by simp [h']) _ x hx
def Gd (m d:Nat) (t:aA):Prop:=aZ t<=m/\jU t<=d/\Px t
def Gd.mono {m d m' d':Nat} {t:aA} (h:Gd m d t) (hm:m<=m') (hd:d<=d'):Gd m' d' t:=⟨sH h.1 hm,sH h.2.1 hd,h.2.2⟩
def Gd.mk {m d:Nat} {k o:Int} {x y:List UInt8} {ts:List aA} (hx:Sh x) (hy:Sh y) (hs:aW ts+1<=m) (hd:jm ts+1<=d) (h:∀ t,t∈ts->Px t):Gd m d ⟨k,o,x,y,ts⟩:=by
 refine ⟨by rw [aZ];exact hs,by rw [jU];exact hd,fun n hn=>?_⟩;rw [bN] at hn;rcases jo.1 hn with hn|hn
 .exact aAE h 0 n hn
 .rw [nG.1 hn];exact ⟨hx,hy⟩
def Yl {m d:Nat}:∀ {ts:List aA},(∀ t,t∈ts->Gd m d t)->aW ts<=ts.length*m/\jm ts<=d/\∀ t,t∈ts->Px t
 | [],_=>⟨by simp [aW],by simp [jm],fun t ht=>by cases ht⟩
 | t::ts,h=>by
  obtain ⟨h1,h2,h3⟩:=Yl (ts:=ts) fun t' ht'=>h t' (by simp [ht']);obtain ⟨g1,g2,g3⟩:=h t aF;refine ⟨by simp only [aW,fT,wh];omega,by simp only [jm];omega,fun t' ht'=>?_⟩;rcases fF.1 ht' with rfl|ht'
  .exact g3
  .exact h3 t' ht'
def qp {α:Type} (p:Pg α):Nat->Pg (List α)
 | 0=>.ret []
 | n+1=>p.bind fun a=>(qp p n).bind fun zs=>.ret (a::zs)
def EY {α:Type} {P:α->Prop} {p:Pg α} (h:Pg.Post P p):∀ n,Pg.Post (fun zs=>zs.length=n/\∀ a,a∈zs->P a) (qp p n)
 | 0=>.ret ⟨rfl,fun a h=>by cases h⟩
 | n+1=>h.bind fun a ha=>(EY h n).bind fun zs has=>.ret ⟨by simp [has.1],fun x hx=>by
  rcases fF.1 hx with rfl|hx
  .exact ha
  .exact has.2 x hx⟩
def Ym {α:Type} {P:α->Prop} {p:Pg α} (h:Pg.Post P p) {B:Nat} (hB:Pg.Le p B):∀ n,Pg.Le (qp p n) (n*B)
 | 0=>.ret
 | n+1=>Pg.eH.bind h hB (m:=n*B) (fun a _=>Pg.eH.bind (EY h n) (Ym h hB n) (m:=0) (fun _ _=>.ret) ah) (by rw [wh];omega)
def GJ:Pg aA:=GI.bind fun x=>.ret ⟨1,0,x,[],[]⟩
def LV:Pg aA:=(kR 7).bind fun r=>bif r==0 then acH.bind fun x=>.ret ⟨2,0,x,[],[]⟩ else bif r==1 then acI.bind fun x=>.ret ⟨3,0,x,[],[]⟩ else bif r==2 then (BO 2).bind fun o=>bif o then acJ.bind fun x=>.ret ⟨4,0,x,[],[]⟩ else GJ else GJ
def Af (e1 e2:Pg aA):Pg aA:=(kR 4).bind fun r=>bif r==0 then GI.bind fun x=>e1.bind fun t=>.ret ⟨5,0,x,[],[t]⟩ else bif r==1 then e2.bind fun t=>.ret ⟨6,0,[],[],[t]⟩ else GJ
def Ag (lo hi:Int) (e:Pg aA):Pg (List aA):=(kR<|hi - lo+1).bind fun r=>qp e (lo+r).toNat
def Ud (e1 e2 e3:Pg aA) (r:Int) (y:Bool):Pg aA:=bif y then (DI [56,55,61]).bind fun o=>e1.bind fun t=>.ret ⟨11,o,[],[],[t]⟩ else bif r==9 then GI.bind fun x=>(Ag 1 2 e1).bind fun ts=>.ret ⟨13,0,x,[],ts⟩ else bif r==10 then e1.bind fun t=>e1.bind fun u=>e1.bind fun v=>.ret ⟨14,0,[],[],[t,u,v]⟩ else bif r==11 then (DI [54,38,43]).bind fun o=>(Af e2 e3).bind fun t=>e1.bind fun u=>.ret ⟨15,o,[],[],[t,u]⟩ else acK.bind fun o=>e1.bind fun t=>e1.bind fun u=>.ret ⟨12,o,[],[],[t,u]⟩
def Yn (e1 e2 e3:Pg aA):Pg aA:=(kR 2).bind fun a=>(kR 16).bind fun r=>bif r==0 then LV else bif r==1 then Af e1 e2 else bif r==2 then e1.bind fun t=>.ret ⟨6,0,[],[],[t]⟩ else bif r==3 then GI.bind fun x=>(Ag 0 3 e1).bind fun ts=>.ret ⟨7,0,x,[],ts⟩ else bif r==4 then (uz [[108,101,110,103,116,104],[115,117,98,115,116,114],[105,110,100,101,120],[105,110,116],[116,111,117,112,112,101,114]]).bind fun x=>(Ag 0 3 e2).bind fun ts=>.ret ⟨8,0,x,[],ts⟩ else bif r==5 then (Af e2 e3).bind fun t=>.ret ⟨9,51+a,[],[],[t]⟩ else bif r==6 then (Af e2 e3).bind fun t=>.ret ⟨10,51+a,[],[],[t]⟩ else bif r==7 then Ud e1 e2 e3 r (r==7) else Ud e1 e2 e3 r (r==8)
def LW:Nat->Pg aA×Pg aA×Pg aA
 | 0=>(LV,LV,LV)
 | d+1=>(Yn (LW d).1 (LW d).2.1 (LW d).2.2,(LW d).1,(LW d).2.1)
def fP (d:Nat):Pg aA:=(LW d).1
def aAF:∀ d,(LW d).2.1=fP (d - 1)
 | 0=>rfl
 | d+1=>rfl
def aAG:∀ d,(LW d).2.2=fP (d - 2)
 | 0=>rfl
 | 1=>rfl
 | d+2=>rfl
def ahu (d:Nat):fP (d+1)=Yn (fP d) (fP<|d - 1) (fP<|d - 2):=by
 rw [<- aAF,<- aAG];rfl
def zi (d:Nat):Nat:=if d=0 then 1 else d+2
def eb:Nat->Nat
 | 0=>3
 | d+1=>3*eb d+4
def Ue {a c:Nat} (h:a<=c):eb a<=eb c:=by
 induction c with
 | zero=>rw [show a=0 by omega];exact cZ _
 | succ c ih=>
  by_cases e:a=c+1
  .rw [e];exact cZ _
  .have:=ih ah;rw [eb];omega
def EZ {a c:Nat} (h:a<=c):pw a<=pw c:=by
 induction c with
 | zero=>rw [show a=0 by omega];exact cZ _
 | succ c ih=>
  by_cases e:a=c+1
  .rw [e];exact cZ _
  .have:=ih ah;rw [pw];omega
def jc:Sh ([]:List UInt8):=aF
def Py:Pg.Post (Gd 1 1) GJ:=qo.bind fun x hx=>.ret (Gd.mk hx jc (by simp [aW]) (by simp [jm]) fun t ht=>by cases ht)
def acM:Pg.Le GJ 1:=Pg.eH.bind qo Pv (m:=0) (fun _ _=>.ret) ah
def iw {α:Type} {P:α->Prop} {c:Bool} {p q:Pg α} (hp:Pg.Post P p) (hq:Pg.Post P q):Pg.Post P (bif c then p else q):=by cases c<;>assumption
def leB {α:Type} {n:Nat} {c:Bool} {p q:Pg α} (hp:Pg.Le p n) (hq:Pg.Le q n):Pg.Le (bif c then p else q) n:=by cases c<;>assumption
def ahv {p:Pg (List UInt8)} (h:Pg.Post Sh p) (k:Int):Pg.Post (Gd 1 1) (p.bind fun x=>.ret ⟨k,0,x,[],[]⟩):=h.bind fun x hx=>.ret (Gd.mk hx jc (by simp [aW]) (by simp [jm]) fun t ht=>by cases ht)
def aoL:Pg.Post (Gd 1 1) LV:=(eZ 7).bind fun r _=>iw (ahv ahq 2) (iw (ahv ahr 3)<|iw ((tF 2).bind fun o _=>iw (ahv ahs 4) Py) Py)
def jC {α β:Type} {P:α->Prop} {p:Pg α} {f:α->β} {n:Nat} (hp:Pg.Post P p) (h:Pg.Le p n):Pg.Le (p.bind fun a=>.ret<|f a) n:=Pg.eH.bind hp h (m:=0) (fun _ _=>.ret) ah
def aoM:Pg.Le LV 3:=Pg.eH.bind (eZ 7) (below_le 7 ah) (m:=2) (fun r _=>leB ((jC ahq aAv).mono ah)<|leB ((jC ahr aAw).mono ah)<|leB (Pg.eH.bind (tF 2) (TY 2 ah) (m:=1) (fun o _=>leB (jC ahs aAx) acM) ah)<|acM.mono ah) ah
def ahw {e1 e2:Pg aA} {m d:Nat} (h1:Pg.Post (Gd m d) e1) (h2:Pg.Post (Gd m d) e2) (hm:1<=m):Pg.Post (Gd (m+1)<|d+1) (Af e1 e2):=by
 refine (eZ 4).bind fun r _=>iw (qo.bind fun x hx=>h1.bind fun t ht=>.ret ?_) (iw (h2.bind fun t ht=>.ret ?_)<|Py.imp fun t ht=>ht.mono ah ah)
 .exact Gd.mk hx jc (by have:=ht.1;simp only [aW];omega) (by have:=ht.2.1;simp only [jm];omega) fun t' ht'=>by rw [nG.1 ht'];exact ht.2.2
 .exact Gd.mk jc jc (by have:=ht.1;simp only [aW];omega) (by have:=ht.2.1;simp only [jm];omega) fun t' ht'=>by rw [nG.1 ht'];exact ht.2.2
def acN {e1 e2:Pg aA} {P Q:aA->Prop} {n:Nat} (h1:Pg.Post P e1) (h2:Pg.Post Q e2) (g1:Pg.Le e1 n) (g2:Pg.Le e2 n):Pg.Le (Af e1 e2) (n+2):=
 Pg.eH.bind (eZ 4) (below_le 4 ah) (m:=n+1) (fun r _=>leB (Pg.eH.bind qo Pv (m:=n) (fun x _=>jC h1 g1) ah)<|leB ((jC h2 g2).mono ah)<|acM.mono ah) ah
def DJ {e:Pg aA} {m d:Nat} (h:Pg.Post (Gd m d) e) (lo hi:Nat) (hl:lo<=hi):Pg.Post (fun ts=>lo<=ts.length/\ts.length<=hi/\aW ts<=hi*m/\jm ts<=d/\∀ t,t∈ts->Px t) (Ag (lo:Int) (hi:Int) e):=by
 refine (eZ _).bind fun r hr=>(EY h _).imp fun ts hts=>?_;obtain ⟨g1,g2,g3⟩:=Yl hts.2;have hlen:ts.length<=hi:=by rw [hts.1];omega
 exact ⟨by rw [hts.1];omega,hlen,sH g1<|vW m hlen,g2,g3⟩
def Uf {e:Pg aA} {P:aA->Prop} {n:Nat} (h:Pg.Post P e) (g:Pg.Le e n) (lo hi:Nat) (hl:lo<=hi) (hh:hi<=250):Pg.Le (Ag (lo:Int) (hi:Int) e) (hi*n+1):=
 Pg.eH.bind (eZ _) (below_le _ ah) (m:=hi*n) (fun r hr=>(Ym h g _).mono<|vW n ah) ah
def mk1 {m d m' d':Nat} {k o:Int} {x:List UInt8} (hx:Sh x) {t:aA} (ht:Gd m d t) (hm:m+1<=m') (hd:d+1<=d'):Gd m' d' ⟨k,o,x,[],[t]⟩:=
 Gd.mk hx jc (by have:=ht.1;simp only [aW];omega) (by have:=ht.2.1;simp only [jm];omega) fun t' ht'=>by rw [nG.1 ht'];exact ht.2.2
def mk2 {m d m2 d2 m' d':Nat} {k o:Int} {x:List UInt8} (hx:Sh x) {t u:aA} (ht:Gd m d t) (hu:Gd m2 d2 u) (hm:m+m2+1<=m') (hd:d+1<=d'/\d2+1<=d'):Gd m' d' ⟨k,o,x,[],[t,u]⟩:=
 Gd.mk hx jc (by have:=ht.1;have:=hu.1;simp only [aW];omega) (by have:=ht.2.1;have:=hu.2.1;simp only [jm];omega) fun t' ht'=>by
  simp only [fF,MJ,MP] at ht';rcases ht' with rfl|rfl
  .exact ht.2.2
  .exact hu.2.2
def mk3 {m d m2 d2 m3 d3 m' d':Nat} {k o:Int} {x:List UInt8} (hx:Sh x) {t u v:aA} (ht:Gd m d t) (hu:Gd m2 d2 u) (hv:Gd m3 d3 v) (hm:m+m2+m3+1<=m') (hd:d+1<=d'/\d2+1<=d'/\d3+1<=d'):Gd m' d' ⟨k,o,x,[],[t,u,v]⟩:=
 Gd.mk hx jc (by have:=ht.1;have:=hu.1;have:=hv.1;simp only [aW];omega) (by have:=ht.2.1;have:=hu.2.1;have:=hv.2.1;simp only [jm];omega) fun t' ht'=>by
  simp only [fF,MJ,MP] at ht';rcases ht' with rfl|rfl|rfl
  .exact ht.2.2
  .exact hu.2.2
  .exact hv.2.2
def Ug {m d m' d' n lo:Nat} {k o:Int} {x:List UInt8} (hx:Sh x) {ts:List aA} (h:lo<=ts.length/\ts.length<=n/\aW ts<=n*m/\jm ts<=d/\∀ t,t∈ts->Px t) (hm:n*m+1<=m') (hd:d+1<=d'):Gd m' d' ⟨k,o,x,[],ts⟩:=
 Gd.mk hx jc (by have:=h.2.2.1;omega) (by have:=h.2.2.2.1;omega) h.2.2.2.2
def aoN {e1 e2 e3:Pg aA} {m d d2 D:Nat} (h1:Pg.Post (Gd m d) e1) (h2:Pg.Post (Gd m d2) e2) (h3:Pg.Post (Gd m d2) e3) (hm:1<=m) (w1:d+1<=D) (w2:d2+2<=D):Pg.Post (Gd (4*m) D) (Yn e1 e2 e3):=by
 have hlv:Pg.Post (Gd (m+1)<|d2+1) (Af e2 e3):=ahw h2 h3 hm;have hlv1:Pg.Post (Gd (m+1) D) (Af e1 e2):=by
  obtain ⟨k,rfl⟩:∃ k,D=k+1:=⟨D - 1,ah⟩
  exact ahw (h1.imp fun t ht=>ht.mono ah ah) (h2.imp fun t ht=>ht.mono ah ah) hm
 have hK:∀ r y,Pg.Post (Gd (4*m) D) (Ud e1 e2 e3 r y):=fun r y=>by
  refine iw ?_ (iw ?_ (iw ?_ (iw ?_ ?_)))
  .exact (Ua (P:=fun _=>True) _ aD fun _ _=>trivial).bind fun o _=>h1.bind fun t ht=>.ret (mk1 jc ht ah ah)
  .exact qo.bind fun x hx=>(DJ h1 1 2 ah).bind fun ts hts=>.ret (Ug hx hts ah ah)
  .exact h1.bind fun t ht=>h1.bind fun u hu=>h1.bind fun v hv=>.ret (mk3 jc ht hu hv ah ah)
  .exact (Ua (P:=fun _=>True) _ aD fun _ _=>trivial).bind fun o _=>hlv.bind fun t ht=>h1.bind fun u hu=>.ret (mk2 jc ht hu ah ah)
  .exact aht.bind fun o _=>h1.bind fun t ht=>h1.bind fun u hu=>.ret (mk2 jc ht hu ah ah)
 refine (eZ 2).bind fun a _=>(eZ 16).bind fun r _=>iw (aoL.imp fun t ht=>ht.mono ah ah) (iw (hlv1.imp fun t ht=>ht.mono ah ah)<|iw ?_ (iw ?_ (iw ?_ (iw ?_ (iw ?_ (iw (hK _ _)<|hK _ _))))))
 .exact h1.bind fun t ht=>.ret (mk1 jc ht ah ah)
 .exact qo.bind fun x hx=>(DJ h1 0 3 ah).bind fun ts hts=>.ret (Ug hx hts ah ah)
 .exact (uD _ aD aD).bind fun x hx=>(DJ h2 0 3 ah).bind fun ts hts=>.ret (Ug hx hts ah ah)
 .exact hlv.bind fun t ht=>.ret (mk1 jc ht ah ah)
 .exact hlv.bind fun t ht=>.ret (mk1 jc ht ah ah)
def aAH {e1 e2 e3:Pg aA} {P Q R:aA->Prop} {n:Nat} (h1:Pg.Post P e1) (h2:Pg.Post Q e2) (h3:Pg.Post R e3) (g1:Pg.Le e1 n) (g2:Pg.Le e2 n) (g3:Pg.Le e3 n) (hn:3<=n):Pg.Le (Yn e1 e2 e3) (3*n+4):=by
 have tr:∀ {α:Type} {p:Pg α} {P:α->Prop},Pg.Post P p->Pg.Post (fun _=>True) p:=fun h=>h.imp fun _ _=>trivial;have lvT:Pg.Post (fun _=>True) (Af e2 e3):=(eZ 4).bind fun r _=>iw (qo.bind fun x _=>h2.bind fun t _=>.ret trivial) (iw (h3.bind fun t _=>.ret trivial)<|tr Py);have lT:∀ lo hi:Int,∀ e:Pg aA,Pg.Post (fun _=>True) e->Pg.Post (fun _=>True) (Ag lo hi e):=fun lo hi e he=>(eZ _).bind fun r _=>tr (EY he _);have pI:∀ l:List Int,0 < l.length->Pg.Post (fun _=>True) (DI l):=fun l hl=>Ua l hl fun _ _=>trivial;have hK:∀ r y,Pg.Le (Ud e1 e2 e3 r y) (3*n+2):=fun r y=>by
  refine leB ?_ (leB ?_ (leB ?_ (leB ?_ ?_)))
  .exact Pg.eH.bind (pI _ aD) (Yi _ aD) (m:=n) (fun o _=>jC h1 g1) ah
  .exact Pg.eH.bind qo Pv (m:=2*n+1) (fun x _=>jC (lT 1 2 e1<|tr h1)<|Uf h1 g1 1 2 ah ah) ah
  .exact Pg.eH.bind h1 g1 (m:=2*n) (fun t _=>Pg.eH.bind h1 g1 (m:=n) (fun u _=>jC h1 g1) ah) ah
  .exact Pg.eH.bind (pI _ aD) (Yi _ aD) (m:=2*n+2) (fun o _=>Pg.eH.bind lvT (acN h2 h3 g2 g3) (m:=n) (fun t _=>jC h1 g1) ah) ah
  .exact Pg.eH.bind aht aAy (m:=2*n) (fun o _=>Pg.eH.bind h1 g1 (m:=n) (fun t _=>jC h1 g1) ah) ah
 refine Pg.eH.bind (eZ 2) (below_le 2 ah) (m:=3*n+3) (fun a _=>Pg.eH.bind (eZ 16) (below_le 16 ah) (m:=3*n+2) (fun r _=>leB (aoM.mono ah)<|leB ((acN h1 h2 g1 g2).mono ah)<|leB ((jC h1 g1).mono ah)<|leB ?_ (leB ?_ (leB ((jC lvT<|acN h2 h3 g2 g3).mono ah)<|leB ((jC lvT<|acN h2 h3 g2 g3).mono ah)<|leB (hK _ _)<|hK _ _))) ah) ah
 .exact Pg.eH.bind qo Pv (m:=3*n+1) (fun x _=>jC (lT 0 3 e1<|tr h1)<|Uf h1 g1 0 3 ah ah) ah
 .exact Pg.eH.bind (uD _ aD aD) (JA _ aD) (m:=3*n+1) (fun x _=>jC (lT 0 3 e2<|tr h2)<|Uf h2 g2 0 3 ah ah) ah
def kT:∀ d,Pg.Post (Gd (pw d)<|zi d) (fP d):=by
 intro d;induction d using Nat.strongRecOn with
 | _ d ih=>
  cases d with
  | zero=>exact aoL
  | succ d=>
   rw [ahu];have hp:=ahm d;have a:=ih d ah;have b:=ih (d - 1) ah;have c:=ih (d - 2) ah;have b':Pg.Post (Gd (pw d)<|zi<|d - 1) (fP<|d - 1):=b.imp fun t ht=>ht.mono (EZ ah) ah;have c':Pg.Post (Gd (pw d)<|zi<|d - 2) (fP<|d - 2):=c.imp fun t ht=>ht.mono (EZ ah) ah;have e4:pw (d+1)=4*pw d:=by rw [pw]
   rw [e4];by_cases h0:d=0
   .subst h0;exact aoN (d:=1) (d2:=1) a b c ah aD aD
   .have hd:zi d=d+2:=by unfold zi;rw [bI h0]
    have hd1:zi (d+1)=d+3:=by unfold zi;rw [bI ah]
    have hd2:zi (d - 1)<=d+1:=by unfold zi;split<;>omega
    have hd3:zi (d - 2)<=d+1:=by unfold zi;split<;>omega
    rw [hd] at a;rw [hd1];exact aoN (d2:=d+1) a (b'.imp fun t ht=>ht.mono ah ah) (c'.imp fun t ht=>ht.mono ah ah) ah ah ah
def Pz:∀ d,Pg.Le (fP d) (eb d):=by
 intro d;induction d using Nat.strongRecOn with
 | _ d ih=>
  cases d with
  | zero=>exact aoM
  | succ d=>
   rw [ahu];have h3:3<=eb d:=by have:=Ue (a:=0) (c:=d) ah;rw [eb] at this;exact this
   exact aAH (kT d) (kT<|d - 1) (kT<|d - 2) (ih d ah) ((ih (d - 1) ah).mono<|Ue ah) ((ih (d - 2) ah).mono<|Ue ah) h3
section
set_option linter.unusedSectionVars false
variable (b:List UInt8) (hb:b.length<=1048576)
include hb
theorem aoO (i:Nat) (h:Int) (hi:i<=b.length):Sm b GJ (bN 0) i h (VH b ((i:Int),h)):=Sm.bind hi qo (JC b hb i h hi) fun x i h _ hi=>Sm.ret
theorem aoP (i:Nat) (h:Int) (hi:i<=b.length):Sm b LV (bN 0) i h (Rw b (i:Int) h):=by
 unfold Rw LV;refine Sm.bind hi (eZ 7) (vP b hb 7 i h hi) fun r i h _ hi=>?_;dsimp only;refine Sm.cond (fun _=>Sm.bind hi ahq (aAz b hb i h hi) fun x i h _ hi=>Sm.ret) fun _=>Sm.cond (fun _=>Sm.bind hi ahr (aAA b hb i h hi) fun x i h _ hi=>Sm.ret) fun _=>Sm.cond (fun _=>?_) fun _=>aoO b hb i h hi;refine Sm.bind hi (tF 2) (Uc b hb 2 i h hi) fun o i h _ hi=>?_;dsimp only;exact Sm.cond (fun _=>Sm.bind hi ahs (aAB b hb i h hi) fun x i h _ hi=>Sm.ret) fun _=>aoO b hb i h hi
theorem lX {α:Type} {N:Nat} (hN:1048577 < N) (k o:Int) (x y:List UInt8) (ts:List aA) (hs:aW ts<=900000) (i:Nat) (h:Int):Sm b (.ret (⟨k,o,x,y,ts⟩:aA)) (bN 0) i h ((iN N ⟨k,o,x,y,[]⟩<|ts.map<|bN 0).bind fun r=>some (r,(i:Int),h)):=by
 rw [aoQ N ⟨k,o,x,y,[]⟩ ts hN hs,av];exact Sm.ret
def XS (N d:Nat):Prop:=∀ (deep:Int) (i:Nat) (h:Int),deep.toNat=d-> -1000<=deep->deep<=1000->i<=b.length->Sm b (fP d) (bN 0) i h ((qV N).fq deep b (i:Int) h)
theorem aoR {N d:Nat} (hN:1048577 < N) (hd:d<=6) (h1:XS b N (d - 1)) (h2:XS b N (d - 2)) (deep:Int) (i:Nat) (h:Int) (hdp:deep.toNat=d) (g1: -900<=deep) (hi:i<=b.length):Sm b (Af (fP<|d - 1)<|fP<|d - 2) (bN 0) i h ((qV<|N+1).yI deep b (i:Int) h):=by
 have z1:pw (d - 1)<=4096:=EZ (a:=d - 1) (c:=6) ah;have z2:pw (d - 2)<=4096:=EZ (a:=d - 2) (c:=6) ah;show Sm b _ _ i h (VL N (qV N) deep b (i:Int) h);unfold VL Af;refine Sm.bind hi (eZ 4) (vP b hb 4 i h hi) fun r i h _ hi=>?_;dsimp only;refine Sm.cond (fun _=>?_) fun _=>Sm.cond (fun _=>?_) fun _=>Sm.bind hi qo (JC b hb i h hi) fun x i h _ hi=>Sm.ret
 .refine Sm.bind hi qo (JC b hb i h hi) fun x i h _ hi=>?_;dsimp only;rw [wrap64 (n:=deep - 1) ah ah];refine Sm.bind hi (kT<|d - 1) (h1 (deep - 1) i h ah ah ah hi) fun t i h ht hi=>?_;exact lX (α:=Unit) b hb hN 5 0 x [] [t] (by have:=ht.1;simp only [aW];omega) i h
 .rw [wrap64 (n:=deep - 2) ah ah];refine Sm.bind hi (kT<|d - 2) (h2 (deep - 2) i h ah ah ah hi) fun t i h ht hi=>?_;exact lX (α:=Unit) b hb hN 6 0 [] [] [t] (by have:=ht.1;simp only [aW];omega) i h
theorem aAI {N d:Nat} (hX:XS b N d) (deep:Int) (hdp:deep.toNat=d) (g1: -900<=deep) (g2:deep<=900):∀ (n c:Nat) (i:Nat) (h:Int) (acc:List (List aK)),c < n->acc.length+c<=100->i<=b.length->
  Sm b (qp (fP d) c) (fun ts=>acc++ts.map (bN 0)) i h (Nq N (qV N) b n (deep,(c:Int),(i:Int),h,acc)):=by
 intro n;induction n with
 | zero=>intro c i h acc hc;omega
 | succ n ih=>
  intro c i h acc hc ha hi;rw [Nq];cases c with
  | zero=>
   have:decide (((0:Nat):Int) > 0)=false:=rfl;rw [this,aG];show _=some (acc++[].map (bN 0),_,_);rw [zD,pQ];rfl
  | succ c=>
   have:decide (((c+1:Nat):Int) > 0)=true:=fU ah;rw [this,aH,qp];refine Sm.bind hi (kT d) (hX deep i h hdp ah ah hi) fun t i h ht hi=>?_;dsimp only;rw [gL bT,av,wrap64 ah ah,show ((c+1:Nat):Int) - 1=(c:Int) by omega];have:=ih c i h (acc++[bN 0 t]) ah bT hi;unfold Sm at this ⊢;rw [this,Pg.run_bind];simp [Pg.run]
theorem acO {N d:Nat} (hN:200 < N) (hX:XS b N d) (lo hi':Nat) (hl:lo<=hi') (hh:hi'<=90) (deep:Int) (hdp:deep.toNat=d) (g1: -900<=deep) (g2:deep<=900) (i:Nat) (h:Int) (hi:i<=b.length):
  Sm b (Ag (lo:Int) (hi':Int)<|fP d) (fun ts=>ts.map<|bN 0) i h ((qV<|N+1).wI (lo:Int) (hi':Int) deep b (i:Int) h):=by
 show Sm b _ _ i h (VK N (qV N) (lo:Int) (hi':Int) deep b (i:Int) h);unfold VK Ag;rw [wrap64 (n:=(hi':Int) - lo) ah ah,wrap64 (n:=(hi':Int) - lo+1) ah ah];refine Sm.bind hi (eZ _) (vP b hb _ i h hi) fun r i h hr hi=>?_;dsimp only;obtain ⟨c,rfl⟩:=qL hr.1;have hc:c<=hi' - lo:=by rcases hr.2 with h|h<;>omega
 rw [wrap64 ah ah,show (lo:Int)+(c:Int)=((lo+c:Nat):Int) by omega,Ho];have:=aAI b hb hX deep hdp g1 g2 N (lo+c) i h [] ah bT hi;exact this
theorem aAJ {N:Nat} (hN:1<=N):XS b N 0:=by
 intro deep i h hd h1 h2 hi;obtain ⟨N,rfl⟩:∃ m,N=m+1:=⟨N - 1,ah⟩
 show Sm b _ _ i h (Nr N (qV N) deep b (i:Int) h);unfold Nr;have:decide (deep<=0)=true:=fU ah;rw [this,aH];exact DF (aoP b hb i h hi)
theorem aAK {N d:Nat} (hN:1048577 < N) (hdd:d<=5) (hA:∀ e,e<=d->XS b (N+1) e) (hB:∀ e,e<=d->XS b N e):XS b (N+1+1) (d+1):=by
 intro deep i h hd g1 g2 hi;have hp:=ahm d;have hpb:pw d<=4096:=EZ (a:=d) (c:=6) ah;have aJV:pw (d - 1)<=4096:=EZ (a:=d - 1) (c:=6) ah;have aJW:pw (d - 2)<=4096:=EZ (a:=d - 2) (c:=6) ah;have w1:IntKind.wrap .i64 (deep - 1)=deep - 1:=wrap64 ah ah;have w2:IntKind.wrap .i64 (deep - 2)=deep - 2:=wrap64 ah ah;show Sm b _ _ i h (Nr (N+1) (qV<|N+1) deep b (i:Int) h);rw [ahu];unfold Nr Yn;have:decide (deep<=0)=false:=nE ah;rw [this,aG];have e1:∀ (i:Nat) h,i<=b.length->Sm b (fP d) (bN 0) i h ((qV<|N+1).fq (deep - 1) b (i:Int) h):=fun i h hi=>hA d ah (deep - 1) i h ah ah ah hi;have lv0:∀ (i:Nat) h,i<=b.length->Sm b (Af (fP d)<|fP<|d - 1) (bN 0) i h ((qV<|N+1).yI deep b (i:Int) h):=fun i h hi=>by
  have:=aoR b hb (d:=d+1) hN ah (by rw [ajA];exact hB d ah) (hB (d+1 - 2) ah) deep i h hd ah hi;rw [ajA,show d+1 - 2=d - 1 by omega] at this;exact this
 have lv1:∀ (i:Nat) h,i<=b.length->Sm b (Af (fP<|d - 1)<|fP<|d - 2) (bN 0) i h ((qV<|N+1).yI (deep - 1) b (i:Int) h):=fun i h hi=>
  aoR b hb (d:=d) hN ah (hB (d - 1) ah) (hB (d - 2) ah) (deep - 1) i h ah ah hi
 have Yo:∃ m D,m<=5000/\Pg.Post (Gd m D) (Af (fP<|d - 1)<|fP<|d - 2):=⟨pw d+1,zi (d - 1)+zi (d - 2)+1,ah,ahw ((kT<|d - 1).imp fun t ht=>ht.mono (EZ ah) ah) ((kT<|d - 2).imp fun t ht=>ht.mono (EZ ah) ah) ah⟩
 obtain ⟨ml,dl,hml,Yo⟩:=Yo;have pI:∀ l:List Int,0 < l.length->Pg.Post (fun _=>True) (DI l):=fun l hl=>Ua l hl fun _ _=>trivial;refine Sm.bind hi (eZ 2) (vP b hb 2 i h hi) fun a i h ha hi=>?_;dsimp only;refine Sm.bind hi (eZ 16) (vP b hb 16 i h hi) fun r i h hr hi=>?_;dsimp only;have wa:IntKind.wrap .i64 (51+a)=51+a:=wrap64 ah ah;rw [wa];have hK:∀ y:Bool,Sm b (Ud (fP d) (fP<|d - 1) (fP<|d - 2) r y) (bN 0) i h (Ry (N+1) (qV<|N+1) b (deep,(r,(i:Int),h),y)):=fun y=>by
  unfold Ry Ud;dsimp only;rw [w1];refine Sm.cond (fun _=>?_) fun _=>Sm.cond (fun _=>?_) fun _=>Sm.cond (fun _=>?_) fun _=>Sm.cond (fun _=>?_) fun _=>?_
  .refine Sm.bind hi (pI _ aD) (Yk b hb _ aD i h hi) fun o i h _ hi=>?_;dsimp only;refine Sm.bind hi (kT d) (e1 i h hi) fun t i h ht hi=>?_;exact lX (α:=Unit) b hb ah 11 o [] [] [t] (by have:=ht.1;simp only [aW];omega) i h
  .refine Sm.bind hi qo (JC b hb i h hi) fun x i h _ hi=>?_;dsimp only;refine Sm.bind hi (DJ (kT d) 1 2 ah) (acO b hb (N:=N) ah (hB d ah) 1 2 ah ah (deep - 1) ah ah ah i h hi) fun ts i h hts hi=>?_;exact lX (α:=Unit) b hb ah 13 0 x [] ts (by have:=hts.2.2.1;omega) i h
  .refine Sm.bind hi (kT d) (e1 i h hi) fun t i h ht hi=>?_;dsimp only;refine Sm.bind hi (kT d) (e1 i h hi) fun u i h hu hi=>?_;dsimp only;refine Sm.bind hi (kT d) (e1 i h hi) fun v i h hv hi=>?_;exact lX (α:=Unit) b hb ah 14 0 [] [] [t,u,v] (by have:=ht.1;have:=hu.1;have:=hv.1;simp only [aW];omega) i h
  .refine Sm.bind hi (pI _ aD) (Yk b hb _ aD i h hi) fun o i h _ hi=>?_;dsimp only;refine Sm.bind hi Yo (lv1 i h hi) fun t i h ht hi=>?_;dsimp only;refine Sm.bind hi (kT d) (e1 i h hi) fun u i h hu hi=>?_;exact lX (α:=Unit) b hb ah 15 o [] [] [t,u] (by have:=ht.1;have:=hu.1;simp only [aW];omega) i h
  .refine Sm.bind hi aht (aAC b hb i h hi) fun o i h _ hi=>?_;dsimp only;refine Sm.bind hi (kT d) (e1 i h hi) fun t i h ht hi=>?_;dsimp only;refine Sm.bind hi (kT d) (e1 i h hi) fun u i h hu hi=>?_;exact lX (α:=Unit) b hb ah 12 o [] [] [t,u] (by have:=ht.1;have:=hu.1;simp only [aW];omega) i h
 refine Sm.cond (fun _=>DF<|aoP b hb i h hi) fun _=>Sm.cond (fun _=>DF<|lv0 i h hi) fun _=>Sm.cond (fun _=>?_) fun _=>Sm.cond (fun _=>?_) fun _=>Sm.cond (fun _=>?_) fun _=>Sm.cond (fun _=>?_) fun _=>Sm.cond (fun _=>?_) fun _=>Sm.cond (fun _=>hK _) fun _=>hK _
 .rw [w1];refine Sm.bind hi (kT d) (e1 i h hi) fun t i h ht hi=>?_;exact lX (α:=Unit) b hb ah 6 0 [] [] [t] (by have:=ht.1;simp only [aW];omega) i h
 .refine Sm.bind hi qo (JC b hb i h hi) fun x i h _ hi=>?_;dsimp only;rw [w1];refine Sm.bind hi (DJ (kT d) 0 3 ah) (acO b hb (N:=N) ah (hB d ah) 0 3 ah ah (deep - 1) ah ah ah i h hi) fun ts i h hts hi=>?_;exact lX (α:=Unit) b hb ah 7 0 x [] ts (by have:=hts.2.2.1;omega) i h
 .refine Sm.bind hi (uD _ aD aD) (JB b hb _ aD i h hi) fun x i h _ hi=>?_;dsimp only;rw [w2];refine Sm.bind hi (DJ (kT<|d - 1) 0 3 ah) (acO b hb (N:=N) ah (hB (d - 1) ah) 0 3 ah ah (deep - 2) ah ah ah i h hi) fun ts i h hts hi=>?_;exact lX (α:=Unit) b hb ah 8 0 x [] ts (by have:=hts.2.2.1;omega) i h
 .rw [w1];refine Sm.bind hi Yo (lv1 i h hi) fun t i h ht hi=>?_;exact lX (α:=Unit) b hb ah 9 (51+a) [] [] [t] (by have:=ht.1;simp only [aW];omega) i h
 .rw [w1];refine Sm.bind hi Yo (lv1 i h hi) fun t i h ht hi=>?_;exact lX (α:=Unit) b hb ah 10 (51+a) [] [] [t] (by have:=ht.1;simp only [aW];omega) i h
theorem xs_all:∀ (d N:Nat),d<=6->1048580+3*d<=N->XS b N d:=by
 intro d;induction d using Nat.strongRecOn with
 | _ d ih=>
  intro N hd hN;cases d with
  | zero=>exact aAJ b hb ah
  | succ d=>
   obtain ⟨N,rfl⟩:∃ m,N=m+1+1:=⟨N - 2,ah⟩
   exact aAK b hb ah ah (fun e he=>ih e ah (N+1) ah ah) (fun e he=>ih e ah N ah ah)
theorem aoS (N d:Nat) (hd:d<=6) (hN:1048700<=N) (deep:Int) (hdp:deep.toNat=d) (g1: -1000<=deep) (g2:deep<=1000) (i:Nat) (h:Int) (hi:i<=b.length):Sm b (fP d) (bN 0) i h (fq N deep b (i:Int) h):=xs_all b hb d N hd ah deep i h hdp g1 g2 hi
theorem ahz (N d:Nat) (hd:d<=6) (hN:1048700<=N) (lo hi':Nat) (hl:lo<=hi') (hh:hi'<=90) (deep:Int) (hdp:deep.toNat=d) (g1: -900<=deep) (g2:deep<=900) (i:Nat) (h:Int) (hi:i<=b.length):
  Sm b (Ag (lo:Int) (hi':Int)<|fP d) (fun ts=>ts.map<|bN 0) i h (wI N (lo:Int) (hi':Int) deep b (i:Int) h):=by
 obtain ⟨N,rfl⟩:∃ m,N=m+1:=⟨N - 1,ah⟩
 exact acO b hb ah (xs_all b hb d N hd ah) lo hi' hl hh deep hdp g1 g2 i h hi
def vQ:Pg aA:=(kR 4).bind fun r=>fP (1+r).toNat
def fits (m:Nat) (t:aA):Bool:=Nat.ble (aZ t) m
omit hb in
theorem aAM:Pg.Post (Gd 256 6) vQ:=(eZ 4).bind fun r hr=>(kT _).imp fun t ht=>ht.mono (EZ (a:=(1+r).toNat) (c:=4) ah) (by unfold zi;split<;>omega)
omit hb in
theorem aAN:Pg.Le vQ 404:=Pg.eH.bind (eZ 4) (below_le 4 ah) (m:=403) (fun r hr=>(Pz _).mono<|Ue (a:=(1+r).toNat) (c:=4) ah) ah
theorem aAO {N:Nat} (hN:1048700<=N):∀ (n i:Nat) (h:Int),i<=b.length->Nu N b n ((i:Int),h)=(Pg.loop b vQ (fits 60) n i h).map fun r=>(bN 0 r.1,(r.2.1:Int),r.2.2):=by
 intro n;induction n with
 | zero=>intro i h hi;rfl
 | succ n ih=>
  intro i h hi;have hs:Sm b vQ (bN 0) i h ((jJ 4 b (i:Int) h).bind fun r9=>fq N (IntKind.wrap .i64<|1+r9.1) b r9.2.1 r9.2.2):=by
   refine Sm.bind hi (eZ 4) (vP b hb 4 i h hi) fun r i h hr hi=>?_;dsimp only;rw [wrap64 ah ah];exact aoS b hb N _ ah hN (1+r) rfl ah ah i h hi
  rw [Nu,Pg.loop];unfold Sm at hs;have e:∀ g:(List aK×Int×Int)->Option (List aK×Int×Int),((jJ 4 b (i:Int) h).bind fun r9=>Option.bind (fq N (IntKind.wrap .i64<|1+r9.1) b r9.2.1 r9.2.2) g)=Option.bind ((jJ 4 b (i:Int) h).bind fun r9=>fq N (IntKind.wrap .i64<|1+r9.1) b r9.2.1 r9.2.2) g:=fun g=>by
   cases jJ 4 b (i:Int) h<;>rfl
  rw [e,hs,av];dsimp only;have hf:decide (((bN 0 (Pg.run b vQ i h).1).length:Int)<=60)=fits 60 (Pg.run b vQ i h).1:=by
   rw [BM];unfold fits;cases hc:Nat.ble (aZ (Pg.run b vQ i h).1) 60 with
   | true=>have:=Fy hc;exact fU ah
   | false=>refine nE fun hh=>?_;rw [ajF ah] at hc;cases hc
  rw [hf];cases fits 60 (Pg.run b vQ i h).1 with
  | true=>rfl
  | false=>rw [aG,aG];exact ih _ _ (Pg.GD b vQ i h hi)
end
def Uh (d:Nat):Pg aA:=(fP d).bind fun t=>.ret ⟨20,0,[],[],[t]⟩
def Ui (d:Nat) (r:Int) (y:Bool):Pg aA:=bif y then (kR 2).bind fun q=>(Ag q 3<|fP d).bind fun ts=>(BO 3).bind fun o=>bif o then (uz [[62],[62,62],[124]]).bind fun x=>(fP<|d - 1).bind fun t=>.ret ⟨21,q,[],x,ts++[t]⟩ else .ret ⟨21,q,[],[],ts⟩
 else bif r==2 then (DI [22,25,26]).bind fun k=>.ret ⟨k,0,[],[],[]⟩ else bif r==3 then (DI [23,24]).bind fun k=>(Ag 0 1<|fP d).bind fun ts=>.ret ⟨k,0,[],[],ts⟩ else bif r==4 then GI.bind fun x=>(Ag 0 2<|fP<|d - 1).bind fun ts=>.ret ⟨27,0,x,[],ts⟩
 else bif r==5 then (BO 2).bind fun o=>bif o then (uz [[35],[35,32,110,111,116,101],[35,120,32,61,32,49]]).bind fun x=>.ret ⟨34,0,x,[],[]⟩ else Uh d else Uh d
def Uj (d:Nat):Pg aA:=(kR 9).bind fun r=>bif r==0 then Ui d r (r==0) else Ui d r (r==1)
def LX (d:Nat):Pg aA:=(BO 3).bind fun o=>bif o then .ret ⟨16,0,[],[],[]⟩ else fP d
def tH (s:Pg aA):Pg aA:=(kR 3).bind fun r=>(qp s r.toNat).bind fun ts=>.ret ⟨33,0,[],[],ts⟩
def Yp (bl:Pg aA):Pg aA:=(kR 6).bind fun r=>bif r==0 then (fP 1).bind fun t=>bl.bind fun u=>.ret ⟨28,0,[],[],[t,u]⟩ else bif r==1 then (fP 1).bind fun t=>bl.bind fun u=>bl.bind fun v=>.ret ⟨28,0,[],[],[t,u,v]⟩ else bif r==2 then (fP 1).bind fun t=>bl.bind fun u=>.ret ⟨29,0,[],[],[t,u]⟩ else bif r==3 then bl.bind fun u=>(fP 1).bind fun t=>.ret ⟨30,0,[],[],[u,t]⟩
 else bif r==4 then (LX 2).bind fun t=>(LX 1).bind fun u=>(LX 1).bind fun v=>bl.bind fun w=>.ret ⟨31,0,[],[],[t,u,v,w]⟩ else (BO 2).bind fun o=>bif o then bl else GI.bind fun x=>GI.bind fun y=>bl.bind fun u=>.ret ⟨32,0,x,y,[u]⟩
def nP:Nat->Pg aA
 | 0=>Uj 0
 | d+1=>((BO 3).bind fun o=>.ret<|!o).bind fun y=>bif y then Uj (min (d+1) 2) else Yp (tH<|nP d)
def vR:Pg aA:=(kR 2).bind fun a=>(kR 8).bind fun r=>bif r==0 then (kR 2).bind fun q=>(tH<|nP (1+a).toNat).bind fun u=>.ret ⟨40+q,0,[],[],[u]⟩ else bif r==1 then (fP (1+a).toNat).bind fun t=>.ret ⟨42,1,[],[],[t]⟩ else bif r==2 then (tH<|nP (1+a).toNat).bind fun u=>.ret ⟨42,2,[],[],[u]⟩ else bif r==3 then (fP 1).bind fun t=>(fP 1).bind fun u=>.ret ⟨43,1,[],[],[t,u]⟩
 else bif r==4 then (fP 1).bind fun t=>(fP 1).bind fun u=>(tH<|nP (1+a).toNat).bind fun v=>.ret ⟨43,3,[],[],[t,u,v]⟩ else bif r==5 then (kR 3).bind fun q=>(qp GJ q.toNat).bind fun ws=>(uz [[102],[103],[109,97,120]]).bind fun x=>(tH<|nP (1+a).toNat).bind fun u=>.ret ⟨44,0,x,[],ws++[u]⟩
 else bif r==6 then (uz [[35,32,116,111,112],[35]]).bind fun x=>.ret ⟨34,0,x,[],[]⟩ else (fP (1+a).toNat).bind fun t=>(tH<|nP (1+a).toNat).bind fun u=>.ret ⟨42,3,[],[],[t,u]⟩
def lY:Pg aA:=(kR 4).bind fun r=>(qp vR r.toNat).bind fun ts=>.ret ⟨45,0,[],[],ts⟩
def Yq {α:Type} {p:Pg α} {P:α->Prop} (h:Pg.Post P p):Pg.Post (fun _=>True) p:=h.imp fun _ _=>trivial
def Uk (l:List Int) (h:0 < l.length):Pg.Post (fun _=>True) (DI l):=Ua l h fun _ _=>trivial
def ahA:∀ (a c:List aA) (d:Nat),jm a<=d->jm c<=d->jm (a++c)<=d
 | [],_,_,_,h=>h
 | t::a,c,d,h1,h2=>by
  simp only [wm,jm] at h1 ⊢;have:=ahA a c d ah h2;omega
def mk0 {m d:Nat} {k o:Int} {x:List UInt8} (hx:Sh x) (hm:1<=m) (hd:1<=d):Gd m d ⟨k,o,x,[],[]⟩:=Gd.mk hx jc (by simp only [aW];omega) (by simp only [jm];omega) fun t ht=>by cases ht
def DK {d:Nat} (h:d<=2):Pg.Post (Gd 16 4) (fP d):=(kT d).imp fun t ht=>ht.mono (EZ (a:=d) (c:=2) h) (by unfold zi;split<;>omega)
def aoT {d:Nat} (h:d<=2) (r:Int) (y:Bool):Pg.Post (Gd 70 5) (Ui d r y):=by
 have e:=DK h;have e1:=DK (d:=d - 1) ah;have hK:Pg.Post (Gd 70 5) (Uh d):=e.bind fun t ht=>.ret (mk1 jc ht ah ah);refine iw ?_ (iw ?_ (iw ?_ (iw ?_ (iw ?_ hK))))
 .refine (eZ 2).bind fun q hq=>?_;obtain ⟨q,rfl⟩:=qL hq.1;refine (DJ e q 3 ah).bind fun ts hts=>(tF 3).bind fun o _=>iw ((uD _ aD aD).bind fun x hx=>e1.bind fun t ht=>.ret ?_) (.ret<|Ug jc hts ah ah);refine Gd.mk jc hx ?_ ?_ fun t' ht'=>?_
  .have:=hts.2.2.1;have:=ht.1;rw [JD];simp only [aW];omega
  .have:=ahA ts [t] 4 hts.2.2.2.1 (by have:=ht.2.1;simp only [jm];omega);omega
  .rcases jo.1 ht' with h|h
   .exact hts.2.2.2.2 t' h
   .rw [nG.1 h];exact ht.2.2
 .exact (Uk _ aD).bind fun k _=>.ret (mk0 jc ah ah)
 .exact (Uk _ aD).bind fun k _=>(DJ e 0 1 ah).bind fun ts hts=>.ret (Ug jc hts ah ah)
 .exact qo.bind fun x hx=>(DJ e1 0 2 ah).bind fun ts hts=>.ret (Ug hx hts ah ah)
 .exact (tF 2).bind fun o _=>iw ((uD _ aD aD).bind fun x hx=>.ret<|mk0 hx ah ah) hK
def aoU {d:Nat} (h:d<=2):Pg.Post (Gd 70 5) (Uj d):=(eZ 9).bind fun r _=>iw (aoT h r _) (aoT h r _)
def Ul {d:Nat} (h:d<=2):Pg.Post (Gd 16 4) (LX d):=(tF 3).bind fun o _=>iw (.ret<|mk0 jc ah ah) (DK h)
def Um {s:Pg aA} {m d:Nat} (h:Pg.Post (Gd m d) s):Pg.Post (Gd (2*m+1)<|d+1) (tH s):=(eZ 3).bind fun r hr=>(EY h _).bind fun ts hts=>.ret (by
 obtain ⟨g1,g2,g3⟩:=Yl hts.2;have hl:ts.length<=2:=by rw [hts.1];omega
 have:=vW m hl;exact Gd.mk jc jc ah ah g3)
def aAP {bl:Pg aA} {m d:Nat} (h:Pg.Post (Gd m d) bl) (hd:4<=d):Pg.Post (Gd (2*m+60)<|d+1) (Yp bl):=by
 have e:=DK (d:=1) ah;refine (eZ 6).bind fun r _=>iw ?_ (iw ?_ (iw ?_ (iw ?_ (iw ?_ ?_))))
 .exact e.bind fun t ht=>h.bind fun u hu=>.ret (mk2 jc ht hu ah ah)
 .exact e.bind fun t ht=>h.bind fun u hu=>h.bind fun v hv=>.ret (mk3 jc ht hu hv ah ah)
 .exact e.bind fun t ht=>h.bind fun u hu=>.ret (mk2 jc ht hu ah ah)
 .exact h.bind fun u hu=>e.bind fun t ht=>.ret (mk2 jc hu ht ah ah)
 .refine (Ul ah).bind fun t ht=>(Ul ah).bind fun u hu=>(Ul ah).bind fun v hv=>h.bind fun w hw=>.ret (Gd.mk jc jc ?_ ?_ fun t' ht'=>?_)
  .have:=ht.1;have:=hu.1;have:=hv.1;have:=hw.1;simp only [aW];omega
  .have:=ht.2.1;have:=hu.2.1;have:=hv.2.1;have:=hw.2.1;simp only [jm];omega
  .simp only [fF,MJ,MP] at ht';rcases ht' with rfl|rfl|rfl|rfl
   .exact ht.2.2
   .exact hu.2.2
   .exact hv.2.2
   .exact hw.2.2
 .refine (tF 2).bind fun o _=>iw (h.imp fun t ht=>ht.mono ah ah) (qo.bind fun x hx=>qo.bind fun y hy=>h.bind fun u hu=>.ret<|Gd.mk hx hy ?_ ?_ fun t' ht'=>?_)
  .have:=hu.1;simp only [aW];omega
  .have:=hu.2.1;simp only [jm];omega
  .rw [nG.1 ht'];exact hu.2.2
def ss:Nat->Nat
 | 0=>70
 | d+1=>4*ss d+62
def aoV:∀ d,70<=ss d
 | 0=>cZ _
 | d+1=>by have:=aoV d;rw [ss];omega
def DL:∀ d,Pg.Post (Gd (ss d)<|2*d+5) (nP d)
 | 0=>aoU ah
 | d+1=>by
  have h:=aoV d;refine Pg.Post.bind (Yq<|tF 3 |>.bind fun o _=>.ret (P:=fun _=>True) trivial) fun y _=>iw ((aoU ah).imp fun t ht=>ht.mono (by rw [ss];omega) ah) ((aAP (Um<|DL d) ah).imp fun t ht=>ht.mono (by rw [ss];omega) ah)
def acQ {a:Int} (h0:0<=a) (h1:a < 2):Pg.Post (Gd 2861 10) (tH<|nP (1+a).toNat):=by
 have:a=0\/a=1:=ah;rcases this with rfl|rfl
 .exact (Um<|DL 1).imp fun t ht=>ht.mono aD aD
 .exact (Um<|DL 2).imp fun t ht=>ht.mono aD aD
def acR:Pg.Post (Gd 2960 11) vR:=by
 refine (eZ 2).bind fun a ha=>?_;have hB:=acQ (a:=a) ha.1 ah;have e:=DK (d:=(1+a).toNat) ah;have e1:=DK (d:=1) ah;refine (eZ 8).bind fun r _=>iw ?_ (iw ?_ (iw ?_ (iw ?_ (iw ?_ (iw ?_ (iw ?_ ?_))))))
 .exact (eZ 2).bind fun q _=>hB.bind fun u hu=>.ret (mk1 jc hu ah ah)
 .exact e.bind fun t ht=>.ret (mk1 jc ht ah ah)
 .exact hB.bind fun t ht=>.ret (mk1 jc ht ah ah)
 .exact e1.bind fun t ht=>e1.bind fun u hu=>.ret (mk2 jc ht hu ah ah)
 .exact e1.bind fun t ht=>e1.bind fun u hu=>hB.bind fun v hv=>.ret (mk3 jc ht hu hv ah ah)
 .refine (eZ 3).bind fun q hq=>(EY Py _).bind fun ws hws=>(uD _ aD aD).bind fun x hx=>hB.bind fun u hu=>.ret ?_;obtain ⟨g1,g2,g3⟩:=Yl hws.2;have hl:ws.length<=2:=by rw [hws.1];omega
  refine Gd.mk hx jc ?_ ?_ fun t' ht'=>?_
  .have:=hu.1;rw [JD];simp only [aW];omega
  .have:=ahA ws [u] 10 ah (by have:=hu.2.1;simp only [jm];omega);omega
  .rcases jo.1 ht' with h|h
   .exact g3 t' h
   .rw [nG.1 h];exact hu.2.2
 .exact (uD _ aD aD).bind fun x hx=>.ret (mk0 hx ah ah)
 .exact e.bind fun t ht=>hB.bind fun u hu=>.ret (mk2 jc ht hu ah ah)
def aAQ:Pg.Post (Gd 9000 12) lY:=(eZ 4).bind fun r hr=>(EY acR _).bind fun ts hts=>.ret (by
 obtain ⟨g1,g2,g3⟩:=Yl hts.2;have hl:ts.length<=3:=by rw [hts.1];omega
 have:=vW 2960 hl;exact Gd.mk jc jc ah ah g3)
def aAR {e:Pg aA} {P:aA->Prop} {n:Nat} (h:Pg.Post P e) (g:Pg.Le e n) (q:Int) (h0:0<=q) (h3:q<=3):Pg.Le (Ag q 3 e) (3*n+1):=by
 obtain ⟨q,rfl⟩:=qL h0;exact Uf h g q 3 ah ah
def ahB {e:Pg aA} {P:aA->Prop} (h:Pg.Post P e) (lo hi:Int):Pg.Post (fun _=>True) (Ag lo hi e):=(eZ _).bind fun r _=>Yq (EY h _)
def aoW (d:Nat) (r:Int) (y:Bool):Pg.Le (Ui d r y) (3*eb d+eb (d - 1)+4):=by
 have g:=Pz d;have g1:=Pz (d - 1);have hle:=Ue (a:=d - 1) (c:=d) ah;have hK:Pg.Le (Uh d) (eb d):=jC (kT d) g;refine leB ?_ (leB ?_ (leB ?_ (leB ?_ (leB ?_ (hK.mono ah)))))
 .refine Pg.eH.bind (eZ 2) (below_le 2 ah) (m:=3*eb d+eb (d - 1)+3) (fun q hq=>?_) ah;refine Pg.eH.bind (ahB (kT d) q 3) (aAR (kT d) g q hq.1 ah) (m:=eb (d - 1)+2) (fun ts _=>?_) ah;refine Pg.eH.bind (tF 3) (TY 3 ah) (m:=eb (d - 1)+1) (fun o _=>leB ?_ .ret) ah;exact Pg.eH.bind (uD _ aD aD) (JA _ aD) (m:=eb (d - 1)) (fun x _=>jC (kT<|d - 1) g1) ah
 .exact (jC (Uk _ aD)<|Yi _ aD).mono ah
 .exact Pg.eH.bind (Uk _ aD) (Yi _ aD) (m:=1*eb d+1) (fun k _=>jC (ahB (kT d) 0 1)<|Uf (kT d) g 0 1 ah ah) ah
 .exact Pg.eH.bind qo Pv (m:=2*eb (d - 1)+1) (fun k _=>jC (ahB (kT<|d - 1) 0 2)<|Uf (kT<|d - 1) g1 0 2 ah ah) ah
 .exact Pg.eH.bind (tF 2) (TY 2 ah) (m:=3*eb d+1) (fun o _=>leB ((jC (uD _ aD aD)<|JA _ aD).mono ah)<|hK.mono ah) ah
def ahC (d:Nat):Pg.Le (Uj d) (3*eb d+eb (d - 1)+5):=Pg.eH.bind (eZ 9) (below_le 9 ah) (m:=3*eb d+eb (d - 1)+4) (fun r _=>leB (aoW d r _)<|aoW d r _) ah
def ahD (d:Nat):Pg.Le (LX d) (eb d+1):=Pg.eH.bind (tF 3) (TY 3 ah) (m:=eb d) (fun o _=>leB .ret<|Pz d) ah
def ahE (d:Nat):Pg.Post (fun _=>True) (LX d):=(tF 3).bind fun o _=>iw (.ret trivial) (Yq<|kT d)
def acS {s:Pg aA} {P:aA->Prop} {n:Nat} (h:Pg.Post P s) (g:Pg.Le s n):Pg.Le (tH s) (2*n+1):=Pg.eH.bind (eZ 3) (below_le 3 ah) (m:=2*n) (fun r hr=>jC (EY h _)<|(Ym h g _).mono<|vW n ah) ah
def aoX {bl:Pg aA} {P:aA->Prop} {n k:Nat} (h:Pg.Post P bl) (g:Pg.Le bl n) (h1:14+2*n<=k) (h2:73+n<=k):Pg.Le (Yp bl) k:=by
 have e:=Pz 1;have p:=kT 1;have e1:eb 1=13:=rfl;have e2:eb 2=43:=rfl;refine Pg.eH.bind (eZ 6) (below_le 6 ah) (m:=k - 1) (fun r _=>leB ?_ (leB ?_ (leB ?_ (leB ?_ (leB ?_ ?_))))) ah
 .exact Pg.eH.bind p e (m:=n) (fun t _=>jC h g) ah
 .exact Pg.eH.bind p e (m:=2*n) (fun t _=>Pg.eH.bind h g (m:=n) (fun u _=>jC h g) ah) ah
 .exact Pg.eH.bind p e (m:=n) (fun t _=>jC h g) ah
 .exact Pg.eH.bind h g (m:=13) (fun t _=>jC p e) ah
 .exact Pg.eH.bind (ahE 2) (ahD 2) (m:=28+n) (fun t _=>Pg.eH.bind (ahE 1) (ahD 1) (m:=14+n) (fun u _=>Pg.eH.bind (ahE 1) (ahD 1) (m:=n) (fun v _=>jC h g) ah) ah) ah
 .exact Pg.eH.bind (tF 2) (TY 2 ah) (m:=n+2) (fun o _=>leB (g.mono ah)<|Pg.eH.bind qo Pv (m:=n+1) (fun x _=>Pg.eH.bind qo Pv (m:=n) (fun y _=>jC h g) ah) ah) ah
def aoY:Pg.Le ((BO 3).bind fun o=>Pg.ret<|!o) 1:=jC (tF 3) (TY 3 ah)
def ahF:Pg.Post (fun _=>True) ((BO 3).bind fun o=>Pg.ret<|!o):=(tF 3).bind fun o _=>.ret trivial
def aAS:Pg.Le (nP 0) 17:=ahC 0
def aoZ:Pg.Le (nP 1) 109:=Pg.eH.bind ahF aoY (m:=108) (fun y _=>leB ((ahC<|min 1 2).mono aD)<|aoX (Yq<|Um<|DL 0) (acS (DL 0) aAS) ah ah) ah
def aAT:Pg.Le (nP 2) 453:=Pg.eH.bind ahF aoY (m:=452) (fun y _=>leB ((ahC<|min 2 2).mono aD)<|aoX (Yq<|Um<|DL 1) (acS (DL 1) aoZ) ah ah) ah
def aAU {a:Int} (h0:0<=a) (h1:a < 2):Pg.Le (tH<|nP (1+a).toNat) 907:=by
 have:a=0\/a=1:=ah;rcases this with rfl|rfl
 .exact (acS (DL 1) aoZ).mono aD
 .exact (acS (DL 2) aAT).mono aD
def aAV:Pg.Le vR 952:=by
 refine Pg.eH.bind (eZ 2) (below_le 2 ah) (m:=951) (fun a ha=>?_) ah;have hB:=acQ (a:=a) ha.1 ah;have gB:=aAU (a:=a) ha.1 ah;have p:=kT (1+a).toNat
 have p1:=kT 1;have e:Pg.Le (fP (1+a).toNat) 43:=(Pz _).mono (Ue (a:=(1+a).toNat) (c:=2) ah);have e1:Pg.Le (fP 1) 13:=Pz 1;refine Pg.eH.bind (eZ 8) (below_le 8 ah) (m:=950) (fun r _=>leB ?_ (leB ?_ (leB ?_ (leB ?_ (leB ?_ (leB ?_ (leB ?_ ?_))))))) ah
 .exact Pg.eH.bind (eZ 2) (below_le 2 ah) (m:=907) (fun q _=>jC hB gB) ah
 .exact (jC p e).mono ah
 .exact (jC hB gB).mono ah
 .exact Pg.eH.bind p1 e1 (m:=13) (fun t _=>jC p1 e1) ah
 .exact Pg.eH.bind p1 e1 (m:=920) (fun t _=>Pg.eH.bind p1 e1 (m:=907) (fun t _=>jC hB gB) ah) ah
 .exact Pg.eH.bind (eZ 3) (below_le 3 ah) (m:=910) (fun q hq=>Pg.eH.bind (EY Py _) ((Ym Py acM _).mono<|show q.toNat*1<=2 by omega) (m:=908) (fun ws _=>Pg.eH.bind (uD _ aD aD) (JA _ aD) (m:=907) (fun x _=>jC hB gB) ah) ah) ah
 .exact (jC (uD _ aD aD)<|JA _ aD).mono ah
 .exact Pg.eH.bind p e (m:=907) (fun t _=>jC hB gB) ah
def aAW:Pg.Le lY 2857:=Pg.eH.bind (eZ 4) (below_le 4 ah) (m:=2856) (fun r hr=>jC (EY acR _)<|(Ym acR aAV _).mono<|show r.toNat*952<=2856 by omega) ah
section
set_option linter.unusedSectionVars false
variable (b:List UInt8) (hb:b.length<=1048576) {N:Nat} (hN:1050000<=N)
include hb hN
theorem Un {d:Nat} (hd:d<=6) (deep:Int) (hdp:deep.toNat=d) (g1: -1000<=deep) (g2:deep<=1000) (i:Nat) (h:Int) (hi:i<=b.length):Sm b (fP d) (bN 0) i h (fq N deep b (i:Int) h):=aoS b hb N d hd ah deep hdp g1 g2 i h hi
theorem apa {d:Nat} (hd:d<=2) (deep:Int) (hdp:deep.toNat=d) (g1: -800<=deep) (i:Nat) (h:Int) (hi:i<=b.length):Sm b (Uh d) (bN 0) i h (RH N b (deep,(i:Int),h)):=by
 unfold RH Uh;refine Sm.bind hi (DK hd) (Un b hb hN ah deep hdp ah ah i h hi) fun t i h ht hi=>?_;exact lX (α:=Unit) b hb ah 20 0 [] [] [t] (by have:=ht.1;simp only [aW];omega) i h
theorem apb {d:Nat} (hd:d<=2) (deep:Int) (hdp:deep.toNat=d) (g1: -800<=deep) (r:Int) (y:Bool) (i:Nat) (h:Int) (hi:i<=b.length):Sm b (Ui d r y) (bN 0) i h (RJ N b (deep,(r,(i:Int),h),y)):=by
 have e:=DK hd;have e1:=DK (d:=d - 1) ah;have w1:IntKind.wrap .i64 (deep - 1)=deep - 1:=wrap64 ah ah;unfold RJ Ui;dsimp only;refine Sm.cond (fun _=>?_) fun _=>Sm.cond (fun _=>?_) fun _=>Sm.cond (fun _=>?_) fun _=>Sm.cond (fun _=>?_) fun _=>Sm.cond (fun _=>?_) fun _=>apa b hb hN hd deep hdp g1 i h hi
 .refine Sm.bind hi (eZ 2) (vP b hb 2 i h hi) fun q i h hq hi=>?_;obtain ⟨q,rfl⟩:=qL hq.1;dsimp only;refine Sm.bind hi (DJ e q 3 ah) (ahz b hb N d ah ah q 3 ah ah deep hdp ah ah i h hi) fun ts i h hts hi=>?_;dsimp only;refine Sm.bind hi (tF 3) (Uc b hb 3 i h hi) fun o i h _ hi=>?_;dsimp only;refine Sm.cond (fun _=>?_) fun _=>?_
  .refine Sm.bind hi (uD _ aD aD) (JB b hb _ aD i h hi) fun x i h _ hi=>?_;dsimp only;rw [w1];refine Sm.bind hi e1 (Un b hb hN ah (deep - 1) ah ah ah i h hi) fun t i h ht hi=>?_;dsimp only;rw [gL (by have:=hts.2.1;simp;omega),av];unfold RI;dsimp only;have:=lX (α:=Unit) b hb (N:=N) ah 21 (q:Int) [] x (ts++[t]) (by have:=ht.1;have:=hts.2.2.1;rw [JD];simp only [aW];omega) i h;rw [vZ] at this;exact this
  .unfold RI;dsimp only;exact lX (α:=Unit) b hb ah 21 (q:Int) [] [] ts (by have:=hts.2.2.1;omega) i h
 .exact Sm.bind hi (Uk _ aD) (Yk b hb _ aD i h hi) fun k i h _ hi=>Sm.ret
 .refine Sm.bind hi (Uk _ aD) (Yk b hb _ aD i h hi) fun k i h _ hi=>?_;dsimp only;refine Sm.bind hi (DJ e 0 1 ah) (ahz b hb N d ah ah 0 1 ah ah deep hdp ah ah i h hi) fun ts i h hts hi=>?_;exact lX (α:=Unit) b hb ah k 0 [] [] ts (by have:=hts.2.2.1;omega) i h
 .refine Sm.bind hi qo (JC b hb i h hi) fun x i h _ hi=>?_;dsimp only;rw [w1];refine Sm.bind hi (DJ e1 0 2 ah) (ahz b hb N (d - 1) ah ah 0 2 ah ah (deep - 1) ah ah ah i h hi) fun ts i h hts hi=>?_;exact lX (α:=Unit) b hb ah 27 0 x [] ts (by have:=hts.2.2.1;omega) i h
 .refine Sm.bind hi (tF 2) (Uc b hb 2 i h hi) fun o i h _ hi=>?_;dsimp only;exact Sm.cond (fun _=>Sm.bind hi (uD _ aD aD) (JB b hb _ aD i h hi) fun x i h _ hi=>Sm.ret) fun _=>apa b hb hN hd deep hdp g1 i h hi
theorem apc {d:Nat} (hd:d<=2) (deep:Int) (hdp:deep.toNat=d) (g1: -800<=deep) (i:Nat) (h:Int) (hi:i<=b.length):Sm b (Uj d) (bN 0) i h (VP N deep b (i:Int) h):=by
 unfold VP Uj;refine Sm.bind hi (eZ 9) (vP b hb 9 i h hi) fun r i h _ hi=>?_;dsimp only;exact Sm.cond (fun _=>apb b hb hN hd deep hdp g1 r _ i h hi) fun _=>apb b hb hN hd deep hdp g1 r _ i h hi
theorem ahG {d:Nat} (hd:d<=2) (i:Nat) (h:Int) (hi:i<=b.length):Sm b (LX d) (bN 0) i h (FX N (d:Int) b (i:Int) h):=by
 unfold FX LX;refine Sm.bind hi (tF 3) (Uc b hb 3 i h hi) fun o i h _ hi=>?_;dsimp only;exact Sm.cond (fun _=>Sm.ret) fun _=>DF (Un b hb hN ah (d:Int) ah ah ah i h hi)
def SS (M d:Nat):Prop:=∀ (deep:Int) (i:Nat) (h:Int),deep.toNat=d-> -700<=deep->i<=b.length->Sm b (nP d) (bN 0) i h ((qW M).CK deep b (i:Int) h)
def BS (M d:Nat):Prop:=∀ (deep:Int) (i:Nat) (h:Int),deep.toNat=d-> -700<=deep->i<=b.length->Sm b (tH<|nP d) (bN 0) i h ((qW M).jh deep b (i:Int) h)
theorem aAX {M d:Nat} (hM:1048577 < M) (hd:d<=4) (hS:SS b M d) (deep:Int) (hdp:deep.toNat=d) (g1: -700<=deep):∀ (n c:Nat) (i:Nat) (h:Int) (acc:List aA),c < n->acc.length+c<=3->aW acc<=acc.length*ss d->i<=b.length->
  Sm b ((qp (nP d) c).bind fun ts=>.ret (⟨33,0,[],[],acc++ts⟩:aA)) (bN 0) i h (Nw M (qW M) b n (deep,(c:Int),(i:Int),h,acc.map<|bN 0)):=by
 have hss:ss d<=100000:=by
  have:d=0\/d=1\/d=2\/d=3\/d=4:=ah;rcases this with rfl|rfl|rfl|rfl|rfl<;>decide
 intro n;induction n with
 | zero=>intro c i h acc hc;omega
 | succ n ih=>
  intro c i h acc hc ha hs hi;rw [Nw];cases c with
  | zero=>
   have:decide (((0:Nat):Int) > 0)=false:=rfl;rw [this,aG];show Sm b (.ret (⟨33,0,[],[],acc++[]⟩:aA)) _ _ _ _;rw [pQ];exact lX (α:=Unit) b hb hM 33 0 [] [] acc (by have:=vW (ss d) (show acc.length<=3 by omega);omega) i h
  | succ c=>
   have:decide (((c+1:Nat):Int) > 0)=true:=fU ah;rw [this,aH,qp];have key:∀ t:aA,(qp (nP d) c).bind (fun ts=>Pg.ret (⟨33,0,[],[],acc++(t::ts)⟩:aA))=(qp (nP d) c).bind fun ts=>Pg.ret (⟨33,0,[],[],(acc++[t])++ts⟩:aA):=fun t=>by
    congr 1;funext ts;rw [kC];rfl
   have assoc:∀ (p:Pg aA) (f:aA->Pg (List aA)) (g:List aA->Pg aA),(p.bind f).bind g=p.bind fun a=>(f a).bind g:=fun p f g=>by
    induction p with
    | ret a=>rfl
    | rd k ih=>simp only [Pg.bind,ih]
   have aAY:∀ (p:Pg (List aA)) (f:List aA->Pg (List aA)) (g:List aA->Pg aA),(p.bind f).bind g=p.bind fun a=>(f a).bind g:=fun p f g=>by
    induction p with
    | ret a=>rfl
    | rd k ih=>simp only [Pg.bind,ih]
   rw [assoc];refine Sm.bind hi (DL d) (hS deep i h hdp g1 hi) fun t i h ht hi=>?_;dsimp only;rw [gL bT,av,wrap64 ah ah,show ((c+1:Nat):Int) - 1=(c:Int) by omega,aAY];have:=ih c i h (acc++[t]) ah bT (by rw [JD,jQ,QD,wh];have:=ht.1;simp only [aW];omega) hi;rw [vZ] at this;show Sm b ((qp (nP d) c).bind fun ts=>Pg.ret (⟨33,0,[],[],acc++(t::ts)⟩:aA)) _ _ _ _;rw [key t];exact this
theorem apd {M d:Nat} (hM:1048577 < M) (hd:d<=4) (hS:SS b M d):BS b (M+1) d:=by
 intro deep i h hdp g1 hi;show Sm b _ _ i h (VQ M (qW M) deep b (i:Int) h);unfold VQ tH;refine Sm.bind hi (eZ 3) (vP b hb 3 i h hi) fun r i h hr hi=>?_;obtain ⟨c,rfl⟩:=qL hr.1;dsimp only;rw [Ho];exact aAX b hb hN hM hd hS deep hdp g1 M c i h [] ah bT (by simp [aW]) hi
theorem aAZ {M:Nat} (hM:1050000<=M):SS b (M+1) 0:=by
 intro deep i h hdp g1 hi;show Sm b _ _ i h (Ny M (qW M) deep b (i:Int) h);unfold Ny;rw [fU (show deep<=0 by omega),aH,av];have e:(if 2 < deep then 2 else deep)=deep:=bI ah;dsimp only;rw [aH,e];exact DF (apc b hb (N:=M) ah ah deep hdp ah i h hi)
theorem aBa {M d:Nat} (hM:1050000<=M) (hd:d<=3) (deep:Int) (hdp:deep.toNat=d+1) (hB:BS b M d) (i:Nat) (h:Int) (hi:i<=b.length) (f:(Int×Int×Int)->Option (List aK×Int×Int))
  (hf:f=fun fO=>bif (fO.1==0) then (fq M 1 b fO.2.1 fO.2.2).bind fun iD=>((qW M).jh (IntKind.wrap .i64<|deep - 1) b iD.2.1 iD.2.2).bind fun mH=>(iN M (⟨28,0,[],[],[]⟩:aK) [iD.1,mH.1]).bind fun rU=>some (rU,mH.2.1,mH.2.2) else (bif (fO.1==1) then (fq M 1 b fO.2.1 fO.2.2).bind fun mX=>((qW M).jh (IntKind.wrap .i64<|deep - 1) b mX.2.1 mX.2.2).bind fun qC=>((qW M).jh (IntKind.wrap .i64<|deep - 1) b qC.2.1 qC.2.2).bind fun bP=>(iN M (⟨28,0,[],[],[]⟩:aK) [mX.1,qC.1,bP.1]).bind fun tZ=>some (tZ,bP.2.1,bP.2.2) else (bif (fO.1==2) then (fq M 1 b fO.2.1 fO.2.2).bind fun qc=>((qW M).jh (IntKind.wrap .i64<|deep - 1) b qc.2.1 qc.2.2).bind fun Bg=>(iN M (⟨29,0,[],[],[]⟩:aK) [qc.1,Bg.1]).bind fun lN=>some (lN,Bg.2.1,Bg.2.2) else (bif (fO.1==3) then ((qW M).jh (IntKind.wrap .i64<|deep - 1) b fO.2.1 fO.2.2).bind fun nJ=>(fq M 1 b nJ.2.1 nJ.2.2).bind fun vk=>(iN M (⟨30,0,[],[],[]⟩:aK) [nJ.1,vk.1]).bind fun tY=>some (tY,vk.2.1,vk.2.2) else (bif (fO.1==4) then (FX M 2 b fO.2.1 fO.2.2).bind fun oG=>(FX M 1 b oG.2.1 oG.2.2).bind fun vo=>(FX M 1 b vo.2.1 vo.2.2).bind fun qB=>((qW M).jh (IntKind.wrap .i64<|deep - 1) b qB.2.1 qB.2.2).bind fun sV=>(iN M (⟨31,0,[],[],[]⟩:aK) [oG.1,vo.1,qB.1,sV.1]).bind fun sU=>some (sU,sV.2.1,sV.2.2) else ((zI 2 b fO.2.1 fO.2.2).bind fun lC=>bif lC.1 then ((qW M).jh (IntKind.wrap .i64<|deep - 1) b lC.2.1 lC.2.2).bind fun jS=>some (jS.1,jS.2.1,jS.2.2) else ((zJ b lC.2.1 lC.2.2).bind fun Er=>(zJ b Er.2.1 Er.2.2).bind fun oQ=>((qW M).jh (IntKind.wrap .i64<|deep - 1) b oQ.2.1 oQ.2.2).bind fun Bc=>(iN M (⟨32,0,Er.1,oQ.1,[]⟩:aK) [Bc.1]).bind fun mW=>some (mW,Bc.2.1,Bc.2.2)))))))):
  Sm b (Yp<|tH<|nP d) (bN 0) i h (Option.bind (jJ 6 b (i:Int) h) f):=by
 have hss:ss d<=100000:=by
  have:d=0\/d=1\/d=2\/d=3:=ah;rcases this with rfl|rfl|rfl|rfl<;>decide
 have w1:IntKind.wrap .i64 (deep - 1)=deep - 1:=wrap64 ah ah;have e:=DK (d:=1) ah;have e1:∀ (i:Nat) h,i<=b.length->Sm b (fP 1) (bN 0) i h (fq M 1 b (i:Int) h):=fun i h hi=>Un b hb (N:=M) ah ah 1 rfl ah ah i h hi;have p:=Um (DL d);have g:∀ (i:Nat) h,i<=b.length->Sm b (tH<|nP d) (bN 0) i h ((qW M).jh (deep - 1) b (i:Int) h):=fun i h hi=>hB (deep - 1) i h ah ah hi;subst hf;rw [w1];unfold Yp;refine Sm.bind hi (eZ 6) (vP b hb 6 i h hi) fun r i h _ hi=>?_;dsimp only;refine Sm.cond (fun _=>?_) fun _=>Sm.cond (fun _=>?_) fun _=>Sm.cond (fun _=>?_) fun _=>Sm.cond (fun _=>?_) fun _=>Sm.cond (fun _=>?_) fun _=>?_
 .refine Sm.bind hi e (e1 i h hi) fun t i h ht hi=>?_;dsimp only;refine Sm.bind hi p (g i h hi) fun u i h hu hi=>?_;exact lX (α:=Unit) b hb ah 28 0 [] [] [t,u] (by have:=ht.1;have:=hu.1;simp only [aW];omega) i h
 .refine Sm.bind hi e (e1 i h hi) fun t i h ht hi=>?_;dsimp only;refine Sm.bind hi p (g i h hi) fun u i h hu hi=>?_;dsimp only;refine Sm.bind hi p (g i h hi) fun v i h hv hi=>?_;exact lX (α:=Unit) b hb ah 28 0 [] [] [t,u,v] (by have:=ht.1;have:=hu.1;have:=hv.1;simp only [aW];omega) i h
 .refine Sm.bind hi e (e1 i h hi) fun t i h ht hi=>?_;dsimp only;refine Sm.bind hi p (g i h hi) fun u i h hu hi=>?_;exact lX (α:=Unit) b hb ah 29 0 [] [] [t,u] (by have:=ht.1;have:=hu.1;simp only [aW];omega) i h
 .refine Sm.bind hi p (g i h hi) fun u i h hu hi=>?_;dsimp only;refine Sm.bind hi e (e1 i h hi) fun t i h ht hi=>?_;exact lX (α:=Unit) b hb ah 30 0 [] [] [u,t] (by have:=ht.1;have:=hu.1;simp only [aW];omega) i h
 .refine Sm.bind hi (Ul ah) (ahG b hb (N:=M) ah (d:=2) ah i h hi) fun t i h ht hi=>?_;dsimp only;refine Sm.bind hi (Ul ah) (ahG b hb (N:=M) ah (d:=1) ah i h hi) fun u i h hu hi=>?_;dsimp only;refine Sm.bind hi (Ul ah) (ahG b hb (N:=M) ah (d:=1) ah i h hi) fun v i h hv hi=>?_;dsimp only;refine Sm.bind hi p (g i h hi) fun w i h hw hi=>?_;exact lX (α:=Unit) b hb ah 31 0 [] [] [t,u,v,w] (by have:=ht.1;have:=hu.1;have:=hv.1;have:=hw.1;simp only [aW];omega) i h
 .refine Sm.bind hi (tF 2) (Uc b hb 2 i h hi) fun o i h _ hi=>?_;dsimp only;refine Sm.cond (fun _=>DF<|g i h hi) fun _=>?_;refine Sm.bind hi qo (JC b hb i h hi) fun x i h _ hi=>?_;dsimp only;refine Sm.bind hi qo (JC b hb i h hi) fun y i h _ hi=>?_;dsimp only;refine Sm.bind hi p (g i h hi) fun u i h hu hi=>?_;exact lX (α:=Unit) b hb ah 32 0 x y [u] (by have:=hu.1;simp only [aW];omega) i h
theorem aBb {M d:Nat} (hM:1050000<=M) (hd:d<=3) (hB:BS b M d):SS b (M+1) (d+1):=by
 intro deep i h hdp g1 hi;show Sm b _ _ i h (Ny M (qW M) deep b (i:Int) h);unfold Ny nP;rw [nE (show¬deep<=0 by omega),aG];have ho:Sm b ((BO 3).bind fun o=>Pg.ret<|!o) (fun x=>x) i h ((zI 3 b (i:Int) h).bind fun dP=>some ((!dP.1),dP.2.1,dP.2.2)):=Sm.bind hi (tF 3) (Uc b hb 3 i h hi) fun o i h _ hi=>Sm.ret;refine Sm.bind hi ahF ho fun y i h _ hi=>?_;dsimp only;refine Sm.cond (fun _=>?_) fun _=>aBa b hb hN hM hd deep hdp hB i h hi _ rfl;refine DF (apc b hb (N:=M) ah ah _ ?_ ?_ i h hi)
 .split<;>omega
 .split<;>omega
theorem ape:∀ (d M:Nat),d<=4->1050000+2*d+1<=M->SS b M d:=by
 intro d;induction d with
 | zero=>
  intro M hd hM;obtain ⟨M,rfl⟩:∃ m,M=m+1:=⟨M - 1,ah⟩
  exact aAZ b hb hN ah
 | succ d ih=>
  intro M hd hM;obtain ⟨M,rfl⟩:∃ m,M=m+1+1:=⟨M - 2,ah⟩
  exact aBb b hb hN ah ah (apd b hb hN ah ah<|ih M ah ah)
theorem aBd {d:Nat} (hd:d<=4) (GK:1050100<=N) (deep:Int) (hdp:deep.toNat=d) (g1: -700<=deep) (i:Nat) (h:Int) (hi:i<=b.length):Sm b (nP d) (bN 0) i h (CK N deep b (i:Int) h):=ape b hb hN d N hd ah deep i h hdp g1 hi
theorem apf {d:Nat} (hd:d<=4) (GK:1050100<=N) (deep:Int) (hdp:deep.toNat=d) (g1: -700<=deep) (i:Nat) (h:Int) (hi:i<=b.length):Sm b (tH<|nP d) (bN 0) i h (jh N deep b (i:Int) h):=by
 obtain ⟨M,rfl⟩:∃ m,N=m+1:=⟨N - 1,ah⟩
 exact apd b hb hN ah hd (ape b hb hN d M hd ah) deep i h hdp g1 hi
theorem aBe (GK:1050100<=N) (r2:Int×Int×Int) (a:Int) (h2:r2.1=a) (ha:0<=a) (ha2:a < 2):∀ (n c:Nat) (i:Nat) (h:Int) (acc:List aA),c < n->acc.length+c<=3->aW acc<=acc.length->i<=b.length->
  Sm b ((qp GJ c).bind fun ws=>(uz [[102],[103],[109,97,120]]).bind fun x=>(tH<|nP (1+a).toNat).bind fun u=>.ret (⟨44,0,x,[],(acc++ws)++[u]⟩:aA)) (bN 0) i h (Nz N b n (r2,(c:Int),(i:Int),h,acc.map<|bN 0)):=by
 intro n;induction n with
 | zero=>intro c i h acc hc;omega
 | succ n ih=>
  intro c i h acc hc hl hs hi;rw [Nz];cases c with
  | zero=>
   have:decide (((0:Nat):Int) > 0)=false:=rfl;rw [this,aG];show Sm b ((uz [[102],[103],[109,97,120]]).bind fun x=>(tH<|nP (1+a).toNat).bind fun u=>.ret (⟨44,0,x,[],(acc++[])++[u]⟩:aA)) _ _ _ _;rw [pQ];refine Sm.bind hi (uD _ aD aD) (JB b hb _ aD i h hi) fun x i h hx hi=>?_;dsimp only;rw [h2,wrap64 ah ah];refine Sm.bind hi (acQ ha ha2) (apf b hb hN (d:=(1+a).toNat) ah GK (1+a) rfl ah i h hi) fun u i h hu hi=>?_;dsimp only;rw [gL bT,av];have:=lX (α:=Unit) b hb (N:=N) ah 44 0 x [] (acc++[u]) (by have:=hu.1;rw [JD];simp only [aW];omega) i h;rw [vZ] at this;exact this
  | succ c=>
   have:decide (((c+1:Nat):Int) > 0)=true:=fU ah;rw [this,aH,qp];have assoc:∀ {α β γ:Type} (p:Pg α) (f:α->Pg β) (g:β->Pg γ),(p.bind f).bind g=p.bind fun a=>(f a).bind g:=fun p f g=>by
    induction p with
    | ret a=>rfl
    | rd k ih=>simp only [Pg.bind,ih]
   unfold GJ;rw [assoc,assoc];refine Sm.bind hi qo (JC b hb i h hi) fun x i h hx hi=>?_;dsimp only;rw [gL bT,av,wrap64 ah ah,show ((c+1:Nat):Int) - 1=(c:Int) by omega];have:=ih c i h (acc++[⟨1,0,x,[],[]⟩]) ah bT (by rw [JD,jQ];simp only [aW,aZ,fT,zA];omega) hi;rw [vZ] at this;show Sm b (((qp GJ c).bind fun vs=>Pg.ret<|(⟨1,0,x,[],[]⟩:aA)::vs).bind _) _ _ _ _;rw [assoc];have key:(fun vs=>(Pg.ret<|(⟨1,0,x,[],[]⟩:aA)::vs).bind fun ws=>(uz [[102],[103],[109,97,120]]).bind fun x_1=>(tH<|nP (1+a).toNat).bind fun u=>Pg.ret (⟨44,0,x_1,[],acc++ws++[u]⟩:aA))=fun ws=>(uz [[102],[103],[109,97,120]]).bind fun x_1=>(tH<|nP (1+a).toNat).bind fun u=>Pg.ret (⟨44,0,x_1,[],acc++[⟨1,0,x,[],[]⟩]++ws++[u]⟩:aA):=by
    funext ws;show (uz [[102],[103],[109,97,120]]).bind _=_;congr 1;funext x_1;congr 1;funext u;rw [kC acc [_] ws];rfl
   rw [key];exact this
theorem aBf (GK:1050100<=N) (i:Nat) (h:Int) (hi:i<=b.length):Sm b vR (bN 0) i h (VT N b (i:Int) h):=by
 unfold VT vR;refine Sm.bind hi (eZ 2) (vP b hb 2 i h hi) fun a i h ha hi=>?_;have ha2:a < 2:=ah;have wa:IntKind.wrap .i64 (1+a)=1+a:=wrap64 ah ah;have e:=DK (d:=(1+a).toNat) ah;have e1:=DK (d:=1) ah;have hB:=acQ ha.1 ha2;have gB:∀ (i:Nat) h,i<=b.length->Sm b (tH<|nP (1+a).toNat) (bN 0) i h (jh N (1+a) b (i:Int) h):=fun i h hi=>apf b hb hN ah GK (1+a) rfl ah i h hi;have gE:∀ (i:Nat) h,i<=b.length->Sm b (fP (1+a).toNat) (bN 0) i h (fq N (1+a) b (i:Int) h):=fun i h hi=>Un b hb hN ah (1+a) rfl ah ah i h hi;have g1:∀ (i:Nat) h,i<=b.length->Sm b (fP 1) (bN 0) i h (fq N 1 b (i:Int) h):=fun i h hi=>Un b hb hN ah 1 rfl ah ah i h hi;dsimp only;rw [wa];refine Sm.bind hi (eZ 8) (vP b hb 8 i h hi) fun r i h _ hi=>?_;dsimp only;refine Sm.cond (fun _=>?_) fun _=>Sm.cond (fun _=>?_) fun _=>Sm.cond (fun _=>?_) fun _=>Sm.cond (fun _=>?_) fun _=>Sm.cond (fun _=>?_) fun _=>Sm.cond (fun _=>?_) fun _=>Sm.cond (fun _=>?_) fun _=>?_
 .refine Sm.bind hi (eZ 2) (vP b hb 2 i h hi) fun q i h hq hi=>?_;dsimp only;rw [wrap64 (n:=40+q) ah ah];refine Sm.bind hi hB (gB i h hi) fun u i h hu hi=>?_;exact lX (α:=Unit) b hb ah (40+q) 0 [] [] [u] (by have:=hu.1;simp only [aW];omega) i h
 .refine Sm.bind hi e (gE i h hi) fun t i h ht hi=>?_;exact lX (α:=Unit) b hb ah 42 1 [] [] [t] (by have:=ht.1;simp only [aW];omega) i h
 .refine Sm.bind hi hB (gB i h hi) fun t i h ht hi=>?_;exact lX (α:=Unit) b hb ah 42 2 [] [] [t] (by have:=ht.1;simp only [aW];omega) i h
 .refine Sm.bind hi e1 (g1 i h hi) fun t i h ht hi=>?_;dsimp only;refine Sm.bind hi e1 (g1 i h hi) fun u i h hu hi=>?_;exact lX (α:=Unit) b hb ah 43 1 [] [] [t,u] (by have:=ht.1;have:=hu.1;simp only [aW];omega) i h
 .refine Sm.bind hi e1 (g1 i h hi) fun t i h ht hi=>?_;dsimp only;refine Sm.bind hi e1 (g1 i h hi) fun u i h hu hi=>?_;dsimp only;refine Sm.bind hi hB (gB i h hi) fun v i h hv hi=>?_;exact lX (α:=Unit) b hb ah 43 3 [] [] [t,u,v] (by have:=ht.1;have:=hu.1;have:=hv.1;simp only [aW];omega) i h
 .refine Sm.bind hi (eZ 3) (vP b hb 3 i h hi) fun q i h hq hi=>?_;obtain ⟨q,rfl⟩:=qL hq.1;dsimp only;rw [Ho];exact aBe b hb hN GK _ a rfl ha.1 ha2 N q i h [] ah bT (by simp [aW]) hi
 .exact Sm.bind hi (uD _ aD aD) (JB b hb _ aD i h hi) fun x i h _ hi=>Sm.ret
 .refine Sm.bind hi e (gE i h hi) fun t i h ht hi=>?_;dsimp only;refine Sm.bind hi hB (gB i h hi) fun u i h hu hi=>?_;exact lX (α:=Unit) b hb ah 42 3 [] [] [t,u] (by have:=ht.1;have:=hu.1;simp only [aW];omega) i h
theorem aBg (GK:1050100<=N) (kb:(Int×Int)->Option (List aK×Int×Int)):∀ (n c:Nat) (i:Nat) (h:Int) (acc:List aA),c < n->acc.length+c<=3->aW acc<=acc.length*2960->i<=b.length->
  NI N b kb n ((c:Int),(i:Int),h,acc.map<|bN 0)=(let r:=Pg.run b ((qp vR c).bind fun ts=>.ret (⟨45,0,[],[],acc++ts⟩:aA)) i h;bif fits 220 r.1 then some (bN 0 r.1,(r.2.1:Int),r.2.2) else kb ((r.2.1:Int),r.2.2)):=by
 intro n;induction n with
 | zero=>intro c i h acc hc;omega
 | succ n ih=>
  intro c i h acc hc hl hs hi;rw [NI];cases c with
  | zero=>
   have:decide (((0:Nat):Int) > 0)=false:=rfl;rw [this,aG];have hz:aW acc<=900000:=by have:=vW 2960 (show acc.length<=3 by omega);omega
   have hm:=aoQ N ⟨45,0,[],[],[]⟩ acc ah hz;rw [hm,av];show (bif decide (((bN 0 (⟨45,0,[],[],acc⟩:aA)).length:Int)<=220) then _ else _)=_;have e:(let r:=Pg.run b ((qp vR 0).bind fun ts=>Pg.ret (⟨45,0,[],[],acc++ts⟩:aA)) i h;bif fits 220 r.1 then some (bN 0 r.1,(r.2.1:Int),r.2.2) else kb ((r.2.1:Int),r.2.2))=bif fits 220 (⟨45,0,[],[],acc++[]⟩:aA) then some (bN 0 (⟨45,0,[],[],acc++[]⟩:aA),(i:Int),h) else kb ((i:Int),h):=rfl;rw [e,pQ];have hf:decide (((bN 0 (⟨45,0,[],[],acc⟩:aA)).length:Int)<=220)=fits 220 (⟨45,0,[],[],acc⟩:aA):=by
    rw [BM];unfold fits;cases hc:Nat.ble (aZ (⟨45,0,[],[],acc⟩:aA)) 220 with
    | true=>have:=Fy hc;exact fU ah
    | false=>refine nE fun hh=>?_;rw [ajF ah] at hc;cases hc
   rw [hf]
  | succ c=>
   have:decide (((c+1:Nat):Int) > 0)=true:=fU ah;rw [this,aH];have hI:=aBf b hb hN GK i h hi;unfold Sm at hI;rw [hI,av];dsimp only;rw [gL bT,av,wrap64 ah ah,show ((c+1:Nat):Int) - 1=(c:Int) by omega];have hp:=Pg.Yh b acR i h;have:=ih c (Pg.run b vR i h).2.1 (Pg.run b vR i h).2.2 (acc++[(Pg.run b vR i h).1]) ah bT (by rw [JD,jQ,QD,wh];have:=hp.1;simp only [aW];omega) (Pg.GD b vR i h hi);rw [vZ] at this;refine Hw this ?_;have assoc:∀ {α β γ:Type} (p:Pg α) (f:α->Pg β) (g:β->Pg γ),(p.bind f).bind g=p.bind fun a=>(f a).bind g:=fun p f g=>by
    induction p with
    | ret a=>rfl
    | rd k ih=>simp only [Pg.bind,ih]
   have e:Pg.run b ((qp vR<|c+1).bind fun ts=>Pg.ret (⟨45,0,[],[],acc++ts⟩:aA)) i h=Pg.run b ((qp vR c).bind fun ts=>Pg.ret (⟨45,0,[],[],acc++[(Pg.run b vR i h).1]++ts⟩:aA)) (Pg.run b vR i h).2.1 (Pg.run b vR i h).2.2:=by
    rw [qp,assoc,Pg.run_bind,assoc];congr 1;congr 1;funext ts;show Pg.ret (⟨45,0,[],[],acc++(_::ts)⟩:aA)=_;rw [kC acc [_] ts];rfl
   rw [e]
theorem aBh (GK:1050100<=N):∀ (n i:Nat) (h:Int),i<=b.length->Ip N b n ((i:Int),h)=(Pg.loop b lY (fits 220) n i h).map fun r=>(bN 0 r.1,(r.2.1:Int),r.2.2):=by
 intro n;induction n with
 | zero=>intro i h hi;rfl
 | succ n ih=>
  intro i h hi;rw [Ip,Pg.loop];have hb4:=vP b hb 4 i h hi;unfold Sm at hb4;rw [hb4,av];dsimp only;have hr:=Pg.Yh b (eZ 4) i h;obtain ⟨c,hc⟩:=qL hr.1;have hl:=Pg.GD b (kR 4) i h hi;have:=aBg b hb hN GK (Ip N b n) N c (Pg.run b (kR 4) i h).2.1 (Pg.run b (kR 4) i h).2.2 [] ah bT (by simp [aW]) hl;rw [hc];refine Hw this ?_;have e:Pg.run b lY i h=Pg.run b ((qp vR c).bind fun ts=>Pg.ret (⟨45,0,[],[],[]++ts⟩:aA)) (Pg.run b (kR 4) i h).2.1 (Pg.run b (kR 4) i h).2.2:=by
   unfold lY;rw [Pg.run_bind,hc];rfl
  rw [e];dsimp only;generalize Pg.run b ((qp vR c).bind fun ts=>Pg.ret (⟨45,0,[],[],[]++ts⟩:aA)) (Pg.run b (kR 4) i h).2.1 (Pg.run b (kR 4) i h).2.2=q at e;have hq:q.2.1<=b.length:=by rw [<- e];exact Pg.GD b lY i h hi
  cases fits 220 q.1 with
  | true=>rfl
  | false=>rw [aG,aG];exact ih _ _ hq
end
def aBu:Pg.jl vQ (fits 60) 40 135 2021368500568277588=true:=mO
def aBv:jO 135 2021368500568277588=1520775315923724161:=mO
def aBw:Pg.jl vQ (fits 60) 40 135 1520775315923724161=true:=mO
def aBx:jO 135 1520775315923724161=(-1929235519155055454):=mO
def aBy:Pg.jl vQ (fits 60) 40 135 (-1929235519155055454)=true:=mO
def aBz:Pg.jl vQ (fits 60) 40 405 2021368500568277588=true:=by
 have a1:Pg.jl vQ (fits 60) 40 (135+135) 1520775315923724161=true:=Pg.BN _ _ _ _ _ _ aBw (by rw [aBx];exact aBy);have a0:Pg.jl vQ (fits 60) 40 (135+270) 2021368500568277588=true:=Pg.BN _ _ _ _ _ _ aBu (by rw [aBv];exact a1);exact a0
def aBA:Pg.jl lY (fits 220) 40 260 (-2744174768175047444)=true:=mO
def aBB:jO 260 (-2744174768175047444)=9139760114735395424:=mO
def aBC:Pg.jl lY (fits 220) 40 260 9139760114735395424=true:=mO
def aBD:jO 260 9139760114735395424=8949882279719470868:=mO
def aBE:Pg.jl lY (fits 220) 40 260 8949882279719470868=true:=mO
def aBF:jO 260 8949882279719470868=8399572877787008776:=mO
def aBG:Pg.jl lY (fits 220) 40 260 8399572877787008776=true:=mO
def aBH:jO 260 8399572877787008776=(-644356377554321860):=mO
def aBI:Pg.jl lY (fits 220) 40 260 (-644356377554321860)=true:=mO
def aBJ:jO 260 (-644356377554321860)=(-7008574521026492240):=mO
def aBK:Pg.jl lY (fits 220) 40 260 (-7008574521026492240)=true:=mO
def aBL:jO 260 (-7008574521026492240)=(-326443216012795292):=mO
def aBM:Pg.jl lY (fits 220) 40 260 (-326443216012795292)=true:=mO
def aBN:jO 260 (-326443216012795292)=1119826188661489496:=mO
def aBO:Pg.jl lY (fits 220) 40 260 1119826188661489496=true:=mO
def aBP:jO 260 1119826188661489496=5199595073289098124:=mO
def aBQ:Pg.jl lY (fits 220) 40 260 5199595073289098124=true:=mO
def aBR:jO 260 5199595073289098124=8701555922248749824:=mO
def aBS:Pg.jl lY (fits 220) 40 260 8701555922248749824=true:=mO
def aBT:jO 260 8701555922248749824=2969263789539357108:=mO
def aBU:Pg.jl lY (fits 220) 40 258 2969263789539357108=true:=mO
def aBV:Pg.jl lY (fits 220) 40 2858 (-2744174768175047444)=true:=by
 have a9:Pg.jl lY (fits 220) 40 (260+258) 8701555922248749824=true:=Pg.BN _ _ _ _ _ _ aBS (by rw [aBT];exact aBU);have a8:Pg.jl lY (fits 220) 40 (260+518) 5199595073289098124=true:=Pg.BN _ _ _ _ _ _ aBQ (by rw [aBR];exact a9);have a7:Pg.jl lY (fits 220) 40 (260+778) 1119826188661489496=true:=Pg.BN _ _ _ _ _ _ aBO (by rw [aBP];exact a8);have a6:Pg.jl lY (fits 220) 40 (260+1038) (-326443216012795292)=true:=Pg.BN _ _ _ _ _ _ aBM (by rw [aBN];exact a7);have a5:Pg.jl lY (fits 220) 40 (260+1298) (-7008574521026492240)=true:=Pg.BN _ _ _ _ _ _ aBK (by rw [aBL];exact a6);have a4:Pg.jl lY (fits 220) 40 (260+1558) (-644356377554321860)=true:=Pg.BN _ _ _ _ _ _ aBI (by rw [aBJ];exact a5);have a3:Pg.jl lY (fits 220) 40 (260+1818) 8399572877787008776=true:=Pg.BN _ _ _ _ _ _ aBG (by rw [aBH];exact a4);have a2:Pg.jl lY (fits 220) 40 (260+2078) 8949882279719470868=true:=Pg.BN _ _ _ _ _ _ aBE (by rw [aBF];exact a3);have a1:Pg.jl lY (fits 220) 40 (260+2338) 9139760114735395424=true:=Pg.BN _ _ _ _ _ _ aBC (by rw [aBD];exact a2);have a0:Pg.jl lY (fits 220) 40 (260+2598) (-2744174768175047444)=true:=Pg.BN _ _ _ _ _ _ aBA (by rw [aBB];exact a1);exact a0
def aBW (b:List UInt8) (n:Nat) (hn:18446744073709551657+b.length<=n) (i:Nat) (h:Int) (hi:i<=b.length):(Pg.loop b vQ (fits 60) n i h).isSome=true:=
 Pg.aoK (h0:=2021368500568277588) (F:=40) aAN (show Pg.One vQ from Pg.One.bind (show Pg.One (kR 4) from trivial)) aBz aD aD b 18446744073709551657 aD (b.length - i) i n h rfl hi ah
def aBX (b:List UInt8) (n:Nat) (hn:18446744073709551657+b.length<=n) (i:Nat) (h:Int) (hi:i<=b.length):(Pg.loop b lY (fits 220) n i h).isSome=true:=
 Pg.aoK (h0:=(-2744174768175047444)) (F:=40) aAW (show Pg.One lY from Pg.One.bind (show Pg.One (kR 4) from trivial)) aBV aD aD b 18446744073709551657 aD (b.length - i) i n h rfl hi ah
end Go.Proofs.Tryz
