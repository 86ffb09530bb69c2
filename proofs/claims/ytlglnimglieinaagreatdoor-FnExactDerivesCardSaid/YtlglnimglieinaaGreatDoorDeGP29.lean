/-
 Plain lemmas on the models, part 19.
-/
import Derived.Test.YtlglnimglieinaaGreatDoorDeGP18
namespace Go.Proofs.Tryz
open Go.Av
set_option maxRecDepth 100000
set_option linter.all false
def fB (u:aD) (w:Nat):Nat:=5000+20*aU u+w
def adV {k:Int} (h:Wd k=true):k≠2:=by
 rintro rfl;revert h;decide
def lg.f2 {l:List av} {i j:Nat} {ts:List aD} (d:lg l i j ts):kd l i≠2:=by
 cases d with
 | one h1 d=>exact adV d.first.o
 | cons h1 h2 h3 h4 d h5=>exact adV d.first.o
def Dv (D:dx) (K:Nat):Prop:=∀ M,M<=K->∀ (u:aD) (s i a b:Nat) (p:aI),TA D.x u s i->allT GN u->allT CN u->posB p=true->a<=b->b<=D.l.length->fB u (b - a)<=M->∃ r,(dh M).gX D (i:Int) (a:Int) (b:Int) p=some r/\(r=true↔∃ h,bO D.l p a b u h)
def wo (D:dx) (ts:List aD) (ks:List Int):Prop:=ts.length=ks.length/\∀ (j:Nat) (v:aD),ts[j]?=some v->(∃ (k s:Nat),ks[j]?=some (k:Int)/\TA D.x v s k)/\allT GN v/\allT CN v
def wo.tail {D:dx} {t:aD} {ts:List aD} {k:Int} {ks:List Int} (h:wo D (t::ts) (k::ks)):wo D ts ks:=⟨by have:=h.1;simpa using this,fun j v hv=>h.2 (j+1) v hv⟩
def atS {D:dx} {u:aD} {n:aG} {s i:Nat} (hg:allT GN u) (hc:allT CN u) (hka:KA D.x u.kids n.Kids s i) (hkl:u.kids.length=n.Kids.length):wo D u.kids n.Kids:=⟨hkl,fun j v hv=>by
 obtain ⟨k,s',g1,g2,_⟩:=hka.get j v hv;have hm:=nk hv;exact ⟨⟨k,s',g1,g2⟩,adB hg v hm,adB hc v hm⟩⟩
section
variable (D:dx) (hl:D.l.length<=3000)
include hl
theorem ajH (K:Nat) (H:Dv D K):∀ (ts:List aD) (ks:List Int) (a b M:Nat),wo D ts ks->a<=b->b<=D.l.length->M<=K+1->5000+20*bq ts+(b - a)+ts.length+1<=M->ts.length<=400->∃ r,(dh M).BG D ks (a:Int) (b:Int)=some r/\(r=true↔(ts=[]/\a=b)\/lg D.l a b ts):=by
 intro ts;induction ts with
 | nil=>
  intro ks a b M hk hab hb hM hf _;obtain ⟨M,rfl⟩:∃ m,M=m+1:=⟨M - 1,ah⟩
  have hks:ks=[]:=by
   have:=hk.1;exact VP.1 (by simpa using this.symm)
  subst hks;refine ⟨((a:Int)==(b:Int)),rfl,?_⟩;rw [iG];constructor
  .intro h;exact .inl ⟨rfl,ah⟩
  .rintro (⟨_,h⟩|h)
   .omega
   .cases h
 | cons t us ih=>
  intro ks a b M hk hab hb hM hf GQ;obtain ⟨M,rfl⟩:∃ m,M=m+1:=⟨M - 1,ah⟩
  obtain ⟨⟨k0,s0,g1,g2⟩,g3,g4⟩:=hk.2 0 t rfl;have hsz:bq (t::us)=aU t+bq us:=by rw [bq]
  obtain ⟨k1,kr,rfl⟩:∃ k1 kr,ks=k1::kr:=by
   cases ks with
   | nil=>have:=hk.1;simp at this
   | cons k1 kr=>exact ⟨k1,kr,rfl⟩
  have hk1:k1=(k0:Int):=by simpa using g1
  subst hk1;have htop:yY=some oV:=rfl;have i0:ix ((k0:Int)::kr) 0=some (k0:Int):=rfl;show ∃ r,Us M (dh M) D ((k0:Int)::kr) (a:Int) (b:Int)=some r/\_;unfold Us;have n0:((((k0:Int)::kr).length:Int)==0)=false:=by rw [fF];simp;omega
  rw [n0,aA];cases us with
  | nil=>
   have hkr:kr=[]:=by
    have:=hk.1;simp at this;exact this
   subst hkr;have n1:(([(k0:Int)].length:Int)==1)=true:=rfl;rw [n1,aB,i0,ak,htop,ak];obtain ⟨r,r1,r2⟩:=H M ah t s0 k0 a b oV g2 g3 g4 rfl hab hb (by unfold fB;rw [bq] at hsz;omega);rw [r1];refine ⟨r,rfl,r2.trans ⟨fun ⟨h,d⟩=>.inr<|.one d.lt.1 d,?_⟩⟩;rintro (⟨h,_⟩|d)
   .cases h
   .cases d with
    | one h1 h2=>exact ⟨_,h2⟩
  | cons u us=>
   obtain ⟨k2,wu,rfl⟩:∃ k2 wu,kr=k2::wu:=by
    cases kr with
    | nil=>have:=hk.1;simp at this
    | cons k2 wu=>exact ⟨k2,wu,rfl⟩
   have n1:((((k0:Int)::k2::wu).length:Int)==1)=false:=by rw [fF];simp;omega
   rw [n1,aA];have hcut:cut ((k0:Int)::k2::wu) 1 ((((k0:Int)::k2::wu).length:Nat):Int)=some (k2::wu):=by
    have h1:=hk.1;have:=ZV (l:=(k0:Int)::k2::wu) (a:=1) (b:=((k0:Int)::k2::wu).length) aF (dK _);simp only [List.drop_succ_cons,zy,nu] at this ⊢;rw [show (1:Int)=((1:Nat):Int) from rfl,this];simp
   have hstep:∀ m:Nat,a<=m->m < b->∃ r,((ix D.l (m:Int)).bind fun e190=>bif (e190.Kind==36) then (ix ((k0:Int)::k2::wu) 0).bind fun Uo=>Option.bind yY fun Uq=>((dh M).gX D Uo (a:Int) (m:Int) Uq).bind fun YH=>bif YH then (cut ((k0:Int)::k2::wu) 1 ((((k0:Int)::k2::wu).length:Nat):Int)).bind fun Ur=>(Ms M D<|IntKind.wrap .i64<|(m:Int)+1).bind fun Ju=>((dh M).BG D Ur (if Ju < (b:Int) then Ju else (b:Int)) (b:Int)).bind fun BI=>some BI else some false else some false)=some r/\(r=true↔kd D.l m=36/\∃ f h,Ln D.l (m+1) f/\f < b/\bO D.l oV a m t h/\lg D.l f b (u::us)):=fun m h1 h2=>by
    have hm:m < D.l.length:=ah;have e:D.l[m].Kind=kd D.l m:=(iQ hm).symm;rw [bJ hm,ak,e];cases zD:(kd D.l m==36) with
    | false=>
     refine ⟨false,rfl,⟨(fun h=>by cases h),fun h=>?_⟩⟩;rw [h.1] at zD;cases zD
    | true=>
     have zD:=eq_of_beq zD;rw [aB,i0,ak,htop,ak];obtain ⟨r,r1,r2⟩:=H M ah t s0 k0 a m oV g2 g3 g4 rfl h1 ah (by unfold fB;omega);rw [r1,ak];cases r with
     | false=>
      refine ⟨false,rfl,⟨(fun h=>by cases h),fun ⟨_,f,h,_,_,d,_⟩=>?_⟩⟩;have:=r2.2 ⟨h,d⟩;cases this
     | true=>
      obtain ⟨hh,hd⟩:=r2.1 rfl;obtain ⟨f,f1,f2,f3,f4,f5⟩:=ajF M D hl ah (m+1) ah;rw [aB,hcut,ak,wrap64 ah ah,show (m:Int)+1=((m+1:Nat):Int) by omega,f1,ak];by_cases hfb:f < b
      .rw [bU ah];obtain ⟨r,q1,q2⟩:=ih (k2::wu) f b M hk.tail ah hb ah (by simp only [nu] at hf ⊢;omega) (by simp only [nu] at GQ ⊢;omega);rw [q1];refine ⟨r,rfl,q2.trans ⟨?_,?_⟩⟩
       .rintro (⟨h,_⟩|d)
        .cases h
        .exact ⟨zD,f,hh,⟨f2,f4,f5,d.f2⟩,hfb,hd,d⟩
       .rintro ⟨_,f',h',NK,hf',_,d⟩;have:f'=f:=by
         rcases Rw f f' with g|g|g
         .exact absurd (NK.2.1 f ah g) f5
         .exact g.symm
         .exact absurd (f4 f' NK.1 g) NK.2.2.1
        subst this;exact .inr d
      .rw [bL ah];obtain ⟨r,q1,q2⟩:=ih (k2::wu) b b M hk.tail (dK _) hb ah (by simp only [nu] at hf ⊢;omega) (by simp only [nu] at GQ ⊢;omega);rw [q1];refine ⟨r,rfl,q2.trans ⟨?_,?_⟩⟩
       .rintro (⟨h,_⟩|d)
        .cases h
        .have:=d.lt;omega
       .rintro ⟨_,f',h',NK,hf',_,d⟩;exfalso;have:f'=f:=by
         rcases Rw f f' with g|g|g
         .exact absurd (NK.2.1 f ah g) f5
         .exact g.symm
         .exact absurd (f4 f' NK.1 g) NK.2.2.1
        omega
   have loop:∀ (n m:Nat),b - m < n->a<=m->m<=b->∃ r,Mt M (dh M) n ((k0:Int)::k2::wu,(a:Int),(b:Int),D,(m:Int))=some r/\(r=true↔∃ m',m<=m'/\m' < b/\kd D.l m'=36/\∃ f h,Ln D.l (m'+1) f/\f < b/\bO D.l oV a m' t h/\lg D.l f b (u::us)):=by
    intro n;induction n with
    | zero=>intro m h;omega
    | succ n ihn=>
     intro m hn h1 h2;rw [Mt];by_cases hlt:m < b
     .obtain ⟨r,r1,r2⟩:=hstep m h1 hlt;rw [gN (show (m:Int) < (b:Int) by omega),aB,r1,ak];cases r with
      | true=>exact ⟨true,rfl,⟨fun _=>⟨m,dK _,hlt,r2.1 rfl⟩,fun _=>rfl⟩⟩
      | false=>
       rw [aA,wrap64 ah ah,show (m:Int)+1=((m+1:Nat):Int) by omega];obtain ⟨r',q1,q2⟩:=ihn (m+1) ah ah ah;refine ⟨r',q1,q2.trans ⟨fun ⟨m',a1,a2,a3⟩=>⟨m',ah,a2,a3⟩,fun ⟨m',a1,a2,a3⟩=>?_⟩⟩;by_cases em:m'=m
       .subst em;have:=r2.2 a3;cases this
       .exact ⟨m',ah,a2,a3⟩
     .rw [lG (show¬(m:Int) < (b:Int) by omega),aA];exact ⟨false,rfl,⟨(fun h=>by cases h),fun ⟨m',a1,a2,_⟩=>ah⟩⟩
   obtain ⟨r,r1,r2⟩:=loop M a ah (dK _) hab;refine ⟨r,r1,r2.trans ⟨?_,?_⟩⟩
   .rintro ⟨m,h1,h2,h3,f,h,h4,h5,h6,h7⟩;exact .inr (.cons h6.lt.1 h3 h4 h5 h6 h7)
   .rintro (⟨h,_⟩|d)
    .cases h
    .cases d with
     | @cons _ k f _ _ _ _ h h1 h2 h3 h4 h5 h6=>
      have:=h3.1;exact ⟨k,ah,ah,h2,f,h,h3,h4,h5,h6⟩
end
def Ry {l:List av} {a b:Nat} (h1:a<=b) (h2:b<=l.length):(seg l a b).length=b - a:=by
 unfold seg;rw [EY,EZ];omega
def Rz {l:List av} {a b j:Nat} (h:a+j < b):kd (seg l a b) j=kd l (a+j):=by
 unfold kd seg;rw [zw,bU ah,BX]
def adW {l:List av} {a b:Nat} (h1:a<=b) (h2:b<=l.length):cut l (a:Int) (b:Int)=some (seg l a b):=by
 rw [ZV h1 h2];rfl
def ajK {l:List av} {p:aI} {a b:Nat} {t:aD} (d:bO l p a b t true):zF (seg l a b)=true:=by
 have hlt:=d.lt;cases d with
 | @par _ _ j _ h' g1 g2 g3 g4 g5=>
  have hb:=g4.sg1.b;have ha:a < l.length:=ah;have e:seg l a (j+1)=l[a]::(seg l (a+1) j++l[j]::[]):=by
   rw [uf (show a<=a+1 by omega) (show a+1<=j+1 by omega),uf (show a+1<=j by omega) (show j<=j+1 by omega),rY ha,rY g3];rfl
  have k1:l[a].Kind=32:=by rw [<- iQ ha];exact g1
  have k2:l[j].Kind=33:=by rw [<- iQ g3];exact g5
  have hlen:=Ry (l:=l) (a:=a) (b:=j+1) ah ah;unfold zF;have ka:kd l (a+0)=32:=g1;rw [hlen,Rz ah,Rz ah,ka,show a+(j+1 - a - 1)=j by omega,g5,gN ah];show (true&&(true&&(true&&uO 0 (seg l a<|j+1))))=true;rw [iF,iF,iF,e];show (!((bif dF l[a].Kind then _ else _)==0&&_)&&uO _ (seg l (a+1) j++l[j]::[]))=true;rw [k1];show (true&&uO 1 (seg l (a+1) j++l[j]::[]))=true;rw [iF,hb.hd 1 _ ah];show (!((bif dF l[j].Kind then _ else _)==0&&_)&&true)=true;rw [k2];rfl
def aac {l:List av} {a b:Nat} (h1:a<=b) (h2:b<=l.length) (h:zF (seg l a b)=true):a+2<=b/\kd l a=32/\kd l (b - 1)=33:=by
 have hlen:=Ry h1 h2;unfold zF at h;rw [hlen] at h;simp only [dA,jS,iG] at h;obtain ⟨g1,g2,g3,_⟩:=h;rw [Rz ah] at g2 g3;have g2:kd l a=32:=g2;exact ⟨ah,g2,by rw [show a+(b - a - 1)=b - 1 by omega] at g3;exact g3⟩
section
variable (D:dx) (hl:D.l.length<=3000)
include hl
theorem adX (K:Nat) (H:Dv D K) (u:aD) (s i a b M:Nat) (hT:TA D.x u s i) (hg:allT GN u) (hcn:allT CN u) (hL:dL u.kind=true) (hb:b<=D.l.length) (hM:M<=K+1) (hf:fB u (b - a)+1<=M):∃ r,(dh M).yZ D (i:Int) (a:Int) (b:Int)=some r/\(r=true↔a < b/\cO D.l rX a b u):=by
 obtain ⟨M,rfl⟩:∃ m,M=m+1:=⟨M - 1,by unfold fB at hf;omega⟩
 show ∃ r,Un M (dh M) D (i:Int) (a:Int) (b:Int)=some r/\_;unfold Un;by_cases hab:a < b
 .rw [gN (show (a:Int) < (b:Int) by omega),aB,adW ah hb,ak,adT M _ (by rw [Ry ah hb];omega) (by unfold fB at hf;omega),ak];have first:cO D.l rX a b u->zF (seg D.l a b)=false:=fun d=>by
   cases h:zF (seg D.l a b) with
   | false=>rfl
   | true=>
    have h1:=(aac ah hb h).2.1;have:=GL d hL;rcases this with e|e<;>rw [h1] at e<;>cases e
  cases h:zF (seg D.l a b) with
  | true=>
   refine ⟨false,rfl,⟨(fun h=>by cases h),fun ⟨_,d⟩=>?_⟩⟩;rw [first d] at h;cases h
  | false=>
   obtain ⟨r,r1,r2⟩:=H M ah u s i a b rX hT hg hcn rfl ah hb ah;have r1:(dh M).gX D (i:Int) (a:Int) (b:Int) ⟨14,false,false,false,false⟩=some r:=r1;rw [bY,aB,r1];refine ⟨r,rfl,r2.trans ⟨fun ⟨hh,d⟩=>⟨hab,?_⟩,fun ⟨_,d⟩=>⟨false,.bare ?_ hab hb d⟩⟩⟩
   .cases hh with
    | true=>rw [ajK d] at h;cases h
    | false=>cases d with
     | bare g1 g2 g3 g4=>exact g4
   .obtain ⟨g1,g2⟩:=Km hL;exact Ao (v:=14) g1 ah aH ah
 .rw [lG (show¬(a:Int) < (b:Int) by omega),aA];exact ⟨false,rfl,⟨(fun h=>by cases h),fun ⟨h,_⟩=>absurd h hab⟩⟩
def aad:List UInt8:=[108,101,110,103,116,104]
def RA (l:List av) (k o:Int) (x:List UInt8) (ts:List aD) (a b:Nat):Prop:=(k=8/\b=a+1/\kd l b≠32/\x=aad/\ts=[]/\kd l a=8/\jE l a=x)\/(¬(k=8/\b=a+1)/\a+3<=b/\kd l a=k/\jE l a=x/\kd l (a+1)=o/\kd l (b - 1)=o+1/\((ts=[]/\a+2=b - 1)\/lg l (a+2) (b - 1) ts))
theorem adY (K:Nat) (H:Dv D K) (n:aG) (ts:List aD) (hk:wo D ts n.Kids) (k o:Int) (hko:(k=6/\o=34)\/((k=7\/k=8)/\o=32)) (a b M:Nat) (hab:a < b) (hb:b<=D.l.length) (hM:M<=K+2) (hf:5000+20*bq ts+(b - a)+ts.length+2<=M) (GQ:ts.length<=400):∃ r,(dh M).ze D n k o (a:Int) (b:Int)=some r/\(r=true↔RA D.l k o n.Text ts a b):=by
 obtain ⟨M,rfl⟩:∃ m,M=m+1:=⟨M - 1,ah⟩
 show ∃ r,Ut M (dh M) D n k o (a:Int) (b:Int)=some r/\_;unfold Ut;have ha:a < D.l.length:=ah;have ia:ix D.l (a:Int)=some D.l[a]:=bJ ha;have ea:D.l[a].Kind=kd D.l a:=(iQ ha).symm;have et:D.l[a].Text=jE D.l a:=(uM ha).symm;have hw:IntKind.wrap .i64 ((b:Int) - (a:Int))=((b - a:Nat):Int):=by rw [wrap64 ah ah];omega
 have h1:(bif (k==8) then some (((b - a:Nat):Int)==1) else some false)=some (k==8&&((b - a:Nat):Int)==1):=by cases (k==8)<;>rfl
 rw [hw,h1,ak];cases h8:(k==8&&((b - a:Nat):Int)==1) with
 | true=>
  simp only [dA,iG] at h8;obtain ⟨k8,hb1⟩:=h8;have hb1:b=a+1:=ah;have hkl:n.Kids.length=ts.length:=hk.1.symm;have core:∀ c:Bool,(c=true↔kd D.l b≠32)->∃ r,(bif c then bif (n.Text==aad) then bif ((n.Kids.length:Int)==0) then (ix D.l (a:Int)).bind fun e20=>bif (e20.Kind==k) then (ix D.l (a:Int)).bind fun e21=>some (e21.Text==n.Text) else some false else some false else some false else some false)=some r/\(r=true↔RA D.l k o n.Text ts a b):=fun c hcc=>by
   have no:(¬(kd D.l b≠32/\n.Text=aad/\ts=[]/\kd D.l a=8/\jE D.l a=n.Text))->(false=true↔RA D.l k o n.Text ts a b):=fun h=>⟨(fun h=>by cases h),fun h2=>by
    rcases h2 with ⟨_,_,g1,g2,g3,g4,g5⟩|⟨g,_⟩
    .exact absurd ⟨g1,g2,g3,g4,g5⟩ h
    .exact absurd ⟨k8,hb1⟩ g⟩
   cases c with
   | false=>exact ⟨false,rfl,no fun h=>by have:=hcc.2 h.1;cases this⟩
   | true=>
    rw [aB];cases hx:(n.Text==aad) with
    | false=>exact ⟨false,rfl,no fun h=>by rw [h.2.1] at hx;simp at hx⟩
    | true=>
     rw [aB];cases h0:((n.Kids.length:Int)==0) with
     | false=>exact ⟨false,rfl,no fun h=>by rw [hkl,h.2.2.1] at h0;simp at h0⟩
     | true=>
      rw [aB,ia,ak,ea,ak,et];cases hka:(kd D.l a==k) with
      | false=>exact ⟨false,rfl,no fun h=>by rw [h.2.2.2.1,k8] at hka;cases hka⟩
      | true=>
       rw [aB];refine ⟨_,rfl,⟨fun h=>.inl ⟨k8,hb1,hcc.1 rfl,by simpa using hx,?_,by rw [eq_of_beq hka];exact k8,by simpa using h⟩,fun h=>?_⟩⟩
       .have h0:(n.Kids.length:Int)=0:=by simpa using h0
        exact VP.1 ah
       .rcases h with ⟨_,_,_,_,_,_,g5⟩|⟨g,_⟩
        .rw [g5];simp
        .exact absurd ⟨k8,hb1⟩ g
  rw [aB];by_cases hbl:b=D.l.length
  .have e:((b:Int)==(D.l.length:Int))=true:=by rw [hbl];simp
   rw [e,aB];have hkb:kd D.l b≠32:=by
    unfold kd;rw [vW ah];decide
   obtain ⟨r,r1,r2⟩:=core true ⟨fun _=>hkb,fun _=>rfl⟩;rw [aB] at r1;have be:∀ x:Option Bool,(Option.bind x fun y=>some y)=x:=fun x=>by cases x<;>rfl
   rw [be];exact ⟨r,r1,r2⟩
  .have e:((b:Int)==(D.l.length:Int))=false:=by rw [fF];omega
   have ajL:b < D.l.length:=ah;have eb:D.l[b].Kind=kd D.l b:=(iQ ajL).symm;rw [e,aA,bJ ajL,ak,eb];obtain ⟨r,r1,r2⟩:=core (kd D.l b !=32) ⟨fun h=>by simpa using h,fun h=>by simpa using h⟩;have be:∀ x:Option Bool,(Option.bind x fun y=>some y)=x:=fun x=>by cases x<;>rfl
   rw [be];exact ⟨r,r1,r2⟩
 | false=>
  have n8: ¬(k=8/\b=a+1):=fun ⟨e1,e2⟩=>by
   subst e1 e2;rw [show a+1 - a=1 by omega] at h8;cases h8
  have no:(¬(a+3<=b/\kd D.l a=k/\jE D.l a=n.Text/\kd D.l (a+1)=o/\kd D.l (b - 1)=o+1/\((ts=[]/\a+2=b - 1)\/lg D.l (a+2) (b - 1) ts)))->(false=true↔RA D.l k o n.Text ts a b):=fun h=>⟨(fun h=>by cases h),fun h2=>by
   rcases h2 with ⟨g1,g2,_⟩|⟨_,g⟩
   .exact absurd ⟨g1,g2⟩ n8
   .exact absurd g h⟩
  have be:∀ x:Option Bool,(Option.bind x fun y=>some y)=x:=fun x=>by cases x<;>rfl
  rw [aA,be];by_cases h3:a+3<=b
  .rw [gN (show ((b - a:Nat):Int)>=3 by omega),aB,ia,ak,ea,ak,et];cases hka:(kd D.l a==k) with
   | false=>exact ⟨false,rfl,no fun h=>by rw [h.2.1] at hka;simp at hka⟩
   | true=>
    rw [aB];cases BZ:(jE D.l a==n.Text) with
    | false=>exact ⟨false,rfl,no fun h=>by rw [h.2.2.1] at BZ;simp at BZ⟩
    | true=>
     have ha1:a+1 < D.l.length:=ah;have ea1:D.l[a+1].Kind=kd D.l (a+1):=(iQ ha1).symm;have hb1:b - 1 < D.l.length:=ah;have eb1:D.l[b - 1].Kind=kd D.l (b - 1):=(iQ hb1).symm;rw [aB,wrap64 (n:=(a:Int)+1) ah ah,show (a:Int)+1=((a+1:Nat):Int) by omega,bJ ha1,ak,ea1];cases ho:(kd D.l (a+1)==o) with
     | false=>exact ⟨false,rfl,no fun h=>by rw [h.2.2.2.1] at ho;simp at ho⟩
     | true=>
      rw [aB,wrap64 (n:=(b:Int) - 1) ah ah,show (b:Int) - 1=((b - 1:Nat):Int) by omega,bJ hb1,ak,eb1,wrap64 (n:=o+1) ah ah];cases hcl:(kd D.l (b - 1)==o+1) with
      | false=>exact ⟨false,rfl,no fun h=>by rw [h.2.2.2.2.1] at hcl;simp at hcl⟩
      | true=>
       rw [aB,wrap64 (n:=(a:Int)+2) ah ah,show (a:Int)+2=((a+2:Nat):Int) by omega];obtain ⟨r,r1,r2⟩:=ajH D hl K H ts n.Kids (a+2) (b - 1) M hk ah ah ah ah GQ;rw [r1];refine ⟨r,rfl,r2.trans ⟨fun h=>.inr ⟨n8,h3,eq_of_beq hka,eq_of_beq BZ,eq_of_beq ho,eq_of_beq hcl,h⟩,fun h=>?_⟩⟩;rcases h with ⟨g1,g2,_⟩|⟨_,_,_,_,_,_,g⟩
       .exact absurd ⟨g1,g2⟩ n8
       .exact g
  .rw [lG (show¬((b - a:Nat):Int)>=3 by omega),aA];exact ⟨false,rfl,no fun h=>h3 h.1⟩
end
def RB (D:dx) (t:aD) (k:Nat):Prop:=(∃ s,TA D.x t s k)/\allT GN t/\allT CN t
def wo.two {D:dx} {t0 t1:aD} {ks:List Int} (h:wo D [t0,t1] ks):∃ k0 k1:Nat,ix ks 0=some (k0:Int)/\ix ks 1=some (k1:Int)/\RB D t0 k0/\RB D t1 k1:=by
 obtain ⟨⟨k0,s0,a1,a2⟩,a3,a4⟩:=h.2 0 t0 rfl;obtain ⟨⟨k1,s1,b1,b2⟩,b3,b4⟩:=h.2 1 t1 rfl;exact ⟨k0,k1,zA a1,zA b1,⟨⟨s0,a2⟩,a3,a4⟩,⟨⟨s1,b2⟩,b3,b4⟩⟩
def wo.one {D:dx} {t0:aD} {ks:List Int} (h:wo D [t0] ks):∃ k0:Nat,ix ks 0=some (k0:Int)/\RB D t0 k0:=by
 obtain ⟨⟨k0,s0,a1,a2⟩,a3,a4⟩:=h.2 0 t0 rfl;exact ⟨k0,zA a1,⟨⟨s0,a2⟩,a3,a4⟩⟩
def wo.three {D:dx} {t0 t1 t2:aD} {ks:List Int} (h:wo D [t0,t1,t2] ks):∃ k0 k1 k2:Nat,ix ks 0=some (k0:Int)/\ix ks 1=some (k1:Int)/\ix ks 2=some (k2:Int)/\RB D t0 k0/\RB D t1 k1/\RB D t2 k2:=by
 obtain ⟨⟨k0,s0,a1,a2⟩,a3,a4⟩:=h.2 0 t0 rfl;obtain ⟨⟨k1,s1,b1,b2⟩,b3,b4⟩:=h.2 1 t1 rfl;obtain ⟨⟨k2,s2,c1,c2⟩,c3,c4⟩:=h.2 2 t2 rfl;exact ⟨k0,k1,k2,zA a1,zA b1,zA c1,⟨⟨s0,a2⟩,a3,a4⟩,⟨⟨s1,b2⟩,b3,b4⟩,⟨⟨s2,c2⟩,c3,c4⟩⟩
def Wh (x:Option Bool):(Option.bind x fun y=>some y)=x:=by cases x<;>rfl
def Kt (l:List av) (n:aG) (p:aI) (t0:aD) (a m:Nat):Prop:=(n.Kind=15/\a < m/\cO l rX a m t0)\/(n.Kind≠15/\∃ h,bO l (jX n.Kind n.Op n.Kids.length 0 p) a m t0 h)
def NM (l:List av) (n:aG) (p:aI) (t1:aD) (c b:Nat):Prop:=∃ h,bO l (jX n.Kind n.Op n.Kids.length 1 p) c b t1 h
def Wi (l:List av) (n:aG) (p:aI) (t0 t1:aD) (a b m:Nat):Prop:=(n.Kind=12/\n.Op=99/\Kt l n p t0 a m/\NM l n p t1 m b)\/(¬(n.Kind=12/\n.Op=99)/\kd l m=n.Op/\Kt l n p t0 a m/\∃ c,((n.Op=45\/n.Op=44)/\Ln l (m+1) c\/ ¬(n.Op=45\/n.Op=44)/\c=m+1)/\NM l n p t1 c b)
section
variable (D:dx) (hl:D.l.length<=3000)
include hl
theorem auj (K:Nat) (H:Dv D K) (n:aG) (p:aI) (t0 t1:aD) (hk:wo D [t0,t1] n.Kids) (he:iP n.Kind=true) (hlv:lv n.Kind n.Op≠0) (ug:n.Kind=15->dL t0.kind=true) (hp:posB p=true) (a b M:Nat) (hb:b<=D.l.length) (hM:M<=K) (hf:5000+20*(aU t0+aU t1)+(b - a)+4<=M) (m c:Nat) (h1:a<=m) (h2:m < b) (h3:c<=b) (h4:a<=c):∃ r:Bool,(∀ kb,Eu M (dh M) kb ((a:Int),(b:Int),(m:Int),D,p,n,(c:Int))=bif r then some true else kb ((a:Int),(b:Int),D,p,n,((m+1:Nat):Int)))/\(r=true↔Kt D.l n p t0 a m/\NM D.l n p t1 c b):=by
 have hlen:n.Kids.length=2:=hk.1.symm;obtain ⟨k0,k1,i0,i1,⟨⟨s0,a2⟩,a3,a4⟩,⟨⟨s1,b2⟩,b3,b4⟩⟩:=hk.two;have p0:mF n 0 p=_:=Ku n 0 p ah ah hp hlv;have p1:mF n 1 p=_:=Ku n 1 p ah ah hp hlv;have q0:posB (jX n.Kind n.Op n.Kids.length 0 p)=true:=NP he;have q1:posB (jX n.Kind n.Op n.Kids.length 1 p)=true:=NP he;have left:∃ r,(bif (n.Kind==15) then (ix n.Kids 0).bind fun Ua=>((dh M).yZ D Ua (a:Int) (m:Int)).bind fun r431=>bif r431 then some true else (bif (n.Kind !=15) then (ix n.Kids 0).bind fun Uc=>(mF n 0 p).bind fun Ud=>((dh M).gX D Uc (a:Int) (m:Int) Ud).bind fun YC=>some YC else (some false)) else (bif (n.Kind !=15) then (ix n.Kids 0).bind fun Ue=>(mF n 0 p).bind fun Uf=>((dh M).gX D Ue (a:Int) (m:Int) Uf).bind fun YD=>some YD else (some false)))=some r/\(r=true↔Kt D.l n p t0 a m):=by
  by_cases e:n.Kind=15
  .have e1:(n.Kind==15)=true:=by rw [e];rfl
   have e2:(n.Kind !=15)=false:=by rw [e];rfl
   obtain ⟨r,r1,r2⟩:=adX D hl K H t0 s0 k0 a m M a2 a3 a4 (ug e) ah ah (by unfold fB;omega);rw [e1,e2,aB,i0,ak,r1,ak,aA];refine ⟨r,by cases r<;>rfl,r2.trans ⟨fun h=>.inl ⟨e,h⟩,fun h=>?_⟩⟩;rcases h with ⟨_,h⟩|⟨h,_⟩
   .exact h
   .exact absurd e h
  .have e1:(n.Kind==15)=false:=by simpa using e
   have e2:(n.Kind !=15)=true:=by simpa using e
   obtain ⟨r,r1,r2⟩:=H M hM t0 s0 k0 a m _ a2 a3 a4 q0 h1 ah (by unfold fB;omega);rw [e1,e2,aA,aB,i0,ak,p0,ak,r1,ak];refine ⟨r,rfl,r2.trans ⟨fun h=>.inr ⟨e,h⟩,fun h=>?_⟩⟩;rcases h with ⟨h,_⟩|⟨_,h⟩
   .exact absurd h e
   .exact h
 obtain ⟨r,r1,r2⟩:=left;obtain ⟨r',r3,r4⟩:=H M hM t1 s1 k1 c b _ b2 b3 b4 q1 h3 hb (by unfold fB;omega);refine ⟨r&&r',fun kb=>?_,by rw [dA];exact and_congr r2 r4⟩;unfold Eu;dsimp only;rw [r1,ak];cases r with
 | false=>
  rw [aA,ak,aA];unfold Gi;dsimp only;rw [wrap64 ah ah];rfl
 | true=>
  rw [aB,i1,ak,p1,ak,r3,ak,ak];unfold Gi;dsimp only;rw [wrap64 ah ah];rfl
theorem ajM (K:Nat) (H:Dv D K) (n:aG) (p:aI) (i:Nat) (hx:D.x[i]?=some n) (t0 t1:aD) (hk:wo D [t0,t1] n.Kids) (he:iP n.Kind=true) (hlv:lv n.Kind n.Op≠0) (ug:n.Kind=15->dL t0.kind=true) (hp:posB p=true) (a b M:Nat) (hab:a < b) (hb:b<=D.l.length) (hM:M<=K+1) (hf:5000+20*(aU t0+aU t1)+(b - a)+5<=M):∃ r,(dh M).Gh D (i:Int) (a:Int) (b:Int) p=some r/\(r=true↔∃ m,a < m/\m < b/\Wi D.l n p t0 t1 a b m):=by
 obtain ⟨M,rfl⟩:∃ m,M=m+1:=⟨M - 1,ah⟩
 show ∃ r,Ug M (dh M) D (i:Int) (a:Int) (b:Int) p=some r/\_;unfold Ug;rw [zA hx,ak,wrap64 ah ah,show (a:Int)+1=((a+1:Nat):Int) by omega];have k3:=auj D hl K H n p t0 t1 hk he hlv ug hp a b M hb ah ah;have step:∀ m,a < m->m < b->∃ r:Bool,(∀ g,pU M (dh M) (g+1) ((a:Int),(b:Int),D,p,n,(m:Int))=bif r then some true else pU M (dh M) g ((a:Int),(b:Int),D,p,n,((m+1:Nat):Int)))/\(r=true↔Wi D.l n p t0 t1 a b m):=fun m h1 h2=>by
  have hm:m < D.l.length:=ah;have em:D.l[m].Kind=kd D.l m:=(iQ hm).symm;have pre:∀ g,pU M (dh M) (g+1) ((a:Int),(b:Int),D,p,n,(m:Int))=bif (n.Kind==12&&n.Op==99) then Eu M (dh M) (pU M (dh M) g) ((a:Int),(b:Int),(m:Int),D,p,n,(m:Int)) else bif (kd D.l m !=n.Op) then Gi M (dh M) (pU M (dh M) g) ((a:Int),(b:Int),(m:Int),D,p,n) else bif (n.Op==45||n.Op==44) then (Ms M D ((m+1:Nat):Int)).bind fun Js=>Eu M (dh M) (pU M (dh M) g) ((a:Int),(b:Int),(m:Int),D,p,n,(if Js < (b:Int) then Js else (b:Int))) else Eu M (dh M) (pU M (dh M) g) ((a:Int),(b:Int),(m:Int),D,p,n,((m+1:Nat):Int)):=fun g=>by
   rw [pU,gN (show (m:Int) < (b:Int) by omega),aB,aea,ak,bJ hm,ak,em,Wj,ak,wrap64 (n:=(m:Int)+1) ah ah,show (m:Int)+1=((m+1:Nat):Int) by omega]
  have k2:∀ g,Gi M (dh M) (pU M (dh M) g) ((a:Int),(b:Int),(m:Int),D,p,n)=pU M (dh M) g ((a:Int),(b:Int),D,p,n,((m+1:Nat):Int)):=fun g=>by
   unfold Gi;dsimp only;rw [wrap64 ah ah];rfl
  by_cases Dx:n.Kind=12/\n.Op=99
  .have e1:(n.Kind==12&&n.Op==99)=true:=by rw [Dx.1,Dx.2];rfl
   obtain ⟨r,r1,r2⟩:=k3 m m ah h2 ah ah;refine ⟨r,fun g=>by rw [pre,e1,aB,r1],r2.trans ⟨fun h=>.inl ⟨Dx.1,Dx.2,h⟩,fun h=>?_⟩⟩;rcases h with ⟨_,_,h⟩|⟨h,_⟩
   .exact h
   .exact absurd Dx h
  .have e1:(n.Kind==12&&n.Op==99)=false:=by
    rw [<- Bool.not_eq_true,dA,iG,iG];exact Dx
   by_cases ek:kd D.l m=n.Op
   .have e2:(kd D.l m !=n.Op)=false:=by rw [ek];simp
    by_cases eo:n.Op=45\/n.Op=44
    .have e3:(n.Op==45||n.Op==44)=true:=by rcases eo with h|h<;>rw [h]<;>rfl
     obtain ⟨f,f1,f2,f3,f4,f5⟩:=ajF M D hl ah (m+1) ah;obtain ⟨r,r1,r2⟩:=k3 m (if f < b then f else b) ah h2 (by split<;>omega) (by split<;>omega);have ec:(if (f:Int) < (b:Int) then (f:Int) else (b:Int))=((if f < b then f else b:Nat):Int):=by
      by_cases h:f < b
      .rw [bU h,bU ah]
      .rw [bL h,bL ah]
     refine ⟨r,fun g=>by rw [pre,e1,aA,e2,aA,e3,aB,f1,ak,ec,r1],r2.trans ⟨fun ⟨h,h'⟩=>.inr ⟨Dx,ek,h,?_⟩,fun h=>?_⟩⟩
     .by_cases g:f < b
      .rw [bU g] at h';have hf2:kd D.l f≠2:=by obtain ⟨_,d⟩:=h';exact adV d.first.o
       exact ⟨f,.inl ⟨eo,f2,f4,f5,hf2⟩,h'⟩
      .rw [bL g] at h';obtain ⟨_,d⟩:=h';have:=d.lt;omega
     .rcases h with ⟨h1,h2,_⟩|⟨_,_,h,c,hcc,hr⟩
      .exact absurd ⟨h1,h2⟩ Dx
      .rcases hcc with ⟨_,hcc⟩|⟨hcc,_⟩
       .have:f=c:=by
         rcases Rw f c with q|q|q
         .exact absurd (hcc.2.1 f f2 q) f5
         .exact q
         .exact absurd (f4 c hcc.1 q) hcc.2.2.1
        subst this;have hlt:f < b:=by obtain ⟨_,d⟩:=hr;exact d.lt.1
        rw [bU hlt];exact ⟨h,hr⟩
       .exact absurd eo hcc
    .have e3:(n.Op==45||n.Op==44)=false:=by
      rw [<- Bool.not_eq_true,iX,iG,iG];exact eo
     obtain ⟨r,r1,r2⟩:=k3 m (m+1) ah h2 ah ah;refine ⟨r,fun g=>by rw [pre,e1,aA,e2,aA,e3,aA,r1],r2.trans ⟨fun ⟨h,h'⟩=>.inr ⟨Dx,ek,h,m+1,.inr ⟨eo,rfl⟩,h'⟩,fun h=>?_⟩⟩;rcases h with ⟨h1,h2,_⟩|⟨_,_,h,c,hcc,hr⟩
     .exact absurd ⟨h1,h2⟩ Dx
     .rcases hcc with ⟨hcc,_⟩|⟨_,hcc⟩
      .exact absurd hcc eo
      .subst hcc;exact ⟨h,hr⟩
   .have e2:(kd D.l m !=n.Op)=true:=by simpa using ek
    refine ⟨false,fun g=>by rw [pre,e1,aA,e2,aB,k2,aA],⟨(fun h=>by cases h),fun h=>?_⟩⟩;rcases h with ⟨h1,h2,_⟩|⟨_,h,_⟩
    .exact absurd ⟨h1,h2⟩ Dx
    .exact absurd h ek
 have loop:∀ (g m:Nat),b - m < g->a < m->m<=b->∃ r,pU M (dh M) g ((a:Int),(b:Int),D,p,n,(m:Int))=some r/\(r=true↔∃ m',m<=m'/\m' < b/\Wi D.l n p t0 t1 a b m'):=by
  intro g;induction g with
  | zero=>intro m h;omega
  | succ g ih=>
   intro m hg h1 h2;by_cases hlt:m < b
   .obtain ⟨r,r1,r2⟩:=step m h1 hlt;rw [r1];cases r with
    | true=>exact ⟨true,rfl,⟨fun _=>⟨m,dK _,hlt,r2.1 rfl⟩,fun _=>rfl⟩⟩
    | false=>
     obtain ⟨r',q1,q2⟩:=ih (m+1) ah ah ah;refine ⟨r',q1,q2.trans ⟨fun ⟨m',c1,c2,c3⟩=>⟨m',ah,c2,c3⟩,fun ⟨m',c1,c2,c3⟩=>?_⟩⟩;by_cases em:m'=m
     .subst em;have:=r2.2 c3;cases this
     .exact ⟨m',ah,c2,c3⟩
   .rw [pU,lG (show¬(m:Int) < (b:Int) by omega),aA];exact ⟨false,rfl,⟨(fun h=>by cases h),fun ⟨m',c1,c2,_⟩=>ah⟩⟩
 obtain ⟨r,r1,r2⟩:=loop M (a+1) ah ah ah;exact ⟨r,r1,r2⟩
end
def Wm (l:List av) (n:aG) (p:aI) (t0 t1 t2:aD) (a b m k:Nat):Prop:=kd l m=65/\(∃ h,bO l (jX n.Kind n.Op n.Kids.length 0 p) a m t0 h)/\kd l k=66/\(∃ h,bO l (jX n.Kind n.Op n.Kids.length 1 p) (m+1) k t1 h)/\∃ h,bO l (jX n.Kind n.Op n.Kids.length 2 p) (k+1) b t2 h
def InP (l:List av) (n:aG) (p:aI) (ts:List aD) (a b:Nat):Prop:=a+3<=b/\kd l (b - 1)=6/\jE l (b - 1)=n.Text/\kd l (b - 2)=24/\((∃ t0,ts=[t0]/\∃ h,bO l (jX n.Kind n.Op n.Kids.length 0 p) a (b - 2) t0 h)\/(2<=ts.length/\zF (seg l a<|b - 2)=true/\lg l (a+1) (b - 3) ts))
section
variable (D:dx) (hl:D.l.length<=3000)
include hl
theorem auk (K:Nat) (H:Dv D K) (n:aG) (p:aI) (t0 t1 t2:aD) (hk:wo D [t0,t1,t2] n.Kids) (he:iP n.Kind=true) (hlv:lv n.Kind n.Op≠0) (hp:posB p=true) (a b M:Nat) (hab:a < b) (hb:b<=D.l.length) (hM:M<=K+1) (hf:5000+20*(aU t0+(aU t1+aU t2))+(b - a)+5<=M):∃ r,(dh M).Jp D n (a:Int) (b:Int) p=some r/\(r=true↔∃ m k,a < m/\m+1 < k/\k < b/\Wm D.l n p t0 t1 t2 a b m k):=by
 obtain ⟨M,rfl⟩:∃ m,M=m+1:=⟨M - 1,ah⟩
 have hlen:n.Kids.length=3:=hk.1.symm;obtain ⟨k0,k1,k2,i0,i1,i2,⟨⟨s0,a2⟩,a3,a4⟩,⟨⟨s1,b2⟩,b3,b4⟩,⟨⟨s2,c2⟩,c3,c4⟩⟩:=hk.three;have p0:mF n 0 p=_:=Ku n 0 p ah ah hp hlv;have p1:mF n 1 p=_:=Ku n 1 p ah ah hp hlv;have p2:mF n 2 p=_:=Ku n 2 p ah ah hp hlv;have q0:posB (jX n.Kind n.Op n.Kids.length 0 p)=true:=NP he;have q1:posB (jX n.Kind n.Op n.Kids.length 1 p)=true:=NP he;have q2:posB (jX n.Kind n.Op n.Kids.length 2 p)=true:=NP he;show ∃ r,Ul M (dh M) D n (a:Int) (b:Int) p=some r/\_;unfold Ul;rw [wrap64 ah ah,show (a:Int)+1=((a+1:Nat):Int) by omega];have k2e:∀ (m:Nat) kb,m < b->Qx M (dh M) kb ((a:Int),(b:Int),(m:Int),D,n,p)=kb ((a:Int),(b:Int),D,n,p,((m+1:Nat):Int)):=fun m kb hm=>by
  unfold Qx;dsimp only;rw [wrap64 ah ah];rfl
 have ajN:∀ (m:Nat),a<=m->m < b->∀ (g k:Nat),b - k < g->m+1<=k->∃ r:Bool,(∀ kb,Jt M (dh M) kb g ((a:Int),(b:Int),(m:Int),D,n,p,(k:Int))=bif r then some true else kb ((a:Int),(b:Int),D,n,p,((m+1:Nat):Int)))/\(r=true↔∃ k',k<=k'/\k' < b/\kd D.l k'=66/\(∃ h,bO D.l (jX n.Kind n.Op n.Kids.length 1 p) (m+1) k' t1 h)/\∃ h,bO D.l (jX n.Kind n.Op n.Kids.length 2 p) (k'+1) b t2 h):=by
  intro m ham hm g;induction g with
  | zero=>intro k h;omega
  | succ g ih=>
   intro k hg hmk;by_cases hlt:k < b
   .have hkl:k < D.l.length:=ah;have ek:D.l[k].Kind=kd D.l k:=(iQ hkl).symm;obtain ⟨r',n1,n2⟩:=ih (k+1) ah ah;have body:∃ r:Bool,((ix D.l (k:Int)).bind fun YE=>bif (YE.Kind==66) then (ix n.Kids 1).bind fun Uh=>(mF n 1 p).bind fun Ui=>((dh M).gX D Uh (IntKind.wrap .i64<|(m:Int)+1) (k:Int) Ui).bind fun YF=>bif YF then (ix n.Kids 2).bind fun Uj=>(mF n 2 p).bind fun Uk=>((dh M).gX D Uj (IntKind.wrap .i64<|(k:Int)+1) (b:Int) Uk).bind fun YG=>some YG else (some false) else (some false))=some r/\(r=true↔kd D.l k=66/\(∃ h,bO D.l (jX n.Kind n.Op n.Kids.length 1 p) (m+1) k t1 h)/\∃ h,bO D.l (jX n.Kind n.Op n.Kids.length 2 p) (k+1) b t2 h):=by
     rw [bJ hkl,ak,ek];cases ru:(kd D.l k==66) with
     | false=>exact ⟨false,rfl,⟨(fun h=>by cases h),fun h=>by rw [h.1] at ru;cases ru⟩⟩
     | true=>
      have ru:=eq_of_beq ru;obtain ⟨r,r1,r2⟩:=H M ah t1 s1 k1 (m+1) k _ b2 b3 b4 q1 hmk ah (by unfold fB;omega);rw [aB,i1,ak,p1,ak,wrap64 (n:=(m:Int)+1) ah ah,show (m:Int)+1=((m+1:Nat):Int) by omega,r1,ak];cases r with
      | false=>exact ⟨false,rfl,⟨(fun h=>by cases h),fun h=>r2.2 h.2.1⟩⟩
      | true=>
       obtain ⟨r,r3,r4⟩:=H M ah t2 s2 k2 (k+1) b _ c2 c3 c4 q2 hlt hb (by unfold fB;omega);rw [aB,i2,ak,p2,ak,wrap64 (n:=(k:Int)+1) ah ah,show (k:Int)+1=((k+1:Nat):Int) by omega,r3,ak];exact ⟨r,rfl,⟨fun h=>⟨ru,r2.1 rfl,r4.1 h⟩,fun h=>r4.2 h.2.2⟩⟩
    obtain ⟨r,r1,r2⟩:=body;refine ⟨r||r',fun kb=>?_,?_⟩
    .rw [Jt,gN (show (k:Int) < (b:Int) by omega),aB,r1,ak];cases r with
     | true=>rfl
     | false=>
      rw [aA,wrap64 ah ah,show (k:Int)+1=((k+1:Nat):Int) by omega,n1];rfl
    .rw [iX];constructor
     .rintro (h|h)
      .exact ⟨k,dK _,hlt,r2.1 h⟩
      .obtain ⟨k',c1,c2,c3⟩:=n2.1 h;exact ⟨k',ah,c2,c3⟩
     .rintro ⟨k',c1,c2,c3⟩;by_cases e:k'=k
      .subst e;exact .inl (r2.2 c3)
      .exact .inr (n2.2 ⟨k',ah,c2,c3⟩)
   .refine ⟨false,fun kb=>?_,⟨(fun h=>by cases h),fun ⟨k',c1,c2,_⟩=>ah⟩⟩;rw [Jt,lG (show¬(k:Int) < (b:Int) by omega),aA,k2e m kb hm];rfl
 have loop:∀ (g m:Nat),b - m < g->a < m->m<=b->∃ r,CP M (dh M) g ((a:Int),(b:Int),D,n,p,(m:Int))=some r/\(r=true↔∃ m' k,m<=m'/\m'+1 < k/\k < b/\Wm D.l n p t0 t1 t2 a b m' k):=by
  intro g;induction g with
  | zero=>intro m h;omega
  | succ g ih=>
   intro m hg h1 h2;by_cases hlt:m < b
   .have hfu:fB t0 (m - a)<=M:=by
     have z:m - a<=b - a:=Nat.sub_le_sub_right h2 a;clear ajN ih k2e;unfold fB;omega
    have hml:m < D.l.length:=ah;have em:D.l[m].Kind=kd D.l m:=(iQ hml).symm;obtain ⟨r',n1,n2⟩:=ih (m+1) ah ah ah;rw [CP,gN (show (m:Int) < (b:Int) by omega),aB,bJ hml,ak,em];have skip:(¬(kd D.l m=65/\∃ h,bO D.l (jX n.Kind n.Op n.Kids.length 0 p) a m t0 h))->(r'=true↔∃ m' k,m<=m'/\m'+1 < k/\k < b/\Wm D.l n p t0 t1 t2 a b m' k):=fun hno=>n2.trans ⟨fun ⟨m',k,d1,d2,d3,d4⟩=>⟨m',k,ah,d2,d3,d4⟩,fun ⟨m',k,d1,d2,d3,d4⟩=>by
     by_cases e:m'=m
     .subst e;exact absurd ⟨d4.1,d4.2.1⟩ hno
     .exact ⟨m',k,ah,d2,d3,d4⟩⟩
    cases dI:(kd D.l m !=65) with
    | true=>
     rw [aB,ak,aB,k2e m _ hlt,n1];exact ⟨r',rfl,skip fun h=>by rw [h.1] at dI;cases dI⟩
    | false=>
     have dI:kd D.l m=65:=by simpa using dI
     have hMK:M<=K:=ah;have ham:a<=m:=ah;have hmb:m<=D.l.length:=ah;obtain ⟨r,r1,r2⟩:=H M hMK t0 s0 k0 a m _ a2 a3 a4 q0 ham hmb hfu;rw [aA,i0,ak,p0,ak,r1,ak,ak];cases r with
     | false=>
      rw [bY,aB,k2e m _ hlt,n1];exact ⟨r',rfl,skip fun h=>by have:=r2.2 h.2;cases this⟩
     | true=>
      rw [fE,aA,wrap64 (n:=(m:Int)+2) ah ah,show (m:Int)+2=((m+2:Nat):Int) by omega];obtain ⟨r,r3,r4⟩:=ajN m ah hlt M (m+2) ah ah;rw [r3,n1];refine ⟨r||r',by cases r<;>rfl,?_⟩;rw [iX];constructor
      .rintro (h|h)
       .obtain ⟨k,d1,d2,d3⟩:=r4.1 h;exact ⟨m,k,dK _,ah,d2,dI,r2.1 rfl,d3⟩
       .obtain ⟨m',k,d1,d2⟩:=n2.1 h;exact ⟨m',k,ah,d2⟩
      .rintro ⟨m',k,d1,d2,d3,d4⟩;by_cases e:m'=m
       .subst e;exact .inl (r4.2 ⟨k,ah,d3,d4.2.2⟩)
       .exact .inr (n2.2 ⟨m',k,ah,d2,d3,d4⟩)
   .rw [CP,lG (show¬(m:Int) < (b:Int) by omega),aA];exact ⟨false,rfl,⟨(fun h=>by cases h),fun ⟨m',k,c1,c2,c3,_⟩=>ah⟩⟩
 obtain ⟨r,r1,r2⟩:=loop M (a+1) ah ah ah;exact ⟨r,r1,r2⟩
theorem aum (K:Nat) (H:Dv D K) (n:aG) (p:aI) (ts:List aD) (hk:wo D ts n.Kids) (h1:1<=ts.length) (GQ:ts.length<=400) (he:iP n.Kind=true) (hlv:lv n.Kind n.Op≠0) (hp:posB p=true) (a b M:Nat) (hab:a < b) (hb:b<=D.l.length) (hM:M<=K+1) (hf:5000+20*bq ts+(b - a)+ts.length+5<=M):∃ r,(dh M).Jq D n (a:Int) (b:Int) p=some r/\(r=true↔InP D.l n p ts a b):=by
 obtain ⟨M,rfl⟩:∃ m,M=m+1:=⟨M - 1,ah⟩
 show ∃ r,Um M (dh M) D n (a:Int) (b:Int) p=some r/\_;unfold Um;have hw:IntKind.wrap .i64 ((b:Int) - (a:Int))=((b - a:Nat):Int):=by rw [wrap64 ah ah];omega
 rw [hw];by_cases h3:a+3<=b
 .have hb1:b - 1 < D.l.length:=ah;have hb2:b - 2 < D.l.length:=ah;have e1:D.l[b - 1].Kind=kd D.l (b - 1):=(iQ hb1).symm;have et:D.l[b - 1].Text=jE D.l (b - 1):=(uM hb1).symm;have e2:D.l[b - 2].Kind=kd D.l (b - 2):=(iQ hb2).symm;rw [lG (show¬((b - a:Nat):Int) < 3 by omega),aA,wrap64 (n:=(b:Int) - 1) ah ah,show (b:Int) - 1=((b - 1:Nat):Int) by omega,wrap64 (n:=(b:Int) - 2) ah ah,show (b:Int) - 2=((b - 2:Nat):Int) by omega,bJ hb1,ak,e1,ak,et,bJ hb2,ak,e2,Wj,Wj,ak];have no:(¬(kd D.l (b - 1)=6/\jE D.l (b - 1)=n.Text/\kd D.l (b - 2)=24))->(false=true↔InP D.l n p ts a b):=fun h=>⟨(fun h=>by cases h),fun ⟨_,g1,g2,g3,_⟩=>absurd ⟨g1,g2,g3⟩ h⟩
  by_cases h6:kd D.l (b - 1)=6
  .by_cases htx:jE D.l (b - 1)=n.Text
   .by_cases dN:kd D.l (b - 2)=24
    .have c1:(kd D.l (b - 1) !=6||(!(jE D.l (b - 1)==n.Text)||kd D.l (b - 2) !=24))=false:=by
      rw [h6,htx,dN];simp
     rw [c1,aA]
     match ts,hk,h1 with
     | [t0],hk,_=>
      obtain ⟨k0,i0,⟨⟨s0,a2⟩,a3,a4⟩⟩:=hk.one;have hlen:n.Kids.length=1:=hk.1.symm;have p0:mF n 0 p=_:=Ku n 0 p ah ah hp hlv;have q0:posB (jX n.Kind n.Op n.Kids.length 0 p)=true:=NP he;have hsz:=Dq (show t0∈[t0] from yg.2 rfl);obtain ⟨r,r1,r2⟩:=H M ah t0 s0 k0 a (b - 2) _ a2 a3 a4 q0 ah ah (by unfold fB;omega);have hl1:((n.Kids.length:Int)==1)=true:=by rw [hlen];rfl
      rw [hl1,aB,i0,ak,p0,ak,r1,ak];refine ⟨r,rfl,r2.trans ⟨fun h=>⟨h3,h6,htx,dN,.inl ⟨t0,rfl,h⟩⟩,fun ⟨_,_,_,_,h⟩=>?_⟩⟩;rcases h with ⟨t,g1,g2⟩|⟨g,_⟩
      .cases g1;exact g2
      .exact absurd g aF
     | t0::t1::tr,hk,_=>
      have hl1:((n.Kids.length:Int)==1)=false:=by
       have:=hk.1;rw [fF];simp at this;omega
      rw [hl1,aA,adW ah ah,ak,adT M _ (by rw [Ry ah ah];omega) ah,ak];cases hh:zF (seg D.l a<|b - 2) with
      | false=>
       refine ⟨false,rfl,⟨(fun h=>by cases h),fun ⟨_,_,_,_,h⟩=>?_⟩⟩;rcases h with ⟨t,g1,g2⟩|⟨_,g,_⟩
       .cases g1
       .rw [hh] at g;cases g
      | true=>
       obtain ⟨d1,d2,d3⟩:=aac (show a<=b - 2 by omega) ah hh;rw [aB,wrap64 (n:=(a:Int)+1) ah ah,show (a:Int)+1=((a+1:Nat):Int) by omega,wrap64 (n:=(b:Int) - 3) ah ah,show (b:Int) - 3=((b - 3:Nat):Int) by omega];obtain ⟨r,r1,r2⟩:=ajH D hl K H (t0::t1::tr) n.Kids (a+1) (b - 3) M hk ah ah ah ah GQ;rw [r1];refine ⟨r,rfl,r2.trans ⟨fun h=>?_,fun ⟨_,_,_,_,h⟩=>?_⟩⟩
       .rcases h with ⟨h,_⟩|h
        .cases h
        .exact ⟨h3,h6,htx,dN,.inr ⟨aF,hh,h⟩⟩
       .rcases h with ⟨t,g1,g2⟩|⟨_,_,g⟩
        .cases g1
        .exact .inr g
    .have c1:(kd D.l (b - 1) !=6||(!(jE D.l (b - 1)==n.Text)||kd D.l (b - 2) !=24))=true:=by
      simp [dN]
     rw [c1,aB];exact ⟨false,rfl,no fun h=>dN h.2.2⟩
   .have c1:(kd D.l (b - 1) !=6||(!(jE D.l (b - 1)==n.Text)||kd D.l (b - 2) !=24))=true:=by
     simp [htx]
    rw [c1,aB];exact ⟨false,rfl,no fun h=>htx h.2.1⟩
  .have c1:(kd D.l (b - 1) !=6||(!(jE D.l (b - 1)==n.Text)||kd D.l (b - 2) !=24))=true:=by
    simp [h6]
   rw [c1,aB];exact ⟨false,rfl,no fun h=>h6 h.1⟩
 .rw [gN (show ((b - a:Nat):Int) < 3 by omega),aB,ak,aB];exact ⟨false,rfl,⟨(fun h=>by cases h),fun h=>absurd h.1 h3⟩⟩
end
def aaf {t:aD} (g:GN t) (h:t.kids.length=1):∃ a,t.kids=[a]:=by
 match t.kids,h with
 | [a],_=>exact ⟨a,rfl⟩
def ajP {o:Int} (h:bF o≠0):(bF o=3\/bF o=4)↔(o=45\/o=44):=by
 rcases EN h with e|e|e|e|e|e|e|e|e|e|e|e|e|e|e|e|e<;>subst e<;>decide
def ajQ (a b:aD):bq [a,b]=aU a+aU b:=by simp [bq]
def aun (a b c:aD):bq [a,b,c]=aU a+(aU b+aU c):=by simp [bq]
def aag (a:aD):bq [a]=aU a:=by simp [bq]
def ajR {l:List av} {p:aI} {i j:Nat} {t:aD} {x y:Bool} (g1:fK t.kind t.op ⟨14,true,x,y,false⟩=true) (g4:cO l p i j t):t.kind<=9:=by
 have hlv:t.kind=9\/14<=lv t.kind t.op:=by
  unfold fK at g1;simp only [dA,iX,iF,jS,iG] at g1;exact g1.2.2.2.2
 rcases hlv with e|hlv
 .omega
 cases g4 with
 | leaf k e1=>show k - 1<=9;omega
 | name=>show (1:Int)<=9;omega
 | index=>show (5:Int)<=9;omega
 | len=>show (8:Int)<=9;omega
 | field=>show (6:Int)<=9;omega
 | pre=>show (9:Int)<=9;omega
 | jU k e1|call k e1=>show k<=9;omega
 | post=>exact absurd hlv (by show¬(14:Int)<=13;omega)
 | unary=>exact absurd hlv (by show¬(14:Int)<=11;omega)
 | one|many=>exact absurd hlv (by show¬(14:Int)<=5;omega)
 | cond=>exact absurd hlv (by show¬(14:Int)<=2;omega)
 | assign=>exact absurd hlv (by show¬(14:Int)<=1;omega)
 | bin o=>exact absurd hlv (by show¬(14:Int)<=bF o;have:=NJ o;omega)
 | cat=>exact absurd hlv (by show¬(14:Int)<=8;decide)
def auo {k o:Int} {x y x' y':Bool} (h:k<=9):fK k o ⟨14,true,x,y,false⟩=fK k o ⟨14,true,x',y',false⟩:=by
 have a:(k==13)=false:=by rw [fF];omega
 have b:(k==12)=false:=by rw [fF];omega
 unfold fK;simp only [a,b,Kl,tY];rfl
def ajS {l:List av} {i j:Nat} {t:aD} {h x y x' y':Bool} (d:bO l ⟨14,true,x,y,false⟩ i j t h):bO l ⟨14,true,x',y',false⟩ i j t h:=by
 cases d with
 | par g1 g2 g3 g4 g5=>exact .par g1 g2 g3 g4 g5
 | bare g1 g2 g3 g4=>exact .bare ((auo<|ajR g1 g4).trans g1) g2 g3 (g4.low (ajR g1 g4) _)
def aup {l:List av} {a j:Nat} (g1:kd l a=32) (g2:a+1<=j) (g3:j < l.length) (hb:mM (seg l (a+1) j)) (g5:kd l j=33):zF (seg l a<|j+1)=true:=by
 have ha:a < l.length:=ah;have e:seg l a (j+1)=l[a]::(seg l (a+1) j++l[j]::[]):=by
  rw [uf (show a<=a+1 by omega) (show a+1<=j+1 by omega),uf (show a+1<=j by omega) (show j<=j+1 by omega),rY ha,rY g3];rfl
 have k1:l[a].Kind=32:=by rw [<- iQ ha];exact g1
 have k2:l[j].Kind=33:=by rw [<- iQ g3];exact g5
 have hlen:=Ry (l:=l) (a:=a) (b:=j+1) ah ah;unfold zF;have ka:kd l (a+0)=32:=g1;rw [hlen,Rz ah,Rz ah,ka,show a+(j+1 - a - 1)=j by omega,g5,gN ah];show (true&&(true&&(true&&uO 0 (seg l a<|j+1))))=true;rw [iF,iF,iF,e];show (!((bif dF l[a].Kind then _ else _)==0&&_)&&uO _ (seg l (a+1) j++l[j]::[]))=true;rw [k1];show (true&&uO 1 (seg l (a+1) j++l[j]::[]))=true;rw [iF,hb.hd 1 _ ah];show (!((bif dF l[j].Kind then _ else _)==0&&_)&&true)=true;rw [k2];rfl
def n5 {l:List av} {p:aI} {x:List UInt8} {ts:List aD} {a b:Nat} (h1:1<=ts.length) (h6:ts.length<=6) (hb:b<=l.length):RA l 6 34 x ts a b↔cO l p a b ⟨5,0,x,[],ts⟩:=by
 constructor
 .rintro (⟨h,_⟩|⟨_,h3,k1,k2,k3,k4,h⟩)
  .cases h
  .obtain ⟨j,rfl⟩:∃ j,b=j+1:=⟨b - 1,ah⟩
   rw [show j+1 - 1=j by omega] at k4 h;rcases h with ⟨h,_⟩|h
   .rw [h] at h1;simp at h1
   .rw [<- k2];exact .index k1 k3 h.lt.1 ah k4 h6 h
 .intro d;generalize hz:(⟨5,0,x,[],ts⟩:aD)=z at d;cases d with
  | @index _ _ j _ q1 q2 q3 q4 q5 q6 q7=>
   injection hz with _ _ z3 _ z5;subst z5;exact .inr ⟨fun h=>(by cases h.1),ah,q1,z3.symm,q2,q5,.inr q7⟩
  | _=>injection hz with h5;omega
def n78 {l:List av} {p:aI} {x:List UInt8} {ts:List aD} {a b:Nat} {k:Int} (hk:k=7\/k=8) (h6:ts.length<=6) (hb:b<=l.length):RA l k 32 x ts a b↔cO l p a b ⟨k,0,x,[],ts⟩:=by
 constructor
 .rintro (⟨k8,rfl,k2,k3,rfl,k5,k6⟩|⟨_,h3,k1,k2,k3,k4,h⟩)
  .subst k8;have:=cO.len (p:=p) k5 k2 (k6.trans k3);rw [k6] at this;exact this
  .obtain ⟨j,rfl⟩:∃ j,b=j+1:=⟨b - 1,ah⟩
   rw [show j+1 - 1=j by omega] at k4 h;rcases h with ⟨rfl,h⟩|h
   .subst h;rw [<- k2];exact .jU k hk k1 k3 k4
   .rw [<- k2];exact .call k hk k1 k3 h.lt.1 ah k4 h6 h
 .intro d;generalize hz:(⟨k,0,x,[],ts⟩:aD)=z at d;cases d with
  | jU k' q1 q2 q3 q4=>
   injection hz with z1 _ z3 _ z5;subst z1 z5;exact .inr ⟨fun h=>ah,ah,q2,z3.symm,q3,q4,.inl ⟨rfl,rfl⟩⟩
  | @call _ _ j _ k' q1 q2 q3 q4 q5 q6 q7 q8=>
   injection hz with z1 _ z3 _ z5;subst z1 z5;exact .inr ⟨fun h=>ah,ah,q2,z3.symm,q3,q6,.inr q8⟩
  | len q1 q2 q3=>
   injection hz with z1 _ z3 _ z5;exact .inl ⟨z1,rfl,q2,z3.trans q3,z5,q1,z3.symm⟩
  | _=>injection hz with h5;omega
def n9 {l:List av} {p:aI} {o:Int} {t:aD} {a b:Nat} (ho:o=51\/o=52) (hL:dL t.kind=true):(kd l a=o/\a+1 < b/\cO l rX (a+1) b t)↔cO l p a b ⟨9,o,[],[],[t]⟩:=by
 constructor
 .rintro ⟨h1,h2,h3⟩;exact .pre o ho h1 hL h2 h3
 .intro d;generalize hz:(⟨9,o,[],[],[t]⟩:aD)=z at d;cases d with
  | pre o' q1 q2 q3 q4 q5=>injection hz with _ z2 _ _ z5;injection z5 with z5;subst z2 z5;exact ⟨q2,q4,q5⟩
  | _=>injection hz with h5;omega
def n10 {l:List av} {p:aI} {o:Int} {t:aD} {a b:Nat} (ho:o=51\/o=52) (hL:dL t.kind=true) (hab:a < b):(kd l (b - 1)=o/\a < b - 1/\cO l rX a (b - 1) t)↔cO l p a b ⟨10,o,[],[],[t]⟩:=by
 obtain ⟨j,rfl⟩:∃ j,b=j+1:=⟨b - 1,ah⟩
 rw [show j+1 - 1=j by omega];constructor
 .rintro ⟨h1,h2,h3⟩;exact .post o ho h1 hL h2 h3
 .intro d;generalize hz:(⟨10,o,[],[],[t]⟩:aD)=z at d;generalize hy:j+1=y at d;cases d with
  | post o' q1 q2 q3 q4 q5=>
   injection hz with _ z2 _ _ z5;injection z5 with z5;subst z2 z5;injection hy with hy;subst hy;exact ⟨q2,q4,q5⟩
  | _=>injection hz with h5;omega
def n6 {l:List av} {p q:aI} {t:aD} {a b:Nat} (hq:∃ x y,q=⟨14,true,x,y,false⟩):(kd l a=68/\∃ h,bO l q (a+1) b t h)↔cO l p a b ⟨6,0,[],[],[t]⟩:=by
 obtain ⟨x,y,rfl⟩:=hq;constructor
 .rintro ⟨h1,h,d⟩;exact .field h1 d.lt.1 (ajS d)
 .intro d;generalize hz:(⟨6,0,[],[],[t]⟩:aD)=z at d;cases d with
  | field q1 q2 q3=>injection hz with _ _ _ _ z5;injection z5 with z5;subst z5;exact ⟨q1,_,ajS q3⟩
  | _=>injection hz with h5;omega
def n11 {l:List av} {p:aI} {o:Int} {t:aD} {a b:Nat} (ho:o=55\/o=56\/o=61):(kd l a=o/\∃ h,bO l ⟨11,false,p.aV,p.aW,false⟩ (a+1) b t h)↔cO l p a b ⟨11,o,[],[],[t]⟩:=by
 constructor
 .rintro ⟨h1,h,d⟩;exact .unary o ho h1 d.lt.1 d
 .intro d;generalize hz:(⟨11,o,[],[],[t]⟩:aD)=z at d;cases d with
  | unary o' q1 q2 q3 q4=>injection hz with _ z2 _ _ z5;injection z5 with z5;subst z2 z5;exact ⟨q2,_,q4⟩
  | _=>injection hz with h5;omega
def n12 {l:List av} {n:aG} {p:aI} {t0 t1:aD} {a b:Nat} (hk:n.Kind=12) (ho:bF n.Op≠0):(∃ m,a < m/\m < b/\Wi l n p t0 t1 a b m)↔cO l p a b ⟨12,n.Op,[],[],[t0,t1]⟩:=by
 have k0:jX n.Kind n.Op n.Kids.length 0 p=⟨(iY n.Op).1,false,p.aV,p.aW,p.eZ⟩:=by rw [hk];rfl
 have k1:jX n.Kind n.Op n.Kids.length 1 p=⟨(iY n.Op).2,false,p.aV,p.aW,n.Op==99⟩:=by rw [hk];rfl
 have hlf:∀ m,Kt l n p t0 a m↔∃ h,bO l ⟨(iY n.Op).1,false,p.aV,p.aW,p.eZ⟩ a m t0 h:=fun m=>by
  unfold Kt;rw [k0,hk];exact ⟨fun h=>(by rcases h with ⟨h,_⟩|⟨_,h⟩<;>first|exact h|cases h),fun h=>.inr ⟨aH,h⟩⟩
 have hrt:∀ c,NM l n p t1 c b↔∃ h,bO l ⟨(iY n.Op).2,false,p.aV,p.aW,n.Op==99⟩ c b t1 h:=fun c=>by
  unfold NM;rw [k1]
 constructor
 .rintro ⟨m,h1,h2,⟨_,nO,hl,hr⟩|⟨hno,hm,hl,c,hc,hr⟩⟩
  .obtain ⟨_,dl⟩:=(hlf m).1 hl;obtain ⟨_,dr⟩:=(hrt m).1 hr;rw [nO] at dl dr ⊢;exact .cat h1 h2 dl dr
  .have nO:n.Op≠99:=fun e=>hno ⟨hk,e⟩;obtain ⟨_,dl⟩:=(hlf m).1 hl;obtain ⟨_,dr⟩:=(hrt c).1 hr;have e99:(n.Op==99)=false:=by simpa using nO
   rw [e99] at dr;rw [<- ajP ho] at hc;exact .bin n.Op ho nO hm h1 dr.lt.1 hc dl dr
 .intro d;generalize hz:(⟨12,n.Op,[],[],[t0,t1]⟩:aD)=z at d;cases d with
  | @bin _ _ m f _ _ _ _ _ o' q1 q2 q3 q4 q5 q6 q7 q8=>
   injection hz with _ z2 _ _ z5;injection z5 with z5 z6;injection z6 with z6;subst z5 z6;rw [<- z2] at q1 q2 q3 q6 q7 q8;have e99:(n.Op==99)=false:=by simpa using q2
   have:=xV q6;refine ⟨m,q4,ah,.inr ⟨fun h=>q2 h.2,q3,(hlf m).2 ⟨_,q7⟩,f,by rw [<- ajP ho];exact q6,(hrt f).2 ⟨_,by rw [e99];exact q8⟩⟩⟩
  | @cat _ _ m _ _ _ _ _ q1 q2 q3 q4=>
   injection hz with _ z2 _ _ z5;injection z5 with z5 z6;injection z6 with z6;subst z5 z6;refine ⟨m,q1,q2,.inl ⟨hk,z2,(hlf m).2 ⟨_,by rw [z2];exact q3⟩,(hrt m).2 ⟨_,by rw [z2];exact q4⟩⟩⟩
  | _=>injection hz with h5;omega
def n15 {l:List av} {n:aG} {p:aI} {t0 t1:aD} {a b:Nat} (hk:n.Kind=15) (ho:oQ n.Op=true) (hL:dL t0.kind=true):(∃ m,a < m/\m < b/\Wi l n p t0 t1 a b m)↔cO l p a b ⟨15,n.Op,[],[],[t0,t1]⟩:=by
 have k1:jX n.Kind n.Op n.Kids.length 1 p=⟨1,false,p.aV,p.aW,false⟩:=by rw [hk];rfl
 have hlf:∀ m,Kt l n p t0 a m↔a < m/\cO l rX a m t0:=fun m=>by
  unfold Kt;rw [hk];exact ⟨fun h=>(by rcases h with ⟨_,h⟩|⟨h,_⟩<;>first|exact h|exact absurd rfl h),fun h=>.inl ⟨rfl,h⟩⟩
 have hrt:∀ c,NM l n p t1 c b↔∃ h,bO l ⟨1,false,p.aV,p.aW,false⟩ c b t1 h:=fun c=>by
  unfold NM;rw [k1]
 have kR: ¬(n.Op=45\/n.Op=44):=by
  rintro (e|e)<;>rw [e] at ho<;>revert ho<;>decide
 constructor
 .rintro ⟨m,h1,h2,⟨h,_⟩|⟨_,hm,hl,c,hc,hr⟩⟩
  .rw [hk] at h;cases h
  .rcases hc with ⟨hc,_⟩|⟨_,hc⟩
   .exact absurd hc kR
   .subst hc;obtain ⟨_,dr⟩:=(hrt _).1 hr;exact .assign n.Op ho hm h1 dr.lt.1 hL ((hlf m).1 hl).2 dr
 .intro d;generalize hz:(⟨15,n.Op,[],[],[t0,t1]⟩:aD)=z at d;cases d with
  | @assign _ _ m _ _ _ _ o' q1 q2 q3 q4 q5 q6 q7=>
   injection hz with _ z2 _ _ z5;injection z5 with z5 z6;injection z6 with z6;subst z5 z6;refine ⟨m,q3,ah,.inr ⟨fun h=>(by rw [hk] at h;cases h.1),by rw [q2,z2],(hlf m).2 ⟨q3,q6⟩,m+1,.inr ⟨kR,rfl⟩,(hrt _).2 ⟨_,q7⟩⟩⟩
  | _=>injection hz with h5;omega
def n14 {l:List av} {n:aG} {p:aI} {t0 t1 t2:aD} {a b:Nat} (hk:n.Kind=14):(∃ m k,a < m/\m+1 < k/\k < b/\Wm l n p t0 t1 t2 a b m k)↔cO l p a b ⟨14,0,[],[],[t0,t1,t2]⟩:=by
 have k0:jX n.Kind n.Op n.Kids.length 0 p=⟨3,false,p.aV,p.aW,p.eZ⟩:=by rw [hk];rfl
 have k1:jX n.Kind n.Op n.Kids.length 1 p=⟨2,false,p.aV,p.aW,false⟩:=by rw [hk];rfl
 have k2:jX n.Kind n.Op n.Kids.length 2 p=⟨2,false,p.aV,p.aW,false⟩:=by rw [hk];rfl
 unfold Wm;rw [k0,k1,k2];constructor
 .rintro ⟨m,k,h1,h2,h3,h4,⟨_,d0⟩,h5,⟨_,d1⟩,⟨_,d2⟩⟩;exact .cond h1 h4 h2 h5 d2.lt.1 d0 d1 d2
 .intro d;generalize hz:(⟨14,0,[],[],[t0,t1,t2]⟩:aD)=z at d;cases d with
  | @cond _ _ m k _ _ _ _ _ _ _ q1 q2 q3 q4 q5 q6 q7 q8=>
   injection hz with _ _ _ _ z5;injection z5 with z5 z6;injection z6 with z6 z7;injection z7 with z7;subst z5 z6 z7;exact ⟨m,k,q1,q3,ah,q2,⟨_,q6⟩,q4,⟨_,q7⟩,⟨_,q8⟩⟩
  | _=>injection hz with h5;omega
def n13 {l:List av} {n:aG} {p:aI} {ts:List aD} {a b:Nat} (hk:n.Kind=13) (hkl:n.Kids.length=ts.length) (h6:ts.length<=6) (hb:b<=l.length):InP l n p ts a b↔cO l p a b ⟨13,0,n.Text,[],ts⟩:=by
 have k0:ts.length=1->jX n.Kind n.Op n.Kids.length 0 p=⟨5,false,p.aV,p.aW,p.eZ⟩:=fun h=>by rw [hk,hkl,h];rfl
 constructor
 .rintro ⟨h3,g1,g2,g3,h⟩;rcases h with ⟨t0,rfl,_,d⟩|⟨h2,hh,d⟩
  .obtain ⟨m,rfl⟩:∃ m,b=m+2:=⟨b - 2,ah⟩
   rw [k0 rfl] at d;rw [show m+2 - 1=m+1 by omega] at g1 g2;rw [show m+2 - 2=m by omega] at g3 d;rw [<- g2];exact .one d.lt.1 g3 g1 d
  .obtain ⟨d1,d2,d3⟩:=aac (show a<=b - 2 by omega) ah hh;obtain ⟨m,rfl⟩:∃ m,b=m+3:=⟨b - 3,ah⟩
   rw [show m+3 - 1=m+2 by omega] at g1 g2;rw [show m+3 - 2=m+1 by omega] at g3 d3;rw [show m+3 - 3=m by omega] at d;rw [show m+1 - 1=m by omega] at d3;rw [<- g2];exact .many d2 d.lt.1 d3 g3 g1 h2 h6 d
 .intro d;generalize hz:(⟨13,0,n.Text,[],ts⟩:aD)=z at d;cases d with
  | @one _ _ m t _ q1 q2 q3 q4=>
   injection hz with _ _ z3 _ z5;subst z5;exact ⟨ah,q3,z3.symm,q2,.inl ⟨t,rfl,_,by rw [k0 rfl];exact q4⟩⟩
  | @many _ _ m _ q1 q2 q3 q4 q5 q6 q7 q8=>
   injection hz with _ _ z3 _ z5;subst z5;refine ⟨ah,q5,z3.symm,q4,.inr ⟨q6,?_,q8⟩⟩;exact aup q1 ah (aah q3 aH) (((Kq l (m - (a+1)) (a+1) m<|dK _).2.2 ts q8).b) q3
  | _=>injection hz with h5;omega
section
variable (D:dx) (hl:D.l.length<=3000)
include hl
theorem auq (K:Nat) (H:Dv D K) (u:aD) (s i:Nat) (p:aI) (hT:TA D.x u s i) (hg:allT GN u) (hcn:allT CN u) (hp:posB p=true) (a b M:Nat) (hab:a < b) (hb:b<=D.l.length) (hM:M<=K+1) (hf:fB u (b - a)<=M+3):∃ r,(dh M).Jr D (i:Int) (a:Int) (b:Int) p=some r/\(r=true↔cO D.l p a b u):=by
 obtain ⟨M,rfl⟩:∃ m,M=m+1:=⟨M - 1,by unfold fB at hf;omega⟩
 obtain ⟨n,hn,e1,e2,e3,e4,hka,hkl⟩:=hT.node;have hks:=atS (D:=D) hg hcn hka hkl;have g:=adA hg;have cn:=adA hcn;have hsz:=Ki u;have hkb:=xZ u.kids;have hle:=g.le;have ha:a < D.l.length:=ah;have ea:D.l[a].Kind=kd D.l a:=(iQ ha).symm;have eta:D.l[a].Text=jE D.l a:=(uM ha).symm;have hw:IntKind.wrap .i64 ((b:Int) - (a:Int))=((b - a:Nat):Int):=by rw [wrap64 ah ah];omega
 have hw1:IntKind.wrap .i64 ((a:Int)+1)=((a+1:Nat):Int):=by rw [wrap64 ah ah];rfl
 have hwb:IntKind.wrap .i64 ((b:Int) - 1)=((b - 1:Nat):Int):=by rw [wrap64 ah ah];omega
 have he:iP n.Kind=true:=by rw [<- e1];exact g.e
 have hlv:lv n.Kind n.Op≠0:=by rw [<- e1,<- e2];exact g.lv
 have hu:u=⟨n.Kind,n.Op,n.Text,[],u.kids⟩:=by
  have ho:=cn.oth;obtain ⟨k,o,x,y,ks⟩:=u;dsimp only at e1 e2 e3 e4 ho ⊢;rw [e1,e2,e3,ho]
 show ∃ r,Uu M (dh M) D (i:Int) (a:Int) (b:Int) p=some r/\_;unfold Uu;rw [zA hn,ak];unfold fB at hf;have hq0:posB (jX n.Kind n.Op n.Kids.length 0 p)=true:=NP he;have leaf:∀ k:Int,k=3\/k=4\/k=5\/k=6->(n.Kind=1/\k=6\/n.Kind=k - 1/\k≠6)->og n=some ⟨k,n.Text,0⟩->∃ r,((og n).bind fun r4=>bif (r4.Kind !=0) then (bif (((b - a:Nat):Int)==1) then (ix D.l (a:Int)).bind fun e13=>bif (e13.Kind==r4.Kind) then (ix D.l (a:Int)).bind fun e14=>some (e14.Text==r4.Text) else (some false) else (some false)).bind fun jV=>some jV else none)=some r/\(r=true↔cO D.l p a b u):=fun k hk hnk hlf=>by
  have ZK:u.kids=[]:=VP.1 (g.a0<|by rw [e1];omega);have hop:n.Op=0:=by
   rw [<- e2];refine cn.pY ?_;rw [e1];have h9:n.Kind=1\/n.Kind=2\/n.Kind=3\/n.Kind=4:=ah;rcases h9 with h|h|h|h<;>rw [h]<;>rfl
  have c1:(k !=0)=true:=by rcases hk with rfl|rfl|rfl|rfl<;>rfl
  rw [hlf,ak];dsimp only;rw [c1,aB,bJ ha,ak,ea,ak,eta];have fwd:cO D.l p a b u->b=a+1/\kd D.l a=k/\jE D.l a=n.Text:=fun d=>by
   rw [hu,ZK,hop] at d;rcases hnk with ⟨h1,h2⟩|⟨h1,h2⟩
   .rw [h1] at d;generalize hz:(⟨1,0,n.Text,[],[]⟩:aD)=z at d;cases d with
    | name h=>injection hz with _ _ h3;exact ⟨rfl,by rw [h2];exact h,h3.symm⟩
    | leaf k' h3 h4=>injection hz with h5;omega
    | jU k' h3=>injection hz with h5;omega
    | call k' h3=>injection hz with h5;omega
    | _=>injection hz with h5;omega
   .rw [h1] at d;generalize hz:(⟨k - 1,0,n.Text,[],[]⟩:aD)=z at d;have hk3:k=3\/k=4\/k=5:=ah;cases d with
    | leaf k' h3 h4=>injection hz with h5 _ h6;exact ⟨rfl,by rw [h4];omega,h6.symm⟩
    | jU k' h3=>injection hz with h5;omega
    | call k' h3=>injection hz with h5;omega
    | _=>injection hz with h5;omega
  by_cases h1:b=a+1
  .have c2:(((b - a:Nat):Int)==1)=true:=by rw [h1,show a+1 - a=1 by omega];rfl
   rw [c2,aB];by_cases h2:kd D.l a=k
   .have c3:(kd D.l a==k)=true:=by rw [h2];simp
    rw [c3,aB];refine ⟨_,rfl,⟨fun h=>?_,fun d=>?_⟩⟩
    .have h:jE D.l a=n.Text:=by simpa using h
     rw [hu,ZK,hop,h1,<- h];rcases hnk with ⟨h3,h4⟩|⟨h3,h4⟩
     .rw [h3];exact .name (by rw [h2,h4])
     .rw [h3];exact .leaf k ah h2
    .rw [(fwd d).2.2];simp
   .have c3:(kd D.l a==k)=false:=by simpa using h2
    rw [c3,aA];exact ⟨false,rfl,⟨(fun h=>by cases h),fun d=>absurd (fwd d).2.1 h2⟩⟩
  .have c2:(((b - a:Nat):Int)==1)=false:=by rw [fF];omega
   rw [c2,aA];exact ⟨false,rfl,⟨(fun h=>by cases h),fun d=>absurd (fwd d).1 h1⟩⟩
 have nl:og n=some ⟨0,[],0⟩->∀ (f:av->Option Bool),(Option.bind (og n) f)=f ⟨0,[],0⟩:=fun h f=>by rw [h];rfl
 have lf:n.Kind≠1/\n.Kind≠2/\n.Kind≠3/\n.Kind≠4->og n=some ⟨0,[],0⟩:=fun ⟨h1,h2,h3,h4⟩=>by
  unfold og;have f1:(n.Kind==1)=false:=by simpa using h1
  have f2:(n.Kind==2)=false:=by simpa using h2
  have f3:(n.Kind==3)=false:=by simpa using h3
  have f4:(n.Kind==4)=false:=by simpa using h4
  rw [f1,f2,f3,f4];rfl
 have pY:(n.Kind==9||(n.Kind==10||(n.Kind==11||(n.Kind==12||n.Kind==15))))=false->n.Op=0:=fun h=>by
  rw [<- e2];exact cn.pY (by rw [e1];exact h)
 have NQ:n.Kind=6\/n.Kind=9\/n.Kind=10\/n.Kind=11\/n.Kind=12\/n.Kind=14\/n.Kind=15->n.Text=[]:=fun h=>by
  rw [<- e3];exact cn.tex (by rw [e1];exact h)
 have kl0:n.Kind=9\/n.Kind=10\/n.Kind=15->∀ t ts,u.kids=t::ts->dL t.kind=true:=fun h t ts e=>g.kl t (by rw [e];rfl) (by rw [e1];exact h);have hM2:M<=K:=ah;rcases kinds he with e|e|e|e|e|e|e|e|e|e|e|e|e|e|e
 case inl=>
  obtain ⟨r,r1,r2⟩:=leaf 6 ah (.inl ⟨e,rfl⟩) (by unfold og;rw [e];rfl);rw [show og n=some ⟨6,n.Text,0⟩ by unfold og;rw [e];rfl] at r1 ⊢;rw [hw];exact ⟨r,r1,r2⟩
 case inr.inl=>
  obtain ⟨r,r1,r2⟩:=leaf 3 ah (.inr ⟨e,aH⟩) (by unfold og;rw [e];rfl);rw [show og n=some ⟨3,n.Text,0⟩ by unfold og;rw [e];rfl] at r1 ⊢;rw [hw];exact ⟨r,r1,r2⟩
 case inr.inr.inl=>
  obtain ⟨r,r1,r2⟩:=leaf 4 ah (.inr ⟨e,aH⟩) (by unfold og;rw [e];rfl);rw [show og n=some ⟨4,n.Text,0⟩ by unfold og;rw [e];rfl] at r1 ⊢;rw [hw];exact ⟨r,r1,r2⟩
 case inr.inr.inr.inl=>
  obtain ⟨r,r1,r2⟩:=leaf 5 ah (.inr ⟨e,aH⟩) (by unfold og;rw [e];rfl);rw [show og n=some ⟨5,n.Text,0⟩ by unfold og;rw [e];rfl] at r1 ⊢;rw [hw];exact ⟨r,r1,r2⟩
 all_goals
  rw [nl<|lf ah]
 .have h6:=cn.many (by rw [e1];omega);have ho:=pY (by rw [e];rfl);obtain ⟨r,r1,r2⟩:=adY D hl K H n u.kids hks 6 34 (.inl ⟨rfl,rfl⟩) a b M hab hb ah ah hle;rw [e];refine ⟨r,?_,?_⟩
  .show (((dh M).ze D n 6 34 (a:Int) (b:Int)).bind fun qp=>some qp)=some r;rw [r1];rfl
  .rw [r2,n5 (p:=p) (g.ai<|by rw [e1];omega) h6 hb,hu,e,ho]
 .obtain ⟨t,ht⟩:=aaf g (g.a1<|by rw [e1];omega);have ho:=pY (by rw [e];rfl);have htx:=NQ ah;rw [ht] at hks hsz;rw [aag] at hsz;obtain ⟨k0,i0,⟨⟨s0,a2⟩,a3,a4⟩⟩:=hks.one;have hlen:n.Kids.length=1:=hks.1.symm;have p0:mF n 0 p=_:=Ku n 0 p ah ah hp hlv;obtain ⟨r,r1,r2⟩:=H M hM2 t s0 k0 (a+1) b _ a2 a3 a4 hq0 ah hb (by unfold fB;omega);have hkp:∃ x y,jX n.Kind n.Op n.Kids.length 0 p=⟨14,true,x,y,false⟩:=⟨p.aV,p.aW,by rw [e];rfl⟩
  have key:=n6 (l:=D.l) (p:=p) (t:=t) (a:=a) (b:=b) hkp;rw [hu,ht,e,ho,htx,<- key];show ∃ r,(((ix D.l (a:Int)).bind fun YJ=>bif (YJ.Kind==68) then (ix n.Kids 0).bind fun Uv=>(mF n 0 p).bind fun Jv=>((dh M).gX D Uv (IntKind.wrap .i64<|(a:Int)+1) (b:Int) Jv).bind fun YK=>some YK else (some false)).bind fun xA=>some xA)=some r/\_;rw [Wh,bJ ha,ak,ea,i0,ak,p0,ak,hw1,r1,ak];cases RF:(kd D.l a==68) with
  | false=>exact ⟨false,rfl,⟨(fun h=>by cases h),fun h=>by rw [h.1] at RF;cases RF⟩⟩
  | true=>exact ⟨r,rfl,r2.trans ⟨fun h=>⟨eq_of_beq RF,h⟩,fun h=>h.2⟩⟩
 .have h6:=cn.many (by rw [e1];omega);have ho:=pY (by rw [e];rfl);obtain ⟨r,r1,r2⟩:=adY D hl K H n u.kids hks 7 32 (.inr ⟨.inl rfl,rfl⟩) a b M hab hb ah ah hle;rw [e];refine ⟨r,?_,?_⟩
  .show (((dh M).ze D n 7 32 (a:Int) (b:Int)).bind fun qp=>some qp)=some r;rw [r1];rfl
  .rw [r2,n78 (p:=p) (.inl rfl) h6 hb,hu,e,ho]
 .have h6:=cn.many (by rw [e1];omega);have ho:=pY (by rw [e];rfl);obtain ⟨r,r1,r2⟩:=adY D hl K H n u.kids hks 8 32 (.inr ⟨.inr rfl,rfl⟩) a b M hab hb ah ah hle;rw [e];refine ⟨r,?_,?_⟩
  .show (((dh M).ze D n 8 32 (a:Int) (b:Int)).bind fun qp=>some qp)=some r;rw [r1];rfl
  .rw [r2,n78 (p:=p) (.inr rfl) h6 hb,hu,e,ho]
 .obtain ⟨t,ht⟩:=aaf g (g.a1<|by rw [e1];omega);have hL:=kl0 ah t [] ht;have ho:=cn.k9 (by rw [e1];omega);have htx:=NQ ah;rw [ht] at hks hsz;rw [aag] at hsz;obtain ⟨k0,i0,⟨⟨s0,a2⟩,a3,a4⟩⟩:=hks.one;obtain ⟨r,r1,r2⟩:=adX D hl K H t s0 k0 (a+1) b M a2 a3 a4 hL hb ah (by unfold fB;omega);have key:=n9 (l:=D.l) (p:=p) (a:=a) (b:=b) (o:=n.Op) (by rw [<- e2];exact ho) hL;rw [hu,ht,htx];rw [e] at*;rw [<- key];show ∃ r,(((ix D.l (a:Int)).bind fun YI=>bif (YI.Kind==n.Op) then (ix n.Kids 0).bind fun Gj=>((dh M).yZ D Gj (IntKind.wrap .i64<|(a:Int)+1) (b:Int)).bind fun Bu=>some Bu else (some false)).bind fun Mv=>some Mv)=some r/\_;rw [Wh,bJ ha,ak,ea,i0,ak,hw1,r1,ak];cases hko:(kd D.l a==n.Op) with
  | false=>exact ⟨false,rfl,⟨(fun h=>by cases h),fun h=>by rw [h.1] at hko;simp at hko⟩⟩
  | true=>exact ⟨r,rfl,r2.trans ⟨fun h=>⟨eq_of_beq hko,h⟩,fun h=>h.2⟩⟩
 .obtain ⟨t,ht⟩:=aaf g (g.a1<|by rw [e1];omega);have hL:=kl0 ah t [] ht;have ho:=cn.k9 (by rw [e1];omega);have htx:=NQ ah;have hb1:b - 1 < D.l.length:=ah;have eb1:D.l[b - 1].Kind=kd D.l (b - 1):=(iQ hb1).symm;rw [ht] at hks hsz;rw [aag] at hsz;obtain ⟨k0,i0,⟨⟨s0,a2⟩,a3,a4⟩⟩:=hks.one;obtain ⟨r,r1,r2⟩:=adX D hl K H t s0 k0 a (b - 1) M a2 a3 a4 hL ah ah (by unfold fB;omega);have key:=n10 (l:=D.l) (p:=p) (a:=a) (b:=b) (o:=n.Op) (by rw [<- e2];exact ho) hL hab;rw [hu,ht,htx];rw [e] at*;rw [<- key];show ∃ r,(((ix D.l<|IntKind.wrap .i64<|(b:Int) - 1).bind fun vE=>bif (vE.Kind==n.Op) then (ix n.Kids 0).bind fun Aa=>((dh M).yZ D Aa (a:Int)<|IntKind.wrap .i64<|(b:Int) - 1).bind fun mE=>some mE else (some false)).bind fun kM=>some kM)=some r/\_;rw [Wh,hwb,bJ hb1,ak,eb1,i0,ak,r1,ak];cases hko:(kd D.l (b - 1)==n.Op) with
  | false=>exact ⟨false,rfl,⟨(fun h=>by cases h),fun h=>by rw [h.1] at hko;simp at hko⟩⟩
  | true=>exact ⟨r,rfl,r2.trans ⟨fun h=>⟨eq_of_beq hko,h⟩,fun h=>h.2⟩⟩
 .obtain ⟨t,ht⟩:=aaf g (g.a1<|by rw [e1];omega);have ho:=cn.k11 (by rw [e1];omega);have htx:=NQ ah;rw [ht] at hks hsz;rw [aag] at hsz;obtain ⟨k0,i0,⟨⟨s0,a2⟩,a3,a4⟩⟩:=hks.one;have hlen:n.Kids.length=1:=hks.1.symm;have p0:mF n 0 p=_:=Ku n 0 p ah ah hp hlv;obtain ⟨r,r1,r2⟩:=H M hM2 t s0 k0 (a+1) b _ a2 a3 a4 hq0 ah hb (by unfold fB;omega);have hkp:jX n.Kind n.Op n.Kids.length 0 p=⟨11,false,p.aV,p.aW,false⟩:=by rw [e];rfl
  rw [hkp] at r1 r2 p0;have key:=n11 (l:=D.l) (p:=p) (t:=t) (a:=a) (b:=b) (o:=n.Op) (by rw [<- e2];exact ho);rw [hu,ht,htx,e,<- key];show ∃ r,(((ix D.l (a:Int)).bind fun YL=>bif (YL.Kind==n.Op) then (ix n.Kids 0).bind fun Uw=>(mF n 0 p).bind fun qN=>((dh M).gX D Uw (IntKind.wrap .i64<|(a:Int)+1) (b:Int) qN).bind fun tC=>some tC else (some false)).bind fun y90=>some y90)=some r/\_;rw [Wh,bJ ha,ak,ea,i0,ak,p0,ak,hw1,r1,ak];cases hko:(kd D.l a==n.Op) with
  | false=>exact ⟨false,rfl,⟨(fun h=>by cases h),fun h=>by rw [h.1] at hko;simp at hko⟩⟩
  | true=>exact ⟨r,rfl,r2.trans ⟨fun h=>⟨eq_of_beq hko,h⟩,fun h=>h.2⟩⟩
 .obtain ⟨t0,t1,ht⟩:=ajT (g.a2<|by rw [e1];omega);have htx:=NQ ah;rw [ht] at hks hsz;rw [ajQ] at hsz;obtain ⟨r,r1,r2⟩:=ajM D hl K H n p i hn t0 t1 hks he hlv (fun h=>ah) hp a b M hab hb ah ah;have ho:bF n.Op≠0:=by rw [e] at hlv;exact hlv
  refine ⟨r,?_,?_⟩
  .rw [e];show (((dh M).Gh D (i:Int) (a:Int) (b:Int) p).bind fun tK=>some tK)=some r;rw [r1];rfl
  .rw [r2,n12 e ho,hu,ht,htx,e]
 .have h6:=cn.many (by rw [e1];omega);have ho:=pY (by rw [e];rfl);obtain ⟨r,r1,r2⟩:=aum D hl K H n p u.kids hks (g.ai<|by rw [e1];omega) hle he hlv hp a b M hab hb ah ah;refine ⟨r,?_,?_⟩
  .rw [e];show (((dh M).Jq D n (a:Int) (b:Int) p).bind fun tK=>some tK)=some r;rw [r1];rfl
  .rw [r2,n13 e hkl.symm h6 hb,hu,e,ho]
 .obtain ⟨t0,t1,t2,ht⟩:=aur (g.a3<|by rw [e1];omega);have htx:=NQ ah;have ho:=pY (by rw [e];rfl);rw [ht] at hks hsz;rw [aun] at hsz;obtain ⟨r,r1,r2⟩:=auk D hl K H n p t0 t1 t2 hks he hlv hp a b M hab hb ah ah;refine ⟨r,?_,?_⟩
  .rw [e];show (((dh M).Jp D n (a:Int) (b:Int) p).bind fun tK=>some tK)=some r;rw [r1];rfl
  .rw [r2,n14 e,hu,ht,htx,e,ho]
 .obtain ⟨t0,t1,ht⟩:=ajT (g.a2<|by rw [e1];omega);have htx:=NQ ah;have hL:=kl0 ah t0 [t1] ht;have ho:=cn.k15 (by rw [e1];omega);rw [ht] at hks hsz;rw [ajQ] at hsz;obtain ⟨r,r1,r2⟩:=ajM D hl K H n p i hn t0 t1 hks he hlv (fun _=>hL) hp a b M hab hb ah ah;refine ⟨r,?_,?_⟩
  .rw [e];show (((dh M).Gh D (i:Int) (a:Int) (b:Int) p).bind fun tK=>some tK)=some r;rw [r1];rfl
  .rw [r2,n15 e (by rw [<- e2];exact ho) hL,hu,ht,htx,e]
end
def aus (k:Int):Er k=some (lX k):=by
 unfold Er lX;cases (k==3)<;>cases (k==4)<;>cases (k==6)<;>cases (k==7)<;>cases (k==8)<;>cases (k==32)<;>cases (k==68)<;>rfl
def aut {l:List av} {p:aI} {a b:Nat} {u:aD} (d:cO l p a b u) (h:u.kind=11\/u.kind=9\/u.kind=4):lX (kd l a)=false:=by
 cases d with
 | leaf k q1 q2=>
  have h:k - 1=11\/k - 1=9\/k - 1=4:=h;have:k=5:=ah;rw [q2,this];rfl
 | pre o q1 q2=>rw [q2];rcases q1 with rfl|rfl<;>rfl
 | unary o q1 q2=>rw [q2];rcases q1 with rfl|rfl|rfl<;>rfl
 | name=>rcases h with h|h|h<;>exact absurd h (by show¬(1:Int)=_;decide)
 | index=>rcases h with h|h|h<;>exact absurd h (by show¬(5:Int)=_;decide)
 | len=>rcases h with h|h|h<;>exact absurd h (by show¬(8:Int)=_;decide)
 | jU k q|call k q=>
  have h:k=11\/k=9\/k=4:=h;omega
 | field=>rcases h with h|h|h<;>exact absurd h (by show¬(6:Int)=_;decide)
 | post=>rcases h with h|h|h<;>exact absurd h (by show¬(10:Int)=_;decide)
 | bin|cat=>rcases h with h|h|h<;>exact absurd h (by show¬(12:Int)=_;decide)
 | one|many=>rcases h with h|h|h<;>exact absurd h (by show¬(13:Int)=_;decide)
 | cond=>rcases h with h|h|h<;>exact absurd h (by show¬(14:Int)=_;decide)
 | assign=>rcases h with h|h|h<;>exact absurd h (by show¬(15:Int)=_;decide)
def auu {k o:Int} {p:aI} (h:fK k o ⟨p.Level,p.jo,false,false,false⟩=true) (h1:p.aV=true->k≠13) (h2:p.aW=true-> ¬(k=12/\o=62)) (h3:p.eZ=true-> ¬(k=11\/k=9\/k=4)):fK k o p=true:=by
 have hp:posB p=posB ⟨p.Level,p.jo,false,false,false⟩:=rfl;have a1:(p.aV&&k==13)=false:=by
  cases e:p.aV with
  | false=>rfl
  | true=>simpa using h1 e
 have a2:(p.aW&&(k==12&&o==62))=false:=by
  cases e:p.aW with
  | false=>rfl
  | true=>simpa using h2 e
 have a3:(p.eZ&&(k==11||(k==9||k==4)))=false:=by
  cases e:p.eZ with
  | false=>rfl
  | true=>simpa using h3 e
 unfold fK at h ⊢;rw [a1,a2,a3,hp];exact h
def fit_drop {k o:Int} {p:aI} (h:fK k o p=true):fK k o ⟨p.Level,p.jo,false,false,false⟩=true:=by
 have hp:posB p=posB ⟨p.Level,p.jo,false,false,false⟩:=rfl;unfold fK at h ⊢;rw [hp] at h;simp only [dA] at h ⊢;exact ⟨h.1,rfl,rfl,rfl,h.2.2.2.2⟩
section
variable (D:dx) (hl:D.l.length<=3000) (hnn:∀ (u:aD) (s i:Nat),TA D.x u s i->allT GN u->allT CN u->D.n[i]?=some (yl u:Int))
include hl hnn
theorem auv (K:Nat) (H:Dv D K):Dv D (K+1):=by
 intro M hM u s i a b p hT hg hcn hp hab hb hf;obtain ⟨M,rfl⟩:∃ m,M=m+1:=⟨M - 1,by unfold fB at hf;omega⟩
 obtain ⟨n,hn,e1,e2,e3,e4,hka,hkl⟩:=hT.node;unfold fB at hf;show ∃ r,Ux M (dh M) D (i:Int) (a:Int) (b:Int) p=some r/\_;unfold Ux;have hsl:=Ry hab hb;have hf3:3000 < M:=ah;have Wn:(seg D.l a b).length<=3000:=ah;rw [adW hab hb,ak,atL M _ Wn hf3,atM M _ Wn hf3,ajE M _ _ Wn hf3,ajE M _ _ Wn hf3,adT M _ Wn hf3,zA<|hnn u s i hT hg hcn];by_cases h0:b=a
 .have c0:(((seg D.l a b).length:Int)==0)=true:=by rw [hsl,h0,RG];rfl
  rw [c0,aB,ak,aB];exact ⟨false,rfl,⟨(fun h=>by cases h),fun ⟨_,d⟩=>by have:=d.lt;omega⟩⟩
 have hlt:a < b:=ah;have ha:a < D.l.length:=ah;have c0:(((seg D.l a b).length:Int)==0)=false:=by rw [fF,hsl];omega
 have hx0:∃ t,ix (seg D.l a b) 0=some t/\t.Kind=kd D.l a:=by
  have hsl0:0 < (seg D.l a b).length:=ah;refine ⟨(seg D.l a b)[0],bJ hsl0,?_⟩;rw [<- iQ hsl0,Rz ah];rfl
 obtain ⟨t0,i0,k0⟩:=hx0;rw [c0,aA,i0];simp only [ak,Wj,k0,aus];have y2:∀ S I G c1 c2 c3:Bool,(bif S then bif !c1 then some true else bif I then bif c2 then some true else bif G then some c3 else some false else bif G then some c3 else some false else bif I then bif c2 then some true else bif G then some c3 else some false else bif G then some c3 else some false)=some ((S&&!c1)||((I&&c2)||(G&&c3))):=fun S I G c1 c2 c3=>by
  cases S<;>cases I<;>cases G<;>cases c1<;>cases c2<;>cases c3<;>rfl
 rw [y2,ak];have down:(∃ h,bO D.l p a b u h)->wh (seg D.l a b)=yl u/\BU 0 (seg D.l a b)=true/\(p.eZ=true->lX (kd D.l a)=true)/\(p.aV=true->gY 24 0 (seg D.l a b)=false)/\(p.aW=true->gY 62 0 (seg D.l a b)=false):=fun ⟨h,d⟩=>by
  have sg:=d.sg1;refine ⟨sg.c,?_,d.first.s,fun hi=>?_,fun hi=>?_⟩
  .have:=sg.b.ev 0 [] ah;rw [Kv] at this;rw [this];rfl
  .exact (ajA D.l 24 (.inl rfl) (b - a) a b<|dK _).2 p u h d ⟨fun _=>hi,fun h=>by cases h⟩
  .exact (ajA D.l 62 (.inr rfl) (b - a) a b<|dK _).2 p u h d ⟨fun h=>(by cases h),fun _=>hi⟩
 cases hC:(((wh (seg D.l a b):Nat):Int) !=((yl u:Nat):Int)||!BU 0 (seg D.l a b)) with
 | true=>
  refine ⟨false,rfl,⟨(fun h=>by cases h),fun h=>?_⟩⟩;obtain ⟨g1,g2,_⟩:=down h;rw [g1,g2] at hC;simp at hC
 | false=>
  rw [aA];cases hY:(p.eZ&&!lX (kd D.l a)||(p.aV&&gY 24 0 (seg D.l a b)||p.aW&&gY 62 0 (seg D.l a b))) with
  | true=>
   refine ⟨false,rfl,⟨(fun h=>by cases h),fun h=>?_⟩⟩;obtain ⟨_,_,g1,g2,g3⟩:=down h;simp only [iX,dA,kF] at hY;rcases hY with ⟨h1,h2⟩|⟨h1,h2⟩|⟨h1,h2⟩
   .rw [g1 h1] at h2;cases h2
   .rw [g2 h1] at h2;cases h2
   .rw [g3 h1] at h2;cases h2
  | false=>
   rw [aA];simp only [Kk,NH,Bool.not_eq_false'] at hY;obtain ⟨y1,y3,y4⟩:=hY;have bare:∃ r,((ix D.x (i:Int)).bind fun UA=>(Qt UA (⟨p.Level,p.jo,false,false,false⟩:aI)).bind fun jK=>bif jK then ((dh M).Jr D (i:Int) (a:Int) (b:Int) p).bind fun YM=>some YM else (some false))=some r/\(r=true↔bO D.l p a b u false):=by
    rw [zA hn,ak,auw,ak];obtain ⟨r,r1,r2⟩:=auq D hl K H u s i p hT hg hcn hp a b M hlt hb ah (by unfold fB;omega);rw [r1,<- e1,<- e2];cases hF:fK u.kind u.op ⟨p.Level,p.jo,false,false,false⟩ with
    | false=>
     refine ⟨false,rfl,⟨(fun h=>by cases h),fun d=>?_⟩⟩;cases d with
     | bare g1 g2 g3 g4=>rw [fit_drop g1] at hF;cases hF
    | true=>
     refine ⟨r,rfl,r2.trans ⟨fun d=>.bare (auu hF (fun h e=>?_) (fun h e=>?_) fun h e=>?_) hlt hb d,fun d=>?_⟩⟩
     .have:=ajD (.inl rfl) d (.inl ⟨rfl,e⟩);rcases y3 with y|y
      .rw [h] at y;cases y
      .rw [this] at y;cases y
     .have:=ajD (.inr rfl) d (.inr ⟨rfl,e⟩);rcases y4 with y|y
      .rw [h] at y;cases y
      .rw [this] at y;cases y
     .have:=aut d e;rcases y1 with y|y
      .rw [h] at y;cases y
      .rw [this] at y;cases y
     .cases d with
      | bare g1 g2 g3 g4=>exact g4
   obtain ⟨rb,b1,b2⟩:=bare;have htop:yY=some oV:=rfl;simp only [Wh] at b1 ⊢;cases hH:zF (seg D.l a b) with
   | false=>
    rw [aA,ak,aA,b1];refine ⟨rb,rfl,b2.trans ⟨fun d=>⟨_,d⟩,fun ⟨h,d⟩=>?_⟩⟩;cases h with
    | false=>exact d
    | true=>rw [ajK d] at hH;cases hH
   | true=>
    obtain ⟨d1,d2,d3⟩:=aac hab hb hH;obtain ⟨r,r1,r2⟩:=H M ah u s i (a+1) (b - 1) oV hT hg hcn rfl ah ah (by unfold fB;omega);rw [aB,htop,ak,wrap64 (n:=(a:Int)+1) ah ah,show (a:Int)+1=((a+1:Nat):Int) by omega,wrap64 (n:=(b:Int) - 1) ah ah,show (b:Int) - 1=((b - 1:Nat):Int) by omega,r1,ak];cases r with
    | true=>
     obtain ⟨h,d⟩:=r2.1 rfl;obtain ⟨j,rfl⟩:∃ j,b=j+1:=⟨b - 1,ah⟩
     rw [show j+1 - 1=j by omega] at d3 d;exact ⟨true,rfl,⟨fun _=>⟨true,.par d2 d.lt.1 ah d d3⟩,fun _=>rfl⟩⟩
    | false=>
     rw [aA,b1];refine ⟨rb,rfl,b2.trans ⟨fun d=>⟨_,d⟩,fun ⟨h,d⟩=>?_⟩⟩;cases h with
     | false=>exact d
     | true=>
      exfalso;cases d with
      | par g1 g2 g3 g4 g5=>
       have:=r2.2 ⟨_,g4⟩;cases this
theorem ajU:∀ K,Dv D K
 | 0=>fun M hM u s i a b p _ _ _ _ _ _ hf=>by unfold fB at hf;omega
 | K+1=>auv D hl hnn K (ajU K)
end
def nA (k:Int):Int:=if k=44 then 3 else if k=45 then 4 else if k=67 then 6 else if k=46 then 6 else if k=63 then 7 else if k=48 then 7 else if k=47 then 7 else if k=50 then 7 else if k=62 then 7 else if k=49 then 7 else if k=99 then 8 else if k=55 then 9 else if k=56 then 9 else if k=57 then 10 else if k=58 then 10 else if k=59 then 10 else if k=60 then 12 else 0
def ajV (k:Int):zY k=some (nA k):=by
 by_cases h1:k=44;· subst h1;rfl
 by_cases h2:k=45;· subst h2;rfl
 by_cases h3:k=67;· subst h3;rfl
 by_cases h4:k=46;· subst h4;rfl
 by_cases h5:k=63;· subst h5;rfl
 by_cases h6:k=48;· subst h6;rfl
 by_cases h7:k=47;· subst h7;rfl
 by_cases h8:k=50;· subst h8;rfl
 by_cases h9:k=62;· subst h9;rfl
 by_cases h10:k=49;· subst h10;rfl
 by_cases h11:k=99;· subst h11;rfl
 by_cases h12:k=55;· subst h12;rfl
 by_cases zG:k=56;· subst zG;rfl
 by_cases jN:k=57;· subst jN;rfl
 by_cases ug:k=58;· subst ug;rfl
 by_cases h16:k=59;· subst h16;rfl
 by_cases NR:k=60;· subst NR;rfl
 unfold zY nA;simp only [h1,h2,h3,h4,h5,h6,h7,h8,h9,h10,h11,h12,zG,jN,ug,h16,NR,fF.2,ne_eq,not_false_eq_true,aA,if_false,Jo,BA,Jm,Gg]
def RH (k:Int):CS k=some (nA k):=ajV k
def ajW (k:Int):(nA k==3)=(k==44):=by
 by_cases h:k=44
 .subst h;rfl
 .rw [fF.2 h,fF];unfold nA;rw [bL h];intro e;repeat (first|omega|split at e)
def ajX (k:Int):(nA k==4)=(k==45):=by
 by_cases h:k=45
 .subst h;rfl
 .rw [fF.2 h,fF];unfold nA;intro e;repeat (first|omega|split at e)
def ajY (k:Int):(nA k==6)=(k==67||k==46):=by
 by_cases h:k=67
 .subst h;rfl
 .by_cases h2:k=46
  .subst h2;rfl
  .rw [fF.2 h,fF.2 h2,Bool.or_false,fF];unfold nA;intro e;repeat (first|omega|split at e)
def yj (k:Int):Bool:=k==3||(k==4||(k==6||(k==7||(k==8||(k==32||k==68)))))
def bgS (k:Int):Er k=some (yj k):=by
 unfold Er yj;cases k==3
 .cases k==4
  .cases k==6
   .cases k==7
    .cases k==8
     .cases k==32
      .cases k==68<;>rfl
      .rfl
     .rfl
    .rfl
   .rfl
  .rfl
 .rfl
def Wo (k:Int):Gu k=some (yj k):=bgS k
def goB (lv:Nat) (r:bH) (k:Int):Bool:=bif lv==8 then yj k else nA k==(lv:Int)&&!(k==62&&r.bX)
def aee {lv:Nat} (h:lv≠0) {r:bH} {l:List av} {j:Nat} (hg:goB lv r (kd l j)=true):j < l.length:=by
 apply dz;intro e;rw [e] at hg;unfold goB at hg;cases h8:(lv==8) with
 | true=>rw [h8,aB] at hg;revert hg;decide
 | false=>
  rw [h8,aA,dA] at hg;have:nA 0=(lv:Int):=by simpa using hg.1
  have e0:nA 0=0:=aH;omega
def ajZ {lv:Nat} (p:aI) (r:bH) (hr:p.aW=r.bX) (h0:lv≠0) (l:List av) (j:Nat) (ns:List av):Zj (lv:Int) p l (j:Int) false ns=some (goB lv r<|kd l j):=by
  unfold Zj goB;simp only [mO,ak,aA];cases h8:(lv==8) with
  | true=>
    have e:lv=8:=by simpa using h8
    subst e;simp only [bgS,bY,aB,ak];rfl
  | false=>
    have e:lv≠8:=by simpa using h8
    have e2:((lv:Int)==8)=false:=by rw [fF];omega
    simp only [e2,aA,ajV,ak,hr];by_cases k0:kd l j=0
    · rw [k0]
      have:(nA 0==(lv:Int))=false:=by (rw [fF];have e0:nA 0=0:=by decide);omega
      rw [this];rfl
    · by_cases k99:kd l j=99
      · rw [k99]
        have:(nA 99==(lv:Int))=false:=by (rw [fF];have e0:nA 99=8:=by decide);omega
        rw [this];rfl
      · have a1:(kd l j !=0)=true:=by simpa using k0
        have a2:(kd l j !=99)=true:=by simpa using k99
        simp only [a1,a2,aB];cases nA (kd l j)==(lv:Int)
        · rfl
        · by_cases RI:kd l j=62
          · rw [RI];cases r.bX<;>rfl
          · have a3:(kd l j !=62)=true:=by simpa using RI
            have a4:(kd l j==62)=false:=by simpa using RI
            rw [a3,a4];rfl
def aef (N:Nat) (R:jD) (l:List av) (n:Nat) (a m:Int) (s:Int×Int) (p:aI) (c:Int) (j:Nat) (held:Bool) (ns:List av) (L:List aG):
  qx N R l (n+1) (a,m,s,p,c,(j:Int),true,held,ns,L)=some (⟨L,held⟩,(j:Int),true,ns):=by
 rw [qx];unfold Zj;simp only [mO,aB,fE,aA,ak];cases decide (c < m)<;>rfl
def aeg (N:Nat) (R:jD) (l:List av) (n:Nat) {lv:Nat} (m:Int) (s:Int×Int) (p:aI) (r:bH) (hr:p.aW=r.bX) (h0:lv≠0) (c:Int) (j:Nat) (held:Bool) (ns:List av) (L:List aG) (h: ¬(c < m)\/goB lv r (kd l j)=false):
  qx N R l (n+1) ((lv:Int),m,s,p,c,(j:Int),false,held,ns,L)=some (⟨L,held⟩,(j:Int),false,ns):=by
 rw [qx];simp only [ajZ p r hr h0,ak];rcases h with h|h
 .have:decide (c < m)=false:=by simpa using h
  simp only [this,aA,ak]
 .rw [h];cases decide (c < m)<;>rfl
def uj (lv j:Nat):Nat:=bif lv==8 then j else j+1
def Ca (lv:Nat) (k:Int):Int:=bif lv==8 then 99 else k
def Ap (lv:Nat) (M M':Nat) (l:List av) (j1 j2:Nat) (ns ms:List (List UInt8)) (ns' ms':List av):Prop:=
 if lv=3\/lv=4 then Gx M l (j1:Int) false ns=some ((j2:Int),ms)/\Ra M' l (j1:Int) false ns'=some ((j2:Int),ms') else j2=j1/\ms=ns/\ms'=ns'
def auy (N M:Nat) (R:jD) (l:List av) (n:Nat) {lv:Nat} (m s:Int) (p:aI) (r:bH) (hr:p.aW=r.bX) (h0:lv≠0) (c j j2:Nat) (hj:j<=3000) (hc0:c<=3000) (held:Bool) (ns ms:List (List UInt8)) (ns' ms':List av) (L:List aG) (hc:(c:Int) < m) (hg:goB lv r (kd l j)=true)
    (hnl:Ap lv M N l (uj lv j) j2 ns ms ns' ms') (X3:cZ) (j3:Int) (b3:Bool) (gF:List av) (hat:R.jv ⟨((lv+1:Nat):Int),false,p.aV,p.aW,false⟩ l (j2:Int) false ms'=some (X3,j3,b3,gF)) (L2:List aG) (hmk:vV N ⟨12,Ca lv<|kd l j,[],[],[]⟩ [L,X3.l]=some L2):
    qx N R l (n+1) ((lv:Int),m,(s,((lv+1:Nat):Int)),p,(c:Int),(j:Int),false,held,ns',L)=qx N R l n ((lv:Int),m,(s,((lv+1:Nat):Int)),p,((c+1:Nat):Int),j3,b3,false,gF,L2):=by
  rw [qx];have hcd:decide ((c:Int) < m)=true:=by simpa using hc
  simp only [ajZ p r hr h0,ak,hcd,aB,hg,mO];have k4:∀ op:Int,op=Ca lv (kd l j)->Zw N R l (qx N R l n) ((lv:Int),m,(s,((lv+1:Nat):Int)),(c:Int),op,false,p,held,L,(j2:Int),ms')=qx N R l n ((lv:Int),m,(s,((lv+1:Nat):Int)),p,((c+1:Nat):Int),j3,b3,false,gF,L2):=fun op hop=>by
    subst hop;unfold Zw oP rV;simp only [ak,hat,hmk];rw [wrap64 ah ah];rfl
  have k3:∀ op:Int,op=Ca lv (kd l j)->Zz N R l (qx N R l n) ((lv:Int),m,(s,((lv+1:Nat):Int)),(c:Int),false,p,held,ns',L,op,((uj lv j:Nat):Int))=qx N R l n ((lv:Int),m,(s,((lv+1:Nat):Int)),p,((c+1:Nat):Int),j3,b3,false,gF,L2):=fun op hop=>by
    unfold Zz;simp only [];unfold Ap at hnl;by_cases oU:lv=3\/lv=4
    · rw [bU oU] at hnl
      have e:(bif ((lv:Int)==3) then some true else (some<|(lv:Int)==4))=some true:=by
        rcases oU with h|h<;>subst h<;>rfl
      simp only [e,ak,aB,hnl.2];exact k4 op hop
    · rw [bL oU] at hnl
      have e3:((lv:Int)==3)=false:=by rw [fF];omega
      have e4:((lv:Int)==4)=false:=by rw [fF];omega
      simp only [e3,e4,aA,ak];rw [<- hnl.1,<- hnl.2.2];exact k4 op hop
  cases h8:(lv==8) with
  | true=>
    have e:((lv:Int) !=8)=false:=by (have:lv=8:=by simpa using h8);subst this;rfl
    rw [e,aA];have:=k3 99 (by unfold Ca;rw [h8];rfl);unfold uj at this;rw [h8,aB] at this;exact this
  | false=>
    have e:((lv:Int) !=8)=true:=by (have:lv≠8:=by simpa using h8);rw [bne_iff_ne];omega
    rw [e,aB];have:=k3 (kd l j) (by unfold Ca;rw [h8];rfl);unfold uj at this;rw [h8,aA] at this;rw [wrap64 ah ah];exact this
abbrev IR:=eX
def IL (lv:Nat) (R:IR) (r:bH) (l:List av) (i:Int) (b:Bool) (ns:List (List UInt8)):PI:=
 match lv with
 | 1=>R.ou r l i b ns
 | 2=>R.oM r l i b ns
 | 3=>R.xR r l i b ns
 | 4=>R.vM r l i b ns
 | 5=>R.vL r l i b ns
 | 6=>R.xP r l i b ns
 | 7=>R.uL r l i b ns
 | 8=>R.uK r l i b ns
 | 9=>R.vK r l i b ns
 | 10=>R.vJ r l i b ns
 | 11=>R.om r l i b ns
 | 12=>R.xO r l i b ns
 | 13=>R.xM l i b ns
 | 14=>R.lV l i b ns
 | _=>R.zk l i b ns
def LV (l:List av) (i lv:Nat):Prop:=∀ (M M':Nat) (r:bH) (p:aI) (ns:List (List UInt8)) (ns':List av),1100000+100*(l.length - i)+4*(16 - lv)<=M->1100000+100*(l.length - i)+4*(16 - lv)<=M'->ns.length<=i->ns'.length<=i->p.Level=(lv:Int)->p.aV=r.bS->p.aW=r.bX->
 PB l i (IL lv (aJ M) r l (i:Int) false ns) ((bW M').jv p l (i:Int) false ns')
def PD (l:List av) (i:Nat) (p:bQ) (X:cZ) (j:Nat) (b:Bool) (ns:List (List UInt8)) (ns':List av):Prop:=
 i<=j/\j<=l.length/\ns.length<=j/\ns'.length<=j/\wz X.l/\X.l.length<=2*(j - i)+1/\
  (b=false->i < j/\X.l=dQ 0 p.tree/\p.target=(!X.held&&dL p.tree.kind)/\aU p.tree+1<=2*(j - i))
def PB.out {l:List av} {i:Nat} {x:PI} {y:PS} (h:PB l i x y):∃ (p:bQ) (X:cZ) (j:Nat) (b:Bool) (ns:List (List UInt8)) (ns':List av),x=some (p,(j:Int),b,ns)/\y=some (X,(j:Int),b,ns')/\PD l i p X j b ns ns':=h
def PD.pb {l:List av} {i:Nat} {p:bQ} {X:cZ} {j:Nat} {b:Bool} {ns:List (List UInt8)} {ns':List av} (h:PD l i p X j b ns ns'):PB l i (some (p,(j:Int),b,ns)) (some (X,(j:Int),b,ns')):=⟨p,X,j,b,ns,ns',rfl,rfl,h⟩
def aeh {l:List av} {i i':Nat} {p q:bQ} {X Y:cZ} {j:Nat} {ns:List (List UInt8)} {ns':List av} (h:PD l i' p X j true ns ns') (hi:i<=i') (hy:Y.l=X.l):PD l i q Y j true ns ns':=by
 obtain ⟨h1,h2,h3,h4,h5,h6,h7⟩:=h;exact ⟨ah,h2,h3,h4,by rw [hy];exact h5,by rw [hy];omega,fun h=>by cases h⟩
def nd2 {l:List av} (hl:l.length<=3000) {N i j j2:Nat} (hN:1048577 < N) (k op:Int) (hk:dL k=false) {p p3:bQ} {X X3:cZ} {ns gF:List (List UInt8)} {ns' iH:List av} {j3:Nat} {b3:Bool} (hL:PD l i p X j false ns ns') (hj:j<=j2) (hR:PD l j2 p3 X3 j3 b3 gF iH):
  ∃ r,vV N ⟨k,op,[],[],[]⟩ [X.l,X3.l]=some r/\PD l i ⟨⟨k,op,[],[],[p.tree,p3.tree]⟩,false⟩ ⟨r,false⟩ j3 b3 gF iH:=by
 obtain ⟨a1,a2,a3,a4,a5,a6,a7⟩:=hL;obtain ⟨b1,b2,b3',b4,b5,b6,b7⟩:=hR;obtain ⟨c1,c2,c3,c4⟩:=a7 rfl;have hlen:X.l.length=aU p.tree:=by rw [c2,su]
 obtain ⟨r,r1,r2⟩:=Cb hl hN k op [] aF false [p.tree,p3.tree] [X.l,X3.l] b3 gF iH (i:=i) (j:=j3) ah b2 b3' b4 (by simp only [GZ];show _+(_+0)<=_;omega) aF (fun L hL=>by
  simp only [jW,aai,aaj] at hL;rcases hL with h|h<;>subst h<;>assumption) hk.symm (fun hb=>by
  obtain ⟨d1,d2,d3,d4⟩:=b7 hb;refine ⟨ah,by simp [c2,d2],?_⟩;simp only [bq];omega)
 obtain ⟨p',X',j',b',n1,n2,e1,e2,hd⟩:=r2.out;simp only [iI,nC,Int.natCast_inj] at e1 e2;obtain ⟨rfl,rfl,rfl,rfl⟩:=e1;obtain ⟨rfl,-,-,rfl⟩:=e2;exact ⟨r,r1,hd⟩
abbrev LSt:=bH×Int×Bool×Int×Int×(List UInt8)×(List UInt8)×(List aD)×Bool×(List<|List UInt8)
section chain
variable {l:List av} (hl:l.length<=3000) {i lv:Nat} (h0:lv≠0) (IH:∀ i',i < i'->i'<=l.length->LV l i' (lv+1)) {M M':Nat} (hM:1100000+100*(l.length - i)<=M) (hM':1100000+100*(l.length - i)<=M') (r:bH) (p0:aI) (hin:p0.aV=r.bS) (hgt:p0.aW=r.bX) (s:Int)
include hl h0 IH hM hM' hin hgt
theorem akd {j:Nat} {p:bQ} {X:cZ} {ns:List (List UInt8)} {ns':List av} (hd:PD l i p X j false ns ns') (hg:goB lv r (kd l j)=true) (m:Int) (c:Nat) (hc:(c:Int) < m) (hc0:c<=3000):
  ∃ (j2:Nat) (ms:List (List UInt8)) (ms':List av) (q:bQ) (j3:Nat) (b3:Bool) (gF:List (List UInt8)) (iH:List av) (L2:List aG),i < j2/\j<=j2/\Ap lv M M' l (uj lv j) j2 ns ms ns' ms'/\
   IL (lv+1) (aJ M) r l (j2:Int) false ms=some (q,(j3:Int),b3,gF)/\
   (∀ n,qx M' (bW M') l (n+1) ((lv:Int),m,(s,((lv+1:Nat):Int)),p0,(c:Int),(j:Int),false,X.held,ns',X.l)=qx M' (bW M') l n ((lv:Int),m,(s,((lv+1:Nat):Int)),p0,((c+1:Nat):Int),(j3:Int),b3,false,iH,L2))/\
   PD l i ⟨⟨12,Ca lv<|kd l j,[],[],[p.tree,q.tree]⟩,false⟩ ⟨L2,false⟩ j3 b3 gF iH/\(b3=false->j < j3):=by
 have hjl:=aee h0 hg;obtain ⟨a1,a2,a3,a4,a5,a6,a7⟩:=id hd;have hij:i < j:=(a7 rfl).1;have hnl:∃ (j2:Nat) (ms:List (List UInt8)) (ms':List av),j<=j2/\j2<=l.length/\ms.length<=j2/\ms'.length<=j2/\Ap lv M M' l (uj lv j) j2 ns ms ns' ms':=by
  unfold Ap;by_cases oU:lv=3\/lv=4
  .have e:uj lv j=j+1:=by unfold uj;rcases oU with h|h<;>subst h<;>rfl
   obtain ⟨j2,ms,ms',b1,b2,b3,b4,b5,b6⟩:=ake hl (N:=M) (N':=M') ah ah (i:=j+1) ns ns' ah ah ah;refine ⟨j2,ms,ms',ah,b2,b3,b4,?_⟩;rw [bU oU,e];exact ⟨b5,b6⟩
  .have e:j<=uj lv j/\uj lv j<=j+1:=by
    unfold uj;cases (lv==8)
    .rw [aA];omega
    .rw [aB];omega
   refine ⟨uj lv j,ns,ns',e.1,ah,ah,ah,?_⟩;rw [bL oU];exact ⟨rfl,rfl,rfl⟩
 obtain ⟨j2,ms,ms',g1,g2,g3,g4,g5⟩:=hnl;obtain ⟨q,X3,j3,b3,gF,iH,e1,e2,hd3⟩:=(IH j2 ah g2 M M' r ⟨((lv+1:Nat):Int),false,p0.aV,p0.aW,false⟩ ms ms' ah ah g3 g4 rfl hin hgt).out;obtain ⟨L2,m1,m2⟩:=nd2 hl (N:=M') ah 12 (Ca lv<|kd l j) rfl hd g1 hd3;refine ⟨j2,ms,ms',q,j3,b3,gF,iH,L2,ah,g1,g5,e1,fun n=>?_,m2,fun hb=>?_⟩
 .exact auy M' M (bW M') l n m s p0 r hgt h0 c j j2 ah hc0 X.held ns ms ns' ms' X.l hc hg g5 X3 j3 b3 iH e2 L2 m1
 .have:=(hd3.2.2.2.2.2.2 hb).1;omega
theorem auz (lp:Nat->LSt->PI)
  (H1:∀ (n j:Nat) (b:Bool) (t:aD) (tg:Bool) (ns:List (List UInt8)),(b=true\/goB lv r (kd l j)=false)->lp (n+1) (r,(j:Int),b,t.kind,t.op,t.text,t.other,t.kids,tg,ns)=some (⟨t,tg⟩,(j:Int),b,ns))
  (H2:∀ (n j j2:Nat) (t:aD) (tg:Bool) (ns ms:List (List UInt8)) (ns' ms':List av),goB lv r (kd l j)=true->j < l.length->Ap lv M M' l (uj lv j) j2 ns ms ns' ms'->lp (n+1) (r,(j:Int),false,t.kind,t.op,t.text,t.other,t.kids,tg,ns)=(IL (lv+1) (aJ M) r l (j2:Int) false ms).bind fun q=>lp n (r,q.2.1,q.2.2.1,12,Ca lv<|kd l j,[],[],[t,q.1.tree],false,q.2.2.2)):
  ∀ (n n' c:Nat) (p:bQ) (X:cZ) (j:Nat) (b:Bool) (ns:List (List UInt8)) (ns':List av),0 < n->0 < n'->(b=false->l.length - j < n/\l.length - j < n'/\c<=j)->PD l i p X j b ns ns'->
   PB l i (lp n (r,(j:Int),b,p.tree.kind,p.tree.op,p.tree.text,p.tree.other,p.tree.kids,p.target,ns)) (qx M' (bW M') l n' ((lv:Int),3000,(s,((lv+1:Nat):Int)),p0,(c:Int),(j:Int),b,X.held,ns',X.l)):=by
 intro n;induction n with
 | zero=>intro n' c p X j b ns ns' h;omega
 | succ n ih=>
  intro n' c p X j b ns ns' _ hn' hb hd;obtain ⟨n',rfl⟩:∃ k,n'=k+1:=⟨n' - 1,ah⟩
  cases b with
  | true=>
   rw [H1 n j true p.tree p.target ns<|Or.inl rfl,aef];exact hd.pb
  | false=>
   obtain ⟨k1,k2,k3⟩:=hb rfl;cases hg:goB lv r (kd l j) with
   | false=>
    rw [H1 n j false p.tree p.target ns<|Or.inr hg,aeg M' _ l n' 3000 _ p0 r hgt h0 c j X.held ns' X.l<|Or.inr hg];exact hd.pb
   | true=>
    have hjl:=aee h0 hg;obtain ⟨j2,ms,ms',q,j3,b3,gF,iH,L2,f1,Nv,f2,f3,f4,f5,f6⟩:=akd hl h0 IH hM hM' r p0 hin hgt s hd hg 3000 c ah ah;rw [H2 n j j2 p.tree p.target ns ms ns' ms' hg hjl f2,f3,ak,f4 n'];exact ih n' (c+1) ⟨⟨12,Ca lv<|kd l j,[],[],[p.tree,q.tree]⟩,false⟩ ⟨L2,false⟩ j3 b3 gF iH ah ah (fun h=>by have:=f6 h;omega) f5
theorem auA (g:(bQ×Int×Bool×List (List UInt8))->PI) (oU: ¬(lv=3\/lv=4))
  (H1:∀ (j:Nat) (b:Bool) (p:bQ) (ns:List (List UInt8)),(b=true\/goB lv r (kd l j)=false)->g (p,(j:Int),b,ns)=some (p,(j:Int),b,ns))
  (H2:∀ (j:Nat) (p:bQ) (ns:List (List UInt8)),goB lv r (kd l j)=true->j < l.length->g (p,(j:Int),false,ns)=(IL (lv+1) (aJ M) r l ((uj lv j:Nat):Int) false ns).bind fun q=>some (⟨⟨12,Ca lv<|kd l j,[],[],[p.tree,q.1.tree]⟩,false⟩,q.2.1,q.2.2.1,q.2.2.2))
  (p:bQ) (X:cZ) (j:Nat) (b:Bool) (ns:List (List UInt8)) (ns':List av) (n':Nat) (hn':1 < n') (hd:PD l i p X j b ns ns'):
   PB l i (g (p,(j:Int),b,ns)) (qx M' (bW M') l n' ((lv:Int),1,(s,((lv+1:Nat):Int)),p0,0,(j:Int),b,X.held,ns',X.l)):=by
 obtain ⟨n',rfl⟩:∃ k,n'=k+1+1:=⟨n' - 2,ah⟩
 cases b with
 | true=>
  rw [H1 j true p ns<|Or.inl rfl,aef];exact hd.pb
 | false=>
  cases hg:goB lv r (kd l j) with
  | false=>
   rw [H1 j false p ns<|Or.inr hg,aeg M' _ l (n'+1) 1 _ p0 r hgt h0 0 j X.held ns' X.l<|Or.inr hg];exact hd.pb
  | true=>
   have hjl:=aee h0 hg;obtain ⟨j2,ms,ms',q,j3,b3,gF,iH,L2,f1,Nv,f2,f3,f4,f5,f6⟩:=akd hl h0 IH hM hM' r p0 hin hgt s hd hg 1 0 ah ah;unfold Ap at f2;rw [bL oU] at f2;obtain ⟨rfl,rfl,rfl⟩:=f2;have f4':=f4 (n'+1);rw [show ((0:Nat):Int)=0 from rfl] at f4';rw [H2 j p ms hg hjl,f3,ak,f4'];cases b3 with
   | true=>rw [aef];exact f5.pb
   | false=>
    rw [aeg M' _ l n' 1 _ p0 r hgt h0 _ j3 false iH L2<|Or.inl ah];exact f5.pb
end chain
def Fa {lv:Nat} (h7:lv≠7) (h8:lv≠8) (r:bH) (k:Int):goB lv r k=(nA k==(lv:Int)):=by
  unfold goB;have e:(lv==8)=false:=by simpa using h8
  rw [e,aA];by_cases RI:k=62
  · subst RI
    have e0:(nA 62==(lv:Int))=false:=by (rw [fF];have:nA 62=7:=by decide);omega
    rw [e0];rfl
  · rw [fF.2 RI];simp
section
set_option linter.unusedSectionVars false
variable {l:List av} (hl:l.length<=3000) {i:Nat}
include hl
theorem Wp {lv:Nat} (h0:lv≠0) (hlv:lv < 15) (IH:∀ i',i < i'->i'<=l.length->LV l i' (lv+1)) (hS:LV l i (lv+1)) {M M':Nat} (hM:1100000+100*(l.length - i)+4*(16 - lv)<=M+4) (hM':1100000+100*(l.length - i)+4*(16 - lv)<=M'+4) (r:bH) (p0:aI) (hin:p0.aV=r.bS) (hgt:p0.aW=r.bX) (s:Int)
  (lp:Nat->LSt->PI)
  (H1:∀ (n j:Nat) (b:Bool) (t:aD) (tg:Bool) (ns:List (List UInt8)),(b=true\/goB lv r (kd l j)=false)->lp (n+1) (r,(j:Int),b,t.kind,t.op,t.text,t.other,t.kids,tg,ns)=some (⟨t,tg⟩,(j:Int),b,ns))
  (H2:∀ (n j j2:Nat) (t:aD) (tg:Bool) (ns ms:List (List UInt8)) (ns' ms':List av),goB lv r (kd l j)=true->j < l.length->Ap lv M M' l (uj lv j) j2 ns ms ns' ms'->lp (n+1) (r,(j:Int),false,t.kind,t.op,t.text,t.other,t.kids,tg,ns)=(IL (lv+1) (aJ M) r l (j2:Int) false ms).bind fun q=>lp n (r,q.2.1,q.2.2.1,12,Ca lv<|kd l j,[],[],[t,q.1.tree],false,q.2.2.2))
  (ns:List (List UInt8)) (ns':List av) (hn:ns.length<=i) (hn':ns'.length<=i):
  PB l i ((IL (lv+1) (aJ M) r l (i:Int) false ns).bind fun q=>lp M (r,q.2.1,q.2.2.1,q.1.tree.kind,q.1.tree.op,q.1.tree.text,q.1.tree.other,q.1.tree.kids,q.1.target,q.2.2.2))
   (((bW M').jv ⟨((lv+1:Nat):Int),false,p0.aV,p0.aW,false⟩ l (i:Int) false ns').bind fun q=>qx M' (bW M') l M' ((lv:Int),3000,(s,((lv+1:Nat):Int)),p0,0,q.2.1,q.2.2.1,q.1.held,q.2.2.2,q.1.l)):=by
 obtain ⟨q,X,j,b,gF,iH,e1,e2,hd⟩:=(hS M M' r ⟨((lv+1:Nat):Int),false,p0.aV,p0.aW,false⟩ ns ns' ah ah hn hn' rfl hin hgt).out;rw [e1,e2,ak,ak];exact auz hl h0 IH ah ah r p0 hin hgt s lp H1 H2 M M' 0 q X j b gF iH ah ah (fun _=>by have:=hd.1;omega) hd
theorem akg {lv:Nat} (h0:lv≠0) (hlv:lv < 15) (oU: ¬(lv=3\/lv=4)) (IH:∀ i',i < i'->i'<=l.length->LV l i' (lv+1)) (hS:LV l i (lv+1)) {M M':Nat} (hM:1100000+100*(l.length - i)+4*(16 - lv)<=M+4) (hM':1100000+100*(l.length - i)+4*(16 - lv)<=M'+4) (r:bH) (p0:aI) (hin:p0.aV=r.bS) (hgt:p0.aW=r.bX) (s:Int)
  (g:(bQ×Int×Bool×List (List UInt8))->PI)
  (H1:∀ (j:Nat) (b:Bool) (p:bQ) (ns:List (List UInt8)),(b=true\/goB lv r (kd l j)=false)->g (p,(j:Int),b,ns)=some (p,(j:Int),b,ns))
  (H2:∀ (j:Nat) (p:bQ) (ns:List (List UInt8)),goB lv r (kd l j)=true->j < l.length->g (p,(j:Int),false,ns)=(IL (lv+1) (aJ M) r l ((uj lv j:Nat):Int) false ns).bind fun q=>some (⟨⟨12,Ca lv<|kd l j,[],[],[p.tree,q.1.tree]⟩,false⟩,q.2.1,q.2.2.1,q.2.2.2))
  (ns:List (List UInt8)) (ns':List av) (hn:ns.length<=i) (hn':ns'.length<=i):
  PB l i (Option.bind (IL (lv+1) (aJ M) r l (i:Int) false ns) g)
   (((bW M').jv ⟨((lv+1:Nat):Int),false,p0.aV,p0.aW,false⟩ l (i:Int) false ns').bind fun q=>qx M' (bW M') l M' ((lv:Int),1,(s,((lv+1:Nat):Int)),p0,0,q.2.1,q.2.2.1,q.1.held,q.2.2.2,q.1.l)):=by
 obtain ⟨q,X,j,b,gF,iH,e1,e2,hd⟩:=(hS M M' r ⟨((lv+1:Nat):Int),false,p0.aV,p0.aW,false⟩ ns ns' ah ah hn hn' rfl hin hgt).out;rw [e1,e2,ak,ak];exact auA hl h0 IH ah ah r p0 hin hgt s g oU H1 H2 q X j b gF iH M' ah hd
theorem NS (lv:Nat) (m s:Int) (h:(lv=3/\m=3000/\s=3)\/(lv=4/\m=3000/\s=4)\/(lv=6/\m=1/\s=7)\/(lv=7/\m=1/\s=8)\/(lv=8/\m=3000/\s=8)\/(lv=9/\m=3000/\s=9)\/(lv=10/\m=3000/\s=10)) (M:Nat) (p:aI) (hp:p.Level=(lv:Int)) (ns:List av):
    (bW<|M+2).jv p l (i:Int) false ns=((bW M).jv ⟨((lv+1:Nat):Int),false,p.aV,p.aW,false⟩ l (i:Int) false ns).bind fun q=>qx M (bW M) l M ((lv:Int),m,(s,((lv+1:Nat):Int)),p,0,q.2.1,q.2.2.1,q.1.held,q.2.2.2,q.1.l):=by
  show VJ (M+1) (bW<|M+1) p l (i:Int) false ns=_;unfold VJ;rcases h with ⟨rfl,rfl,rfl⟩|⟨rfl,rfl,rfl⟩|⟨rfl,rfl,rfl⟩|⟨rfl,rfl,rfl⟩|⟨rfl,rfl,rfl⟩|⟨rfl,rfl,rfl⟩|⟨rfl,rfl,rfl⟩;all_goals
    simp only [aA,hp,Int.cast_ofNat_Int,Int.reduceBEq,aB];unfold ZB;simp only [hp,Int.cast_ofNat_Int,Int.reduceBEq,aB,aA];first
    | (rw [mK];rfl)
    | (unfold Nr
       simp only [aB,aA,hp,Int.cast_ofNat_Int];rw [mK];rfl)
theorem auB (IH:∀ i',i < i'->i'<=l.length->LV l i' 11) (hS:LV l i 11):LV l i 10:=by
 intro M M' r p ns ns' hM hM' hn hn' hp hin hgt;obtain ⟨M,rfl⟩:∃ k,M=k+1:=⟨M - 1,ah⟩
 obtain ⟨M',rfl⟩:∃ k,M'=k+2:=⟨M' - 2,ah⟩
 rw [NS hl 10 3000 10 aF M' p hp ns'];refine Wp hl (lv:=10) aH aH IH hS ah ah r p hin hgt 10 (vP M (aJ M) l) ?_ ?_ ns ns' hn hn'
 .intro n j b t tg ns h;obtain ⟨tk,tp,tt,tu,ts⟩:=t;rw [vP];cases b with
  | true=>simp only [fE,aA,ak]
  | false=>
   have h:=h.resolve_left aF;rw [Fa aH aH] at h;simp only [bY,aB,bI,RH,ak];rw [show ((10:Nat):Int)=10 from rfl] at h;rw [h];rfl
 .intro n j j2 t tg ns ms ns' ms' h hj hnl;obtain ⟨tk,tp,tt,tu,ts⟩:=t;unfold Ap at hnl;rw [bL aH] at hnl;obtain ⟨rfl,rfl,rfl⟩:=hnl;rw [Fa aH aH,show ((10:Nat):Int)=10 from rfl] at h;rw [vP];simp only [bY,aB,bI,RH,ak,h];rw [wrap64 ah ah];rfl
theorem auC (IH:∀ i',i < i'->i'<=l.length->LV l i' 10) (hS:LV l i 10):LV l i 9:=by
 intro M M' r p ns ns' hM hM' hn hn' hp hin hgt;obtain ⟨M,rfl⟩:∃ k,M=k+1:=⟨M - 1,ah⟩
 obtain ⟨M',rfl⟩:∃ k,M'=k+2:=⟨M' - 2,ah⟩
 rw [NS hl 9 3000 9 aF M' p hp ns'];refine Wp hl (lv:=9) aH aH IH hS ah ah r p hin hgt 9 (vQ M (aJ M) l) ?_ ?_ ns ns' hn hn'
 .intro n j b t tg ns h;obtain ⟨tk,tp,tt,tu,ts⟩:=t;rw [vQ];cases b with
  | true=>simp only [fE,aA,ak]
  | false=>
   have h:=h.resolve_left aF;rw [Fa aH aH] at h;simp only [bY,aB,bI,RH,ak];rw [show ((9:Nat):Int)=9 from rfl] at h;rw [h];rfl
 .intro n j j2 t tg ns ms ns' ms' h hj hnl;obtain ⟨tk,tp,tt,tu,ts⟩:=t;unfold Ap at hnl;rw [bL aH] at hnl;obtain ⟨rfl,rfl,rfl⟩:=hnl;rw [Fa aH aH,show ((9:Nat):Int)=9 from rfl] at h;rw [vQ];simp only [bY,aB,bI,RH,ak,h];rw [wrap64 ah ah];rfl
theorem auD (IH:∀ i',i < i'->i'<=l.length->LV l i' 9) (hS:LV l i 9):LV l i 8:=by
 intro M M' r p ns ns' hM hM' hn hn' hp hin hgt;obtain ⟨M,rfl⟩:∃ k,M=k+1:=⟨M - 1,ah⟩
 obtain ⟨M',rfl⟩:∃ k,M'=k+2:=⟨M' - 2,ah⟩
 rw [NS hl 8 3000 8 aF M' p hp ns'];refine Wp hl (lv:=8) aH aH IH hS ah ah r p hin hgt 8 (vR M (aJ M) l) ?_ ?_ ns ns' hn hn'
 .intro n j b t tg ns h;obtain ⟨tk,tp,tt,tu,ts⟩:=t;rw [vR];cases b with
  | true=>simp only [fE,aA,ak]
  | false=>
   have h:yj (kd l j)=false:=h.resolve_left aF;simp only [bY,aB,bI,Wo,ak,h,aA]
 .intro n j j2 t tg ns ms ns' ms' h hj hnl;obtain ⟨tk,tp,tt,tu,ts⟩:=t;unfold Ap at hnl;rw [bL aH] at hnl;have h:yj (kd l j)=true:=h;obtain ⟨rfl,rfl,rfl⟩:=hnl;rw [vR];simp only [bY,aB,bI,Wo,ak,h];rfl
theorem auE (IH:∀ i',i < i'->i'<=l.length->LV l i' 4) (hS:LV l i 4):LV l i 3:=by
 intro M M' r p ns ns' hM hM' hn hn' hp hin hgt;obtain ⟨M,rfl⟩:∃ k,M=k+1:=⟨M - 1,ah⟩
 obtain ⟨M',rfl⟩:∃ k,M'=k+2:=⟨M' - 2,ah⟩
 rw [NS hl 3 3000 3 aF M' p hp ns'];refine Wp hl (lv:=3) aH aH IH hS ah ah r p hin hgt 3 (vU M (aJ M) l) ?_ ?_ ns ns' hn hn'
 .intro n j b t tg ns h;obtain ⟨tk,tp,tt,tu,ts⟩:=t;rw [vU];cases b with
  | true=>simp only [fE,aA,ak]
  | false=>
   have h:=h.resolve_left aF;rw [Fa aH aH] at h;rw [show ((3:Nat):Int)=3 from rfl,ajW] at h;simp only [bY,aB,bI,ak,h,aA]
 .intro n j j2 t tg ns ms ns' ms' h hj hnl;obtain ⟨tk,tp,tt,tu,ts⟩:=t;unfold Ap at hnl;rw [bU aH] at hnl;have e:uj 3 j=j+1:=rfl;rw [e] at hnl;rw [Fa aH aH,show ((3:Nat):Int)=3 from rfl,ajW] at h;have hk:kd l j=44:=by simpa using h
  rw [vU];simp only [bY,aB,bI,ak,h];rw [wrap64 ah ah,show ((j:Int)+1)=((j+1:Nat):Int) by omega,hnl.1,ak,hk];rfl
theorem auF (IH:∀ i',i < i'->i'<=l.length->LV l i' 5) (hS:LV l i 5):LV l i 4:=by
 intro M M' r p ns ns' hM hM' hn hn' hp hin hgt;obtain ⟨M,rfl⟩:∃ k,M=k+1:=⟨M - 1,ah⟩
 obtain ⟨M',rfl⟩:∃ k,M'=k+2:=⟨M' - 2,ah⟩
 rw [NS hl 4 3000 4 aF M' p hp ns'];refine Wp hl (lv:=4) aH aH IH hS ah ah r p hin hgt 4 (vT M (aJ M) l) ?_ ?_ ns ns' hn hn'
 .intro n j b t tg ns h;obtain ⟨tk,tp,tt,tu,ts⟩:=t;rw [vT];cases b with
  | true=>simp only [fE,aA,ak]
  | false=>
   have h:=h.resolve_left aF;rw [Fa aH aH] at h;rw [show ((4:Nat):Int)=4 from rfl,ajX] at h;simp only [bY,aB,bI,ak,h,aA]
 .intro n j j2 t tg ns ms ns' ms' h hj hnl;obtain ⟨tk,tp,tt,tu,ts⟩:=t;unfold Ap at hnl;rw [bU aH] at hnl;have e:uj 4 j=j+1:=rfl;rw [e] at hnl;rw [Fa aH aH,show ((4:Nat):Int)=4 from rfl,ajX] at h;have hk:kd l j=45:=by simpa using h
  rw [vT];simp only [bY,aB,bI,ak,h];rw [wrap64 ah ah,show ((j:Int)+1)=((j+1:Nat):Int) by omega,hnl.1,ak,hk];rfl
theorem auG (IH:∀ i',i < i'->i'<=l.length->LV l i' 8) (hS:LV l i 8):LV l i 7:=by
 intro M M' r p ns ns' hM hM' hn hn' hp hin hgt;obtain ⟨M,rfl⟩:∃ k,M=k+1:=⟨M - 1,ah⟩
 obtain ⟨M',rfl⟩:∃ k,M'=k+2:=⟨M' - 2,ah⟩
 rw [NS hl 7 1 8 aF M' p hp ns'];refine akg hl (lv:=7) aH aH aH IH hS ah ah r p hin hgt 8 _ ?_ ?_ ns ns' hn hn'
 .intro j b q ns h;cases b with
  | true=>rfl
  | false=>
   have h:(nA (kd l j)==7&&!(kd l j==62&&r.bX))=false:=h.resolve_left aF;simp only [aA,bI,RH,ak];cases ho:nA (kd l j)==7 with
   | false=>rw [show (nA (kd l j) !=7)=true by rw [bne,ho];rfl];rfl
   | true=>
    rw [show (nA (kd l j) !=7)=false by rw [bne,ho];rfl,aA];rw [ho,iF,Bool.not_eq_false',dA] at h;rw [h.1,h.2];rfl
 .intro j q ns h hj;have h:(nA (kd l j)==7&&!(kd l j==62&&r.bX))=true:=h;rw [dA,kF] at h;simp only [aA,bI,RH,ak];rw [show (nA (kd l j) !=7)=false by rw [bne,h.1];rfl,aA];have e:(bif r.bX then some (kd l j==62) else some false)=some false:=by
   have h2:=h.2;revert h2;cases r.bX<;>cases (kd l j==62)<;>simp
  rw [e,ak,aA,wrap64 ah ah];rfl
theorem auH (IH:∀ i',i < i'->i'<=l.length->LV l i' 7) (hS:LV l i 7):LV l i 6:=by
 intro M M' r p ns ns' hM hM' hn hn' hp hin hgt;obtain ⟨M,rfl⟩:∃ k,M=k+1:=⟨M - 1,ah⟩
 obtain ⟨M',rfl⟩:∃ k,M'=k+2:=⟨M' - 2,ah⟩
 rw [NS hl 6 1 7 aF M' p hp ns'];refine akg hl (lv:=6) aH aH aH IH hS ah ah r p hin hgt 7 _ ?_ ?_ ns ns' hn hn'
 .intro j b q ns h;cases b with
  | true=>rfl
  | false=>
   have h:=h.resolve_left aF;rw [Fa aH aH,show ((6:Nat):Int)=6 from rfl,ajY,Kk] at h;simp only [aA,bI,ak,bne,h.1,h.2];rfl
 .intro j q ns h hj;rw [Fa aH aH,show ((6:Nat):Int)=6 from rfl,ajY] at h;simp only [aA,bI,ak,bne];have e:(bif !(kd l j==67) then some !(kd l j==46) else some false)=some false:=by
   revert h;cases (kd l j==67)<;>cases (kd l j==46)<;>simp
  rw [e,ak,aA,wrap64 ah ah];rfl
end
def LP (l:List av) (q:Nat) (ts:List aD) (Ls:List (List aG)) (j:Nat) (b:Bool) (ns:List (List UInt8)) (ns':List av):Prop:=
 q<=j/\j<=l.length/\ns.length<=j/\ns'.length<=j/\(∀ L,L∈Ls->wz L)/\Ls.length<=6/\qz Ls<=2*(j - q)+1/\(b=false->Ls=ts.map (dQ 0)/\bq ts<=2*(j - q))
def akh (N:Nat) (R:jD) (l:List av) (n:Nat) (a:Int) (j:Nat) (Ls:List (List aG)) (ns:List av):
  Kc N R l (n+1) (a,(j:Int),true,Ls,ns)=some (Ls,(j:Int),true,ns):=by
 rw [Kc];simp only [fE,aA];unfold Ka;simp only [Fe,ak]
def auI (N:Nat) (R:jD) (l:List av) (a:Int) (j:Nat) (Ls:List (List aG)) (ns:List av):
  Ka N R l (a,(j:Int),true,Ls,ns)=some (Ls,(j:Int),true,ns):=by
 unfold Ka;simp only [Fe,ak]
section
set_option linter.unusedSectionVars false
variable {l:List av} (hl:l.length<=3000) {q:Nat} (IH:∀ i',q<=i'->i'<=l.length->LV l i' 1) {M M':Nat} (hM:1100000+100*(l.length - q)+60<=M) (hM':1100000+100*(l.length - q)+60<=M')
include hl IH hM hM'
theorem auJ (a:Int):∀ (n n' pos:Nat) (ts:List aD) (Ls:List (List aG)) (ns:List (List UInt8)) (ns':List av),l.length - pos+2<=n->l.length - pos+2<=n'->q<=pos->pos<=l.length->ns.length<=pos->ns'.length<=pos->Ls=ts.map (dQ 0)->ts.length<=5->bq ts<=2*(pos - q)->(∀ L,L∈Ls->wz L)->
  ∃ (yt:List aD) (RJ:List (List aG)) (j:Nat) (b:Bool) (ms:List (List UInt8)) (ms':List av),yt≠[]/\LP l q yt RJ j b ms ms'/\BO M (aJ M) l n (⟨false,false⟩,(pos:Int),false,ts,ns)=some (yt,(j:Int),b,ms)/\
   Kc M' (bW M') l n' (a,(pos:Int),false,Ls,ns')=Ka M' (bW M') l (a,(j:Int),b,RJ,ms'):=by
 intro n;induction n with
 | zero=>intro n' pos ts Ls ns ns' h;omega
 | succ n ih=>
  intro n' pos ts Ls ns ns' hn hn' hq hpl h1 h2 Aq ht hsz hsm;obtain ⟨n',rfl⟩:∃ k,n'=k+1:=⟨n' - 1,ah⟩
  rw [BO,Kc];obtain ⟨p3,X3,j3,b3,gF,iH,e1,e2,hd⟩:=(IH pos hq hpl M M' ⟨false,false⟩ ⟨1,false,false,false,false⟩ ns ns' ah ah h1 h2 rfl rfl rfl).out;have e1:(aJ M).ou ⟨false,false⟩ l (pos:Int) false ns=some (p3,(j3:Int),b3,gF):=e1;have hlen:Ls.length=ts.length:=by rw [Aq,Fg]
  have hT:yY=some ⟨1,false,false,false,false⟩:=rfl;simp only [bY,aB,hT,e1,e2,ak];rw [mH bZ,mH bZ];simp only [ak,bI,mO];obtain ⟨a1,a2,a3,a4,a5,a6,a7⟩:=id hd;have hlS:qz Ls=bq ts:=by
   rw [Aq];clear Aq hlen ht hsz hsm hd e1 e2;induction ts with
   | nil=>rfl
   | cons t ts ih=>rw [lH,GZ,ih,su];simp [bq]
  have aki:∀ L,L∈Ls++[X3.l]->wz L:=fun L hL=>by
   rcases mJ.1 hL with h|h
   .exact hsm L h
   .rw [yg.1 h];exact a5
  have hx:qz (Ls++[X3.l])=bq ts+X3.l.length:=by rw [auL,hlS];simp [qz]
  have hl6:(Ls++[X3.l]).length<=6:=bZ;have hne:ts++[p3.tree]≠[]:=aF;have hend:∀ b:Bool,(b=false->b3=false)->LP l q (ts++[p3.tree]) (Ls++[X3.l]) j3 b gF iH:=fun b hb=>
   ⟨ah,a2,a3,a4,aki,hl6,ah,fun h=>by
    obtain ⟨c1,c2,c3,c4⟩:=a7 (hb h);refine ⟨by rw [Aq,c2];simp,?_⟩;rw [RL];simp only [bq];omega⟩
  obtain ⟨m',rfl⟩:∃ k,n'=k+1:=⟨n' - 1,ah⟩
  have hk3:VH M' (bW M') l (Kc M' (bW M') l<|m'+1) (a,(X3,(j3:Int),b3,iH),Ls++[X3.l],true)=Ka M' (bW M') l (a,(j3:Int),true,Ls++[X3.l],iH):=by
   unfold VH;simp only [Fe,ak,auN l (show 0 < M' by omega),akh,auI]
  cases b3 with
  | true=>
   refine ⟨ts++[p3.tree],Ls++[X3.l],j3,true,gF,iH,hne,hend true fun h=>h,?_,?_⟩
   .rfl
   .cases hk:(kd l j3 !=36) with
    | true=>rfl
    | false=>
     rw [aA];cases ((((Ls++[X3.l]).length:Nat):Int)==6)
     .exact hk3
     .exact hk3
  | false=>
   simp only [aA,ak];cases hk:(kd l j3 !=36) with
   | true=>exact ⟨ts++[p3.tree],Ls++[X3.l],j3,false,gF,iH,hne,hend false fun _=>rfl,rfl,rfl⟩
   | false=>
    have akj:kd l j3=36:=by simpa using hk
    have hj3:=dz (l:=l) (i:=j3) (by rw [akj];decide);simp only [aA,ak];by_cases h6:ts.length=5
    .have g1:((((ts++[p3.tree]).length:Nat):Int)==6)=true:=by rw [iG];simp;omega
     have g2:((((Ls++[X3.l]).length:Nat):Int)==6)=true:=by rw [iG];simp;omega
     rw [g1,g2];exact ⟨ts++[p3.tree],Ls++[X3.l],j3,true,gF,iH,hne,hend true (fun h=>by cases h),rfl,hk3⟩
    .have g1:((((ts++[p3.tree]).length:Nat):Int)==6)=false:=by rw [fF];simp;omega
     have g2:((((Ls++[X3.l]).length:Nat):Int)==6)=false:=by rw [fF];simp;omega
     rw [g1,g2,aA,aA];obtain ⟨j4,ms,ms',b1,b2,b4,b5,b6,b7⟩:=ake hl (N:=M) (N':=M') ah ah (i:=j3+1) gF iH ah ah ah;unfold VH;simp only [ow iH hj3 ah akj,ak,b7];rw [wrap64 ah ah,show ((j3:Int)+1)=((j3+1:Nat):Int) by omega,b6,ak];obtain ⟨c1,c2,c3,c4⟩:=a7 rfl;exact ih (m'+1) j4 (ts++[p3.tree]) (Ls++[X3.l]) ms ms' ah ah ah b2 b4 b5 (by rw [Aq,c2];simp) bZ (by rw [RL];simp only [bq];omega) aki
theorem lists (a a2:Int) (hql:q<=l.length) (ha0:a≠0) (hc:(a2==0&&kd l q==a)=(kd l q==a&&a==33)) (ns:List (List UInt8)) (ns':List av) (h1:ns.length<=q) (h2:ns'.length<=q):
  ∃ (ts:List aD) (Ls:List (List aG)) (j:Nat) (b:Bool) (ms:List (List UInt8)) (ms':List av),LP l q ts Ls j b ms ms'/\(aJ<|M+2).xQ a l (q:Int) false ns=some (ts,(j:Int),b,ms)/\(bW<|M'+1).JV a a2 l (q:Int) false ns'=some (Ls,(j:Int),b,ms')/\
   ((kd l q==a&&a==33)=false->ts≠[]):=by
 show ∃ (ts:List aD) (Ls:List (List aG)) (j:Nat) (b:Bool) (ms:List (List UInt8)) (ms':List av),LP l q ts Ls j b ms ms'/\Db (M+1) (aJ<|M+1) a l (q:Int) false ns=some (ts,(j:Int),b,ms)/\VI M' (bW M') a a2 l (q:Int) false ns'=some (Ls,(j:Int),b,ms')/\_;unfold Db VI;simp only [bI,mO,ak];have eI:(bif kd l q==a then some (a==33) else some false)=some (kd l q==a&&a==33):=by cases kd l q==a<;>rfl
 have eS:(bif a2==0 then some (kd l q==a) else some false)=some (kd l q==a&&a==33):=by rw [<- hc];cases a2==0<;>rfl
 simp only [eI,eS,ak];cases hh:(kd l q==a&&a==33) with
 | true=>
  rw [dA,iG,iG] at hh;have hlt:=dz (l:=l) (i:=q) (by rw [hh.1,hh.2];decide);simp only [aB,ow ns' hlt ah hh.1,ak];rw [wrap64 ah ah];exact ⟨[],[],q+1,false,ns,ns',⟨ah,ah,ah,ah,(fun L hL=>by cases hL),aF,by simp [qz],fun _=>⟨rfl,by simp [bq]⟩⟩,rfl,rfl,fun h=>by cases h⟩
 | false=>
  simp only [aA];obtain ⟨yt,RJ,j,b,ms,ms',k1,k2,k3,k4⟩:=auJ hl IH hM hM' a M M' q [] [] ns ns' ah ah ah hql h1 h2 rfl aF (by simp [bq]) (fun L hL=>by cases hL);have k3':(aJ<|M+1).EF ⟨false,false⟩ l (q:Int) false ns=some (yt,(j:Int),b,ms):=k3;rw [k3',k4];unfold Ka;simp only [ak];obtain ⟨p1,p2,p3,p4,p5,p6,p7,p8⟩:=k2;cases b with
  | true=>
   simp only [ZO,Fe,ak];exact ⟨yt,RJ,j,true,ms,ms',⟨p1,p2,p3,p4,p5,p6,p7,p8⟩,rfl,rfl,fun _=>k1⟩
  | false=>
   by_cases ha:kd l j=a
   .have hj:=dz (l:=l) (i:=j) (by rw [ha];exact ha0);simp only [ES ms (show j<=100000 by omega) ha,ow ms' hj ah ha,ak];obtain ⟨r1,r2⟩:=p8 rfl;exact ⟨yt,RJ,j+1,false,ms,ms',⟨ah,ah,ah,ah,p5,p6,ah,fun _=>⟨r1,ah⟩⟩,rfl,rfl,fun _=>k1⟩
   .simp only [Rt false ms ha,Kw false ms' ha,ak];exact ⟨yt,RJ,j,true,ms,ms',⟨p1,p2,p3,p4,p5,p6,p7,fun h=>by cases h⟩,rfl,rfl,fun _=>k1⟩
end
def auP (M:Nat) (l:List av) (a:Int) (i:Nat) (ns:List av) (a2:Int):(bW<|M+2).JV a a2 l (i:Int) true ns=some ([],(i:Int),true,ns):=by
 show VI (M+1) (bW<|M+1) a a2 l (i:Int) true ns=_;unfold VI;simp only [mO,ak];have e:∃ b,(bif a2==0 then some (kd l i==a) else some false)=some b:=by
  cases a2==0
  .exact ⟨_,rfl⟩
  .exact ⟨_,rfl⟩
 obtain ⟨b,hb⟩:=e;rw [hb,ak];cases b with
 | true=>simp only [aB,Fe,ak]
 | false=>simp only [aA];exact akh _ _ l M a i [] ns
def aak (M:Nat) (p:aI) (l:List av) (i:Int) (ns:List av):(bW<|M+1).jv p l i true ns=some (⟨[],false⟩,i,true,ns):=rfl
def akk {l:List av} {i:Nat} (hi:i<=l.length) (p:bQ) (hb:Bool) {ns:List (List UInt8)} {ns':List av} (h1:ns.length<=i) (h2:ns'.length<=i):PD l i p ⟨[],hb⟩ i true ns ns':=
 ⟨ah,hi,h1,h2,(fun x hx=>by cases hx),aF,fun h=>by cases h⟩
def aej {l:List av} {i:Nat} (hi:i < l.length) (k:Int) (tx:List UInt8) (htx:tx.length<=1048576) {tg:Bool} (qA:tg=dL k) {ns:List (List UInt8)} {ns':List av} (h1:ns.length<=i) (h2:ns'.length<=i):
  PB l i (some (⟨⟨k,0,tx,[],[]⟩,tg⟩,((i+1:Nat):Int),false,ns)) (some (⟨[⟨k,0,tx,[],[]⟩],false⟩,((i+1:Nat):Int),false,ns')):=by
 refine PD.pb ⟨ah,ah,ah,ah,(fun x hx=>?_),aF,fun _=>⟨ah,?_,?_,?_⟩⟩
 .rw [yg.1 hx];exact ⟨aF,htx,aF⟩
 .simp [dQ,jd,jG]
 .rw [qA];rfl
 .simp [aU,bq]
def ndL {l:List av} (hl:l.length<=3000) {N i q:Nat} (hN:1048577 < N) (k:Int) (tx:List UInt8) (htx:tx.length<=1048576) {tg:Bool} (qA:tg=dL k) (hiq:i+2<=q) {ts:List aD} {Ls:List (List aG)} {j:Nat} {b:Bool} {ns:List (List UInt8)} {ns':List av} (h:LP l q ts Ls j b ns ns'):
  ∃ r,vV N ⟨k,0,tx,[],[]⟩ Ls=some r/\PB l i (some (⟨⟨k,0,tx,[],ts⟩,tg⟩,(j:Int),b,ns)) (some (⟨r,false⟩,(j:Int),b,ns')):=by
 obtain ⟨a1,a2,a3,a4,a5,a6,a7,a8⟩:=h;exact Cb hl hN k 0 tx htx tg ts Ls b ns ns' ah a2 a3 a4 ah ah a5 qA fun hb=>by
  obtain ⟨c1,c2⟩:=a8 hb;exact ⟨ah,c1,ah⟩
def nd1 {l:List av} (hl:l.length<=3000) {N i i2:Nat} (hN:1048577 < N) (k op:Int) {tg:Bool} (qA:tg=dL k) (hi:i+1<=i2) {p:bQ} {X:cZ} {j:Nat} {b:Bool} {ns:List (List UInt8)} {ns':List av} (h:PD l i2 p X j b ns ns'):
  ∃ r,vV N ⟨k,op,[],[],[]⟩ [X.l]=some r/\PB l i (some (⟨⟨k,op,[],[],[p.tree]⟩,tg⟩,(j:Int),b,ns)) (some (⟨r,false⟩,(j:Int),b,ns')):=by
 obtain ⟨a1,a2,a3,a4,a5,a6,a7⟩:=h;exact Cb hl hN k op [] aF tg [p.tree] [X.l] b ns ns' ah a2 a3 a4 (by simp only [GZ];show _+0<=_;omega) aF (fun L hL=>by rw [yg.1 hL];exact a5) qA fun hb=>by
  obtain ⟨c1,c2,c3,c4⟩:=a7 hb;exact ⟨ah,by simp [c2],by simp only [bq];omega⟩
def auQ {l:List av} (hl:l.length<=3000) {N i:Nat} (hN:1048577 < N) (k op:Int) {tg:Bool} (qA:tg=dL k) {p:bQ} {X:cZ} {j:Nat} {ns:List (List UInt8)} {ns':List av} (h:PD l i p X j false ns ns') (hj:j < l.length):
  ∃ r,vV N ⟨k,op,[],[],[]⟩ [X.l]=some r/\PB l i (some (⟨⟨k,op,[],[],[p.tree]⟩,tg⟩,((j+1:Nat):Int),false,ns)) (some (⟨r,false⟩,((j+1:Nat):Int),false,ns')):=by
 obtain ⟨a1,a2,a3,a4,a5,a6,a7⟩:=h;obtain ⟨c1,c2,c3,c4⟩:=a7 rfl;exact Cb hl hN k op [] aF tg [p.tree] [X.l] false ns ns' ah ah ah ah (by simp only [GZ];show _+0<=_;omega) aF (fun L hL=>by rw [yg.1 hL];exact a5) qA fun hb=>⟨ah,by simp [c2],by simp only [bq];omega⟩
section
set_option linter.unusedSectionVars false
variable {l:List av} (hl:l.length<=3000) (hst:∀ t,t∈l->t.Text.length<=1048576) {i:Nat} (IH:∀ i' lv,i < i'->i'<=l.length->1<=lv->lv<=15->LV l i' lv)
include hl hst IH
theorem auR (h6:kd l i=6) (M M':Nat) (hM:1099900+100*(l.length - i)<=M) (hM':1099900+100*(l.length - i)<=M') (ns:List (List UInt8)) (ns':List av) (h1:ns.length<=i) (h2:ns'.length<=i):
  PB l i ((aJ M).vI l (i:Int) false ns) ((bW M').Zl l (i:Int) false ns'):=by
 obtain ⟨M,rfl⟩:∃ k,M=k+3:=⟨M - 3,ah⟩
 obtain ⟨M',rfl⟩:∃ k,M'=k+2:=⟨M' - 2,ah⟩
 have hi:=dz (l:=l) (i:=i) (by rw [h6];decide);show PB l i (CW (M+2) (aJ<|M+2) l (i:Int) false ns) (acO (M'+1) (bW<|M'+1) l (i:Int) false ns');unfold CW acO;simp only [Dy false ns hi ah,ow ns' hi ah h6,ak,bI,mO];by_cases oU:kd l (i+1)=34
 .have hi1:=dz (l:=l) (i:=i+1) (by rw [oU];decide);simp only [oU,tZ,bne_self_eq_false,aB,aA,ow ns' hi1 ah oU,ak];rw [wrap64 ah ah,show (((i+1:Nat):Int)+1)=((i+1+1:Nat):Int) by omega];obtain ⟨ts,Ls,j,b,ms,ms',g1,g2,g3,_⟩:=lists hl (q:=i+1+1) (fun i' ha hb=>IH i' 1 ah hb aH aH) (M:=M) (M':=M') ah ah 35 1 ah aH aF ns ns' ah ah;rw [g2,g3,ak,ak];obtain ⟨r,r1,r2⟩:=ndL hl (N:=M'+1) (i:=i) ah 5 l[i].Text (hst _<|kE hi) (tg:=true) rfl ah g1;simp only [r1,ak];exact r2
 .have e1:(kd l (i+1)==34)=false:=by simpa using oU
  have e2:(kd l (i+1) !=34)=true:=by simpa using oU
  simp only [e1,e2,aB,aA];exact aej hi 1 l[i].Text (hst _<|kE hi) rfl h1 h2
theorem aek (a:Int) (ha:dL a=false) (tx:List UInt8) (htx:tx.length<=1048576) (hi:i < l.length) (M M':Nat) (hM:1099900+100*(l.length - i)<=M) (hM':1099900+100*(l.length - i)<=M') (ns:List (List UInt8)) (ns':List av) (h1:ns.length<=i) (h2:ns'.length<=i):
  PB l i (EG (M+2) (aJ<|M+2) l ((tx,((i+1:Nat):Int)),false,ns,a))
   ((kQ 32 l ((i+1:Nat):Int) false ns').bind fun dG=>((bW<|M'+2).JV 33 0 l dG.2.1 dG.2.2 ns').bind fun fD=>(vV (M'+2) (⟨a,0,tx,[],[]⟩:aG) fD.1).bind fun r16=>some ((⟨r16,false⟩:cZ),fD.2.1,fD.2.2.1,fD.2.2.2)):=by
 unfold EG;simp only [];by_cases h32:kd l (i+1)=32
 .have hi1:=dz (l:=l) (i:=i+1) (by rw [h32];decide);simp only [ES ns (show i+1<=100000 by omega) h32,ow ns' hi1 ah h32,ak,aB];obtain ⟨ts,Ls,j,b,ms,ms',g1,g2,g3,_⟩:=lists hl (q:=i+1+1) (fun i' ha hb=>IH i' 1 ah hb aH aH) (M:=M) (M':=M'+1) ah ah 33 0 ah aH aF ns ns' ah ah;rw [g2,g3,ak,ak];obtain ⟨r,r1,r2⟩:=ndL hl (N:=M'+2) (i:=i) ah a tx htx (tg:=false) ha.symm ah g1;simp only [r1,ak];exact r2
 .simp only [Rt false ns h32,Kw false ns' h32,ak,aA,auP];obtain ⟨r,r1,r2⟩:=Cb hl (N:=M'+2) (i:=i) (j:=i+1) ah a 0 tx htx false [] [] true ns ns' ah ah ah ah (by simp [qz]) aF (fun L hL=>by cases hL) ha.symm (fun h=>by cases h);simp only [r1,ak];exact r2
theorem akm (hil:i<=l.length) (M M':Nat) (hM:1100000+100*(l.length - i)<=M) (hM':1100000+100*(l.length - i)<=M') (ns:List (List UInt8)) (ns':List av) (h1:ns.length<=i) (h2:ns'.length<=i):
  PB l i ((aJ M).zk l (i:Int) false ns) ((bW M').Rb l (i:Int) false ns'):=by
 obtain ⟨M,rfl⟩:∃ k,M=k+4:=⟨M - 4,ah⟩
 obtain ⟨M',rfl⟩:∃ k,M'=k+4:=⟨M' - 4,ah⟩
 show PB l i (oN (M+3) (aJ<|M+3) l (i:Int) false ns) (acP (M'+3) (bW<|M'+3) l (i:Int) false ns');unfold oN acP;simp only [aA,bI,mO,ak];by_cases hlf:kd l i=3\/kd l i=4\/kd l i=5
 .have hi:=dz (l:=l) (i:=i) (by rcases hlf with h|h|h<;>rw [h]<;>decide);have hx:∀ k:Int,VE k l (i:Int) false ns'=some (⟨[⟨k,0,l[i].Text,[],[]⟩],false⟩,((i+1:Nat):Int),false):=fun k=>by
   unfold VE;rw [bJ hi,ak,ow ns' hi ah<|iQ hi,ak]
  rcases hlf with h|h|h<;>simp only [h,Int.reduceBEq,aB,aA,hx,Dy false ns hi ah,ak]<;>exact aej hi _ l[i].Text (hst _<|kE hi) rfl h1 h2
 .have n3:(kd l i==3)=false:=by rw [fF];exact fun h=>hlf (Or.inl h)
  have n4:(kd l i==4)=false:=by rw [fF];exact fun h=>hlf (Or.inr<|Or.inl h)
  have n5:(kd l i==5)=false:=by rw [fF];exact fun h=>hlf (Or.inr<|Or.inr h)
  simp only [n3,n4,n5,aA];by_cases h6:kd l i=6
  .simp only [h6,tZ,aB,mK];exact auR hl hst IH h6 (M+3) (M'+3) ah ah ns ns' h1 h2
  .have n6:(kd l i==6)=false:=by simpa using h6
   simp only [n6,aA];by_cases h7:kd l i=7
   .have hi:=dz (l:=l) (i:=i) (by rw [h7];decide);simp only [h7,Int.reduceBEq,aB,mK];unfold Ac;simp only [aB,Dy false ns hi ah,ak,Int.reduceBEq,aA];show PB l i _ (VF (M'+2) (bW<|M'+2) 7 l (i:Int) false ns');unfold VF;simp only [mO,ak,ow ns' hi ah rfl,Int.reduceBEq,aA];exact aek hl hst IH 7 rfl l[i].Text (hst _<|kE hi) hi (M+1) M' ah ah ns ns' h1 h2
   .have n7:(kd l i==7)=false:=by simpa using h7
    simp only [n7,aA];unfold Ac;by_cases h8:kd l i=8
    .have hi:=dz (l:=l) (i:=i) (by rw [h8];decide);simp only [h8,tZ,aB,mK,Dy false ns hi ah,ak];show PB l i _ (VF (M'+2) (bW<|M'+2) 8 l (i:Int) false ns');unfold VF;simp only [bI,mO,ak,ow ns' hi ah rfl,tZ,aB];cases ht:(l[i].Text==[108,101,110,103,116,104]) with
     | true=>
      cases hk:(kd l (i+1) !=32) with
      | true=>
       simp only [aB,ak];exact aej hi 8 l[i].Text (hst _<|kE hi) rfl h1 h2
      | false=>
       simp only [aB,aA,ak];exact aek hl hst IH 8 rfl l[i].Text (hst _<|kE hi) hi (M+1) M' ah ah ns ns' h1 h2
     | false=>
      have e:(bif kd l (i+1) !=32 then some false else some false)=some false:=by cases (kd l (i+1) !=32)<;>rfl
      simp only [e,aA,ak];exact aek hl hst IH 8 rfl l[i].Text (hst _<|kE hi) hi (M+1) M' ah ah ns ns' h1 h2
    .have n8:(kd l i==8)=false:=by simpa using h8
     simp only [n8,aA];have hT:yY=some ⟨1,false,false,false,false⟩:=rfl;by_cases h32:kd l i=32
     .have hi:=dz (l:=l) (i:=i) (by rw [h32];decide);simp only [h32,tZ,aB,ow ns' hi ah h32,hT,ak];rw [wrap64 ah ah,show ((i:Int)+1)=((i+1:Nat):Int) by omega];obtain ⟨p3,X3,j3,b3,gF,iH,e1,e2,hd⟩:=(IH (i+1) 1 ah ah aH aH (M+3) (M'+3) ⟨false,false⟩ ⟨1,false,false,false,false⟩ ns ns' ah ah ah ah rfl rfl rfl).out;have e1:(aJ<|M+3).ou ⟨false,false⟩ l ((i+1:Nat):Int) false ns=some (p3,(j3:Int),b3,gF):=e1;rw [e1,e2,ak,ak];cases b3 with
      | true=>
       simp only [ZO,Fe,ak];exact (aeh (i:=i) (q:=⟨p3.tree,false⟩) (Y:=⟨X3.l,true⟩) hd ah rfl).pb
      | false=>
       obtain ⟨a1,a2,a3,a4,a5,a6,a7⟩:=hd;obtain ⟨c1,c2,c3,c4⟩:=a7 rfl;by_cases gZ:kd l j3=33
       .have hj3:=dz (l:=l) (i:=j3) (by rw [gZ];decide);simp only [ES gF (show j3<=100000 by omega) gZ,ow iH hj3 ah gZ,ak];exact PD.pb ⟨ah,ah,ah,ah,a5,by show X3.l.length<=_;omega,fun _=>⟨ah,c2,rfl,by show aU p3.tree+1<=_;omega⟩⟩
       .simp only [Rt false gF gZ,Kw false iH gZ,ak];exact PD.pb ⟨ah,a2,a3,a4,a5,by show X3.l.length<=_;omega,fun h=>by cases h⟩
     .have n32:(kd l i==32)=false:=by simpa using h32
      simp only [n32,aA,Kw false ns' h32,hT,ak];rw [show M'+3=(M'+2)+1 from rfl,aak];simp only [ak,Fe];unfold Gv;exact (akk hil _ true h1 h2).pb
end
def wB (k:Int):Bool:=k==51||k==52
def stS (k:Int):Nn k=some (wB k):=by
 unfold Nn wB;cases k==51<;>rfl
def stI (k:Int):xE k=some (wB k):=stS k
def Wq (k:Int):Bool:=k==54||(decide (k>=38)&&decide (k<=43))
def asS (k:Int):wY k=some (Wq k):=by
 unfold wY lS Wq;cases k==54<;>cases decide (k>=38)<;>rfl
def asI (k:Int):JB k=some (Wq k):=asS k
def auT {k:Int} (h:Wq k=true):k≠0:=fun e=>by rw [e] at h;revert h;decide
def ako {k:Int} (h:wB k=true):k≠0:=fun e=>by rw [e] at h;revert h;decide
section
set_option linter.unusedSectionVars false
variable {l:List av} (hl:l.length<=3000) (hst:∀ t,t∈l->t.Text.length<=1048576) {i:Nat} (hil:i<=l.length) (IH:∀ i' lv,i < i'->i'<=l.length->1<=lv->lv<=15->LV l i' lv)
include hl hst hil IH
theorem ael (hk:wB (kd l i)=true) (p:aI) (M M':Nat) (hM:1099990+100*(l.length - i)<=M) (hM':1099990+100*(l.length - i)<=M') (ns:List (List UInt8)) (ns':List av) (h1:ns.length<=i) (h2:ns'.length<=i):
  PB l i ((aJ M).tQ l (i:Int) false ns) ((bW M').JW p l (i:Int) false ns'):=by
 have hi:=dz (l:=l) (i:=i) (ako hk);obtain ⟨M,rfl⟩:∃ k,M=k+4:=⟨M - 4,ah⟩
 obtain ⟨M',rfl⟩:∃ k,M'=k+4:=⟨M' - 4,ah⟩
 have akp:=IH (i+1) 14 ah ah aH aH;show PB l i (Gy (M+3) (aJ<|M+3) l (i:Int) false ns) (adb (M'+3) (bW<|M'+3) p l (i:Int) false ns');unfold Gy adb;simp only [bI,mO,ow ns' hi (show l.length<=100000 by omega) rfl,ak];rw [wrap64 ah ah,show ((i:Int)+1)=((i+1:Nat):Int) by omega];have fin:∀ b:Bool,PB l (i+1) ((aJ<|M+3).BM l ((i+1:Nat):Int) false ns) ((bW<|M'+3).jv ⟨14,false,p.aV,p.aW,false⟩ l ((i+1:Nat):Int) b ns')->
   PB l i (((aJ<|M+3).BM l ((i+1:Nat):Int) false ns).bind fun r4=>some ((⟨(⟨9,kd l i,[],[],[r4.1.tree]⟩:aD),false⟩:bQ),r4.2.1,r4.2.2.1,r4.2.2.2)) (ZC (M'+3) (bW<|M'+3) l (kd l i,(l[i],((i+1:Nat):Int),false),p,ns',b)):=fun b h=>by
  obtain ⟨p3,X3,j3,b3,gF,iH,e1,e2,hd⟩:=h.out;unfold ZC oP rV;simp only [e1,e2,ak];obtain ⟨r,r1,r2⟩:=nd1 hl (N:=M'+3) (i:=i) ah 9 (kd l i) (tg:=false) rfl ah hd;rw [r1,ak,ak];exact r2
 by_cases h68:kd l (i+1)=68
 .simp only [h68,Int.reduceBNe,aB,bne_self_eq_false,ak,aA];refine fin false ?_;have e:(aJ<|M+3).BM l ((i+1:Nat):Int) false ns=(aJ<|M+2).lV l ((i+1:Nat):Int) false ns:=by
   show Ae (M+2) (aJ<|M+2) l ((i+1:Nat):Int) false ns=_;unfold Ae;simp only [aA,bI,h68,tZ,aB,ak,mK]
  rw [e];exact akp (M+2) (M'+3) ⟨p.aV,p.aW⟩ ⟨14,false,p.aV,p.aW,false⟩ ns ns' ah ah ah ah rfl rfl rfl
 .by_cases h6:kd l (i+1)=6
  .simp only [h6,bne_self_eq_false,aA,ak];refine fin false ?_;have e:(aJ<|M+3).BM l ((i+1:Nat):Int) false ns=(aJ<|M+4).lV l ((i+1:Nat):Int) false ns:=by
    show Ae (M+2) (aJ<|M+2) l ((i+1:Nat):Int) false ns=rP (M+3) (aJ<|M+3) l ((i+1:Nat):Int) false ns;unfold Ae rP;simp only [aA,bI,h6,Int.reduceBEq,Int.reduceBNe,aB,ak,mK];show _=oN (M+2) (aJ<|M+2) l ((i+1:Nat):Int) false ns;unfold oN;simp only [aA,bI,h6,Int.reduceBEq,aB,ak,mK]
   rw [e];exact akp (M+4) (M'+3) ⟨p.aV,p.aW⟩ ⟨14,false,p.aV,p.aW,false⟩ ns ns' ah ah ah ah rfl rfl rfl
  .have n68:(kd l (i+1) !=68)=true:=by simpa using h68
   have n6:(kd l (i+1) !=6)=true:=by simpa using h6
   simp only [n68,n6,aB,ak];refine fin true ?_;have m68:(kd l (i+1)==68)=false:=by simpa using h68
   have m6:(kd l (i+1)==6)=false:=by simpa using h6
   show PB l (i+1) (Ae (M+2) (aJ<|M+2) l ((i+1:Nat):Int) false ns) _;unfold Ae;simp only [aA,bI,m68,m6,ak];rw [show M'+3=(M'+2)+1 from rfl,aak];exact (akk ah _ false ah ah).pb
theorem Ky (M:Nat) (p:aI) (ns:List av):
  (p.Level=1->(bW<|M+1).jv p l (i:Int) false ns=(bW M).Zu p l (i:Int) false ns)/\
  (p.Level=2->(bW<|M+1).jv p l (i:Int) false ns=(bW M).Zt p l (i:Int) false ns)/\
  (p.Level=5->(bW<|M+1).jv p l (i:Int) false ns=(bW M).Zq p l (i:Int) false ns)/\
  (p.Level=11->(bW<|M+1).jv p l (i:Int) false ns=(bW M).Zo p l (i:Int) false ns)/\
  (p.Level=12->(bW<|M+1).jv p l (i:Int) false ns=(bW M).Rc p l (i:Int) false ns)/\
  (p.Level=13->(bW<|M+1).jv p l (i:Int) false ns=(bW M).Zn p l (i:Int) false ns)/\
  (p.Level=14->(bW<|M+1).jv p l (i:Int) false ns=(bW M).Zm p l (i:Int) false ns)/\
  (p.Level=15->(bW<|M+1).jv p l (i:Int) false ns=(bW M).Rb l (i:Int) false ns):=by
 refine ⟨fun hp=>?_,fun hp=>?_,fun hp=>?_,fun hp=>?_,fun hp=>?_,fun hp=>?_,fun hp=>?_,fun hp=>?_⟩;all_goals
  show VJ M (bW M) p l (i:Int) false ns=_;unfold VJ;simp only [aA,hp,Int.reduceBEq,aB,mK]
 all_goals
  unfold ZB;simp only [aA,hp,Int.reduceBEq,aB,mK];unfold Nr;simp only [aA,hp,Int.reduceBEq,aB,mK]
theorem auV:LV l i 15:=by
 intro M M' r p ns ns' hM hM' hn hn' hp hin hgt;obtain ⟨M',rfl⟩:∃ k,M'=k+1:=⟨M' - 1,ah⟩
 rw [(Ky hl hst hil IH M' p ns').2.2.2.2.2.2.2 hp];exact akm hl hst IH hil M M' ah ah ns ns' hn hn'
theorem auW:LV l i 14:=by
 intro M M' r p ns ns' hM hM' hn hn' hp hin hgt;obtain ⟨M,rfl⟩:∃ k,M=k+1:=⟨M - 1,ah⟩
 obtain ⟨M',rfl⟩:∃ k,M'=k+2:=⟨M' - 2,ah⟩
 rw [(Ky hl hst hil IH (M'+1) p ns').2.2.2.2.2.2.1 hp];show PB l i (rP M (aJ M) l (i:Int) false ns) (acQ M' (bW M') p l (i:Int) false ns');unfold rP acQ;simp only [aA,bI,mO,ak];by_cases h68:kd l i=68
 .have hi:=dz (l:=l) (i:=i) (by rw [h68];decide);simp only [h68,bne_self_eq_false,aA,ow ns' hi ah h68,ak];rw [wrap64 ah ah,show ((i:Int)+1)=((i+1:Nat):Int) by omega];simp only [bI,mO,stI,stS,ak];cases hs:wB (kd l<|i+1) with
  | true=>
   simp only [aB];obtain ⟨p3,X3,j3,b3,gF,iH,e1,e2,hd⟩:=(ael (i:=i+1) hl hst ah (fun i' lv a b c d=>IH i' lv ah b c d) hs p M M' ah ah ns ns' ah ah).out;rw [e1,e2,ak,ak];obtain ⟨r,r1,r2⟩:=nd1 hl (N:=M') (i:=i) ah 6 0 (tg:=true) rfl ah hd;unfold JK Zv rV;simp only [r1,ak];obtain ⟨⟨tk,tp,tt,tu,ts⟩,tg⟩:=p3;exact r2
  | false=>
   simp only [aA];unfold oP;rw [ak];obtain ⟨p3,X3,j3,b3,gF,iH,e1,e2,hd⟩:=(IH (i+1) 14 ah ah aH aH M M' r ⟨14,false,p.aV,p.aW,false⟩ ns ns' ah ah ah ah rfl hin hgt).out;have e1:(aJ M).lV l ((i+1:Nat):Int) false ns=some (p3,(j3:Int),b3,gF):=e1;rw [e1,e2,ak,ak];obtain ⟨rr,r1,r2⟩:=nd1 hl (N:=M') (i:=i) ah 6 0 (tg:=true) rfl ah hd;unfold JK Zv rV;simp only [r1,ak];obtain ⟨⟨tk,tp,tt,tu,ts⟩,tg⟩:=p3;exact r2
 .have n68:(kd l i !=68)=true:=by simpa using h68
  simp only [n68,aB,mK];exact akm hl hst IH hil M M' ah ah ns ns' hn hn'
theorem auX (hS:LV l i 14):LV l i 13:=by
 intro M M' r p ns ns' hM hM' hn hn' hp hin hgt;obtain ⟨M,rfl⟩:∃ k,M=k+1:=⟨M - 1,ah⟩
 obtain ⟨M',rfl⟩:∃ k,M'=k+2:=⟨M' - 2,ah⟩
 rw [(Ky hl hst hil IH (M'+1) p ns').2.2.2.2.2.1 hp];show PB l i (Af M (aJ M) l (i:Int) false ns) (acR M' (bW M') p l (i:Int) false ns');unfold Af acR;simp only [bY,aB,bI,mO,stI,stS,ak];cases hs:wB (kd l i) with
 | true=>
  simp only [aB,mK];exact ael hl hst hil IH hs p M M' ah ah ns ns' hn hn'
 | false=>
  simp only [aA];unfold oP;rw [ak];obtain ⟨p3,X3,j3,b3,gF,iH,e1,e2,hd⟩:=(hS M M' r ⟨14,false,p.aV,p.aW,false⟩ ns ns' ah ah hn hn' rfl hin hgt).out;have e1:(aJ M).lV l (i:Int) false ns=some (p3,(j3:Int),b3,gF):=e1;simp only [e1,e2,ak,bI,mO];cases b3 with
  | true=>simp only [aB,ak];exact hd.pb
  | false=>
   obtain ⟨c1,c2,c3,c4⟩:=hd.2.2.2.2.2.2 rfl;have hp2:QX X3=some p3.target:=by
    have:=akq p3.tree X3.held (by have:=hd.2.1;omega);rw [<- c2] at this;rw [c3];exact this
   simp only [aA,hp2,ak];cases hs3:wB (kd l j3) with
   | true=>
    have hj3:=dz (l:=l) (i:=j3) (ako hs3);cases ht:p3.target with
    | true=>
     simp only [fE,aA,ak,ow iH hj3 (show l.length<=100000 by omega) rfl];obtain ⟨rr,r1,r2⟩:=auQ hl (N:=M') (i:=i) ah 10 (kd l j3) (tg:=false) rfl hd hj3;unfold rV;rw [r1,ak,ak,wrap64 ah ah];exact r2
    | false=>simp only [fE,bY,aB,aA,ak];exact hd.pb
   | false=>
    simp only [bY,aB,ak];cases ht:p3.target<;>exact hd.pb
theorem akr (hS:LV l i 13) (M M':Nat) (hM:1100000+100*(l.length - i)+16<=M) (hM':1100000+100*(l.length - i)+14<=M') (r:bH) (p:aI) (ns:List (List UInt8)) (ns':List av) (hn:ns.length<=i) (hn':ns'.length<=i) (hin:p.aV=r.bS) (hgt:p.aW=r.bX):
  PB l i ((aJ M).xO r l (i:Int) false ns) ((bW M').Rc p l (i:Int) false ns'):=by
 obtain ⟨M,rfl⟩:∃ k,M=k+1:=⟨M - 1,ah⟩
 obtain ⟨M',rfl⟩:∃ k,M'=k+1:=⟨M' - 1,ah⟩
 show PB l i (CY M (aJ M) r l (i:Int) false ns) (acS M' (bW M') p l (i:Int) false ns');unfold CY acS oP rV vG;simp only [ak];obtain ⟨p3,X3,j3,b3,gF,iH,e1,e2,hd⟩:=(hS M M' r ⟨13,false,p.aV,p.aW,false⟩ ns ns' ah ah hn hn' rfl hin hgt).out;have e1:(aJ M).xM l (i:Int) false ns=some (p3,(j3:Int),b3,gF):=e1;simp only [e1,e2,ak,bI,mO];cases b3 with
 | true=>simp only [aB,ak];exact hd.pb
 | false=>
  simp only [aA,ak];by_cases Du:kd l j3=60
  .have hj3:=dz (l:=l) (i:=j3) (by rw [Du];decide);have hij:=(hd.2.2.2.2.2.2 rfl).1;have hns:=hd.2.2.1;have auY:=hd.2.2.2.1;simp only [Du,bne_self_eq_false,aA,ow iH hj3 (show l.length<=100000 by omega) Du,ak];rw [wrap64 ah ah,show ((j3:Int)+1)=((j3+1:Nat):Int) by omega];obtain ⟨p4,X4,j4,b4,Ws,aks,f1,f2,hd4⟩:=(IH (j3+1) 11 ah ah aH aH M M' r ⟨11,false,p.aV,p.aW,false⟩ gF iH ah ah ah ah rfl hin hgt).out;have f1:(aJ M).om r l ((j3+1:Nat):Int) false gF=some (p4,(j4:Int),b4,Ws):=f1;simp only [f1,f2,ak];obtain ⟨rr,r1,r2⟩:=nd2 hl (N:=M') (i:=i) ah 12 60 rfl hd ah hd4;rw [r1,ak,ak];exact r2.pb
  .have n60:(kd l j3 !=60)=true:=by simpa using Du
   simp only [n60,aB];exact hd.pb
theorem auZ (hS:LV l i 13):LV l i 12:=by
 intro M M' r p ns ns' hM hM' hn hn' hp hin hgt;obtain ⟨M',rfl⟩:∃ k,M'=k+1:=⟨M' - 1,ah⟩
 rw [(Ky hl hst hil IH M' p ns').2.2.2.2.1 hp];exact akr hl hst hil IH hS M M' ah ah r p ns ns' hn hn' hin hgt
theorem ava (hS:LV l i 13):LV l i 11:=by
 intro M M' r p ns ns' hM hM' hn hn' hp hin hgt;obtain ⟨M,rfl⟩:∃ k,M=k+1:=⟨M - 1,ah⟩
 obtain ⟨M',rfl⟩:∃ k,M'=k+2:=⟨M' - 2,ah⟩
 rw [(Ky hl hst hil IH (M'+1) p ns').2.2.2.1 hp];show PB l i (Ag M (aJ M) r l (i:Int) false ns) (acT M' (bW M') p l (i:Int) false ns');unfold Ag acT oP rV;simp only [aA,bI,mO,ak];by_cases hu:kd l i=56\/kd l i=55\/kd l i=61
 .have hi:=dz (l:=l) (i:=i) (by rcases hu with h|h|h<;>rw [h]<;>decide);have e1:(bif kd l i==56 then some true else bif kd l i==55 then some true else some (kd l i==61))=some true:=by rcases hu with h|h|h<;>rw [h]<;>rfl
  have e2:(bif kd l i !=55 then bif kd l i !=56 then some (kd l i !=61) else some false else some false)=some false:=by rcases hu with h|h|h<;>rw [h]<;>rfl
  simp only [e1,e2,ak,aB,aA,ow ns' hi (show l.length<=100000 by omega) rfl];rw [wrap64 ah ah,show ((i:Int)+1)=((i+1:Nat):Int) by omega];obtain ⟨p4,X4,j4,b4,Ws,aks,f1,f2,hd4⟩:=(IH (i+1) 11 ah ah aH aH M M' r ⟨11,false,p.aV,p.aW,false⟩ ns ns' ah ah ah ah rfl hin hgt).out;have f1:(aJ M).om r l ((i+1:Nat):Int) false ns=some (p4,(j4:Int),b4,Ws):=f1;simp only [f1,f2,ak];obtain ⟨rr,r1,r2⟩:=nd1 hl (N:=M') (i:=i) ah 11 (kd l i) (tg:=false) rfl ah hd4;rw [r1,ak,ak];exact r2
 .have n56:kd l i≠56:=fun h=>hu (Or.inl h);have n55:kd l i≠55:=fun h=>hu (Or.inr<|Or.inl h);have n61:kd l i≠61:=fun h=>hu (Or.inr<|Or.inr h);have e1:(bif kd l i==56 then some true else bif kd l i==55 then some true else some (kd l i==61))=some false:=by
   rw [fF.2 n56,fF.2 n55,fF.2 n61];rfl
  have e2:(bif kd l i !=55 then bif kd l i !=56 then some (kd l i !=61) else some false else some false)=some true:=by
   rw [bne_iff_ne.2 n56,bne_iff_ne.2 n55,bne_iff_ne.2 n61];rfl
  simp only [e1,e2,ak,aB,aA,mK];exact akr hl hst hil IH hS M M' ah ah r p ns ns' hn hn' hin hgt
theorem avb (hS:LV l i 2):LV l i 1:=by
 intro M M' r p ns ns' hM hM' hn hn' hp hin hgt;obtain ⟨M,rfl⟩:∃ k,M=k+1:=⟨M - 1,ah⟩
 obtain ⟨M',rfl⟩:∃ k,M'=k+2:=⟨M' - 2,ah⟩
 rw [(Ky hl hst hil IH (M'+1) p ns').1 hp];show PB l i (Dh M (aJ M) r l (i:Int) false ns) (ada M' (bW M') p l (i:Int) false ns');unfold Dh ada oP rV;simp only [ak];obtain ⟨p3,X3,j3,b3,gF,iH,e1,e2,hd⟩:=(hS M M' r ⟨2,false,p.aV,p.aW,false⟩ ns ns' ah ah hn hn' rfl hin hgt).out;have e1:(aJ M).oM r l (i:Int) false ns=some (p3,(j3:Int),b3,gF):=e1;simp only [e1,e2,ak,bI,mO];cases b3 with
 | true=>simp only [aB,ak];exact hd.pb
 | false=>
  obtain ⟨c1,c2,c3,c4⟩:=hd.2.2.2.2.2.2 rfl;have hp2:QX X3=some p3.target:=by
   have:=akq p3.tree X3.held (by have:=hd.2.1;omega);rw [<- c2] at this;rw [c3];exact this
  simp only [aA,hp2,ak,asI,asS];cases ht:p3.target with
  | false=>simp only [bY,aB,ak];exact hd.pb
  | true=>
   simp only [fE,aA,ak];cases hs3:Wq (kd l j3) with
   | false=>simp only [bY,aB];exact hd.pb
   | true=>
    have hj3:=dz (l:=l) (i:=j3) (auT hs3);have hns:=hd.2.2.1;have auY:=hd.2.2.2.1;simp only [fE,aA,ak,ow iH hj3 (show l.length<=100000 by omega) rfl];rw [wrap64 ah ah,show ((j3:Int)+1)=((j3+1:Nat):Int) by omega];obtain ⟨p4,X4,j4,b4,Ws,aks,f1,f2,hd4⟩:=(IH (j3+1) 1 ah ah aH aH M M' r ⟨1,false,p.aV,p.aW,false⟩ gF iH ah ah ah ah rfl hin hgt).out;have f1:(aJ M).ou r l ((j3+1:Nat):Int) false gF=some (p4,(j4:Int),b4,Ws):=f1;simp only [f1,f2,ak];obtain ⟨rr,r1,r2⟩:=nd2 hl (N:=M') (i:=i) ah 15 (kd l j3) rfl hd ah hd4;rw [r1,ak,ak];exact r2.pb
end
section
set_option linter.unusedSectionVars false
variable {l:List av} (hl:l.length<=3000) (hst:∀ t,t∈l->t.Text.length<=1048576) {i:Nat} (hil:i<=l.length) (IH:∀ i' lv,i < i'->i'<=l.length->1<=lv->lv<=15->LV l i' lv)
include hl hst hil IH
theorem avc (hS:LV l i 3):LV l i 2:=by
 intro M M' r p ns ns' hM hM' hn hn' hp hin hgt;obtain ⟨M,rfl⟩:∃ k,M=k+1:=⟨M - 1,ah⟩
 obtain ⟨M',rfl⟩:∃ k,M'=k+3:=⟨M' - 3,ah⟩
 rw [(Ky hl hst hil IH (M'+2) p ns').2.1 hp];show PB l i (Df M (aJ M) r l (i:Int) false ns) (acZ (M'+1) (bW<|M'+1) p l (i:Int) false ns');unfold Df acZ oP rV;simp only [ak];obtain ⟨p1,X1,j1,b1,ns1,akt,e1,e2,hd1⟩:=(hS M (M'+1) r ⟨3,false,p.aV,p.aW,false⟩ ns ns' ah ah hn hn' rfl hin hgt).out;have e1:(aJ M).xR r l (i:Int) false ns=some (p1,(j1:Int),b1,ns1):=e1;simp only [e1,e2,ak,bI,mO];cases b1 with
 | true=>simp only [aB,ak];exact hd1.pb
 | false=>
  simp only [aA,ak];by_cases dI:kd l j1=65
  .have hj1:=dz (l:=l) (i:=j1) (by rw [dI];decide);obtain ⟨a1,a2,a3,a4,a5,a6,a7⟩:=id hd1;obtain ⟨c1,c2,c3,c4⟩:=a7 rfl;have len1:X1.l.length=aU p1.tree:=by rw [c2,su]
   simp only [dI,bne_self_eq_false,aA,ow akt hj1 (show l.length<=100000 by omega) dI,ak];rw [wrap64 ah ah,show ((j1:Int)+1)=((j1+1:Nat):Int) by omega];obtain ⟨p2,X2,j2,b2,NT,Wt,f1,f2,hd2⟩:=(IH (j1+1) 2 ah ah aH aH M (M'+1) r ⟨2,false,p.aV,p.aW,false⟩ ns1 akt ah ah ah ah rfl hin hgt).out;have f1:(aJ M).oM r l ((j1+1:Nat):Int) false ns1=some (p2,(j2:Int),b2,NT):=f1;obtain ⟨u1,u2,u3,u4,u5,u6,u7⟩:=id hd2;simp only [f1,f2,ak];have stop:PB l i (some (⟨⟨0,0,[],[],[]⟩,false⟩,(j2:Int),true,NT)) (((vV (M'+1) ⟨14,0,[],[],[]⟩ [X1.l,X2.l,[]]).bind fun r2=>some (⟨r2,false⟩:cZ)).bind fun jL=>some (jL,(j2:Int),true,Wt)):=by
    obtain ⟨rr,r1,r2⟩:=Cb hl (N:=M'+1) (i:=i) (j:=j2) ah 14 0 [] aF false [] [X1.l,X2.l,[]] true NT Wt ah u2 u3 u4 (by simp only [GZ,Kn];show _+(_+(0+0))<=_;omega) aF (fun L hL=>by
     simp only [jW,aai,aaj] at hL;rcases hL with h|h|h
     .rw [h];exact a5
     .rw [h];exact u5
     .rw [h];intro x hx;cases hx) rfl (fun h=>by cases h)
    obtain ⟨p',X',j',b',n1,n2,g1,g2,hd⟩:=r2.out;rw [r1,ak,ak,g2];simp only [iI,nC,Int.natCast_inj] at g1;obtain ⟨-,rfl,rfl,rfl⟩:=g1;exact (aeh (i:=i) hd ah rfl).pb
   cases b2 with
   | true=>
    simp only [ZO,Fe,ak,aB];rw [aak];simp only [ak];exact stop
   | false=>
    by_cases ru:kd l j2=66
    .have hj2:=dz (l:=l) (i:=j2) (by rw [ru];decide);obtain ⟨v1,v2,v3,v4⟩:=u7 rfl;have len2:X2.l.length=aU p2.tree:=by rw [v2,su]
     simp only [ES NT (show j2<=100000 by omega) ru,ow Wt hj2 (show l.length<=100000 by omega) ru,ak,aA];obtain ⟨p3,X3,j3,b3,gF,iH,g1,g2,hd3⟩:=(IH (j2+1) 2 ah ah aH aH M (M'+1) r ⟨2,false,p.aV,p.aW,false⟩ NT Wt ah ah ah ah rfl hin hgt).out;have g1:(aJ M).oM r l ((j2+1:Nat):Int) false NT=some (p3,(j3:Int),b3,gF):=g1;simp only [g1,g2,ak];obtain ⟨w1,w2,w3,w4,w5,w6,w7⟩:=hd3;obtain ⟨rr,r1,r2⟩:=Cb hl (N:=M'+1) (i:=i) (j:=j3) ah 14 0 [] aF false [p1.tree,p2.tree,p3.tree] [X1.l,X2.l,X3.l] b3 gF iH ah w2 w3 w4 (by simp only [GZ];show _+(_+(_+0))<=_;omega) aF (fun L hL=>by
      simp only [jW,aai,aaj] at hL;rcases hL with h|h|h<;>subst h<;>assumption) rfl (fun hb=>by
      obtain ⟨y1,y2,y3,y4⟩:=w7 hb;refine ⟨ah,by simp [c2,v2,y2],?_⟩;simp only [bq];omega)
     rw [r1,ak,ak];exact r2
    .simp only [Rt false NT ru,Kw false Wt ru,ak,aB];rw [aak];simp only [ak];exact stop
  .have n65:(kd l j1 !=65)=true:=by simpa using dI
   simp only [n65,aB];exact hd1.pb
theorem Wu (N:Nat) (R:jD) (n:Nat) (p:aI) (ns:List av) (j:Nat) (b held:Bool) (L:List aG) (h:b=true\/p.aV=true\/kd l j≠24):
  EK N R l (n+1) (p,ns,(j:Int),b,held,L)=some (⟨L,held⟩,(j:Int),b,ns):=by
 rw [EK];cases b with
 | true=>simp only [fE,aA,ak]
 | false=>
  simp only [bY,aB,mO,ak];cases hni:p.aV with
  | true=>simp only [fE,aA,ak]
  | false=>
   have dN:kd l j≠24:=by
    rcases h with h|h|h
    .cases h
    .rw [hni] at h;cases h
    .exact h
   have n24:(kd l j==24)=false:=by simpa using dN
   simp only [bY,aB,n24,aA,ak]
theorem aku {N:Nat} (hN:1048577 < N) (R:jD) (p0:aI) (hni:p0.aV=false) {p:bQ} {X:cZ} {j:Nat} {ns:List (List UInt8)} {ns':List av} (hd:PD l i p X j false ns ns') (dN:kd l j=24):
  ∃ (nm:List UInt8) (j2:Nat) (b2:Bool) (L2:List aG),vH l (IntKind.wrap .i64<|(j:Int)+1) false ns=some (nm,(j2:Int),b2)/\
   (∀ n,EK N R l (n+1) (p0,ns',(j:Int),false,X.held,X.l)=EK N R l n (p0,ns',(j2:Int),b2,false,L2))/\
   PD l i ⟨⟨13,0,nm,[],[p.tree]⟩,false⟩ ⟨L2,false⟩ j2 b2 ns ns'/\j < j2:=by
 have hj:=dz (l:=l) (i:=j) (by rw [dN];decide);obtain ⟨a1,a2,a3,a4,a5,a6,a7⟩:=hd;obtain ⟨c1,c2,c3,c4⟩:=a7 rfl;have len1:X.l.length=aU p.tree:=by rw [c2,su]
 rw [wrap64 ah ah,show ((j:Int)+1)=((j+1:Nat):Int) by omega];have go:∀ (tk:av) (j2:Nat) (b2:Bool) (L2:List aG),kQ 6 l ((j+1:Nat):Int) false ns'=some (tk,(j2:Int),b2)->vV N ⟨13,0,tk.Text,[],[]⟩ [X.l]=some L2->∀ n,EK N R l (n+1) (p0,ns',(j:Int),false,X.held,X.l)=EK N R l n (p0,ns',(j2:Int),b2,false,L2):=fun tk j2 b2 L2 ht hm n=>by
  rw [EK];unfold rV;simp only [bY,aB,mO,hni,dN,tZ,ak,ow ns' hj (show l.length<=100000 by omega) dN,ht,hm]
 by_cases h6:kd l (j+1)=6
 .have hj1:=dz (l:=l) (i:=j+1) (by rw [h6];decide);obtain ⟨rr,r1,r2⟩:=Cb hl (N:=N) (i:=i) (j:=j+1+1) hN 13 0 l[j+1].Text (hst _<|kE hj1) false [p.tree] [X.l] false ns ns' ah ah ah ah (by simp only [GZ];show _+0<=_;omega) aF (fun L hL=>by rw [yg.1 hL];exact a5) rfl (fun _=>⟨ah,by simp [c2],by simp only [bq];omega⟩);refine ⟨l[j+1].Text,j+1+1,false,rr,RN ns hj1 ah h6,go _ _ _ _ (ow ns' hj1 ah h6) r1,?_,ah⟩;obtain ⟨p',X',j',b',n1,n2,g1,g2,hd⟩:=r2.out;simp only [iI,nC,Int.natCast_inj] at g1 g2;obtain ⟨rfl,rfl,rfl,rfl⟩:=g1;obtain ⟨rfl,-,-,rfl⟩:=g2;exact hd
 .obtain ⟨rr,r1,r2⟩:=Cb hl (N:=N) (i:=i) (j:=j+1) hN 13 0 [] aF false [p.tree] [X.l] true ns ns' ah ah ah ah (by simp only [GZ];show _+0<=_;omega) aF (fun L hL=>by rw [yg.1 hL];exact a5) rfl (fun h=>by cases h);refine ⟨[],j+1,true,rr,akv false ns h6,go _ _ _ _ (Kw false ns' h6) r1,?_,ah⟩;obtain ⟨p',X',j',b',n1,n2,g1,g2,hd⟩:=r2.out;simp only [iI,nC,Int.natCast_inj] at g1 g2;obtain ⟨rfl,rfl,rfl,rfl⟩:=g1;obtain ⟨rfl,-,-,rfl⟩:=g2;exact hd
theorem aen {N:Nat} (hN:1048577 < N) (R:jD) (p0:aI) (hni:p0.aV=false) (ns:List (List UInt8)) (ns':List av) (lp:Nat->(Int×Bool×List UInt8×List aD)->PI)
  (H1:∀ (n j:Nat) (b:Bool) (nm:List UInt8) (ks:List aD),(b=true\/kd l j≠24)->lp (n+1) ((j:Int),b,nm,ks)=some (⟨⟨13,0,nm,[],ks⟩,false⟩,(j:Int),b,ns))
  (H2:∀ (n j:Nat) (nm:List UInt8) (ks:List aD),kd l j=24->lp (n+1) ((j:Int),false,nm,ks)=(vH l (IntKind.wrap .i64<|(j:Int)+1) false ns).bind fun q=>lp n (q.2.1,q.2.2,q.1,[⟨13,0,nm,[],ks⟩])):
  ∀ (n n' j:Nat) (b:Bool) (nm:List UInt8) (ks:List aD) (L:List aG),0 < n->0 < n'->(b=false->l.length - j < n/\l.length - j < n')->PD l i ⟨⟨13,0,nm,[],ks⟩,false⟩ ⟨L,false⟩ j b ns ns'->
   PB l i (lp n ((j:Int),b,nm,ks)) (EK N R l n' (p0,ns',(j:Int),b,false,L)):=by
 intro n;induction n with
 | zero=>intro n' j b nm ks L h;omega
 | succ n ih=>
  intro n' j b nm ks L _ hn' hb hd;obtain ⟨n',rfl⟩:∃ k,n'=k+1:=⟨n' - 1,ah⟩
  cases b with
  | true=>
   rw [H1 n j true nm ks<|Or.inl rfl,Wu hl hst hil IH N R n' p0 ns' j true false L<|Or.inl rfl];exact hd.pb
  | false=>
   by_cases dN:kd l j=24
   .have hj:=dz (l:=l) (i:=j) (by rw [dN];decide);obtain ⟨k1,k2⟩:=hb rfl;obtain ⟨nm2,j2,b2,L2,g1,g2,g3,g4⟩:=aku hl hst hil IH hN R p0 hni hd dN;rw [H2 n j nm ks dN,g1,ak,g2 n'];exact ih n' j2 b2 nm2 _ L2 ah ah (fun _=>ah) g3
   .rw [H1 n j false nm ks<|Or.inr dN,Wu hl hst hil IH N R n' p0 ns' j false false L<|Or.inr<|Or.inr dN];exact hd.pb
theorem ave (hS:LV l i 6):LV l i 5:=by
 intro M M' r p ns ns' hM hM' hn hn' hp hin hgt;obtain ⟨M,rfl⟩:∃ k,M=k+3:=⟨M - 3,ah⟩
 obtain ⟨M',rfl⟩:∃ k,M'=k+3:=⟨M' - 3,ah⟩
 rw [(Ky hl hst hil IH (M'+2) p ns').2.2.1 hp];show PB l i (Ai (M+2) (aJ<|M+2) r l (i:Int) false ns) (acW (M'+1) (bW<|M'+1) p l (i:Int) false ns');unfold Ai acW;have lpA:∀ (R1:((List aD)×Int×Bool×(List<|List UInt8))),r.bS=false->(∀ (n j:Nat) (b:Bool) (nm:List UInt8) (ks:List aD),(b=true\/kd l j≠24)->rQ (M+2) (aJ<|M+2) l (n+1) (r,R1,(j:Int),b,nm,ks)=some (⟨⟨13,0,nm,[],ks⟩,false⟩,(j:Int),b,R1.2.2.2))/\
   (∀ (n j:Nat) (nm:List UInt8) (ks:List aD),kd l j=24->rQ (M+2) (aJ<|M+2) l (n+1) (r,R1,(j:Int),false,nm,ks)=(vH l (IntKind.wrap .i64<|(j:Int)+1) false R1.2.2.2).bind fun q=>rQ (M+2) (aJ<|M+2) l n (r,R1,q.2.1,q.2.2,q.1,[⟨13,0,nm,[],ks⟩])):=fun R1 hno=>by
  refine ⟨fun n j b nm ks h=>?_,fun n j nm ks h=>?_⟩
  .rw [rQ];cases b with
   | true=>simp only [fE,aA,ak]
   | false=>
    have n24:(kd l j==24)=false:=by simpa using h
    simp only [bY,aB,bI,ak,n24,aA]
  .rw [rQ];simp only [bY,aB,bI,ak,h,tZ,hno]
 have lpB:∀ (R1:(bQ×Int×Bool×(List<|List UInt8))),r.bS=false->(∀ (n j:Nat) (b:Bool) (nm:List UInt8) (ks:List aD),(b=true\/kd l j≠24)->tT (M+2) (aJ<|M+2) l (n+1) (r,R1,(j:Int),b,nm,ks)=some (⟨⟨13,0,nm,[],ks⟩,false⟩,(j:Int),b,R1.2.2.2))/\
   (∀ (n j:Nat) (nm:List UInt8) (ks:List aD),kd l j=24->tT (M+2) (aJ<|M+2) l (n+1) (r,R1,(j:Int),false,nm,ks)=(vH l (IntKind.wrap .i64<|(j:Int)+1) false R1.2.2.2).bind fun q=>tT (M+2) (aJ<|M+2) l n (r,R1,q.2.1,q.2.2,q.1,[⟨13,0,nm,[],ks⟩])):=fun R1 hno=>by
  refine ⟨fun n j b nm ks h=>?_,fun n j nm ks h=>?_⟩
  .rw [tT];cases b with
   | true=>simp only [fE,aA,ak]
   | false=>
    have n24:(kd l j==24)=false:=by simpa using h
    simp only [bY,aB,bI,ak,n24,aA]
  .rw [tT];simp only [bY,aB,bI,ak,h,tZ,hno]
 have hla:∃ la:Bool,(bif (kd l i==32) then bif (!r.bS) then (Ab (M+2) l (i:Int) false ns).bind fun kV=>some kV else (some false) else (some false))=some la/\
   (bif (!p.aV) then (VD (M'+1) l (i:Int) false ns').bind fun acX=>some acX else (some false))=some la/\(la=true->kd l i=32/\r.bS=false/\kd l (i+1)≠33):=by
  rw [hin];cases hno:r.bS with
  | true=>
   refine ⟨false,?_,rfl,fun h=>by cases h⟩;cases kd l i==32<;>rfl
  | false=>
   by_cases h32:kd l i=32
   .obtain ⟨la,g1,g2,g3⟩:=avh hl (N:=M+2) (N':=M'+1) ah ah ns ns' h32;refine ⟨la,?_,?_,fun h=>⟨h32,rfl,g3 h⟩⟩
    .rw [h32,g1];rfl
    .rw [g2];rfl
   .refine ⟨false,?_,?_,fun h=>by cases h⟩
    .rw [fF.2 h32];rfl
    .unfold VD;simp only [aA,mO,ak];rw [bne_iff_ne.2 h32];rfl
 obtain ⟨la,la1,la2,la3⟩:=hla;simp only [bY,aB,bI,ak,la1,la2];cases la with
 | true=>
  obtain ⟨h32,hno,gZ⟩:=la3 rfl;have hi:=dz (l:=l) (i:=i) (by rw [h32];decide);have hni:p.aV=false:=by rw [hin];exact hno
  simp only [aB,ow ns' hi (show l.length<=100000 by omega) h32,ak];rw [wrap64 ah ah,show ((i:Int)+1)=((i+1:Nat):Int) by omega];obtain ⟨ts,Ls,j,b,ms,ms',g1,g2,g3,g4⟩:=lists hl (q:=i+1) (fun i' ha hb=>IH i' 1 ah hb aH aH) (M:=M) (M':=M') ah ah 33 1 ah aH (by
   rw [fF.2 gZ];rfl) ns ns' ah ah
  rw [g2,g3,ak,ak];obtain ⟨a1,a2,a3,a4,a5,a6,a7,a8⟩:=id g1;have stop:PB l i (some (⟨⟨0,0,[],[],[]⟩,false⟩,(j:Int),true,ms)) ((vV (M'+1) ⟨13,0,[],[],[]⟩ Ls).bind fun acY=>Rf (M'+1) (bW<|M'+1) l (p,(j:Int),true,false,ms',acY)):=by
   obtain ⟨rr,r1,r2⟩:=Cb hl (N:=M'+1) (i:=i) (j:=j) ah 13 0 [] aF false [] Ls true ms ms' ah a2 a3 a4 ah ah a5 rfl (fun h=>by cases h);obtain ⟨p',X',j',b',n1,n2,k1,k2,hd⟩:=r2.out;rw [r1,ak];unfold Rf;simp only [];rw [Wu hl hst hil IH (M'+1) _ M' p ms' j true false rr<|Or.inl rfl,k2];simp only [iI,nC,Int.natCast_inj] at k1;obtain ⟨-,rfl,rfl,rfl⟩:=k1;exact (aeh (i:=i) hd ah rfl).pb
  cases b with
  | true=>
   simp only [fE,aA,ak,Fe];exact stop
  | false=>
   simp only [bY,aB,bI,ak];by_cases dN:kd l j=24
   .have hj:=dz (l:=l) (i:=j) (by rw [dN];decide);simp only [dN,bne_self_eq_false,tZ,aB,aA,hno,bY,ow ms' hj (show l.length<=100000 by omega) dN,ak];have hne:Zc ts=some false:=by
     have:=g4 (by rw [fF.2 gZ];rfl);cases ts with
     | nil=>exact absurd rfl this
     | cons t ts=>rfl
    obtain ⟨q1,q2⟩:=lpA (ts,(j:Int),false,ms) hno;rw [hne,ak,wrap64 ah ah,show ((j:Int)+1)=((j+1:Nat):Int) by omega];unfold Rf;simp only [];obtain ⟨c1,c2⟩:=a8 rfl;by_cases h6:kd l (j+1)=6
    .have hj1:=dz (l:=l) (i:=j+1) (by rw [h6];decide);obtain ⟨rr,r1,r2⟩:=Cb hl (N:=M'+1) (i:=i) (j:=j+1+1) ah 13 0 l[j+1].Text (hst _<|kE hj1) false ts Ls false ms ms' ah ah ah ah ah ah a5 rfl (fun _=>⟨ah,c1,ah⟩);obtain ⟨p',X',j',b',n1,n2,k1,k2,hd⟩:=r2.out;simp only [iI,nC,Int.natCast_inj] at k1 k2;obtain ⟨rfl,rfl,rfl,rfl⟩:=k1;obtain ⟨rfl,-,-,rfl⟩:=k2;simp only [RN ms hj1 (show l.length<=100000 by omega) h6,ow ms' hj1 (show l.length<=100000 by omega) h6,ak,r1];exact aen hl hst hil IH (N:=M'+1) ah (bW<|M'+1) p hni ms ms' (fun n s=>rQ (M+2) (aJ<|M+2) l n (r,(ts,(j:Int),false,ms),s)) q1 q2 (M+2) (M'+1) (j+1+1) false l[j+1].Text ts rr ah ah (fun _=>ah) hd
    .obtain ⟨rr,r1,r2⟩:=Cb hl (N:=M'+1) (i:=i) (j:=j+1) ah 13 0 [] aF false ts Ls true ms ms' ah ah ah ah ah ah a5 rfl (fun h=>by cases h);obtain ⟨p',X',j',b',n1,n2,k1,k2,hd⟩:=r2.out;simp only [iI,nC,Int.natCast_inj] at k1 k2;obtain ⟨rfl,rfl,rfl,rfl⟩:=k1;obtain ⟨rfl,-,-,rfl⟩:=k2;simp only [akv false ms h6,Kw false ms' h6,ak,r1];exact aen hl hst hil IH (N:=M'+1) ah (bW<|M'+1) p hni ms ms' (fun n s=>rQ (M+2) (aJ<|M+2) l n (r,(ts,(j:Int),false,ms),s)) q1 q2 (M+2) (M'+1) (j+1) true [] ts rr ah ah (fun h=>by cases h) hd
   .have n24:(kd l j !=24)=true:=by simpa using dN
    unfold Gv;simp only [n24,aB,ak,Kw false ms' dN,Fe];exact stop
 | false=>
  simp only [aA];unfold oP Rf;rw [ak];obtain ⟨q,X,j,b,ms,ms',e1,e2,hd⟩:=(hS (M+2) (M'+1) r ⟨6,false,p.aV,p.aW,false⟩ ns ns' ah ah hn hn' rfl hin hgt).out;have e1:(aJ<|M+2).xP r l (i:Int) false ns=some (q,(j:Int),b,ms):=e1;simp only [e1,e2,ak,bI];cases b with
  | true=>
   simp only [fE,aA,ak];rw [Wu hl hst hil IH (M'+1) _ M' p ms' j true X.held X.l<|Or.inl rfl];exact hd.pb
  | false=>
   simp only [bY,aB];by_cases hgo:kd l j=24/\r.bS=false
   .obtain ⟨dN,hno⟩:=hgo;have hj:=dz (l:=l) (i:=j) (by rw [dN];decide);have hni:p.aV=false:=by rw [hin];exact hno
    obtain ⟨nm,j2,b2,L2,k1,k2,k3,k4⟩:=aku hl hst hil IH (N:=M'+1) ah (bW<|M'+1) p hni hd dN;simp only [dN,hno,tZ,bY,aB,ak,k1];rw [k2 M'];obtain ⟨q1,q2⟩:=lpB (q,(j:Int),false,ms) hno;exact aen hl hst hil IH (N:=M'+1) ah (bW<|M'+1) p hni ms ms' (fun n s=>tT (M+2) (aJ<|M+2) l n (r,(q,(j:Int),false,ms),s)) q1 q2 (M+2) M' j2 b2 nm [q.tree] L2 ah ah (fun _=>ah) k3
   .have e:(bif kd l j==24 then some !r.bS else some false)=some false:=by
     by_cases dN:kd l j=24
     .have:r.bS=true:=by
       cases h:r.bS with
       | true=>rfl
       | false=>exact absurd ⟨dN,h⟩ hgo
      rw [dN,this];rfl
     .rw [fF.2 dN];rfl
    simp only [e,ak,aA];rw [Wu hl hst hil IH (M'+1) _ M' p ms' j false X.held X.l (Or.inr (by
     by_cases dN:kd l j=24
     .refine Or.inl ?_;rw [hin];cases h:r.bS with
      | true=>rfl
      | false=>exact absurd ⟨dN,h⟩ hgo
     .exact Or.inr dN))]
    exact hd.pb
theorem avl:∀ lv,1<=lv->lv<=15->LV l i lv:=by
 have ug:=auV hl hst hil IH;have jN:=auW hl hst hil IH;have zG:=auX hl hst hil IH jN;have h12:=auZ hl hst hil IH zG;have h11:=ava hl hst hil IH zG;have ih:∀ lv,1<=lv->lv<=15->∀ i',i < i'->i'<=l.length->LV l i' lv:=fun lv a b i' c d=>IH i' lv c d a b;have h10:=auB hl (ih 11 aH aH) h11;have h9:=auC hl (ih 10 aH aH) h10;have h8:=auD hl (ih 9 aH aH) h9;have h7:=auG hl (ih 8 aH aH) h8;have h6:=auH hl (ih 7 aH aH) h7;have h5:=ave hl hst hil IH h6;have h4:=auF hl (ih 5 aH aH) h5;have h3:=auE hl (ih 4 aH aH) h4;have h2:=avc hl hst hil IH h3;have h1:=avb hl hst hil IH h2;intro lv a b
 match lv,a,b with
 | 1,_,_=>exact h1
 | 2,_,_=>exact h2
 | 3,_,_=>exact h3
 | 4,_,_=>exact h4
 | 5,_,_=>exact h5
 | 6,_,_=>exact h6
 | 7,_,_=>exact h7
 | 8,_,_=>exact h8
 | 9,_,_=>exact h9
 | 10,_,_=>exact h10
 | 11,_,_=>exact h11
 | 12,_,_=>exact h12
 | 13,_,_=>exact zG
 | 14,_,_=>exact jN
 | 15,_,_=>exact ug
end
def levels {l:List av} (hl:l.length<=3000) (hst:∀ t,t∈l->t.Text.length<=1048576):∀ (d i:Nat),l.length - i=d->i<=l.length->∀ lv,1<=lv->lv<=15->LV l i lv:=by
 intro d;induction d using Nat.strongRecOn with
 | _ d ih=>
  intro i hd hi;exact avl hl hst hi fun i' lv a b c e=>ih (l.length - i') ah i' rfl b lv c e
def avm (l:List av) (hl:l.length<=3000) (N N':Nat):∀ (n n' i d:Nat),l.length - i < n->l.length - i < n'->d<=i->
  ∃ r:Int,zi N n (l,(d:Int),(i:Int))=some r/\xk N' n' (l,(d:Int),(i:Int))=some r/\(r= -1\/∃ k:Nat,r=(k:Int)/\k < l.length):=by
 intro n;induction n with
 | zero=>intro n' i d h;omega
 | succ n ih=>
  intro n' i d hn hn' hd;obtain ⟨n',rfl⟩:∃ k,n'=k+1:=⟨n' - 1,ah⟩
  rw [zi,xk];by_cases hi:i < l.length
  .simp only [fO hi,aB,bJ hi,ak,NU,RO,Wv];have next:∀ d':Nat,d'<=i+1->∃ r:Int,Gt N (zi N n) ((i:Int),l,(d':Int))=some r/\Ji N' (xk N' n') (l,(i:Int),(d':Int))=some r/\(r= -1\/∃ k:Nat,r=(k:Int)/\k < l.length):=fun d' hd'=>by
    unfold Gt Ji;simp only [];cases decide ((d':Int) > 40) with
    | true=>exact ⟨_,rfl,rfl,Or.inr ⟨i,rfl,hi⟩⟩
    | false=>
     simp only [aA];rw [wrap64 ah ah,show ((i:Int)+1)=((i+1:Nat):Int) by omega];exact ih n' (i+1) d' ah ah hd'
   cases ho:dD l[i].Kind with
   | true=>
    obtain ⟨o1,_⟩:=Kg ho;simp only [o1,aB,aA];unfold Ga;simp only [bJ hi,ak,Kz,ho,aB];rw [wrap64 ah ah,show ((d:Int)+1)=((d+1:Nat):Int) by omega];exact next (d+1) ah
   | false=>
    simp only [aA];cases hc:dF l[i].Kind with
    | true=>
     simp only [aB];unfold Ga;simp only [bJ hi,ak,Kz,ho,aA];rw [wrap64 ah ah];have e1:(if 0 > (d:Int) - 1 then 0 else (d:Int) - 1)=((d - 1:Nat):Int):=by split<;>omega
     have e2:(if (d:Int) - 1 > 0 then (d:Int) - 1 else 0)=((d - 1:Nat):Int):=by split<;>omega
     rw [e1,e2];exact next (d - 1) ah
    | false=>
     simp only [aA];unfold Ga;simp only [bJ hi,ak,Kz,ho,aA];exact next d ah
  .simp only [gP hi,aA];exact ⟨-1,rfl,rfl,Or.inl rfl⟩
def aeo (l:List av) (hl:l.length<=3000) (j:Nat):∃ v,MQ l (j:Int)=some v/\∀ k,VA l (j:Int) k=some ⟨k,v⟩:=by
 unfold MQ VA;by_cases h:j < l.length
 .simp only [fO h,aB,bJ h,ak];exact ⟨_,rfl,fun k=>rfl⟩
 .simp only [gP h,aA];by_cases h0:l.length=0
  .have e:((l.length:Int)==0)=true:=by rw [iG];omega
   simp only [e,aB];exact ⟨_,rfl,fun k=>rfl⟩
  .have e:((l.length:Int)==0)=false:=by rw [fF];omega
   have h1:l.length - 1 < l.length:=ah;have w:IntKind.wrap .i64 ((l.length:Int) - 1)=((l.length - 1:Nat):Int):=by rw [wrap64 ah ah];omega
   simp only [e,aA,w,bJ h1,ak];exact ⟨_,rfl,fun k=>rfl⟩
def avn (p:aI):∃ b,CG p=some b/\MN p=some b/\(b=true->(∃ lv:Nat,p.Level=(lv:Int)/\1<=lv/\lv<=15)/\(p.jo=true->p.Level=14)):=by
 have e:MN p=CG p:=rfl;rw [e];unfold CG;simp only [Dl,ak];by_cases h:1<=p.Level/\p.Level<=15
 .have h1:(decide (p.Level>=1)&&decide (p.Level<=15))=true:=bZ;rw [h1,aB];cases hd:p.jo with
  | false=>exact ⟨true,rfl,rfl,fun _=>⟨⟨p.Level.toNat,ah,ah,ah⟩,fun h=>by cases h⟩⟩
  | true=>exact ⟨p.Level==14,rfl,rfl,fun hb=>⟨⟨p.Level.toNat,ah,ah,ah⟩,fun _=>by simpa using hb⟩⟩
 .have h1:(decide (p.Level>=1)&&decide (p.Level<=15))=false:=by
   rw [NH,decide_eq_false_iff_not,decide_eq_false_iff_not];omega
  rw [h1];exact ⟨false,rfl,rfl,fun h=>by cases h⟩
def avo {l:List av} (N:Nat) (p:aI) {lv:Nat} (hp:p.Level=(lv:Int)) (h1:1<=lv) (ug:lv<=15) (ns:List (List UInt8)) (hsg:(p.eZ&&!yj (kd l 0))=false) (hdl:(p.jo&&wB (kd l 0))=false):
  zo N p l ((0:Nat):Int) false ns=IL lv (aJ N) ⟨p.aV,p.aW⟩ l ((0:Nat):Int) false ns:=by
 unfold zo;simp only [bI,Wo,stI,ak];have e1:(bif p.eZ then some (!yj (kd l 0)) else some false)=some false:=by
  revert hsg;cases p.eZ<;>cases yj (kd l 0)<;>simp
 have e2:(bif p.jo then some (wB<|kd l 0) else some false)=some false:=by
  revert hdl;cases p.jo<;>cases wB (kd l 0)<;>simp
 simp only [e1,e2,ak,aA,hp,mK]
 match lv,h1,ug with
 | 1,_,_=>rfl
 | 2,_,_=>rfl
 | 3,_,_=>rfl
 | 4,_,_=>rfl
 | 5,_,_=>rfl
 | 6,_,_=>rfl
 | 7,_,_=>rfl
 | 8,_,_=>rfl
 | 9,_,_=>rfl
 | 10,_,_=>rfl
 | 11,_,_=>rfl
 | 12,_,_=>rfl
 | 13,_,_=>rfl
 | 14,_,_=>rfl
 | 15,_,_=>rfl
def avp (N:Nat) (l:List av) (p:aI) (hN:2000000 < N) (hs:∀ t,t∈l->t.Text.length<=1048576):
  ∃ (L:List aG) (j:Nat) (f:iU),aiJ N l p=some (L,(j:Int),f)/\BQ N l p=some (L,(j:Int),f)/\L.length<=400/\(∀ x,x∈L->mD x)/\(f=⟨0,0⟩\/f.Kind≠0/\L=[])/\(f=⟨0,0⟩->l.length<=3000):=by
 unfold aiJ BQ;have nil:∀ x:aG,x∈([]:List aG)->mD x:=fun x h=>by cases h
 obtain ⟨b1,p1,p2,p3⟩:=avn p;simp only [p1,p2,ak];cases b1 with
 | false=>exact ⟨[],0,⟨3,0⟩,rfl,rfl,aF,nil,Or.inr ⟨aF,rfl⟩,fun h=>by cases h⟩
 | true=>
  obtain ⟨⟨lv,hlv,h1,ug⟩,avq⟩:=p3 rfl;unfold MR;obtain ⟨b2,t1,t2,t3⟩:=aiZ N l ah hs;simp only [t1,t2,fE,aA,ak];cases b2 with
  | false=>exact ⟨[],0,⟨2,0⟩,rfl,rfl,aF,nil,Or.inr ⟨aF,rfl⟩,fun h=>by cases h⟩
  | true=>
   have hl:=t3 rfl;obtain ⟨r,r1,r2,r3⟩:=avm l hl N N N N 0 0 ah ah ah;have r1':Vp N l=some r:=r1;have r2':Ql N l=some r:=r2;simp only [r1',r2',fE,aA,ak];rcases r3 with rfl|⟨k,rfl,hk⟩
   .have hneg:decide ((-1:Int)>=0)=false:=aH;simp only [hneg,aA,ak];have hz:(!(((⟨0,0⟩:iU).Kind==0)&&(((⟨0,0⟩:iU).At==0)&&true)))=false:=rfl;simp only [hz,aA];have avr:(bif p.eZ then bif ((l.length:Int)==0) then some true else ((ix l 0).bind fun e25=>(Er e25.Kind).bind fun jr=>some<|!jr) else (some false))=some (p.eZ&&!yj (kd l 0)):=by
     cases p.eZ with
     | false=>rfl
     | true=>
      rw [aB,iF];by_cases h0:l.length=0
      .have e:((l.length:Int)==0)=true:=by rw [iG];omega
       have e2:kd l 0=0:=by unfold kd;rw [vW ah];rfl
       rw [e,e2];rfl
      .have e:((l.length:Int)==0)=false:=by rw [fF];omega
       have h0':0 < l.length:=ah;have hx:ix l (0:Int)=some l[0]:=bJ (i:=0) h0';rw [e,aA,hx,ak,bgS,ak,iQ h0']
    rw [avr,ak];cases hsg:(p.eZ&&!yj (kd l 0)) with
    | true=>
     obtain ⟨v,v1,v2⟩:=aeo l hl 0;have aao:zo N p l ((0:Nat):Int) false []=some (⟨⟨0,0,[],[],[]⟩,false⟩,((0:Nat):Int),true,[]):=by
      unfold zo Gv;simp only [bI,Wo,ak];have e1:(bif p.eZ then some (!yj (kd l 0)) else some false)=some true:=by
       revert hsg;cases p.eZ<;>cases yj (kd l 0)<;>simp
      simp only [e1,ak,aB]
     have v2':=v2 3;rw [show ((0:Nat):Int)=0 from rfl] at v1 v2' aao;simp only [aB,v2',ak,aao,v1];exact ⟨[],0,⟨3,v⟩,rfl,rfl,aF,nil,Or.inr ⟨aF,rfl⟩,fun h=>by cases h⟩
    | false=>
     simp only [aA];have hk0:kP l 0 false []=some (kd l 0):=mO l 0 false [];have hd:(bif p.jo then (kP l 0 false []).bind fun mW=>(Nn mW).bind fun FU=>some FU else (some false))=some (p.jo&&wB (kd l 0)):=by
      cases p.jo with
      | false=>rfl
      | true=>rw [aB,hk0,ak,stS];rfl
     rw [hd,ak];have IH0:∀ i' lv,0 < i'->i'<=l.length->1<=lv->lv<=15->LV l i' lv:=fun i' lv _ b c d=>levels hl hs (l.length - i') i' rfl b lv c d;have core:∃ y,(bif (p.jo&&wB (kd l 0)) then JW N p l 0 false [] else jv N p l 0 false [])=y/\PB l 0 (zo N p l ((0:Nat):Int) false []) y:=by
      refine ⟨_,rfl,?_⟩;cases hdl:(p.jo&&wB (kd l 0)) with
      | true=>
       rw [dA] at hdl;have jN:p.Level=14:=avq hdl.1;have aao:zo N p l ((0:Nat):Int) false []=(aJ N).tQ l ((0:Nat):Int) false []:=by
        unfold zo;simp only [bI,Wo,stI,ak];have e1:(bif p.eZ then some (!yj (kd l 0)) else some false)=some false:=by
         revert hsg;cases p.eZ<;>cases yj (kd l 0)<;>simp
        simp only [e1,ak,aA,jN,Int.reduceBEq,aB,hdl.1,hdl.2,mK];rfl
       rw [aao,aB];exact ael hl hs (i:=0) ah IH0 hdl.2 p N N ah ah [] [] aF aF
      | false=>
       rw [avo N p hlv h1 ug [] hsg hdl,aA];exact levels hl hs (l.length - 0) 0 rfl ah lv h1 ug N N ⟨p.aV,p.aW⟩ p [] [] ah ah aF aF hlv rfl rfl
     obtain ⟨y,y1,y2⟩:=core;obtain ⟨q,X,j,b,ns,ns',e1,e2,hd2⟩:=y2.out;have hsp:(bif (p.jo&&wB (kd l 0)) then (JW N p l 0 false []).bind fun nW=>Ri N (l,nW.2.1,nW.2.2.1,nW.1.held,nW.2.2.2,nW.1.l) else ((jv N p l 0 false []).bind fun Dj=>Ri N (l,Dj.2.1,Dj.2.2.1,Dj.1.held,Dj.2.2.2,Dj.1.l)))=Ri N (l,(j:Int),b,X.held,ns',X.l):=by
      rw [e2] at y1;revert y1;cases (p.jo&&wB (kd l 0))<;>intro y1
      .rw [aA] at y1 ⊢;rw [y1];rfl
      .rw [aB] at y1 ⊢;rw [y1];rfl
     rw [show ((0:Nat):Int)=0 from rfl] at e1;rw [hsp,e1,ak];unfold Ri;simp only [];cases b with
     | true=>
      obtain ⟨v,v1,v2⟩:=aeo l hl j;simp only [aB,v1,v2,ak];exact ⟨[],0,⟨3,v⟩,rfl,rfl,aF,nil,Or.inr ⟨aF,rfl⟩,fun h=>by cases h⟩
     | false=>
      obtain ⟨a1,a2,a3,a4,a5,a6,a7⟩:=hd2;obtain ⟨c1,c2,c3,c4⟩:=a7 rfl;have hsz:=ajk q.tree N ah ah;have hsz':zq N q.tree=some (aU q.tree:Int):=hsz;have hlen:X.l.length=aU q.tree:=by rw [c2,su]
      simp only [aA];unfold QT aiI;simp only [hsz',hlen,ak];by_cases h4:aU q.tree<=400
      .have g1:decide ((aU q.tree:Int) > 400)=false:=bZ;have avt:=adH q.tree N ah ah;have avu:tL N q.tree=some (iW q.tree:Int):=avt;have hsm:∀ x,x∈dQ 0 q.tree->mD x:=fun x hx=>by
        rw [<- c2] at hx;obtain ⟨s1,s2,s3⟩:=a5 x hx;exact ⟨s2,s3,ah⟩
       have hds:=adD N (dQ 0 q.tree) ah hsm (avv q.tree h4) (akx q.tree);have RP:=adI N q.tree ah ah;simp only [g1,aA,avu,c2,hds,ak,RP];cases decide ((iW q.tree:Int) > 40) with
       | true=>exact ⟨[],0,⟨4,0⟩,rfl,rfl,aF,nil,Or.inr ⟨aF,rfl⟩,fun h=>by cases h⟩
       | false=>exact ⟨dQ 0 q.tree,j,⟨0,0⟩,rfl,rfl,by rw [su];exact h4,hsm,Or.inl rfl,fun _=>hl⟩
      .have g1:decide ((aU q.tree:Int) > 400)=true:=bZ;simp only [g1,aB,ak];exact ⟨[],0,⟨1,0⟩,rfl,rfl,aF,nil,Or.inr ⟨aF,rfl⟩,fun h=>by cases h⟩
   .have hpos:decide ((k:Int)>=0)=true:=aF;obtain ⟨v,v1,v2⟩:=aeo l hl k;simp only [hpos,aB,v1,v2,ak];exact ⟨[],0,⟨4,v⟩,rfl,rfl,aF,nil,Or.inr ⟨aF,rfl⟩,fun h=>by cases h⟩
def avw (N:Nat) (l:List av) (hl:l.length<=3000) (hN:3000 < N):∃ r:Bool,ML N l=some r/\(r=false->∀ k,kd l k≠2):=by
 have key:∀ (n i:Nat),l.length - i < n->i<=l.length->∃ r:Int,EA N n (l,(i:Int))=some r/\(r < 0->∀ k,i<=k->kd l k≠2):=by
  intro n;induction n with
  | zero=>intro i h;omega
  | succ n ih=>
   intro i hn hi;rw [EA];by_cases h:i < l.length
   .rw [fO h,aB,bJ h,ak];unfold Vk;rw [ak];cases h2:(l[i].Kind==2) with
    | true=>exact ⟨(i:Int),rfl,fun h=>ah⟩
    | false=>
     rw [aA,wrap64 ah ah,show (i:Int)+1=((i+1:Nat):Int) by omega];obtain ⟨r,r1,r2⟩:=ih (i+1) ah ah;refine ⟨r,r1,fun hr k hk=>?_⟩;by_cases e:k=i
     .subst e;rw [iQ h];simpa using h2
     .exact r2 hr k ah
   .rw [gP h,aA];refine ⟨-1,rfl,fun _ k hk=>?_⟩;unfold kd;rw [vW ah];decide
 obtain ⟨r,r1,r2⟩:=key N 0 ah ah;unfold ML Vl;rw [show ((0:Nat):Int)=0 from rfl] at r1;rw [r1,ak];exact ⟨_,rfl,fun h k=>r2 (by have:=ajg h;omega) k ah⟩
def avx (N:Nat) (hN:2000000 < N) (l:List av) (hs:∀ t,t∈l->Ke t) (x:List aG) (hx:∀ y,y∈x->mD y) (hxl:x.length<=1048576) (p:aI) (c:Bool) (hc:MK N x=some c):∃ r,JQ N l x p=some r/\(r=true->c=true/\l.length<=400/\(∀ k,kd l k≠2)/\BQ N l p=some (x,(l.length:Int),⟨0,0⟩)):=by
 unfold JQ;rw [hc,ak];cases c with
 | false=>exact ⟨false,rfl,fun h=>by cases h⟩
 | true=>
  rw [fE,aA];by_cases h4:l.length<=400
  .rw [lG (show¬(l.length:Int) > 400 by omega),aA];obtain ⟨r,r1,r2⟩:=avw N l ah ah;rw [r1,ak,ak];cases r with
   | true=>exact ⟨false,rfl,fun h=>by cases h⟩
   | false=>
    rw [aA];obtain ⟨L,j,f,_,p2,p3,p4,p5,_⟩:=avp N l p hN hs;have hw:Nj N l p=some (L,(f.Kind==0)&&((j:Int)==(l.length:Int)))\/Nj N l p=some (L,false)/\f.Kind≠0:=by
     unfold Nj;rw [p2,ak];rcases p5 with rfl|⟨hg,_⟩
     .exact .inl rfl
     .have e:(f.Kind==0)=false:=by simpa using hg
      refine .inr ⟨?_,hg⟩;dsimp only;rw [e];rfl
    have hsame:QV N L x=some (decide<|L=x):=by
     rw [ajo];exact aji N L x ah ah fun y hy=>(p4 y hy).2.2
    rcases hw with hw|⟨hw,_⟩
    .rw [hw,ak];dsimp only;cases hb:((f.Kind==0)&&((j:Int)==(l.length:Int))) with
     | false=>exact ⟨false,rfl,fun h=>by cases h⟩
     | true=>
      rw [aB,hsame,ak,ak];refine ⟨_,rfl,fun h=>⟨rfl,h4,?_⟩⟩;have hLx:L=x:=qb h;subst hLx;simp only [dA,iG] at hb;have hf:f=⟨0,0⟩:=by
       rcases p5 with h|h
       .exact h
       .exact absurd hb.1 h.1
      rw [hf,hb.2] at p2;exact ⟨r2 rfl,p2⟩
    .rw [hw,ak];exact ⟨false,rfl,fun h=>by cases h⟩
  .rw [gN (show (l.length:Int) > 400 by omega),aB];exact ⟨false,rfl,fun h=>by cases h⟩
def avz (N:Nat) (hN:2000000 < N) (l:List av) (x:List aG) (p:aI) (hx:x.length<=400) (hall:∀ i:Nat,i < x.length->∃ (u:aD) (s:Nat),TA x u s i/\aU u<=400):∃ ns:List Int,Jw N N (l,x,p,0,[])=((gX N ⟨l,x,ns⟩ (IntKind.wrap .i64<|(x.length:Int) - 1) 0 (l.length:Int) p).bind fun r=>some r)/\∀ (i:Nat) (u:aD) (s:Nat),TA x u s i->aU u<=400->ns[i]?=some (yl u:Int):=by
 have key:∀ (n i:Nat) (ns:List Int),x.length - i < n->i<=x.length->ns.length=i->(∀ (k:Nat) (u:aD) (s:Nat),k < i->TA x u s k->aU u<=400->ns[k]?=some (yl u:Int))->∃ ns':List Int,Jw N n (l,x,p,(i:Int),ns)=((gX N ⟨l,x,ns'⟩ (IntKind.wrap .i64<|(x.length:Int) - 1) 0 (l.length:Int) p).bind fun r=>some r)/\∀ (i:Nat) (u:aD) (s:Nat),TA x u s i->aU u<=400->ns'[i]?=some (yl u:Int):=by
  intro n;induction n with
  | zero=>intro i ns h;omega
  | succ n ih=>
   intro i ns hn hi hns hk;rw [Jw];by_cases h:i < x.length
   .obtain ⟨u,s,hT,hz⟩:=hall i h;obtain ⟨L,l1,l2⟩:=ajG x u s i hT hz N ah;have l1:Bv N x (i:Int)=some L:=l1;rw [fO h,aB,l1,ak,mH bZ,ak,wrap64 ah ah,show (i:Int)+1=((i+1:Nat):Int) by omega];refine ih (i+1) (ns++[(L.length:Int)]) ah ah bZ fun k v s' hkk hv hvz=>?_;by_cases e:k < i
    .rw [sw ah];exact hk k v s' e hv hvz
    .have e:k=i:=ah;subst e;obtain ⟨L',q1,q2⟩:=ajG x v s' k hv hvz N ah;have q1:Bv N x (k:Int)=some L':=q1;rw [l1] at q1;cases q1;rw [<- hns,qB<|dK _,RG,<- q2];rfl
   .rw [gP h,aA];exact ⟨ns,rfl,fun k u s hT hz=>hk k u s (by
     obtain ⟨m,m1,_⟩:=hT.node;have:=(dV.1 m1).1;omega) hT hz⟩
 exact key N 0 [] ah ah rfl fun k u s h=>by omega
def avA (N:Nat) (l:List av) (hl:l.length<=3000) (hN:3000 < N) (p:aI) (b:Bool) (hb:Gr N l=some b) (x:List aG) (j:Int) (h:BQ N l p=some (x,j,⟨0,0⟩)):posB p=true/\b=true/\jM 0 l=true:=by
 unfold BQ at h;rw [adG,ak] at h;cases hp:posB p with
 | false=>
  rw [hp,bY,aB] at h;exact absurd (congrArg (fun r:List aG×Int×iU=>r.2.2.Kind)<|iV h) (show (3:Int)≠0 by decide)
 | true=>
  rw [hp,fE,aA] at h;cases b with
  | false=>
   unfold MR at h;rw [hb] at h;simp only [ak,bY,aB] at h;exact absurd (congrArg (fun r:List aG×Int×iU=>r.2.2.Kind)<|iV h) (show (2:Int)≠0 by decide)
  | true=>
   obtain ⟨c,c1,c2,c3⟩:=ajl N l hl hN hb;rw [c1,ak] at h;cases hn:jM 0 l with
   | true=>exact ⟨rfl,rfl,rfl⟩
   | false=>
    have e:(c.Kind==0)=false:=by rw [c3 hn];rfl
    rw [e] at h;simp only [tY,bY,aB] at h;have:=congrArg (fun r:List aG×Int×iU=>r.2.2.Kind) (iV h);dsimp only at this;rw [c3 hn] at this;exact absurd this aH
def avB {a:List aG}:∀ (t:aD) (s i:Nat),TA a t s i->∀ j,s<=j->j<=i->∃ (u:aD) (s':Nat),TA a u s' j:=by
 intro t;induction t using EO with
 | h t ih=>
  intro s i hT j h1 h2;by_cases e:j=i
  .subst e;exact ⟨t,s,hT⟩
  obtain ⟨n,_,_,_,_,_,hk,_⟩:=hT.node;have key:∀ (ts:List aD) (ks:List Int) (s e:Nat),(∀ k,k∈ts->k∈t.kids)->KA a ts ks s e->s<=j->j < e->∃ (u:aD) (s':Nat),TA a u s' j:=by
   intro ts;induction ts with
   | nil=>
    intro ks s e _ h h1 h2;rw [KA] at h;omega
   | cons v vs ihv=>
    intro ks s e hm h h1 h2;rw [KA] at h;obtain ⟨k,ks',_,g1,g2,g3,g4⟩:=h;by_cases hj:j<=k
    .exact ih v (hm v aF) s k g3 j h1 hj
    .exact ihv ks' (k+1) e (fun k hk=>hm k<|by simp [hk]) g4 ah h2
  exact key t.kids n.Kids s i (fun k h=>h) hk h1 ah
def avD {a:List aG}:∀ (t u:aD) (s i:Nat),TA a t s i->∀ s',TA a u s' i->t=u:=by
 intro t;induction t using EO with
 | h t ih=>
  intro u s i hT s' hU;obtain ⟨n,hn,a1,a2,a3,a4,hk,hkl⟩:=hT.node;obtain ⟨m,hm,b1,b2,b3,b4,hk',hkl'⟩:=hU.node;rw [hn] at hm;cases hm;have hkk:t.kids=u.kids:=by
   apply List.ext_getElem?;intro q;by_cases hq:q < t.kids.length
   .have e1:t.kids[q]?=some (t.kids[q]'hq):=fZ hq;have hq':q < u.kids.length:=ah;have e2:u.kids[q]?=some (u.kids[q]'hq'):=fZ hq';obtain ⟨k,s1,g1,g2,_⟩:=hk.get q _ e1;obtain ⟨k',s2,g3,g4,_⟩:=hk'.get q _ e2;rw [g1] at g3;have:k=k':=by have:=iV g3;omega
    subst this;rw [e1,e2,ih _ (kE hq) _ s1 k g2 s2 g4]
   .rw [vW ah,vW ah]
  obtain ⟨k,o,x,y,ks⟩:=t;obtain ⟨k',o',x',y',ks'⟩:=u;dsimp only at*;rw [a1,a2,a3,a4,b1,b2,b3,b4,hkk]
def avE (N:Nat) (hN:3000000<=N) (l:List av) (hs:∀ t,t∈l->Ke t) (x:List aG) (hx:∀ y,y∈x->mD y) (hxl:x.length<=1048576) (p:aI):∃ r,UC N l x p=some r/\JQ N l x p=some r:=by
 obtain ⟨b,t1,t2,t3⟩:=aiZ N l ah hs;obtain ⟨c,c1,c2,c3⟩:=asv N x ah hx;obtain ⟨r,r1,r2⟩:=avx N ah l hs x hx hxl p c c2;have all:r=true->b=true/\c=true/\posB p=true/\l.length<=400/\jM 0 l=true:=fun h=>by
  obtain ⟨g1,g2,g3,g4⟩:=r2 h;obtain ⟨q1,q2,q3⟩:=avA N l ah ah p b t2 x _ g4;exact ⟨q2,g1,q1,g2,q3⟩
 have no: ¬(b=true/\c=true/\posB p=true/\l.length<=400/\jM 0 l=true)->r=false:=fun h=>by
  cases r with
  | false=>rfl
  | true=>exact absurd (all rfl) h
 refine ⟨r,?_,r1⟩;unfold UC;rw [t1,ak];cases b with
 | false=>rw [no fun h=>by cases h.1];rfl
 | true=>
  rw [fE,aA,c1,ak];cases c with
  | false=>rw [no fun h=>by cases h.2.1];rfl
  | true=>
   rw [fE,aA,aep,ak];cases hp:posB p with
   | false=>rw [no fun h=>by rw [hp] at h;cases h.2.2.1];rfl
   | true=>
    rw [fE,aA];by_cases h4:l.length<=400
    .rw [lG (show¬(l.length:Int) > 400 by omega),aA];obtain ⟨d,d1,d2,d3⟩:=arX N l ah ah;rw [d1,ak,ak];cases hn:jM 0 l with
     | false=>
      rw [gN (d3 hn).1,no fun h=>by rw [hn] at h;cases h.2.2.2.2];rfl
     | true=>
      rw [lG (show¬d>=0 by rw [d2 hn];decide),aA];obtain ⟨g1,g3⟩:=c3 rfl;have g2:yV N x=some true:=by
       have h:=c1;unfold Qk at h;obtain ⟨y,h1,h2⟩:=dn.1 h;obtain ⟨r,h3,h4⟩:=dn.1 h1;cases r with
       | true=>exact h3
       | false=>
        cases h4;cases h2
      obtain ⟨t,R⟩:=asl N x ah hx g2 g1 g3;have hxs:x.length=aU t:=by rw [R.eq,su]
      have hsz:=R.sz;have hpz:=He t;have small:∀ (u:aD) (s i:Nat),TA x u s i->aU u<=400:=fun u s i h=>by
       have h2:=h.part.2.1;obtain ⟨m,m1,_⟩:=h.node;have:=(dV.1 m1).1;omega
      obtain ⟨ns,n1,n2⟩:=avz N ah l x p ah fun i hi=>by
       obtain ⟨u,s,hu⟩:=avB t 0 _ R.ta i ah ah;exact ⟨u,s,hu,small u s i hu⟩
      have hcn:allT CN t:=akz (fun _ h=>h.1) t R.c;obtain ⟨r',a1,a2⟩:=ajU ⟨l,x,ns⟩ (by show l.length<=3000;omega) (fun u s i hT _ _=>n2 i u s hT<|small u s i hT) N N (dK _) t 0 (x.length - 1) 0 l.length p R.ta R.g hcn hp ah (dK _) (by unfold fB;omega);have a1:gX N ⟨l,x,ns⟩ ((x.length - 1:Nat):Int) 0 (l.length:Int) p=some r':=a1;rw [n1,wrap64 ah ah,show (x.length:Int) - 1=((x.length - 1:Nat):Int) by omega,a1,ak];congr 1;cases r with
      | true=>
       obtain ⟨_,_,q3,q4⟩:=r2 rfl;obtain ⟨t',h,d',e'⟩:=atF N ah l ah q3 p hp x q4;have hT':TA x t' 0 (aU t' - 1):=by
        have h:=akx t';rw [su] at h;rw [e'];exact h
       have hl':x.length=aU t':=by rw [e',su]
       have BZ:=R.ta;rw [hl'] at BZ;have:=avD t t' 0 _ BZ 0 hT';subst this;exact a2.2 ⟨h,d'⟩
      | false=>
       cases r' with
       | false=>rfl
       | true=>
        obtain ⟨h,dd⟩:=a2.1 rfl;have:=asK N ah l h4 t p hp h dd R.sz R.dep t2 hn x true c2;rw [r1,aB,<- R.eq,aji N x x ah ah fun y hy=>(hx y hy).2.2] at this;simp at this
    .rw [gN (show (l.length:Int) > 400 by omega),aB,no fun h=>h4 h.2.2.2.1];rfl
end Go.Proofs.Tryz
