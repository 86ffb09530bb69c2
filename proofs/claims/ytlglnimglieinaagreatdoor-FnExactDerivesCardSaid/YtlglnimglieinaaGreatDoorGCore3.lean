/-
 Abstract values, states, walks, part 3.
-/
import Derived.Test.YtlglnimglieinaaGreatDoorGCore2
import Derived.Laws.MakeOwn
import Derived.Laws.IdiomStrings
set_option linter.all false
namespace Go.Av
section
variable {P:Program} {G:Nat->Option (List V)}
structure Inv (ops:Array Oper) (Es:List (Bool×Eff)) (T0:List V) (H0:Hp) (L:Nat->Prop) (T:List V) (H:Hp):Prop where
 len:T.length=T0.length
 set:∀ s j o E,L j->ops[j]?=some o->o.dst=some s->Es[j]?=some E->T[s]?=(T0[s]?).map fun _=>E.2.v
 old:∀ s,(∀ j o,L j->ops[j]?=some o->o.dst≠some s)->T[s]?=T0[s]?
 top:∀ x j E,L j->Es[j]?=some E->E.2.touch x=true->(∀ j' E',L j'->Es[j']?=some E'->E'.2.touch x=true->j'<=j)->look H x=look E.2.new x
 bot:∀ x,(∀ j E,L j->Es[j]?=some E->E.2.touch x=false)->look H x=look H0 x
 has:∀ x,gV x H=true->gV x H0=true\/∃ j E,L j/\Es[j]?=some E/\gV x E.2.new=true
 aoE:∀ x,V.lC x T=true->V.lC x T0=true\/∃ j E,L j/\Es[j]?=some E/\E.2.v.has x=true
theorem aoF (ops:Array Oper) (Es:List (Bool×Eff)) (T0:List V) (H0:Hp) {L:Nat->Prop} (hL:∀ j,¬L j):Inv ops Es T0 H0 L T0 H0:=
 ⟨rfl,fun _ j _ _ h=>(hL j h).elim,fun _ _=>rfl,fun _ j _ h=>(hL j h).elim,fun _ _=>rfl,fun _ h=>.inl h,fun _ h=>.inl h⟩
theorem aoG {T:List V} {d:Option Tmp} {v:V} {s:Nat}:(fQ T d v)[s]?=if d=some s then (T[s]?).map fun _=>v else T[s]?:=by
 cases d with
 | none=>simp [fQ]
 | some t=>
  simp only [fQ,FB,iI];by_cases h:t=s
  .subst h;simp only [nI];split
   .rw [fZ ‹_›];rfl
   .rw [vW ah];rfl
  .simp [h]
theorem aEV (T:List V) (d:Option Tmp) (v:V):(fQ T d v).length=T.length:=by cases d<;>simp [fQ]
structure Fair (ops:Array Oper) (Es:List (Bool×Eff)) (T0:List V) (H0:Hp):Prop where
 len:Es.length=ops.size
 back:∀ (j:Nat) o (e:Edge),ops[j]?=some o->e∈o.after->Region.binds .any e=true->e.on < j
 fresh:∀ (j:Nat) (E:Bool×Eff) k,Es[j]?=some E->k∈E.2.N->100<=k/\V.lC k T0=false/\gV k H0=false
 pair:∀ i j,i < j->j < ops.size->agO ops (Pn ops.toList []) Es i j=true
theorem aEW {ops:Array Oper} {T0:List V} {H0:Hp} {Es:List (Bool×Eff)} (hl:Es.length=ops.size) (h:abq ops T0 H0 Es=true):Fair ops Es T0 H0:=by
 unfold abq at h;simp only [kJ,aaW,dA] at h;refine ⟨hl,fun j o e ho he hb=>?_,fun j E k hE hk=>?_,fun i j hij hj=>(h j hj).2 i hij⟩
 .have hj:j < ops.size:=(qh.1 ho).1;have h1:=(h j hj).1.1;rw [ho] at h1;simp only [Array.all_eq_true_iff_forall_mem,iX,kF] at h1;rcases h1 e he with h1|h1
  .rw [hb] at h1;cases h1
  .rw [Iq] at h1;exact h1
 .have hj:j < ops.size:=by rw [<- hl];exact (dV.1 hE).1
  have h1:=(h j hj).1.2;rw [hE] at h1;simp only [kJ,dA,kF,zQ] at h1;have:=h1 k hk;exact ⟨this.1.1,this.1.2,this.2⟩
theorem Fair.two {ops:Array Oper} {Es:List (Bool×Eff)} {T0:List V} {H0:Hp} (h:Fair ops Es T0 H0) {i j:Nat} (hij:i < j) {x y:Oper} {E F:Bool×Eff} (hx:ops[i]?=some x) (hy:ops[j]?=some y) (hE:Es[i]?=some E) (hF:Es[j]?=some F):
  (∀ d,x.dst=some d->y.dst≠some d)/\(∀ k,k∈F.2.N->E.2.v.has k=false/\gV k E.2.new=false)/\
  (((Pn ops.toList []).getD j 0).testBit i=true\/((∀ d,x.dst=some d->d∉y.looksAt ops)/\(∀ d,y.dst=some d->d∉x.looksAt ops)/\
   (∀ k,k∈F.2.R\/F.2.touch k=true->E.2.touch k=false)/\(∀ k,k∈E.2.R\/E.2.touch k=true->F.2.touch k=false)/\(∀ k,k∈E.2.N->F.2.v.has k=false/\gV k F.2.new=false))):=by
 have hp:=h.pair i j hij (qh.1 hy).1;unfold agO at hp;obtain ⟨b,E⟩:=E;obtain ⟨c,F⟩:=F;simp only [hx,hy,hE,hF,dA,iX,kJ,kF] at hp;refine ⟨fun d hd hd'=>?_,fun k hk=>hp.1.2 k hk,hp.2.imp id fun ha=>?_⟩
 .have:=hp.1.1;rw [hd,hd'] at this;simp at this
 .unfold aoD at ha;simp only [dA,kJ,kF] at ha;obtain ⟨⟨⟨⟨⟨⟨⟨⟨a1,a2⟩,a3⟩,a4⟩,a5⟩,a6⟩,a7⟩,a8⟩,a9⟩:=ha;have tc:∀ (A B:Eff),(∀ i,i∈A.C->B.touch i=false)->(∀ p,p∈A.new->B.touch p.1=false)->∀ k,A.touch k=true->B.touch k=false:=by
   intro A B h1 h2 k hk;unfold Eff.touch at hk;simp only [iX,FR] at hk;rcases hk with hk|hk
   .exact h1 k hk
   .obtain ⟨o,ho⟩:=Sr.1 hk;have hmem:∀ (A:Hp),look A k=some o->∃ p,p∈A/\p.1=k:=by
     intro A;induction A with
     | nil=>intro h;cases h
     | cons q A ih=>
      obtain ⟨j,o'⟩:=q;intro h;simp only [look] at h;split at h
      .exact ⟨(j,o'),aF,by simp_all⟩
      .obtain ⟨p,hp,e⟩:=ih h;exact ⟨p,by simp [hp],e⟩
    obtain ⟨p,hp,rfl⟩:=hmem A.new ho;exact h2 p hp
  refine ⟨fun d hd=>?_,fun d hd=>?_,fun k hk=>?_,fun k hk=>?_,fun k hk=>a9 k hk⟩
  .rw [hd] at a1;simpa using a1
  .rw [hd] at a2;simpa using a2
  .rcases hk with hk|hk
   .exact a3 k hk
   .exact tc F E a6 a8 k hk
  .rcases hk with hk|hk
   .exact a4 k hk
   .exact tc E F a5 a7 k hk
theorem IC {ops:Array Oper} {L:Nat->Prop} (hL:Down ops L) {i j:Nat} {o:Oper} (ho:ops[i]?=some o) (hd:∀ e,e∈o.after->Region.binds .any e=true->L e.on)
  (hb:((Pn ops.toList []).getD i 0).testBit j=true):L j:=
 aoC hL ops.toList [] aF aF (fun i j o hi=>by simp at hi) i j o ho hd hb
theorem Inv.same {ops:Array Oper} {Es:List (Bool×Eff)} {T0:List V} {H0:Hp} (hF:Fair ops Es T0 H0) {L M:Nat->Prop} {T T':List V} {H H':Hp} (h:Inv ops Es T0 H0 L T H) (k:Inv ops Es T0 H0 M T' H')
  (hL:Down ops L) (hM:Down ops M) {i:Nat} {o:Oper} {E:Bool×Eff} (ho:ops[i]?=some o) (hE:Es[i]?=some E) (hiL: ¬L i) (hiM: ¬M i)
  (hdL:∀ e,e∈o.after->Region.binds .any e=true->L e.on) (hdM:∀ e,e∈o.after->Region.binds .any e=true->M e.on) (Aq:∀ j,L j->j < ops.size) (aHB:∀ j,M j->j < ops.size):
  (∀ d,d∈o.looksAt ops->T[d]?=T'[d]?)/\(∀ x,x∈E.2.R\/E.2.touch x=true->look H x=look H' x)/\
  (∀ x j F,E.2.touch x=true->L j->Es[j]?=some F->F.2.touch x=true->j<=i)/\(∀ x j F,x∈E.2.R\/E.2.touch x=true->Es[j]?=some F->F.2.touch x=true->j≠i->(L j↔M j)):=by
 have hi:i < ops.size:=(qh.1 ho).1;have agQ:∀ j,j < ops.size->∃ y F,ops[j]?=some y/\Es[j]?=some F:=fun j hj=>
  ⟨_,_,lN hj,fZ<|by rw [hF.len];exact hj⟩
 have aoJ:∀ d j y,d∈o.looksAt ops->ops[j]?=some y->y.dst=some d->j≠i->(L j↔M j):=by
  intro d j y hd hy nT hne;obtain ⟨_,F,_,gL⟩:=agQ j (qh.1 hy).1;rcases aaS hne with hlt|hgt
  .rcases (hF.two hlt hy ho gL hE).2.2 with hb|hb
   .exact ⟨fun _=>IC hM ho hdM hb,fun _=>IC hL ho hdL hb⟩
   .exact absurd hd (hb.1 d nT)
  .rcases (hF.two hgt ho hy hE gL).2.2 with hb|hb
   .exact ⟨fun h=>absurd (IC hL hy (fun e he hb'=>hL j y e h hy he hb') hb) hiL,fun h=>absurd (IC hM hy (fun e he hb'=>hM j y e h hy he hb') hb) hiM⟩
   .exact absurd hd (hb.2.1 d nT)
 have Ya:∀ x j F,x∈E.2.R\/E.2.touch x=true->Es[j]?=some F->F.2.touch x=true->j≠i->((L j↔M j)/\(L j->j<=i)/\(M j->j<=i)):=by
  intro x j F hx gL ht hne;have hj:j < ops.size:=by rw [<- hF.len];exact (dV.1 gL).1
  obtain ⟨y,_,hy,_⟩:=agQ j hj;rcases aaS hne with hlt|hgt
  .refine ⟨?_,fun _=>ah,fun _=>ah⟩;rcases (hF.two hlt hy ho gL hE).2.2 with hb|hb
   .exact ⟨fun _=>IC hM ho hdM hb,fun _=>IC hL ho hdL hb⟩
   .have:=hb.2.2.1 x hx;rw [ht] at this;cases this
  .rcases (hF.two hgt ho hy hE gL).2.2 with hb|hb
   .have n1: ¬L j:=fun h=>hiL (IC hL hy (fun e he hb'=>hL j y e h hy he hb') hb);have n2: ¬M j:=fun h=>hiM (IC hM hy (fun e he hb'=>hM j y e h hy he hb') hb);exact ⟨⟨fun h=>absurd h n1,fun h=>absurd h n2⟩,fun h=>absurd h n1,fun h=>absurd h n2⟩
   .have:=hb.2.2.2.1 x hx;rw [ht] at this;cases this
 refine ⟨fun d hd=>?_,fun x hx=>?_,fun x j F hx hj gL ht=>?_,fun x j F hx gL ht hne=>(Ya x j F hx gL ht hne).1⟩
 .by_cases hw:∃ j y,L j/\ops[j]?=some y/\y.dst=some d
  .obtain ⟨j,y,hj,hy,nT⟩:=hw;obtain ⟨_,F,_,gL⟩:=agQ j (Aq j hj);have hne:j≠i:=fun e=>hiL (e ▸ hj);rw [h.set d j y F hj hy nT gL,k.set d j y F ((aoJ d j y hd hy nT hne).1 hj) hy nT gL]
  .rw [h.old d fun j y hj hy nT=>hw ⟨j,y,hj,hy,nT⟩];rw [k.old d fun j y hj hy nT=>hw ⟨j,y,(aoJ d j y hd hy nT fun e=>hiM<|e ▸ hj).2 hj,hy,nT⟩]
 .by_cases hw:∃ j F,L j/\Es[j]?=some F/\F.2.touch x=true
  ·
   have top:∃ j F,L j/\Es[j]?=some F/\F.2.touch x=true/\∀ j' F',L j'->Es[j']?=some F'->F'.2.touch x=true->j'<=j:=by
    obtain ⟨j,F,hj⟩:=hw;clear hx;have:∀ n j F,ops.size - j<=n->L j/\Es[j]?=some F/\F.2.touch x=true->∃ j F,L j/\Es[j]?=some F/\F.2.touch x=true/\∀ j' F',L j'->Es[j']?=some F'->F'.2.touch x=true->j'<=j:=by
     intro n;induction n with
     | zero=>intro j F hn hj;have:=Aq j hj.1;omega
     | succ n ih=>
      intro j F hn hj;by_cases hm:∃ j' F',L j'/\Es[j']?=some F'/\F'.2.touch x=true/\j < j'
      .obtain ⟨j',F',h1,h2,h3,h4⟩:=hm;exact ih j' F' (by have:=Aq j' h1;omega) ⟨h1,h2,h3⟩
      .refine ⟨j,F,hj.1,hj.2.1,hj.2.2,fun j' F' h1 h2 h3=>?_⟩;rcases vY j j' with h4|h4
       .exact absurd ⟨j',F',h1,h2,h3,h4⟩ hm
       .exact h4
    exact this _ j F (dK _) hj
   obtain ⟨j,F,hj,gL,ht,hmax⟩:=top;have hne:j≠i:=fun e=>hiL (e ▸ hj);rw [h.top x j F hj gL ht hmax,k.top x j F ((Ya x j F hx gL ht hne).1.1 hj) gL ht fun j' F' hj' aoK ht'=>?_];have hne':j'≠i:=fun e=>hiM (e ▸ hj');exact hmax j' F' ((Ya x j' F' hx aoK ht' hne').1.2 hj') aoK ht'
  .rw [h.bot x fun j F hj gL=>?_,k.bot x fun j F hj gL=>?_]
   .cases ht:F.2.touch x with
    | false=>rfl
    | true=>exact absurd ⟨j,F,(Ya x j F hx gL ht fun e=>hiM<|e ▸ hj).1.2 hj,gL,ht⟩ hw
   .cases ht:F.2.touch x with
    | false=>rfl
    | true=>exact absurd ⟨j,F,hj,gL,ht⟩ hw
 .by_cases hne:j=i
  .omega
  .exact (Ya x j F (.inr hx) gL ht hne).2.1 hj
theorem abt {ops:Array Oper} {Es:List (Bool×Eff)} {T0:List V} {H0:Hp} (hF:Fair ops Es T0 H0) {L:Nat->Prop} {T:List V} {H H':Hp} (h:Inv ops Es T0 H0 L T H) {i:Nat} {o:Oper} {E:Bool×Eff} (ho:ops[i]?=some o) (hE:Es[i]?=some E)
  (hi: ¬L i) (hle:∀ x j F,E.2.touch x=true->L j->Es[j]?=some F->F.2.touch x=true->j<=i) (hH:∀ x,look H' x=look (E.2.new++dB E.2.C H) x) (hH2:∀ x,gV x H'=true->gV x E.2.new=true\/gV x H=true) {L':Nat->Prop} (hL':∀ j,L' j↔j=i\/L j):
  Inv ops Es T0 H0 L' (fQ T o.dst E.2.v) H':=by
 have dist:∀ j y d,ops[j]?=some y->y.dst=some d->o.dst=some d->j=i:=by
  intro j y d hy nT hod;obtain ⟨F,gL⟩:∃ F,Es[j]?=some F:=⟨_,fZ<|by rw [hF.len];exact (qh.1 hy).1⟩
  rcases Rw j i with hlt|he|hgt
  .exact absurd hod ((hF.two hlt hy ho gL hE).1 d nT)
  .exact he
  .exact absurd nT ((hF.two hgt ho hy hE gL).1 d hod)
 refine ⟨by rw [aEV,h.len],fun s j y F hj hy nT gL=>?_,fun s hs=>?_,fun x j F hj gL ht hmax=>?_,fun x hx=>?_,fun x hx=>?_,fun x hx=>?_⟩
 .rw [aoG];split
  .rename_i hod;have:=dist j y s hy nT hod;subst this;rw [hE] at gL;cases gL;have hlen:=h.len;by_cases hs:s < T.length
   .have hs0:s < T0.length:=Nat.lt_of_lt_of_eq hs hlen;rw [fZ hs,fZ hs0];rfl
   .have h1:T.length<=s:=Nat.le_of_not_lt hs;have h0:T0.length<=s:=Io (Nat.le_of_eq hlen.symm) h1;rw [vW h1,vW h0];first|done|rfl
  .rename_i hod;rcases (hL' j).1 hj with rfl|hj
   .rw [ho] at hy;cases hy;exact absurd nT hod
   .exact h.set s j y F hj hy nT gL
 .rw [aoG,bL<|hs i o ((hL' i).2<|.inl rfl) ho];exact h.old s fun j y hj hy=>hs j y ((hL' j).2<|.inr hj) hy
 .rw [hH,FH];rcases (hL' j).1 hj with rfl|hj'
  .rw [hE] at gL;cases gL;rw [bU ht]
  .split
   .rename_i hti;have h1:=hle x j F hti hj' gL ht;have h2:=hmax i E ((hL' i).2<|.inl rfl) hE hti;have:j=i:=ah;exact absurd (this ▸ hj') hi
   .exact h.top x j F hj' gL ht fun j' F' h1 h2 h3=>hmax j' F' ((hL' j').2<|.inr h1) h2 h3
 .rw [hH,FH,bL<|by rw [hx i E ((hL' i).2<|.inl rfl) hE];simp];exact h.bot x fun j F hj gL=>hx j F ((hL' j).2<|.inr hj) gL
 .rcases hH2 x hx with h1|h1
  .exact .inr ⟨i,E,(hL' i).2<|.inl rfl,hE,h1⟩
  .exact (h.has x h1).imp id fun ⟨j,F,h1,h2,h3⟩=>⟨j,F,(hL' j).2<|.inr h1,h2,h3⟩
 .have:V.lC x T=true\/E.2.v.has x=true:=by
   cases hd:o.dst with
   | none=>rw [hd] at hx;exact .inl hx
   | some d=>rw [hd] at hx;exact aET hx
  rcases this with h1|h1
  .exact (h.aoE x h1).imp id fun ⟨j,F,h1,h2,h3⟩=>⟨j,F,(hL' j).2<|.inr h1,h2,h3⟩
  .exact .inr ⟨i,E,(hL' i).2<|.inl rfl,hE,h1⟩
end
end Go.Av
namespace Go.Av
section
variable {P:Program} {G:Nat->Option (List V)} {L:Option Nat} {B:Nat}
theorem eu.congr {ρ:Nat->Option Value} {S:Nat->Prop} {F:Nat->List Nat} {H H':Hp} {w:World} (h:eu ρ S F H w) (e:∀ x,look H' x=look H x):eu ρ S F H' w:=
 ⟨fun i hi=>h.dom i<|e i ▸ hi,fun i o hi=>h.obj i o<|e i ▸ hi,fun i o hi=>h.nodup i o<|e i ▸ hi,fun i j o p b hi hj=>h.jI i j o p b (e i ▸ hi)<|e j ▸ hj,fun i o b hi=>h.sep i o b<|e i ▸ hi,fun i o b hi=>h.lt i o b<|e i ▸ hi,h.slt⟩
theorem Ub.congr {F:Nat->List Nat} {H H':Hp} (e:∀ x,look H' x=look H x) {b:Nat} (h:Ub H' F b):Ub H F b:=by
 obtain ⟨i,o,hi,hb⟩:=h;exact ⟨i,o,e i ▸ hi,hb⟩
theorem Post.congr {ρ:Nat->Option Value} {S:Nat->Prop} {F:Nat->List Nat} {H:Hp} {w:World} {v:V} {H1 H2:Hp} {N:List Nat} {x:Value} {w':World} (h:Post ρ S F H w v H1 N x w') (e:∀ x,look H2 x=look H1 x):Post ρ S F H w v H2 N x w':=by
 obtain ⟨ρ',S',F',hv,hH,hE,hA⟩:=h;exact ⟨ρ',S',F',hv,hH.congr e,⟨hE.os,hE.tape,hE.output,hE.size,hE.keep,hE.sub,hE.newS,fun b hb=>hE.rH b<|Ub.congr e hb⟩,hA⟩
theorem gH.congr {o:Oper} {e:Operand->V} {H:Hp} {v:V} {H1 H2:Hp} {N:List Nat} (h:gH P G o e H v H1 N) (he:∀ x,look H2 x=look H1 x):gH P G o e H v H2 N:=
 fun ρ S F η w bV hH hG=>(h ρ S F η w bV hH hG).mono fun _ _ hp=>hp.congr he
structure Fact (P:Program) (G:Nat->Option (List V)) (ops:Array Oper) (Es:List (Bool×Eff)) (T0:List V) (H0:Hp) (k:Nat) (o:Oper) (E:Bool×Eff) (Tk:List V) (Hk:Hp):Prop where
 op:ops[k]?=some o
 SN:Es[k]?=some E
 inv:Inv ops Es T0 H0 (· < k) Tk Hk
 want:wQ ops Tk o.guard=some E.1
 ok:E.1=true->uz P G o (ev G Tk) E.2 Hk
 no:E.1=false->E.2=Eff.und
theorem Chain.length {ops:Array Oper} {i:Nat} {T:List V} {H:Hp} {tail:List (Bool×Eff)} {T':List V} {H':Hp} (h:Chain P G ops i T H tail T' H') (hi:i<=ops.size):tail.length=ops.size - i:=by
 induction h with
 | nil i T H h=>simp;omega
 | op ho _ _ _ ih=>
  have:=(qh.1 ho).1;have:=ih ah;simp only [nu];omega
 | skip ho _ _ ih=>
  have:=(qh.1 ho).1;have:=ih ah;simp only [nu];omega
theorem Chain.facts {ops:Array Oper} {Es:List (Bool×Eff)} {T0:List V} {H0:Hp} (hF:Fair ops Es T0 H0) {i:Nat} {T:List V} {H:Hp} {tail:List (Bool×Eff)} {T':List V} {H':Hp} (h:Chain P G ops i T H tail T' H'):
  Es.drop i=tail->i<=ops.size->Inv ops Es T0 H0 (· < i) T H->(∀ k,i<=k->k < ops.size->∃ o E Tk Hk,Fact P G ops Es T0 H0 k o E Tk Hk)/\Inv ops Es T0 H0 (· < ops.size) T' H':=by
 induction h with
 | nil i T H h=>
  intro _ hi hinv;have:i=ops.size:=ah;subst this;exact ⟨fun k h1 h2=>ah,hinv⟩
 | @op i T H o E tl T' H' ho hw hop rest ih=>
  intro hd hi hinv;have hlt:=(qh.1 ho).1;have hE:Es[i]?=some (true,E):=by
   have:(Es.drop i)[0]?=some (true,E):=by rw [hd];rfl
   simpa using this
  have agR:=abt hF hinv ho hE (ZI i) (fun x j F _ hj _ _=>nP hj) (H':=E.new++dB E.C H) (fun _=>rfl) (fun x hx=>by
   rw [aoB,iX] at hx;exact hx.imp id agN) (L':=(· < i+1)) (fun j=>ah)
  have htl:Es.drop (i+1)=tl:=by rw [<- Wx,hd];rfl
  obtain ⟨h1,h2⟩:=ih htl hlt agR;refine ⟨fun k hk1 hk2=>?_,h2⟩;by_cases he:k=i
  .subst he;exact ⟨o,_,T,H,⟨ho,hE,hinv,hw,fun _=>hop,fun h=>(by cases h)⟩⟩
  .exact h1 k ah hk2
 | @skip i T H o tl T' H' ho hw rest ih=>
  intro hd hi hinv;have hlt:=(qh.1 ho).1;have hE:Es[i]?=some (false,Eff.und):=by
   have:(Es.drop i)[0]?=some (false,Eff.und):=by rw [hd];rfl
   simpa using this
  have agR:=abt hF hinv ho hE (ZI i) (fun x j F _ hj _ _=>nP hj) (H':=H) (fun x=>by rw [FH];simp [Eff.touch,look]) (fun x hx=>.inr hx) (L':=(· < i+1)) (fun j=>ah);have htl:Es.drop (i+1)=tl:=by rw [<- Wx,hd];rfl
  obtain ⟨h1,h2⟩:=ih htl hlt agR;refine ⟨fun k hk1 hk2=>?_,h2⟩;by_cases he:k=i
  .subst he;exact ⟨o,_,T,H,⟨ho,hE,hinv,hw,fun h=>(by cases h),fun _=>rfl⟩⟩
  .exact h1 k ah hk2
theorem aEX {ops:Array Oper} {T T':List V} {j:Nat} (h:∀ d,((ops[j]?).bind (·.dst))=some d->T[d]?=T'[d]?):Ph ops T j=Ph ops T' j:=by
 unfold Ph;cases hd:(ops[j]?).bind (·.dst) with
 | none=>rfl
 | some d=>simp only [h d hd]
theorem aEY {ops:Array Oper} {o:Oper} {T T':List V} (h:∀ d,d∈o.looksAt ops->T[d]?=T'[d]?):wQ ops T o.guard=wQ ops T' o.guard:=by
 cases hg:o.guard with
 | none=>rfl
 | some jb=>
  obtain ⟨j,b⟩:=jb;simp only [wQ];rw [aEX fun d hd=>h d<|by unfold Oper.looksAt;rw [hg];simp [hd]]
theorem aEZ {ops:Array Oper} {o:Oper} {T T':List V} (h:∀ d,d∈o.looksAt ops->T[d]?=T'[d]?):∀ x,x∈o.op.operands->ev G T x=ev G T' x:=by
 intro x hx;cases x with
 | tmp t=>
  have:=h t (by
   unfold Oper.looksAt;refine mJ.2<|.inl<|List.mem_filterMap.2 ⟨.tmp t,by simpa using hx,rfl⟩)
  simp only [ev,OZ,this]
 | _=>rfl
theorem aFa {ops:Array Oper} {o:Oper} {ρ:Nat->Option Value} {S:Nat->Prop} {F:Nat->List Nat} {st:St} {a:Act} {w:World} (hst:mq B G ρ S F st a w) {b:Bool} (h:wQ ops st.T o.guard=some b):Region.wanted o (yielded ops a.tmps)=b:=by
 unfold wQ at h;unfold Region.wanted;cases hg:o.guard with
 | none=>rw [hg] at h;cases h;rfl
 | some jb=>
  obtain ⟨j,b'⟩:=jb;rw [hg] at h;simp only [eY] at h;obtain ⟨c,hc,hcb⟩:=h;simp only [anY hst hc];subst hcb;cases c<;>cases b'<;>rfl
theorem aFb {ops:Array Oper} {Es:List (Bool×Eff)} {T0:List V} {H0:Hp} (hl:Es.length=ops.size) {L M:Nat->Prop} {T T':List V} {H H':Hp} (h:Inv ops Es T0 H0 L T H) (k:Inv ops Es T0 H0 M T' H') (he:∀ j,L j↔M j) (hs:∀ j,L j->j < ops.size):T=T'/\∀ x,look H x=look H' x:=by
 refine ⟨?_,fun x=>?_⟩
 .apply List.ext_getElem?;intro s;by_cases hw:∃ j y,L j/\ops[j]?=some y/\y.dst=some s
  .obtain ⟨j,y,hj,hy,nT⟩:=hw;obtain ⟨F,gL⟩:∃ F,Es[j]?=some F:=⟨_,fZ<|by rw [hl];exact hs j hj⟩
   rw [h.set s j y F hj hy nT gL,k.set s j y F ((he j).1 hj) hy nT gL]
  .rw [h.old s fun j y hj hy nT=>hw ⟨j,y,hj,hy,nT⟩,k.old s fun j y hj hy nT=>hw ⟨j,y,(he j).2 hj,hy,nT⟩]
 .by_cases hw:∃ j F,L j/\Es[j]?=some F/\F.2.touch x=true
  .have top:∃ j F,L j/\Es[j]?=some F/\F.2.touch x=true/\∀ j' F',L j'->Es[j']?=some F'->F'.2.touch x=true->j'<=j:=by
    obtain ⟨j,F,hj⟩:=hw;have:∀ n j F,ops.size - j<=n->L j/\Es[j]?=some F/\F.2.touch x=true->∃ j F,L j/\Es[j]?=some F/\F.2.touch x=true/\∀ j' F',L j'->Es[j']?=some F'->F'.2.touch x=true->j'<=j:=by
     intro n;induction n with
     | zero=>intro j F hn hj;have:=hs j hj.1;omega
     | succ n ih=>
      intro j F hn hj;by_cases hm:∃ j' F',L j'/\Es[j']?=some F'/\F'.2.touch x=true/\j < j'
      .obtain ⟨j',F',h1,h2,h3,h4⟩:=hm;exact ih j' F' (by have:=hs j' h1;omega) ⟨h1,h2,h3⟩
      .refine ⟨j,F,hj.1,hj.2.1,hj.2.2,fun j' F' h1 h2 h3=>?_⟩;rcases vY j j' with h4|h4
       .exact absurd ⟨j',F',h1,h2,h3,h4⟩ hm
       .exact h4
    exact this _ j F (dK _) hj
   obtain ⟨j,F,hj,gL,ht,hmax⟩:=top;rw [h.top x j F hj gL ht hmax,k.top x j F ((he j).1 hj) gL ht fun j' F' hj'=>hmax j' F'<|(he j').2 hj']
  .have no:∀ j F,L j->Es[j]?=some F->F.2.touch x=false:=fun j F hj gL=>by
    cases ht:F.2.touch x with
    | false=>rfl
    | true=>exact absurd ⟨j,F,hj,gL,ht⟩ hw
   rw [h.bot x no,k.bot x fun j F hj=>no j F<|(he j).2 hj]
theorem aFc {ops:Array Oper} {Es:List (Bool×Eff)} {T0:List V} {H0:Hp} (hF:Fair ops Es T0 H0) {Tn:List V} {Hn:Hp} (hfin:Inv ops Es T0 H0 (· < ops.size) Tn Hn) (facts:∀ k,k < ops.size->∃ o E Tk Hk,Fact P G ops Es T0 H0 k o E Tk Hk)
  {Q:Exit->Act->World->Prop} {K:St->Prop} {Ll:Nat->Option Value} {S0:Nat->Prop} {F0:Nat->List Nat} {w0:World} (hK:K ⟨Tn,Hn⟩) (hn:∀ st',K st'->Onto B G Ll S0 F0 H0 w0 st' (Q .normal)):
  ∀ (fuel:Nat) (listed:Array Bool) (T:List V) (H:Hp) (ρ:Nat->Option Value) (S:Nat->Prop) (F:Nat->List Nat) (a:Act) (w:World),listed.size=ops.size->listed.countP (fun b=>!b)<=fuel->Down ops (fun j=>listed.getD j false=true)->
   Inv ops Es T0 H0 (fun j=>listed.getD j false=true) T H->mq B G ρ S F ⟨T,H⟩ a w->iT S0 (Ub H0 F0) w0 S (Ub H F) w->mo Ll ρ->wpAnyIn (Aw L) 0 P .any ops Q fuel listed a w:=by
 intro fuel;have hlt:∀ (listed:Array Bool),listed.size=ops.size->∀ j,listed.getD j false=true->j < ops.size:=fun listed hsz j h=>by
  rcases vY j listed.size with h'|h'
  .rw [<- hsz];exact h'
  .rw [lM,anT h'] at h;cases h
 have done:∀ (listed:Array Bool) (T:List V) (H:Hp) (ρ:Nat->Option Value) (S:Nat->Prop) (F:Nat->List Nat) (a:Act) (w:World),listed.size=ops.size->(∀ j,j < ops.size->listed.getD j false=true)->
   Inv ops Es T0 H0 (fun j=>listed.getD j false=true) T H->mq B G ρ S F ⟨T,H⟩ a w->iT S0 (Ub H0 F0) w0 S (Ub H F) w->mo Ll ρ->Q .normal a w:=by
  intro listed T H ρ S F a w hsz hall hinv hst hE hA;obtain ⟨rfl,hH⟩:=aFb hF.len hinv hfin (fun j=>⟨hlt listed hsz j,hall j⟩) (hlt listed hsz);have e:∀ x,look Hn x=look H x:=fun x=>(hH x).symm;exact hn _ hK ρ S F a w ⟨hst.defers,hst.size,hst.tmps,hst.heap.congr e,hst.glob⟩ ⟨hE.os,hE.tape,hE.output,hE.size,hE.keep,hE.sub,hE.newS,fun b hb=>hE.rH b<|Ub.congr e hb⟩ hA
 induction fuel with
 | zero=>
  intro listed T H ρ S F a w hsz hc Yb hinv hst hE hA;have hall:∀ j,j < ops.size->listed.getD j false=true:=fun j hj=>by
   have h0:listed.countP (fun b=>!b)=0:=ah;rw [Array.countP_eq_zero] at h0;have:=h0 listed[j] (Array.getElem_mem ah);rw [lM,lN ah];simpa using this
  refine ⟨?_,done listed T H ρ S F a w hsz hall hinv hst hE hA⟩;cases hr:Region.ready .any ops listed with
  | nil=>rfl
  | cons i l=>
   have hi:i∈Region.ready .any ops listed:=by rw [hr];simp
   obtain ⟨h1,o,h2,_⟩:=abb.1 hi;have hj:=(qh.1 h2).1;have:=hall i hj;rw [lM,lN ah] at h1 this;simp at h1 this;rw [h1] at this;cases this
 | succ fuel ih=>
  intro listed T H ρ S F a w hsz hc Yb hinv hst hE hA;refine ⟨fun hr=>done listed T H ρ S F a w hsz (fun j hj=>?_) hinv hst hE hA,fun i hi=>?_⟩
  .have:∀ n j,j<=n->j < ops.size->listed.getD j false=true:=by
    intro n;induction n with
    | zero=>
     intro j hj0 hj;cases hlj:listed.getD j false with
     | true=>rfl
     | false=>
      have:j∈Region.ready .any ops listed:=abb.2 ⟨by
       rw [lM,lN ah] at hlj ⊢;simpa using hlj,_,lN hj,fun e he hb=>by
       have:=hF.back j _ e (lN hj) he hb;omega⟩
      rw [hr] at this;cases this
    | succ n ihn=>
     intro j hjn hj;cases hlj:listed.getD j false with
     | true=>rfl
     | false=>
      have:j∈Region.ready .any ops listed:=abb.2 ⟨by
       rw [lM,lN ah] at hlj ⊢;simpa using hlj,_,lN hj,fun e he hb=>by
       have:=hF.back j _ e (lN hj) he hb;exact ihn e.on ah ah⟩
      rw [hr] at this;cases this
   exact this j j (dK _) hj
  .obtain ⟨h1,o,ho,hpre⟩:=abb.1 hi;have hlt:=(qh.1 ho).1;have RP:listed[i]?=some false:=by
    rw [lM,lN ah] at h1;rw [lN ah];simpa using h1
   obtain ⟨o',E,Tk,Hk,hfact⟩:=facts i hlt;have ho':=hfact.op;rw [ho] at ho';cases ho';have Yc: ¬(listed.getD i false=true):=by rw [lM,RP];simp
   have aFd:Down ops (· < i):=fun q oq e hq hoq he hb=>by have:=hF.back q oq e hoq he hb;omega
   have Aq:∀ j,listed.getD j false=true->j < ops.size:=fun j h=>by
    rcases vY j listed.size with h'|h'
    .rw [<- hsz];exact h'
    .rw [lM,anT h'] at h;cases h
   obtain ⟨hT,hHs,hle,_⟩:=Inv.same hF hinv hfact.inv Yb aFd ho hfact.SN Yc (ZI i) hpre (fun e he hb=>hF.back i o e ho he hb) Aq (fun j hj=>ah);have hwant:Region.wanted o (yielded ops a.tmps)=E.1:=aFa hst ((aEY hT).trans hfact.want);have hL':∀ j,((listed.setIfInBounds i true).getD j false=true)↔j=i\/listed.getD j false=true:=fun j=>by
    rw [lM,afY,lM];by_cases he:i=j
    .subst he;simp [show i < listed.size by omega]
    .simp [he,zR he]
   have aoL:Down ops (fun j=>(listed.setIfInBounds i true).getD j false=true):=fun q oq e hq hoq he hb=>(hL' _).2 (by
    rcases (hL' q).1 hq with rfl|hq
    .rw [ho] at hoq;cases hoq;exact .inr (hpre e he hb)
    .exact .inr (Yb q oq e hq hoq he hb))
   have hcount:(listed.setIfInBounds i true).countP (fun b=>!b)<=fuel:=by
    have hi':i < listed.size:=ah;rw [Array.setIfInBounds,dif_pos hi',Array.countP_set];rw [lN hi'] at RP;simp only [iI] at RP;simp only [RP];simp;omega
   have hfr:∀ k,k∈E.2.N->100<=k/\V.lC k T=false/\gV k H=false:=fun k hk=>by
    obtain ⟨f1,f2,f3⟩:=hF.fresh i E k hfact.SN hk;have sep:∀ j F,listed.getD j false=true->Es[j]?=some F->F.2.v.has k=false/\gV k F.2.new=false:=by
     intro j F hj gL;have hjs:=Aq j hj;have hne:j≠i:=fun e=>Yc (e ▸ hj);rcases aaS hne with h'|h'
     .exact (hF.two h' (lN hjs) ho gL hfact.SN).2.1 k hk
     .rcases (hF.two h' ho (lN hjs) hfact.SN gL).2.2 with hb|hb
      .exact absurd (IC Yb (lN hjs) (fun e he hb'=>Yb j _ e hj (lN hjs) he hb') hb) Yc
      .exact hb.2.2.2.2 k hk
    refine ⟨f1,?_,?_⟩
    .cases hh:V.lC k T with
     | false=>rfl
     | true=>
      rcases hinv.aoE k hh with h'|⟨j,F,h1,h2,h3⟩
      .rw [f2] at h';cases h'
      .rw [(sep j F h1 h2).1] at h3;cases h3
    .cases hh:gV k H with
     | false=>rfl
     | true=>
      rcases hinv.has k hh with h'|⟨j,F,h1,h2,h3⟩
      .rw [f3] at h';cases h'
      .rw [(sep j F h1 h2).2] at h3;cases h3
   unfold wpOpIn;simp only [ho];cases hw:E.1 with
   | true=>
    rw [bU<|by rw [hwant,hw]];have aFf:(E.2.N.all fun i=>!gV i H)=true:=kJ.2 fun k hk=>by rw [(hfr k hk).2.2];rfl
    have hop:=hfact.ok hw (ev G T) H (aEZ hT) hHs aFf;refine (hop ρ S F a.eval w (fun x _=>hst.ev x) hst.heap hst.glob).wp fun x w' hp=>?_;obtain ⟨ρ',S',F',hv,hH,hE',hA'⟩:=hp;have hN:fresh E.2.N ⟨T,H⟩=true:=kJ.2 fun k hk=>by
     obtain ⟨f1,f2,f3⟩:=hfr k hk;simp [f2,f3,zQ,f1]
    have hst':=hst.put (d:=o.dst) hN hv hH hE' hA';refine ih _ (fQ T o.dst E.2.v) (E.2.new++dB E.2.C H) ρ' S' F' _ w' (by simp [hsz]) hcount aoL ?_ ?_ (hE.trans hE') (hA.trans<|hA'.toF hN)
    .exact abt hF hinv ho hfact.SN Yc hle (fun _=>rfl) (fun x hx=>by
      rw [aoB,iX] at hx;exact hx.imp id agN) hL'
    .have:(St.put ⟨T,H⟩ o.dst E.2.v<|E.2.new++dB E.2.C H)=⟨fQ T o.dst E.2.v,E.2.new++dB E.2.C H⟩:=by cases o.dst<;>rfl
     rw [<- this];exact hst'
   | false=>
    rw [bL<|by rw [hwant,hw];simp];have hno:=hfact.no hw;refine ⟨fun _ _=>trivial,?_⟩;refine ih _ (fQ T o.dst V.und) H ρ S F _ w (by simp [hsz]) hcount aoL ?_ ?_ hE hA
    .have:=abt hF hinv ho hfact.SN Yc hle (H':=H) (fun x=>by rw [FH,hno];simp [Eff.touch,look]) (fun x hx=>.inr hx) hL';rwa [hno] at this
    .have:(St.put ⟨T,H⟩ o.dst V.und H)=⟨fQ T o.dst V.und,H⟩:=by cases o.dst<;>rfl
     rw [<- this];exact anZ hst o.dst
theorem aFg {id:Nat} {l:List Oper} {T:List V} {H:Hp} {Q:Exit->St->Prop} (hm:P.follows .mixedOrders=true) {Es:List (Bool×Eff)} {T':List V} {H':Hp}
  (hc:Chain P G l.toArray 0 T H Es T' H') (hk:abq l.toArray T H Es=true) (hQ:Q .normal ⟨T',H'⟩):CO L P G (.region id l.toArray true) ⟨T,H⟩ Q:=by
 intro B ρ S F a w R hst hn;refine wpIn_region_any hm ?_;have hF:=aEW (by simpa using hc.length (EW _)) hk;obtain ⟨facts,hfin⟩:=hc.facts hF rfl (EW _) (aoF _ _ _ _ fun j=>Nat.not_lt_zero j);have hL0:∀ j,¬((Array.replicate l.toArray.size false).getD j false=true):=fun j=>by
  rw [lM,Array.getElem?_replicate];split<;>simp
 let w1:World:={w with drawn:=w.drawn+1}
 have hk1:Keeps S w S w1:=fun b hb=>⟨hb,rfl⟩
 have Bd:mq B G ρ S F ⟨T,H⟩ a w1:=⟨hst.defers,hst.size,fun i x hx=>(hst.tmps i x hx).mono (fun _ _ h _=>h) hk1,
  ⟨hst.heap.dom,fun i o h=>by
   obtain ⟨r,hr,cB⟩:=hst.heap.obj i o h;exact ⟨r,hr,cB.mono (fun _ _ h _=>h) hk1 fun _ _=>rfl⟩,hst.heap.nodup,hst.heap.jI,hst.heap.sep,hst.heap.lt,hst.heap.slt⟩,hst.glob.mono hk1⟩
 refine aFc hF hfin (fun k hk=>facts k (EW _) hk) (K:=fun st'=>Q .normal st') hQ (fun st' h'=>hn .normal st' h') l.toArray.size _ T H ρ S F a w1 aF ?_ (fun i o e h=>(hL0 i h).elim) (aoF _ _ _ _ hL0) Bd
  ⟨rfl,rfl,rfl,dK _,fun _ _ _=>rfl,fun _ h=>h,fun _ h=>.inl h,fun _ h=>.inl h⟩ (mo.refl _)
 exact Io Array.countP_le_size aF
end
end Go.Av
namespace Go.Av
def V.ids:V->List Nat
 | .own i=>[i]
 | .loc i _=>[i]
 | .vp i _ _ _=>[i]
 | .vw i _ _ _=>[i]
 | _=>[]
section
variable {P:Program} {G:Nat->Option (List V)}
def Bf (H' H:Hp) (v:V):Prop:=∀ i,i∈v.ids->look H' i=look H i
theorem abu {H H':Hp} {v:V} (h:Bf H' H v):uy H' v=uy H v:=by
 cases v<;>simp_all [uy,live,Bf,V.ids]
theorem aFh {H H':Hp} {n:Nat} {v:V} (h:Bf H' H v):Lf H' n v=Lf H n v:=by
 cases v<;>simp_all [Lf,live,Bf,V.ids]
theorem aFi {H H':Hp} {v:V} (h:Bf H' H v):Lg H' v=Lg H v:=by
 cases v with
 | c u=>
  cases u with
  | slice a n c=>cases a<;>rfl
  | _=>rfl
 | own i=>simp_all [Lg,Bf,V.ids]
 | _=>rfl
theorem aFj {D:Tab} {H H':Hp} {t:TypeId} {v:V} (h:Bf H' H v):Pk D H' t v=Pk D H t v:=by
 cases v<;>simp_all [Pk,Bf,V.ids]
theorem agS {H H':Hp} {place:Nat->Option (Nat×Nat)}:∀ {parts:List (Nat×V)} {cells:List V},(∀ p,p∈parts->Bf H' H p.2)->uZ H' place cells parts=uZ H place cells parts
 | [],_,_=>rfl
 | (i,v)::rest,cells,h=>by
  have hc:uy H' v=uy H v:=abu (h (i,v) aF);have ih:∀ cells,uZ H' place cells rest=uZ H place cells rest:=fun cells=>agS fun p hp=>h p (by simp [hp]);simp only [uZ,hc,ih]
theorem aFk {D:Tab} {H H':Hp} {t:TypeId} {parts:List (Nat×V)} (h:∀ p,p∈parts->Bf H' H p.2):SI D H' t parts=SI D H t parts:=by
 have e:∀ place cells,uZ H' place cells parts=uZ H place cells parts:=fun _ _=>agS h;simp only [SI,e]
theorem aoM {e e':Operand->V} {parts:List (Nat×Operand)} (he:∀ p,p∈parts->e' p.2=e p.2):parts.map (fun p=>(p.1,e' p.2))=parts.map fun p=>(p.1,e p.2):=
 yP fun p hp=>by rw [he p hp]
theorem aoN {D:Tab} {H H':Hp} {e e':Operand->V} {op:Op} (he:∀ x,x∈op.operands->e' x=e x) (hH:∀ x,x∈op.operands->Bf H' H (e x)):iD D H' e' op=iD D H e op:=by
  cases op
  case move x=>simp only [iD];rw [he x gG]
  case assign x=>simp only [iD];rw [he x gG]
  case pick c a b=>simp only [iD];rw [he c gG,he a gG,he b gG]
  case nilCheck x=>
    have h:=hH x gG;simp only [iD];rw [he x gG];generalize e x=v at h;cases v<;>simp_all [live,Bf,V.ids]
  case binOp op t x y t'=>simp only [iD];rw [he x gG,he y gG]
  case unOp op t x=>cases op<;>first|rfl|(simp only [iD];rw [he x gG])
  case convert s d x=>simp only [iD];rw [he x gG]
  case fieldAddr s x f=>
    have h:=hH x gG;simp only [iD];rw [he x gG];simp only [aFh h]
  case field s x f=>simp only [iD];rw [he x gG]
  case load t a=>simp only [iD];rw [he a gG,aFj<|hH a gG]
  case extract x i=>simp only [iD];rw [he x gG]
  case makeFunc fn first caps=>
    cases fn<;>first
      | rfl
      | (simp only [iD]
         split
         · rw [yP fun x hx=>he x<|by simp [Op.operands] at hx ⊢;exact .inr hx]
         · rfl)
  case build t parts=>
    simp only [iD];rw [aoM fun p hp=>he p.2<|by simp [Op.operands];exact ⟨p.1,by simpa using hp⟩];refine aFk fun p hp=>?_;obtain ⟨q,hq,rfl⟩:=zH.1 hp;exact hH q.2 (by simp [Op.operands];exact ⟨q.1,by simpa using hq⟩)
  case call c=>
    obtain ⟨callee,args,ats⟩:=c;have h1:∀ x,x∈args.toList->e' x=e x:=fun x hx=>he x (by simp only [Op.operands,Call.operands];exact Lc.2<|.inr<|by simpa using hx);have h2:∀ x,x∈args.toList->Bf H' H (e x):=fun x hx=>hH x (by simp only [Op.operands,Call.operands];exact Lc.2<|.inr<|by simpa using hx);simp only [iD];generalize args.toList=as at h1 h2;split
    · rw [h1 _ aF,aFi<|h2 _ aF]
    · rw [h1 _ aF,h1 _ aF]
    · rw [h1 _ aF,h1 _ aF]
    · rfl
  all_goals rfl
def Yd (D:Tab) (q:Nat) (H:Hp) (e:Operand->V) (op:Op):Option Eff:=
 match op with
 | .box t x=>(uy H<|e x).bind fun cs=>bif V.lC q cs then none else some {v:=.loc q 0,R:=(e x).ids,new:=[(q,.cells t cs)],N:=[q]}
 | .alloc t=>(D.at t).map fun i=>{v:=.loc q 0,new:=[(q,.cells t<|i.zero.map .c)],N:=[q]}
 | .store t a x=>match D.at t,e a,uy H (e x) with
  | some it,.loc i off,some ys=>match look H i with
   | some (.cells ety cs)=>if ys.length=it.size/\off+ys.length<=cs.length then some {v:=.junk,R:=(e x).ids,C:=[i],new:=[(i,.cells ety<|putAt cs ys off)]} else none
   | _=>none
  | _,_,_=>none
 | .buildSlice t n parts=>match D.at t with
  | some it=>match it.d with
   | .slice el=>match D.at el with
    | some ie=>(uZ H (fun i=>some (i*ie.size,ie.size)) ((List.replicate n<|ie.zero.map .c).flatten)<|parts.toList.map fun p=>(p.1,e p.2)).bind fun cells=>(vk H cells).bind fun yc=>
     if ie.size≠0/\n*ie.size<=16777216/\cells.length=n*ie.size/\yc.2.Nodup then some {v:=.own q,R:=parts.toList.flatMap fun p=>(e p.2).ids,C:=yc.2,new:=[(q,.vec true el ie.size<|chunk n ie.size yc.1)],N:=[q]} else none
    | none=>none
   | _=>none
  | none=>none
 | .move x=>some {v:=e x}
 | op=>(iD D H e op).map fun v=>{v:=v,R:=op.operands.toList.flatMap fun x=>(e x).ids}
theorem aFl {D:Tab} (hD:dX P D) {o:Oper} {e:Operand->V} {H:Hp} {v:V} (h:iD D H e o.op=some v):uz P G o e {v:=v,R:=o.op.operands.toList.flatMap fun x=>(e x).ids} H:=by
 intro e' H' he hH _;have hs:iD D H' e' o.op=some v:=by
  rw [aoN he fun x hx i hi=>hH i (.inl<|uY.2 ⟨x,by simpa using hx,hi⟩),h]
 exact (agB hD hs).congr fun x=>by rw [FH];simp [Eff.touch,look]
theorem aoO (H H':Hp) (u:Value):DY H' (.c u)=DY H (.c u):=by
 cases u<;>first
  | rfl
  | (rename_i a n c;cases a<;>first|rfl|(cases n<;>first|rfl|(cases c<;>rfl)))
theorem aoP {D:Tab} (hD:dX P D) {o:Oper} {q:Nat} {e:Operand->V} {H:Hp} {E:Eff} (h:Yd D q H e o.op=some E):uz P G o e E H:=by
 unfold Yd at h;split at h
 .rename_i t x ho;rw [dn] at h;obtain ⟨cs,hcs,h⟩:=h;cases hq:V.lC q cs with
  | true=>rw [hq] at h;cases h
  | false=>
   rw [hq] at h;simp only [aA,iI] at h;subst h;intro e' H' he hH hN;have hx:e' x=e x:=he x (by simp [ho,Op.operands]);have hc:uy H' (e' x)=some cs:=by rw [hx,abu fun i hi=>hH i<|.inl hi];exact hcs
   simp only [Lb,Sw,EU,kF] at hN;exact (gH.box q ho hc hN hq).congr fun y=>by rw [FH];simp [Eff.touch,look];split<;>simp_all
 .rename_i t ho;rw [eY] at h;obtain ⟨i,hi,h⟩:=h;subst h;intro e' H' he hH hN;simp only [Lb,Sw,EU,kF] at hN;exact (gH.alloc hD q ho hi hN).congr fun y=>by rw [FH];simp [Eff.touch,look];split<;>simp_all
 .rename_i t a x ho;split at h
  .rename_i it i off ys ht ha hx;split at h
   .rename_i ety cs hi;split at h
    .rename_i hs;cases h;intro e' H' he hH hN;have ha':e' a=.loc i off:=(he a<|by simp [ho,Op.operands]).trans ha;have hx':uy H' (e' x)=some ys:=by
      rw [he x (by simp [ho,Op.operands]),abu fun k hk=>hH k<|.inl hk];exact hx
     have hi':look H' i=some (.cells ety cs):=by
      rw [hH i<|.inr<|by simp [Eff.touch]];exact hi
     exact (gH.store hD ho ht ha' hi' hx' hs.1 hs.2).congr fun y=>by
      rw [FH,Pg];by_cases he:y=i<;>simp [Eff.touch,look,he]
    .cases h
   .cases h
  .cases h
 .rename_i t n parts ho;split at h
  .rename_i it ht;split at h
   .rename_i el hit;split at h
    .rename_i ie hel;rw [dn] at h;obtain ⟨cells,hf,h⟩:=h;rw [dn] at h;obtain ⟨⟨ys,C⟩,hab,h⟩:=h;split at h
     .rename_i hs;cases h;intro e' H' he hH hN;have hp:∀ p,p∈parts.toList->e' p.2=e p.2:=fun p hp=>he p.2 (by simp [ho,Op.operands];exact ⟨p.1,by simpa using hp⟩);have hf':uZ H' (fun i=>some (i*ie.size,ie.size)) ((List.replicate n<|ie.zero.map .c).flatten) (parts.toList.map fun p=>(p.1,e' p.2))=some cells:=by
       rw [aoM hp,agS fun p hpp=>?_]
       .exact hf
       .obtain ⟨r,hr,rfl⟩:=zH.1 hpp;exact fun i hi=>hH i (.inl<|uY.2 ⟨r,hr,hi⟩)
      have hab':vk H' cells=some (ys,C):=by
       have key:∀ (l:List V) (ys:List V) (C':List Nat),vk H l=some (ys,C')->(∀ c,c∈C'->c∈C)->vk H' l=some (ys,C'):=by
        intro l;induction l with
        | nil=>intro ys C' h _;exact h
        | cons y l ih=>
         intro ys C' h hsub;simp only [vk,dn,eY] at h ⊢;obtain ⟨⟨z,C1⟩,h1,⟨zs,C2⟩,h2,h3⟩:=h;cases h3;refine ⟨(z,C1),?_,(zs,C2),ih zs C2 h2 fun c hc=>hsub c<|mJ.2<|.inr hc,rfl⟩;cases y with
         | own j=>
          simp only [DY] at h1 ⊢;split at h1
          .rename_i nn x1 x2 rows hl;split at h1
           .rename_i hh;cases h1;have hj:look H' j=look H j:=hH j (.inr<|by simp [Eff.touch];exact .inl<|hsub j aF);rw [hj,hl];simp only [hh,nI]
           .cases h1
          .cases h1
         | c u=>rw [aoO H H'];exact h1
         | _=>exact h1
       exact key cells ys C hab fun c hc=>hc
      simp only [Lb,Sw,EU,kF] at hN;exact gH.buildSlice hD q ho ht hit hel hs.1 hs.2.1 hf' hs.2.2.1 hab' hs.2.2.2 hN
     .cases h
    .cases h
   .cases h
  .cases h
 .rename_i x ho;cases h;intro e' H' he hH _;have hs:iD D H' e' o.op=some (e x):=by
   rw [ho];simp only [iD];rw [he x<|by simp [ho,Op.operands]]
  exact (agB hD hs).congr fun y=>by rw [FH];simp [Eff.touch,look]
 .rename_i op _ _ _ _ _;rw [eY] at h;obtain ⟨v,hv,h⟩:=h;subst h;exact aFl hD hv
end
end Go.Av
namespace Go.Av
section
variable {P:Program} {G:Nat->Option (List V)} {L:Option Nat} {B:Nat}
def SQ (ops:Array Oper):Nat->List V->Hp->List (Bool×Eff)->Bool
 | _,_,_,[]=>true
 | i,T,H,(b,E)::Es=>match ops[i]? with
  | some o=>bif b then fresh E.N ⟨T,H⟩&&SQ ops (i+1) (fQ T o.dst E.v) (E.new++dB E.C H) Es else SQ ops (i+1) (fQ T o.dst V.und) H Es
  | none=>false
def DZ (draw:Bool) (ops:Array Oper) (T0:List V) (H0:Hp) (Es:List (Bool×Eff)):Bool:=bif draw then abq ops T0 H0 Es else SQ ops 0 T0 H0 Es
theorem Chain.aFm {ops:Array Oper} {i:Nat} {T:List V} {H:Hp} {tail:List (Bool×Eff)} {T':List V} {H':Hp} {Q:St->Prop} (h:Chain P G ops i T H tail T' H'):SQ ops i T H tail=true->Q ⟨T',H'⟩->oz P G ops (ops.toList.drop i) ⟨T,H⟩ Q:=by
 induction h with
 | nil i T H h=>
  intro _ hq;rw [xY<|by simpa using h];exact hq
 | @op i T H o E tl T' H' ho hw hop rest ih=>
  intro hk hq;simp only [SQ,ho,aB,dA] at hk;rw [drop_at ho];refine aEu (st:=⟨T,H⟩) hw (hop (ev G T) H (fun _ _=>rfl) (fun _ _=>rfl) (kJ.2 fun k hkk=>by rw [(SC hk.1 hkk).2.2];rfl)) hk.1 ?_;have:=ih hk.2 hq;have e:(St.put ⟨T,H⟩ o.dst E.v<|E.new++dB E.C H)=⟨fQ T o.dst E.v,E.new++dB E.C H⟩:=by cases o.dst<;>rfl
  rw [e];exact this
 | @skip i T H o tl T' H' ho hw rest ih=>
  intro hk hq;simp only [SQ,ho,aA] at hk;rw [drop_at ho];refine aEv (st:=⟨T,H⟩) hw ?_;have:=ih hk hq;have e:(St.put ⟨T,H⟩ o.dst V.und H)=⟨fQ T o.dst V.und,H⟩:=by cases o.dst<;>rfl
  rw [e];exact this
def W (P:Program) (G:Nat->Option (List V)) (ops:Array Oper) (draw:Bool) (T0:List V) (H0:Hp) (i:Nat) (T:List V) (H:Hp) (Es:List (Bool×Eff)) (Q:St->Prop):Prop:=
 ∃ tail T' H',Chain P G ops i T H tail T' H'/\DZ draw ops T0 H0 (Es++tail)=true/\Q ⟨T',H'⟩
theorem Ol {ops:Array Oper} {draw:Bool} {T0:List V} {H0:Hp} {i:Nat} {T:List V} {H:Hp} {Es:List (Bool×Eff)} {Q:St->Prop} (h:ops.size<=i) (hk:DZ draw ops T0 H0 Es=true) (k:Q ⟨T,H⟩):W P G ops draw T0 H0 i T H Es Q:=
 ⟨[],T,H,.nil i T H h,by rw [Kv];exact hk,k⟩
theorem lZ {id:Nat} {l:List Oper} {draw:Bool} {T:List V} {H:Hp} {Q:Exit->St->Prop} (hm:P.follows .mixedOrders=true) (h:W P G l.toArray draw T H 0 T H [] (Q .normal)):CO L P G (.region id l.toArray draw) ⟨T,H⟩ Q:=by
 obtain ⟨tail,T',H',hc,hk,hq⟩:=h;cases draw with
 | true=>exact aFg hm hc hk hq
 | false=>exact aDZ (by simpa using hc.aFm hk hq)
theorem aN {id:Nat} {l:List Oper} {draw:Bool} {c:Code} {T:List V} {H:Hp} {Q:Exit->St->Prop} (hm:P.follows .mixedOrders=true) (h:W P G l.toArray draw T H 0 T H [] fun st=>CO L P G c st Q):CO L P G (.seq (.region id l.toArray draw) c) ⟨T,H⟩ Q:=
 aoa (lZ hm h)
theorem W.one {ops:Array Oper} {draw:Bool} {T0:List V} {H0:Hp} {i:Nat} {T:List V} {H:Hp} {Es:List (Bool×Eff)} {Q:St->Prop} {o:Oper} (E:Eff) (ho:ops[i]?=some o) (hw:wQ ops T o.guard=some true) (hop:uz P G o (ev G T) E H)
  (k:W P G ops draw T0 H0 (i+1) (fQ T o.dst E.v) (E.new++dB E.C H) (Es++[(true,E)]) Q):W P G ops draw T0 H0 i T H Es Q:=by
 obtain ⟨tail,T',H',hc,hk,hq⟩:=k;exact ⟨(true,E)::tail,T',H',.op ho hw hop hc,by rw [lW] at hk;exact hk,hq⟩
theorem W.skip {ops:Array Oper} {draw:Bool} {T0:List V} {H0:Hp} {i:Nat} {T:List V} {H:Hp} {Es:List (Bool×Eff)} {Q:St->Prop} {o:Oper} (ho:ops[i]?=some o) (hw:wQ ops T o.guard=some false)
  (k:W P G ops draw T0 H0 (i+1) (fQ T o.dst V.und) H (Es++[(false,Eff.und)]) Q):W P G ops draw T0 H0 i T H Es Q:=by
 obtain ⟨tail,T',H',hc,hk,hq⟩:=k;exact ⟨(false,Eff.und)::tail,T',H',.skip ho hw hc,by rw [lW] at hk;exact hk,hq⟩
structure Run where
 T:List V
 H:Hp
 Es:List (Bool×Eff)
 deriving Inhabited
def Bh (D:Tab) (G:Nat->Option (List V)) (ops:Array Oper):Nat->Nat->Nat->List V->Hp->Option Run
 | 0,_,_,T,H=>some ⟨T,H,[]⟩
 | n+1,q,i,T,H=>match ops[i]? with
  | none=>none
  | some o=>match wQ ops T o.guard with
   | some true=>match Yd D q H (ev G T) o.op with
    | some E=>match Bh D G ops n (q+E.N.length) (i+1) (fQ T o.dst E.v) (E.new++dB E.C H) with
     | some r=>some ⟨r.T,r.H,(true,E)::r.Es⟩
     | none=>none
    | none=>none
   | some false=>match Bh D G ops n q (i+1) (fQ T o.dst V.und) H with
    | some r=>some ⟨r.T,r.H,(false,Eff.und)::r.Es⟩
    | none=>none
   | none=>none
theorem SS {D:Tab} (hD:dX P D) {ops:Array Oper} {draw:Bool} {T0:List V} {H0:Hp} {Q:St->Prop}:∀ (n:Nat) {q i:Nat} {T:List V} {H:Hp} {Es:List (Bool×Eff)} {r:Run},Bh D G ops n q i T H=some r->W P G ops draw T0 H0 (i+n) r.T r.H (Es++r.Es) Q->W P G ops draw T0 H0 i T H Es Q
 | 0,q,i,T,H,Es,r,h,k=>by simp only [Bh,iI] at h;subst h;simpa using k
 | n+1,q,i,T,H,Es,r,h,k=>by
  simp only [Bh] at h;split at h
  .cases h
  .rename_i o ho;split at h
   .rename_i hw;split at h
    .rename_i E hE;split at h
     .rename_i r' hr;cases h;refine W.one E ho hw (aoP hD hE) ?_;refine SS hD n hr ?_;rw [lW,show i+1+n=i+(n+1) by omega];exact k
     .cases h
    .cases h
   .rename_i hw;split at h
    .rename_i r' hr;cases h;refine W.skip ho hw ?_;refine SS hD n hr ?_;rw [lW,show i+1+n=i+(n+1) by omega];exact k
    .cases h
   .cases h
def nU (D:Tab) (G:Nat->Option (List V)) (ops:Array Oper) (n q i:Nat) (T:List V) (H:Hp):Run:=(Bh D G ops n q i T H).getD default
theorem W.run {D:Tab} (hD:dX P D) {ops:Array Oper} {draw:Bool} {T0:List V} {H0:Hp} {Q:St->Prop} (n q:Nat) {i:Nat} {T:List V} {H:Hp} {Es:List (Bool×Eff)} (h:(Bh D G ops n q i T H).isSome=true)
  (k:W P G ops draw T0 H0 (i+n) (nU D G ops n q i T H).T (nU D G ops n q i T H).H (Es++(nU D G ops n q i T H).Es) Q):W P G ops draw T0 H0 i T H Es Q:=by
 obtain ⟨r,hr⟩:=Sr.1 h;refine SS hD n hr ?_;unfold nU at k;rw [hr] at k;exact k
def zT (m:Ren):List Nat->Nat->List V->List V
 | _,_,[]=>[]
 | ks,i,x::T=>(if ks.contains i then x.rn m else .junk)::zT m ks (i+1) T
def Ob.rn (m:Ren):Ob->Ob
 | .cells e cs=>.cells e (wO m cs)
 | o=>o
def jm (m:Ren):Hp->Hp
 | []=>[]
 | (i,o)::H=>match dP m i with
  | some j=>(j,o.rn m)::jm m H
  | none=>jm m H
theorem Ye (m:Ren) (ks:List Nat):∀ (i:Nat) (T:List V),yL m T (zT m ks i T)
 | _,[]=>trivial
 | i,x::T=>⟨by split<;>simp,Ye m ks (i+1) T⟩
theorem IE (m:Ren):∀ (cs:List V),yL m cs (wO m cs)
 | []=>trivial
 | _::cs=>⟨.inr rfl,IE m cs⟩
theorem agT (m:Ren) (o:Ob):Le m o (o.rn m):=by
 cases o with
 | cells e cs=>exact ⟨rfl,IE m cs⟩
 | vec nn e k rows=>exact ⟨.inl rfl,rfl,rfl,rfl⟩
def Bj (H:Hp):Bool:=decide (H.map (·.1)).Nodup
theorem aFo {H:Hp} (hn:(H.map (·.1)).Nodup) {i:Nat} {o:Ob} (h:(i,o)∈H):look H i=some o:=by
 induction H with
 | nil=>cases h
 | cons p H ih=>
  obtain ⟨j,p⟩:=p;simp only [lH,rG] at hn;simp only [look];rcases jW.1 h with h|h
  .cases h;simp
  .split
   .subst_vars;exact absurd (Cq (f:=(·.1)) h) hn.1
   .exact ih hn.2 h
theorem Po {m:Ren} {H:Hp} (hn:(H.map (·.1)).Nodup):∀ (H':Hp),(∀ p,p∈H'->p∈H)->DW m H (jm m H')
 | [],_=>trivial
 | (i,o)::H',h=>by
  simp only [jm];split
  .rename_i j hj;exact ⟨⟨i,o,hj,aFo hn<|h (i,o) aF,agT m o⟩,Po hn H' fun p hp=>h p<|by simp [hp]⟩
  .exact Po hn H' fun p hp=>h p (by simp [hp])
theorem Weak.to (m:Ren) (ks:List Nat) {T:List V} {H:Hp} {T':List V} {H':Hp} (hm:(m.ok&&m.keep&&Bj H)=true) (hT:zT m ks 0 T=T') (hH:jm m H=H'):Weak ⟨T,H⟩ ⟨T',H'⟩:=by
 subst hT hH;simp only [dA] at hm;exact Weak.rn m hm.1.1 hm.1.2 (Ye m ks 0 T) (Po (qb hm.2) H fun p hp=>hp)
theorem CO.to (m:Ren) (ks:List Nat) {c:Code} {T:List V} {H:Hp} {Q:Exit->St->Prop} (T':List V) (H':Hp) (hm:(m.ok&&m.keep&&Bj H)=true) (hT:zT m ks 0 T=T') (hH:jm m H=H') (k:CO L P G c ⟨T',H'⟩ Q):CO L P G c ⟨T,H⟩ Q:=
 kI (Weak.to m ks hm hT hH) k
def tl (n:Nat) (l:List (Nat×V)):List V:=l.foldl (fun T p=>T.set p.1 p.2) (List.replicate n .junk)
end
end Go.Av
namespace Go.Av
section
variable {P:Program} {G:Nat->Option (List V)}
theorem eu.lay {ρ:Nat->Option Value} {S:Nat->Prop} {F:Nat->List Nat} {H:Hp} {w:World} (hH:eu ρ S F H w) {j:Nat} {nn:Bool} {ty:Tg} {k:Nat} {rows:List (List V)} (hj:look H j=some (.vec nn ty k rows)):
  ∃ ρ' S',eu ρ' S' F (dB [j] H) w/\(∀ i r,ρ' i=some r->ρ i=some r)/\(∀ b,S b->S' b)/\(∃ r,ρ j=some r/\RD S' w r (.sl nn false<|Cr rows) [])/\iT S (Ub H F) w S' (Ub (dB [j] H) F) w:=by
 obtain ⟨r,hr,cB⟩:=hH.obj j _ hj;let ρ':Nat->Option Value:=fun i=>if i=j then none else ρ i
 let S':Nat->Prop:=fun b=>S b\/b∈F j
 have hρ:∀ i r,ρ' i=some r->ρ i=some r:=fun i r hi=>by
  simp only [ρ'] at hi;split at hi
  .cases hi
  .exact hi
 have hS:∀ b,S b->S' b:=fun b hb=>.inl hb;have hl:∀ i o,look (dB [j] H) i=some o->i≠j/\look H i=some o:=fun i o hi=>by
  rw [mV] at hi;split at hi
  .cases hi
  .exact ⟨by simpa using ‹¬i∈[j]›,hi⟩
 have hkeep:Keeps S w S' w:=fun b hb=>⟨hS b hb,rfl⟩
 refine ⟨ρ',S',⟨fun i hi=>?_,fun i o hi=>?_,fun i o hi=>hH.nodup i o (hl i o hi).2,fun i i' o p b hi hi' hne=>hH.jI i i' o p b (hl i o hi).2 (hl i' p hi').2 hne,fun i o b hi hb=>?_,fun i o b hi hb=>hH.lt i o b (hl i o hi).2 hb,fun b hb=>?_⟩,hρ,hS,⟨r,hr,cB.aEc hS fun b hb=>.inr hb⟩,
  ⟨rfl,rfl,rfl,dK _,fun _ _ _=>rfl,hS,fun b hb=>?_,fun b ⟨i,o,hi,hb⟩=>.inl ⟨i,o,(hl i o hi).2,hb⟩⟩⟩
 .simp only [ρ'];split
  .rfl
  .rename_i hne;rw [mV,bL<|by simpa using hne] at hi;exact hH.dom i hi
 .obtain ⟨hne,hi⟩:=hl i o hi;obtain ⟨r',hr',Iw⟩:=hH.obj i o hi;exact ⟨r',by simp only [ρ'];rw [bL hne];exact hr',Iw.mono (fun q r hq _=>hρ q r hq) hkeep fun _ _=>rfl⟩
 .obtain ⟨hne,hi⟩:=hl i o hi;rintro (hs|hs)
  .exact hH.sep i o b hi hb hs
  .exact hH.jI i j o _ b hi hj hne hb hs
 .rcases hb with hb|hb
  .exact hH.slt b hb
  .exact hH.lt j _ b hj hb
 .rcases hb with hb|hb
  .exact .inl hb
  .exact .inr (.inl ⟨j,_,hj,hb⟩)
def Cu (Z:List (Nat×V)):V->V
 | .own j=>match Z.find? (·.1==j) with
  | some p=>p.2
  | none=>.own j
 | .c (.slice none 0 0)=>.sl false false []
 | x=>x
def rJ (Z:List (Nat×V)):V->V
 | .agg cs=>.agg (cs.map<|Cu Z)
 | x=>Cu Z x
def gD (H:Hp):List (Nat×List (List V))->Prop
 | []=>True
 | (j,rows')::Z=>(∃ nn t k rows,look H j=some (.vec nn t k rows)/\Cr rows=rows')/\gD H Z
theorem gD.get {H:Hp}:∀ {Z:List (Nat×List (List V))},gD H Z->∀ {p:Nat×List (List V)},p∈Z->∃ nn t k rows,look H p.1=some (.vec nn t k rows)/\Cr rows=p.2
 | (j,rows')::Z,h,p,hp=>by
  rcases jW.1 hp with rfl|hp
  .exact h.1
  .exact gD.get h.2 hp
def aoQ (H:Hp) (j:Nat):Option (List<|List V):=match look H j with
 | some (.vec _ _ _ rows)=>some rows
 | _=>none
theorem gD.cons {H:Hp} {j:Nat} {Z:List (Nat×List (List V))} {α:Type} (enc enc':α->List V) (l:List α) (h:aoQ H j=some (l.map enc)) (he:∀ x,vv (enc x)=enc' x) (k:gD H Z):gD H ((j,l.map enc')::Z):=by
 unfold aoQ at h;split at h
 .rename_i nn t k' rows hl;cases h;refine ⟨⟨nn,t,k',_,hl,?_⟩,k⟩;rw [Tt,IV];exact yP fun x _=>he x
 .cases h
theorem RD.low {S:Nat->Prop} {w:World} {v:Value} {nn x:Bool} {rows:List (List V)} {F:List Nat} (h:RD S w v (.sl nn x rows) F):RD S w v (.sl false x rows) F:=by
 cases h with
 | lQ=>exact .lQ x
 | shr a cap _ _ k cs hlen hcap hk hc hr=>exact .shr a cap false rows k cs hlen hcap hk hc hr
 | exc g cap arr ety _ _ k cs Fs hh hcap hmax hsz hk hc hr=>exact .exc g cap arr ety false rows k cs Fs hh hcap hmax hsz hk hc hr
def qj (Z:List (Nat×List (List V))):List (Nat×V):=Z.map fun p=>(p.1,.sl false false p.2)
theorem agU (A B:List Nat) (H:Hp) (x:Nat):look (dB A<|dB B H) x=look (dB (B++A) H) x:=by
 simp only [mV,mJ];by_cases h1:x∈A<;>by_cases h2:x∈B<;>simp [h1,h2]
theorem eu.lays {Ll:Nat->Option Value} {S0:Nat->Prop} {F:Nat->List Nat} {H0:Hp} {w:World} (hH0:eu Ll S0 F H0 w):∀ (C:List Nat),C.Nodup->(∀ j,j∈C->∃ nn t k rows,look H0 j=some (.vec nn t k rows))->
  ∃ ρ' S',eu ρ' S' F (dB C H0) w/\(∀ i r,ρ' i=some r->Ll i=some r)/\(∀ b,S0 b->S' b)/\(∀ j,j∈C->∀ nn t k rows,look H0 j=some (.vec nn t k rows)->∃ r,Ll j=some r/\RD S' w r (.sl nn false<|Cr rows) [])/\iT S0 (Ub H0 F) w S' (Ub (dB C H0) F) w
 | [],_,_=>⟨Ll,S0,hH0.congr fun x=>by rw [mV];simp,fun _ _ h=>h,fun _ h=>h,fun j hj=>(by cases hj),⟨rfl,rfl,rfl,dK _,fun _ _ _=>rfl,fun _ h=>h,fun _ h=>.inl h,fun b ⟨i,o,hi,hb⟩=>.inl ⟨i,o,by rw [mV] at hi;simpa using hi,hb⟩⟩⟩
 | j::C,hn,hC=>by
  rw [rG] at hn;obtain ⟨dO,S1,h1,a1,b1,c1,e1⟩:=eu.lays hH0 C hn.2 fun i hi=>hC i (yJ _ hi);obtain ⟨nn,t,k,rows,hj⟩:=hC j aF;have hj':look (dB C H0) j=some (.vec nn t k rows):=by rw [mV,bL hn.1];exact hj
  obtain ⟨oC,S2,h2,a2,b2,c2,e2⟩:=h1.lay hj';have hlk:∀ x,look (dB (j::C) H0) x=look (dB [j]<|dB C H0) x:=fun x=>by
   simp only [mV,jW,aai,aaj];by_cases h1:x=j<;>by_cases h2:x∈C<;>simp [h1,h2]
  refine ⟨oC,S2,h2.congr hlk,fun i r h=>a1 i r<|a2 i r h,fun b h=>b2 b<|b1 b h,fun i hi oD t' k' rows' hl=>?_,?_⟩
  .rcases jW.1 hi with rfl|hi
   .rw [hj] at hl;cases hl;obtain ⟨r,hr,hd⟩:=c2;exact ⟨r,a1 _ r hr,hd⟩
   .obtain ⟨r,hr,hd⟩:=c1 i hi oD t' k' rows' hl;exact ⟨r,hr,hd.mono (fun b hb=>⟨b2 b hb,rfl⟩) fun b hb=>by cases hb⟩
  .have:=e1.trans e2;exact ⟨this.os,this.tape,this.output,this.size,this.keep,this.sub,this.newS,fun b hb=>this.rH b<|Ub.congr hlk hb⟩
def Ob.low (m:Ren):Ob->Ob
 | .cells e cs=>.cells e (wO m cs)
 | .vec _ e k rows=>.vec false e k rows
theorem aFp (m:Ren) (o:Ob):Le m o (o.low m):=by
 cases o with
 | cells e cs=>exact ⟨rfl,IE m cs⟩
 | vec nn e k rows=>exact ⟨.inr rfl,rfl,rfl,rfl⟩
def sU (q:Ren) (H:Hp):Ren->Option Hp
 | []=>some []
 | (j,i)::r=>match look H j,sU q H r with
  | some o,some H'=>some ((i,o.low q)::H')
  | _,_=>none
theorem Pp {q:Ren} {H H1:Hp}:∀ {r:Ren} {Hc:Hp},sU q H r=some Hc->(∀ p,p∈r->dP q p.1=some p.2)->(∀ p,p∈r->look H1 p.1=look H p.1)->DW q H1 Hc
 | [],Hc,h,_,_=>by cases h;trivial
 | (j,i)::r,Hc,h,hq,hl=>by
  simp only [sU] at h;split at h
  .rename_i o H' ho hr;cases h;exact ⟨⟨j,o,hq (j,i) aF,by rw [hl (j,i) aF];exact ho,aFp q o⟩,Pp hr (fun p hp=>hq p<|by simp [hp]) fun p hp=>hl p<|by simp [hp]⟩
  .cases h
theorem abv {m:Ren}:∀ {H:Hp} {j:Nat} {o':Ob},(H.map (·.1)).Nodup->look (jm m H) j=some o'->∃ i o,dP m i=some j/\look H i=some o/\o'=o.rn m
 | [],j,o',_,h=>by cases h
 | (i,o)::H,j,o',hn,h=>by
  simp only [lH,rG] at hn;have step:look (jm m H) j=some o'->∃ i' o2,dP m i'=some j/\look ((i,o)::H) i'=some o2/\o'=o2.rn m:=fun h=>by
   obtain ⟨i',o2,h1,h2,h3⟩:=abv hn.2 h;refine ⟨i',o2,h1,?_,h3⟩;simp only [look];split
   .subst_vars;have hmem:∀ (H:Hp) (i:Nat) (o:Ob),look H i=some o->i∈H.map (·.1):=by
     intro H;induction H with
     | nil=>intro i o h;cases h
     | cons p H ih=>
      obtain ⟨j,p⟩:=p;intro i o h;simp only [look] at h;split at h
      .subst_vars;simp
      .simp only [lH,jW];exact .inr (ih i o h)
    exact absurd (hmem H _ o2 h2) hn.1
   .exact h2
  simp only [jm] at h;split at h
  .rename_i k hk;simp only [look] at h;split at h
   .cases h;subst_vars;exact ⟨i,o,hk,by simp [look],rfl⟩
   .exact step h
  .exact step h
def Eh (q m:Ren) (Z:List Nat) (N:List Nat):Bool:=
 q.ok&&m.ok&&m.all (fun p=>(Nat.ble 100 p.1||dP q p.2==some p.1)&&(Nat.blt p.1 100||N.contains p.2))&&decide Z.Nodup&&q.all (fun p=>!Z.contains p.1&&dP q p.1==some p.2)
theorem uz.call {o:Oper} {e:Operand->V} {Hi:Hp} {f:Operand} {as:Array Operand} {ats:Array TypeId} {fid:FuncId} {caps:List V} (ho:o.op=.call {callee:=.value f,args:=as,argTypes:=ats}) (hf:e f=.fn fid caps) (hcf:vo P fid)
  {vs:List V} {Hc eF:Hp} {rc:V} (h:AC P G fid vs Hc rc eF) (q m:Ren) (Zr:List (Nat×List (List V))) (N:List Nat) (hn:Eh q m (Zr.map (·.1)) N=true) (SV:Bj eF=true)
  (uD:gD Hi Zr) (hh:sU q Hi q=some Hc) (ha:wO q ((as.toList.map e++caps).map<|rJ<|qj Zr)=vs):
  uz P G o e {v:=rc.rn m,C:=Zr.map (·.1)++q.map (·.1),new:=jm m eF,N:=N} Hi:=by
 have hZ:∀ j,j∈Zr.map (·.1)->∃ nn t k rows,look Hi j=some (.vec nn t k rows):=fun j hj=>by
  obtain ⟨p,hp,rfl⟩:=zH.1 hj;obtain ⟨nn,t,k,rows,h1,_⟩:=uD.get hp;exact ⟨nn,t,k,rows,h1⟩
 generalize hZe:Zr.map (·.1)=Z at*;unfold Eh at hn;simp only [dA,kJ,jS,iX,kF] at hn;obtain ⟨⟨⟨⟨n1,n2⟩,n3⟩,n4⟩,n5⟩:=hn;intro e' H he hH hN ρ S F η w bV oF hG;have touched:∀ j,j∈Z++q.map (·.1)->look H j=look Hi j:=fun j hj=>hH j (.inr<|by unfold Eff.touch;simp only [iX,FR];exact .inl hj);have FI:f∈o.op.operands:=by simp [ho,Op.operands,Call.operands]
 have FJ:∀ x,x∈as.toList->x∈o.op.operands:=fun x hx=>by
  simp only [ho,Op.operands,Call.operands];exact Lc.2 (.inr<|by simpa using hx)
 have hfe:e' f=.fn fid caps:=(he f FI).trans hf;have hmap:as.toList.map e'=as.toList.map e:=yP fun x hx=>he x (FJ x hx);obtain ⟨dO,S1,hH1,a1,b1,c1,e1⟩:=oF.lays Z n4 fun j hj=>by
  obtain ⟨nn,t,k,rows,hl⟩:=hZ j hj;exact ⟨nn,t,k,rows,by rw [touched j<|by simp [hj]];exact hl⟩
 have hk:Keeps S w S1 w:=oF.keeps e1;have SX:∀ v x,RV ρ S w v x->RV dO S1 w v (Cu (qj Zr) x):=fun v x hv=>by
  unfold Cu;split
  .rename_i j;split
   .rename_i p hp;have hpm:=aga hp;have Ea:=agd hp;simp only [iG] at Ea;unfold qj at hpm;rw [zH] at hpm;obtain ⟨p',hp',rfl⟩:=hpm;simp only at Ea;obtain ⟨nn,t,k,rows,hl,hsh⟩:=uD.get hp';have Yf:p'.1∈Z:=by rw [<- hZe];exact Cq hp'
    subst Ea;obtain ⟨r,hr,hd⟩:=c1 p'.1 Yf nn t k rows (by rw [touched p'.1<|by simp [Yf]];exact hl);rw [hv.FE r hr];rw [hsh] at hd;exact .sl _ _ _ _ hd.low
   .exact hv.mono (fun i r hi _=>a1 i r hi) hk
  .rw [hv.iK];exact .sl _ _ _ _ (.lQ false)
  .exact hv.mono (fun i r hi _=>a1 i r hi) hk
 have lay:∀ v x,RV ρ S w v x->RV dO S1 w v (rJ (qj Zr) x):=fun v x hv=>by
  unfold rJ;split
  .rename_i cs;obtain ⟨arr,ha,hsz,h1c,hr⟩:=hv.Iu;rw [ha];refine .agg arr _ (by simpa using hsz) h1c fun j x c hx hc=>?_;rw [gy,eY] at hx;obtain ⟨y,hy,rfl⟩:=hx;obtain ⟨c',hc',uw⟩:=hr j y hy;rw [hc] at hc';cases hc';exact SX c y uw
  .exact SX v x hv
 have aHC:∀ v x,RV ρ S w v x->RV dO S1 w v x:=fun v x hv=>hv.mono (fun i r hi _=>a1 i r hi) hk;have zS:=bV f FI;rw [hfe] at zS;obtain ⟨arr,harr,hsz,hcap⟩:=zS.SK;have fits:XP q m ((as.toList.map e'++caps).map<|rJ<|qj Zr) (dB Z H) vs Hc rc eF (rc.rn m) (jm m eF++dB (q.map (·.1)) (dB Z H)) N:=by
  have Yg:∀ p,p∈q->p.1∉Z/\dP q p.1=some p.2:=fun p hp=>by
   have:=n5 p hp;simp only [iG] at this;exact ⟨by simpa using this.1,this.2⟩
  refine ⟨n1,n2,?_,Pp hh (fun p hp=>(Yg p hp).2) fun p hp=>?_,rfl,fun j o' hj=>?_,fun i j hij hi=>?_,fun i j hij hi=>?_,fun j hj=>?_⟩
  .rw [hmap];have key:∀ (l:List V),yL q l (wO q l):=IE q;rw [<- ha];exact key _
  .rw [mV,bL (Yg p hp).1];exact touched p.1 (mJ.2<|.inr<|Cq hp)
  .rw [Lj] at hj;cases hkj:look (jm m eF) j with
   | some o2=>
    rw [hkj] at hj;cases hj;obtain ⟨i,o2,h1,h2,h3⟩:=abv (qb SV) hkj;exact .inr ⟨i,o2,h1,h2,h3 ▸ agT m o2⟩
   | none=>
    rw [hkj] at hj;simp only at hj;rw [mV] at hj;split at hj
    .cases hj
    .rename_i hnq;refine .inl ⟨?_,hj,fun i hij=>?_⟩
     .cases hq:dP q j with
      | none=>rfl
      | some i=>exact absurd (Cq (f:=(·.1))<|wP hq) hnq
     .have h3:=n3 _ (wP hij);rcases vY i 100 with hlt|hge
      .have:=h3.1;rcases this with h|h
       .rw [zQ] at h;simp only at h;omega
       .simp only [iG] at h;exact hnq (Cq (f:=(·.1))<|wP h)
      .have:=h3.2;rcases this with h|h
       .rw [Iq] at h;simp only at h;omega
       .simp only [FR] at h;have Eb:=kJ.1 hN j h;simp only [kF] at Eb;have:=(yK Eb).1;rw [mV] at hj;split at hj
        .cases hj
        .rw [this] at hj;cases hj
  .have h3:=(n3 _<|wP hij).1;rcases h3 with h|h
   .rw [zQ] at h;simp only at h;omega
   .simpa using h
  .have h3:=(n3 _<|wP hij).2;rcases h3 with h|h
   .rw [Iq] at h;simp only at h;omega
   .simpa using h
  .have Eb:=kJ.1 hN j hj;simp only [kF] at Eb;rw [mV];split
   .rfl
   .exact (yK Eb).1
 unfold pK execOp;simp only [ho,resolve,harr,Deferred.ofValue,gq,jT,gJ,invoke,XJ];have XU:=hcf (as.map η++arr) w;simp only [XU];have hcall:=agn h fits (ρ:=dO) (S:=S1) (F:=F) (xs:=as.map η++arr) (w:=w) (by simp [hsz]) (fun i x hx=>?_) hH1 (hG.mono hk) (fun j o' hj i hi=>?_)
 .refine hcall.mono ?_;rintro en w' ⟨x,rfl,hp⟩;refine ⟨x,rfl,?_⟩;obtain ⟨ρ',S',F',hv,oG,hE',hA'⟩:=hp;have hlk:∀ y,look (jm m eF++dB (Z++q.map (·.1)) H) y=look (jm m eF++dB (q.map (·.1)) (dB Z H)) y:=fun y=>by
   simp only [Lj,agU]
  have:=e1.trans hE';exact ⟨ρ',S',F',hv,oG.congr hlk,⟨this.os,this.tape,this.output,this.size,this.keep,this.sub,this.newS,fun b hb=>this.rH b<|Ub.congr hlk hb⟩,fun j r hj hN=>a1 j r<|hA' j r hj hN⟩
 .rw [gy,eY] at hx;obtain ⟨x0,hx0,rfl⟩:=hx;refine lay _ _ ?_;by_cases hi:i < as.size
  .rw [sw (by simpa using hi),gy,eY] at hx0;obtain ⟨y,hy,rfl⟩:=hx0;have hy':as[i]?=some y:=by simpa using hy
   have:(as.map η++arr).getD i undef=η y:=by
    rw [lM,Sv (by simpa using hi),Pb,hy'];rfl
   rw [this];exact bV y (FJ y<|nk hy)
  .rw [qB<|by simpa using hi] at hx0;simp only [Fg,Bc] at hx0;have hlt:i - as.size < arr.size:=by rw [hsz];exact (dV.1 hx0).1
   have:(as.map η++arr).getD i undef=arr[i - as.size]:=by
    rw [lM,afZ<|by simpa using hi];simp [lN hlt]
   rw [this];exact hcap _ x0 _ hx0 (lN hlt)
 .rw [mV] at hj;split at hj
  .cases hj
  .have Yh:=kJ.1 hN i hi;simp only [kF] at Yh;exact (yK Yh).2 j o' hj
end
end Go.Av
namespace Go.Av
section
variable {P:Program} {G:Nat->Option (List V)}
theorem aoR {ρ:Nat->Option Value} {S:Nat->Prop} {F:Nat->List Nat} {H:Hp} {w w':World} (hH:eu ρ S F H w) (C:List Nat) {i:Nat} {o:Ob} {root:Value} (hroot:ρ i=some root) {Fi:List Nat}
  (hos:w'.os=w.os) (XV:w'.tape=w.tape) (hout:w'.output=w.output) (hsize:w.heap.size<=w'.heap.size) (hkeep:∀ b,b < w.heap.size->(∀ c o,c∈C->look H c=some o->b∈F c->False)->w'.heap[b]?=w.heap[b]?)
  (Iw:∀ ρ',jf ρ' S w' root o Fi) (hnd:Fi.Nodup) (jl:∀ b,b∈Fi->(∃ c o,c∈C/\look H c=some o/\b∈F c)\/(w.heap.size<=b/\b < w'.heap.size))
  {x:Value} {v:V} (hv:RV (fun j=>if j=i then some root else if j∈C then none else ρ j) S w' x v):Post ρ S F H w v ((i,o)::dB C H) [] x w':=by
 let ρ':Nat->Option Value:=fun j=>if j=i then some root else if j∈C then none else ρ j
 have hρ:∀ j r,ρ' j=some r->ρ j=some r:=fun j r hj=>by
  simp only [ρ'] at hj;split at hj
  .subst_vars;exact hroot.trans hj
  .split at hj
   .cases hj
   .exact hj
 have kS:∀ b,S b->w'.heap[b]?=w.heap[b]?:=fun b hb=>hkeep b (hH.slt b hb) fun c o _ ho hc=>hH.sep c o b ho hc hb;have hk:Keeps S w S w':=fun b hb=>⟨hb,kS b hb⟩
 have kO:∀ j p b,j∉C->look H j=some p->b∈F j->w'.heap[b]?=w.heap[b]?:=fun j p b hj hp hb=>hkeep b (hH.lt j p b hp hb) fun c o hc ho hbc=>hH.jI j c p o b hp ho (fun e=>hj<|e ▸ hc) hb hbc;have vg:∀ j p,look ((i,o)::dB C H) j=some p->(j=i/\p=o)\/(j≠i/\j∉C/\look H j=some p):=fun j p hp=>by
  simp only [look,mV] at hp;split at hp
  .cases hp;exact .inl ⟨‹_›,rfl⟩
  .split at hp
   .cases hp
   .exact .inr ⟨‹_›,‹_›,hp⟩
 have far:∀ j p b,j∉C->look H j=some p->b∈F j->b∈Fi->False:=fun j p b hj hp hb hbi=>by
  rcases jl b hbi with ⟨c,q,hc,hq,hbc⟩|⟨h1,_⟩
  .exact hH.jI j c p q b hp hq (fun e=>hj<|e ▸ hc) hb hbc
  .have:=hH.lt j p b hp hb;omega
 refine ⟨ρ',S,fun j=>if j=i then Fi else F j,hv,⟨fun j hj=>?_,fun j p hp=>?_,fun j p hp=>?_,fun j j' p p' b hj hj' hne hb hb'=>?_,fun j p b hp hb=>?_,fun j p b hp hb=>?_,fun b hb=>Bb (hH.slt b hb) hsize⟩,
  ⟨hos,XV,hout,hsize,fun b hb hu=>hkeep b hb fun c o _ ho hbc=>hu ⟨c,o,ho,hbc⟩,fun _ h=>h,fun _ h=>.inl h,fun b hb=>?_⟩,fun j r hj _=>?_⟩
 .simp only [look,mV] at hj;simp only [ρ'];split at hj
  .cases hj
  .rename_i hne;rw [bL hne];split at hj
   .rw [bU ‹_›]
   .rw [bL ‹_›];exact hH.dom j hj
 .rcases vg j p hp with ⟨rfl,rfl⟩|⟨hne,hC,hp⟩
  .exact ⟨root,by simp [ρ'],by rw [bU rfl];exact Iw ρ'⟩
  .obtain ⟨r,hr,Iy⟩:=hH.obj j p hp;refine ⟨r,by simp only [ρ',bL hne,bL hC];exact hr,?_⟩;rw [bL hne];exact Iy.mono (fun q r hq _=>hρ q r hq) hk (fun b hb=>kO j p b hC hp hb)
 .rcases vg j p hp with ⟨rfl,rfl⟩|⟨hne,hC,hp⟩
  .rw [bU rfl];exact hnd
  .rw [bL hne];exact hH.nodup j p hp
 .rcases vg j p hj with ⟨rfl,rfl⟩|⟨hne1,hC1,hp1⟩
  .rcases vg j' p' hj' with ⟨rfl,rfl⟩|⟨hne2,hC2,hp2⟩
   .exact hne rfl
   .rw [bU rfl] at hb;rw [bL hne2] at hb';exact far j' p' b hC2 hp2 hb' hb
  .rcases vg j' p' hj' with ⟨rfl,rfl⟩|⟨hne2,hC2,hp2⟩
   .rw [bL hne1] at hb;rw [bU rfl] at hb';exact far j p b hC1 hp1 hb hb'
   .rw [bL hne1] at hb;rw [bL hne2] at hb';exact hH.jI j j' p p' b hp1 hp2 hne hb hb'
 .rcases vg j p hp with ⟨rfl,rfl⟩|⟨hne,hC,hp⟩
  .rw [bU rfl] at hb;intro hs;rcases jl b hb with ⟨c,q,hc,hq,hbc⟩|⟨h1,_⟩
   .exact hH.sep c q b hq hbc hs
   .have:=hH.slt b hs;omega
  .rw [bL hne] at hb;exact hH.sep j p b hp hb
 .rcases vg j p hp with ⟨rfl,rfl⟩|⟨hne,hC,hp⟩
  .rw [bU rfl] at hb;rcases jl b hb with ⟨c,q,hc,hq,hbc⟩|⟨_,h2⟩
   .exact Bb (hH.lt c q b hq hbc) hsize
   .exact h2
  .rw [bL hne] at hb;exact Bb (hH.lt j p b hp hb) hsize
 .obtain ⟨j,p,hp,hb⟩:=hb;rcases vg j p hp with ⟨rfl,rfl⟩|⟨hne,hC,hp⟩
  .replace hb:b∈(if j=j then Fi else F j):=hb
   rw [bU rfl] at hb;rcases jl b hb with ⟨c,q,hc,hq,hbc⟩|⟨h1,_⟩
   .exact .inl ⟨c,q,hq,hbc⟩
   .exact .inr h1
  .replace hb:b∈(if j=i then Fi else F j):=hb
   rw [bL hne] at hb;exact .inl ⟨j,p,hp,hb⟩
 .exact hρ j r hj
theorem SY {n k:Nat} {Fs:Nat->Nat->List Nat}:(flat n k Fs).Nodup↔(∀ i j,i < n->j < k->(Fs i j).Nodup)/\(∀ i j i' j' b,i < n->j < k->i' < n->j' < k->b∈Fs i j->b∈Fs i' j'->i=i'/\j=j'):=by
 have row:∀ i,((List.range k).flatMap fun j=>Fs i j).Nodup↔(∀ j,j < k->(Fs i j).Nodup)/\∀ j j' b,j < k->j' < k->b∈Fs i j->b∈Fs i j'->j=j':=fun i=>by
  unfold List.Nodup;rw [agb];constructor
  .rintro ⟨h1,h2⟩;refine ⟨fun j hj=>h1 j (by simpa using hj),fun j j' b hj hj' hb hb'=>?_⟩;rw [aaQ] at h2;rcases Rw j j' with h|h|h
   .exact absurd rfl (h2 j j' (by simpa using hj) (by simpa using hj') h b (by simpa using hb) b<|by simpa using hb')
   .exact h
   .exact absurd rfl (h2 j' j (by simpa using hj') (by simpa using hj) h b (by simpa using hb') b<|by simpa using hb)
  .rintro ⟨h1,h2⟩;refine ⟨fun j hj=>h1 j (by simpa using hj),?_⟩;rw [aaQ];intro j j' hj hj' hlt x hx y hy e;simp only [List.length_range] at hj hj';simp only [List.getElem_range] at hx hy;subst e;have:=h2 j j' x hj hj' hx hy;omega
 unfold flat
 constructor
 .intro h;unfold List.Nodup at h;rw [agb] at h;obtain ⟨h1,h2⟩:=h;refine ⟨fun i j hi hj=>((row i).1<|h1 i<|by simpa using hi).1 j hj,fun i j i' j' b hi hj hi' hj' hb hb'=>?_⟩;rw [aaQ] at h2;have m:∀ i j,j < k->b∈Fs i j->b∈(List.range k).flatMap fun j=>Fs i j:=fun i j hj hb=>uY.2 ⟨j,by simpa using hj,hb⟩;have e:i=i':=by
   rcases Rw i i' with h|h|h
   .exact absurd rfl (h2 i i' (by simpa using hi) (by simpa using hi') h b (by simpa using m i j hj hb) b<|by simpa using m i' j' hj' hb')
   .exact h
   .exact absurd rfl (h2 i' i (by simpa using hi') (by simpa using hi) h b (by simpa using m i' j' hj' hb') b<|by simpa using m i j hj hb)
  subst e;exact ⟨rfl,((row i).1<|h1 i<|by simpa using hi).2 j j' b hj hj' hb hb'⟩
 .rintro ⟨h1,h2⟩;unfold List.Nodup;rw [agb];refine ⟨fun i hi=>(row i).2 ⟨fun j hj=>h1 i j (by simpa using hi) hj,fun j j' b hj hj' hb hb'=>(h2 i j i j' b (by simpa using hi) hj (by simpa using hi) hj' hb hb').2⟩,?_⟩;rw [aaQ];intro i i' hi hi' hlt x hx y hy e;simp only [List.length_range] at hi hi';simp only [List.getElem_range] at hx hy;subst e;obtain ⟨j,hj,hb⟩:=uY.1 hx;obtain ⟨j',hj',hb'⟩:=uY.1 hy;have:=(h2 i j i' j' x hi (by simpa using hj) hi' (by simpa using hj') hb hb').1;omega
theorem aFr {D:Tab} (hD:dX P D) {o:Oper} {e:Operand->V} {H:Hp} {t:TypeId} {a x:Operand} {it:Ty} {i k m b:Nat} {nn:Bool} {ety:Tg} {rows:List (List V)} {row cs ys:List V} {C:List Nat}
  (ho:o.op=.store t a x) (ht:D.at t=some it) (ha:e a=.vp i k m b) (hi:look H i=some (.vec nn ety k rows)) (hrow:rows[m]?=some row) (hx:uy H (e x)=some cs) (habs:vk H cs=some (ys,C)) (hC:C.Nodup) (hiC:i∉C)
  (hsz:cs.length=it.size) (hfit:b+cs.length<=k):
  gH P G o e H .junk ((i,.vec nn ety k<|rows.set m<|putAt row ys b)::dB (i::C) H) []:=by
 intro ρ S F η w bV hH hG;have h1:=bV a (by simp [ho,Op.operands]);have h2:=(bV x<|by simp [ho,Op.operands]).cells hH hx;rw [ha] at h1;obtain ⟨r,hr,cB⟩:=hH.obj i _ hi;have agV:=hH.nodup i _ hi;obtain ⟨g,n,cap,e1,e2⟩:=h1.agy r hr;obtain ⟨hyl,hlive,Cs,hCs,hget⟩:=agM hH cs habs;have hm:m < rows.length:=(dV.1 hrow).1;have hrl:row.length=k:=by
  generalize F i=Fi at cB;cases cB with
  | mU=>simp at hrow
  | vec _ _ _ _ _ _ _ _ _ _ _ _ _ hk=>exact hk m row hrow
 have aoT:(putAt row ys b).length=k:=by
  unfold putAt;simp only [ny,EY,EZ];omega
 have agW:∀ (q:Nat) (r':List V),(rows.set m<|putAt row ys b)[q]?=some r'->(q=m/\r'=putAt row ys b)\/(q≠m/\rows[q]?=some r'):=fun q r' hq=>by
  rw [FB] at hq;by_cases h:m=q
  .rw [bU h,bU hm] at hq;exact .inl ⟨h.symm,(iV hq).symm⟩
  .rw [bL h] at hq;exact .inr ⟨fun h'=>h h'.symm,hq⟩
 have hput:∀ (j:Nat) (y:V),(putAt row ys b)[j]?=some y->(b<=j/\j < b+cs.length/\ys[j - b]?=some y)\/((j < b\/b+cs.length<=j)/\row[j]?=some y):=fun j y hj=>by
  have hlt:=(dV.1 hj).1;rw [aoT] at hlt;unfold putAt at hj;rw [lW] at hj;by_cases hb:j < b
  .rw [sw bZ,zw,bU hb] at hj;exact .inr ⟨.inl hb,hj⟩
  .rw [qB bZ] at hj;simp only [EY] at hj;rw [show j - min b row.length=j - b by omega] at hj;by_cases hb2:j - b < ys.length
   .rw [sw hb2] at hj;exact .inl ⟨ah,ah,hj⟩
   .rw [qB ah,BX] at hj;rw [show b+ys.length+(j - b - ys.length)=j by omega] at hj;exact .inr ⟨.inr ah,hj⟩
 have Iy:∃ (arr:Array Value) (cc:Nat->Nat->Value) (Fs:Nat->Nat->List Nat) (e0:TypeId),ety.ok k e0 (.slice (some ⟨g,0,none⟩) rows.length cap)/\r=.slice (some ⟨g,0,none⟩) rows.length cap/\F i=g::flat rows.length k Fs/\w.heap[g]?=some (.cells arr e0 (0,0))/\rows.length<=cap/\cap<=maxLen/\arr.size=cap*k/\
   (∀ (i:Nat) (r:List V),rows[i]?=some r->r.length=k)/\(∀ (i j:Nat) (r:List V) (x:V),rows[i]?=some r->r[j]?=some x->arr[i*k+j]?=some (cc i j))/\(∀ (i j:Nat) (r:List V) (x:V),rows[i]?=some r->r[j]?=some x->RD S w (cc i j) x (Fs i j)):=by
  generalize F i=Fi at cB;cases cB with
  | mU=>simp at hrow
  | vec g' cap' arr _ _ _ _ cc Fs hh hcap hmax Yi hk hc hrd ht=>
   cases e1;exact ⟨arr,cc,Fs,_,ht,rfl,rfl,hh,hcap,hmax,Yi,hk,hc,hrd⟩
 obtain ⟨arr,cc,Fs,e0,qA,hroot,jl,hh,hcap,hmax,Yi,hk,hc,hrd⟩:=Iy;have hmk:m*k+k<=cap*k:=by
  have:=Fy k (show m+1<=cap by omega);rw [DV,aaZ] at this;exact this
 have hlen:(η x).cells.toList.length=cs.length:=by simpa using h2.1
 have hst:=agc P g (m*k+b) e0 (η x).cells.toList 0 arr w hh (by rw [hlen,Yi];omega) (fun v hv=>by
  obtain ⟨p,hp⟩:=Kh hv;exact h2.2.1 p v<|by simpa using hp)
 simp only [EP] at hst;let out:Array Value:=(arr.toList.take (m*k+b)++(η x).cells.toList++arr.toList.drop (m*k+b+(η x).cells.toList.length)).toArray
 have hrun:(execOp η o).run P w=.ok .skip (w.setRow g out):=by
  unfold execOp;simp only [ho,Instr.storeAt,Instr.sureAddr,e2,storeVar,gq,jT,gJ,(hD _ _ ht).sizeOf w];rw [bL (by have:=h2.1;omega)];simp only [hst,gJ];rfl
 unfold pK;rw [hrun];have hkeep:∀ b,b≠g->(w.setRow g out).heap[b]?=w.heap[b]?:=fun b hb=>agh w g b _ hb;have hgS: ¬S g:=hH.sep i _ g hi (by rw [jl];simp);have SF:Keeps S w S (w.setRow g out):=fun b hb=>⟨hb,hkeep b fun e=>hgS<|e ▸ hb⟩
 have hout:∀ p,out[p]?=if p < m*k+b then arr[p]? else if p < m*k+b+cs.length then (η x).cells[p - (m*k+b)]? else arr[p]?:=fun p=>by
  simp only [out,KW];rw [XT _ _ _ _ bZ,hlen];simp only [Sy];by_cases h1:p < m*k+b
  .rw [bL ah,bU h1]
  .rw [bL h1];by_cases h2:p < m*k+b+cs.length
   .rw [bU ⟨ah,h2⟩,bU h2]
   .rw [bL ah,bL h2]
 have aFs:out.size=cap*k:=by
  simp only [out,WC,ny,EY,EZ,Bc];have:=h2.1;omega
 have hblk:∀ c o',c∈C->look H c=some o'->g∉F c:=fun c o' hcC hl hb=>hH.jI c i o' _ g hl hi (fun e=>hiC<|e ▸ hcC) hb (by rw [jl];simp);let Gs:Nat->Nat->List Nat:=fun q j=>if q=m/\b<=j/\j < b+cs.length then (Cs<|j - b).flatMap F else Fs q j
 let gg:Nat->Nat->Value:=fun q j=>out.getD (q*k+j) undef
 have abw:∀ p c,p < cs.length->c∈Cs p->c∈C:=fun p c hp hc=>by rw [hCs];exact uY.2 ⟨p,by simpa using hp,hc⟩
 have idx:∀ q j,q≠m->j < k->(q*k+j < m*k\/m*k+k<=q*k+j):=fun q j hne hj=>by
  rcases aaS hne with h|h
  .left;have:=Fy k (show q+1<=m by omega);rw [DV,aaZ] at this;omega
  .right;have:=Fy k (show m+1<=q by omega);rw [DV,aaZ] at this;omega
 have cell:∀ (q j:Nat) (r':List V) (y:V),(rows.set m<|putAt row ys b)[q]?=some r'->r'[j]?=some y->∃ c,out[q*k+j]?=some c/\RD S (w.setRow g out) c y (Gs q j):=by
  intro q j r' y hq hj;have hjk:j < k:=by
   have h':=(dV.1 hj).1;rcases agW q r' hq with ⟨_,rfl⟩|⟨_,hq'⟩
   .omega
   .rw [hk q r' hq'] at h';exact h'
  have stay:∀ (r0:List V),rows[q]?=some r0->r0[j]?=some y->(¬(q=m/\b<=j/\j < b+cs.length))->∃ c,out[q*k+j]?=some c/\RD S (w.setRow g out) c y (Gs q j):=by
   intro r0 hr0 hj0 hno;refine ⟨cc q j,?_,?_⟩
   .rw [hout];have:(q*k+j < m*k+b\/m*k+b+cs.length<=q*k+j):=by
     by_cases hqm:q=m
     .subst hqm;have: ¬(b<=j/\j < b+cs.length):=fun h=>hno ⟨rfl,h⟩;omega
     .rcases idx q j hqm hjk with h|h<;>omega
    rcases this with h|h
    .rw [bU h];exact hc q j r0 y hr0 hj0
    .rw [bL ah,bL ah];exact hc q j r0 y hr0 hj0
   .simp only [Gs];rw [bL hno];refine (hrd q j r0 y hr0 hj0).mono SF fun b' hb'=>hkeep b' fun e=>?_;rw [jl,rG] at agV;refine agV.1 (wM.2 ⟨q,j,(dV.1 hr0).1,hjk,?_⟩);exact e ▸ hb'
  rcases agW q r' hq with ⟨rfl,rfl⟩|⟨hne,hq'⟩
  .rcases hput j y hj with ⟨hb1,hb2,hy⟩|⟨hb1,hy⟩
   .obtain ⟨x0,hx0,hax⟩:=hget _ y hy;obtain ⟨c,hc1,hc2⟩:=h2.2.2 _ x0 hx0;obtain ⟨Fx,hd,rfl,_,hlv⟩:=aox hH hax hc2;refine ⟨c,?_,?_⟩
    .rw [hout,bL ah,bU ah,show q*k+j - (q*k+b)=j - b by omega];exact hc1
    .simp only [Gs];rw [bU ⟨trivial,hb1,hb2⟩];refine hd.mono SF fun b' hb'=>hkeep b' fun e=>?_;obtain ⟨c',hc',hbc⟩:=uY.1 hb';obtain ⟨o',ho'⟩:=hlv c' hc';exact hblk c' o' (abw _ c' ah hc') ho' (e ▸ hbc)
   .exact stay row hrow hy (fun h=>ah)
  .exact stay r' hq' hj (fun h=>hne h.1)
 have hC2:(C.flatMap F).Nodup:=aoz hC (fun c hc=>by obtain ⟨o',ho'⟩:=hlive c hc;exact hH.nodup c o' ho') (fun c c' b' hc hc' hne hb hb'=>by
  obtain ⟨o1,ho1⟩:=hlive c hc;obtain ⟨o2,ho2⟩:=hlive c' hc';exact hH.jI c c' o1 o2 b' ho1 ho2 hne hb hb')
 have agX:=agV;rw [jl,rG] at agX;have hFs:=SY.1 agX.2;have aFt:((List.range cs.length).flatMap fun p=>(Cs p).flatMap F).Nodup:=by rw [<- List.flatMap_assoc,<- hCs];exact hC2
 have aoV:=(SY (n:=1) (k:=cs.length) (Fs:=fun _ p=>(Cs p).flatMap F)).1 (by simpa [flat] using aFt);have mixed:∀ (p:Nat) (q j b':Nat),p < cs.length->q < rows.length->j < k->b'∈(Cs p).flatMap F->b'∈Fs q j->False:=fun p q j b' hp hq hj hb hb'=>by
  obtain ⟨c',hc',hbc⟩:=uY.1 hb;obtain ⟨o',ho'⟩:=hlive c' (abw p c' hp hc');exact hH.jI c' i o' _ b' ho' hi (fun e=>hiC<|e ▸ abw p c' hp hc') hbc (by rw [jl];exact yJ _<|wM.2 ⟨q,j,hq,hj,hb'⟩)
 have hGn:(flat rows.length k Gs).Nodup:=by
  rw [SY];refine ⟨fun q j hq hj=>?_,fun q j q' j' b' hq hj hq' hj' hb hb'=>?_⟩
  .simp only [Gs];split
   .exact aoV.1 0 (j - b) ah ah
   .exact hFs.1 q j hq hj
  .simp only [Gs] at hb hb';split at hb
   .rename_i h1;split at hb'
    .rename_i h2;have:=(aoV.2 0 (j - b) 0 (j' - b) b' ah ah ah ah hb hb').2;omega
    .exact (mixed (j - b) q' j' b' ah hq' hj' hb hb').elim
   .split at hb'
    .exact (mixed (j' - b) q j b' ah hq hj hb' hb).elim
    .exact hFs.2 q j q' j' b' hq hj hq' hj' hb hb'
 have aoW:∀ b',b'∈flat rows.length k Gs->b'∈flat rows.length k Fs\/∃ c,c∈C/\b'∈F c:=fun b' hb=>by
  obtain ⟨q,j,hq,hj,hb⟩:=wM.1 hb;simp only [Gs] at hb;split at hb
  .obtain ⟨c',hc',hbc⟩:=uY.1 hb;exact .inr ⟨c',abw _ c' ah hc',hbc⟩
  .exact .inl (wM.2 ⟨q,j,hq,hj,hb⟩)
 have abx:(rows.set m<|putAt row ys b).length=rows.length:=aF;refine aoR hH (i::C) (w':=w.setRow g out) (i:=i) (root:=r) (Fi:=g::flat rows.length k Gs) hr rfl rfl rfl aF (fun b' hb' hno=>hkeep b' fun e=>hno i _ aF hi<|by rw [jl,e];simp) (fun ρ'=>?_) ?_ (fun b' hb=>?_) (.junk _)
 .rw [hroot];have hlr:Value.slice (some ⟨g,0,none⟩) rows.length cap=Value.slice (some ⟨g,0,none⟩) (rows.set m<|putAt row ys b).length cap:=by rw [abx]
  rw [hlr,show flat rows.length k Gs=flat (rows.set m<|putAt row ys b).length k Gs by rw [abx]];refine .vec g cap out nn ety k _ gg Gs (setRow_heap w g arr _ e0 _ hh) (by rw [abx];exact hcap) hmax aFs (fun q r' hq=>?_) (fun q j r' y hq hj=>?_) (fun q j r' y hq hj=>?_) (by rw [abx];exact qA)
  .rcases agW q r' hq with ⟨_,rfl⟩|⟨_,hq'⟩
   .exact aoT
   .exact hk q r' hq'
  .obtain ⟨c,hc1,_⟩:=cell q j r' y hq hj;simp [gg,lM,hc1]
  .obtain ⟨c,hc1,hc2⟩:=cell q j r' y hq hj;have:gg q j=c:=by simp [gg,lM,hc1]
   rw [this];exact hc2
 .rw [rG];refine ⟨fun hg=>?_,hGn⟩;rcases aoW g hg with h|⟨c,hc,hb⟩
  .exact agX.1 h
  .obtain ⟨o',ho'⟩:=hlive c hc;exact hblk c o' hc ho' hb
 .rcases jW.1 hb with rfl|hb
  .exact .inl ⟨i,_,aF,hi,by rw [jl];simp⟩
  .rcases aoW b' hb with h|⟨c,hc,hb⟩
   .exact .inl ⟨i,_,aF,hi,by rw [jl];exact yJ _ h⟩
   .obtain ⟨o',ho'⟩:=hlive c hc;exact .inl ⟨c,o',by simp [hc],ho',hb⟩
def V.clean:V->V
 | .sl _ true _=>.junk
 | x=>x
theorem RD.clean {ρ:Nat->Option Value} {S:Nat->Prop} {w:World} {v:Value} {x:V} {F:List Nat} (h:RD S w v x F):RV ρ S w v x.clean:=by
 cases h with
 | c v h=>exact .c v
 | lQ x=>cases x<;>first|exact .junk _|exact .sl _ _ _ _ (.lQ _)
 | shr a cap nn rows k cs hlen hcap hk hc hr=>exact .sl _ _ _ _ (.shr a cap nn rows k cs hlen hcap hk hc hr)
 | exc=>exact .junk _
theorem aFu {D:Tab} (hD:dX P D) {o:Oper} {e:Operand->V} {H:Hp} {t:TypeId} {a:Operand} {i k m b:Nat} {nn:Bool} {ety:Tg} {rows:List (List V)} {row:List V} {v:V}
  (ho:o.op=.load t a) (ha:e a=.vp i k m b) (hi:look H i=some (.vec nn ety k rows)) (hrow:rows[m]?=some row) (hv:FD D t ((row.drop b).map V.clean)=some v):gH P G o e H v H []:=by
 refine Ct fun ρ S F η w bV hH=>?_;have h1:=bV a (by simp [ho,Op.operands]);rw [ha] at h1;obtain ⟨r,hr,cB⟩:=hH.obj i _ hi;obtain ⟨g,n,cap,e1,e2⟩:=h1.agy r hr;unfold execOp;simp only [ho,e2];generalize F i=Fi at cB;cases cB with
 | mU=>simp at hrow
 | vec g' cap' arr _ _ _ _ cc Fs hh hcap hmax Yi hk hc hrd=>
  cases e1;obtain ⟨u,hu,uw⟩:=agA hD hv (ρ:=ρ) (S:=S) (w:=w) (a:=⟨g,m*k+b,none⟩) (cc:=fun j=>cc m<|b+j) fun j x hx=>by
   rw [gy,eY] at hx;obtain ⟨y,hy,rfl⟩:=hx;rw [BX] at hy;have hcell:=hc m (b+j) row y hrow hy;rw [Ip,SA w g (m*k+b+j) arr _ (0,0) hh,show m*k+b+j=m*k+(b+j) by omega];exact ⟨hcell,(hrd m (b+j) row y hrow hy).one,(hrd m (b+j) row y hrow hy).clean⟩
  exact ⟨u,by simp [Instr.loadAt,Instr.sureAddr,hu],uw⟩
end
end Go.Av
namespace Go.Av
section
variable {P:Program} {G:Nat->Option (List V)}
theorem gH.makeSlice {D:Tab} (hD:dX P D) {o:Oper} {e:Operand->V} {H:Hp} {t el:TypeId} {l c:Operand} {it ie:Ty} (q n:Nat) {kl kc:IntKind} {nl nc:Int}
  (ho:o.op=.makeSlice t l c) (ht:D.at t=some it) (hit:it.d=.slice el) (hel:D.at el=some ie) (aHD:ie.size≠0) (hl:e l=.c (.int kl nl)) (hc:e c=.c (.int kc nc)) (hnl:nl=n) (hnc:nc=n)
  (hb:ie.bytes*n<=281474976710656) (hmax:n<=maxLen) (hq:gV q H=false):
  gH P G o e H (.own q) ((q,.vec false el ie.size<|List.replicate n<|ie.zero.map .c)::dB [] H) [q]:=by
 intro ρ S F η w bV hH hG;have h1:=bV l (by simp [ho,Op.operands]);have h2:=bV c (by simp [ho,Op.operands]);rw [hl] at h1;rw [hc] at h2;obtain ⟨⟨inf,z0,e1,e2,e3,e4,e5,e6,e7⟩,_,_⟩:=hD _ _ hel;have hzs:z0.cells.size=ie.size:=by rw [<- Bc,e5,e7]
 subst hnl hnc;have hb':(inf.bytes:Int)*(n:Int)<=281474976710656:=by
  rw [e3];have h:((ie.bytes*n:Nat):Int)<=281474976710656:=ah;rwa [Int.natCast_mul] at h
 have hr:=run_make (P:=P) w t el inf z0 (IB hD ht hit) e1 e4 kl kc n n ah (Dt _) hb' (by simp only [maxLen] at hmax;omega);simp only [Hg] at hr;have hrun:(execOp η o).run P w=.ok (.value<|.slice (some ⟨w.heap.size,0,none⟩) n n) (w.alloc<|.cells (madeCells z0.cells<|n*inf.size) el):=by
  unfold execOp;simp only [ho,h1.iK,h2.iK,hr,gq,gJ,jT]
 unfold pK;rw [hrun,e2];have hrow:∀ (i:Nat) (r:List V),(List.replicate n<|ie.zero.map V.c)[i]?=some r->i < n/\r=ie.zero.map V.c:=fun i r hi=>by
  rw [anS] at hi;split at hi
  .cases hi;exact ⟨‹_›,rfl⟩
  .cases hi
 have hcell:∀ (i j:Nat) (r:List V) (y:V),(List.replicate n<|ie.zero.map V.c)[i]?=some r->r[j]?=some y->∃ u,ie.zero[j]?=some u/\y=.c u/\(madeCells z0.cells<|n*ie.size)[i*ie.size+j]?=some u:=fun i j r y hi hj=>by
  obtain ⟨hin,rfl⟩:=hrow i r hi;rw [gy,eY] at hj;obtain ⟨u,hu,rfl⟩:=hj;refine ⟨u,hu,rfl,?_⟩;have hjk:j < ie.size:=by rw [<- e7];exact (dV.1 hu).1
  unfold madeCells;rw [Pb,Array.getElem?_range,bU<|XW hin hjk];simp only [aaP,hzs];have hmod:(i*ie.size+j) % ie.size=j:=by rw [XK,Nat.mul_add_mod];exact Nat.mod_eq_of_lt hjk
  rw [hmod,agi z0.cells j<|by rw [hzs];exact hjk];rw [<- e5] at hu;have:=(dV.1 hu).2;simpa using this
 have hlen:(List.replicate n<|ie.zero.map V.c).length=n:=aF;refine abo hH [] hq (w':=w.alloc (.cells (madeCells z0.cells<|n*ie.size) el)) (root:=.slice (some ⟨w.heap.size,0,none⟩) n n) (Fi:=w.heap.size::flat n ie.size fun _ _=>[]) rfl rfl rfl aF (fun b hb _=>abn w _ b hb) (fun ρ'=>?_) ?_ (fun b hb=>?_) (.own _ q fun r hr=>?_)
 .have h0:Value.slice (some ⟨w.heap.size,0,none⟩) n n=Value.slice (some ⟨w.heap.size,0,none⟩) (List.replicate n<|ie.zero.map V.c).length n:=by rw [hlen]
  rw [h0,show flat n ie.size (fun _ _=>[])=flat (List.replicate n<|ie.zero.map V.c).length ie.size (fun _ _=>[]) by rw [hlen]];refine .vec w.heap.size n _ false el ie.size _ (fun i j=>(madeCells z0.cells<|n*ie.size).getD (i*ie.size+j) undef) (fun _ _=>[]) (aaX w _) (by rw [hlen];exact dK _) hmax (by simp [madeCells]) (fun i r h=>by obtain ⟨_,rfl⟩:=hrow i r h;simp [e7]) (fun i j r y h1 h2=>?_) (fun i j r y h1 h2=>?_) ⟨rfl,fun h0=>.inr<|by rw [hlen] at h0;exact h0⟩
  .obtain ⟨u,hu,_,hm⟩:=hcell i j r y h1 h2;simp [lM,hm]
  .obtain ⟨u,hu,rfl,hm⟩:=hcell i j r y h1 h2;have:(madeCells z0.cells<|n*ie.size).getD (i*ie.size+j) undef=u:=by simp [lM,hm]
   rw [this];exact .c u (kJ.1 e6 u<|nk hu)
 .rw [rG];refine ⟨fun h=>?_,?_⟩
  .obtain ⟨i,j,_,_,hb⟩:=wM.1 h;cases hb
  .rw [SY];exact ⟨fun _ _ _ _=>KX,fun _ _ _ _ _ _ _ _ _ hb=>by cases hb⟩
 .rcases jW.1 hb with rfl|hb
  .exact .inr ⟨dK _,aF⟩
  .obtain ⟨i,j,_,_,hb⟩:=wM.1 hb;cases hb
 .simp at hr;exact hr
end
end Go.Av
