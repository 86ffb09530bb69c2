/-
 Abstract values, states, walks, part 3.
-/
import Derived.Test.YtaobbpcbeopddaaGreatDoorGCore2
import Derived.Laws.MakeOwn
import Derived.Laws.IdiomStrings
set_option linter.all false
namespace Go.Av
section
variable {P:Program} {G:Nat->Option (List V)}
structure Inv (ops:Array Oper) (Es:List (Bool×Eff)) (T0:List V) (H0:Hp) (L:Nat->Prop) (T:List V) (H:Hp):Prop where
 len:T.length=T0.length
 set:∀ s j o E,L j->ops[j]?=some o->o.dst=some s->Es[j]?=some E->T[s]?=(T0[s]?).map fun _=>E.2.v
 old:∀ s,(∀ j o,L j->ops[j]?=some o->o.dst≠some s)->T[s]?=T0[s]?
 top:∀ x j E,L j->Es[j]?=some E->E.2.touch x=true->(∀ j' E',L j'->Es[j']?=some E'->E'.2.touch x=true->j'<=j)->look H x=look E.2.new x
 bot:∀ x,(∀ j E,L j->Es[j]?=some E->E.2.touch x=false)->look H x=look H0 x
 has:∀ x,gG x H=true->gG x H0=true\/∃ j E,L j/\Es[j]?=some E/\gG x E.2.new=true
 akw:∀ x,V.nX x T=true->V.nX x T0=true\/∃ j E,L j/\Es[j]?=some E/\E.2.v.has x=true
theorem akx (ops:Array Oper) (Es:List (Bool×Eff)) (T0:List V) (H0:Hp) {L:Nat->Prop} (hL:∀ j,¬L j):Inv ops Es T0 H0 L T0 H0:=
 ⟨rfl,fun _ j _ _ h=>(hL j h).elim,fun _ _=>rfl,fun _ j _ h=>(hL j h).elim,fun _ _=>rfl,fun _ h=>.inl h,fun _ h=>.inl h⟩
theorem aky {T:List V} {d:Option Tmp} {v:V} {s:Nat}:(fB T d v)[s]?=if d=some s then (T[s]?).map fun _=>v else T[s]?:=by
 cases d with
 | none=>simp [fB]
 | some t=>
  simp only [fB,FH,iG];by_cases h:t=s
  .subst h;simp only [kF];split
   .rw [fQ ‹_›];rfl
   .rw [AA ah];rfl
  .simp [h]
theorem aua (T:List V) (d:Option Tmp) (v:V):(fB T d v).length=T.length:=by cases d<;>simp [fB]
structure Fair (ops:Array Oper) (Es:List (Bool×Eff)) (T0:List V) (H0:Hp):Prop where
 len:Es.length=ops.size
 back:∀ (j:Nat) o (e:Edge),ops[j]?=some o->e∈o.after->Region.binds .any e=true->e.on < j
 fresh:∀ (j:Nat) (E:Bool×Eff) k,Es[j]?=some E->k∈E.2.N->100<=k/\V.nX k T0=false/\gG k H0=false
 pair:∀ i j,i < j->j < ops.size->aeD ops (MZ ops.toList []) Es i j=true
theorem aub {ops:Array Oper} {T0:List V} {H0:Hp} {Es:List (Bool×Eff)} (hl:Es.length=ops.size) (h:aah ops T0 H0 Es=true):Fair ops Es T0 H0:=by
 unfold aah at h;simp only [kW,ZM,dL] at h;refine ⟨hl,fun j o e ho he hb=>?_,fun j E k hE hk=>?_,fun i j hij hj=>(h j hj).2 i hij⟩
 .have hj:j < ops.size:=(tN.1 ho).1;have h1:=(h j hj).1.1;rw [ho] at h1;simp only [Array.all_eq_true_iff_forall_mem,lH,kX] at h1;rcases h1 e he with h1|h1
  .rw [hb] at h1;cases h1
  .rw [MN] at h1;exact h1
 .have hj:j < ops.size:=by rw [<- hl];exact (dK.1 hE).1
  have h1:=(h j hj).1.2;rw [hE] at h1;simp only [kW,dL,kX,AL] at h1;have:=h1 k hk;exact ⟨this.1.1,this.1.2,this.2⟩
theorem Fair.two {ops:Array Oper} {Es:List (Bool×Eff)} {T0:List V} {H0:Hp} (h:Fair ops Es T0 H0) {i j:Nat} (hij:i < j) {x y:Oper} {E F:Bool×Eff} (hx:ops[i]?=some x) (hy:ops[j]?=some y) (hE:Es[i]?=some E) (hF:Es[j]?=some F):
  (∀ d,x.dst=some d->y.dst≠some d)/\(∀ k,k∈F.2.N->E.2.v.has k=false/\gG k E.2.new=false)/\
  (((MZ ops.toList []).getD j 0).testBit i=true\/((∀ d,x.dst=some d->d∉y.looksAt ops)/\(∀ d,y.dst=some d->d∉x.looksAt ops)/\
   (∀ k,k∈F.2.R\/F.2.touch k=true->E.2.touch k=false)/\(∀ k,k∈E.2.R\/E.2.touch k=true->F.2.touch k=false)/\(∀ k,k∈E.2.N->F.2.v.has k=false/\gG k F.2.new=false))):=by
 have hp:=h.pair i j hij (tN.1 hy).1;unfold aeD at hp;obtain ⟨b,E⟩:=E;obtain ⟨c,F⟩:=F;simp only [hx,hy,hE,hF,dL,lH,kW,kX] at hp;refine ⟨fun d hd hd'=>?_,fun k hk=>hp.1.2 k hk,hp.2.imp id fun ha=>?_⟩
 .have:=hp.1.1;rw [hd,hd'] at this;simp at this
 .unfold akv at ha;simp only [dL,kW,kX] at ha;obtain ⟨⟨⟨⟨⟨⟨⟨⟨a1,a2⟩,a3⟩,a4⟩,a5⟩,a6⟩,a7⟩,a8⟩,a9⟩:=ha;have tc:∀ (A B:Eff),(∀ i,i∈A.C->B.touch i=false)->(∀ p,p∈A.new->B.touch p.1=false)->∀ k,A.touch k=true->B.touch k=false:=by
   intro A B h1 h2 k hk;unfold Eff.touch at hk;simp only [lH,Hq] at hk;rcases hk with hk|hk
   .exact h1 k hk
   .obtain ⟨o,ho⟩:=MC.1 hk;have hmem:∀ (A:Hp),look A k=some o->∃ p,p∈A/\p.1=k:=by
     intro A;induction A with
     | nil=>intro h;cases h
     | cons q A ih=>
      obtain ⟨j,o'⟩:=q;intro h;simp only [look] at h;split at h
      .exact ⟨(j,o'),aF,by simp_all⟩
      .obtain ⟨p,hp,e⟩:=ih h;exact ⟨p,by simp [hp],e⟩
    obtain ⟨p,hp,rfl⟩:=hmem A.new ho;exact h2 p hp
  refine ⟨fun d hd=>?_,fun d hd=>?_,fun k hk=>?_,fun k hk=>?_,fun k hk=>a9 k hk⟩
  .rw [hd] at a1;simpa using a1
  .rw [hd] at a2;simpa using a2
  .rcases hk with hk|hk
   .exact a3 k hk
   .exact tc F E a6 a8 k hk
  .rcases hk with hk|hk
   .exact a4 k hk
   .exact tc E F a5 a7 k hk
theorem HZ {ops:Array Oper} {L:Nat->Prop} (hL:Down ops L) {i j:Nat} {o:Oper} (ho:ops[i]?=some o) (hd:∀ e,e∈o.after->Region.binds .any e=true->L e.on)
  (hb:((MZ ops.toList []).getD i 0).testBit j=true):L j:=
 aku hL ops.toList [] aF aF (fun i j o hi=>by simp at hi) i j o ho hd hb
theorem Inv.same {ops:Array Oper} {Es:List (Bool×Eff)} {T0:List V} {H0:Hp} (hF:Fair ops Es T0 H0) {L M:Nat->Prop} {T T':List V} {H H':Hp} (h:Inv ops Es T0 H0 L T H) (k:Inv ops Es T0 H0 M T' H')
  (hL:Down ops L) (hM:Down ops M) {i:Nat} {o:Oper} {E:Bool×Eff} (ho:ops[i]?=some o) (hE:Es[i]?=some E) (hiL: ¬L i) (hiM: ¬M i)
  (hdL:∀ e,e∈o.after->Region.binds .any e=true->L e.on) (hdM:∀ e,e∈o.after->Region.binds .any e=true->M e.on) (QX:∀ j,L j->j < ops.size) (aJE:∀ j,M j->j < ops.size):
  (∀ d,d∈o.looksAt ops->T[d]?=T'[d]?)/\(∀ x,x∈E.2.R\/E.2.touch x=true->look H x=look H' x)/\
  (∀ x j F,E.2.touch x=true->L j->Es[j]?=some F->F.2.touch x=true->j<=i)/\(∀ x j F,x∈E.2.R\/E.2.touch x=true->Es[j]?=some F->F.2.touch x=true->j≠i->(L j↔M j)):=by
 have hi:i < ops.size:=(tN.1 ho).1;have aeF:∀ j,j < ops.size->∃ y F,ops[j]?=some y/\Es[j]?=some F:=fun j hj=>
  ⟨_,_,mP hj,fQ<|by rw [hF.len];exact hj⟩
 have akB:∀ d j y,d∈o.looksAt ops->ops[j]?=some y->y.dst=some d->j≠i->(L j↔M j):=by
  intro d j y hd hy oN hne;obtain ⟨_,F,_,gK⟩:=aeF j (tN.1 hy).1;rcases ZH hne with hlt|hgt
  .rcases (hF.two hlt hy ho gK hE).2.2 with hb|hb
   .exact ⟨fun _=>HZ hM ho hdM hb,fun _=>HZ hL ho hdL hb⟩
   .exact absurd hd (hb.1 d oN)
  .rcases (hF.two hgt ho hy hE gK).2.2 with hb|hb
   .exact ⟨fun h=>absurd (HZ hL hy (fun e he hb'=>hL j y e h hy he hb') hb) hiL,fun h=>absurd (HZ hM hy (fun e he hb'=>hM j y e h hy he hb') hb) hiM⟩
   .exact absurd hd (hb.2.1 d oN)
 have Vq:∀ x j F,x∈E.2.R\/E.2.touch x=true->Es[j]?=some F->F.2.touch x=true->j≠i->((L j↔M j)/\(L j->j<=i)/\(M j->j<=i)):=by
  intro x j F hx gK ht hne;have hj:j < ops.size:=by rw [<- hF.len];exact (dK.1 gK).1
  obtain ⟨y,_,hy,_⟩:=aeF j hj;rcases ZH hne with hlt|hgt
  .refine ⟨?_,fun _=>ah,fun _=>ah⟩;rcases (hF.two hlt hy ho gK hE).2.2 with hb|hb
   .exact ⟨fun _=>HZ hM ho hdM hb,fun _=>HZ hL ho hdL hb⟩
   .have:=hb.2.2.1 x hx;rw [ht] at this;cases this
  .rcases (hF.two hgt ho hy hE gK).2.2 with hb|hb
   .have n1: ¬L j:=fun h=>hiL (HZ hL hy (fun e he hb'=>hL j y e h hy he hb') hb);have n2: ¬M j:=fun h=>hiM (HZ hM hy (fun e he hb'=>hM j y e h hy he hb') hb);exact ⟨⟨fun h=>absurd h n1,fun h=>absurd h n2⟩,fun h=>absurd h n1,fun h=>absurd h n2⟩
   .have:=hb.2.2.2.1 x hx;rw [ht] at this;cases this
 refine ⟨fun d hd=>?_,fun x hx=>?_,fun x j F hx hj gK ht=>?_,fun x j F hx gK ht hne=>(Vq x j F hx gK ht hne).1⟩
 .by_cases hw:∃ j y,L j/\ops[j]?=some y/\y.dst=some d
  .obtain ⟨j,y,hj,hy,oN⟩:=hw;obtain ⟨_,F,_,gK⟩:=aeF j (QX j hj);have hne:j≠i:=fun e=>hiL (e ▸ hj);rw [h.set d j y F hj hy oN gK,k.set d j y F ((akB d j y hd hy oN hne).1 hj) hy oN gK]
  .rw [h.old d fun j y hj hy oN=>hw ⟨j,y,hj,hy,oN⟩];rw [k.old d fun j y hj hy oN=>hw ⟨j,y,(akB d j y hd hy oN fun e=>hiM<|e ▸ hj).2 hj,hy,oN⟩]
 .by_cases hw:∃ j F,L j/\Es[j]?=some F/\F.2.touch x=true
  ·
   have top:∃ j F,L j/\Es[j]?=some F/\F.2.touch x=true/\∀ j' F',L j'->Es[j']?=some F'->F'.2.touch x=true->j'<=j:=by
    obtain ⟨j,F,hj⟩:=hw;clear hx;have:∀ n j F,ops.size - j<=n->L j/\Es[j]?=some F/\F.2.touch x=true->∃ j F,L j/\Es[j]?=some F/\F.2.touch x=true/\∀ j' F',L j'->Es[j']?=some F'->F'.2.touch x=true->j'<=j:=by
     intro n;induction n with
     | zero=>intro j F hn hj;have:=QX j hj.1;omega
     | succ n ih=>
      intro j F hn hj;by_cases hm:∃ j' F',L j'/\Es[j']?=some F'/\F'.2.touch x=true/\j < j'
      .obtain ⟨j',F',h1,h2,h3,h4⟩:=hm;exact ih j' F' (by have:=QX j' h1;omega) ⟨h1,h2,h3⟩
      .refine ⟨j,F,hj.1,hj.2.1,hj.2.2,fun j' F' h1 h2 h3=>?_⟩;rcases xA j j' with h4|h4
       .exact absurd ⟨j',F',h1,h2,h3,h4⟩ hm
       .exact h4
    exact this _ j F (cZ _) hj
   obtain ⟨j,F,hj,gK,ht,hmax⟩:=top;have hne:j≠i:=fun e=>hiL (e ▸ hj);rw [h.top x j F hj gK ht hmax,k.top x j F ((Vq x j F hx gK ht hne).1.1 hj) gK ht fun j' F' hj' akC ht'=>?_];have hne':j'≠i:=fun e=>hiM (e ▸ hj');exact hmax j' F' ((Vq x j' F' hx akC ht' hne').1.2 hj') akC ht'
  .rw [h.bot x fun j F hj gK=>?_,k.bot x fun j F hj gK=>?_]
   .cases ht:F.2.touch x with
    | false=>rfl
    | true=>exact absurd ⟨j,F,(Vq x j F hx gK ht fun e=>hiM<|e ▸ hj).1.2 hj,gK,ht⟩ hw
   .cases ht:F.2.touch x with
    | false=>rfl
    | true=>exact absurd ⟨j,F,hj,gK,ht⟩ hw
 .by_cases hne:j=i
  .omega
  .exact (Vq x j F (.inr hx) gK ht hne).2.1 hj
theorem aaj {ops:Array Oper} {Es:List (Bool×Eff)} {T0:List V} {H0:Hp} (hF:Fair ops Es T0 H0) {L:Nat->Prop} {T:List V} {H H':Hp} (h:Inv ops Es T0 H0 L T H) {i:Nat} {o:Oper} {E:Bool×Eff} (ho:ops[i]?=some o) (hE:Es[i]?=some E)
  (hi: ¬L i) (hle:∀ x j F,E.2.touch x=true->L j->Es[j]?=some F->F.2.touch x=true->j<=i) (hH:∀ x,look H' x=look (E.2.new++bU E.2.C H) x) (hH2:∀ x,gG x H'=true->gG x E.2.new=true\/gG x H=true) {L':Nat->Prop} (hL':∀ j,L' j↔j=i\/L j):
  Inv ops Es T0 H0 L' (fB T o.dst E.2.v) H':=by
 have dist:∀ j y d,ops[j]?=some y->y.dst=some d->o.dst=some d->j=i:=by
  intro j y d hy oN hod;obtain ⟨F,gK⟩:∃ F,Es[j]?=some F:=⟨_,fQ<|by rw [hF.len];exact (tN.1 hy).1⟩
  rcases adT j i with hlt|he|hgt
  .exact absurd hod ((hF.two hlt hy ho gK hE).1 d oN)
  .exact he
  .exact absurd oN ((hF.two hgt ho hy hE gK).1 d hod)
 refine ⟨by rw [aua,h.len],fun s j y F hj hy oN gK=>?_,fun s hs=>?_,fun x j F hj gK ht hmax=>?_,fun x hx=>?_,fun x hx=>?_,fun x hx=>?_⟩
 .rw [aky];split
  .rename_i hod;have:=dist j y s hy oN hod;subst this;rw [hE] at gK;cases gK;have hlen:=h.len;by_cases hs:s < T.length
   .have hs0:s < T0.length:=Nat.lt_of_lt_of_eq hs hlen;rw [fQ hs,fQ hs0];rfl
   .have h1:T.length<=s:=Nat.le_of_not_lt hs;have h0:T0.length<=s:=sH (Nat.le_of_eq hlen.symm) h1;rw [AA h1,AA h0];first|done|rfl
  .rename_i hod;rcases (hL' j).1 hj with rfl|hj
   .rw [ho] at hy;cases hy;exact absurd oN hod
   .exact h.set s j y F hj hy oN gK
 .rw [aky,bI<|hs i o ((hL' i).2<|.inl rfl) ho];exact h.old s fun j y hj hy=>hs j y ((hL' j).2<|.inr hj) hy
 .rw [hH,FL];rcases (hL' j).1 hj with rfl|hj'
  .rw [hE] at gK;cases gK;rw [dA ht]
  .split
   .rename_i hti;have h1:=hle x j F hti hj' gK ht;have h2:=hmax i E ((hL' i).2<|.inl rfl) hE hti;have:j=i:=ah;exact absurd (this ▸ hj') hi
   .exact h.top x j F hj' gK ht fun j' F' h1 h2 h3=>hmax j' F' ((hL' j').2<|.inr h1) h2 h3
 .rw [hH,FL,bI<|by rw [hx i E ((hL' i).2<|.inl rfl) hE];simp];exact h.bot x fun j F hj gK=>hx j F ((hL' j).2<|.inr hj) gK
 .rcases hH2 x hx with h1|h1
  .exact .inr ⟨i,E,(hL' i).2<|.inl rfl,hE,h1⟩
  .exact (h.has x h1).imp id fun ⟨j,F,h1,h2,h3⟩=>⟨j,F,(hL' j).2<|.inr h1,h2,h3⟩
 .have:V.nX x T=true\/E.2.v.has x=true:=by
   cases hd:o.dst with
   | none=>rw [hd] at hx;exact .inl hx
   | some d=>rw [hd] at hx;exact atY hx
  rcases this with h1|h1
  .exact (h.akw x h1).imp id fun ⟨j,F,h1,h2,h3⟩=>⟨j,F,(hL' j).2<|.inr h1,h2,h3⟩
  .exact .inr ⟨i,E,(hL' i).2<|.inl rfl,hE,h1⟩
end
end Go.Av
namespace Go.Av
section
variable {P:Program} {G:Nat->Option (List V)} {L:Option Nat} {B:Nat}
theorem dY.congr {ρ:Nat->Option Value} {S:Nat->Prop} {F:Nat->List Nat} {H H':Hp} {w:World} (h:dY ρ S F H w) (e:∀ x,look H' x=look H x):dY ρ S F H' w:=
 ⟨fun i hi=>h.dom i<|e i ▸ hi,fun i o hi=>h.obj i o<|e i ▸ hi,fun i o hi=>h.nodup i o<|e i ▸ hi,fun i j o p b hi hj=>h.gW i j o p b (e i ▸ hi)<|e j ▸ hj,fun i o b hi=>h.sep i o b<|e i ▸ hi,fun i o b hi=>h.lt i o b<|e i ▸ hi,h.slt⟩
theorem Ub.congr {F:Nat->List Nat} {H H':Hp} (e:∀ x,look H' x=look H x) {b:Nat} (h:Ub H' F b):Ub H F b:=by
 obtain ⟨i,o,hi,hb⟩:=h;exact ⟨i,o,e i ▸ hi,hb⟩
theorem Post.congr {ρ:Nat->Option Value} {S:Nat->Prop} {F:Nat->List Nat} {H:Hp} {w:World} {v:V} {H1 H2:Hp} {N:List Nat} {x:Value} {w':World} (h:Post ρ S F H w v H1 N x w') (e:∀ x,look H2 x=look H1 x):Post ρ S F H w v H2 N x w':=by
 obtain ⟨ρ',S',F',hv,hH,hE,hA⟩:=h;exact ⟨ρ',S',F',hv,hH.congr e,⟨hE.os,hE.tape,hE.output,hE.size,hE.keep,hE.sub,hE.newS,fun b hb=>hE.uT b<|Ub.congr e hb⟩,hA⟩
theorem gH.congr {o:Oper} {e:Operand->V} {H:Hp} {v:V} {H1 H2:Hp} {N:List Nat} (h:gH P G o e H v H1 N) (he:∀ x,look H2 x=look H1 x):gH P G o e H v H2 N:=
 fun ρ S F η w bQ hH hG=>(h ρ S F η w bQ hH hG).mono fun _ _ hp=>hp.congr he
structure Fact (P:Program) (G:Nat->Option (List V)) (ops:Array Oper) (Es:List (Bool×Eff)) (T0:List V) (H0:Hp) (k:Nat) (o:Oper) (E:Bool×Eff) (Tk:List V) (Hk:Hp):Prop where
 op:ops[k]?=some o
 QY:Es[k]?=some E
 inv:Inv ops Es T0 H0 (· < k) Tk Hk
 want:wu ops Tk o.guard=some E.1
 ok:E.1=true->uW P G o (ev G Tk) E.2 Hk
 no:E.1=false->E.2=Eff.und
theorem Chain.length {ops:Array Oper} {i:Nat} {T:List V} {H:Hp} {tail:List (Bool×Eff)} {T':List V} {H':Hp} (h:Chain P G ops i T H tail T' H') (hi:i<=ops.size):tail.length=ops.size - i:=by
 induction h with
 | nil i T H h=>simp;omega
 | op ho _ _ _ ih=>
  have:=(tN.1 ho).1;have:=ih ah;simp only [fT];omega
 | skip ho _ _ ih=>
  have:=(tN.1 ho).1;have:=ih ah;simp only [fT];omega
theorem Chain.facts {ops:Array Oper} {Es:List (Bool×Eff)} {T0:List V} {H0:Hp} (hF:Fair ops Es T0 H0) {i:Nat} {T:List V} {H:Hp} {tail:List (Bool×Eff)} {T':List V} {H':Hp} (h:Chain P G ops i T H tail T' H'):
  Es.drop i=tail->i<=ops.size->Inv ops Es T0 H0 (· < i) T H->(∀ k,i<=k->k < ops.size->∃ o E Tk Hk,Fact P G ops Es T0 H0 k o E Tk Hk)/\Inv ops Es T0 H0 (· < ops.size) T' H':=by
 induction h with
 | nil i T H h=>
  intro _ hi hinv;have:i=ops.size:=ah;subst this;exact ⟨fun k h1 h2=>ah,hinv⟩
 | @op i T H o E tl T' H' ho hw hop rest ih=>
  intro hd hi hinv;have hlt:=(tN.1 ho).1;have hE:Es[i]?=some (true,E):=by
   have:(Es.drop i)[0]?=some (true,E):=by rw [hd];rfl
   simpa using this
  have aeG:=aaj hF hinv ho hE (ZN i) (fun x j F _ hj _ _=>kG hj) (H':=E.new++bU E.C H) (fun _=>rfl) (fun x hx=>by
   rw [akt,lH] at hx;exact hx.imp id aeC) (L':=(· < i+1)) (fun j=>ah)
  have htl:Es.drop (i+1)=tl:=by rw [<- UQ,hd];rfl
  obtain ⟨h1,h2⟩:=ih htl hlt aeG;refine ⟨fun k hk1 hk2=>?_,h2⟩;by_cases he:k=i
  .subst he;exact ⟨o,_,T,H,⟨ho,hE,hinv,hw,fun _=>hop,fun h=>(by cases h)⟩⟩
  .exact h1 k ah hk2
 | @skip i T H o tl T' H' ho hw rest ih=>
  intro hd hi hinv;have hlt:=(tN.1 ho).1;have hE:Es[i]?=some (false,Eff.und):=by
   have:(Es.drop i)[0]?=some (false,Eff.und):=by rw [hd];rfl
   simpa using this
  have aeG:=aaj hF hinv ho hE (ZN i) (fun x j F _ hj _ _=>kG hj) (H':=H) (fun x=>by rw [FL];simp [Eff.touch,look]) (fun x hx=>.inr hx) (L':=(· < i+1)) (fun j=>ah);have htl:Es.drop (i+1)=tl:=by rw [<- UQ,hd];rfl
  obtain ⟨h1,h2⟩:=ih htl hlt aeG;refine ⟨fun k hk1 hk2=>?_,h2⟩;by_cases he:k=i
  .subst he;exact ⟨o,_,T,H,⟨ho,hE,hinv,hw,fun h=>(by cases h),fun _=>rfl⟩⟩
  .exact h1 k ah hk2
theorem auc {ops:Array Oper} {T T':List V} {j:Nat} (h:∀ d,((ops[j]?).bind (·.dst))=some d->T[d]?=T'[d]?):MS ops T j=MS ops T' j:=by
 unfold MS;cases hd:(ops[j]?).bind (·.dst) with
 | none=>rfl
 | some d=>simp only [h d hd]
theorem aud {ops:Array Oper} {o:Oper} {T T':List V} (h:∀ d,d∈o.looksAt ops->T[d]?=T'[d]?):wu ops T o.guard=wu ops T' o.guard:=by
 cases hg:o.guard with
 | none=>rfl
 | some jb=>
  obtain ⟨j,b⟩:=jb;simp only [wu];rw [auc fun d hd=>h d<|by unfold Oper.looksAt;rw [hg];simp [hd]]
theorem aue {ops:Array Oper} {o:Oper} {T T':List V} (h:∀ d,d∈o.looksAt ops->T[d]?=T'[d]?):∀ x,x∈o.op.operands->ev G T x=ev G T' x:=by
 intro x hx;cases x with
 | tmp t=>
  have:=h t (by
   unfold Oper.looksAt;refine jo.2<|.inl<|List.mem_filterMap.2 ⟨.tmp t,by simpa using hx,rfl⟩)
  simp only [ev,Hl,this]
 | _=>rfl
theorem auf {ops:Array Oper} {o:Oper} {ρ:Nat->Option Value} {S:Nat->Prop} {F:Nat->List Nat} {st:St} {a:Act} {w:World} (hst:nH B G ρ S F st a w) {b:Bool} (h:wu ops st.T o.guard=some b):Region.wanted o (yielded ops a.tmps)=b:=by
 unfold wu at h;unfold Region.wanted;cases hg:o.guard with
 | none=>rw [hg] at h;cases h;rfl
 | some jb=>
  obtain ⟨j,b'⟩:=jb;rw [hg] at h;simp only [eD] at h;obtain ⟨c,hc,hcb⟩:=h;simp only [ajK hst hc];subst hcb;cases c<;>cases b'<;>rfl
theorem Inv.full {ops:Array Oper} {Es:List (Bool×Eff)} {T0:List V} {H0:Hp} (hl:Es.length=ops.size) {L M:Nat->Prop} {T T':List V} {H H':Hp} (h:Inv ops Es T0 H0 L T H) (k:Inv ops Es T0 H0 M T' H') (he:∀ j,L j↔M j) (hs:∀ j,L j->j < ops.size):T=T'/\∀ x,look H x=look H' x:=by
 refine ⟨?_,fun x=>?_⟩
 .apply List.ext_getElem?;intro s;by_cases hw:∃ j y,L j/\ops[j]?=some y/\y.dst=some s
  .obtain ⟨j,y,hj,hy,oN⟩:=hw;obtain ⟨F,gK⟩:∃ F,Es[j]?=some F:=⟨_,fQ<|by rw [hl];exact hs j hj⟩
   rw [h.set s j y F hj hy oN gK,k.set s j y F ((he j).1 hj) hy oN gK]
  .rw [h.old s fun j y hj hy oN=>hw ⟨j,y,hj,hy,oN⟩,k.old s fun j y hj hy oN=>hw ⟨j,y,(he j).2 hj,hy,oN⟩]
 .by_cases hw:∃ j F,L j/\Es[j]?=some F/\F.2.touch x=true
  .have top:∃ j F,L j/\Es[j]?=some F/\F.2.touch x=true/\∀ j' F',L j'->Es[j']?=some F'->F'.2.touch x=true->j'<=j:=by
    obtain ⟨j,F,hj⟩:=hw;have:∀ n j F,ops.size - j<=n->L j/\Es[j]?=some F/\F.2.touch x=true->∃ j F,L j/\Es[j]?=some F/\F.2.touch x=true/\∀ j' F',L j'->Es[j']?=some F'->F'.2.touch x=true->j'<=j:=by
     intro n;induction n with
     | zero=>intro j F hn hj;have:=hs j hj.1;omega
     | succ n ih=>
      intro j F hn hj;by_cases hm:∃ j' F',L j'/\Es[j']?=some F'/\F'.2.touch x=true/\j < j'
      .obtain ⟨j',F',h1,h2,h3,h4⟩:=hm;exact ih j' F' (by have:=hs j' h1;omega) ⟨h1,h2,h3⟩
      .refine ⟨j,F,hj.1,hj.2.1,hj.2.2,fun j' F' h1 h2 h3=>?_⟩;rcases xA j j' with h4|h4
       .exact absurd ⟨j',F',h1,h2,h3,h4⟩ hm
       .exact h4
    exact this _ j F (cZ _) hj
   obtain ⟨j,F,hj,gK,ht,hmax⟩:=top;rw [h.top x j F hj gK ht hmax,k.top x j F ((he j).1 hj) gK ht fun j' F' hj'=>hmax j' F'<|(he j').2 hj']
  .have no:∀ j F,L j->Es[j]?=some F->F.2.touch x=false:=fun j F hj gK=>by
    cases ht:F.2.touch x with
    | false=>rfl
    | true=>exact absurd ⟨j,F,hj,gK,ht⟩ hw
   rw [h.bot x no,k.bot x fun j F hj=>no j F<|(he j).2 hj]
theorem aug {ops:Array Oper} {Es:List (Bool×Eff)} {T0:List V} {H0:Hp} (hF:Fair ops Es T0 H0) {Tn:List V} {Hn:Hp} (hfin:Inv ops Es T0 H0 (· < ops.size) Tn Hn) (facts:∀ k,k < ops.size->∃ o E Tk Hk,Fact P G ops Es T0 H0 k o E Tk Hk)
  {Q:Exit->Act->World->Prop} {K:St->Prop} {KD:Nat->Option Value} {S0:Nat->Prop} {F0:Nat->List Nat} {w0:World} (hK:K ⟨Tn,Hn⟩) (hn:∀ st',K st'->Onto B G KD S0 F0 H0 w0 st' (Q .normal)):
  ∀ (fuel:Nat) (listed:Array Bool) (T:List V) (H:Hp) (ρ:Nat->Option Value) (S:Nat->Prop) (F:Nat->List Nat) (a:Act) (w:World),listed.size=ops.size->listed.countP (fun b=>!b)<=fuel->Down ops (fun j=>listed.getD j false=true)->
   Inv ops Es T0 H0 (fun j=>listed.getD j false=true) T H->nH B G ρ S F ⟨T,H⟩ a w->jI S0 (Ub H0 F0) w0 S (Ub H F) w->qz KD ρ->wpAnyIn (MR L) 0 P .any ops Q fuel listed a w:=by
 intro fuel;have hlt:∀ (listed:Array Bool),listed.size=ops.size->∀ j,listed.getD j false=true->j < ops.size:=fun listed hsz j h=>by
  rcases xA j listed.size with h'|h'
  .rw [<- hsz];exact h'
  .rw [nS,ajC h'] at h;cases h
 have done:∀ (listed:Array Bool) (T:List V) (H:Hp) (ρ:Nat->Option Value) (S:Nat->Prop) (F:Nat->List Nat) (a:Act) (w:World),listed.size=ops.size->(∀ j,j < ops.size->listed.getD j false=true)->
   Inv ops Es T0 H0 (fun j=>listed.getD j false=true) T H->nH B G ρ S F ⟨T,H⟩ a w->jI S0 (Ub H0 F0) w0 S (Ub H F) w->qz KD ρ->Q .normal a w:=by
  intro listed T H ρ S F a w hsz hall hinv hst hE hA;obtain ⟨rfl,hH⟩:=Inv.full hF.len hinv hfin (fun j=>⟨hlt listed hsz j,hall j⟩) (hlt listed hsz);have e:∀ x,look Hn x=look H x:=fun x=>(hH x).symm;exact hn _ hK ρ S F a w ⟨hst.defers,hst.size,hst.tmps,hst.heap.congr e,hst.glob⟩ ⟨hE.os,hE.tape,hE.output,hE.size,hE.keep,hE.sub,hE.newS,fun b hb=>hE.uT b<|Ub.congr e hb⟩ hA
 induction fuel with
 | zero=>
  intro listed T H ρ S F a w hsz hc Vr hinv hst hE hA;have hall:∀ j,j < ops.size->listed.getD j false=true:=fun j hj=>by
   have h0:listed.countP (fun b=>!b)=0:=ah;rw [Array.countP_eq_zero] at h0;have:=h0 listed[j] (Array.getElem_mem ah);rw [nS,mP ah];simpa using this
  refine ⟨?_,done listed T H ρ S F a w hsz hall hinv hst hE hA⟩;cases hr:Region.ready .any ops listed with
  | nil=>rfl
  | cons i l=>
   have hi:i∈Region.ready .any ops listed:=by rw [hr];simp
   obtain ⟨h1,o,h2,_⟩:=ZR.1 hi;have hj:=(tN.1 h2).1;have:=hall i hj;rw [nS,mP ah] at h1 this;simp at h1 this;rw [h1] at this;cases this
 | succ fuel ih=>
  intro listed T H ρ S F a w hsz hc Vr hinv hst hE hA;refine ⟨fun hr=>done listed T H ρ S F a w hsz (fun j hj=>?_) hinv hst hE hA,fun i hi=>?_⟩
  .have:∀ n j,j<=n->j < ops.size->listed.getD j false=true:=by
    intro n;induction n with
    | zero=>
     intro j hj0 hj;cases hlj:listed.getD j false with
     | true=>rfl
     | false=>
      have:j∈Region.ready .any ops listed:=ZR.2 ⟨by
       rw [nS,mP ah] at hlj ⊢;simpa using hlj,_,mP hj,fun e he hb=>by
       have:=hF.back j _ e (mP hj) he hb;omega⟩
      rw [hr] at this;cases this
    | succ n ihn=>
     intro j hjn hj;cases hlj:listed.getD j false with
     | true=>rfl
     | false=>
      have:j∈Region.ready .any ops listed:=ZR.2 ⟨by
       rw [nS,mP ah] at hlj ⊢;simpa using hlj,_,mP hj,fun e he hb=>by
       have:=hF.back j _ e (mP hj) he hb;exact ihn e.on ah ah⟩
      rw [hr] at this;cases this
   exact this j j (cZ _) hj
  .obtain ⟨h1,o,ho,hpre⟩:=ZR.1 hi;have hlt:=(tN.1 ho).1;have hli:listed[i]?=some false:=by
    rw [nS,mP ah] at h1;rw [mP ah];simpa using h1
   obtain ⟨o',E,Tk,Hk,hfact⟩:=facts i hlt;have ho':=hfact.op;rw [ho] at ho';cases ho';have Vs: ¬(listed.getD i false=true):=by rw [nS,hli];simp
   have auh:Down ops (· < i):=fun q oq e hq hoq he hb=>by have:=hF.back q oq e hoq he hb;omega
   have QX:∀ j,listed.getD j false=true->j < ops.size:=fun j h=>by
    rcases xA j listed.size with h'|h'
    .rw [<- hsz];exact h'
    .rw [nS,ajC h'] at h;cases h
   obtain ⟨hT,hHs,hle,_⟩:=Inv.same hF hinv hfact.inv Vr auh ho hfact.QY Vs (ZN i) hpre (fun e he hb=>hF.back i o e ho he hb) QX (fun j hj=>ah);have hwant:Region.wanted o (yielded ops a.tmps)=E.1:=auf hst ((aud hT).trans hfact.want);have hL':∀ j,((listed.setIfInBounds i true).getD j false=true)↔j=i\/listed.getD j false=true:=fun j=>by
    rw [nS,adI,nS];by_cases he:i=j
    .subst he;simp [show i < listed.size by omega]
    .simp [he,tO he]
   have akD:Down ops (fun j=>(listed.setIfInBounds i true).getD j false=true):=fun q oq e hq hoq he hb=>(hL' _).2 (by
    rcases (hL' q).1 hq with rfl|hq
    .rw [ho] at hoq;cases hoq;exact .inr (hpre e he hb)
    .exact .inr (Vr q oq e hq hoq he hb))
   have hcount:(listed.setIfInBounds i true).countP (fun b=>!b)<=fuel:=by
    have hi':i < listed.size:=ah;rw [Array.setIfInBounds,dif_pos hi',Array.countP_set];rw [mP hi'] at hli;simp only [iG] at hli;simp only [hli];simp;omega
   have hfr:∀ k,k∈E.2.N->100<=k/\V.nX k T=false/\gG k H=false:=fun k hk=>by
    obtain ⟨f1,f2,f3⟩:=hF.fresh i E k hfact.QY hk;have sep:∀ j F,listed.getD j false=true->Es[j]?=some F->F.2.v.has k=false/\gG k F.2.new=false:=by
     intro j F hj gK;have hjs:=QX j hj;have hne:j≠i:=fun e=>Vs (e ▸ hj);rcases ZH hne with h'|h'
     .exact (hF.two h' (mP hjs) ho gK hfact.QY).2.1 k hk
     .rcases (hF.two h' ho (mP hjs) hfact.QY gK).2.2 with hb|hb
      .exact absurd (HZ Vr (mP hjs) (fun e he hb'=>Vr j _ e hj (mP hjs) he hb') hb) Vs
      .exact hb.2.2.2.2 k hk
    refine ⟨f1,?_,?_⟩
    .cases hh:V.nX k T with
     | false=>rfl
     | true=>
      rcases hinv.akw k hh with h'|⟨j,F,h1,h2,h3⟩
      .rw [f2] at h';cases h'
      .rw [(sep j F h1 h2).1] at h3;cases h3
    .cases hh:gG k H with
     | false=>rfl
     | true=>
      rcases hinv.has k hh with h'|⟨j,F,h1,h2,h3⟩
      .rw [f3] at h';cases h'
      .rw [(sep j F h1 h2).2] at h3;cases h3
   unfold wpOpIn;simp only [ho];cases hw:E.1 with
   | true=>
    rw [dA<|by rw [hwant,hw]];have auj:(E.2.N.all fun i=>!gG i H)=true:=kW.2 fun k hk=>by rw [(hfr k hk).2.2];rfl
    have hop:=hfact.ok hw (ev G T) H (aue hT) hHs auj;refine (hop ρ S F a.eval w (fun x _=>hst.ev x) hst.heap hst.glob).wp fun x w' hp=>?_;obtain ⟨ρ',S',F',hv,hH,hE',hA'⟩:=hp;have hN:fresh E.2.N ⟨T,H⟩=true:=kW.2 fun k hk=>by
     obtain ⟨f1,f2,f3⟩:=hfr k hk;simp [f2,f3,AL,f1]
    have hst':=hst.put (d:=o.dst) hN hv hH hE' hA';refine ih _ (fB T o.dst E.2.v) (E.2.new++bU E.2.C H) ρ' S' F' _ w' (by simp [hsz]) hcount akD ?_ ?_ (hE.trans hE') (hA.trans<|hA'.toF hN)
    .exact aaj hF hinv ho hfact.QY Vs hle (fun _=>rfl) (fun x hx=>by
      rw [akt,lH] at hx;exact hx.imp id aeC) hL'
    .have:(St.put ⟨T,H⟩ o.dst E.2.v<|E.2.new++bU E.2.C H)=⟨fB T o.dst E.2.v,E.2.new++bU E.2.C H⟩:=by cases o.dst<;>rfl
     rw [<- this];exact hst'
   | false=>
    rw [bI<|by rw [hwant,hw];simp];have hno:=hfact.no hw;refine ⟨fun _ _=>trivial,?_⟩;refine ih _ (fB T o.dst V.und) H ρ S F _ w (by simp [hsz]) hcount akD ?_ ?_ hE hA
    .have:=aaj hF hinv ho hfact.QY Vs hle (H':=H) (fun x=>by rw [FL,hno];simp [Eff.touch,look]) (fun x hx=>.inr hx) hL';rwa [hno] at this
    .have:(St.put ⟨T,H⟩ o.dst V.und H)=⟨fB T o.dst V.und,H⟩:=by cases o.dst<;>rfl
     rw [<- this];exact ajL hst o.dst
theorem auk {id:Nat} {l:List Oper} {T:List V} {H:Hp} {Q:Exit->St->Prop} (hm:P.follows .mixedOrders=true) {Es:List (Bool×Eff)} {T':List V} {H':Hp}
  (hc:Chain P G l.toArray 0 T H Es T' H') (hk:aah l.toArray T H Es=true) (hQ:Q .normal ⟨T',H'⟩):CO L P G (.region id l.toArray true) ⟨T,H⟩ Q:=by
 intro B ρ S F a w R hst hn;refine wpIn_region_any hm ?_;have hF:=aub (by simpa using hc.length (Ct _)) hk;obtain ⟨facts,hfin⟩:=hc.facts hF rfl (Ct _) (akx _ _ _ _ fun j=>Nat.not_lt_zero j);have hL0:∀ j,¬((Array.replicate l.toArray.size false).getD j false=true):=fun j=>by
  rw [nS,Array.getElem?_replicate];split<;>simp
 let w1:World:={w with drawn:=w.drawn+1}
 have hk1:Keeps S w S w1:=fun b hb=>⟨hb,rfl⟩
 have AO:nH B G ρ S F ⟨T,H⟩ a w1:=⟨hst.defers,hst.size,fun i x hx=>(hst.tmps i x hx).mono (fun _ _ h _=>h) hk1,
  ⟨hst.heap.dom,fun i o h=>by
   obtain ⟨r,hr,bY⟩:=hst.heap.obj i o h;exact ⟨r,hr,bY.mono (fun _ _ h _=>h) hk1 fun _ _=>rfl⟩,hst.heap.nodup,hst.heap.gW,hst.heap.sep,hst.heap.lt,hst.heap.slt⟩,hst.glob.mono hk1⟩
 refine aug hF hfin (fun k hk=>facts k (Ct _) hk) (K:=fun st'=>Q .normal st') hQ (fun st' h'=>hn .normal st' h') l.toArray.size _ T H ρ S F a w1 aF ?_ (fun i o e h=>(hL0 i h).elim) (akx _ _ _ _ hL0) AO
  ⟨rfl,rfl,rfl,cZ _,fun _ _ _=>rfl,fun _ h=>h,fun _ h=>.inl h,fun _ h=>.inl h⟩ (qz.refl _)
 exact sH Array.countP_le_size aF
end
end Go.Av
namespace Go.Av
def V.ids:V->List Nat
 | .own i=>[i]
 | .loc i _=>[i]
 | .vp i _ _ _=>[i]
 | .vw i _ _ _=>[i]
 | _=>[]
section
variable {P:Program} {G:Nat->Option (List V)}
def AU (H' H:Hp) (v:V):Prop:=∀ i,i∈v.ids->look H' i=look H i
theorem aal {H H':Hp} {v:V} (h:AU H' H v):uU H' v=uU H v:=by
 cases v<;>simp_all [uU,live,AU,V.ids]
theorem aul {H H':Hp} {n:Nat} {v:V} (h:AU H' H v):Ky H' n v=Ky H n v:=by
 cases v<;>simp_all [Ky,live,AU,V.ids]
theorem aum {H H':Hp} {v:V} (h:AU H' H v):Kz H' v=Kz H v:=by
 cases v with
 | c u=>
  cases u with
  | slice a n c=>cases a<;>rfl
  | _=>rfl
 | own i=>simp_all [Kz,AU,V.ids]
 | _=>rfl
theorem aun {D:Tab} {H H':Hp} {t:TypeId} {v:V} (h:AU H' H v):MW D H' t v=MW D H t v:=by
 cases v<;>simp_all [MW,AU,V.ids]
theorem aeH {H H':Hp} {place:Nat->Option (Nat×Nat)}:∀ {parts:List (Nat×V)} {cells:List V},(∀ p,p∈parts->AU H' H p.2)->wo H' place cells parts=wo H place cells parts
 | [],_,_=>rfl
 | (i,v)::rest,cells,h=>by
  have hc:uU H' v=uU H v:=aal (h (i,v) aF);have ih:∀ cells,wo H' place cells rest=wo H place cells rest:=fun cells=>aeH fun p hp=>h p (by simp [hp]);simp only [wo,hc,ih]
theorem auo {D:Tab} {H H':Hp} {t:TypeId} {parts:List (Nat×V)} (h:∀ p,p∈parts->AU H' H p.2):QU D H' t parts=QU D H t parts:=by
 have e:∀ place cells,wo H' place cells parts=wo H place cells parts:=fun _ _=>aeH h;simp only [QU,e]
theorem akE {e e':Operand->V} {parts:List (Nat×Operand)} (he:∀ p,p∈parts->e' p.2=e p.2):parts.map (fun p=>(p.1,e' p.2))=parts.map fun p=>(p.1,e p.2):=
 qx fun p hp=>by rw [he p hp]
theorem akF {D:Tab} {H H':Hp} {e e':Operand->V} {op:Op} (he:∀ x,x∈op.operands->e' x=e x) (hH:∀ x,x∈op.operands->AU H' H (e x)):iy D H' e' op=iy D H e op:=by
  cases op
  case move x=>simp only [iy];rw [he x gy]
  case assign x=>simp only [iy];rw [he x gy]
  case pick c a b=>simp only [iy];rw [he c gy,he a gy,he b gy]
  case nilCheck x=>
    have h:=hH x gy;simp only [iy];rw [he x gy];generalize e x=v at h;cases v<;>simp_all [live,AU,V.ids]
  case binOp op t x y t'=>simp only [iy];rw [he x gy,he y gy]
  case unOp op t x=>cases op<;>first|rfl|(simp only [iy];rw [he x gy])
  case convert s d x=>simp only [iy];rw [he x gy]
  case fieldAddr s x f=>
    have h:=hH x gy;simp only [iy];rw [he x gy];simp only [aul h]
  case field s x f=>simp only [iy];rw [he x gy]
  case load t a=>simp only [iy];rw [he a gy,aun<|hH a gy]
  case extract x i=>simp only [iy];rw [he x gy]
  case makeFunc fn first caps=>
    cases fn<;>first
      | rfl
      | (simp only [iy]
         split
         · rw [qx fun x hx=>he x<|by simp [Op.operands] at hx ⊢;exact .inr hx]
         · rfl)
  case build t parts=>
    simp only [iy];rw [akE fun p hp=>he p.2<|by simp [Op.operands];exact ⟨p.1,by simpa using hp⟩];refine auo fun p hp=>?_;obtain ⟨q,hq,rfl⟩:=jW.1 hp;exact hH q.2 (by simp [Op.operands];exact ⟨q.1,by simpa using hq⟩)
  case call c=>
    obtain ⟨callee,args,ats⟩:=c;have h1:∀ x,x∈args.toList->e' x=e x:=fun x hx=>he x (by simp only [Op.operands,Call.operands];exact Ko.2<|.inr<|by simpa using hx);have h2:∀ x,x∈args.toList->AU H' H (e x):=fun x hx=>hH x (by simp only [Op.operands,Call.operands];exact Ko.2<|.inr<|by simpa using hx);simp only [iy];generalize args.toList=as at h1 h2;split
    · rw [h1 _ aF,aum<|h2 _ aF]
    · rw [h1 _ aF,h1 _ aF]
    · rw [h1 _ aF,h1 _ aF]
    · rfl
  all_goals rfl
def QZ (D:Tab) (q:Nat) (H:Hp) (e:Operand->V) (op:Op):Option Eff:=
 match op with
 | .box t x=>(uU H<|e x).bind fun cs=>bif V.nX q cs then none else some {v:=.loc q 0,R:=(e x).ids,new:=[(q,.cells t cs)],N:=[q]}
 | .alloc t=>(D.at t).map fun i=>{v:=.loc q 0,new:=[(q,.cells t<|i.zero.map .c)],N:=[q]}
 | .store t a x=>match D.at t,e a,uU H (e x) with
  | some it,.loc i off,some ys=>match look H i with
   | some (.cells ety cs)=>if ys.length=it.size/\off+ys.length<=cs.length then some {v:=.junk,R:=(e x).ids,C:=[i],new:=[(i,.cells ety<|putAt cs ys off)]} else none
   | _=>none
  | _,_,_=>none
 | .buildSlice t n parts=>match D.at t with
  | some it=>match it.d with
   | .slice el=>match D.at el with
    | some ie=>(wo H (fun i=>some (i*ie.size,ie.size)) ((List.replicate n<|ie.zero.map .c).flatten)<|parts.toList.map fun p=>(p.1,e p.2)).bind fun cells=>(wB H cells).bind fun yc=>
     if ie.size≠0/\n*ie.size<=16777216/\cells.length=n*ie.size/\yc.2.Nodup then some {v:=.own q,R:=parts.toList.flatMap fun p=>(e p.2).ids,C:=yc.2,new:=[(q,.vec true el ie.size<|chunk n ie.size yc.1)],N:=[q]} else none
    | none=>none
   | _=>none
  | none=>none
 | .move x=>some {v:=e x}
 | op=>(iy D H e op).map fun v=>{v:=v,R:=op.operands.toList.flatMap fun x=>(e x).ids}
theorem aup {D:Tab} (hD:dQ P D) {o:Oper} {e:Operand->V} {H:Hp} {v:V} (h:iy D H e o.op=some v):uW P G o e {v:=v,R:=o.op.operands.toList.flatMap fun x=>(e x).ids} H:=by
 intro e' H' he hH _;have hs:iy D H' e' o.op=some v:=by
  rw [akF he fun x hx i hi=>hH i (.inl<|vY.2 ⟨x,by simpa using hx,hi⟩),h]
 exact (aae hD hs).congr fun x=>by rw [FL];simp [Eff.touch,look]
theorem akG (H H':Hp) (u:Value):Eh H' (.c u)=Eh H (.c u):=by
 cases u<;>first
  | rfl
  | (rename_i a n c;cases a<;>first|rfl|(cases n<;>first|rfl|(cases c<;>rfl)))
theorem aeI {D:Tab} (hD:dQ P D) {o:Oper} {q:Nat} {e:Operand->V} {H:Hp} {E:Eff} (h:QZ D q H e o.op=some E):uW P G o e E H:=by
 unfold QZ at h;split at h
 .rename_i t x ho;rw [dB] at h;obtain ⟨cs,hcs,h⟩:=h;cases hq:V.nX q cs with
  | true=>rw [hq] at h;cases h
  | false=>
   rw [hq] at h;simp only [aG,iG] at h;subst h;intro e' H' he hH hN;have hx:e' x=e x:=he x (by simp [ho,Op.operands]);have hc:uU H' (e' x)=some cs:=by rw [hx,aal fun i hi=>hH i<|.inl hi];exact hcs
   simp only [FE,Kq,FC,kX] at hN;exact (gH.box q ho hc hN hq).congr fun y=>by rw [FL];simp [Eff.touch,look];split<;>simp_all
 .rename_i t ho;rw [eD] at h;obtain ⟨i,hi,h⟩:=h;subst h;intro e' H' he hH hN;simp only [FE,Kq,FC,kX] at hN;exact (gH.alloc hD q ho hi hN).congr fun y=>by rw [FL];simp [Eff.touch,look];split<;>simp_all
 .rename_i t a x ho;split at h
  .rename_i it i off ys ht ha hx;split at h
   .rename_i ety cs hi;split at h
    .rename_i hs;cases h;intro e' H' he hH hN;have ha':e' a=.loc i off:=(he a<|by simp [ho,Op.operands]).trans ha;have hx':uU H' (e' x)=some ys:=by
      rw [he x (by simp [ho,Op.operands]),aal fun k hk=>hH k<|.inl hk];exact hx
     have hi':look H' i=some (.cells ety cs):=by
      rw [hH i<|.inr<|by simp [Eff.touch]];exact hi
     exact (gH.store hD ho ht ha' hi' hx' hs.1 hs.2).congr fun y=>by
      rw [FL,MQ];by_cases he:y=i<;>simp [Eff.touch,look,he]
    .cases h
   .cases h
  .cases h
 .rename_i t n parts ho;split at h
  .rename_i it ht;split at h
   .rename_i el hit;split at h
    .rename_i ie hel;rw [dB] at h;obtain ⟨cells,hf,h⟩:=h;rw [dB] at h;obtain ⟨⟨ys,C⟩,hab,h⟩:=h;split at h
     .rename_i hs;cases h;intro e' H' he hH hN;have hp:∀ p,p∈parts.toList->e' p.2=e p.2:=fun p hp=>he p.2 (by simp [ho,Op.operands];exact ⟨p.1,by simpa using hp⟩);have hf':wo H' (fun i=>some (i*ie.size,ie.size)) ((List.replicate n<|ie.zero.map .c).flatten) (parts.toList.map fun p=>(p.1,e' p.2))=some cells:=by
       rw [akE hp,aeH fun p hpp=>?_]
       .exact hf
       .obtain ⟨r,hr,rfl⟩:=jW.1 hpp;exact fun i hi=>hH i (.inl<|vY.2 ⟨r,hr,hi⟩)
      have hab':wB H' cells=some (ys,C):=by
       have key:∀ (l:List V) (ys:List V) (C':List Nat),wB H l=some (ys,C')->(∀ c,c∈C'->c∈C)->wB H' l=some (ys,C'):=by
        intro l;induction l with
        | nil=>intro ys C' h _;exact h
        | cons y l ih=>
         intro ys C' h hsub;simp only [wB,dB,eD] at h ⊢;obtain ⟨⟨z,C1⟩,h1,⟨zs,C2⟩,h2,h3⟩:=h;cases h3;refine ⟨(z,C1),?_,(zs,C2),ih zs C2 h2 fun c hc=>hsub c<|jo.2<|.inr hc,rfl⟩;cases y with
         | own j=>
          simp only [Eh] at h1 ⊢;split at h1
          .rename_i nn x1 x2 rows hl;split at h1
           .rename_i hh;cases h1;have hj:look H' j=look H j:=hH j (.inr<|by simp [Eff.touch];exact .inl<|hsub j aF);rw [hj,hl];simp only [hh,kF]
           .cases h1
          .cases h1
         | c u=>rw [akG H H'];exact h1
         | _=>exact h1
       exact key cells ys C hab fun c hc=>hc
      simp only [FE,Kq,FC,kX] at hN;exact gH.buildSlice hD q ho ht hit hel hs.1 hs.2.1 hf' hs.2.2.1 hab' hs.2.2.2 hN
     .cases h
    .cases h
   .cases h
  .cases h
 .rename_i x ho;cases h;intro e' H' he hH _;have hs:iy D H' e' o.op=some (e x):=by
   rw [ho];simp only [iy];rw [he x<|by simp [ho,Op.operands]]
  exact (aae hD hs).congr fun y=>by rw [FL];simp [Eff.touch,look]
 .rename_i op _ _ _ _ _;rw [eD] at h;obtain ⟨v,hv,h⟩:=h;subst h;exact aup hD hv
end
end Go.Av
namespace Go.Av
section
variable {P:Program} {G:Nat->Option (List V)} {L:Option Nat} {B:Nat}
def Ra (ops:Array Oper):Nat->List V->Hp->List (Bool×Eff)->Bool
 | _,_,_,[]=>true
 | i,T,H,(b,E)::Es=>match ops[i]? with
  | some o=>bif b then fresh E.N ⟨T,H⟩&&Ra ops (i+1) (fB T o.dst E.v) (E.new++bU E.C H) Es else Ra ops (i+1) (fB T o.dst V.und) H Es
  | none=>false
def Ei (draw:Bool) (ops:Array Oper) (T0:List V) (H0:Hp) (Es:List (Bool×Eff)):Bool:=bif draw then aah ops T0 H0 Es else Ra ops 0 T0 H0 Es
theorem Chain.auq {ops:Array Oper} {i:Nat} {T:List V} {H:Hp} {tail:List (Bool×Eff)} {T':List V} {H':Hp} {Q:St->Prop} (h:Chain P G ops i T H tail T' H'):Ra ops i T H tail=true->Q ⟨T',H'⟩->pU P G ops (ops.toList.drop i) ⟨T,H⟩ Q:=by
 induction h with
 | nil i T H h=>
  intro _ hq;rw [AJ<|by simpa using h];exact hq
 | @op i T H o E tl T' H' ho hw hop rest ih=>
  intro hk hq;simp only [Ra,ho,aH,dL] at hk;rw [drop_at ho];refine atz (st:=⟨T,H⟩) hw (hop (ev G T) H (fun _ _=>rfl) (fun _ _=>rfl) (kW.2 fun k hkk=>by rw [(QM hk.1 hkk).2.2];rfl)) hk.1 ?_;have:=ih hk.2 hq;have e:(St.put ⟨T,H⟩ o.dst E.v<|E.new++bU E.C H)=⟨fB T o.dst E.v,E.new++bU E.C H⟩:=by cases o.dst<;>rfl
  rw [e];exact this
 | @skip i T H o tl T' H' ho hw rest ih=>
  intro hk hq;simp only [Ra,ho,aG] at hk;rw [drop_at ho];refine atA (st:=⟨T,H⟩) hw ?_;have:=ih hk hq;have e:(St.put ⟨T,H⟩ o.dst V.und H)=⟨fB T o.dst V.und,H⟩:=by cases o.dst<;>rfl
  rw [e];exact this
def W (P:Program) (G:Nat->Option (List V)) (ops:Array Oper) (draw:Bool) (T0:List V) (H0:Hp) (i:Nat) (T:List V) (H:Hp) (Es:List (Bool×Eff)) (Q:St->Prop):Prop:=
 ∃ tail T' H',Chain P G ops i T H tail T' H'/\Ei draw ops T0 H0 (Es++tail)=true/\Q ⟨T',H'⟩
theorem AV {ops:Array Oper} {draw:Bool} {T0:List V} {H0:Hp} {i:Nat} {T:List V} {H:Hp} {Es:List (Bool×Eff)} {Q:St->Prop} (h:ops.size<=i) (hk:Ei draw ops T0 H0 Es=true) (k:Q ⟨T,H⟩):W P G ops draw T0 H0 i T H Es Q:=
 ⟨[],T,H,.nil i T H h,by rw [pQ];exact hk,k⟩
theorem oO {id:Nat} {l:List Oper} {draw:Bool} {T:List V} {H:Hp} {Q:Exit->St->Prop} (hm:P.follows .mixedOrders=true) (h:W P G l.toArray draw T H 0 T H [] (Q .normal)):CO L P G (.region id l.toArray draw) ⟨T,H⟩ Q:=by
 obtain ⟨tail,T',H',hc,hk,hq⟩:=h;cases draw with
 | true=>exact auk hm hc hk hq
 | false=>exact atb (by simpa using hc.auq hk hq)
theorem aJ {id:Nat} {l:List Oper} {draw:Bool} {c:Code} {T:List V} {H:Hp} {Q:Exit->St->Prop} (hm:P.follows .mixedOrders=true) (h:W P G l.toArray draw T H 0 T H [] fun st=>CO L P G c st Q):CO L P G (.seq (.region id l.toArray draw) c) ⟨T,H⟩ Q:=
 ajM (oO hm h)
theorem W.one {ops:Array Oper} {draw:Bool} {T0:List V} {H0:Hp} {i:Nat} {T:List V} {H:Hp} {Es:List (Bool×Eff)} {Q:St->Prop} {o:Oper} (E:Eff) (ho:ops[i]?=some o) (hw:wu ops T o.guard=some true) (hop:uW P G o (ev G T) E H)
  (k:W P G ops draw T0 H0 (i+1) (fB T o.dst E.v) (E.new++bU E.C H) (Es++[(true,E)]) Q):W P G ops draw T0 H0 i T H Es Q:=by
 obtain ⟨tail,T',H',hc,hk,hq⟩:=k;exact ⟨(true,E)::tail,T',H',.op ho hw hop hc,by rw [kC] at hk;exact hk,hq⟩
theorem W.skip {ops:Array Oper} {draw:Bool} {T0:List V} {H0:Hp} {i:Nat} {T:List V} {H:Hp} {Es:List (Bool×Eff)} {Q:St->Prop} {o:Oper} (ho:ops[i]?=some o) (hw:wu ops T o.guard=some false)
  (k:W P G ops draw T0 H0 (i+1) (fB T o.dst V.und) H (Es++[(false,Eff.und)]) Q):W P G ops draw T0 H0 i T H Es Q:=by
 obtain ⟨tail,T',H',hc,hk,hq⟩:=k;exact ⟨(false,Eff.und)::tail,T',H',.skip ho hw hc,by rw [kC] at hk;exact hk,hq⟩
structure Run where
 T:List V
 H:Hp
 Es:List (Bool×Eff)
 deriving Inhabited
def Cy (D:Tab) (G:Nat->Option (List V)) (ops:Array Oper):Nat->Nat->Nat->List V->Hp->Option Run
 | 0,_,_,T,H=>some ⟨T,H,[]⟩
 | n+1,q,i,T,H=>match ops[i]? with
  | none=>none
  | some o=>match wu ops T o.guard with
   | some true=>match QZ D q H (ev G T) o.op with
    | some E=>match Cy D G ops n (q+E.N.length) (i+1) (fB T o.dst E.v) (E.new++bU E.C H) with
     | some r=>some ⟨r.T,r.H,(true,E)::r.Es⟩
     | none=>none
    | none=>none
   | some false=>match Cy D G ops n q (i+1) (fB T o.dst V.und) H with
    | some r=>some ⟨r.T,r.H,(false,Eff.und)::r.Es⟩
    | none=>none
   | none=>none
theorem Rb {D:Tab} (hD:dQ P D) {ops:Array Oper} {draw:Bool} {T0:List V} {H0:Hp} {Q:St->Prop}:∀ (n:Nat) {q i:Nat} {T:List V} {H:Hp} {Es:List (Bool×Eff)} {r:Run},Cy D G ops n q i T H=some r->W P G ops draw T0 H0 (i+n) r.T r.H (Es++r.Es) Q->W P G ops draw T0 H0 i T H Es Q
 | 0,q,i,T,H,Es,r,h,k=>by simp only [Cy,iG] at h;subst h;simpa using k
 | n+1,q,i,T,H,Es,r,h,k=>by
  simp only [Cy] at h;split at h
  .cases h
  .rename_i o ho;split at h
   .rename_i hw;split at h
    .rename_i E hE;split at h
     .rename_i r' hr;cases h;refine W.one E ho hw (aeI hD hE) ?_;refine Rb hD n hr ?_;rw [kC,show i+1+n=i+(n+1) by omega];exact k
     .cases h
    .cases h
   .rename_i hw;split at h
    .rename_i r' hr;cases h;refine W.skip ho hw ?_;refine Rb hD n hr ?_;rw [kC,show i+1+n=i+(n+1) by omega];exact k
    .cases h
   .cases h
def pV (D:Tab) (G:Nat->Option (List V)) (ops:Array Oper) (n q i:Nat) (T:List V) (H:Hp):Run:=(Cy D G ops n q i T H).getD default
theorem W.run {D:Tab} (hD:dQ P D) {ops:Array Oper} {draw:Bool} {T0:List V} {H0:Hp} {Q:St->Prop} (n q:Nat) {i:Nat} {T:List V} {H:Hp} {Es:List (Bool×Eff)} (h:(Cy D G ops n q i T H).isSome=true)
  (k:W P G ops draw T0 H0 (i+n) (pV D G ops n q i T H).T (pV D G ops n q i T H).H (Es++(pV D G ops n q i T H).Es) Q):W P G ops draw T0 H0 i T H Es Q:=by
 obtain ⟨r,hr⟩:=MC.1 h;refine Rb hD n hr ?_;unfold pV at k;rw [hr] at k;exact k
def Cz (m:Ren):List Nat->Nat->List V->List V
 | _,_,[]=>[]
 | ks,i,x::T=>(if ks.contains i then x.rn m else .junk)::Cz m ks (i+1) T
def Ob.rn (m:Ren):Ob->Ob
 | .cells e cs=>.cells e (xB m cs)
 | o=>o
def je (m:Ren):Hp->Hp
 | []=>[]
 | (i,o)::H=>match dZ m i with
  | some j=>(j,o.rn m)::je m H
  | none=>je m H
theorem aeJ (m:Ren) (ks:List Nat):∀ (i:Nat) (T:List V),AP m T (Cz m ks i T)
 | _,[]=>trivial
 | i,x::T=>⟨by split<;>simp,aeJ m ks (i+1) T⟩
theorem Ia (m:Ren):∀ (cs:List V),AP m cs (xB m cs)
 | []=>trivial
 | _::cs=>⟨.inr rfl,Ia m cs⟩
theorem aeK (m:Ren) (o:Ob):Kv m o (o.rn m):=by
 cases o with
 | cells e cs=>exact ⟨rfl,Ia m cs⟩
 | vec nn e k rows=>exact ⟨.inl rfl,rfl,rfl,rfl⟩
def AX (H:Hp):Bool:=decide (H.map (·.1)).Nodup
theorem aur {H:Hp} (hn:(H.map (·.1)).Nodup) {i:Nat} {o:Ob} (h:(i,o)∈H):look H i=some o:=by
 induction H with
 | nil=>cases h
 | cons p H ih=>
  obtain ⟨j,p⟩:=p;simp only [jV,qw] at hn;simp only [look];rcases fF.1 h with h|h
  .cases h;simp
  .split
   .subst_vars;exact absurd (Cr (f:=(·.1)) h) hn.1
   .exact ih hn.2 h
theorem Na {m:Ren} {H:Hp} (hn:(H.map (·.1)).Nodup):∀ (H':Hp),(∀ p,p∈H'->p∈H)->Hz m H (je m H')
 | [],_=>trivial
 | (i,o)::H',h=>by
  simp only [je];split
  .rename_i j hj;exact ⟨⟨i,o,hj,aur hn<|h (i,o) aF,aeK m o⟩,Na hn H' fun p hp=>h p<|by simp [hp]⟩
  .exact Na hn H' fun p hp=>h p (by simp [hp])
theorem Weak.to (m:Ren) (ks:List Nat) {T:List V} {H:Hp} {T':List V} {H':Hp} (hm:(m.ok&&m.keep&&AX H)=true) (hT:Cz m ks 0 T=T') (hH:je m H=H'):Weak ⟨T,H⟩ ⟨T',H'⟩:=by
 subst hT hH;simp only [dL] at hm;exact Weak.rn m hm.1.1 hm.1.2 (aeJ m ks 0 T) (Na (nU hm.2) H fun p hp=>hp)
theorem CO.to (m:Ren) (ks:List Nat) {c:Code} {T:List V} {H:Hp} {Q:Exit->St->Prop} (T':List V) (H':Hp) (hm:(m.ok&&m.keep&&AX H)=true) (hT:Cz m ks 0 T=T') (hH:je m H=H') (k:CO L P G c ⟨T',H'⟩ Q):CO L P G c ⟨T,H⟩ Q:=
 jR (Weak.to m ks hm hT hH) k
def tl (n:Nat) (l:List (Nat×V)):List V:=l.foldl (fun T p=>T.set p.1 p.2) (List.replicate n .junk)
end
end Go.Av
namespace Go.Av
section
variable {P:Program} {G:Nat->Option (List V)}
theorem dY.lay {ρ:Nat->Option Value} {S:Nat->Prop} {F:Nat->List Nat} {H:Hp} {w:World} (hH:dY ρ S F H w) {j:Nat} {nn:Bool} {ty:Tg} {k:Nat} {rows:List (List V)} (hj:look H j=some (.vec nn ty k rows)):
  ∃ ρ' S',dY ρ' S' F (bU [j] H) w/\(∀ i r,ρ' i=some r->ρ i=some r)/\(∀ b,S b->S' b)/\(∃ r,ρ j=some r/\RD S' w r (.sl nn false<|qN rows) [])/\jI S (Ub H F) w S' (Ub (bU [j] H) F) w:=by
 obtain ⟨r,hr,bY⟩:=hH.obj j _ hj;let ρ':Nat->Option Value:=fun i=>if i=j then none else ρ i
 let S':Nat->Prop:=fun b=>S b\/b∈F j
 have hρ:∀ i r,ρ' i=some r->ρ i=some r:=fun i r hi=>by
  simp only [ρ'] at hi;split at hi
  .cases hi
  .exact hi
 have hS:∀ b,S b->S' b:=fun b hb=>.inl hb;have hl:∀ i o,look (bU [j] H) i=some o->i≠j/\look H i=some o:=fun i o hi=>by
  rw [lI] at hi;split at hi
  .cases hi
  .exact ⟨by simpa using ‹¬i∈[j]›,hi⟩
 have hkeep:Keeps S w S' w:=fun b hb=>⟨hS b hb,rfl⟩
 refine ⟨ρ',S',⟨fun i hi=>?_,fun i o hi=>?_,fun i o hi=>hH.nodup i o (hl i o hi).2,fun i i' o p b hi hi' hne=>hH.gW i i' o p b (hl i o hi).2 (hl i' p hi').2 hne,fun i o b hi hb=>?_,fun i o b hi hb=>hH.lt i o b (hl i o hi).2 hb,fun b hb=>?_⟩,hρ,hS,⟨r,hr,bY.atd hS fun b hb=>.inr hb⟩,
  ⟨rfl,rfl,rfl,cZ _,fun _ _ _=>rfl,hS,fun b hb=>?_,fun b ⟨i,o,hi,hb⟩=>.inl ⟨i,o,(hl i o hi).2,hb⟩⟩⟩
 .simp only [ρ'];split
  .rfl
  .rename_i hne;rw [lI,bI<|by simpa using hne] at hi;exact hH.dom i hi
 .obtain ⟨hne,hi⟩:=hl i o hi;obtain ⟨r',hr',AQ⟩:=hH.obj i o hi;exact ⟨r',by simp only [ρ'];rw [bI hne];exact hr',AQ.mono (fun q r hq _=>hρ q r hq) hkeep fun _ _=>rfl⟩
 .obtain ⟨hne,hi⟩:=hl i o hi;rintro (hs|hs)
  .exact hH.sep i o b hi hb hs
  .exact hH.gW i j o _ b hi hj hne hb hs
 .rcases hb with hb|hb
  .exact hH.slt b hb
  .exact hH.lt j _ b hj hb
 .rcases hb with hb|hb
  .exact .inl hb
  .exact .inr (.inl ⟨j,_,hj,hb⟩)
def CB (Z:List (Nat×V)):V->V
 | .own j=>match Z.find? (·.1==j) with
  | some p=>p.2
  | none=>.own j
 | .c (.slice none 0 0)=>.sl false false []
 | x=>x
def sM (Z:List (Nat×V)):V->V
 | .agg cs=>.agg (cs.map<|CB Z)
 | x=>CB Z x
def bO (H:Hp):List (Nat×List (List V))->Prop
 | []=>True
 | (j,rows')::Z=>(∃ nn t k rows,look H j=some (.vec nn t k rows)/\qN rows=rows')/\bO H Z
theorem bO.get {H:Hp}:∀ {Z:List (Nat×List (List V))},bO H Z->∀ {p:Nat×List (List V)},p∈Z->∃ nn t k rows,look H p.1=some (.vec nn t k rows)/\qN rows=p.2
 | (j,rows')::Z,h,p,hp=>by
  rcases fF.1 hp with rfl|hp
  .exact h.1
  .exact bO.get h.2 hp
def akH (H:Hp) (j:Nat):Option (List<|List V):=match look H j with
 | some (.vec _ _ _ rows)=>some rows
 | _=>none
theorem bO.cons {H:Hp} {j:Nat} {Z:List (Nat×List (List V))} {α:Type} (enc enc':α->List V) (l:List α) (h:akH H j=some (l.map enc)) (he:∀ x,tQ (enc x)=enc' x) (k:bO H Z):bO H ((j,l.map enc')::Z):=by
 unfold akH at h;split at h
 .rename_i nn t k' rows hl;cases h;refine ⟨⟨nn,t,k',_,hl,?_⟩,k⟩;rw [MV,nW];exact qx fun x _=>he x
 .cases h
theorem RD.low {S:Nat->Prop} {w:World} {v:Value} {nn x:Bool} {rows:List (List V)} {F:List Nat} (h:RD S w v (.sl nn x rows) F):RD S w v (.sl false x rows) F:=by
 cases h with
 | mF=>exact .mF x
 | shr a cap _ _ k cs hlen hcap hk hc hr=>exact .shr a cap false rows k cs hlen hcap hk hc hr
 | exc g cap arr ety _ _ k cs Fs hh hcap hmax hsz hk hc hr=>exact .exc g cap arr ety false rows k cs Fs hh hcap hmax hsz hk hc hr
def qO (Z:List (Nat×List (List V))):List (Nat×V):=Z.map fun p=>(p.1,.sl false false p.2)
theorem aeL (A B:List Nat) (H:Hp) (x:Nat):look (bU A<|bU B H) x=look (bU (B++A) H) x:=by
 simp only [lI,jo];by_cases h1:x∈A<;>by_cases h2:x∈B<;>simp [h1,h2]
theorem dY.lays {KD:Nat->Option Value} {S0:Nat->Prop} {F:Nat->List Nat} {H0:Hp} {w:World} (hH0:dY KD S0 F H0 w):∀ (C:List Nat),C.Nodup->(∀ j,j∈C->∃ nn t k rows,look H0 j=some (.vec nn t k rows))->
  ∃ ρ' S',dY ρ' S' F (bU C H0) w/\(∀ i r,ρ' i=some r->KD i=some r)/\(∀ b,S0 b->S' b)/\(∀ j,j∈C->∀ nn t k rows,look H0 j=some (.vec nn t k rows)->∃ r,KD j=some r/\RD S' w r (.sl nn false<|qN rows) [])/\jI S0 (Ub H0 F) w S' (Ub (bU C H0) F) w
 | [],_,_=>⟨KD,S0,hH0.congr fun x=>by rw [lI];simp,fun _ _ h=>h,fun _ h=>h,fun j hj=>(by cases hj),⟨rfl,rfl,rfl,cZ _,fun _ _ _=>rfl,fun _ h=>h,fun _ h=>.inl h,fun b ⟨i,o,hi,hb⟩=>.inl ⟨i,o,by rw [lI] at hi;simpa using hi,hb⟩⟩⟩
 | j::C,hn,hC=>by
  rw [qw] at hn;obtain ⟨iK,S1,h1,a1,b1,c1,e1⟩:=dY.lays hH0 C hn.2 fun i hi=>hC i (sG _ hi);obtain ⟨nn,t,k,rows,hj⟩:=hC j aF;have hj':look (bU C H0) j=some (.vec nn t k rows):=by rw [lI,bI hn.1];exact hj
  obtain ⟨sJ,S2,h2,a2,b2,c2,e2⟩:=h1.lay hj';have hlk:∀ x,look (bU (j::C) H0) x=look (bU [j]<|bU C H0) x:=fun x=>by
   simp only [lI,fF,MJ,MP];by_cases h1:x=j<;>by_cases h2:x∈C<;>simp [h1,h2]
  refine ⟨sJ,S2,h2.congr hlk,fun i r h=>a1 i r<|a2 i r h,fun b h=>b2 b<|b1 b h,fun i hi mG t' k' rows' hl=>?_,?_⟩
  .rcases fF.1 hi with rfl|hi
   .rw [hj] at hl;cases hl;obtain ⟨r,hr,hd⟩:=c2;exact ⟨r,a1 _ r hr,hd⟩
   .obtain ⟨r,hr,hd⟩:=c1 i hi mG t' k' rows' hl;exact ⟨r,hr,hd.mono (fun b hb=>⟨b2 b hb,rfl⟩) fun b hb=>by cases hb⟩
  .have:=e1.trans e2;exact ⟨this.os,this.tape,this.output,this.size,this.keep,this.sub,this.newS,fun b hb=>this.uT b<|Ub.congr hlk hb⟩
def Ob.low (m:Ren):Ob->Ob
 | .cells e cs=>.cells e (xB m cs)
 | .vec _ e k rows=>.vec false e k rows
theorem aus (m:Ren) (o:Ob):Kv m o (o.low m):=by
 cases o with
 | cells e cs=>exact ⟨rfl,Ia m cs⟩
 | vec nn e k rows=>exact ⟨.inr rfl,rfl,rfl,rfl⟩
def wE (q:Ren) (H:Hp):Ren->Option Hp
 | []=>some []
 | (j,i)::r=>match look H j,wE q H r with
  | some o,some H'=>some ((i,o.low q)::H')
  | _,_=>none
theorem Vt {q:Ren} {H H1:Hp}:∀ {r:Ren} {Hc:Hp},wE q H r=some Hc->(∀ p,p∈r->dZ q p.1=some p.2)->(∀ p,p∈r->look H1 p.1=look H p.1)->Hz q H1 Hc
 | [],Hc,h,_,_=>by cases h;trivial
 | (j,i)::r,Hc,h,hq,hl=>by
  simp only [wE] at h;split at h
  .rename_i o H' ho hr;cases h;exact ⟨⟨j,o,hq (j,i) aF,by rw [hl (j,i) aF];exact ho,aus q o⟩,Vt hr (fun p hp=>hq p<|by simp [hp]) fun p hp=>hl p<|by simp [hp]⟩
  .cases h
theorem aam {m:Ren}:∀ {H:Hp} {j:Nat} {o':Ob},(H.map (·.1)).Nodup->look (je m H) j=some o'->∃ i o,dZ m i=some j/\look H i=some o/\o'=o.rn m
 | [],j,o',_,h=>by cases h
 | (i,o)::H,j,o',hn,h=>by
  simp only [jV,qw] at hn;have step:look (je m H) j=some o'->∃ i' o2,dZ m i'=some j/\look ((i,o)::H) i'=some o2/\o'=o2.rn m:=fun h=>by
   obtain ⟨i',o2,h1,h2,h3⟩:=aam hn.2 h;refine ⟨i',o2,h1,?_,h3⟩;simp only [look];split
   .subst_vars;have hmem:∀ (H:Hp) (i:Nat) (o:Ob),look H i=some o->i∈H.map (·.1):=by
     intro H;induction H with
     | nil=>intro i o h;cases h
     | cons p H ih=>
      obtain ⟨j,p⟩:=p;intro i o h;simp only [look] at h;split at h
      .subst_vars;simp
      .simp only [jV,fF];exact .inr (ih i o h)
    exact absurd (hmem H _ o2 h2) hn.1
   .exact h2
  simp only [je] at h;split at h
  .rename_i k hk;simp only [look] at h;split at h
   .cases h;subst_vars;exact ⟨i,o,hk,by simp [look],rfl⟩
   .exact step h
  .exact step h
def Ej (q m:Ren) (Z:List Nat) (N:List Nat):Bool:=
 q.ok&&m.ok&&m.all (fun p=>(Nat.ble 100 p.1||dZ q p.2==some p.1)&&(Nat.blt p.1 100||N.contains p.2))&&decide Z.Nodup&&q.all (fun p=>!Z.contains p.1&&dZ q p.1==some p.2)
theorem uW.call {o:Oper} {e:Operand->V} {Hi:Hp} {f:Operand} {as:Array Operand} {ats:Array TypeId} {fid:FuncId} {caps:List V} (ho:o.op=.call {callee:=.value f,args:=as,argTypes:=ats}) (hf:e f=.fn fid caps) (hcf:yE P fid)
  {vs:List V} {Hc dU:Hp} {rc:V} (h:AC P G fid vs Hc rc dU) (q m:Ren) (Zr:List (Nat×List (List V))) (N:List Nat) (hn:Ej q m (Zr.map (·.1)) N=true) (Rc:AX dU=true)
  (uX:bO Hi Zr) (hh:wE q Hi q=some Hc) (ha:xB q ((as.toList.map e++caps).map<|sM<|qO Zr)=vs):
  uW P G o e {v:=rc.rn m,C:=Zr.map (·.1)++q.map (·.1),new:=je m dU,N:=N} Hi:=by
 have hZ:∀ j,j∈Zr.map (·.1)->∃ nn t k rows,look Hi j=some (.vec nn t k rows):=fun j hj=>by
  obtain ⟨p,hp,rfl⟩:=jW.1 hj;obtain ⟨nn,t,k,rows,h1,_⟩:=uX.get hp;exact ⟨nn,t,k,rows,h1⟩
 generalize hZe:Zr.map (·.1)=Z at*;unfold Ej at hn;simp only [dL,kW,lG,lH,kX] at hn;obtain ⟨⟨⟨⟨n1,n2⟩,n3⟩,n4⟩,n5⟩:=hn;intro e' H he hH hN ρ S F η w bQ pW hG;have touched:∀ j,j∈Z++q.map (·.1)->look H j=look Hi j:=fun j hj=>hH j (.inr<|by unfold Eff.touch;simp only [lH,Hq];exact .inl hj);have FM:f∈o.op.operands:=by simp [ho,Op.operands,Call.operands]
 have FN:∀ x,x∈as.toList->x∈o.op.operands:=fun x hx=>by
  simp only [ho,Op.operands,Call.operands];exact Ko.2 (.inr<|by simpa using hx)
 have hfe:e' f=.fn fid caps:=(he f FM).trans hf;have hmap:as.toList.map e'=as.toList.map e:=qx fun x hx=>he x (FN x hx);obtain ⟨iK,S1,hH1,a1,b1,c1,e1⟩:=pW.lays Z n4 fun j hj=>by
  obtain ⟨nn,t,k,rows,hl⟩:=hZ j hj;exact ⟨nn,t,k,rows,by rw [touched j<|by simp [hj]];exact hl⟩
 have hk:Keeps S w S1 w:=pW.keeps e1;have Rf:∀ v x,RV ρ S w v x->RV iK S1 w v (CB (qO Zr) x):=fun v x hv=>by
  unfold CB;split
  .rename_i j;split
   .rename_i p hp;have hpm:=adK hp;have El:=adX hp;simp only [mR] at El;unfold qO at hpm;rw [jW] at hpm;obtain ⟨p',hp',rfl⟩:=hpm;simp only at El;obtain ⟨nn,t,k,rows,hl,hsh⟩:=uX.get hp';have Vu:p'.1∈Z:=by rw [<- hZe];exact Cr hp'
    subst El;obtain ⟨r,hr,hd⟩:=c1 p'.1 Vu nn t k rows (by rw [touched p'.1<|by simp [Vu]];exact hl);rw [hv.Cv r hr];rw [hsh] at hd;exact .sl _ _ _ _ hd.low
   .exact hv.mono (fun i r hi _=>a1 i r hi) hk
  .rw [hv.iX];exact .sl _ _ _ _ (.mF false)
  .exact hv.mono (fun i r hi _=>a1 i r hi) hk
 have lay:∀ v x,RV ρ S w v x->RV iK S1 w v (sM (qO Zr) x):=fun v x hv=>by
  unfold sM;split
  .rename_i cs;obtain ⟨arr,ha,hsz,h1c,hr⟩:=hv.Kw;rw [ha];refine .agg arr _ (by simpa using hsz) h1c fun j x c hx hc=>?_;rw [gD,eD] at hx;obtain ⟨y,hy,rfl⟩:=hx;obtain ⟨c',hc',xC⟩:=hr j y hy;rw [hc] at hc';cases hc';exact Rf c y xC
  .exact Rf v x hv
 have aJF:∀ v x,RV ρ S w v x->RV iK S1 w v x:=fun v x hv=>hv.mono (fun i r hi _=>a1 i r hi) hk;have zF:=bQ f FM;rw [hfe] at zF;obtain ⟨arr,harr,hsz,hcap⟩:=zF.Vg;have fits:Vd q m ((as.toList.map e'++caps).map<|sM<|qO Zr) (bU Z H) vs Hc rc dU (rc.rn m) (je m dU++bU (q.map (·.1)) (bU Z H)) N:=by
  have Vv:∀ p,p∈q->p.1∉Z/\dZ q p.1=some p.2:=fun p hp=>by
   have:=n5 p hp;simp only [mR] at this;exact ⟨by simpa using this.1,this.2⟩
  refine ⟨n1,n2,?_,Vt hh (fun p hp=>(Vv p hp).2) fun p hp=>?_,rfl,fun j o' hj=>?_,fun i j hij hi=>?_,fun i j hij hi=>?_,fun j hj=>?_⟩
  .rw [hmap];have key:∀ (l:List V),AP q l (xB q l):=Ia q;rw [<- ha];exact key _
  .rw [lI,bI (Vv p hp).1];exact touched p.1 (jo.2<|.inr<|Cr hp)
  .rw [FJ] at hj;cases hkj:look (je m dU) j with
   | some o2=>
    rw [hkj] at hj;cases hj;obtain ⟨i,o2,h1,h2,h3⟩:=aam (nU Rc) hkj;exact .inr ⟨i,o2,h1,h2,h3 ▸ aeK m o2⟩
   | none=>
    rw [hkj] at hj;simp only at hj;rw [lI] at hj;split at hj
    .cases hj
    .rename_i hnq;refine .inl ⟨?_,hj,fun i hij=>?_⟩
     .cases hq:dZ q j with
      | none=>rfl
      | some i=>exact absurd (Cr (f:=(·.1))<|yD hq) hnq
     .have h3:=n3 _ (yD hij);rcases xA i 100 with hlt|hge
      .have:=h3.1;rcases this with h|h
       .rw [AL] at h;simp only at h;omega
       .simp only [mR] at h;exact hnq (Cr (f:=(·.1))<|yD h)
      .have:=h3.2;rcases this with h|h
       .rw [MN] at h;simp only at h;omega
       .simp only [Hq] at h;have Em:=kW.1 hN j h;simp only [kX] at Em;have:=(yB Em).1;rw [lI] at hj;split at hj
        .cases hj
        .rw [this] at hj;cases hj
  .have h3:=(n3 _<|yD hij).1;rcases h3 with h|h
   .rw [AL] at h;simp only at h;omega
   .simpa using h
  .have h3:=(n3 _<|yD hij).2;rcases h3 with h|h
   .rw [MN] at h;simp only at h;omega
   .simpa using h
  .have Em:=kW.1 hN j hj;simp only [kX] at Em;rw [lI];split
   .rfl
   .exact (yB Em).1
 unfold oC execOp;simp only [ho,resolve,harr,Deferred.ofValue,gU,kY,gN,invoke,UO];have Vi:=hcf (as.map η++arr) w;simp only [Vi];have hcall:=aef h fits (ρ:=iK) (S:=S1) (F:=F) (xs:=as.map η++arr) (w:=w) (by simp [hsz]) (fun i x hx=>?_) hH1 (hG.mono hk) (fun j o' hj i hi=>?_)
 .refine hcall.mono ?_;rintro en w' ⟨x,rfl,hp⟩;refine ⟨x,rfl,?_⟩;obtain ⟨ρ',S',F',hv,iA,hE',hA'⟩:=hp;have hlk:∀ y,look (je m dU++bU (Z++q.map (·.1)) H) y=look (je m dU++bU (q.map (·.1)) (bU Z H)) y:=fun y=>by
   simp only [FJ,aeL]
  have:=e1.trans hE';exact ⟨ρ',S',F',hv,iA.congr hlk,⟨this.os,this.tape,this.output,this.size,this.keep,this.sub,this.newS,fun b hb=>this.uT b<|Ub.congr hlk hb⟩,fun j r hj hN=>a1 j r<|hA' j r hj hN⟩
 .rw [gD,eD] at hx;obtain ⟨x0,hx0,rfl⟩:=hx;refine lay _ _ ?_;by_cases hi:i < as.size
  .rw [uR (by simpa using hi),gD,eD] at hx0;obtain ⟨y,hy,rfl⟩:=hx0;have hy':as[i]?=some y:=by simpa using hy
   have:(as.map η++arr).getD i undef=η y:=by
    rw [nS,QE (by simpa using hi),QF,hy'];rfl
   rw [this];exact bQ y (FN y<|nT hy)
  .rw [uQ<|by simpa using hi] at hx0;simp only [mE,Co] at hx0;have hlt:i - as.size < arr.size:=by rw [hsz];exact (dK.1 hx0).1
   have:(as.map η++arr).getD i undef=arr[i - as.size]:=by
    rw [nS,adJ<|by simpa using hi];simp [mP hlt]
   rw [this];exact hcap _ x0 _ hx0 (mP hlt)
 .rw [lI] at hj;split at hj
  .cases hj
  .have Vw:=kW.1 hN i hi;simp only [kX] at Vw;exact (yB Vw).2 j o' hj
end
end Go.Av
namespace Go.Av
section
variable {P:Program} {G:Nat->Option (List V)}
theorem akI {ρ:Nat->Option Value} {S:Nat->Prop} {F:Nat->List Nat} {H:Hp} {w w':World} (hH:dY ρ S F H w) (C:List Nat) {i:Nat} {o:Ob} {root:Value} (hroot:ρ i=some root) {Fi:List Nat}
  (hos:w'.os=w.os) (Vj:w'.tape=w.tape) (hout:w'.output=w.output) (hsize:w.heap.size<=w'.heap.size) (hkeep:∀ b,b < w.heap.size->(∀ c o,c∈C->look H c=some o->b∈F c->False)->w'.heap[b]?=w.heap[b]?)
  (AQ:∀ ρ',jd ρ' S w' root o Fi) (hnd:Fi.Nodup) (iH:∀ b,b∈Fi->(∃ c o,c∈C/\look H c=some o/\b∈F c)\/(w.heap.size<=b/\b < w'.heap.size))
  {x:Value} {v:V} (hv:RV (fun j=>if j=i then some root else if j∈C then none else ρ j) S w' x v):Post ρ S F H w v ((i,o)::bU C H) [] x w':=by
 let ρ':Nat->Option Value:=fun j=>if j=i then some root else if j∈C then none else ρ j
 have hρ:∀ j r,ρ' j=some r->ρ j=some r:=fun j r hj=>by
  simp only [ρ'] at hj;split at hj
  .subst_vars;exact hroot.trans hj
  .split at hj
   .cases hj
   .exact hj
 have kS:∀ b,S b->w'.heap[b]?=w.heap[b]?:=fun b hb=>hkeep b (hH.slt b hb) fun c o _ ho hc=>hH.sep c o b ho hc hb;have hk:Keeps S w S w':=fun b hb=>⟨hb,kS b hb⟩
 have kO:∀ j p b,j∉C->look H j=some p->b∈F j->w'.heap[b]?=w.heap[b]?:=fun j p b hj hp hb=>hkeep b (hH.lt j p b hp hb) fun c o hc ho hbc=>hH.gW j c p o b hp ho (fun e=>hj<|e ▸ hc) hb hbc;have wz:∀ j p,look ((i,o)::bU C H) j=some p->(j=i/\p=o)\/(j≠i/\j∉C/\look H j=some p):=fun j p hp=>by
  simp only [look,lI] at hp;split at hp
  .cases hp;exact .inl ⟨‹_›,rfl⟩
  .split at hp
   .cases hp
   .exact .inr ⟨‹_›,‹_›,hp⟩
 have far:∀ j p b,j∉C->look H j=some p->b∈F j->b∈Fi->False:=fun j p b hj hp hb hbi=>by
  rcases iH b hbi with ⟨c,q,hc,hq,hbc⟩|⟨h1,_⟩
  .exact hH.gW j c p q b hp hq (fun e=>hj<|e ▸ hc) hb hbc
  .have:=hH.lt j p b hp hb;omega
 refine ⟨ρ',S,fun j=>if j=i then Fi else F j,hv,⟨fun j hj=>?_,fun j p hp=>?_,fun j p hp=>?_,fun j j' p p' b hj hj' hne hb hb'=>?_,fun j p b hp hb=>?_,fun j p b hp hb=>?_,fun b hb=>Az (hH.slt b hb) hsize⟩,
  ⟨hos,Vj,hout,hsize,fun b hb hu=>hkeep b hb fun c o _ ho hbc=>hu ⟨c,o,ho,hbc⟩,fun _ h=>h,fun _ h=>.inl h,fun b hb=>?_⟩,fun j r hj _=>?_⟩
 .simp only [look,lI] at hj;simp only [ρ'];split at hj
  .cases hj
  .rename_i hne;rw [bI hne];split at hj
   .rw [dA ‹_›]
   .rw [bI ‹_›];exact hH.dom j hj
 .rcases wz j p hp with ⟨rfl,rfl⟩|⟨hne,hC,hp⟩
  .exact ⟨root,by simp [ρ'],by rw [dA rfl];exact AQ ρ'⟩
  .obtain ⟨r,hr,Cw⟩:=hH.obj j p hp;refine ⟨r,by simp only [ρ',bI hne,bI hC];exact hr,?_⟩;rw [bI hne];exact Cw.mono (fun q r hq _=>hρ q r hq) hk (fun b hb=>kO j p b hC hp hb)
 .rcases wz j p hp with ⟨rfl,rfl⟩|⟨hne,hC,hp⟩
  .rw [dA rfl];exact hnd
  .rw [bI hne];exact hH.nodup j p hp
 .rcases wz j p hj with ⟨rfl,rfl⟩|⟨hne1,hC1,hp1⟩
  .rcases wz j' p' hj' with ⟨rfl,rfl⟩|⟨hne2,hC2,hp2⟩
   .exact hne rfl
   .rw [dA rfl] at hb;rw [bI hne2] at hb';exact far j' p' b hC2 hp2 hb' hb
  .rcases wz j' p' hj' with ⟨rfl,rfl⟩|⟨hne2,hC2,hp2⟩
   .rw [bI hne1] at hb;rw [dA rfl] at hb';exact far j p b hC1 hp1 hb hb'
   .rw [bI hne1] at hb;rw [bI hne2] at hb';exact hH.gW j j' p p' b hp1 hp2 hne hb hb'
 .rcases wz j p hp with ⟨rfl,rfl⟩|⟨hne,hC,hp⟩
  .rw [dA rfl] at hb;intro hs;rcases iH b hb with ⟨c,q,hc,hq,hbc⟩|⟨h1,_⟩
   .exact hH.sep c q b hq hbc hs
   .have:=hH.slt b hs;omega
  .rw [bI hne] at hb;exact hH.sep j p b hp hb
 .rcases wz j p hp with ⟨rfl,rfl⟩|⟨hne,hC,hp⟩
  .rw [dA rfl] at hb;rcases iH b hb with ⟨c,q,hc,hq,hbc⟩|⟨_,h2⟩
   .exact Az (hH.lt c q b hq hbc) hsize
   .exact h2
  .rw [bI hne] at hb;exact Az (hH.lt j p b hp hb) hsize
 .obtain ⟨j,p,hp,hb⟩:=hb;rcases wz j p hp with ⟨rfl,rfl⟩|⟨hne,hC,hp⟩
  .replace hb:b∈(if j=j then Fi else F j):=hb
   rw [dA rfl] at hb;rcases iH b hb with ⟨c,q,hc,hq,hbc⟩|⟨h1,_⟩
   .exact .inl ⟨c,q,hq,hbc⟩
   .exact .inr h1
  .replace hb:b∈(if j=i then Fi else F j):=hb
   rw [bI hne] at hb;exact .inl ⟨j,p,hp,hb⟩
 .exact hρ j r hj
theorem Ib {n k:Nat} {Fs:Nat->Nat->List Nat}:(flat n k Fs).Nodup↔(∀ i j,i < n->j < k->(Fs i j).Nodup)/\(∀ i j i' j' b,i < n->j < k->i' < n->j' < k->b∈Fs i j->b∈Fs i' j'->i=i'/\j=j'):=by
 have row:∀ i,((List.range k).flatMap fun j=>Fs i j).Nodup↔(∀ j,j < k->(Fs i j).Nodup)/\∀ j j' b,j < k->j' < k->b∈Fs i j->b∈Fs i j'->j=j':=fun i=>by
  unfold List.Nodup;rw [adO];constructor
  .rintro ⟨h1,h2⟩;refine ⟨fun j hj=>h1 j (by simpa using hj),fun j j' b hj hj' hb hb'=>?_⟩;rw [ZA] at h2;rcases adT j j' with h|h|h
   .exact absurd rfl (h2 j j' (by simpa using hj) (by simpa using hj') h b (by simpa using hb) b<|by simpa using hb')
   .exact h
   .exact absurd rfl (h2 j' j (by simpa using hj') (by simpa using hj) h b (by simpa using hb') b<|by simpa using hb)
  .rintro ⟨h1,h2⟩;refine ⟨fun j hj=>h1 j (by simpa using hj),?_⟩;rw [ZA];intro j j' hj hj' hlt x hx y hy e;simp only [List.length_range] at hj hj';simp only [List.getElem_range] at hx hy;subst e;have:=h2 j j' x hj hj' hx hy;omega
 unfold flat
 constructor
 .intro h;unfold List.Nodup at h;rw [adO] at h;obtain ⟨h1,h2⟩:=h;refine ⟨fun i j hi hj=>((row i).1<|h1 i<|by simpa using hi).1 j hj,fun i j i' j' b hi hj hi' hj' hb hb'=>?_⟩;rw [ZA] at h2;have m:∀ i j,j < k->b∈Fs i j->b∈(List.range k).flatMap fun j=>Fs i j:=fun i j hj hb=>vY.2 ⟨j,by simpa using hj,hb⟩;have e:i=i':=by
   rcases adT i i' with h|h|h
   .exact absurd rfl (h2 i i' (by simpa using hi) (by simpa using hi') h b (by simpa using m i j hj hb) b<|by simpa using m i' j' hj' hb')
   .exact h
   .exact absurd rfl (h2 i' i (by simpa using hi') (by simpa using hi) h b (by simpa using m i' j' hj' hb') b<|by simpa using m i j hj hb)
  subst e;exact ⟨rfl,((row i).1<|h1 i<|by simpa using hi).2 j j' b hj hj' hb hb'⟩
 .rintro ⟨h1,h2⟩;unfold List.Nodup;rw [adO];refine ⟨fun i hi=>(row i).2 ⟨fun j hj=>h1 i j (by simpa using hi) hj,fun j j' b hj hj' hb hb'=>(h2 i j i j' b (by simpa using hi) hj (by simpa using hi) hj' hb hb').2⟩,?_⟩;rw [ZA];intro i i' hi hi' hlt x hx y hy e;simp only [List.length_range] at hi hi';simp only [List.getElem_range] at hx hy;subst e;obtain ⟨j,hj,hb⟩:=vY.1 hx;obtain ⟨j',hj',hb'⟩:=vY.1 hy;have:=(h2 i j i' j' x hi (by simpa using hj) hi' (by simpa using hj') hb hb').1;omega
theorem auu {D:Tab} (hD:dQ P D) {o:Oper} {e:Operand->V} {H:Hp} {t:TypeId} {a x:Operand} {it:Ty} {i k m b:Nat} {nn:Bool} {ety:Tg} {rows:List (List V)} {row cs ys:List V} {C:List Nat}
  (ho:o.op=.store t a x) (ht:D.at t=some it) (ha:e a=.vp i k m b) (hi:look H i=some (.vec nn ety k rows)) (hrow:rows[m]?=some row) (hx:uU H (e x)=some cs) (habs:wB H cs=some (ys,C)) (hC:C.Nodup) (hiC:i∉C)
  (hsz:cs.length=it.size) (hfit:b+cs.length<=k):
  gH P G o e H .junk ((i,.vec nn ety k<|rows.set m<|putAt row ys b)::bU (i::C) H) []:=by
 intro ρ S F η w bQ hH hG;have h1:=bQ a (by simp [ho,Op.operands]);have h2:=(bQ x<|by simp [ho,Op.operands]).cells hH hx;rw [ha] at h1;obtain ⟨r,hr,bY⟩:=hH.obj i _ hi;have aeM:=hH.nodup i _ hi;obtain ⟨g,n,cap,e1,e2⟩:=h1.aen r hr;obtain ⟨hyl,hlive,Cs,hCs,hget⟩:=aeB hH cs habs;have hm:m < rows.length:=(dK.1 hrow).1;have hrl:row.length=k:=by
  generalize F i=Fi at bY;cases bY with
  | kZ=>simp at hrow
  | vec _ _ _ _ _ _ _ _ _ _ _ _ _ hk=>exact hk m row hrow
 have akK:(putAt row ys b).length=k:=by
  unfold putAt;simp only [jQ,FD,Hu];omega
 have aeN:∀ (q:Nat) (r':List V),(rows.set m<|putAt row ys b)[q]?=some r'->(q=m/\r'=putAt row ys b)\/(q≠m/\rows[q]?=some r'):=fun q r' hq=>by
  rw [FH] at hq;by_cases h:m=q
  .rw [dA h,dA hm] at hq;exact .inl ⟨h.symm,(kD hq).symm⟩
  .rw [bI h] at hq;exact .inr ⟨fun h'=>h h'.symm,hq⟩
 have hput:∀ (j:Nat) (y:V),(putAt row ys b)[j]?=some y->(b<=j/\j < b+cs.length/\ys[j - b]?=some y)\/((j < b\/b+cs.length<=j)/\row[j]?=some y):=fun j y hj=>by
  have hlt:=(dK.1 hj).1;rw [akK] at hlt;unfold putAt at hj;rw [kC] at hj;by_cases hb:j < b
  .rw [uR bT,AB,dA hb] at hj;exact .inr ⟨.inl hb,hj⟩
  .rw [uQ bT] at hj;simp only [FD] at hj;rw [show j - min b row.length=j - b by omega] at hj;by_cases hb2:j - b < ys.length
   .rw [uR hb2] at hj;exact .inl ⟨ah,ah,hj⟩
   .rw [uQ ah,Eb] at hj;rw [show b+ys.length+(j - b - ys.length)=j by omega] at hj;exact .inr ⟨.inr ah,hj⟩
 have Cw:∃ (arr:Array Value) (cc:Nat->Nat->Value) (Fs:Nat->Nat->List Nat) (e0:TypeId),ety.ok k e0 (.slice (some ⟨g,0,none⟩) rows.length cap)/\r=.slice (some ⟨g,0,none⟩) rows.length cap/\F i=g::flat rows.length k Fs/\w.heap[g]?=some (.cells arr e0 (0,0))/\rows.length<=cap/\cap<=maxLen/\arr.size=cap*k/\
   (∀ (i:Nat) (r:List V),rows[i]?=some r->r.length=k)/\(∀ (i j:Nat) (r:List V) (x:V),rows[i]?=some r->r[j]?=some x->arr[i*k+j]?=some (cc i j))/\(∀ (i j:Nat) (r:List V) (x:V),rows[i]?=some r->r[j]?=some x->RD S w (cc i j) x (Fs i j)):=by
  generalize F i=Fi at bY;cases bY with
  | kZ=>simp at hrow
  | vec g' cap' arr _ _ _ _ cc Fs hh hcap hmax Vx hk hc hrd ht=>
   cases e1;exact ⟨arr,cc,Fs,_,ht,rfl,rfl,hh,hcap,hmax,Vx,hk,hc,hrd⟩
 obtain ⟨arr,cc,Fs,e0,uV,hroot,iH,hh,hcap,hmax,Vx,hk,hc,hrd⟩:=Cw;have hmk:m*k+k<=cap*k:=by
  have:=vW k (show m+1<=cap by omega);rw [wh,ZQ] at this;exact this
 have hlen:(η x).cells.toList.length=cs.length:=by simpa using h2.1
 have hst:=adU P g (m*k+b) e0 (η x).cells.toList 0 arr w hh (by rw [hlen,Vx];omega) (fun v hv=>by
  obtain ⟨p,hp⟩:=Hg hv;exact h2.2.1 p v<|by simpa using hp)
 simp only [Ht] at hst;let out:Array Value:=(arr.toList.take (m*k+b)++(η x).cells.toList++arr.toList.drop (m*k+b+(η x).cells.toList.length)).toArray
 have hrun:(execOp η o).run P w=.ok .skip (w.setRow g out):=by
  unfold execOp;simp only [ho,Instr.storeAt,Instr.sureAddr,e2,storeVar,gU,kY,gN,(hD _ _ ht).sizeOf w];rw [bI (by have:=h2.1;omega)];simp only [hst,gN];rfl
 unfold oC;rw [hrun];have hkeep:∀ b,b≠g->(w.setRow g out).heap[b]?=w.heap[b]?:=fun b hb=>aec w g b _ hb;have hgS: ¬S g:=hH.sep i _ g hi (by rw [iH];simp);have QO:Keeps S w S (w.setRow g out):=fun b hb=>⟨hb,hkeep b fun e=>hgS<|e ▸ hb⟩
 have hout:∀ p,out[p]?=if p < m*k+b then arr[p]? else if p < m*k+b+cs.length then (η x).cells[p - (m*k+b)]? else arr[p]?:=fun p=>by
  simp only [out,Kk];rw [Vh _ _ _ _ bT,hlen];simp only [ZC];by_cases h1:p < m*k+b
  .rw [bI ah,dA h1]
  .rw [bI h1];by_cases h2:p < m*k+b+cs.length
   .rw [dA ⟨ah,h2⟩,dA h2]
   .rw [bI ah,bI h2]
 have auv:out.size=cap*k:=by
  simp only [out,ZB,jQ,FD,Hu,Co];have:=h2.1;omega
 have hblk:∀ c o',c∈C->look H c=some o'->g∉F c:=fun c o' hcC hl hb=>hH.gW c i o' _ g hl hi (fun e=>hiC<|e ▸ hcC) hb (by rw [iH];simp);let Gs:Nat->Nat->List Nat:=fun q j=>if q=m/\b<=j/\j < b+cs.length then (Cs<|j - b).flatMap F else Fs q j
 let gg:Nat->Nat->Value:=fun q j=>out.getD (q*k+j) undef
 have aan:∀ p c,p < cs.length->c∈Cs p->c∈C:=fun p c hp hc=>by rw [hCs];exact vY.2 ⟨p,by simpa using hp,hc⟩
 have idx:∀ q j,q≠m->j < k->(q*k+j < m*k\/m*k+k<=q*k+j):=fun q j hne hj=>by
  rcases ZH hne with h|h
  .left;have:=vW k (show q+1<=m by omega);rw [wh,ZQ] at this;omega
  .right;have:=vW k (show m+1<=q by omega);rw [wh,ZQ] at this;omega
 have cell:∀ (q j:Nat) (r':List V) (y:V),(rows.set m<|putAt row ys b)[q]?=some r'->r'[j]?=some y->∃ c,out[q*k+j]?=some c/\RD S (w.setRow g out) c y (Gs q j):=by
  intro q j r' y hq hj;have hjk:j < k:=by
   have h':=(dK.1 hj).1;rcases aeN q r' hq with ⟨_,rfl⟩|⟨_,hq'⟩
   .omega
   .rw [hk q r' hq'] at h';exact h'
  have stay:∀ (r0:List V),rows[q]?=some r0->r0[j]?=some y->(¬(q=m/\b<=j/\j < b+cs.length))->∃ c,out[q*k+j]?=some c/\RD S (w.setRow g out) c y (Gs q j):=by
   intro r0 hr0 hj0 hno;refine ⟨cc q j,?_,?_⟩
   .rw [hout];have:(q*k+j < m*k+b\/m*k+b+cs.length<=q*k+j):=by
     by_cases hqm:q=m
     .subst hqm;have: ¬(b<=j/\j < b+cs.length):=fun h=>hno ⟨rfl,h⟩;omega
     .rcases idx q j hqm hjk with h|h<;>omega
    rcases this with h|h
    .rw [dA h];exact hc q j r0 y hr0 hj0
    .rw [bI ah,bI ah];exact hc q j r0 y hr0 hj0
   .simp only [Gs];rw [bI hno];refine (hrd q j r0 y hr0 hj0).mono QO fun b' hb'=>hkeep b' fun e=>?_;rw [iH,qw] at aeM;refine aeM.1 (qy.2 ⟨q,j,(dK.1 hr0).1,hjk,?_⟩);exact e ▸ hb'
  rcases aeN q r' hq with ⟨rfl,rfl⟩|⟨hne,hq'⟩
  .rcases hput j y hj with ⟨hb1,hb2,hy⟩|⟨hb1,hy⟩
   .obtain ⟨x0,hx0,hax⟩:=hget _ y hy;obtain ⟨c,hc1,hc2⟩:=h2.2.2 _ x0 hx0;obtain ⟨Fx,hd,rfl,_,hlv⟩:=akp hH hax hc2;refine ⟨c,?_,?_⟩
    .rw [hout,bI ah,dA ah,show q*k+j - (q*k+b)=j - b by omega];exact hc1
    .simp only [Gs];rw [dA ⟨trivial,hb1,hb2⟩];refine hd.mono QO fun b' hb'=>hkeep b' fun e=>?_;obtain ⟨c',hc',hbc⟩:=vY.1 hb';obtain ⟨o',ho'⟩:=hlv c' hc';exact hblk c' o' (aan _ c' ah hc') ho' (e ▸ hbc)
   .exact stay row hrow hy (fun h=>ah)
  .exact stay r' hq' hj (fun h=>hne h.1)
 have hC2:(C.flatMap F).Nodup:=akr hC (fun c hc=>by obtain ⟨o',ho'⟩:=hlive c hc;exact hH.nodup c o' ho') (fun c c' b' hc hc' hne hb hb'=>by
  obtain ⟨o1,ho1⟩:=hlive c hc;obtain ⟨o2,ho2⟩:=hlive c' hc';exact hH.gW c c' o1 o2 b' ho1 ho2 hne hb hb')
 have aeO:=aeM;rw [iH,qw] at aeO;have hFs:=Ib.1 aeO.2;have auw:((List.range cs.length).flatMap fun p=>(Cs p).flatMap F).Nodup:=by rw [<- List.flatMap_assoc,<- hCs];exact hC2
 have akM:=(Ib (n:=1) (k:=cs.length) (Fs:=fun _ p=>(Cs p).flatMap F)).1 (by simpa [flat] using auw);have mixed:∀ (p:Nat) (q j b':Nat),p < cs.length->q < rows.length->j < k->b'∈(Cs p).flatMap F->b'∈Fs q j->False:=fun p q j b' hp hq hj hb hb'=>by
  obtain ⟨c',hc',hbc⟩:=vY.1 hb;obtain ⟨o',ho'⟩:=hlive c' (aan p c' hp hc');exact hH.gW c' i o' _ b' ho' hi (fun e=>hiC<|e ▸ aan p c' hp hc') hbc (by rw [iH];exact sG _<|qy.2 ⟨q,j,hq,hj,hb'⟩)
 have hGn:(flat rows.length k Gs).Nodup:=by
  rw [Ib];refine ⟨fun q j hq hj=>?_,fun q j q' j' b' hq hj hq' hj' hb hb'=>?_⟩
  .simp only [Gs];split
   .exact akM.1 0 (j - b) ah ah
   .exact hFs.1 q j hq hj
  .simp only [Gs] at hb hb';split at hb
   .rename_i h1;split at hb'
    .rename_i h2;have:=(akM.2 0 (j - b) 0 (j' - b) b' ah ah ah ah hb hb').2;omega
    .exact (mixed (j - b) q' j' b' ah hq' hj' hb hb').elim
   .split at hb'
    .exact (mixed (j' - b) q j b' ah hq hj hb' hb).elim
    .exact hFs.2 q j q' j' b' hq hj hq' hj' hb hb'
 have akN:∀ b',b'∈flat rows.length k Gs->b'∈flat rows.length k Fs\/∃ c,c∈C/\b'∈F c:=fun b' hb=>by
  obtain ⟨q,j,hq,hj,hb⟩:=qy.1 hb;simp only [Gs] at hb;split at hb
  .obtain ⟨c',hc',hbc⟩:=vY.1 hb;exact .inr ⟨c',aan _ c' ah hc',hbc⟩
  .exact .inl (qy.2 ⟨q,j,hq,hj,hb⟩)
 have aao:(rows.set m<|putAt row ys b).length=rows.length:=aF;refine akI hH (i::C) (w':=w.setRow g out) (i:=i) (root:=r) (Fi:=g::flat rows.length k Gs) hr rfl rfl rfl aF (fun b' hb' hno=>hkeep b' fun e=>hno i _ aF hi<|by rw [iH,e];simp) (fun ρ'=>?_) ?_ (fun b' hb=>?_) (.junk _)
 .rw [hroot];have hlr:Value.slice (some ⟨g,0,none⟩) rows.length cap=Value.slice (some ⟨g,0,none⟩) (rows.set m<|putAt row ys b).length cap:=by rw [aao]
  rw [hlr,show flat rows.length k Gs=flat (rows.set m<|putAt row ys b).length k Gs by rw [aao]];refine .vec g cap out nn ety k _ gg Gs (setRow_heap w g arr _ e0 _ hh) (by rw [aao];exact hcap) hmax auv (fun q r' hq=>?_) (fun q j r' y hq hj=>?_) (fun q j r' y hq hj=>?_) (by rw [aao];exact uV)
  .rcases aeN q r' hq with ⟨_,rfl⟩|⟨_,hq'⟩
   .exact akK
   .exact hk q r' hq'
  .obtain ⟨c,hc1,_⟩:=cell q j r' y hq hj;simp [gg,nS,hc1]
  .obtain ⟨c,hc1,hc2⟩:=cell q j r' y hq hj;have:gg q j=c:=by simp [gg,nS,hc1]
   rw [this];exact hc2
 .rw [qw];refine ⟨fun hg=>?_,hGn⟩;rcases akN g hg with h|⟨c,hc,hb⟩
  .exact aeO.1 h
  .obtain ⟨o',ho'⟩:=hlive c hc;exact hblk c o' hc ho' hb
 .rcases fF.1 hb with rfl|hb
  .exact .inl ⟨i,_,aF,hi,by rw [iH];simp⟩
  .rcases akN b' hb with h|⟨c,hc,hb⟩
   .exact .inl ⟨i,_,aF,hi,by rw [iH];exact sG _ h⟩
   .obtain ⟨o',ho'⟩:=hlive c hc;exact .inl ⟨c,o',by simp [hc],ho',hb⟩
def V.clean:V->V
 | .sl _ true _=>.junk
 | x=>x
theorem RD.clean {ρ:Nat->Option Value} {S:Nat->Prop} {w:World} {v:Value} {x:V} {F:List Nat} (h:RD S w v x F):RV ρ S w v x.clean:=by
 cases h with
 | c v h=>exact .c v
 | mF x=>cases x<;>first|exact .junk _|exact .sl _ _ _ _ (.mF _)
 | shr a cap nn rows k cs hlen hcap hk hc hr=>exact .sl _ _ _ _ (.shr a cap nn rows k cs hlen hcap hk hc hr)
 | exc=>exact .junk _
theorem akO {D:Tab} (hD:dQ P D) {o:Oper} {e:Operand->V} {H:Hp} {t:TypeId} {a:Operand} {i k m b:Nat} {nn:Bool} {ety:Tg} {rows:List (List V)} {row:List V} {v:V}
  (ho:o.op=.load t a) (ha:e a=.vp i k m b) (hi:look H i=some (.vec nn ety k rows)) (hrow:rows[m]?=some row) (hv:Ee D t ((row.drop b).map V.clean)=some v):gH P G o e H v H []:=by
 refine Ed fun ρ S F η w bQ hH=>?_;have h1:=bQ a (by simp [ho,Op.operands]);rw [ha] at h1;obtain ⟨r,hr,bY⟩:=hH.obj i _ hi;obtain ⟨g,n,cap,e1,e2⟩:=h1.aen r hr;unfold execOp;simp only [ho,e2];generalize F i=Fi at bY;cases bY with
 | kZ=>simp at hrow
 | vec g' cap' arr _ _ _ _ cc Fs hh hcap hmax Vx hk hc hrd=>
  cases e1;obtain ⟨u,hu,xC⟩:=aep hD hv (ρ:=ρ) (S:=S) (w:=w) (a:=⟨g,m*k+b,none⟩) (cc:=fun j=>cc m<|b+j) fun j x hx=>by
   rw [gD,eD] at hx;obtain ⟨y,hy,rfl⟩:=hx;rw [Eb] at hy;have hcell:=hc m (b+j) row y hrow hy;rw [Hr,UR w g (m*k+b+j) arr _ (0,0) hh,show m*k+b+j=m*k+(b+j) by omega];exact ⟨hcell,(hrd m (b+j) row y hrow hy).one,(hrd m (b+j) row y hrow hy).clean⟩
  exact ⟨u,by simp [Instr.loadAt,Instr.sureAddr,hu],xC⟩
end
end Go.Av
namespace Go.Av
section
variable {P:Program} {G:Nat->Option (List V)}
theorem auy {D:Tab} (hD:dQ P D) {o:Oper} {e:Operand->V} {H:Hp} {t el:TypeId} {x:Operand} {h:Operand} {it ie:Ty} (q:Nat) {i:Nat} {nn:Bool} {rows:List (List V)} (n:Nat) {tg:Tg} (aeP:tg.elt=some el) {kh:IntKind} {nh:Int}
  (ho:o.op=.slice t x none (some h) none) (ht:D.at t=some it) (hit:it.d=.slice el) (hel:D.at el=some ie) (hx:e x=.own i) (hi:look H i=some (.vec nn tg ie.size rows)) (hh:e h=.c (.int kh nh)) (hn:nh=n) (hle:n<=rows.length) (hq:gG q H=false):
  gH P G o e H (.own q) ((q,.vec false (Tg.cut el ie.size) ie.size<|rows.take n)::bU [i] H) [q]:=by
 intro ρ S F η w bQ hH hG;have h1:=bQ x (by simp [ho,Op.operands]);rw [hx] at h1;obtain ⟨r,hr,bY⟩:=hH.obj i _ hi;have QW:=h1.Cv r hr;have hnd:=hH.nodup i _ hi;have hcut:aaf e rows.length 0 n none (some h):=⟨Ct _,hle,rfl,⟨kh,by rw [hh,hn]⟩⟩
 generalize iH:F i=Fi at bY hnd;cases bY with
 | kZ=>
  have hn0:n=0:=by simpa using hle
  subst hn0;have hb:=Vo (P:=P) (ρ:=ρ) (S:=S) (w:=w) (isSlice:=true) (η:=η) (e:=e) (l:=none) (h:=some h) (cap:=0) (fun y hy=>by cases hy) (fun y hy=>bQ y<|by simp [ho,Op.operands];right;simpa using hy.symm) hcut aF;simp only [zA,QH,MI] at hb;have hrun:(execOp η o).run P w=.ok (.value<|.slice none 0 0) w:=by
   unfold execOp;simp only [ho,QW,Instr.sliceAt,gU,nV<|Cx hD ht hit,gN,QH,MI];simp [Instr.slice,nV<|Cx hD ht hit,hb,(hD _ _ hel).sizeOf w]
  unfold oC;rw [hrun];refine Vk hH [i] hq (w':=w) (root:=.slice none 0 0) (Fi:=[]) rfl rfl rfl (cZ _) (fun b hb _=>rfl) (fun ρ'=>?_) FB (fun b hb=>by cases hb) (.own _ q fun r hr=>by simp at hr;exact hr);exact .kZ _ _ (asY _ _)
 | vec g cap arr _ _ _ _ cs Fs hhp hcap hmax hsz hk hc hrd uV=>
  cases asW aeP uV;have hb:=Vo (P:=P) (ρ:=ρ) (S:=S) (w:=w) (isSlice:=true) (η:=η) (e:=e) (l:=none) (h:=some h) (cap:=cap) (fun y hy=>by cases hy) (fun y hy=>bQ y<|by simp [ho,Op.operands];right;simpa using hy.symm) hcut hcap;simp only [QH,MI] at hb;have hrun:(execOp η o).run P w=.ok (.value<|.slice (some ⟨g,0,none⟩) n cap) w:=by
   unfold execOp;simp only [ho,QW,Instr.sliceAt,gU,nV<|Cx hD ht hit,gN,QH,MI];simp only [Instr.slice,gU,nV<|Cx hD ht hit,gN,hb,(hD _ _ hel).sizeOf w,kY];have:(if (cap=0) then (⟨g,0,none⟩:Addr) else (⟨g,0,none⟩:Addr).add (0*ie.size))=⟨g,0,none⟩:=by simp [Addr.add]
   split<;>simp [Addr.add]
  unfold oC;rw [hrun];have hlen:(rows.take n).length=n:=bT;have hget:∀ (p:Nat) (r':List V),(rows.take n)[p]?=some r'->p < n/\rows[p]?=some r':=fun p r' hp=>by
   rw [AB] at hp;split at hp
   .exact ⟨‹_›,hp⟩
   .cases hp
  have akP:=qw.1 hnd;have hfn:=Ib.1 akP.2;refine Vk hH [i] hq (w':=w) (root:=.slice (some ⟨g,0,none⟩) n cap) (Fi:=g::flat n ie.size Fs) rfl rfl rfl (cZ _) (fun b hb _=>rfl) (fun ρ'=>?_) ?_ (fun b hb=>?_) (.own _ q fun r hr=>by simp at hr;exact hr)
  .have h0:Value.slice (some ⟨g,0,none⟩) n cap=Value.slice (some ⟨g,0,none⟩) (rows.take n).length cap:=by rw [hlen]
   rw [h0,show flat n ie.size Fs=flat (rows.take n).length ie.size Fs by rw [hlen]];exact .vec g cap arr false _ ie.size _ cs Fs hhp (by rw [hlen];omega) hmax hsz (fun p r' hp=>hk p r' (hget p r' hp).2) (fun p j r' y hp hj=>hc p j r' y (hget p r' hp).2 hj) (fun p j r' y hp hj=>hrd p j r' y (hget p r' hp).2 hj) (asX _ _ _)
  .rw [qw];refine ⟨fun hb=>akP.1 ?_,Ib.2 ⟨fun p j hp hj=>hfn.1 p j ah hj,fun p j p' j' b hp hj hp' hj'=>hfn.2 p j p' j' b ah hj ah hj'⟩⟩;obtain ⟨p,j,hp,hj,hb⟩:=qy.1 hb;exact qy.2 ⟨p,j,ah,hj,hb⟩
  .refine .inl ⟨i,_,aF,hi,?_⟩;rw [iH];rcases fF.1 hb with rfl|hb
   .simp
   .obtain ⟨p,j,hp,hj,hb⟩:=qy.1 hb;exact sG _ (qy.2 ⟨p,j,ah,hj,hb⟩)
end
end Go.Av
