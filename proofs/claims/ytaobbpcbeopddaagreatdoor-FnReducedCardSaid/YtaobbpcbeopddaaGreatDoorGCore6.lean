/-
 Abstract values, states, walks, part 6.
-/
import Derived.Test.YtaobbpcbeopddaaGreatDoorGCore5
import Derived.Below
import Derived.Lib.Repeat
set_option linter.all false
namespace Go.Av
section
variable {P:Program} {G:Nat->Option (List V)} {L:Option Nat} {B:Nat}
theorem Tg.ok.root {c v:Value} {k:Nat} {e:TypeId} (h:(Tg.at_ c).ok k e v):v=c:=h.1
theorem jd.root {ρ:Nat->Option Value} {S:Nat->Prop} {w:World} {r c:Value} {nn:Bool} {k:Nat} {rows:List (List V)} {F:List Nat} (h:jd ρ S w r (.vec nn (.at_ c) k rows) F):r=c:=by
 cases h with
 | kZ _ _ ht=>exact Eq.symm ht
 | vec g cap arr _ _ _ _ cs Fs hh hcap hmax hsz hk hc hr ht=>exact ht.1
theorem nH.lend {ρ:Nat->Option Value} {S:Nat->Prop} {F:Nat->List Nat} {T:List V} {H:Hp} {a:Act} {w:World} (hst:nH B G ρ S F ⟨T,H⟩ a w) {i m b j:Nat} {nn kH:Bool} {ety:Tg} {k:Nat} {rows:List (List V)} {row:List V} {kJ:List (List V)}
  (hi:look H i=some (.vec nn ety k rows)) (hrow:rows[m]?=some row) (hb:row[b]?=some (.sl kH true kJ)) (hj:fresh [j] ⟨T,H⟩=true) (h1:∀ r,r∈kJ->r.length=1):
  ∃ c,c.oneCell'=true/\∃ ρ' F',nH B G ρ' S F' ⟨T,(j,.vec false (.at_ c) 1 kJ)::(i,.vec nn ety k<|rows.set m<|row.set b<|.c c)::bU [i] H⟩ a w/\
   jI S (Ub H F) w S (Ub ((j,.vec false (.at_ c) 1 kJ)::(i,.vec nn ety k<|rows.set m<|row.set b<|.c c)::bU [i] H) F') w/\qz ρ ρ':=by
 obtain ⟨ajQ,hT,hH⟩:=QM hj (by simp:j∈[j]);obtain ⟨hl,hO⟩:=yB hH;have hij:i≠j:=fun e=>by rw [e] at hi;simp only [hl] at hi;cases hi
 have hh0:=hst.heap;simp only at hh0;obtain ⟨r,hr,bY⟩:=hh0.obj i _ hi;have hnd:=hh0.nodup i _ hi;have hlt:=fun b' h=>hh0.lt i _ b' hi h;have hsep:=fun b' h=>hh0.sep i _ b' hi h;have hdisj:=fun x p b' (hx:look H x=some p) (hne:i≠x) (h1:b'∈F i) (h2:b'∈F x)=>hh0.gW i x _ p b' hi hx hne h1 h2;generalize iH:F i=Fi at bY hnd hlt hsep hdisj;cases bY with
 | kZ=>simp at hrow
 | vec g cap arr _ _ _ _ cc Fs hh hcap hmax hsz hk hc hrd ht=>
  have hmn:m < rows.length:=(dK.1 hrow).1;have hbk:b < k:=by have:=(dK.1 hb).1;rw [hk m row hrow] at this;exact this
  have hd:=hrd m b row _ hrow hb;have KG:=qw.1 hnd;have hN:=Ib.1 KG.2;have hsub:∀ b',b'∈Fs m b->b'∈g::flat rows.length k Fs:=fun b' h=>sG _ (FR hmn hbk h);have hgF:g∉Fs m b:=fun h=>KG.1 (FR hmn hbk h);let c:=cc m b
  let ρ':Nat->Option Value:=fun x=>if x=j then some c else ρ x
  let rows':=rows.set m (row.set b<|.c c)
  let qA:Nat->Nat->List Nat:=fun p q=>if p=m/\q=b then [] else Fs p q
  let F':Nat->List Nat:=fun x=>if x=j then Fs m b else if x=i then g::flat rows'.length k qA else F x
  have hlen':rows'.length=rows.length:=by simp [rows']
  have hρ:∀ x r (y:V),y.has j=false->ρ' x=some r->y.has x=true->ρ x=some r:=fun x r y hy hx hh=>by
   simp only [ρ'] at hx;split at hx
   .subst_vars;rw [hy] at hh;cases hh
   .exact hx
  have obj:jd ρ' S w c (.vec false (.at_ c) 1 kJ) (Fs m b):=by
   have hd':RD S w c (.sl kH true kJ) (Fs m b):=hd;generalize Fs m b=F0 at hd';generalize c=c0 at hd';cases hd' with
   | mF=>exact .kZ _ _ rfl
   | exc g2 cap2 alx aJJ _ _ k3 cs2 Ef Nk hcap2 aly hsz2 hk3 hc2 hr2 ht2=>
    cases kJ with
    | nil=>
     have e0:flat ([]:List (List V)).length k3 Ef=flat ([]:List (List V)).length 1 Ef:=rfl;rw [e0];refine .vec g2 cap2 alx false _ 1 [] cs2 Ef Nk hcap2 aly ?_ (fun i r h=>by simp at h) (fun i j r x h=>by simp at h) (fun i j r x h=>by simp at h) ⟨rfl,fun _=>.inl rfl⟩;rcases ht2 rfl with h|h
     .rw [hsz2,h]
     .rw [hsz2,h];simp
    | cons r0 kJ=>
     have:k3=1:=by rw [<- hk3 0 r0 rfl,h1 r0 aF]
     subst this;exact .vec g2 cap2 alx false _ 1 _ cs2 Ef Nk hcap2 aly hsz2 hk3 hc2 hr2 ⟨rfl,fun _=>.inl rfl⟩
  have obi:jd ρ' S w (.slice (some ⟨g,0,none⟩) rows.length cap) (.vec nn ety k rows') (g::flat rows'.length k qA):=by
   rw [<- hlen'] at ht ⊢;refine .vec g cap arr nn ety k rows' cc qA hh (by rw [hlen'];exact hcap) hmax hsz (fun p r hp=>?_) (fun p q r x hp hq=>?_) (fun p q r x hp hq=>?_) ht
   .rcases FQ hp with ⟨rfl,rfl⟩|⟨_,hp⟩
    .simp [hk _ row hrow]
    .exact hk p r hp
   .rcases FQ hp with ⟨rfl,rfl⟩|⟨_,hp⟩
    .rcases FQ hq with ⟨rfl,rfl⟩|⟨_,hq⟩
     .exact hc _ _ row _ hrow hb
     .exact hc _ q row x hrow hq
    .exact hc p q r x hp hq
   .rcases FQ hp with ⟨rfl,rfl⟩|⟨hne,hp⟩
    .rcases FQ hq with ⟨rfl,rfl⟩|⟨hne,hq⟩
     .simp only [qA,and_self,kF];exact .c _ hd.one
     .simp only [qA,true_and,bI hne];exact hrd _ q row x hrow hq
    .have hpm: ¬(p=m/\q=b):=fun h=>hne h.1;simp only [qA,bI hpm];exact hrd p q r x hp hq
  have hF1:∀ b',b'∈g::flat rows'.length k qA->b'∈g::flat rows.length k Fs/\b'∉Fs m b:=fun b' h=>by
   rw [hlen'] at h;rcases fF.1 h with rfl|h
   .exact ⟨aF,hgF⟩
   .obtain ⟨p,q,hp,hq,h⟩:=qy.1 h;simp only [qA] at h;split at h
    .cases h
    .rename_i hne;exact ⟨sG _<|FR hp hq h,fun h'=>hne<|hN.2 p q m b b' hp hq hmn hbk h h'⟩
  have lk:∀ x p,look ((j,.vec false (.at_ c) 1 kJ)::(i,.vec nn ety k rows')::bU [i] H) x=some p->(x=j/\p=.vec false (.at_ c) 1 kJ)\/(x≠j/\x=i/\p=.vec nn ety k rows')\/(x≠j/\x≠i/\look H x=some p):=fun x p hp=>by
   simp only [look,lI] at hp;split at hp
   .cases hp;exact .inl ⟨‹_›,rfl⟩
   .split at hp
    .cases hp;exact .inr (.inl ⟨‹_›,‹_›,rfl⟩)
    .split at hp
     .cases hp
     .exact .inr (.inr ⟨‹_›,‹_›,hp⟩)
  have hin:∀ x p b',look ((j,.vec false (.at_ c) 1 kJ)::(i,.vec nn ety k rows')::bU [i] H) x=some p->b'∈F' x->(x=j/\b'∈Fs m b)\/(x=i/\b'∈g::flat rows.length k Fs/\b'∉Fs m b)\/(x≠j/\x≠i/\look H x=some p/\b'∈F x):=fun x p b' hp hb'=>by
   rcases lk x p hp with ⟨rfl,_⟩|⟨h1,rfl,_⟩|⟨h1,h2,h3⟩
   .simp only [F',kF] at hb';exact .inl ⟨rfl,hb'⟩
   .simp only [F',bI h1,kF] at hb';exact .inr (.inl ⟨rfl,hF1 b' hb'⟩)
   .simp only [F',bI h1,bI h2] at hb';exact .inr (.inr ⟨h1,h2,h3,hb'⟩)
  have Nl:∀ x p b',look ((j,.vec false (.at_ c) 1 kJ)::(i,.vec nn ety k rows')::bU [i] H) x=some p->b'∈F' x->Ub H F b':=fun x p b' hp hb'=>by
   rcases hin x p b' hp hb' with ⟨_,h⟩|⟨_,h,_⟩|⟨_,_,h3,h⟩
   .exact ⟨i,_,hi,by rw [iH];exact hsub b' h⟩
   .exact ⟨i,_,hi,by rw [iH];exact h⟩
   .exact ⟨x,p,h3,h⟩
  refine ⟨c,hd.one,ρ',F',⟨hst.defers,hst.size,fun x y hx=>?_,⟨fun x hx=>?_,fun x p hp=>?_,fun x p hp=>?_,fun x y p p' b' hx hy hne hbx hby=>?_,fun x p b' hp hb'=>?_,fun x p b' hp hb'=>?_,hh0.slt⟩,hst.glob⟩,
   ⟨rfl,rfl,rfl,cZ _,fun _ _ _=>rfl,fun _ h=>h,fun _ h=>.inl h,fun b' ⟨x,p,hp,h⟩=>.inl<|Nl x p b' hp h⟩,fun x r hx hr=>?_⟩
  .exact (hst.tmps x y hx).mono (fun q r hq hh=>hρ q r y (UY hT<|nT hx) hq hh) (fun b' h=>⟨h,rfl⟩)
  .simp only [look,lI] at hx;split at hx
   .cases hx
   .split at hx
    .cases hx
    .rename_i h1 h2;simp only [ρ',bI h1];split at hx
     .rename_i h3;simp only [nG] at h3;exact absurd h3 h2
     .exact hh0.dom x hx
  .rcases lk x p hp with ⟨rfl,rfl⟩|⟨h1,rfl,rfl⟩|⟨h1,h2,h3⟩
   .exact ⟨c,by simp [ρ'],by simp only [F',kF];exact obj⟩
   .exact ⟨_,by simp only [ρ',bI h1];exact hr,by simp only [F',bI h1,kF];exact obi⟩
   .obtain ⟨r',hr',AQ⟩:=hh0.obj x p h3;refine ⟨r',by simp only [ρ',bI h1];exact hr',?_⟩;simp only [F',bI h1,bI h2];refine AQ.mono (fun q r hq hh=>?_) (fun b' h=>⟨h,rfl⟩) (fun _ _=>rfl);simp only [ρ'] at hq;split at hq
    .subst_vars;rw [hO x p h3] at hh;cases hh
    .exact hq
  .rcases lk x p hp with ⟨rfl,rfl⟩|⟨h1,rfl,rfl⟩|⟨h1,h2,h3⟩
   .simp only [F',kF];exact hN.1 m b hmn hbk
   .simp only [F',bI h1,kF];rw [hlen'];refine qw.2 ⟨fun h=>?_,Ib.2 ⟨fun p q hp hq=>?_,fun p q p' q' b' hp hq hp' hq' g1 g2=>?_⟩⟩
    .obtain ⟨p,q,hp,hq,h⟩:=qy.1 h;simp only [qA] at h;split at h
     .cases h
     .exact KG.1 (FR hp hq h)
    .simp only [qA];split
     .exact FB
     .exact hN.1 p q hp hq
    .simp only [qA] at g1 g2;split at g1
     .cases g1
     .split at g2
      .cases g2
      .exact hN.2 p q p' q' b' hp hq hp' hq' g1 g2
   .simp only [F',bI h1,bI h2];exact hh0.nodup x p h3
  .rcases hin x p b' hx hbx with ⟨e1,k1⟩|⟨e1,k1,k1'⟩|⟨e1,HV,Ro,k1⟩<;>rcases hin y p' b' hy hby with ⟨e2,k2⟩|⟨e2,k2,k2'⟩|⟨e2,e2',Rp,k2⟩
   .exact hne (e1.trans e2.symm)
   .exact k2' k1
   .exact hdisj y p' b' Rp (tO e2') (hsub b' k1) k2
   .exact k1' k2
   .exact hne (e1.trans e2.symm)
   .exact hdisj y p' b' Rp (tO e2') k1 k2
   .exact hdisj x p b' Ro (tO HV) (hsub b' k2) k1
   .exact hdisj x p b' Ro (tO HV) k2 k1
   .exact hh0.gW x y p p' b' Ro Rp hne k1 k2
  .rcases hin x p b' hp hb' with ⟨_,h⟩|⟨_,h,_⟩|⟨_,_,h3,h⟩
   .exact hsep b' (hsub b' h)
   .exact hsep b' h
   .exact hh0.sep x p b' h3 h
  .rcases hin x p b' hp hb' with ⟨_,h⟩|⟨_,h,_⟩|⟨_,_,h3,h⟩
   .exact hlt b' (hsub b' h)
   .exact hlt b' h
   .exact hh0.lt x p b' h3 h
  .simp only [ρ'] at hr;split at hr
   .omega
   .exact hr
theorem CO.lend (i m b j:Nat) {code:Code} {T:List V} {H:Hp} {Q:Exit->St->Prop} {nn kH:Bool} {ety:Tg} {k:Nat} {rows:List (List V)} {row:List V} {kJ:List (List V)}
  (hi:look H i=some (.vec nn ety k rows)) (hrow:rows[m]?=some row) (hb:row[b]?=some (.sl kH true kJ)) (hj:fresh [j] ⟨T,H⟩=true) (h1:∀ r,r∈kJ->r.length=1)
  (h:∀ c,c.oneCell'=true->CO L P G code ⟨T,(j,.vec false (.at_ c) 1 kJ)::(i,.vec nn ety k<|rows.set m<|row.set b<|.c c)::bU [i] H⟩ Q):CO L P G code ⟨T,H⟩ Q:=by
 intro B ρ S F a w R hst hn;obtain ⟨c,hc,iK,F1,AO,e1,a1⟩:=hst.lend hi hrow hb hj h1;exact h c hc B iK S F1 a w R AO fun e st2 h2 sJ S2 F2 a2 w2 yC hE2 hA2=>hn e st2 h2 sJ S2 F2 a2 w2 yC (e1.trans hE2) (a1.trans hA2)
theorem avf {o:Oper} {e:Operand->V} {H H':Hp} {N:List Nat} {c:Value} {j:Nat} {nn:Bool} {k:Nat} {rows:List (List V)} (h:gH P G o e H (.c c) H' N) (hj:look H' j=some (.vec nn (.at_ c) k rows)):gH P G o e H (.own j) H' N:=
 fun ρ S F η w bQ hH hG=>(h ρ S F η w bQ hH hG).mono fun x w' hp=>by
  obtain ⟨ρ',S',F',hv,iA,hE,hA⟩:=hp;refine ⟨ρ',S',F',.own _ j fun r hr=>?_,iA,hE,hA⟩;obtain ⟨r',hr',bY⟩:=iA.obj j _ hj;rw [hr'] at hr;cases hr;rw [bY.root,hv.iX]
theorem avg (i m b j:Nat) {T:List V} {H:Hp} {nn kH:Bool} {ety:Tg} {k:Nat} {rows:List (List V)} {row:List V} {kJ:List (List V)} {c:Value}
  (hi:look H i=some (.vec nn ety k rows)) (hrow:rows[m]?=some row) (hb:row[b]?=some (.c c)) (hj:look H j=some (.vec kH (.at_ c) 1 kJ)) (hij:i≠j):
  Weak ⟨T,H⟩ ⟨T,(i,.vec nn ety k<|rows.set m<|row.set b<|.sl kH true kJ)::bU [i,j] H⟩:=by
 intro B G ρ S F a w hst;have hh0:=hst.heap;simp only at hh0;obtain ⟨r,hr,bY⟩:=hh0.obj i _ hi;obtain ⟨rj,hrj,Cw⟩:=hh0.obj j _ hj;have hcj:RD S w c (.sl kH true kJ) (F j):=by rw [<- Cw.root];exact Cw.ajP rfl
 have avh:=hh0.nodup j _ hj;have hnd:=hh0.nodup i _ hi;have hlt:=fun b' h=>hh0.lt i _ b' hi h;have hsep:=fun b' h=>hh0.sep i _ b' hi h;have hdisj:=fun x p b' (hx:look H x=some p) (hne:i≠x) (h1:b'∈F i) (h2:b'∈F x)=>hh0.gW i x _ p b' hi hx hne h1 h2;generalize iH:F i=Fi at bY hnd hlt hsep hdisj;cases bY with
 | kZ=>simp at hrow
 | vec g cap arr _ _ _ _ cc Fs hh hcap hmax hsz hk hc hrd ht=>
  have hmn:m < rows.length:=(dK.1 hrow).1;have hbk:b < k:=by have:=(dK.1 hb).1;rw [hk m row hrow] at this;exact this
  have hd:=hrd m b row _ hrow hb;have hcc:cc m b=c/\Fs m b=[]:=by
   generalize cc m b=c0 at hd;generalize Fs m b=F0 at hd;cases hd;exact ⟨rfl,rfl⟩
  have KG:=qw.1 hnd;have hN:=Ib.1 KG.2;let ρ':Nat->Option Value:=fun x=>if x=j then none else ρ x
  let rows':=rows.set m (row.set b<|.sl kH true kJ)
  let qA:Nat->Nat->List Nat:=fun p q=>if p=m/\q=b then F j else Fs p q
  let F':Nat->List Nat:=fun x=>if x=i then g::flat rows'.length k qA else F x
  have hlen':rows'.length=rows.length:=by simp [rows']
  have hρ:∀ x r,ρ' x=some r->ρ x=some r:=fun x r hx=>by
   simp only [ρ'] at hx;split at hx
   .cases hx
   .exact hx
  have obi:jd ρ' S w (.slice (some ⟨g,0,none⟩) rows.length cap) (.vec nn ety k rows') (g::flat rows'.length k qA):=by
   rw [<- hlen'] at ht ⊢;refine .vec g cap arr nn ety k rows' cc qA hh (by rw [hlen'];exact hcap) hmax hsz (fun p r hp=>?_) (fun p q r x hp hq=>?_) (fun p q r x hp hq=>?_) ht
   .rcases FQ hp with ⟨rfl,rfl⟩|⟨_,hp⟩
    .simp [hk _ row hrow]
    .exact hk p r hp
   .rcases FQ hp with ⟨rfl,rfl⟩|⟨_,hp⟩
    .rcases FQ hq with ⟨rfl,rfl⟩|⟨_,hq⟩
     .exact hc _ _ row _ hrow hb
     .exact hc _ q row x hrow hq
    .exact hc p q r x hp hq
   .rcases FQ hp with ⟨rfl,rfl⟩|⟨hne,hp⟩
    .rcases FQ hq with ⟨rfl,rfl⟩|⟨hne,hq⟩
     .simp only [qA,and_self,kF];rw [hcc.1];exact hcj
     .simp only [qA,true_and,bI hne];exact hrd _ q row x hrow hq
    .have hpm: ¬(p=m/\q=b):=fun h=>hne h.1;simp only [qA,bI hpm];exact hrd p q r x hp hq
  have hF1:∀ b',b'∈g::flat rows'.length k qA->b'∈g::flat rows.length k Fs\/b'∈F j:=fun b' h=>by
   rw [hlen'] at h;rcases fF.1 h with rfl|h
   .exact .inl aF
   .obtain ⟨p,q,hp,hq,h⟩:=qy.1 h;simp only [qA] at h;split at h
    .exact .inr h
    .exact .inl (sG _<|FR hp hq h)
  have lk:∀ x p,look ((i,.vec nn ety k rows')::bU [i,j] H) x=some p->(x=i/\p=.vec nn ety k rows')\/(x≠i/\x≠j/\look H x=some p):=fun x p hp=>by
   simp only [look,lI] at hp;split at hp
   .cases hp;exact .inl ⟨‹_›,rfl⟩
   .split at hp
    .cases hp
    .rename_i h1 h2;simp only [fF,MJ,MP,not_or] at h2;exact .inr ⟨h1,h2.2,hp⟩
  have hin:∀ x p b',look ((i,.vec nn ety k rows')::bU [i,j] H) x=some p->b'∈F' x->(x=i/\(b'∈g::flat rows.length k Fs\/b'∈F j))\/(x≠i/\x≠j/\look H x=some p/\b'∈F x):=fun x p b' hp hb'=>by
   rcases lk x p hp with ⟨rfl,_⟩|⟨h1,h2,h3⟩
   .simp only [F',kF] at hb';exact .inl ⟨rfl,hF1 b' hb'⟩
   .simp only [F',bI h1] at hb';exact .inr ⟨h1,h2,h3,hb'⟩
  have Nl:∀ x p b',look ((i,.vec nn ety k rows')::bU [i,j] H) x=some p->b'∈F' x->Ub H F b':=fun x p b' hp hb'=>by
   rcases hin x p b' hp hb' with ⟨_,h|h⟩|⟨_,_,h3,h⟩
   .exact ⟨i,_,hi,by rw [iH];exact h⟩
   .exact ⟨j,_,hj,h⟩
   .exact ⟨x,p,h3,h⟩
  have far:∀ b',b'∈g::flat rows.length k Fs->b'∈F j->False:=fun b' h1 h2=>hdisj j _ b' hj hij h1 h2;have alz:∀ x p b',x≠i->x≠j->look H x=some p->(b'∈g::flat rows.length k Fs\/b'∈F j)->b'∈F x->False:=fun x p b' h1 h2 h3 h4 h5=>by
   rcases h4 with h4|h4
   .exact hdisj x p b' h3 (tO h1) h4 h5
   .exact hh0.gW j x _ p b' hj h3 (tO h2) h4 h5
  refine ⟨ρ',S,F',⟨hst.defers,hst.size,fun x y hx=>?_,⟨fun x hx=>?_,fun x p hp=>?_,fun x p hp=>?_,fun x y p p' b' hx hy hne hbx hby=>?_,fun x p b' hp hb'=>?_,fun x p b' hp hb'=>?_,hh0.slt⟩,hst.glob⟩,
   ⟨rfl,rfl,rfl,cZ _,fun _ _ _=>rfl,fun _ h=>h,fun _ h=>.inl h,fun b' ⟨x,p,hp,h⟩=>.inl<|Nl x p b' hp h⟩,fun x r hx hr=>hρ x r hr⟩
  .exact (hst.tmps x y hx).mono (fun q r hq _=>hρ q r hq) (fun b' h=>⟨h,rfl⟩)
  .simp only [look,lI] at hx;split at hx
   .cases hx
   .rename_i h1;simp only [ρ'];split
    .rfl
    .rename_i h2;split at hx
     .rename_i h3;simp only [fF,MJ,MP] at h3;rcases h3 with h|h<;>contradiction
     .exact hh0.dom x hx
  .rcases lk x p hp with ⟨rfl,rfl⟩|⟨h1,h2,h3⟩
   .exact ⟨_,by simp only [ρ',bI hij];exact hr,by simp only [F',kF];exact obi⟩
   .obtain ⟨r',hr',AQ⟩:=hh0.obj x p h3;refine ⟨r',by simp only [ρ',bI h2];exact hr',?_⟩;simp only [F',bI h1];exact AQ.mono (fun q r hq _=>hρ q r hq) (fun b' h=>⟨h,rfl⟩) (fun _ _=>rfl)
  .rcases lk x p hp with ⟨rfl,rfl⟩|⟨h1,h2,h3⟩
   .simp only [F',kF];rw [hlen'];refine qw.2 ⟨fun h=>?_,Ib.2 ⟨fun p q hp hq=>?_,fun p q p' q' b' hp hq hp' hq' g1 g2=>?_⟩⟩
    .obtain ⟨p,q,hp,hq,h⟩:=qy.1 h;simp only [qA] at h;split at h
     .exact far g aF h
     .exact KG.1 (FR hp hq h)
    .simp only [qA];split
     .exact avh
     .exact hN.1 p q hp hq
    .simp only [qA] at g1 g2;split at g1
     .rename_i he;split at g2
      .rename_i he2;exact ⟨he.1.trans he2.1.symm,he.2.trans he2.2.symm⟩
      .exact (far b' (sG _<|FR hp' hq' g2) g1).elim
     .split at g2
      .exact (far b' (sG _<|FR hp hq g1) g2).elim
      .exact hN.2 p q p' q' b' hp hq hp' hq' g1 g2
   .simp only [F',bI h1];exact hh0.nodup x p h3
  .rcases hin x p b' hx hbx with ⟨e1,k1⟩|⟨e1,HV,Ro,k1⟩<;>rcases hin y p' b' hy hby with ⟨e2,k2⟩|⟨e2,e2',Rp,k2⟩
   .exact hne (e1.trans e2.symm)
   .exact alz y p' b' e2 e2' Rp k1 k2
   .exact alz x p b' e1 HV Ro k2 k1
   .exact hh0.gW x y p p' b' Ro Rp hne k1 k2
  .rcases hin x p b' hp hb' with ⟨_,h|h⟩|⟨_,_,h3,h⟩
   .exact hsep b' h
   .exact hh0.sep j _ b' hj h
   .exact hh0.sep x p b' h3 h
  .rcases hin x p b' hp hb' with ⟨_,h|h⟩|⟨_,_,h3,h⟩
   .exact hlt b' h
   .exact hh0.lt j _ b' hj h
   .exact hh0.lt x p b' h3 h
theorem afl {D:Tab} (hD:dQ P D) {ops:Array Oper} {draw:Bool} {T0:List V} {H0:Hp} {i:Nat} {T:List V} {H:Hp} {Es:List (Bool×Eff)} {Q:St->Prop} {t i0 n b j:Nat} {rows:List (List V)} {row:List V} {c:Value} {kH:Bool} {k2:Nat} {fC:List (List V)}
  (h:Av.Eo G ops i T H=some (t,i0,n,b,rows)) (hrow:rows[n]?=some row) (hv:Ee D t ((row.drop b).map V.clean)=some (.c c)) (hj:look H j=some (.vec kH (.at_ c) k2 fC))
  (k:W P G ops draw T0 H0 (i+1) (fB T (jf ops i)<|.own j) H (Es++[(true,{v:=.own j,R:=[i0,j]})]) Q):W P G ops draw T0 H0 i T H Es Q:=by
 unfold Av.Eo at h;split at h
 .rename_i t' a hop;split at h
  .rename_i j' k' m b' ha;split at h
   .rename_i nn ety k'' rows hl;split at h
    .subst_vars;simp only [iG,pR] at h;obtain ⟨rfl,rfl,rfl,rfl,rfl⟩:=h;refine AY (.own j) [j',j] hop (fun o ho e' H' he iA=>?_) k;exact avf (akO hD ho ((he a gy).trans ha) (by rw [iA j' aF];exact hl) hrow hv) (by rw [iA j aF];exact hj)
    .cases h
   .cases h
  .cases h
 .cases h
def aaD (D:Tab) (G:Nat->Option (List V)) (ops:Array Oper) (i:Nat) (T:List V) (H:Hp):Option (Nat×Nat×TypeId×Nat×Nat×List (List V)×List (List V)):=
 match oD ops i T with
 | some (.call c)=>match c.callee,c.args,c.argTypes with
  | .builtin .append,⟨[s,x]⟩,⟨[t,t']⟩=>match D.at t,ev G T s,ev G T x with
   | some it,.own a,.own b=>match it.d,look H a,look H b with
    | .slice el,some<|.vec _ tg k1 rows,some (.vec _ (.ty el2) k2 fC)=>match D.at el with
     | some ie=>if t=t'/\a≠b/\tg.hard=true/\el2=el/\k1=ie.size/\k2=ie.size then some (a,b,el,ie.size,ie.bytes,rows,fC) else none
     | none=>none
    | _,_,_=>none
   | _,_,_=>none
  | _,_,_=>none
 | _=>none
theorem W.aaD {D:Tab} (hD:dQ P D) {ops:Array Oper} {draw:Bool} {T0:List V} {H0:Hp} {i:Nat} {T:List V} {H:Hp} {Es:List (Bool×Eff)} {Q:St->Prop} {α:Type} (enc:α->List V) {l l2 r:List α} (b:Nat) (hx:app b l l2=some r) (hb:Nat.ble 1 b=true) (q:Nat) {a c el sz:Nat}
  (h:aaD D G ops i T H=some (a,c,el,sz,b,l.map enc,l2.map enc))
  (k:W P G ops draw T0 H0 (i+1) (fB T (jf ops i)<|.own q) ((q,.vec false .any sz<|r.map enc)::bU [a,c] H) (Es++[(true,{v:=.own q,C:=[a,c],new:=[(q,.vec false .any sz<|r.map enc)],N:=[q]})]) Q):W P G ops draw T0 H0 i T H Es Q:=by
 obtain ⟨rfl,h1,h2⟩:=aar (Fy hb) hx;unfold Av.aaD at h;split at h
 .rename_i cl hop;obtain ⟨callee,args,ats⟩:=cl;simp only at h;split at h
  .rename_i s x t t' ;split at h
   .rename_i it a' c' ht hs hxv;split at h
    .rename_i FI nn1 tg k1 rows kH el2 k2 fC hit hl1 hl2;split at h
     .rename_i ie hel;split at h
      .rename_i hc;obtain ⟨rfl,hne,uV,rfl,rfl,rfl⟩:=hc;simp only [iG,pR] at h;obtain ⟨rfl,rfl,rfl,rfl,rfl,rfl,rfl⟩:=h;refine En {v:=.own q,C:=[a',c'],new:=[(q,.vec false .any ie.size<|(l++l2).map enc)],N:=[q]} hop (fun o ho e' H' he iA hN=>?_) k;simp only [FE,Kq,FC,kX] at hN;have:=akl (G:=G) hD q false (tag:=tg) .any (fun _ _ _ h2=>h2 fun _ _ h=>h.tight uV) trivial ho ht hit hel ((he s<|by simp [ho,Op.operands,Call.operands]).trans hs) ((he x<|by simp [ho,Op.operands,Call.operands]).trans hxv) hne
        (by rw [iA a'<|.inr<|by simp [Eff.touch]];exact hl1) (by rw [iA c'<|.inr<|by simp [Eff.touch]];exact hl2) (by simpa using h2) (by simpa using h1) hN aF
       rw [vZ];exact this
      .cases h
     .cases h
    .cases h
   .cases h
  .cases h
 .cases h
theorem avi (i:Nat) {T:List V} {H:Hp} {nn:Bool} {ety:Tg} {k:Nat} {rows rows':List (List V)} (hi:look H i=some (.vec nn ety k rows)) (hrows:qN rows=rows'):
  Weak ⟨T,H⟩ ⟨T,(i,.vec nn ety k rows')::bU [i] H⟩:=by
 subst hrows;intro B G ρ S F a w hst;have hh0:=hst.heap;simp only at hh0;obtain ⟨r,hr,bY⟩:=hh0.obj i _ hi;have hnd:=hh0.nodup i _ hi;have hlen':(qN rows).length=rows.length:=by rw [MV,mE]
 have lk:∀ x p,look ((i,.vec nn ety k<|qN rows)::bU [i] H) x=some p->(x=i/\p=.vec nn ety k (qN rows))\/(x≠i/\look H x=some p):=fun x p hp=>by
  simp only [look,lI] at hp;split at hp
  .cases hp;exact .inl ⟨‹_›,rfl⟩
  .split at hp
   .cases hp
   .exact .inr ⟨‹_›,hp⟩
 obtain ⟨F0,VG,alA⟩:∃ F0:List Nat,(∀ b,b∈F0->b∈F i)/\F0.Nodup/\∀ S':Nat->Prop,(∀ b,S b->S' b)->(∀ b,b∈F i->b∉F0->S' b)->jd ρ S' w r (.vec nn ety k<|qN rows) F0:=by
  generalize F i=Fi at bY hnd;cases bY with
  | kZ=>exact ⟨[],fun b h=>h,FB,fun S' _ _=>.kZ _ _⟩
  | vec g cap arr _ _ _ _ cc Fs hh hcap hmax hsz hk hc hrd ht=>
   have KG:=qw.1 hnd;have hf0:flat (qN rows).length k (fun _ _=>[])=[]:=by
    apply ajB.2;intro b hb;obtain ⟨p,q,_,_,h⟩:=qy.1 hb;cases h
   refine ⟨[g],fun b h=>by rw [nG.1 h];simp,aF,fun S' hS hF=>?_⟩;rw [<- hlen'] at ht ⊢;have get:∀ (p:Nat) (r':List V),(qN rows)[p]?=some r'->∃ r0,rows[p]?=some r0/\r'=r0.map V.share:=fun p r' hp=>by
    rw [MV,gD,eD] at hp;obtain ⟨r0,h1,h2⟩:=hp;exact ⟨r0,h1,by rw [<- h2,Va]⟩
   rw [show [g]=g::flat (qN rows).length k (fun _ _=>[]) by rw [hf0]];refine .vec g cap arr nn ety k (qN rows) cc (fun _ _=>[]) hh (by rw [hlen'];exact hcap) hmax hsz (fun p r' hp=>?_) (fun p q r' x hp hq=>?_) (fun p q r' x hp hq=>?_) ht
   .obtain ⟨r0,h1,rfl⟩:=get p r' hp;rw [mE];exact hk p r0 h1
   .obtain ⟨r0,h1,rfl⟩:=get p r' hp;rw [gD,eD] at hq;obtain ⟨x0,h2,rfl⟩:=hq;exact hc p q r0 x0 h1 h2
   .obtain ⟨r0,h1,rfl⟩:=get p r' hp;rw [gD,eD] at hq;obtain ⟨x0,h2,rfl⟩:=hq;have hpn:p < rows.length:=(dK.1 h1).1;have hqk:q < k:=by have:=(dK.1 h2).1;rw [hk p r0 h1] at this;exact this
    exact (hrd p q r0 x0 h1 h2).share hS fun b hb=>hF b (sG _<|FR hpn hqk hb) fun h=>by
     rw [nG] at h;subst h;exact KG.1 (FR hpn hqk hb)
 let S':Nat->Prop:=fun b=>S b\/(b∈F i/\b∉F0)
 let F':Nat->List Nat:=fun x=>if x=i then F0 else F x
 have hS:∀ b,S b->S' b:=fun b h=>.inl h;have hkp:Keeps S w S' w:=fun b h=>⟨hS b h,rfl⟩
 have hin:∀ x p b',look ((i,.vec nn ety k<|qN rows)::bU [i] H) x=some p->b'∈F' x->(x=i/\b'∈F0)\/(x≠i/\look H x=some p/\b'∈F x):=fun x p b' hp hb'=>by
  rcases lk x p hp with ⟨rfl,_⟩|⟨h1,h2⟩
  .simp only [F',kF] at hb';exact .inl ⟨rfl,hb'⟩
  .simp only [F',bI h1] at hb';exact .inr ⟨h1,h2,hb'⟩
 have Nl:∀ b,b∈F i->Ub H F b:=fun b h=>⟨i,_,hi,h⟩
 refine ⟨ρ,S',F',⟨hst.defers.more fun b h=>h.imp id fun h=>hh0.blocks<|Nl b h.1,hst.size,fun x y hx=>(hst.tmps x y hx).mono (fun _ _ h _=>h) hkp,
  ⟨fun x hx=>?_,fun x p hp=>?_,fun x p hp=>?_,fun x y p p' b' hx hy hne hbx hby=>?_,fun x p b' hp hb'=>?_,fun x p b' hp hb'=>?_,fun b h=>?_⟩,hst.glob.mono hkp⟩,
  ⟨rfl,rfl,rfl,cZ _,fun _ _ _=>rfl,hS,fun b h=>h.imp id fun h=>.inl<|Nl b h.1,fun b' ⟨x,p,hp,h⟩=>.inl ?_⟩,fun x r _ hr=>hr⟩
 .simp only [look,lI] at hx;split at hx
  .cases hx
  .rename_i h1;split at hx
   .rename_i h2;simp only [nG] at h2;exact absurd h2 h1
   .exact hh0.dom x hx
 .rcases lk x p hp with ⟨rfl,rfl⟩|⟨h1,h2⟩
  .exact ⟨r,hr,by simp only [F',kF];exact alA.2 S' hS fun b h1 h2=>.inr ⟨h1,h2⟩⟩
  .obtain ⟨r',hr',AQ⟩:=hh0.obj x p h2;exact ⟨r',hr',by simp only [F',bI h1];exact AQ.mono (fun _ _ h _=>h) hkp fun _ _=>rfl⟩
 .rcases lk x p hp with ⟨rfl,rfl⟩|⟨h1,h2⟩
  .simp only [F',kF];exact alA.1
  .simp only [F',bI h1];exact hh0.nodup x p h2
 .rcases hin x p b' hx hbx with ⟨e1,k1⟩|⟨e1,HV,k1⟩<;>rcases hin y p' b' hy hby with ⟨e2,k2⟩|⟨e2,e2',k2⟩
  .exact hne (e1.trans e2.symm)
  .exact hh0.gW i y _ p' b' hi e2' (tO e2) (VG b' k1) k2
  .exact hh0.gW i x _ p b' hi HV (tO e1) (VG b' k2) k1
  .exact hh0.gW x y p p' b' HV e2' hne k1 k2
 .rintro (h|⟨h,h'⟩)
  .rcases hin x p b' hp hb' with ⟨_,h1⟩|⟨_,h2,h1⟩
   .exact hh0.sep i _ b' hi (VG b' h1) h
   .exact hh0.sep x p b' h2 h1 h
  .rcases hin x p b' hp hb' with ⟨_,h1⟩|⟨h3,h2,h1⟩
   .exact h' h1
   .exact hh0.gW i x _ p b' hi h2 (tO h3) h h1
 .rcases hin x p b' hp hb' with ⟨_,h1⟩|⟨_,h2,h1⟩
  .exact hh0.lt i _ b' hi (VG b' h1)
  .exact hh0.lt x p b' h2 h1
 .rcases h with h|h
  .exact hh0.slt b h
  .exact hh0.lt i _ b hi h.1
 .rcases hin x p b' hp h with ⟨_,h1⟩|⟨_,h2,h1⟩
  .exact Nl b' (VG b' h1)
  .exact ⟨x,p,h2,h1⟩
def V.dat:V->Bool
 | .c _=>true
 | .sl _ false _=>true
 | _=>false
theorem RD.dat {S:Nat->Prop} {w:World} {v:Value} {y:V} {F:List Nat} (h:RD S w v y F) (hy:y.dat=true):F=[]:=by
 cases h with
 | c=>rfl
 | mF=>rfl
 | shr=>rfl
 | exc=>cases hy
theorem avj {D:Tab} (hD:dQ P D) {o:Oper} {e:Operand->V} {H:Hp} {s x:Operand} {t el:TypeId} {it ie:Ty} (q:Nat) {i:Nat} {nn:Bool} {rows:List (List V)} (mG:Bool)
  (ho:o.op=.call {callee:=.builtin .append,args:=#[s,x],argTypes:=#[t,t]}) (ht:D.at t=some it) (hit:it.d=.slice el) (hel:D.at el=some ie)
  (hs:e s=.own i) (hx:e x=.own i) (hi:look H i=some (.vec nn (.ty el) ie.size rows)) (hdat:∀ r,r∈rows->∀ y,y∈r->y.dat=true)
  (hlen:rows.length+rows.length<=maxLen) (hb:(rows.length+rows.length)*ie.bytes<=140737488355328) (hq:gG q H=false) (hnn:mG=true->nn=true\/rows≠[]):
  gH P G o e H (.own q) ((q,.vec mG (.ty el) ie.size<|rows++rows)::bU [i] H) [q]:=by
 intro ρ S F η w bQ hH hG;have h1:=bQ s (by simp [ho,Op.operands,Call.operands]);have h2:=bQ x (by simp [ho,Op.operands,Call.operands]);rw [hs] at h1;rw [hx] at h2;obtain ⟨r,hr,bY⟩:=hH.obj i _ hi;have:=h2.Cv r hr;obtain ⟨_,⟨d,u1,u2⟩,_⟩:=hD _ _ ht;rw [hit] at u2;have hd:d=.slice el:=by cases d<;>simp_all [TD.is]
 subst hd;obtain ⟨F',hsrc,hsub,hnd⟩:=aki (P:=P) u1 bY (hH.nodup i _ hi);rw [<- this] at hsrc;have hno:∀ b,b∈F'->False:=fun b hb=>by
  obtain ⟨news,cs,Fs,_,rfl,hk,hc⟩:=hsrc.ex;obtain ⟨p,q,hp,hq,hb⟩:=qy.1 hb;have hr1:rows[p]?=some rows[p]:=fQ hp;have hq':q < rows[p].length:=by rw [hk _ _ hr1];exact hq
  have hr2:rows[p][q]?=some rows[p][q]:=fQ hq';rw [(hc p q _ _ hr1 hr2).2.dat<|hdat _ (mQ hp) _<|mQ hq'] at hb;cases hb
 obtain ⟨v,w',hrun,hp⟩:=Post.append hD hH ht hit hel (tag:=.ty el) (.ty el) (fun e1 v h h2=>⟨h fun _ _ h=>h.1,h2 fun _ _ h=>h.2⟩) trivial hi hsrc hnd [] (fun b hb=>(hno b hb).elim) hlen hb hq hnn h1 (tx:=t) (ty:=o.type);unfold oC;rw [aez ho hrun];exact hp
def aaE (D:Tab) (G:Nat->Option (List V)) (ops:Array Oper) (i:Nat) (T:List V) (H:Hp):Option (Nat×TypeId×Nat×Nat×List (List V)):=
 match oD ops i T with
 | some (.call c)=>match c.callee,c.args,c.argTypes with
  | .builtin .append,⟨[s,x]⟩,⟨[t,t']⟩=>match D.at t,ev G T s,ev G T x with
   | some it,.own a,.own b=>match it.d,look H a with
    | .slice el,some (.vec _ (.ty el1) k1 rows)=>match D.at el with
     | some ie=>if t=t'/\a=b/\el1=el/\k1=ie.size then some (a,el,ie.size,ie.bytes,rows) else none
     | none=>none
    | _,_=>none
   | _,_,_=>none
  | _,_,_=>none
 | _=>none
theorem W.aaE {D:Tab} (hD:dQ P D) {ops:Array Oper} {draw:Bool} {T0:List V} {H0:Hp} {i:Nat} {T:List V} {H:Hp} {Es:List (Bool×Eff)} {Q:St->Prop} {α:Type} (enc:α->List V) {l r:List α} (b:Nat) (hx:app b l l=some r) (hb:Nat.ble 1 b=true) (q:Nat) {a el sz:Nat}
  (h:aaE D G ops i T H=some (a,el,sz,b,l.map enc)) (hdat:∀ x:α,(enc x).all V.dat=true)
  (k:W P G ops draw T0 H0 (i+1) (fB T (jf ops i)<|.own q) ((q,.vec false el sz<|r.map enc)::bU [a] H) (Es++[(true,{v:=.own q,C:=[a],new:=[(q,.vec false el sz<|r.map enc)],N:=[q]})]) Q):W P G ops draw T0 H0 i T H Es Q:=by
 obtain ⟨rfl,h1,h2⟩:=aar (Fy hb) hx;unfold Av.aaE at h;split at h
 .rename_i cl hop;obtain ⟨callee,args,ats⟩:=cl;simp only at h;split at h
  .rename_i s x t t' ;split at h
   .rename_i it a' c' ht hs hxv;split at h
    .rename_i FI nn1 el1 k1 rows hit hl1;split at h
     .rename_i ie hel;split at h
      .rename_i hc;obtain ⟨rfl,rfl,rfl,rfl⟩:=hc;simp only [iG,pR] at h;obtain ⟨rfl,rfl,rfl,rfl,rfl⟩:=h;refine En {v:=.own q,C:=[a'],new:=[(q,.vec false _ ie.size<|(l++l).map enc)],N:=[q]} hop (fun o ho e' H' he iA hN=>?_) k;simp only [FE,Kq,FC,kX] at hN;have:=avj (G:=G) hD q false ho ht hit hel ((he s<|by simp [ho,Op.operands,Call.operands]).trans hs) ((he x<|by simp [ho,Op.operands,Call.operands]).trans hxv)
        (by rw [iA a'<|.inr<|by simp [Eff.touch]];exact hl1) (fun r hr y hy=>by obtain ⟨x,_,rfl⟩:=jW.1 hr;exact kW.1 (hdat x) y hy) (by simpa using h2) (by simpa using h1) hN aF
       rw [vZ];exact this
      .cases h
     .cases h
    .cases h
   .cases h
  .cases h
 .cases h
def Ob.dim:Ob->Ob
 | .vec _ e k rows=>.vec false e k rows
 | o=>o
def aaF (H:Hp):Hp:=H.map fun p=>(p.1,p.2.dim)
def Eff.dim (E:Eff):Eff:={E with new:=aaF E.new}
theorem alB (H:Hp) (x:Nat):look (aaF H) x=(look H x).map Ob.dim:=by
 induction H with
 | nil=>rfl
 | cons p H ih=>
  obtain ⟨j,o⟩:=p;simp only [aaF,jV,look];split
  .rfl
  .exact ih
theorem jd.lower {ρ:Nat->Option Value} {S:Nat->Prop} {w:World} {r:Value} {o:Ob} {F:List Nat} (h:jd ρ S w r o F):jd ρ S w r o.dim F:=by
 cases h with
 | cells g arr ety cs hh hsz hr=>exact .cells g arr ety cs hh hsz hr
 | kZ _ _ ht=>exact .kZ _ _ ht
 | vec g cap arr nn ety k rows cs Fs hh hcap hmax hsz hk hc hr ht=>exact .vec g cap arr false ety k rows cs Fs hh hcap hmax hsz hk hc hr ht
theorem dY.lower {ρ:Nat->Option Value} {S:Nat->Prop} {F:Nat->List Nat} {H1 H2:Hp} {w:World} (h:dY ρ S F H1 w) (he:∀ x,look H2 x=look H1 x\/look H2 x=(look H1 x).map Ob.dim):dY ρ S F H2 w:=by
 have back:∀ x o,look H2 x=some o->∃ o',look H1 x=some o'/\(o=o'\/o=o'.dim):=fun x o hx=>by
  rcases he x with e|e
  .exact ⟨o,by rw [<- e];exact hx,.inl rfl⟩
  .rw [e,eD] at hx;obtain ⟨o',h1,rfl⟩:=hx;exact ⟨o',h1,.inr rfl⟩
 refine ⟨fun x hx=>h.dom x ?_,fun x o hx=>?_,fun x o hx=>?_,fun x y o p b hx hy hne h1 h2=>?_,fun x o b hx hb=>?_,fun x o b hx hb=>?_,h.slt⟩
 .rcases he x with e|e
  .rw [<- e];exact hx
  .rw [e] at hx;simpa using hx
 .obtain ⟨o',h1,h2⟩:=back x o hx;obtain ⟨r,hr,bY⟩:=h.obj x o' h1;rcases h2 with rfl|rfl
  .exact ⟨r,hr,bY⟩
  .exact ⟨r,hr,bY.lower⟩
 .obtain ⟨o',h1,_⟩:=back x o hx;exact h.nodup x o' h1
 .obtain ⟨o',k1,_⟩:=back x o hx;obtain ⟨p',k2,_⟩:=back y p hy;exact h.gW x y o' p' b k1 k2 hne h1 h2
 .obtain ⟨o',h1,_⟩:=back x o hx;exact h.sep x o' b h1 hb
 .obtain ⟨o',h1,_⟩:=back x o hx;exact h.lt x o' b h1 hb
theorem gH.lower {o:Oper} {e:Operand->V} {H H1 H2:Hp} {v:V} {N:List Nat} (h:gH P G o e H v H1 N) (he:∀ x,look H2 x=look H1 x\/look H2 x=(look H1 x).map Ob.dim):gH P G o e H v H2 N:=
 fun ρ S F η w bQ hH hG=>(h ρ S F η w bQ hH hG).mono fun x w' hp=>by
  obtain ⟨ρ',S',F',hv,iA,hE,hA⟩:=hp;refine ⟨ρ',S',F',hv,iA.lower he,⟨hE.os,hE.tape,hE.output,hE.size,hE.keep,hE.sub,hE.newS,fun b hb=>hE.uT b ?_⟩,hA⟩;obtain ⟨i,o',hi,hb⟩:=hb;rcases he i with e1|e1
  .exact ⟨i,o',by rw [<- e1];exact hi,hb⟩
  .rw [e1,eD] at hi;obtain ⟨o2,h2,_⟩:=hi;exact ⟨i,o2,h2,hb⟩
def Rq (D:Tab) (G:Nat->Option (List V)) (ops:Array Oper) (q i:Nat) (T:List V) (H:Hp):Option Eff:=
 match ops[i]? with
 | none=>none
 | some o=>match wu ops T o.guard with
  | some true=>QZ D q H (ev G T) o.op
  | _=>none
theorem avk {D:Tab} (hD:dQ P D) {ops:Array Oper} {draw:Bool} {T0:List V} {H0:Hp} {i:Nat} {T:List V} {H:Hp} {Es:List (Bool×Eff)} {Q:St->Prop} (q:Nat) (h:(Rq D G ops q i T H).isSome=true)
  (k:W P G ops draw T0 H0 (i+1) (fB T (jf ops i) ((Rq D G ops q i T H).getD default).v) (aaF ((Rq D G ops q i T H).getD default).new++bU ((Rq D G ops q i T H).getD default).C H) (Es++[(true,((Rq D G ops q i T H).getD default).dim)]) Q):W P G ops draw T0 H0 i T H Es Q:=by
 obtain ⟨E,hE⟩:=MC.1 h;rw [hE] at k;simp only [ZJ] at k;unfold Rq at hE;split at hE
 .cases hE
 .rename_i o ho;split at hE
  .rename_i hw;have hd:jf ops i=o.dst:=by simp [jf,ho]
   rw [hd] at k;refine W.one E.dim ho hw (fun e' H' he iA hN=>?_) k;have ht:∀ x,E.dim.touch x=E.touch x:=fun x=>by simp [Eff.touch,Eff.dim,alB]
   refine (aeI hD hE e' H' he (fun x hx=>iA x (hx.imp id fun h=>by rw [ht];exact h)) hN).lower fun x=>?_;have e1:look (E.dim.new++bU E.dim.C H') x=(match (look E.new x).map Ob.dim with|some o=>some o|none=>look (bU E.C H') x):=by
    rw [<- alB];exact FJ _ _ _
   rw [e1,FJ];cases look E.new x with
   | none=>exact .inl rfl
   | some o=>exact .inr rfl
  .cases hE
end
end Go.Av
namespace Go.Av
section
variable {P:Program} {G:Nat->Option (List V)} {L:Option Nat}
theorem afm {α:Type} {enc:α->List V} {l:List α} {k:Int} {e:α} {row:List V} {R:List (List V)} (hx:ix l k=some e) (hR:R=(l.map enc).set k.toNat row):ix R k=some row/\(R.map id)[k.toNat]?=some row:=by
 obtain ⟨h1,h2⟩:=Ic hx;have hk:k.toNat < l.length:=(dK.1 h2).1;have hr:R[k.toNat]?=some row:=by
  rw [hR,asO<|by simpa using hk]
 refine ⟨?_,?_⟩
 .unfold ix;rw [dA ah,hr]
 .rw [ML,hr]
theorem avl {α:Type} {enc:α->List V} {l l3:List α} {k:Int} {e':α} {row row':List V} {R:List (List V)} (hR:R=(l.map enc).set k.toNat row) (hu:upd l k e'=some l3) (he:enc e'=row'):upd R k row'=some (l3.map enc):=by
 subst hR he;unfold upd at hu ⊢;split at hu
 .rename_i hc;cases hu;rw [dA ⟨hc.1,by simpa using hc.2⟩,aeb,ZP]
 .cases hu
theorem avm {α:Type} {enc:α->List V} {l l3:List α} {k:Int} {e':α} {row row':List V} {R:List (List V)} (hR:R=(l.map enc).set k.toNat row) (hu:upd l k e'=some l3) (he:row'=enc e'):(R.map id).set k.toNat row'=l3.map enc:=by
 subst hR he;unfold upd at hu;split at hu
 .cases hu;rw [ML,aeb,ZP]
 .cases hu
theorem avn {α:Type} {enc:α->List V} {l:List α} {k:Int} {e:α} {row row':List V} {R:List (List V)} (hR:R=(l.map enc).set k.toNat row) (hx:ix l k=some e) (he:row'=enc e):(R.map id).set k.toNat row'=l.map enc:=by
 subst hR he;obtain ⟨h1,h2⟩:=Ic hx;have hk:k.toNat < l.length:=(dK.1 h2).1;rw [ML,aeb,<- ZP];congr 1;rw [<- (dK.1 h2).2];exact List.set_getElem_self hk
theorem afn (i b j:Nat) {α:Type} (enc:α->List V) {l:List α} {k:Int} {e:α} (hx:ix l k=some e) {code:Code} {T:List V} {H:Hp} {Q:Exit->St->Prop} {nn kH:Bool} {ety:Tg} {kk:Nat} {kJ:List (List V)} (row0:Value->List V) (H':Value->List (List V)->Hp)
  (hi:look H i=some (.vec nn ety kk<|l.map enc)) (hb:(enc e)[b]?=some (.sl kH true kJ)) (hr0:∀ c,(enc e).set b (.c c)=row0 c) (hj:fresh [j] ⟨T,H⟩=true) (h1:∀ r,r∈kJ->r.length=1)
  (iA:∀ c R,(j,.vec false (.at_ c) 1 kJ)::(i,.vec nn ety kk<|R.map id)::bU [i] H=H' c R)
  (h:∀ c R,R=(l.map enc).set k.toNat (row0 c)->CO L P G code ⟨T,H' c R⟩ Q):CO L P G code ⟨T,H⟩ Q:=by
 obtain ⟨h0,h2⟩:=Ic hx;refine CO.lend i k.toNat b j hi (row:=enc e) (by rw [gD,h2];rfl) hb hj h1 fun c hc=>?_;have:=h c ((l.map enc).set k.toNat<|row0 c) rfl;rw [<- iA,ML] at this;rw [hr0];exact this
theorem alC (i m b j:Nat) {T:List V} {H:Hp} {nn kH:Bool} {ety:Tg} {k:Nat} {rows:List (List V)} {row:List V} {kJ:List (List V)} {c:Value} {row':List V} {rows':List (List V)}
  (hi:look H i=some (.vec nn ety k rows)) (hrow:rows[m]?=some row) (hb:row[b]?=some (.c c)) (hj:look H j=some (.vec kH (.at_ c) 1 kJ)) (hij:i≠j) (hr:row.set b (.sl kH true kJ)=row') (he:rows.set m row'=rows'):
  Weak ⟨T,H⟩ ⟨T,(i,.vec nn ety k rows')::bU [i,j] H⟩:=by
 subst hr he;exact avg i m b j hi hrow hb hj hij
end
end Go.Av
namespace Go.Av
open Go.RowKit
section
variable {P:Program} {G:Nat->Option (List V)} {L:Option Nat}
end
end Go.Av
