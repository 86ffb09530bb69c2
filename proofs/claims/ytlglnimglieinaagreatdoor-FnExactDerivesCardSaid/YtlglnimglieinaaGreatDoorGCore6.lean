/-
 Abstract values, states, walks, part 6.
-/
import Derived.Test.YtlglnimglieinaaGreatDoorGCore5
import Derived.Below
import Derived.Lib.Repeat
set_option linter.all false
namespace Go.Av
section
variable {P:Program} {G:Nat->Option (List V)} {L:Option Nat} {B:Nat}
theorem Tg.ok.root {c v:Value} {k:Nat} {e:TypeId} (h:(Tg.at_ c).ok k e v):v=c:=h.1
theorem jf.root {ρ:Nat->Option Value} {S:Nat->Prop} {w:World} {r c:Value} {nn:Bool} {k:Nat} {rows:List (List V)} {F:List Nat} (h:jf ρ S w r (.vec nn (.at_ c) k rows) F):r=c:=by
 cases h with
 | mU _ _ ht=>exact Eq.symm ht
 | vec g cap arr _ _ _ _ cs Fs hh hcap hmax hsz hk hc hr ht=>exact ht.1
theorem mq.lend {ρ:Nat->Option Value} {S:Nat->Prop} {F:Nat->List Nat} {T:List V} {H:Hp} {a:Act} {w:World} (hst:mq B G ρ S F ⟨T,H⟩ a w) {i m b j:Nat} {nn Iz:Bool} {ety:Tg} {k:Nat} {rows:List (List V)} {row:List V} {wT:List (List V)}
  (hi:look H i=some (.vec nn ety k rows)) (hrow:rows[m]?=some row) (hb:row[b]?=some (.sl Iz true wT)) (hj:fresh [j] ⟨T,H⟩=true) (h1:∀ r,r∈wT->r.length=1):
  ∃ c,c.oneCell'=true/\∃ ρ' F',mq B G ρ' S F' ⟨T,(j,.vec false (.at_ c) 1 wT)::(i,.vec nn ety k<|rows.set m<|row.set b<|.c c)::dB [i] H⟩ a w/\
   iT S (Ub H F) w S (Ub ((j,.vec false (.at_ c) 1 wT)::(i,.vec nn ety k<|rows.set m<|row.set b<|.c c)::dB [i] H) F') w/\mo ρ ρ':=by
 obtain ⟨aod,hT,hH⟩:=SC hj (by simp:j∈[j]);obtain ⟨hl,hO⟩:=yK hH;have hij:i≠j:=fun e=>by rw [e] at hi;simp only [hl] at hi;cases hi
 have hh0:=hst.heap;simp only at hh0;obtain ⟨r,hr,cB⟩:=hh0.obj i _ hi;have hnd:=hh0.nodup i _ hi;have hlt:=fun b' h=>hh0.lt i _ b' hi h;have hsep:=fun b' h=>hh0.sep i _ b' hi h;have hdisj:=fun x p b' (hx:look H x=some p) (hne:i≠x) (h1:b'∈F i) (h2:b'∈F x)=>hh0.jI i x _ p b' hi hx hne h1 h2;generalize jl:F i=Fi at cB hnd hlt hsep hdisj;cases cB with
 | mU=>simp at hrow
 | vec g cap arr _ _ _ _ cc Fs hh hcap hmax hsz hk hc hrd ht=>
  have hmn:m < rows.length:=(dV.1 hrow).1;have hbk:b < k:=by have:=(dV.1 hb).1;rw [hk m row hrow] at this;exact this
  have hd:=hrd m b row _ hrow hb;have ahr:=rG.1 hnd;have hN:=SY.1 ahr.2;have hsub:∀ b',b'∈Fs m b->b'∈g::flat rows.length k Fs:=fun b' h=>yJ _ (abD hmn hbk h);have hgF:g∉Fs m b:=fun h=>ahr.1 (abD hmn hbk h);let c:=cc m b
  let ρ':Nat->Option Value:=fun x=>if x=j then some c else ρ x
  let rows':=rows.set m (row.set b<|.c c)
  let Ee:Nat->Nat->List Nat:=fun p q=>if p=m/\q=b then [] else Fs p q
  let F':Nat->List Nat:=fun x=>if x=j then Fs m b else if x=i then g::flat rows'.length k Ee else F x
  have hlen':rows'.length=rows.length:=by simp [rows']
  have hρ:∀ x r (y:V),y.has j=false->ρ' x=some r->y.has x=true->ρ x=some r:=fun x r y hy hx hh=>by
   simp only [ρ'] at hx;split at hx
   .subst_vars;rw [hy] at hh;cases hh
   .exact hx
  have obj:jf ρ' S w c (.vec false (.at_ c) 1 wT) (Fs m b):=by
   have hd':RD S w c (.sl Iz true wT) (Fs m b):=hd;generalize Fs m b=F0 at hd';generalize c=c0 at hd';cases hd' with
   | lQ=>exact .mU _ _ rfl
   | exc g2 cap2 apF aHI _ _ k3 cs2 DX ND hcap2 apG hsz2 hk3 hc2 hr2 ht2=>
    cases wT with
    | nil=>
     have e0:flat ([]:List (List V)).length k3 DX=flat ([]:List (List V)).length 1 DX:=rfl;rw [e0];refine .vec g2 cap2 apF false _ 1 [] cs2 DX ND hcap2 apG ?_ (fun i r h=>by simp at h) (fun i j r x h=>by simp at h) (fun i j r x h=>by simp at h) ⟨rfl,fun _=>.inl rfl⟩;rcases ht2 rfl with h|h
     .rw [hsz2,h]
     .rw [hsz2,h];simp
    | cons r0 wT=>
     have:k3=1:=by rw [<- hk3 0 r0 rfl,h1 r0 aF]
     subst this;exact .vec g2 cap2 apF false _ 1 _ cs2 DX ND hcap2 apG hsz2 hk3 hc2 hr2 ⟨rfl,fun _=>.inl rfl⟩
  have obi:jf ρ' S w (.slice (some ⟨g,0,none⟩) rows.length cap) (.vec nn ety k rows') (g::flat rows'.length k Ee):=by
   rw [<- hlen'] at ht ⊢;refine .vec g cap arr nn ety k rows' cc Ee hh (by rw [hlen'];exact hcap) hmax hsz (fun p r hp=>?_) (fun p q r x hp hq=>?_) (fun p q r x hp hq=>?_) ht
   .rcases Px hp with ⟨rfl,rfl⟩|⟨_,hp⟩
    .simp [hk _ row hrow]
    .exact hk p r hp
   .rcases Px hp with ⟨rfl,rfl⟩|⟨_,hp⟩
    .rcases Px hq with ⟨rfl,rfl⟩|⟨_,hq⟩
     .exact hc _ _ row _ hrow hb
     .exact hc _ q row x hrow hq
    .exact hc p q r x hp hq
   .rcases Px hp with ⟨rfl,rfl⟩|⟨hne,hp⟩
    .rcases Px hq with ⟨rfl,rfl⟩|⟨hne,hq⟩
     .simp only [Ee,and_self,nI];exact .c _ hd.one
     .simp only [Ee,true_and,bL hne];exact hrd _ q row x hrow hq
    .have hpm: ¬(p=m/\q=b):=fun h=>hne h.1;simp only [Ee,bL hpm];exact hrd p q r x hp hq
  have hF1:∀ b',b'∈g::flat rows'.length k Ee->b'∈g::flat rows.length k Fs/\b'∉Fs m b:=fun b' h=>by
   rw [hlen'] at h;rcases jW.1 h with rfl|h
   .exact ⟨aF,hgF⟩
   .obtain ⟨p,q,hp,hq,h⟩:=wM.1 h;simp only [Ee] at h;split at h
    .cases h
    .rename_i hne;exact ⟨yJ _<|abD hp hq h,fun h'=>hne<|hN.2 p q m b b' hp hq hmn hbk h h'⟩
  have lk:∀ x p,look ((j,.vec false (.at_ c) 1 wT)::(i,.vec nn ety k rows')::dB [i] H) x=some p->(x=j/\p=.vec false (.at_ c) 1 wT)\/(x≠j/\x=i/\p=.vec nn ety k rows')\/(x≠j/\x≠i/\look H x=some p):=fun x p hp=>by
   simp only [look,mV] at hp;split at hp
   .cases hp;exact .inl ⟨‹_›,rfl⟩
   .split at hp
    .cases hp;exact .inr (.inl ⟨‹_›,‹_›,rfl⟩)
    .split at hp
     .cases hp
     .exact .inr (.inr ⟨‹_›,‹_›,hp⟩)
  have hin:∀ x p b',look ((j,.vec false (.at_ c) 1 wT)::(i,.vec nn ety k rows')::dB [i] H) x=some p->b'∈F' x->(x=j/\b'∈Fs m b)\/(x=i/\b'∈g::flat rows.length k Fs/\b'∉Fs m b)\/(x≠j/\x≠i/\look H x=some p/\b'∈F x):=fun x p b' hp hb'=>by
   rcases lk x p hp with ⟨rfl,_⟩|⟨h1,rfl,_⟩|⟨h1,h2,h3⟩
   .simp only [F',nI] at hb';exact .inl ⟨rfl,hb'⟩
   .simp only [F',bL h1,nI] at hb';exact .inr (.inl ⟨rfl,hF1 b' hb'⟩)
   .simp only [F',bL h1,bL h2] at hb';exact .inr (.inr ⟨h1,h2,h3,hb'⟩)
  have hUb:∀ x p b',look ((j,.vec false (.at_ c) 1 wT)::(i,.vec nn ety k rows')::dB [i] H) x=some p->b'∈F' x->Ub H F b':=fun x p b' hp hb'=>by
   rcases hin x p b' hp hb' with ⟨_,h⟩|⟨_,h,_⟩|⟨_,_,h3,h⟩
   .exact ⟨i,_,hi,by rw [jl];exact hsub b' h⟩
   .exact ⟨i,_,hi,by rw [jl];exact h⟩
   .exact ⟨x,p,h3,h⟩
  refine ⟨c,hd.one,ρ',F',⟨hst.defers,hst.size,fun x y hx=>?_,⟨fun x hx=>?_,fun x p hp=>?_,fun x p hp=>?_,fun x y p p' b' hx hy hne hbx hby=>?_,fun x p b' hp hb'=>?_,fun x p b' hp hb'=>?_,hh0.slt⟩,hst.glob⟩,
   ⟨rfl,rfl,rfl,dK _,fun _ _ _=>rfl,fun _ h=>h,fun _ h=>.inl h,fun b' ⟨x,p,hp,h⟩=>.inl<|hUb x p b' hp h⟩,fun x r hx hr=>?_⟩
  .exact (hst.tmps x y hx).mono (fun q r hq hh=>hρ q r y (XM hT<|nk hx) hq hh) (fun b' h=>⟨h,rfl⟩)
  .simp only [look,mV] at hx;split at hx
   .cases hx
   .split at hx
    .cases hx
    .rename_i h1 h2;simp only [ρ',bL h1];split at hx
     .rename_i h3;simp only [yg] at h3;exact absurd h3 h2
     .exact hh0.dom x hx
  .rcases lk x p hp with ⟨rfl,rfl⟩|⟨h1,rfl,rfl⟩|⟨h1,h2,h3⟩
   .exact ⟨c,by simp [ρ'],by simp only [F',nI];exact obj⟩
   .exact ⟨_,by simp only [ρ',bL h1];exact hr,by simp only [F',bL h1,nI];exact obi⟩
   .obtain ⟨r',hr',Iw⟩:=hh0.obj x p h3;refine ⟨r',by simp only [ρ',bL h1];exact hr',?_⟩;simp only [F',bL h1,bL h2];refine Iw.mono (fun q r hq hh=>?_) (fun b' h=>⟨h,rfl⟩) (fun _ _=>rfl);simp only [ρ'] at hq;split at hq
    .subst_vars;rw [hO x p h3] at hh;cases hh
    .exact hq
  .rcases lk x p hp with ⟨rfl,rfl⟩|⟨h1,rfl,rfl⟩|⟨h1,h2,h3⟩
   .simp only [F',nI];exact hN.1 m b hmn hbk
   .simp only [F',bL h1,nI];rw [hlen'];refine rG.2 ⟨fun h=>?_,SY.2 ⟨fun p q hp hq=>?_,fun p q p' q' b' hp hq hp' hq' g1 g2=>?_⟩⟩
    .obtain ⟨p,q,hp,hq,h⟩:=wM.1 h;simp only [Ee] at h;split at h
     .cases h
     .exact ahr.1 (abD hp hq h)
    .simp only [Ee];split
     .exact KX
     .exact hN.1 p q hp hq
    .simp only [Ee] at g1 g2;split at g1
     .cases g1
     .split at g2
      .cases g2
      .exact hN.2 p q p' q' b' hp hq hp' hq' g1 g2
   .simp only [F',bL h1,bL h2];exact hh0.nodup x p h3
  .rcases hin x p b' hx hbx with ⟨e1,k1⟩|⟨e1,k1,k1'⟩|⟨e1,e1',ahs,k1⟩<;>rcases hin y p' b' hy hby with ⟨e2,k2⟩|⟨e2,k2,k2'⟩|⟨e2,e2',aht,k2⟩
   .exact hne (e1.trans e2.symm)
   .exact k2' k1
   .exact hdisj y p' b' aht (zR e2') (hsub b' k1) k2
   .exact k1' k2
   .exact hne (e1.trans e2.symm)
   .exact hdisj y p' b' aht (zR e2') k1 k2
   .exact hdisj x p b' ahs (zR e1') (hsub b' k2) k1
   .exact hdisj x p b' ahs (zR e1') k2 k1
   .exact hh0.jI x y p p' b' ahs aht hne k1 k2
  .rcases hin x p b' hp hb' with ⟨_,h⟩|⟨_,h,_⟩|⟨_,_,h3,h⟩
   .exact hsep b' (hsub b' h)
   .exact hsep b' h
   .exact hh0.sep x p b' h3 h
  .rcases hin x p b' hp hb' with ⟨_,h⟩|⟨_,h,_⟩|⟨_,_,h3,h⟩
   .exact hlt b' (hsub b' h)
   .exact hlt b' h
   .exact hh0.lt x p b' h3 h
  .simp only [ρ'] at hr;split at hr
   .omega
   .exact hr
theorem CO.lend (i m b j:Nat) {code:Code} {T:List V} {H:Hp} {Q:Exit->St->Prop} {nn Iz:Bool} {ety:Tg} {k:Nat} {rows:List (List V)} {row:List V} {wT:List (List V)}
  (hi:look H i=some (.vec nn ety k rows)) (hrow:rows[m]?=some row) (hb:row[b]?=some (.sl Iz true wT)) (hj:fresh [j] ⟨T,H⟩=true) (h1:∀ r,r∈wT->r.length=1)
  (h:∀ c,c.oneCell'=true->CO L P G code ⟨T,(j,.vec false (.at_ c) 1 wT)::(i,.vec nn ety k<|rows.set m<|row.set b<|.c c)::dB [i] H⟩ Q):CO L P G code ⟨T,H⟩ Q:=by
 intro B ρ S F a w R hst hn;obtain ⟨c,hc,dO,F1,Bd,e1,a1⟩:=hst.lend hi hrow hb hj h1;exact h c hc B dO S F1 a w R Bd fun e st2 h2 oC S2 F2 a2 w2 rW hE2 hA2=>hn e st2 h2 oC S2 F2 a2 w2 rW (e1.trans hE2) (a1.trans hA2)
end
end Go.Av
namespace Go.Av
section
variable {P:Program} {G:Nat->Option (List V)} {L:Option Nat}
end
end Go.Av
namespace Go.Av
open Go.RowKit
section
variable {P:Program} {G:Nat->Option (List V)} {L:Option Nat}
end
end Go.Av
