/-
 Abstract values, states, walks, part 5.
-/
import Derived.Test.YtpehbmgfhfpgbaaGreatDoorGCore4
import Derived.OpenShut
import Derived.OpenVars
import Derived.ChangeArms
import Derived.Below
import Derived.Sort.OwnSortedInts
import Derived.Lib.LaidTab
import Derived.Lib.ItoaNum
import Derived.Deep.Draws
import Derived.Sort.OwnSorted
import Derived.Lib.RowBridge
import Derived.Lib.SlicesCompact
import Derived.Lib.Join
set_option linter.all false
namespace Go.Av
section
variable {P:Program} {G:Nat->Option (List V)} {L:Option Nat} {B:Nat}
theorem akd {ops:Array Oper} {Q:Exit->Act->World->Prop} {rest:List Oper} (l:List Oper):∀ {st:St} {K:St->Prop},mM P G ops l st K->
  ∀ {ρ:Nat->Option Value} {S:Nat->Prop} {F:Nat->List Nat} {a:Act} {w:World},mK B G ρ S F st a w->
  (∀ st',K st'->Onto B G ρ S F st.H w st' (wpListIn (uN L) 0 P ops Q rest))->wpListIn (uN L) 0 P ops Q (l++rest) a w:=by
 induction l with
 | nil=>
  intro st K h ρ S F a w hst hn;exact hn st h ρ S F a w hst (iE.refl _ _ _) (lX.refl _)
 | cons o l ih=>
  intro st K h ρ S F a w hst hn;have go:Step P G o st (fun st'=>mM P G ops l st' K)->Region.wanted o (yielded ops a.tmps)=true->wpListIn (uN L) 0 P ops Q (o::(l++rest)) a w:=by
   intro hs hw;unfold wpListIn;rw [bQ hw];refine (hs.wp hst fun st' h' ρ' S' F' a' w' hst' hE hA=>?_);exact ih h' hst' fun st2 h2 kH S2 F2 a2 w2 oF hE2 hA2=>hn st2 h2 kH S2 F2 a2 w2 oF (hE.trans hE2) (hA.trans hA2)
  unfold mM at h;cases hg:o.guard with
  | none=>
   rw [hg] at h;exact go h (by simp [Region.wanted,hg])
  | some jb=>
   obtain ⟨j,b⟩:=jb;rw [hg] at h;obtain ⟨b',hgv,h⟩:=h;have hy:=adu hst hgv;rcases h with ⟨rfl,h⟩|⟨hne,h⟩
   .exact go h (by simp [Region.wanted,hg,hy])
   .change wpListIn (uN L) 0 P ops Q (o::(l++rest)) a w;unfold wpListIn;rw [bA<|by simp [Region.wanted,hg,hy,hne]];refine ⟨fun _ _=>trivial,?_⟩;refine ih h (adv hst o.dst) fun st2 h2 kH S2 F2 a2 w2 oF hE2 hA2=>?_;exact hn st2 h2 kH S2 F2 a2 w2 oF (by simpa [St.put] using hE2) hA2
theorem mM.imp {ops:Array Oper}:∀ {l:List Oper} {st:St} {K K':St->Prop},mM P G ops l st K->(∀ st,K st->K' st)->mM P G ops l st K'
 | [],_,_,_,h,hk=>hk _ h
 | o::l,st,K,K',h,hk=>by
  unfold mM at h ⊢;cases hg:o.guard with
  | none=>
   rw [hg] at h;obtain ⟨v,H',N,h1,h2,h3⟩:=h;exact ⟨v,H',N,h1,h2,mM.imp h3 hk⟩
  | some jb=>
   obtain ⟨j,b⟩:=jb;rw [hg] at h;obtain ⟨b',hb,h⟩:=h;refine ⟨b',hb,h.imp ?_ ?_⟩
   .rintro ⟨he,v,H',N,h1,h2,h3⟩;exact ⟨he,v,H',N,h1,h2,mM.imp h3 hk⟩
   .rintro ⟨he,h3⟩;exact ⟨he,mM.imp h3 hk⟩
theorem qZ {α:Type} {l:List α} {m p:Nat} {y r:α} (h:(l.set m y)[p]?=some r):(p=m/\r=y)\/(p≠m/\l[p]?=some r):=by
 rw [EG] at h;split at h
 .split at h
  .cases h;exact .inl ⟨(by subst_vars;rfl),rfl⟩
  .cases h
 .exact .inr ⟨fun e=>(by subst_vars;contradiction),h⟩
theorem wG {n k:Nat} {Fs:Nat->Nat->List Nat} {i j b:Nat} (hi:i < n) (hj:j < k) (hb:b∈Fs i j):b∈flat n k Fs:=mJ.2 ⟨i,j,hi,hj,hb⟩
theorem asA {f:FuncId} {u u':Value} {k2:Nat} {fO zH:List (List V)} (hcont:fO≠[]->∀ e,AC P G f [.own 0,.c u] [(0,.vec false e k2 fO)] (.c u') [(0,.vec false e k2 zH)])
  (hnil:fO=[]->zH=[]/\AC P G f [.sl false false [],.c u] [] (.c u') []) (hk2:∀ r,r∈fO->r.length=k2)
  {ρ:Nat->Option Value} {S:Nat->Prop} {F:Nat->List Nat} {H:Hp} {w:World} (hH:dI ρ S F H w) (hG:EA G S w) {i:Nat} {nn jM:Bool} {ety:Tg} {k m b:Nat} {rows:List (List V)} {row:List V}
  (hi:look H i=some (.vec nn ety k rows)) (hrow:rows[m]?=some row) (hb:row[b]?=some (.sl jM true fO)) {g n cap:Nat} (hroot:ρ i=some (.slice (some ⟨g,0,none⟩) n cap)):
  ∃ c,w.cell? ⟨g,m*k+b,none⟩=some c/\c.oneCell'=true/\Calls P f #[c,u] w fun en w'=>en=.returned u'/\∃ ρ' S' F',dI ρ' S' F' ((i,.vec nn ety k<|rows.set m<|row.set b<|.sl false true zH)::bS [i] H) w'/\
   iE S (Ub H F) w S' (Ub ((i,.vec nn ety k<|rows.set m<|row.set b<|.sl false true zH)::bS [i] H) F') w'/\Jy ρ ρ' []:=by
 obtain ⟨r0,hr0,bX⟩:=hH.obj i _ hi;rw [hroot] at hr0;cases hr0;have hnd:=hH.nodup i _ hi;have hdisj:=fun j p b' (hj:look H j=some p) (hne:i≠j) (h1:b'∈F i) (h2:b'∈F j)=>hH.gU i j _ p b' hi hj hne h1 h2;have hsep:=fun b' (h1:b'∈F i)=>hH.sep i _ b' hi h1;have hlt:=fun b' (h1:b'∈F i)=>hH.lt i _ b' hi h1;generalize gV:F i=Fi at bX hnd hdisj hsep hlt;cases bX with
 | vec g' cap' arr _ _ _ _ cc Fs hh hcap hmax Ms hk hc hrd tJ=>
  have hmn:m < rows.length:=(dw.1 hrow).1;have hbk:b < k:=by have:=(dw.1 hb).1;rw [hk m row hrow] at this;exact this
  have hcell:=hc m b row _ hrow hb;have hd:=hrd m b row _ hrow hb;have hwc:w.cell? ⟨g,m*k+b,none⟩=some (cc m b):=by rw [Ma w g (m*k+b) arr _ (0,0) hh];exact hcell
  refine ⟨cc m b,hwc,hd.one,?_⟩;have GI:∀ b',b'∈Fs m b->b'∈g::flat rows.length k Fs:=fun b' h=>nV _ (wG hmn hbk h);have zI:=nK.1 hnd;have ZK:g∉Fs m b:=fun h=>zI.1 (wG hmn hbk h);have fin:∀ (w':World) (S':Nat->Prop) (F0:List Nat),RD S' w' (cc m b) (.sl false true zH) F0->F0.Nodup->(∀ b',b'∈F0->b'∈Fs m b\/w.heap.size<=b')->(∀ b',b'∈F0-> ¬S' b')->(∀ b',b'∈F0->b' < w'.heap.size)->(∀ b',S' b'->b' < w'.heap.size)->
    w'.os=w.os->w'.tape=w.tape->w'.output=w.output->w.heap.size<=w'.heap.size->(∀ b',b' < w.heap.size->b'∉Fs m b->w'.heap[b']?=w.heap[b']?)->(∀ b',S b'->S' b')->(∀ b',S' b'->S b'\/b'∈Fs m b\/w.heap.size<=b')->
    ∃ ρ' S' F',dI ρ' S' F' ((i,.vec nn ety k<|rows.set m<|row.set b<|.sl false true zH)::bS [i] H) w'/\
     iE S (Ub H F) w S' (Ub ((i,.vec nn ety k<|rows.set m<|row.set b<|.sl false true zH)::bS [i] H) F') w'/\Jy ρ ρ' []:=by
   intro w' S' F0 asB asC JF ake asD asE hos Mj hout hsize hkeep hSS Qi;let iY:Nat->Nat->List Nat:=fun p q=>if p=m/\q=b then F0 else Fs p q
   let rows':=rows.set m (row.set b<|.sl false true zH)
   have hlen':rows'.length=rows.length:=by simp [rows']
   have hk':Keeps S w S' w':=fun b' h=>⟨hSS b' h,hkeep b' (hH.slt b' h) fun hm=>hsep b' (GI b' hm) h⟩
   have hg':w'.heap[g]?=some (.cells arr _ (0,0)):=(hkeep g (hlt g aA) ZK).trans hh;have asF:∀ p q b',p < rows.length->q < k->b'∈iY p q->b'∈Fs p q\/w.heap.size<=b':=fun p q b' _ _ h=>by
    simp only [iY] at h;split at h
    .rename_i he;obtain ⟨rfl,rfl⟩:=he;exact JF b' h
    .exact .inl h
   have akf:∀ b',b'∈flat rows.length k iY->b'∈flat rows.length k Fs\/w.heap.size<=b':=fun b' h=>by
    obtain ⟨p,q,hp,hq,h⟩:=mJ.1 h;exact (asF p q b' hp hq h).imp (wG hp hq) id
   have QD:=zD.1 zI.2;have asG:iW ρ S' w' (.slice (some ⟨g,0,none⟩) rows.length cap) (.vec nn ety k rows') (g::flat rows'.length k iY):=by
    rw [<- hlen'];refine .vec g cap arr nn ety k rows' cc iY hg' (by rw [hlen'];exact hcap) hmax Ms (fun p r hp=>?_) (fun p q r x hp hq=>?_) (fun p q r x hp hq=>?_) (by rw [hlen'];exact tJ)
    .rcases qZ hp with ⟨rfl,rfl⟩|⟨_,hp⟩
     .simp [hk _ row hrow]
     .exact hk p r hp
    .rcases qZ hp with ⟨rfl,rfl⟩|⟨_,hp⟩
     .rcases qZ hq with ⟨rfl,rfl⟩|⟨_,hq⟩
      .exact hcell
      .exact hc _ q row x hrow hq
     .exact hc p q r x hp hq
    .have hqk:q < k:=by
      have:=(dw.1 hq).1;have hl:r.length=k:=by
       rcases qZ hp with ⟨rfl,rfl⟩|⟨_,hp⟩
       .simp [hk _ row hrow]
       .exact hk p r hp
      omega
     have old:∀ x,RD S w (cc p q) x (Fs p q)->(∀ b',b'∈Fs p q->b'∉Fs m b)->p < rows.length->RD S' w' (cc p q) x (Fs p q):=fun x h hne hpn=>
      h.mono hk' fun b' hb'=>hkeep b' (hlt b'<|nV _<|wG hpn hqk hb') (hne b' hb')
     rcases qZ hp with ⟨rfl,rfl⟩|⟨hne,hp⟩
     .rcases qZ hq with ⟨rfl,rfl⟩|⟨hne,hq⟩
      .simp only [iY,and_self,iV];exact asB
      .simp only [iY,true_and,bA hne];exact old x (hrd _ q row x hrow hq) (fun b' h1 h2=>hne (QD.2 _ _ _ _ b' hmn hqk hmn hbk h1 h2).2) hmn
     .have hpn:=(dw.1 hp).1;have hpm: ¬(p=m/\q=b):=fun h=>hne h.1;simp only [iY,bA hpm];exact old x (hrd p q r x hp hq) (fun b' h1 h2=>hne (QD.2 _ _ _ _ b' hpn hqk hmn hbk h1 h2).1) hpn
   have asH:(g::flat rows'.length k iY).Nodup:=by
    rw [hlen'];refine nK.2 ⟨fun h=>?_,zD.2 ⟨fun p q hp hq=>?_,fun p q p' q' b' hp hq hp' hq' h1 h2=>?_⟩⟩
    .rcases akf g h with h|h
     .exact zI.1 h
     .have:=hlt g aA;omega
    .simp only [iY];split
     .exact asC
     .exact QD.1 p q hp hq
    .have hx:∀ p q,p < rows.length->q < k-> ¬(p=m/\q=b)->∀ b',b'∈F0->b'∈Fs p q->False:=fun p q hp hq hne b' ha hb'=>by
      rcases JF b' ha with h|h
      .exact hne (QD.2 p q m b b' hp hq hmn hbk hb' h)
      .have:=hlt b' (nV _<|wG hp hq hb');omega
     simp only [iY] at h1 h2;split at h1
     .rename_i he;split at h2
      .rename_i he2;exact ⟨he.1.trans he2.1.symm,he.2.trans he2.2.symm⟩
      .rename_i he2;exact (hx p' q' hp' hq' he2 b' h1 h2).elim
     .rename_i he;split at h2
      .exact (hx p q hp hq he b' h2 h1).elim
      .exact QD.2 p q p' q' b' hp hq hp' hq' h1 h2
   let F':Nat->List Nat:=fun j=>if j=i then g::flat rows'.length k iY else F j
   have aev:∀ b',b'∈g::flat rows'.length k iY->b'∈F i\/w.heap.size<=b':=fun b' h=>by
    rw [gV];rw [hlen'] at h;rcases gQ.1 h with rfl|h
    .exact .inl aA
    .exact (akf b' h).imp (nV _) id
   have lk:∀ j p,look ((i,.vec nn ety k rows')::bS [i] H) j=some p->(j=i/\p=.vec nn ety k rows')\/(j≠i/\look H j=some p):=fun j p hp=>by
    simp only [look,kI] at hp;split at hp
    .cases hp;exact .inl ⟨‹_›,rfl⟩
    .split at hp
     .cases hp
     .exact .inr ⟨‹_›,hp⟩
   have hold:∀ j p b',j≠i->look H j=some p->b'∈F j->b'∉Fs m b:=fun j p b' hne hp h1 h2=>hdisj j p b' hp (qW hne) (GI b' h2) h1;refine ⟨ρ,S',F',⟨fun j hj=>?_,fun j p hp=>?_,fun j p hp=>?_,fun j j' p p' b' hj hj' hne h1 h2=>?_,fun j p b' hp h1=>?_,fun j p b' hp h1=>?_,asE⟩,
    ⟨hos,Mj,hout,hsize,fun b' h1 h2=>hkeep b' h1 fun h3=>h2 ⟨i,_,hi,gV ▸ GI b' h3⟩,hSS,fun b' h=>(Qi b' h).imp id<|Or.imp (fun h=>⟨i,_,hi,gV ▸ GI b' h⟩) id,fun b' ⟨j,p,hp,h1⟩=>?_⟩,fun j r hr _=>hr⟩
   .simp only [look,kI] at hj;split at hj
    .cases hj
    .rename_i hne;split at hj
     .rename_i h;simp only [tu] at h;exact absurd h hne
     .exact hH.dom j hj
   .rcases lk j p hp with ⟨rfl,rfl⟩|⟨hne,hp⟩
    .exact ⟨_,hroot,by simp only [F',iV];exact asG⟩
    .obtain ⟨r,hr,bX⟩:=hH.obj j p hp;refine ⟨r,hr,?_⟩;simp only [F',bA hne];exact bX.mono (fun _ _ h _=>h) hk' fun b' h=>hkeep b' (hH.lt j p b' hp h) (hold j p b' hne hp h)
   .rcases lk j p hp with ⟨rfl,rfl⟩|⟨hne,hp⟩
    .simp only [F',iV];exact asH
    .simp only [F',bA hne];exact hH.nodup j p hp
   .have far:∀ j p,j≠i->look H j=some p->∀ b',b'∈F j->b'∈g::flat rows'.length k iY->False:=fun j p hne hp b' ha hb'=>by
     rcases aev b' hb' with h|h
     .exact hH.gU i j _ p b' hi hp (qW hne) h ha
     .have:=hH.lt j p b' hp ha;omega
    rcases lk j p hj with ⟨rfl,rfl⟩|⟨hn1,hp1⟩
    .rcases lk j' p' hj' with ⟨rfl,rfl⟩|⟨hn2,hp2⟩
     .exact hne rfl
     .simp only [F',iV,bA hn2] at h1 h2;exact far j' p' hn2 hp2 b' h2 h1
    .rcases lk j' p' hj' with ⟨rfl,rfl⟩|⟨hn2,hp2⟩
     .simp only [F',iV,bA hn1] at h1 h2;exact far j p hn1 hp1 b' h1 h2
     .simp only [F',bA hn1,bA hn2] at h1 h2;exact hH.gU j j' p p' b' hp1 hp2 hne h1 h2
   .rcases lk j p hp with ⟨rfl,rfl⟩|⟨hne,hp⟩
    .simp only [F',iV] at h1;rw [hlen'] at h1;intro hs;rcases Qi b' hs with h|h|h
     .rcases aev b' (by rw [hlen'];exact h1) with h'|h'
      .exact hsep b' (gV ▸ h') h
      .have:=hH.slt b' h;omega
     .rcases gQ.1 h1 with rfl|h1
      .exact ZK h
      .obtain ⟨p,q,hp,hq,h1⟩:=mJ.1 h1;simp only [iY] at h1;split at h1
       .exact ake b' h1 hs
       .rename_i hne;exact hne (QD.2 p q m b b' hp hq hmn hbk h1 h)
     .rcases gQ.1 h1 with rfl|h1
      .have:=hlt b' aA;omega
      .obtain ⟨p,q,hp,hq,h1⟩:=mJ.1 h1;simp only [iY] at h1;split at h1
       .exact ake b' h1 hs
       .have:=hlt b' (nV _<|wG hp hq h1);omega
    .simp only [F',bA hne] at h1;intro hs;rcases Qi b' hs with h|h|h
     .exact hH.sep j p b' hp h1 h
     .exact hold j p b' hne hp h1 h
     .have:=hH.lt j p b' hp h1;omega
   .rcases lk j p hp with ⟨rfl,rfl⟩|⟨hne,hp⟩
    .simp only [F',iV] at h1;rw [hlen'] at h1;rcases gQ.1 h1 with rfl|h1
     .exact uM (hlt b' aA) hsize
     .obtain ⟨p,q,hp,hq,h1⟩:=mJ.1 h1;simp only [iY] at h1;split at h1
      .exact asD b' h1
      .exact uM (hlt b'<|nV _<|wG hp hq h1) hsize
    .simp only [F',bA hne] at h1;exact uM (hH.lt j p b' hp h1) hsize
   .rcases lk j p hp with ⟨rfl,rfl⟩|⟨hne,hp⟩
    .simp only [F',iV] at h1;exact (aev b' h1).imp (fun h=>⟨_,_,hi,h⟩) id
    .simp only [F',bA hne] at h1;exact .inl ⟨j,p,hp,h1⟩
  have hsz0:(#[cc m b,u]:Array Value).size=2:=rfl;by_cases hsr:fO=[]
  .obtain ⟨hs',hac⟩:=hnil hsr;subst hsr;have hH0:dI (fun _=>none) S (fun _=>[]) [] w:=⟨fun _ _=>rfl,fun i o h=>by simp [look] at h,fun i o h=>by simp [look] at h,fun i j o p b h=>by simp [look] at h,fun i o b h=>by simp [look] at h,fun i o b h=>by simp [look] at h,hH.slt⟩
   have asI:RD S w (cc m b) (.sl false false []) []:=by
    generalize cc m b=c at hd;generalize Fs m b=F0 at hd;cases hd with
    | kG=>exact .kG false
    | exc g2 cap2 UJ ZL _ _ k3 cs2 zB UK hcap2 UL hsz2 hk3 hc2 hr2=>exact .shr ⟨g2,0,none⟩ cap2 false [] k3 cs2 (zy _) (zy _) (fun i r h=>by simp at h) (fun i j r x h=>by simp at h) (fun i j r x h=>by simp at h)
   refine (hac (fun _=>none) S (fun _=>[]) #[cc m b,u] w rfl (fun j x hx=>?_) hH0 hG).mono ?_
   .match j with
    | 0=>simp at hx;subst hx;exact asI.YX
    | 1=>simp at hx;subst hx;exact .c _
    | j+2=>simp at hx
   .rintro en w' ⟨x,ρ',S',F',rfl,hx,ER,hE,hA⟩;have ZG:∀ b,¬Ub ([]:Hp) (fun _=>[]) b:=fun b ⟨i,o,h1,_⟩=>by simp [look] at h1
    have hkp:∀ b',b' < w.heap.size->w'.heap[b']?=w.heap[b']?:=fun b' h=>hE.keep b' h (ZG b');refine ⟨by rw [hx.iw],fin w' S (Fs m b) ?_ ((zD.1 zI.2).1 m b hmn hbk) (fun b' h=>.inl h) (fun b' h=>hsep b'<|GI b' h) (fun b' h=>uM (hlt b'<|GI b' h) hE.size) (fun b' h=>uM (hH.slt b' h) hE.size) hE.os hE.tape hE.output hE.size (fun b' h _=>hkp b' h) (fun _ h=>h) fun _ h=>.inl h⟩;rw [hs'];exact (hd.mono (fun b' h=>⟨h,hkp b'<|hH.slt b' h⟩) fun b' h=>hkp b'<|hlt b'<|GI b' h).low
  .obtain ⟨e2,he2,asJ⟩:∃ e2:Tg,e2.hard=true/\iW (fun j=>if j=0 then some (cc m b) else none) S w (cc m b) (.vec false e2 k2 fO) (Fs m b):=by
    generalize cc m b=c at hd;generalize Fs m b=F0 at hd;cases hd with
    | kG=>exact absurd rfl hsr
    | exc g2 cap2 UJ ZL _ _ k3 cs2 zB UK hcap2 UL hsz2 hk3 hc2 hr2 ht2=>
     have:k3=k2:=by
      cases fO with
      | nil=>exact absurd rfl hsr
      | cons r l=>rw [<- hk3 0 r rfl,hk2 r aA]
     subst this;exact ⟨ZL,rfl,.vec g2 cap2 UJ false ZL k3 fO cs2 zB UK hcap2 UL hsz2 hk3 hc2 hr2 ⟨rfl,ht2⟩⟩
   have asK:(Fs m b).Nodup:=(zD.1 zI.2).1 m b hmn hbk;have hHc:dI (fun j=>if j=0 then some (cc m b) else none) S (fun _=>Fs m b) [(0,.vec false e2 k2 fO)] w:=by
    have l0:∀ j o,look [(0,Ob.vec false e2 k2 fO)] j=some o->j=0/\o=.vec false e2 k2 fO:=fun j o h=>by
     simp only [look] at h;split at h
     .cases h;exact ⟨‹_›,rfl⟩
     .cases h
    refine ⟨fun j hj=>?_,fun j o h=>?_,fun j o h=>asK,fun j j' o p b' h h' hne _ _=>?_,fun j o b' h h1=>hsep b'<|GI b' h1,fun j o b' h h1=>hlt b'<|GI b' h1,hH.slt⟩
    .simp only [look] at hj;split at hj
     .cases hj
     .rename_i hne;simp [hne]
    .obtain ⟨rfl,rfl⟩:=l0 j o h;exact ⟨cc m b,aA,asJ⟩
    .exact hne ((l0 j o h).1.trans (l0 j' p h').1.symm)
   refine (hcont hsr e2 _ S _ #[cc m b,u] w rfl (fun j x hx=>?_) hHc hG).mono ?_
   .match j with
    | 0=>simp at hx;subst hx;exact .own _ 0 fun r hr=>by simp at hr;simpa using hr
    | 1=>simp at hx;subst hx;exact .c _
    | j+2=>simp at hx
   .rintro en w' ⟨x,ρ',S',F',rfl,hx,ER,hE,hA⟩;have hl0:look [(0,Ob.vec false e2 k2 zH)] 0=some (.vec false e2 k2 zH):=rfl;obtain ⟨r1,hr1,aek⟩:=ER.obj 0 _ hl0;have asL:r1=cc m b:=by
     have:=hA 0 r1 ah hr1;simpa using this.symm
    subst asL;have hU:∀ b',Ub [(0,Ob.vec false e2 k2 fO)] (fun _=>Fs m b) b'->b'∈Fs m b:=fun b' ⟨_,_,_,h⟩=>h;refine ⟨by rw [hx.iw],fin w' S' (F' 0) (aek.adw he2) (ER.nodup 0 _ hl0) (fun b' h=>(hE.qX b' ⟨0,_,hl0,h⟩).imp (hU b') id) (fun b' h=>ER.sep 0 _ b' hl0 h) (fun b' h=>ER.lt 0 _ b' hl0 h) ER.slt hE.os hE.tape hE.output hE.size (fun b' h h2=>hE.keep b' h fun h3=>h2<|hU b' h3) hE.sub fun b' h=>(hE.newS b' h).imp id<|Or.imp (hU b') id⟩
theorem CO.nest {D:Tab} (hD:dG P D) {id:Nat} {l:List Oper} (pre post:List Oper) {oL oM oC:Oper} (hl:l=pre++oL::oM::oC::post) {T:List V} {H0:Hp} {Q:Exit->St->Prop} (T1:List V) (H:Hp)
  (hpre:mM P G l.toArray pre ⟨T,H0⟩ fun st=>Weak st ⟨T1,H⟩)
  {tL:TypeId} {p dl s dm dc i k m b:Nat} {u:Value} (gL:oL.guard=none) (opL:oL.op=.load tL (.tmp p)) (dL:oL.dst=some dl) (gM:oM.guard=none) (opM:oM.op=.move (.tmp s)) (dM:oM.dst=some dm)
  {f:FuncId} {ats:Array TypeId} (gC:oC.guard=none) (opC:oC.op=.call {callee:=.value (.func f),args:=#[.tmp dl,.tmp dm],argTypes:=ats}) (dC:oC.dst=some dc) (hcf:uQ P f)
  {it:Ty} (ht:D.at tL=some it) (hag:it.d.agg=false) (hdl:dl < T1.length) (hdm:dm < T1.length) (hne:dl≠dm) (hsl:s≠dl)
  (hp:T1[p]?=some (.vp i k m b)) (hs:T1[s]?=some (.c u))
  {nn jM:Bool} {ety:Tg} {rows:List (List V)} {row:List V} (hi:look H i=some (.vec nn ety k rows)) (hrow:rows[m]?=some row) {fO zH:List (List V)} (hb:row[b]?=some (.sl jM true fO))
  {u':Value} {k2:Nat} (hcont:fO≠[]->∀ e,AC P G f [.own 0,.c u] [(0,.vec false e k2 fO)] (.c u') [(0,.vec false e k2 zH)])
  (hnil:fO=[]->zH=[]/\AC P G f [.sl false false [],.c u] [] (.c u') []) (hk2:∀ r,r∈fO->r.length=k2)
  (hpost:mM P G l.toArray post ⟨((T1.set dl .junk).set dm<|.c u).set dc<|.c u',(i,.vec nn ety k<|rows.set m<|row.set b<|.sl false true zH)::bS [i] H⟩ (Q .normal)):
  CO L P G (.region id l.toArray false) ⟨T,H0⟩ Q:=by
 intro B ρ S F a w R hst hn;refine LY ?_;have hgo:wpListIn (uN L) 0 P l.toArray R (pre++oL::oM::oC::post) a w:=by
  refine akd pre hpre hst fun st1 h1=>?_;intro EL S0 F0 a1 w1 asN hE0 hA0;obtain ⟨dJ,S1,F1,oG,asO,asP⟩:=h1 _ G EL S0 F0 a1 w1 asN;have hE1:=hE0.trans asO;have hA1:=hA0.trans asP;have hvp:=oG.tmps p _ hp;obtain ⟨r0,hr0,bX⟩:=oG.heap.obj i _ hi;obtain ⟨g,n,cap,e1,e2⟩:=hvp.Zg r0 hr0;subst e1;obtain ⟨c,hcell,hone,asQ⟩:=asA hcont hnil hk2 oG.heap oG.glob hi hrow hb hr0;have hz:=oG.size;simp only at hz;have hload:(execOp a1.eval oL).run P w1=.ok (.value c) w1:=by
   unfold execOp;have hv:a1.eval (.tmp p)=.pointer (some ⟨g,m*k+b,none⟩):=e2;simp only [opL,hv];have hpart:(loadVar tL ⟨g,m*k+b,none⟩).run P w1=.ok c w1:=by
    simp only [loadVar,fC,(hD _ _ ht).isAgg w1,fM,hag];simp [hcell]
   simp [Instr.loadAt,Instr.sureAddr,hpart]
  unfold wpListIn;rw [bQ<|by simp [Region.wanted,gL]];refine ⟨fun _ _=>trivial,?_⟩;rw [Qb _ _ _ (by intro c h;rw [opL] at h;cases h),hload,adb];unfold wpListIn;rw [bQ<|by simp [Region.wanted,gM]];have hs1:(a1.put oL.dst c).eval (.tmp s)=u:=by
   have:=(oG.tmps s _ hs).iw;simp only [Act.eval,dL,Act.put];rw [Da (by rw [hz];exact (dw.1 hs).1),bA hsl];exact this
  have asR:(execOp (a1.put oL.dst c).eval oM).run P w1=.ok (.value u) w1:=by
   unfold execOp;simp only [opM,hs1,jL,fC,fM]
  refine ⟨fun _ _=>trivial,?_⟩;rw [Qb _ _ _ (by intro c h;rw [opM] at h;cases h),asR,adb];unfold wpListIn;rw [bQ<|by simp [Region.wanted,gC]];generalize ha3:((a1.put oL.dst c).put oM.dst u)=a3;have ht3:a3.tmps=(a1.tmps.setIfInBounds dl c).setIfInBounds dm u:=by rw [<- ha3];simp [dL,dM,Act.put]
  have hd3:a3.defers=a1.defers:=by rw [<- ha3];simp [dL,dM,Act.put]
  have hv1:a3.eval (.tmp dl)=c:=by
   simp only [Act.eval,ht3];rw [Da (by simp [hz,hdl]),bA hne,Da (by rw [hz];exact hdl),bQ rfl]
  have hv2:a3.eval (.tmp dm)=u:=by
   simp only [Act.eval,ht3];rw [Da (by simp [hz,hdm]),bQ rfl]
  have hcall:(execOp a3.eval oC).run P w1=.ok (.enter f #[c,u]) w1:=by
   unfold execOp;have xG:a3.eval (.func f)=.func (.func f) #[] #[]:=rfl;simp only [opC,resolve,xG,Deferred.ofValue,fC,jL,fM,invoke,PZ,Array.append_empty,List.map_toArray,jS,tC,hv1,hv2];exact hcf #[c,u] w1
  refine ⟨fun _ _=>trivial,?_⟩;rw [Qb _ _ _ (by intro c h;rw [opC] at h;cases h),hcall,Oper.uponIn_enter];refine ⟨fun h=>(by cases h),?_⟩;refine ado (Ug.2 asQ:CallsIn Fence.wide 0 P _ _ _ _) ?_;rintro en w' ⟨rfl,kH,S2,F2,hH2,hE2,hA2⟩;simp only;refine akd (B:=B) (rest:=[]) post hpost (ρ:=kH) (S:=S2) (F:=F2) ?_ (fun st' h'=>?_) |> fun h=>by simpa using h
  .have hkp:=oG.heap.keeps hE2;refine ⟨by simp only [dC,Act.put,hd3];exact oG.defers.Gu oG.heap hE2,by simp [dC,Act.put,ht3,hz],fun j x hx=>?_,hH2,oG.glob.mono hkp⟩;have hold:∀ j x,T1[j]?=some x->RV kH S2 w' (a1.tmps.getD j undef) x:=fun j x h=>(oG.tmps j x h).mono (fun i r hi _=>hA2 i r hi aA) hkp;have hjT:j < T1.length:=by have:=(dw.1 hx).1;simpa using this
   simp only [dC,Act.put,ht3];rw [Da<|by simp [hz,hjT]];rcases qZ hx with ⟨rfl,rfl⟩|⟨h1,hx⟩
   .rw [bQ rfl];exact .c _
   .rw [bA h1,Da<|by simp [hz,hjT]];rcases qZ hx with ⟨rfl,rfl⟩|⟨h2,hx⟩
    .rw [bQ rfl];exact .c _
    .rw [bA h2,Da<|by rw [hz];exact hjT];rcases qZ hx with ⟨rfl,rfl⟩|⟨h3,hx⟩
     .rw [bQ rfl];exact .junk _
     .rw [bA h3];exact hold j x hx
  .intro AL S3 F3 a4 w4 ZM hE4 hA4;exact hn .normal st' h' AL S3 F3 a4 w4 ZM (hE1.trans<|hE2.trans hE4) (hA1.trans<|lX.trans (fun j r _ hr=>hA2 j r hr aA) hA4)
 rw [hl] at hgo ⊢;exact hgo
end
end Go.Av
namespace Go.Av
def wrap64 {n:Int} (h1: -9223372036854775808<=n) (h2:n<=9223372036854775807):IntKind.wrap .i64 n=n:=by
 rw [adg];omega
def dx {α:Type} {l:List α} {i:Nat} (h:i < l.length):ix l (i:Int)=some l[i]:=by
 unfold ix;rw [bQ<|Jp i,BA,eZ h]
def aey {α:Type} {l:List α} {i:Nat} {x:α} (h:l[i]?=some x):ix l (i:Int)=some x:=by
 unfold ix;rw [bQ<|Jp i,BA,h]
def aez {α:Type} {l:List α} {i:Nat} {x:α} (h:i < l.length):upd l (i:Int) x=some (l.set i x):=by
 unfold upd;rw [bQ ⟨Jp i,by simpa using h⟩,BA]
def MB {i n:Nat} (h:i < n) (hn:n<=maxLen):IntKind.wrap .i64 ((i:Int)+1)=((i+1:Nat):Int):=by
 simp only [maxLen] at hn;rw [wrap64 ah ah];omega
def akj {α:Type} {l:List α} {a b:Nat} (h:a<=b) (hb:b<=l.length):cut l (a:Int) (b:Int)=some ((l.drop a).take<|b - a):=by
 unfold cut;rw [bQ ⟨Jp a,ah,ah⟩];simp
def pG {α:Type} {n:Nat} {l l2:List α} (h:(l.length+l2.length)*n<=140737488355328):app n l l2=some (l++l2):=by
 unfold app;rw [bQ h]
def asT {a b:List UInt8} (h:a.length+b.length<=maxLen):cat a b=some (a++b):=by
 unfold cat
 rw [bQ h]
def asU {α:Type} {n:Nat} {z:α} {i:Nat} (h:n*i<=281474976710656) (h2:i<=maxLen):mk n z (i:Int)=some (List.replicate i z):=by
 unfold mk;rw [bQ ⟨Jp i,by simpa using h,by simpa using h2⟩,BA]
def iT {i n:Nat} (h:i < n):decide ((i:Int) < (n:Int))=true:=by simp [h]
def jZ {i n:Nat} (h: ¬i < n):decide ((i:Int) < (n:Int))=false:=bF
def drop_cons {α:Type} {l:List α} {i:Nat} (h:i < l.length):l.drop i=l[i]::l.drop (i+1):=Jj h
def drop_nil {α:Type} {l:List α} {i:Nat} (h: ¬i < l.length):l.drop i=[]:=Gf ah
def ZN {α:Type} (f:α->Int->Option Int):Nat->(List α×Int×Int)->Option Int
 | 0,_=>none
 | n+1,(a,b,i)=>bif decide (i < (a.length:Int)) then Option.bind (ix a i) fun e=>Option.bind (f e b) fun r=>bif decide (r < 0) then some (-1) else ZN f n (a,r,IntKind.wrap .i64<|i+1) else some b
def Sz (f:Int->Option Int) (s:Nat):Prop:=∀ b:Int,0<=b->b<=1048576->∃ r,f b=some r/\((r < 0/\b < s)\/r=b - s/\0<=r)
def MC {α:Type} (sz:α->Nat) (l:List α):Nat:=(l.map sz).sum
def asV {α:Type} (f:α->Int->Option Int) (sz:α->Nat) (a:List α) (hf:∀ x,x∈a->Sz (f x) (sz x)) (hl:a.length<=maxLen):∀ (n i:Nat) (b:Int),a.length - i < n->i<=a.length->0<=b->b<=1048576->
  ∃ r,ZN f n (a,b,(i:Int))=some r/\((r < 0/\b < MC sz (a.drop i))\/r=b - MC sz (a.drop i)/\0<=r):=by
 intro n;induction n with
 | zero=>intro i b h;omega
 | succ n ih=>
  intro i b hn hi h0 h1;rw [ZN];by_cases h:i < a.length
  .obtain ⟨r,hr,hc⟩:=hf _ (nW h) b h0 h1;have hs:MC sz (a.drop i)=sz a[i]+MC sz (a.drop<|i+1):=by rw [drop_cons h];simp only [MC,jS,YP]
   simp only [iT h,aM,dx h,aB,hr,MB h hl];rcases hc with ⟨hc,hb⟩|⟨hc,hr0⟩
   .exact ⟨-1,by simp [hc],.inl ⟨ah,ah⟩⟩
   .obtain ⟨r',hr',hc'⟩:=ih (i+1) r ah ah hr0 ah;have hd:decide (r < 0)=false:=bF;refine ⟨r',by rw [hd];exact hr',?_⟩;rcases hc' with ⟨h2,h3⟩|⟨h2,h3⟩
    .exact .inl ⟨h2,ah⟩
    .exact .inr ⟨ah,h3⟩
  .simp only [jZ h,aI];exact ⟨b,rfl,.inr ⟨by rw [drop_nil h];simp [MC],h0⟩⟩
def aGM {α:Type} {f:α->Int->Option Int} {sz:α->Nat} {a:List α} (hf:∀ x,x∈a->Sz (f x) (sz x)) (hl:a.length<=maxLen) {g:Nat->Int->Option Int} {n:Nat} (hn:a.length < n)
  (hg:∀ b,g n b=bif decide (IntKind.wrap .i64 (b - (a.length:Int)) < 0) then some (-1) else ZN f n (a,IntKind.wrap .i64<|b - (a.length:Int),0)):Sz (g n) (a.length+MC sz a):=by
 intro b h0 h1;have hl':=hl;simp only [maxLen] at hl';rw [hg,wrap64 ah ah];by_cases h:b - (a.length:Int) < 0
 .exact ⟨-1,by simp [h],.inl ⟨ah,ah⟩⟩
 .obtain ⟨r,hr,hc⟩:=asV f sz a hf hl n 0 (b - a.length) ah ah ah ah;refine ⟨r,by simp only [h,Gt,aI];exact hr,?_⟩;rw [Js] at hc;rcases hc with ⟨h2,h3⟩|⟨h2,h3⟩
  .exact .inl ⟨h2,ah⟩
  .exact .inr ⟨ah,h3⟩
end Go.Av
namespace Go.Av
def asW {α:Type} {l:List α} {j:Nat} (h:j < l.length):(l.take<|j+1).reverse=l[j]::(l.take j).reverse:=by
 rw [YI,eZ h];simp
def asX (j:Nat):decide ((j:Int)>=0)=true:=aA
def asY (j:Nat):((j+1:Nat):Int) - 1=(j:Int):=ah
def walk (out:List Int):Int->List Int->Option Int
 | a,[]=>some a
 | a,k::ks=>if a=0\/k≠a - 1 then none else match out[(a - 1).toNat]? with
  | some b=>walk out b ks
  | none=>none
def starts:List (List Int)->List Int->Option (List Int)
 | [],out=>some out
 | ks::l,out=>(walk out (out.length:Int) ks.reverse).bind fun s=>starts l (out++[s])
def Kids (out:List Int):Int->Int->List Int->Prop
 | a,b,[]=>a=b
 | a,b,k::ks=>0<=a/\a<=k/\k < b/\out[k.toNat]?=some a/\Kids out (k+1) b ks
def Low (out:List Int):Prop:=∀ (j:Nat) (s:Int),out[j]?=some s->0<=s/\s<=j
def Low.snoc {out:List Int} (h:Low out) {s:Int} (h0:0<=s) (h1:s<=out.length):Low (out++[s]):=by
 intro j x hx;rw [List.getElem?_append] at hx;split at hx
 .exact h j x hx
 .rename_i hj;have:j - out.length=0:=by
   have:=(dw.1 hx).1;simp at this;omega
  rw [this] at hx;cases hx;omega
def Kids.snoc {out:List Int}:∀ {ks:List Int} {a m:Int},Kids out a m ks->∀ {k b:Int},0<=m->m<=k->k < b->k+1=b->out[k.toNat]?=some m->Kids out a b (ks++[k])
 | [],a,m,h,k,b,h0,h1,h2,h3,h4=>by
  simp only [Kids] at h;subst h;exact ⟨h0,h1,h2,h4,h3⟩
 | k'::ks,a,m,h,k,b,h0,h1,h2,h3,h4=>by
  obtain ⟨g0,g1,g2,g3,g4⟩:=h;exact ⟨g0,g1,ah,g3,Kids.snoc g4 h0 h1 h2 h3 h4⟩
def ZO {out:List Int} (hl:Low out):∀ (ks:List Int) {b a:Int},0<=b->walk out b ks=some a->0<=a/\a<=b
 | [],b,a,h0,h=>by cases h;omega
 | k::ks,b,a,h0,h=>by
  unfold walk at h;split at h
  .cases h
  .rename_i hc;split at h
   .rename_i m hm;have:=hl _ _ hm;have:=ZO hl ks this.1 h;omega
   .cases h
def akk {out:List Int} (hl:Low out):∀ (r:List Int) {b a:Int},0<=b->walk out b r=some a->Kids out a b r.reverse
 | [],b,a,h0,h=>by cases h;rfl
 | k::r,b,a,h0,h=>by
  unfold walk at h;split at h
  .cases h
  .rename_i hc;split at h
   .rename_i m hm;have h1:=hl _ _ hm;have h2:k=b - 1:=by
     cases Classical.em (k=b - 1) with
     | inl h=>exact h
     | inr h=>exact absurd (.inr h) hc
    have h3:b≠0:=fun h=>hc (.inl h);rw [List.reverse_cons];have hm':out[k.toNat]?=some m:=by rw [h2];exact hm
    exact (akk hl r h1.1 h).snoc h1.1 ah ah ah hm'
   .cases h
def Kids.more {out:List Int} (akl:List Int):∀ {ks:List Int} {a b:Int},Kids out a b ks->Kids (out++akl) a b ks
 | [],_,_,h=>h
 | k::ks,a,b,⟨h0,h1,h2,h3,h4⟩=>⟨h0,h1,h2,by rw [qR (dw.1 h3).1];exact h3,h4.more akl⟩
def aeA:∀ (l:List (List Int)) {out r:List Int},Low out->starts l out=some r->(∃ m,r=out++m/\m.length=l.length)/\Low r/\
  ∀ (j:Nat) (ks:List Int),l[j]?=some ks->∃ s,r[out.length+j]?=some s/\Kids r s ((out.length+j:Nat):Int) ks
 | [],out,r,hl,h=>by
  cases h;exact ⟨⟨[],aA,rfl⟩,hl,fun j ks h=>by simp at h⟩
 | ks::l,out,r,hl,h=>by
  unfold starts at h;obtain ⟨s,hs,h⟩:=qc.1 h;have h1:=ZO hl _ (Jp _) hs;have hl2:=hl.snoc h1.1 h1.2;obtain ⟨⟨m,hm,hml⟩,hlr,hk⟩:=aeA l hl2 h;refine ⟨⟨s::m,by rw [hm];simp,by simp [hml]⟩,hlr,fun j ks' hj=>?_⟩;cases j with
  | zero=>
   simp only [Jl,iQ] at hj;subst hj;refine ⟨s,by rw [hm];simp,?_⟩;have:=akk hl _ (Jp _) hs;rw [List.reverse_reverse] at this;rw [hm,nU,EF];exact this.more _
  | succ j=>
   simp only [LP] at hj;obtain ⟨s',hs',hk'⟩:=hk j ks' hj;have e:(out++[s]).length+j=out.length+(j+1):=bF;rw [e] at hs' hk';exact ⟨s',hs',hk'⟩
def Kids.lt {out:List Int}:∀ {ks:List Int} {a b:Int},Kids out a b ks->∀ k,k∈ks->a<=k/\0<=k/\k < b
 | [],_,_,_,k,hk=>by cases hk
 | k'::ks,a,b,⟨h0,h1,h2,_,h4⟩,k,hk=>by
  rcases gQ.1 hk with rfl|hk
  .omega
  .have:=h4.lt k hk;omega
def Kids.le {out:List Int}:∀ {ks:List Int} {a b:Int},Kids out a b ks->a<=b
 | [],_,_,h=>by simp only [Kids] at h;omega
 | k'::ks,a,b,⟨h0,h1,h2,_,h4⟩=>by have:=h4.le;omega
end Go.Av
namespace Go.Av
open Go
variable {P:Program} {G:Nat->Option (List V)}
theorem fT.imp {o:Oper} {e:Operand->V} {H:Hp} {v v':V} (h:fT P G o e H v H []) (hv:∀ ρ S w x,RV ρ S w x v->RV ρ S w x v'):fT P G o e H v' H []:=by
 intro ρ S F η w bP hH hG;refine (h ρ S F η w bP hH hG).mono ?_;rintro x w' ⟨ρ',S',F',h1,h2,h3,h4⟩;exact ⟨ρ',S',F',hv _ _ _ _ h1,h2,h3,h4⟩
theorem RV.asZ {ρ:Nat->Option Value} {S:Nat->Prop} {w:World} {v:Value} {cells:List V} {x:V} (h:RV ρ S w v (.el cells)) (hx:cells[0]?=some x):RV ρ S w v (.el [x]):=by
 obtain ⟨a,cs,rfl,h1,h2⟩:=h.aiY;refine .el a [x] cs (fun j y hy=>?_) (fun j y hy=>?_);all_goals
  cases j with
  | zero=>
   simp only [Jl,iQ] at hy;subst hy;first
    | exact h1 0 x hx
    | exact h2 0 x hx
  | succ j=>simp at hy
theorem RV.ata {ρ:Nat->Option Value} {S:Nat->Prop} {w:World} {v:Value} {nn x:Bool} {rows:List (List V)} (h:RV ρ S w v (.sl nn x rows)):RV ρ S w v (.sl false x rows):=by
 cases h with
 | sl _ _ _ _ h=>
  refine .sl _ _ _ _ ?_;generalize hF:([]:List Nat)=F at h;cases h with
  | kG=>exact .kG _
  | shr a cap nn rows k cs h1 h2 h3 h4 h5=>exact .shr a cap _ rows k cs h1 h2 h3 h4 h5
  | exc=>cases hF
theorem AC.mono {G G':Nat->Option (List V)} {f:FuncId} {vs:List V} {H:Hp} {r:V} {H1:Hp} (h:AC P G f vs H r H1) (hs:∀ g cs,G g=some cs->G' g=some cs):AC P G' f vs H r H1:=
 fun ρ S F xs w a b c d=>h ρ S F xs w a b c fun g cs hg=>d g cs (hs g cs hg)
def UM (D:Tab) (G:Nat->Option (List V)) (ops:Array Oper) (i:Nat) (T:List V):Option (List V×Int×Nat):=
 match nk ops i T with
 | some (.indexAddr t x ix)=>match D.at t,ev G T x,ev G T ix with
  | some it,.el cs,.c (.int _ n)=>match it.d with
   | .arr len el=>match D.at el with
    | some ie=>if ie.size=1 then some (cs,n,len) else none
    | none=>none
   | _=>none
  | _,_,_=>none
 | _=>none
theorem W.UM {D:Tab} (hD:dG P D) {ops:Array Oper} {draw:Bool} {T0:List V} {H0:Hp} {i:Nat} {T:List V} {H:Hp} {Es:List (Bool×Eff)} {Q:St->Prop} {α:Type} (enc:α->V) {l:List α} {n:Int} {x:α} (hx:ix l n=some x)
  (h:UM D G ops i T=some (l.map enc,n,l.length))
  (k:W P G ops draw T0 H0 (i+1) (eU T (iX ops i)<|.el [enc x]) H (Es++[(true,{v:=.el [enc x]})]) Q):W P G ops draw T0 H0 i T H Es Q:=by
 obtain ⟨h1,h2⟩:=EO hx;unfold Av.UM at h;split at h
 .rename_i t xo io hop;split at h
  .rename_i it cs kk n' ht hxv hiv;split at h
   .rename_i len el hit;split at h
    .rename_i ie hel;split at h
     .rename_i hs;simp only [iQ,nY] at h;obtain ⟨rfl,rfl,rfl⟩:=h;refine zF (.el [enc x]) [] hop (fun o ho e' H' he _=>?_) k;have hev:=(he xo fU).trans hxv;refine fT.imp (arw (v:=.el ((l.map enc).drop n'.toNat)) hD n'.toNat ho ht hit hel ?_ ((he io fU).trans hiv) h1 (dw.1 h2).1) fun ρ S w y hy=>hy.asZ ?_
      .rw [hev,hs,YT];rfl
      .rw [CW,EF,gD,h2];rfl
     .cases h
    .cases h
   .cases h
  .cases h
 .cases h
def UN (D:Tab) (G:Nat->Option (List V)) (ops:Array Oper) (i:Nat) (T:List V):Option (List V):=
 match nk ops i T with
 | some (.slice t x none none none)=>match D.at t,ev G T x with
  | some it,.el cs=>match it.d with
   | .arr len el=>match D.at el with
    | some ie=>if ie.size=1/\cs.length=len/\len<=maxLen then some cs else none
    | none=>none
   | _=>none
  | _,_=>none
 | _=>none
theorem W.UN {D:Tab} (hD:dG P D) {ops:Array Oper} {draw:Bool} {T0:List V} {H0:Hp} {i:Nat} {T:List V} {H:Hp} {Es:List (Bool×Eff)} {Q:St->Prop} {α:Type} (enc:α->V) (l:List α)
  (h:UN D G ops i T=some (l.map enc))
  (k:W P G ops draw T0 H0 (i+1) (eU T (iX ops i)<|.sl false false<|l.map fun x=>[enc x]) H (Es++[(true,{v:=.sl false false (l.map fun x=>[enc x])})]) Q):W P G ops draw T0 H0 i T H Es Q:=by
 unfold Av.UN at h;split at h
 .rename_i t xo hop;split at h
  .rename_i it cs ht hxv;split at h
   .rename_i len el hit;split at h
    .rename_i ie hel;split at h
     .rename_i hs;simp only [iQ] at h;subst h;refine zF (.sl false false _) [] hop (fun o ho e' H' he _=>?_) k;have hev:=(he xo fU).trans hxv;have:=arB (G:=G) (P:=P) (H:=H') hD ho ht hit hel hs.1 hev hs.2.1 hs.2.2;rw [Jt] at this;exact fT.imp this fun ρ S w y hy=>hy.ata
     .cases h
    .cases h
   .cases h
  .cases h
 .cases h
end Go.Av
namespace Go.Av
open Go.RowKit Go.WideShapes Go.ChangeShapes
variable {P:Program} {G:Nat->Option (List V)}
theorem aqx {f:FuncId} {vs:List V} {r:V} (h:AC P G f vs [] r []) (S:Nat->Prop) {xs:Array Value} {w:World} (hS:∀ b,S b->b < w.heap.size) (hG:EA G S w) (hsz:xs.size=vs.length)
  (hxs:∀ i x,vs[i]?=some x->RV (fun _=>none) S w (xs.getD i undef) x):
  Calls P f xs w fun e w'=>∃ x S',e=.returned x/\RV (fun _=>none) S' w' x r/\Below w.heap.size w w':=by
 refine (h (fun _=>none) S (fun _=>[]) xs w hsz hxs ⟨fun _ _=>rfl,fun _ _ h=>(by cases h),fun _ _ h=>(by cases h),fun _ _ _ _ _ h=>(by cases h),fun _ _ _ h=>(by cases h),fun _ _ _ h=>(by cases h),hS⟩ hG).mono ?_;rintro e w' ⟨x,ρ',S',F',rfl,hx,_,hE,_⟩;refine ⟨x,S',rfl,hx.mono (fun _ _ h _=>(by cases h)) fun b hb=>⟨hb,rfl⟩,hE.os,hE.tape,hE.output,hE.size,fun k hk=>hE.keep k hk ?_⟩;rintro ⟨i,o,hi,_⟩;cases hi
def strCells (l:List (List UInt8)):Array Value:=(l.map fun s=>Value.string ⟨⟨s⟩⟩).toArray
theorem acL {H:Type} {enc:TypeId×Value->H} {w:World} {base:Nat} {sp:Nat->Bool} {held:Bool} {fuel:Nat} {t el:TypeId} {n:Nat} {cs:Array Value} {l:List (List UInt8)} {p:List MemPlace}
  (h:DataW.trod enc P w base sp held fuel t cs.toList=some (.agg<|l.map fun s=>.lit<|.string s,p)) (ht:P.underlying t=some (.array n el)) (hel:P.underlying el=some .string) (h1:P.cellsOf el=1) (hn:P.cellsOf t=n):cs=strCells l:=by
 obtain ⟨xs,m,_,ex,hlen,hl,he⟩:=DataW.trod_array ht h;rw [hn] at hlen;simp only [nY,DataW.agg.injEq] at ex;obtain ⟨e1,_⟩:=ex;have hll:l.length=n:=by
  have:=congrArg List.length e1;simp only [ED] at this;omega
 unfold strCells;have hcs:cs.size=n:=by simpa using hlen
 apply Array.ext
 .simp [hcs,hll]
 .intro i hi _;have hin:i < n:=ah;have hx:=he i hin;rw [h1,YT] at hx;have hdrop:(cs.toList.drop i).take 1=[cs[i]]:=by
   rw [Jj<|by simpa using hi];simp
  rw [hdrop] at hx;have hxs:xs[i]?=some xs[i]:=eZ ah;rw [hxs] at hx;obtain ⟨s,hs,hxi,_⟩:=DataW.trod_string hel hx;simp only [List.cons.injEq,and_true] at hs;have e2:(l.map fun s=>(DataW.lit (.string s):DataW H))[i]?=(xs.map (·.1))[i]?:=by rw [e1]
  rw [gD,gD,hxs,Jq,hxi,eZ ah,Jq] at e2;simp only [iQ,DataW.lit.injEq,Lit.string.injEq] at e2;rw [hs];simp only [List.getElem_toArray,List.getElem_map,e2]
theorem atb {w:World} {S:Nat->Prop} {name:String} {g:Nat} {l:List (List UInt8)} (hg:P.globalNamed name=some g) (hv:w.var? P name=some (strCells l)) (hS:S g):RV (fun _=>none) S w (.pointer<|some ⟨g,0,none⟩) (.el<|l.map V.s):=by
 refine .el ⟨g,0,none⟩ _ (fun j=>(strCells l).getD j undef) (fun j x hx=>⟨hS,?_⟩) (fun j x hx=>?_);all_goals
  rw [gD,dZ] at hx;obtain ⟨s,hs,rfl⟩:=hx;have hj:j < l.length:=(dw.1 hs).1;have hc:(strCells l)[j]?=some (Value.string ⟨⟨s⟩⟩):=by
   unfold strCells;rw [Jk,gD,hs];rfl
  have hd:(strCells l).getD j undef=Value.string ⟨⟨s⟩⟩:=by
   rw [mF,hc];rfl
  rw [hd]
 .have:=World.var?_cell hg hv j;rw [hc] at this;have e:Addr.add ⟨g,0,none⟩ j=⟨g,j,none⟩:=by
   unfold Addr.add;split<;>simp_all
  rw [e];exact this
 .exact .c _ rfl
theorem YC {w:World} {name:String} {g:Nat} {cs:Array Value} (hg:P.globalNamed name=some g) (hv:w.var? P name=some cs):g < w.heap.size:=by
 unfold World.var? at hv;rw [hg] at hv;simp only [aB] at hv;cases hh:w.heap[g]? with
 | none=>rw [hh] at hv;cases hv
 | some o=>exact (qQ.1 hh).1
theorem aiC {H:Type} {enc:TypeId×Value->H} (hl:laidOutB P=true) {W W':World} (hb:Below W.heap.size W W') {sp:Nat->Bool}:
  ∀ {ns:List String} {gs:List (DataW H)} {ps:List MemPlace},varsRowed P ns=true->DataW.TrodVars enc P W (fun _=>true) ns gs ps->(∀ p,p∈ps->sp p.block=true)->DataW.TrodVars enc P W' sp ns gs ps
 | [],[],_,_,h,_=>h
 | [],_::_,_,_,h,_=>h.elim
 | _::_,[],_,_,h,_=>h.elim
 | n::ns,d::ds,ps,hv,h,hs=>by
  have hlt:=h.lt;obtain ⟨g,t,cs,fuel,p,q,h1,h2,h3,h4,h5,e⟩:=h;have hg:=YC h1 h3;have ht:P.readableRec t=true/\t < P.types.size:=by
   simp only [varsRowed,CZ,dP] at hv;obtain ⟨gl,hgl,rfl⟩:=dZ.1 h2;have:=hv.1;simpa [h1,hgl] using this
  have hp:∀ x,x∈p->x∈ps:=fun x hx=>by rw [e];simp [hx]
  have h3':W'.var? P n=some cs:=by
   unfold World.var? at h3 ⊢;rw [h1] at h3 ⊢;simp only [aB] at h3 ⊢;rw [hb.block g hg];exact h3
  refine ⟨g,t,cs,fuel,p,q,h1,h2,h3',DataW.trod_stays (kids_book hl ht.1) (book_sized ht.1) (fun h=>by cases h) ⟨ht.2,book_self t⟩ h4 (fun x hx=>hb.same<|hlt x<|hp x hx) fun x hx=>hs x<|hp x hx,?_,e⟩;exact aiC hl hb (by simp only [varsRowed,CZ,dP] at hv;exact hv.2) h5 fun x hx=>hs x (by rw [e];simp [hx])
theorem aix {H:Type} {enc:TypeId×Value->H} {W:World} {sp:Nat->Bool}:∀ {ns:List String} {gs:List (DataW H)} {ps:List MemPlace},DataW.TrodVars enc P W sp ns gs ps->gs.length=ns.length
 | [],[],_,_=>rfl
 | [],_::_,_,h=>h.elim
 | _::_,[],_,h=>h.elim
 | n::ns,d::ds,ps,⟨_,_,_,_,_,_,_,_,_,_,h,_⟩=>congrArg (·+1) (aix h)
theorem atc {w:World} {name:String} {g:Nat} {arr:Array Value} (hg:P.globalNamed name=some g) (hv:w.var? P name=some arr):∃ ety fr,w.heap[g]?=some (.cells arr ety fr):=by
 unfold World.var? at hv;rw [hg,aB] at hv;split at hv
 .rename_i cs ety fr h;cases hv;exact ⟨ety,fr,h⟩
 .cases hv
theorem acM {w:World} {S:Nat->Prop} {name:String} {g:Nat} {l:List (List UInt8)} (hg:P.globalNamed name=some g) (hv:w.var? P name=some (strCells l)) (hS:S g):
  RV (fun _=>none) S w (.pointer<|some ⟨g,0,none⟩) (.el<|l.map V.s)/\∃ arr ety fr,w.heap[g]?=some (.cells arr ety fr)/\arr.size=(l.map V.s).length/\S g:=by
 obtain ⟨ety,fr,h⟩:=atc hg hv;exact ⟨atb hg hv hS,_,ety,fr,h,by simp [strCells],hS⟩
end Go.Av
namespace Go.Av
open Go
variable {P:Program} {G:Nat->Option (List V)}
theorem eqGuard_at_slice (P:Program) (w:World) (op:BinOp) (t:TypeId) (x y:Operand) (a b:Option Addr) (n c n' c':Nat):(eqGuard op t x y (.slice a n c)<|.slice b n' c').run P w=.ok () w:=by
 unfold eqGuard;cases op<;>rfl
theorem atd {P:Program} {t el:TypeId} (hu:P.underlying t=some (.slice el)) (w:World) (a:Option Addr) (n c:Nat):(Op.equal t (.slice a n c)<|.slice none 0 0).run P w=.ok a.isNone w:=by
 unfold Op.equal;obtain ⟨k,hk⟩:∃ k,Op.maxDepth=k+1:=⟨_,rfl⟩
 rw [hk,Op.equalIn];simp only [fC,lV hu,fM];cases a<;>rfl
theorem aeB {P:Program} {t el:TypeId} (hu:P.underlying t=some (.slice el)) (w:World) (a:Option Addr) (n c:Nat):(binOp .eql t (.slice a n c)<|.slice none 0 0).run P w=.ok (.bool a.isNone) w:=by
 show (Op.equal t (.slice a n c) (.slice none 0 0) >>=fun b=>pure<|Value.bool b).run P w=_;simp only [fC,atd hu,fM,jL]
theorem ate {D:Tab} (hD:dG P D) {o:Oper} {e:Operand->V} {H:Hp} {t t' el:TypeId} {it:Ty} {x y:Operand} (q:Bool) (ho:o.op=.binOp .eql t x y t') (ht:D.at t=some it) (hit:it.d=.slice el) (hy:e y=.c (.slice none 0 0))
  (hx:(e x=.c (.slice none 0 0)/\q=true)\/∃ b rows,e x=.sl true b rows/\q=false):fT P G o e H (.c<|.bool q) H []:=by
 refine BH fun ρ S F η w bP hH=>?_;have h1:=bP x (by simp [ho,Op.operands]);have h2:=bP y (by simp [ho,Op.operands]);rw [hy] at h2;have hu:=Ay hD ht hit;refine ⟨_,?_,.c _⟩;unfold execOp;rcases hx with ⟨hx,rfl⟩|⟨b,rows,hx,rfl⟩
 .rw [hx] at h1;simp only [ho,h1.iw,h2.iw,fC,eqGuard_at_slice,fM,aeB hu,jL,Option.isNone_none]
 .rw [hx] at h1;have hv:∃ a n c,η x=.slice (some a) n c:=by
   generalize η x=v at h1;cases h1 with
   | sl _ _ _ _ h=>cases h with
    | shr a cap nn rows k cs=>exact ⟨_,_,_,rfl⟩
  obtain ⟨a,n,c,hv⟩:=hv;simp only [ho,hv,h2.iw,fC,eqGuard_at_slice,fM,aeB hu,jL,Option.isNone_some]
def nlW (D:Tab) (G:Nat->Option (List V)) (ops:Array Oper) (i:Nat) (T:List V):Option Bool:=
 match nk ops i T with
 | some (.binOp .eql t x y _)=>match D.at t,ev G T y with
  | some it,.c (.slice none 0 0)=>match it.d with
   | .slice _=>match ev G T x with
    | .c (.slice none 0 0)=>some true
    | .sl true _ _=>some false
    | _=>none
   | _=>none
  | _,_=>none
 | _=>none
theorem aeC {D:Tab} (hD:dG P D) {ops:Array Oper} {draw:Bool} {T0:List V} {H0:Hp} {i:Nat} {T:List V} {H:Hp} {Es:List (Bool×Eff)} {Q:St->Prop} (q:Bool) (h:nlW D G ops i T=some q)
  (k:W P G ops draw T0 H0 (i+1) (eU T (iX ops i)<|.c<|.bool q) H (Es++[(true,{v:=.c (.bool q)})]) Q):W P G ops draw T0 H0 i T H Es Q:=by
 unfold nlW at h;split at h
 .rename_i t x y t' hop;split at h
  .rename_i it ht hy;split at h
   .rename_i el hit;refine zF (.c<|.bool q) [] hop (fun o ho e' H' he _=>?_) k;refine ate hD q ho ht hit ((he y fU).trans hy) ?_;rw [he x fU];split at h
    .rename_i hx;cases h;exact .inl ⟨hx,rfl⟩
    .rename_i b rows hx;cases h;exact .inr ⟨b,rows,hx,rfl⟩
    .cases h
   .cases h
  .cases h
 .cases h
end Go.Av
namespace Go.Av
def aeD (P:Program) (gf:FuncId):Prop:=
 ∀ (l g n:Nat) (Inv:Nat->World->Prop) (Stop:World->Prop) (w:World),n<=maxLen->
  (∀ W,Inv n W->∃ a cap,W.cell? ⟨g,0,none⟩=some (.slice a n cap))->(∀ k W d,Inv k W->Inv k {W with drawn:=d})->
  (∀ k W,Inv (k+1) W->k < n/\∃ a cap v,W.cell? ⟨g,0,none⟩=some (.slice (some a) n cap)/\n<=cap/\W.cell? (a.add k)=some v/\v.oneCell'=true/\
   ∃ f tmps xH body,(Instr.yield l #[.int .i64 k,v]).run P W=.ok (.round l f tmps xH body) W/\
    RoundIn Fence.wide 0 P l f tmps xH body W fun e W'=>(e=.returned (.bool true)/\Inv k W')\/(e=.returned (.bool false)/\Stop W'))->
  Inv n w->Calls P gf #[.func (.yield l) #[] #[],.pointer<|some ⟨g,0,none⟩] w fun e W'=>(∃ v,e=.returned v)/\(Inv 0 W'\/Stop W')
mutual
def V.sm:V->Bool
 | .own j=>Nat.blt j 100
 | .loc j _=>Nat.blt j 100
 | .vp j _ _ _=>Nat.blt j 100
 | .vw j _ _ _=>Nat.blt j 100
 | .fn _ cs=>EU cs
 | .agg cs=>EU cs
 | .gN cs=>EU cs
 | _=>true
def EU:List V->Bool
 | []=>true
 | x::r=>V.sm x&&EU r
end
mutual
def akn:∀ {x:V} {i:Nat},x.sm=true->x.has i=true->i < 100
 | .own j,i,h,hh=>by simp [V.sm,V.has] at h hh;omega
 | .loc j _,i,h,hh=>by simp [V.sm,V.has] at h hh;omega
 | .vp j _ _ _,i,h,hh=>by simp [V.sm,V.has] at h hh;omega
 | .vw j _ _ _,i,h,hh=>by simp [V.sm,V.has] at h hh;omega
 | .fn _ cs,i,h,hh=>ZP (by simpa [V.sm] using h) (by simpa [V.has] using hh)
 | .agg cs,i,h,hh=>ZP (by simpa [V.sm] using h) (by simpa [V.has] using hh)
 | .gN cs,i,h,hh=>ZP (by simpa [V.sm] using h) (by simpa [V.has] using hh)
 | .junk,i,h,hh=>by simp [V.has] at hh
 | .c _,i,h,hh=>by simp [V.has] at hh
 | .sl _ _ _,i,h,hh=>by simp [V.has] at hh
 | .el _,i,h,hh=>by simp [V.has] at hh
def ZP:∀ {l:List V} {i:Nat},EU l=true->V.lW i l=true->i < 100
 | [],i,h,hh=>by simp [V.lW] at hh
 | x::r,i,h,hh=>by
  simp only [EU,dP] at h;simp only [V.lW,lS] at hh;rcases hh with hh|hh
  .exact akn h.1 hh
  .exact ZP h.2 hh
end
def atf {l:List V} (h:EU l=true) {x:V} (hx:x∈l):x.sm=true:=by
 induction l with
 | nil=>cases hx
 | cons y l ih=>
  simp only [EU,dP] at h;rcases gQ.1 hx with rfl|hx
  .exact h.1
  .exact ih h.2 hx
def aeE (m m':Ren):Bool:=m'.all fun p=>Nat.ble 100 p.2||(Nat.blt p.1 100&&dO m p.2==some p.1)
def atg {m m':Ren} (h:aeE m m'=true) {i j:Nat} (hm:dO m' i=some j) (hj:j < 100):i < 100/\dO m j=some i:=by
 have:=ku.1 h _ (xE hm);simp only [lS,zA,dP,Gq,oZ] at this;rcases this with h|h
 .omega
 .exact h
def aeF:Exit->Option Code
 | .ret=>some .ret
 | .exit id=>some (.exit id)
 | _=>none
def Fin (m:Ren) (Tc:List V) (Q:Exit->St->Prop) (e:Exit) (H1:Hp):Prop:=
 ∃ m' T2 H2,m'.ok=true/\aeE m m'=true/\yw m' Tc T2/\Db m' H1 H2/\Q e ⟨T2,H2⟩
def ako (m:Ren) (Tc:List V) (Q:Exit->St->Prop) (N:Hp->Prop):Exit->St->Prop
 | .normal,st=>∃ T1 H1,Weak st ⟨T1,H1⟩/\N H1
 | .ret,st=>Fin m Tc Q .ret st.H
 | .exit id,st=>Fin m Tc Q (.exit id) st.H
 | _,_=>False
section
variable {P:Program} {G:Nat->Option (List V)} {L:Option Nat} {B:Nat}
theorem Keeps.putObj {S:Nat->Prop} {W:World} {l:Nat} {o:Obj} (hl: ¬S l):Keeps S W S (W.putObj l o):=
 fun b hb=>⟨hb,EB fun e=>hl<|e ▸ hb⟩
theorem dI.putObj {ρ:Nat->Option Value} {S:Nat->Prop} {F:Nat->List Nat} {H:Hp} {W:World} {l:Nat} {o o':Obj} (h:dI ρ S F H W) (hl: ¬S l) (ho:W.heap[l]?=some o) (hc:∀ arr e m,o≠.cells arr e m):dI ρ S F H (W.putObj l o'):=by
 have hU:∀ b,Ub H F b->(W.putObj l o').heap[b]?=W.heap[b]?:=fun b hb=>EB fun e=>by
  obtain ⟨arr,t,m,hh⟩:=h.blocks hb;rw [e,ho] at hh;cases hh;exact hc _ _ _ rfl
 refine ⟨h.dom,fun i p hp=>?_,h.nodup,h.gU,h.sep,fun i p b hp hb=>by rw [LW];exact h.lt i p b hp hb,fun b hb=>by rw [LW];exact h.slt b hb⟩;obtain ⟨r,hr,bX⟩:=h.obj i p hp;exact ⟨r,hr,bX.mono (fun _ _ h _=>h) (Keeps.putObj hl) fun b hb=>hU b ⟨i,p,hp,hb⟩⟩
theorem iE.putObj {S U S' U':Nat->Prop} {w W:World} {l:Nat} {o:Obj} (h:iE S U w S' U' W) (hl:w.heap.size<=l):iE S U w S' U' (W.putObj l o):=
 ⟨h.os,h.tape,h.output,by rw [LW];exact h.size,fun b hb hu=>(EB ah).trans<|h.keep b hb hu,h.sub,h.newS,h.qX⟩
theorem iE.alloc {S U S' U':Nat->Prop} {w W:World} {o:Obj} (h:iE S U w S' U' W):iE S U w S' U' (W.alloc o):=
 ⟨h.os,h.tape,h.output,zx h.size aA,fun b hb hu=>(Go.RowKit.Below.heap_alloc _ _ _<|uM hb h.size).trans<|h.keep b hb hu,h.sub,h.newS,h.qX⟩
theorem dI.alloc {ρ:Nat->Option Value} {S:Nat->Prop} {F:Nat->List Nat} {H:Hp} {W:World} {o:Obj} (h:dI ρ S F H W):dI ρ S F H (W.alloc o):=by
 have hk:Keeps S W S (W.alloc o):=fun b hb=>⟨hb,Go.RowKit.Below.heap_alloc _ _ _<|h.slt b hb⟩
 refine ⟨h.dom,fun i p hp=>?_,h.nodup,h.gU,h.sep,fun i p b hp hb=>by have:=h.lt i p b hp hb;simp;omega,fun b hb=>by have:=h.slt b hb;simp;omega⟩;obtain ⟨r,hr,bX⟩:=h.obj i p hp;exact ⟨r,hr,bX.mono (fun _ _ h _=>h) hk fun b hb=>Go.RowKit.Below.heap_alloc _ _ _<|h.lt i p b hp hb⟩
structure Aside (S:Nat->Prop) (l D:Nat) (rec:Loop) (W:World):Prop where
 sl: ¬S l
 sD: ¬S D
 hl:W.heap[l]?=some (.loop rec)
 hD:W.heap[D]?=some (.deferred<|some [])
theorem Aside.Gu {ρ:Nat->Option Value} {S S' U':Nat->Prop} {F:Nat->List Nat} {H:Hp} {w w':World} {l D:Nat} {rec:Loop} (h:Aside S l D rec w) (hH:dI ρ S F H w) (e:iE S (Ub H F) w S' U' w'):Aside S' l D rec w':=by
 have hUl: ¬Ub H F l:=fun hU=>by obtain ⟨arr,t,m,hc⟩:=hH.blocks hU;rw [h.hl] at hc;cases hc
 have hUD: ¬Ub H F D:=fun hU=>by obtain ⟨arr,t,m,hc⟩:=hH.blocks hU;rw [h.hD] at hc;cases hc
 have hll:l < w.heap.size:=(qQ.1 h.hl).1;have hlD:D < w.heap.size:=(qQ.1 h.hD).1;refine ⟨fun hs=>?_,fun hs=>?_,(e.keep l hll hUl).trans h.hl,(e.keep D hlD hUD).trans h.hD⟩
 .rcases e.newS l hs with h1|h1|h1
  .exact h.sl h1
  .exact hUl h1
  .omega
 .rcases e.newS D hs with h1|h1|h1
  .exact h.sD h1
  .exact hUD h1
  .omega
theorem Aside.put {S:Nat->Prop} {l D:Nat} {rec rec':Loop} {W:World} (h:Aside S l D rec W) (hne:D≠l):Aside S l D rec' (W.putObj l<|.loop rec'):=
 ⟨h.sl,h.sD,World.putObj_heap_same (qQ.1 h.hl).1,(EB hne).trans h.hD⟩
theorem Marks.putObj {S:Nat->Prop} {ds:List Deferred} {W:World} {l:Nat} {o o':Obj} (h:Marks B S ds W) (ho:W.heap[l]?=some o) (hc:∀ x,o≠.deferred x):Marks B S ds (W.putObj l o'):=by
 obtain ⟨hB,Ds,hn,hd,hD⟩:=h;refine ⟨by rw [LW];exact hB,Ds,hn,hd,fun D hm=>?_⟩;obtain ⟨h1,h2,h3⟩:=hD D hm;refine ⟨h1,h2,(EB fun e=>?_).trans h3⟩;rw [e,ho] at h3;exact hc _ (lD h3)
theorem mK.putObj {ρ:Nat->Option Value} {S:Nat->Prop} {F:Nat->List Nat} {st:St} {a:Act} {W:World} {l:Nat} {rc:Loop} {o':Obj} (h:mK B G ρ S F st a W) (hl: ¬S l) (ho:W.heap[l]?=some (.loop rc)):mK B G ρ S F st a (W.putObj l o'):=
 ⟨h.defers.putObj ho (fun _ h=>by cases h),h.size,fun i x hx=>(h.tmps i x hx).mono (fun _ _ h _=>h)<|Keeps.putObj hl,h.heap.putObj hl ho (fun _ _ _ h=>by cases h),h.glob.mono<|Keeps.putObj hl⟩
theorem dI.drawn {ρ:Nat->Option Value} {S:Nat->Prop} {F:Nat->List Nat} {H:Hp} {W:World} (h:dI ρ S F H W) (d:Nat):dI ρ S F H {W with drawn:=d}:=by
 refine ⟨h.dom,fun i p hp=>?_,h.nodup,h.gU,h.sep,h.lt,h.slt⟩;obtain ⟨r,hr,bX⟩:=h.obj i p hp;exact ⟨r,hr,bX.mono (fun _ _ h _=>h) (fun b hb=>⟨hb,rfl⟩) fun _ _=>rfl⟩
theorem aeG {dJ:Nat->Option Value} {S1:Nat->Prop} {F1:Nat->List Nat} {H1:Hp} {W:World} {j gb:Nat} {ety:TypeId} {nn:Bool} {α:Type} {enc:α->V} {la:List α} (hH1:dI dJ S1 F1 H1 W)
  (hl:look H1 j=some (.cells ety [.sl nn false<|la.map fun x=>[enc x]])) (hr:∀ r,dJ j=some r->r=.pointer (some ⟨gb,0,none⟩)):
  ∃ a0 cap,W.cell? ⟨gb,0,none⟩=some (.slice a0 la.length cap)/\la.length<=maxLen/\∀ k x,la[k]?=some x->∃ b v,a0=some b/\la.length<=cap/\W.cell? (b.add k)=some v/\v.oneCell'=true/\RD S1 W v (enc x) []:=by
 obtain ⟨r,hr',bX⟩:=hH1.obj j _ hl;have e:=hr r hr';subst e;generalize F1 j=Fj at bX;cases bX with
 | cells g arr _ _ hh hsz hcs=>
  obtain ⟨c,h1,h2,h3⟩:=hcs 0 _ rfl;have hcell:W.cell? ⟨gb,0,none⟩=some c:=(Ma W gb 0 arr _ (0,0) hh).trans h1;have hd:=h3.Qm;have key:∀ rows,(la.map fun x=>[enc x])=rows->RD S1 W c (.sl nn false rows) []->∃ a0 cap,c=.slice a0 la.length cap/\la.length<=maxLen/\∀ k x,la[k]?=some x->∃ b v,a0=some b/\la.length<=cap/\W.cell? (b.add k)=some v/\v.oneCell'=true/\RD S1 W v (enc x) []:=by
   intro rows hrows hd;cases hd with
   | kG=>
    have:la=[]:=by simpa using hrows
    subst this;exact ⟨none,0,rfl,zy _,fun k x hx=>by simp at hx⟩
   | shr a cap _ _ k cs hlen hcap hk hc hr=>
    have hl:rows.length=la.length:=by rw [<- hrows];simp
    refine ⟨some a,cap,by rw [hl],ah,fun k' x hx=>?_⟩;have hrow:rows[k']?=some [enc x]:=by rw [<- hrows,gD,hx];rfl
    have hk1:1=k:=hk k' _ hrow;obtain ⟨_,hcl⟩:=hc k' 0 _ (enc x) hrow rfl;have hrd:=hr k' 0 _ (enc x) hrow rfl;subst hk1;exact ⟨a,cs k' 0,rfl,ah,by simpa using hcl,hrd.one,hrd⟩
  obtain ⟨a0,cap,rfl,h5,h6⟩:=key _ rfl hd;exact ⟨a0,cap,hcell,h5,h6⟩
theorem ati {g:Operand} {xH body:Code} {T0:List V} {H0:Hp} {Q:Exit->St->Prop} {gf:FuncId} (hit:aeD P gf) (hcf:uQ P gf) {α ι:Type} (enc:α->V) (la:List α)
  (m:Ren) (Tc:List V) (i0:ι) (J:ι->Hp) (R:List α->ι->Prop) (j:Nat) (ety:TypeId) (nn:Bool) (p0 p1:Tmp)
  (hm:m.ok=true) (hT:yw m T0 Tc) (hH:Db m H0 (J i0)) (hsm:EU Tc=true) (hg:ev G Tc g=.fn gf [.loc j 0]) (hj:j < 100) (hp:p0≠p1)
  (QE:∀ i,look (J i) j=some (.cells ety [.sl nn false<|la.map fun x=>[enc x]])) (hR:R la.reverse i0)
  (round:∀ x xs i,R (x::xs) i->∀ L,∃ T1 H1,CO (some L) P G xH ⟨(Tc.set p0 .junk).set p1<|enc x,J i⟩ (fun e st=>e=.normal/\Weak st ⟨T1,H1⟩)/\
   CO (some L) P G body ⟨T1,H1⟩ (ako m Tc Q fun H=>∃ i',R xs i'/\H=J i'))
  (done:∀ i,R [] i->Fin m Tc Q .normal (J i)):CO none P G (.rangeFunc g #[p0,p1] xH body) ⟨T0,H0⟩ Q:=by
 intro B ρ S F a w RR hst hn;obtain ⟨EH,Fc,hHc,k2,k3,k4⟩:=hst.heap.rn hm hH;have hTc:∀ i y,Tc[i]?=some y->RV EH S w (a.tmps.getD i undef) y:=fun i y hy=>by
  rcases hT.get hy with rfl|⟨x,hx,rfl⟩
  .exact .junk _
  .exact (hst.tmps i x hx).rn k2
 have hsz:a.tmps.size=Tc.length:=hst.size.trans hT.length;have hE0:iE S (Ub H0 F) w S (Ub (J i0) Fc) w:=⟨rfl,rfl,rfl,eD _,fun _ _ _=>rfl,fun _ h=>h,fun _ h=>.inl h,fun b ⟨i,o,ho,hb⟩=>by
  obtain ⟨i',o',_,hl,e,_⟩:=k4 i o ho;exact .inl ⟨i',o',hl,e ▸ hb⟩⟩
 have hgv:∃ gb,a.eval g=.func (.func gf) #[] #[.pointer<|some ⟨gb,0,none⟩]/\EH j=some (.pointer<|some ⟨gb,0,none⟩):=by
  have h1:RV EH S w (a.eval g) (.fn gf [.loc j 0]):=by
   rw [<- hg];cases g with
   | tmp t=>
    simp only [Act.eval,ev,Gg];cases ht:Tc[t]? with
    | none=>exact .junk _
    | some y=>exact hTc t y ht
   | const v=>exact .c v
   | global q=>
    simp only [ev] at hg;split at hg<;>cases hg
   | func f=>simp [ev] at hg
  obtain ⟨arr,e1,e2,e3⟩:=h1.Qn;obtain ⟨r,hr,_⟩:=hHc.obj j _ (QE i0);obtain ⟨arr⟩:=arr
  match arr,e2 with
  | [v0],_=>
   obtain ⟨gb,r1,r2⟩:=(e3 0 (.loc j 0) v0 rfl rfl).Zf r hr;exact ⟨gb,by rw [e1,r2],by rw [hr,r1]⟩
 obtain ⟨gb,hgv,hgr⟩:=hgv;refine wpIn_rangeFunc ?_;intro fn _;obtain ⟨rec,hrec⟩:∃ rec:LoopState->Option Code->Loop,rec=fun st pe=>{state:=st,pending:=pe,fn,tmps:=a.tmps,params:=#[p0,p1],assign:=xH,body,defers:=w.heap.size}:=⟨_,rfl⟩
 obtain ⟨W1,hW1⟩:∃ W1,(w.alloc<|.deferred<|some []).alloc (.loop<|rec .ready none)=W1:=⟨_,rfl⟩
 have hL1:W1.heap[w.heap.size+1]?=some (.loop<|rec .ready none):=by
  rw [<- hW1];have:=World.alloc_heap_new (w.alloc<|.deferred<|some []) (.loop<|rec .ready none);rwa [World.size_alloc] at this
 have hK1:W1.heap[w.heap.size]?=some (.deferred<|some []):=by
  rw [<- hW1];exact (Go.RowKit.Below.heap_alloc _ _ _ aA).trans (World.alloc_heap_new w _)
 have hnS:∀ b,w.heap.size<=b-> ¬S b:=fun b hb hs=>by have:=hst.heap.slt b hs;omega
 let In:(Hp->Prop)->Loop->World->Prop:=fun N rc W=>∃ H1 dJ S1 F1,N H1/\dI dJ S1 F1 H1 W/\iE S (Ub H0 F) w S1 (Ub H1 F1) W/\lX EH dJ/\Aside S1 (w.heap.size+1) w.heap.size rc W
 let Inv:Nat->World->Prop:=fun k W=>k<=la.length/\In (fun H=>∃ i,R (la.take k).reverse i/\H=J i) (rec .ready none) W
 let Stop:World->Prop:=fun W=>∃ e:Exit,(e=.ret\/∃ id,e=.exit id)/\In (Fin m Tc Q e) (rec .done<|aeF e) W
 have atj:Inv la.length W1:=by
  refine ⟨eD _,J i0,EH,S,Fc,⟨i0,by simpa using hR,rfl⟩,?_,?_,lX.refl _,hnS _ ah,hnS _ ah,hL1,hK1⟩
  .rw [<- hW1];exact hHc.alloc.alloc
  .rw [<- hW1];exact hE0.alloc.alloc
 have akt:∀ {dJ:Nat->Option Value} {S1 U1:Nat->Prop} {W:World},iE S (Ub H0 F) w S1 U1 W->lX EH dJ->∀ i y,Tc[i]?=some y->RV dJ S1 W (a.tmps.getD i undef) y:=fun hE hA i y hy=>
  (hTc i y hy).mono (fun q r hq hh=>hA q r (akn (atf hsm<|kX hy) hh) hq) (hst.heap.keeps hE)
 have aku:∀ {dJ:Nat->Option Value},lX EH dJ->∀ r,dJ j=some r->r=.pointer (some ⟨gb,0,none⟩):=fun hA r hr=>by
  have:=hA j r hj hr;rw [hgr] at this;exact (lD this).symm
 have hmax:la.length<=maxLen:=by
  obtain ⟨_,_,_,h,_⟩:=aeG hHc (QE i0) (fun r hr=>by rw [hgr] at hr;exact (lD hr).symm);exact h
 have hfin:∀ (e:Exit) (H1:Hp) (dJ:Nat->Option Value) (S1:Nat->Prop) (F1:Nat->List Nat) (W:World) (rc:Loop) (o:Obj),Fin m Tc Q e H1->dI dJ S1 F1 H1 W->iE S (Ub H0 F) w S1 (Ub H1 F1) W->lX EH dJ->
   Aside S1 (w.heap.size+1) w.heap.size rc W->RR e {a with defers:=mark w.heap.size::a.defers} (W.putObj (w.heap.size+1) o):=by
  rintro e H1 dJ S1 F1 W rc o ⟨m',T2,H2,hm',hb,hT2,hH2,hQ⟩ hH1 hE hA has;obtain ⟨kH,F2,hH3,q2,q3,q4⟩:=hH1.rn hm' hH2;have hkp:Keeps S1 W S1 (W.putObj (w.heap.size+1) o):=Keeps.putObj has.sl;refine hn e _ hQ kH S1 F2 _ _ ⟨?_,hsz.trans hT2.length,fun i y hy=>?_,hH3.putObj has.sl has.hl (fun _ _ _ h=>by cases h),(hst.glob.mono<|hst.heap.keeps hE).mono hkp⟩ ⟨hE.os,hE.tape,hE.output,?_,?_,hE.sub,hE.newS,?_⟩ ?_
  .obtain ⟨hB,Ds,hnd,hds,hD⟩:=hst.defers;obtain ⟨hB1,_⟩:=hst.defers.Gu hst.heap hE;refine ⟨by rw [LW];exact hB1,w.heap.size::Ds,nK.2 ⟨fun hm=>?_,hnd⟩,by rw [jS,hds],fun D hm=>?_⟩
   .have:=(qQ.1 (hD _ hm).2.2).1;omega
   .rcases gQ.1 hm with rfl|hm
    .exact ⟨hB,has.sD,(EB ah).trans has.hD⟩
    .obtain ⟨d1,d2,d3⟩:=hD D hm;have dlt:=(qQ.1 d3).1;have dU: ¬Ub H0 F D:=fun hU=>by
      obtain ⟨arr,t,q,hc⟩:=hst.heap.blocks hU;rw [d3] at hc;cases hc
     refine ⟨d1,fun hs=>?_,(EB ah).trans<|(hE.keep D dlt dU).trans d3⟩;rcases hE.newS D hs with h|h|h
     .exact d2 h
     .exact dU h
     .omega
  .rcases hT2.get hy with rfl|⟨x,hx,rfl⟩
   .exact .junk _
   .exact ((akt hE hA i x hx).rn q2).mono (fun _ _ h _=>h) hkp
  .rw [LW];exact hE.size
  .exact fun b hb hu=>(EB ah).trans (hE.keep b hb hu)
  .rintro b ⟨i,o',ho,hb'⟩;obtain ⟨i',o2,_,hl,e2,_⟩:=q4 i o' ho;exact hE.qX b ⟨i',o2,hl,e2 ▸ hb'⟩
  .intro i r hi hr;obtain ⟨i',hi',hr'⟩:=q3 i r hr;obtain ⟨h1,h2⟩:=atg hb hi' hi;exact k2 i i' r h2 (hA i' r h1 hr')
 refine ⟨w.heap.size+1,[mark w.heap.size],W1,{target:=.fn (.func gf) #[.pointer<|some ⟨gb,0,none⟩],args:=#[.func (.yield<|w.heap.size+1) #[] #[]]},W1,gf,
  #[.func (.yield<|w.heap.size+1) #[] #[],.pointer<|some ⟨gb,0,none⟩],W1,?_,?_,fun _ _=>trivial,?_,fun h=>(by cases h),?_⟩
 .rw [<- hW1,hrec];exact run_enterLoop_outer _ _ _ _ _
 .simp only [resolve,hgv];simp [go_sem]
 .simp only [invoke];simp [go_sem];exact hcf _ _
 .refine ado (Ug.2 (hit (w.heap.size+1) gb la.length Inv Stop W1 hmax ?_ ?_ ?_ atj):CallsIn Fence.wide (0 - 1) P gf _ _ _) ?_
  .rintro W ⟨_,H1,dJ,S1,F1,⟨i,_,rfl⟩,hH1,hE,hA,has⟩;obtain ⟨a0,cap,h1,_,_⟩:=aeG hH1 (QE i) (aku hA);exact ⟨a0,cap,h1⟩
  .rintro k W d ⟨hk,H1,dJ,S1,F1,hN,hH1,hE,hA,has⟩;exact ⟨hk,H1,dJ,S1,F1,hN,hH1.drawn d,⟨hE.os,hE.tape,hE.output,hE.size,hE.keep,hE.sub,hE.newS,hE.qX⟩,hA,⟨has.sl,has.sD,has.hl,has.hD⟩⟩
  .rintro k W ⟨hk,H1,dJ,S1,F1,⟨i,ZQ,rfl⟩,hH1,hE,hA,has⟩;obtain ⟨x,hx⟩:∃ x,la[k]?=some x:=⟨_,eZ ah⟩
   have hxs:(la.take<|k+1).reverse=x::(la.take k).reverse:=by rw [YI,hx];simp
   rw [hxs] at ZQ;obtain ⟨a0,cap,h1,_,h3⟩:=aeG hH1 (QE i) (aku hA);obtain ⟨b,v,rfl,h4,h5,h6,h7⟩:=h3 k x hx;refine ⟨ah,b,cap,v,h1,h4,h5,h6,fn,_,xH,body,by rw [run_yield has.hl (by rw [hrec];rfl),hrec],roundIn_of_wpIn trivial ?_⟩;obtain ⟨T1,H2,atm,hbody⟩:=round x _ i ZQ (w.heap.size+1);refine atm 0 dJ S1 F1 _ W _ ⟨Marks.nil _<|zy _,?_,fun q y hy=>?_,hH1,hst.glob.mono<|hst.heap.keeps hE⟩ ?_
   .simp [hsz]
   .have hq:q < Tc.length:=by have:=(dw.1 hy).1;simpa using this
    simp only [List.zip_toArray,List.zip_cons_cons,List.zip_nil_right,List.foldl_toArray,YM,List.foldl_nil];rw [Da<|by simp [hsz,hq]];rcases qZ hy with ⟨rfl,rfl⟩|⟨hne,hy⟩
    .rw [bQ rfl];exact h7.YX
    .rw [bA hne,Da<|by rw [hsz];exact hq];rcases qZ hy with ⟨rfl,rfl⟩|⟨hne,hy⟩
     .rw [bQ rfl];exact .junk _
     .rw [bA hne];exact akt hE hA q y hy
   .rintro e st' ⟨rfl,hw⟩;intro kH S2 F2 a2 w2 oF hE2 hA2;obtain ⟨AL,S3,F3,atn,hE3,hA3⟩:=hw _ G kH S2 F2 a2 w2 oF;have akw:=hE2.trans hE3;have ZR:=has.Gu hH1 akw;refine ⟨_,run_beginRound ZR.hl (by rw [hrec]),?_⟩;have hrb:({rec .ready none with state:=.busy}:Loop)=rec .busy none:=by rw [hrec]
    rw [hrb];have ato:=ZR.put (rec':=rec .busy none) ah;have hE4:iE S (Ub H0 F) w S3 (Ub H2 F3) (w2.putObj (w.heap.size+1)<|.loop<|rec .busy none):=(hE.trans akw).putObj ah;have ZM:=atn.putObj (o':=.loop (rec .busy none)) ZR.sl ZR.hl;refine hbody 0 AL S3 F3 a2 _ _ ZM ?_;intro e st4 hq;intro ρ5 S5 F5 a5 w5 ZT hE5 hA5;have aeI:=((hA.trans hA2).trans hA3).trans hA5;have GJ:=ato.Gu ZM.heap hE5;have aeJ:=hE4.trans hE5;cases e with
    | normal=>
     obtain ⟨T6,H6,hw6,i',hR',rfl⟩:=hq;obtain ⟨ρ6,S6,F6,att,hE6,hA6⟩:=hw6 _ G ρ5 S5 F5 a5 w5 ZT;have ZU:=GJ.Gu ZT.heap hE6;refine ⟨_,_,adq none ZU.hl,.inl ⟨rfl,ah,_,ρ6,S6,F6,⟨i',hR',rfl⟩,att.heap.putObj ZU.sl ZU.hl (fun _ _ _ h=>by cases h),(aeJ.trans hE6).putObj ah,aeI.trans hA6,?_⟩⟩;have:({rec .busy none with state:=if (none:Option Code).isNone then .ready else .done,pending:=none}:Loop)=rec .ready none:=by rw [hrec];rfl
     rw [this];exact ZU.put ah
    | ret=>
     refine ⟨_,_,adq (some .ret) GJ.hl,.inr ⟨rfl,.ret,.inl rfl,_,ρ5,S5,F5,hq,ZT.heap.putObj GJ.sl GJ.hl (fun _ _ _ h=>by cases h),aeJ.putObj ah,aeI,?_⟩⟩;have:({rec .busy none with state:=if (some Code.ret).isNone then .ready else .done,pending:=some .ret}:Loop)=rec .done (aeF .ret):=by rw [hrec];rfl
     rw [this];exact GJ.put ah
    | exit id=>
     refine ⟨_,_,adq (some<|.exit id) GJ.hl,.inr ⟨rfl,.exit id,.inr ⟨id,rfl⟩,_,ρ5,S5,F5,hq,ZT.heap.putObj GJ.sl GJ.hl (fun _ _ _ h=>by cases h),aeJ.putObj ah,aeI,?_⟩⟩;have:({rec .busy none with state:=if (some<|Code.exit id).isNone then .ready else .done,pending:=some (.exit id)}:Loop)=rec .done (aeF<|.exit id):=by rw [hrec];rfl
     rw [this];exact GJ.put ah
    | goto t=>exact hq.elim
    | panic ch=>exact hq.elim
    | outgrown=>exact hq.elim
  .rintro e W2 ⟨⟨v,rfl⟩,⟨_,H1,dJ,S1,F1,⟨i,ZQ,rfl⟩,hH1,hE,hA,has⟩|⟨e,he,H1,dJ,S1,F1,hf,hH1,hE,hA,has⟩⟩
   .refine ⟨none,_,by have:=run_endLoop (P:=P) has.hl (by rw [hrec];simp);rw [hrec] at this;exact this,?_⟩;exact hfin .normal _ dJ S1 F1 W2 _ _ (done i<|by simpa using ZQ) hH1 hE hA has
   .rcases he with rfl|⟨id,rfl⟩
    .refine ⟨some .ret,_,by have:=run_endLoop (P:=P) has.hl (by rw [hrec];simp);rw [hrec] at this;exact this,?_⟩;exact wpIn_ret (hfin .ret _ dJ S1 F1 W2 _ _ hf hH1 hE hA has)
    .refine ⟨some<|.exit id,_,by have:=run_endLoop (P:=P) has.hl (by rw [hrec];simp);rw [hrec] at this;exact this,?_⟩;exact wpIn_exit (hfin (.exit id) _ dJ S1 F1 W2 _ _ hf hH1 hE hA has)
theorem akz (m':Ren) (ks:List Nat) (T2:List V) (H2:Hp) {m:Ren} {Tc:List V} {Q:Exit->St->Prop} {e:Exit} {H1:Hp} (h1:(m'.ok&&aeE m m'&&Dm m')=true) (hT:zC m' ks 0 Tc=T2) (hH:tK m' H1 m'=some H2) (hQ:Q e ⟨T2,H2⟩):Fin m Tc Q e H1:=by
 simp only [dP] at h1;subst hT;exact ⟨m',_,H2,h1.1.1,h1.1.2,UA m' ks 0 Tc,Mr hH (ZE h1.2) fun p _=>rfl,hQ⟩
theorem atv {g:Operand} {xH body:Code} {T0:List V} {H0:Hp} {Q:Exit->St->Prop} {gf:FuncId} (hit:aeD P gf) (hcf:uQ P gf) {α ι:Type} (enc:α->V) (la:List α)
  (m:Ren) (ks:List Nat) (Tc:List V) (i0:ι) (J:ι->Hp) (R:List α->ι->Prop) (j:Nat) (ety:TypeId) (nn:Bool) (p0 p1:Tmp)
  (h1:(m.ok&&Dm m&&EU Tc&&Nat.blt j 100&&p0 !=p1)=true) (hT:zC m ks 0 T0=Tc) (hH:tK m H0 m=some (J i0)) (hg:ev G Tc g=.fn gf [.loc j 0])
  (QE:∀ i,look (J i) j=some (.cells ety [.sl nn false<|la.map fun x=>[enc x]])) (hR:R la.reverse i0)
  (round:∀ x xs i,R (x::xs) i->∀ L,∃ T1 H1,CO (some L) P G xH ⟨(Tc.set p0 .junk).set p1<|enc x,J i⟩ (fun e st=>e=.normal/\Weak st ⟨T1,H1⟩)/\
   CO (some L) P G body ⟨T1,H1⟩ (ako m Tc Q fun H=>∃ i',R xs i'/\H=J i'))
  (done:∀ i,R [] i->Fin m Tc Q .normal (J i)):CO none P G (.rangeFunc g #[p0,p1] xH body) ⟨T0,H0⟩ Q:=by
 simp only [dP,Gq,bne_iff_ne] at h1;subst hT;exact ati hit hcf enc la m _ i0 J R j ety nn p0 p1 h1.1.1.1.1 (UA m ks 0 T0) (Mr hH (ZE h1.1.1.1.2) fun p _=>rfl) h1.1.1.2 hg h1.1.2 h1.2 QE hR round done
theorem tN {ops:Array Oper} {Q:Exit->Act->World->Prop} {o:Oper} {rest:List Oper} {a:Act} {w w':World} {v:Value} (hg:o.guard=none) (hd:∀ c,o.op≠.defer c) (hr:(execOp a.eval o).run P w=.ok (.value v) w')
  (k:wpListIn (uN L) 0 P ops Q rest (a.put o.dst v) w'):wpListIn (uN L) 0 P ops Q (o::rest) a w:=by
 unfold wpListIn;rw [bQ<|by simp [Region.wanted,hg]];refine ⟨fun _ _=>trivial,?_⟩;rw [Qb _ _ _ hd,hr,adb];exact k
theorem atw {ops:Array Oper} {Q:Exit->Act->World->Prop} {o:Oper} {rest:List Oper} {a:Act} {w:World} {l:Nat} {f:FuncId} {tmps:Array Value} {xH body:Code} {K:Ending->World->Prop} (hg:o.guard=none) (hd:∀ c,o.op≠.defer c)
  (hr:(execOp a.eval o).run P w=.ok (.round l f tmps xH body) w) (hR:RoundIn Fence.wide 0 P l f tmps xH body w K)
  (k:∀ e w',K e w'->∃ v,e=.returned v/\wpListIn (uN L) 0 P ops Q rest (a.put o.dst v) w'):wpListIn (uN L) 0 P ops Q (o::rest) a w:=by
 unfold wpListIn;rw [bQ<|by simp [Region.wanted,hg]];refine ⟨fun _ _=>trivial,?_⟩;rw [Qb _ _ _ hd,hr,Oper.uponIn_round];refine ⟨fun h=>(by cases h),?_⟩;refine RoundIn.mono (F:=uN L) (n:=0 - 1) hR fun e w' h=>?_;obtain ⟨v,rfl,h2⟩:=k e w' h;exact h2
theorem akA {F:Fence} {m:Nat} {c:Code} {Q:Exit->Act->World->Prop} (I:Nat->Act->World->Prop) (hz:∀ a W,I 0 a W->c.wpIn F m P (Exit.then (fun _ _=>False) Q) a W) (hs:∀ k a W,I (k+1) a W->c.wpIn F m P (Exit.then (I k) Q) a W):
  ∀ (n:Nat) (a:Act) (w:World),I n a w->Code.roundsIn F m P c Q (n+1) a w
 | 0,a,w,h=>hz a w h
 | n+1,a,w,h=>wpIn_mono (hs n a w h) fun e a' w' hq=>by
  cases e<;>first
   | exact hq
   | exact akA I hz hs n a' w' hq
def slot (a:Act) (t:Nat):Value:=a.tmps.getD t undef
theorem rV (a:Act) (t:Tmp):a.eval (.tmp t)=slot a t:=rfl
theorem ru {a:Act} {d t:Nat} {v:Value} (h:t < a.tmps.size):slot (a.put (some d) v) t=if t=d then v else slot a t:=Da h
theorem rW {a:Act} {d:Option Tmp} {v:Value}:(a.put d v).tmps.size=a.tmps.size:=by cases d<;>simp [Act.put]
theorem aeK {a:Act} {d:Option Tmp} {v:Value}:(a.put d v).defers=a.defers:=by cases d<;>rfl
theorem aeL {D:Tab} (hD:dG P D) {t:TypeId} {it:Ty} (ht:D.at t=some it) (hag:it.d.agg=false) {b:Addr} {c v:Value} {w:World} (hv:v=.pointer (some b)) (hc:w.cell? b=some c):(Instr.loadAt t v).run P w=.ok c w:=by
 subst hv;have hpart:(loadVar t b).run P w=.ok c w:=by
  simp only [loadVar,fC,(hD _ _ ht).isAgg w,fM,hag];simp [hc]
 simp [Instr.loadAt,Instr.sureAddr,hpart]
end
end Go.Av
namespace Go.Av
def BO (H:Hp):Ren:=H.map fun p=>(p.1,p.1)
def UO:List V->Nat->List Nat
 | [],_=>[]
 | .junk::r,n=>UO r (n+1)
 | _::r,n=>n::UO r (n+1)
def mOk (H:Hp):Bool:=(BO H).ok&&(BO H).keep&&Dm (BO H)
section
variable {P:Program} {G:Nat->Option (List V)} {L:Option Nat}
theorem akB {ops:Array Oper} {draw:Bool} {T0:List V} {H0:Hp} {i:Nat} {T:List V} {H:Hp} {Es:List (Bool×Eff)} {T':List V} {H':Hp}
  (h:(Nat.ble ops.size i&&(Dh draw ops T0 H0 Es&&mOk H'),zC (BO H') (UO T' 0) 0 T,tK (BO H') H<|BO H')=(true,T',some H')):W P G ops draw T0 H0 i T H Es fun st=>Weak st ⟨T',H'⟩:=by
 simp only [nY,dP,zA] at h;obtain ⟨⟨h1,h2,h3⟩,h4,h5⟩:=h;exact Gz h1 h2 (ZF _ _ h3 h4 h5)
theorem atx (m:Ren) (ks:List Nat) {ops:Array Oper} {draw:Bool} {T0:List V} {H0:Hp} {i:Nat} {T:List V} {H:Hp} {Es:List (Bool×Eff)} {T':List V} {H':Hp}
  (h:(Nat.ble ops.size i&&(Dh draw ops T0 H0 Es&&(m.ok&&m.keep&&Dm m)),zC m ks 0 T,tK m H m)=(true,T',some H')):W P G ops draw T0 H0 i T H Es fun st=>Weak st ⟨T',H'⟩:=by
 simp only [nY] at h;obtain ⟨h1,h4,h5⟩:=h;rw [dP,dP,zA] at h1;exact Gz h1.1 h1.2.1 (ZF _ _ h1.2.2 h4 h5)
def QF (D:Tab) (G:Nat->Option (List V)) (ops:Array Oper) (draw:Bool) (n q:Nat) (T:List V) (H:Hp) (T':List V) (H':Hp):Bool×List V×Option Hp:=
 match BL D G ops n q 0 T H with
 | some r=>(Nat.ble ops.size n&&(Dh draw ops T H r.Es&&mOk H'),zC (BO H') (UO T' 0) 0 r.T,tK (BO H') r.H<|BO H')
 | none=>(false,[],none)
theorem cuW {D:Tab} (hD:dG P D) (n q:Nat) {ops:Array Oper} {draw:Bool} {T:List V} {H:Hp} {T':List V} {H':Hp} (h:QF D G ops draw n q T H T' H'=(true,T',some H')):W P G ops draw T H 0 T H [] fun st=>Weak st ⟨T',H'⟩:=by
 unfold QF at h;split at h
 .rename_i r hr;refine Qw hD n hr ?_;rw [qV,Gh];exact akB h
 .cases h
theorem cu {D:Tab} (hD:dG P D) (hm:P.follows .mixedOrders=true) (n q:Nat) (T':List V) (H':Hp) {id:Nat} {l:List Oper} {draw:Bool} {c:Code} {T:List V} {H:Hp} {Q:Exit->St->Prop}
  (h:QF D G l.toArray draw n q T H T' H'=(true,T',some H')) (k:CO L P G c ⟨T',H'⟩ Q):CO L P G (.seq (.region id l.toArray draw) c) ⟨T,H⟩ Q:=
 bH T' H' hm (cuW hD n q h) k
theorem ce {D:Tab} (hD:dG P D) (hm:P.follows .mixedOrders=true) (n q:Nat) (T':List V) (H':Hp) {id:Nat} {l:List Oper} {draw:Bool} {T:List V} {H:Hp} {Q:Exit->St->Prop}
  (h:QF D G l.toArray draw n q T H T' H'=(true,T',some H')) (hQ:∀ st,Weak st ⟨T',H'⟩->Q .normal st):CO L P G (.region id l.toArray draw) ⟨T,H⟩ Q:=
 kJ T' H' hm (cuW hD n q h) hQ
end
end Go.Av
namespace Go.Av
def bR {α β:Type} {x:Option α} {f:α->Option β} {r:β} {P:Prop} (k:∀ a,x=some a->f a=some r->P) (h:Option.bind x f=some r):P:=
 match bind_some h with
 | ⟨a,h1,h2⟩=>k a h1 h2
def cR {β:Type} {c:Bool} {x y:Option β} {r:β} {P:Prop} (k:c=true->x=some r->P) (k':c=false->y=some r->P) (h:(bif c then x else y)=some r):P:=
 match Mv h with
 | .inl ⟨h1,h2⟩=>k h1 h2
 | .inr ⟨h1,h2⟩=>k' h1 h2
section
variable {P:Program} {G:Nat->Option (List V)}
theorem Reader.u8 {t:TypeId} (ht:P.underlying t=some (.int .u8)):Reader P t bD (fun _=>True):=by
 intro H e w fuel cs x h;obtain ⟨n,hn,hr⟩:=Reader.int ht e w fuel cs x h;have h1:0<=n/\n<=255:=by simpa [Lit.wf,IntKind.min,IntKind.max,IntKind.signed,IntKind.bits] using hn
 have h2:((UInt8.ofNat n.toNat).toNat:Int)=n:=by
  rw [UInt8.toNat_ofNat'];omega
 refine ⟨UInt8.ofNat n.toNat,trivial,fun S hS=>?_⟩;have:=hr S hS;unfold bD;rw [h2];exact this
def neN {α:Type}:List α->Option Bool
 | []=>none
 | _::_=>some false
theorem aty {D:Tab} (hD:dG P D) {o:Oper} {e:Operand->V} {H:Hp} {t t' el:TypeId} {it:Ty} {x y:Operand} {j:Nat} {nn:Bool} {ety:Tg} {k:Nat} {rows:List (List V)} (ho:o.op=.binOp .eql t x y t') (ht:D.at t=some it) (hit:it.d=.slice el) (hy:e y=.c (.slice none 0 0))
  (hx:e x=.own j) (hl:look H j=some (.vec nn ety k rows)) (hr:rows≠[]):fT P G o e H (.c<|.bool false) H []:=by
 refine BH fun ρ S F η w bP hH=>?_;have h1:=bP x (by simp [ho,Op.operands]);have h2:=bP y (by simp [ho,Op.operands]);rw [hy] at h2;rw [hx] at h1;have hu:=Ay hD ht hit;obtain ⟨r,hr',bX⟩:=hH.obj j _ hl;have Qr:=h1.BI r hr';refine ⟨_,?_,.c _⟩;unfold execOp;generalize F j=Fj at bX;cases bX with
 | kZ=>exact absurd rfl hr
 | vec g cap arr _ _ _ _ cs Fs hh hcap=>
  simp only [ho,Qr,h2.iw,fC,eqGuard_at_slice,fM,aeB hu,jL,Option.isNone_some]
def nlO (D:Tab) (G:Nat->Option (List V)) (ops:Array Oper) (i:Nat) (T:List V) (H:Hp):Option (Nat×List (List V)):=
 match nk ops i T with
 | some (.binOp .eql t x y _)=>match D.at t,ev G T y,ev G T x with
  | some it,.c<|.slice none 0 0,.own j=>match it.d,look H j with
   | .slice _,some (.vec _ _ _ rows)=>some (j,rows)
   | _,_=>none
  | _,_,_=>none
 | _=>none
theorem atz {D:Tab} (hD:dG P D) {ops:Array Oper} {draw:Bool} {T0:List V} {H0:Hp} {i:Nat} {T:List V} {H:Hp} {Es:List (Bool×Eff)} {Q:St->Prop} {α:Type} (enc:α->List V) {l:List α} {b:Bool} (hx:neN l=some b) (j:Nat) (h:nlO D G ops i T H=some (j,l.map enc))
  (k:W P G ops draw T0 H0 (i+1) (eU T (iX ops i)<|.c<|.bool false) H (Es++[(true,{v:=.c (.bool false),R:=[j]})]) Q):W P G ops draw T0 H0 i T H Es Q:=by
 have hne:l.map enc≠[]:=by
  cases l with
  | nil=>cases hx
  | cons=>simp
 unfold nlO at h;split at h
 .rename_i t x y t' hop;split at h
  .rename_i it j' ht hy hxv;split at h
   .rename_i el nn ety kk rows hit hl;simp only [iQ,nY] at h;obtain ⟨rfl,rfl⟩:=h;refine zF (.c<|.bool false) [j'] hop (fun o ho e' H' he iJ=>?_) k;exact aty hD ho ht hit ((he y fU).trans hy) ((he x fU).trans hxv) (by rw [iJ j' aA];exact hl) hne
   .cases h
  .cases h
 .cases h
theorem akE {L:Option Nat} {ι:Type} (J:ι->St) (R:Nat->ι->Prop) {c:Code} {st:St} {Q:Exit->St->Prop} {n0:Nat} {i0:ι} (h0:Weak st (J i0)) (hR:R n0 i0) (hz:∀ i,¬R 0 i)
  (round:∀ n i,R (n+1) i->(∀ j,R n j->∀ st',Weak st' (J j)->UF L P G c Q n .normal st')->CO L P G c (J i) (UF L P G c Q n)):LoopN L P G c Q n0 st:=by
 have key:∀ n i,R n i->LoopN L P G c Q n (J i):=by
  intro n;induction n with
  | zero=>intro i hi;exact (hz i hi).elim
  | succ n ih=>intro i hi;exact ZC (round n i hi fun j hj _ hw=>QA hw<|ih j hj)
 exact QA h0 (key n0 i0 hR)
end
end Go.Av
namespace Go.Av
section
variable {P:Program} {G:Nat->Option (List V)} {L:Option Nat}
theorem bB {α β:Type} {x:Option α} {f:α->Option β} {r:β} {P:Prop} (h:Option.bind x f=some r) (k:∀ a,x=some a->f a=some r->P):P:=bR k h
theorem wS (m:Ren) (ks:List Nat) {T:List V} {H:Hp} {T':List V} {H':Hp} (hm:(m.ok&&m.keep&&Dm m)=true:=by kernel_rfl) (hT:zC m ks 0 T=T':=by kernel_rfl) (hH:tK m H m=some H':=by kernel_rfl):Weak ⟨T,H⟩ ⟨T',H'⟩:=ZF m ks hm hT hH
theorem oT {st:St} {t:Tmp} {r:V} (ht:st.T[t]?=some r:=by kernel_rfl):bO P st (.tmp t) r:=Za ht
theorem eG {fn:Func} {r0:V} {T:List V} {H:Hp} {e:Exit} (m:Ren) (he:e=.normal\/e=.ret) (h:aN P fn ⟨T,H⟩ r0) {r':V} {H':Hp} (hm:(m.ok&&m.keep&&Dm m)=true:=by kernel_rfl) (hr:r0.rn m=r':=by kernel_rfl) (hH:tK m H m=some H':=by kernel_rfl):Ends P fn r' H' e ⟨T,H⟩:=ajX m he h hm hr hH
theorem fI {ops:Array Oper} {draw:Bool} {T0:List V} {H0:Hp} {i:Nat} {T:List V} {H:Hp} {Es:List (Bool×Eff)} {T':List V} {H':Hp}
  (h:(Nat.ble ops.size i&&(Dh draw ops T0 H0 Es&&mOk H'),zC (BO H') (UO T' 0) 0 T,tK (BO H') H<|BO H')=(true,T',some H'):=by kernel_rfl):W P G ops draw T0 H0 i T H Es fun st=>Weak st ⟨T',H'⟩:=akB h
theorem fS (m:Ren) (ks:List Nat) {ops:Array Oper} {draw:Bool} {T0:List V} {H0:Hp} {i:Nat} {T:List V} {H:Hp} {Es:List (Bool×Eff)} {T':List V} {H':Hp}
  (h:(Nat.ble ops.size i&&(Dh draw ops T0 H0 Es&&(m.ok&&m.keep&&Dm m)),zC m ks 0 T,tK m H m)=(true,T',some H'):=by kernel_rfl):W P G ops draw T0 H0 i T H Es fun st=>Weak st ⟨T',H'⟩:=atx m ks h
theorem sI {α:Type} {a b:α} (h:some a=some b):a=b:=lD h
end
end Go.Av
namespace Go.Av
def OwnAt (te:TypeId) (K:Nat) (w:World) (s:Value) (n:Nat) (olds:List Value):Prop:=
 (s=.slice none 0 0/\n=0/\olds=[])\/∃ g c cur,s=.slice (some ⟨g,0,none⟩) n c/\w.heap[g]?=some (.cells cur te (0,0))/\n<=c/\c<=maxLen/\cur.size=c*K/\olds=cur.toList.take (n*K)
def iW.at {ρ:Nat->Option Value} {S:Nat->Prop} {w:World} {r:Value} {nn:Bool} {te:TypeId} {K:Nat} {rows:List (List V)} {F:List Nat} (h:iW ρ S w r (.vec nn te K rows) F) (hnd:F.Nodup):
  ∃ (olds:List Value) (cs:Nat->Nat->Value) (Fs:Nat->Nat->List Nat),OwnAt te K w r rows.length olds/\olds.length=rows.length*K/\(∀ (i:Nat) (x:List V),rows[i]?=some x->x.length=K)/\
   (∀ (i j:Nat) (x:List V) (y:V),rows[i]?=some x->x[j]?=some y->olds[i*K+j]?=some (cs i j)/\RD S w (cs i j) y (Fs i j))/\
   (∀ v,v∈olds->v.oneCell'=true)/\(flat rows.length K Fs).Nodup/\(∀ b,b∈flat rows.length K Fs->b∈F/\r.ownBlock≠some b)/\(∀ g,r.ownBlock=some g->g∈F):=by
 cases h with
 | kZ=>
  exact ⟨[],fun _ _=>undef,fun _ _=>[],.inl ⟨rfl,rfl,rfl⟩,aA,fun i x h=>by simp at h,fun i j x y h=>by simp at h,fun v h=>(by cases h),by simp [flat],fun b h=>(by simp [flat] at h),fun g h=>by simp [Value.ownBlock] at h⟩
 | vec g cap arr _ _ _ _ cs Fs hh hcap hmax hsz hk hc hr tJ=>
  have htt:=tJ.2;cases tJ.1;have hl:(arr.toList.take<|rows.length*K).length=rows.length*K:=by
   rw [Gj];exact Nat.min_eq_left (zx (vW K hcap)<|Nat.le_of_eq hsz.symm)
  have hget:∀ (i j:Nat) (x:List V) (y:V),rows[i]?=some x->x[j]?=some y->(arr.toList.take<|rows.length*K)[i*K+j]?=some (cs i j):=fun i j x y h1 h2=>by
   have hi:i < rows.length:=(dw.1 h1).1;have hj:j < K:=by have:=(dw.1 h2).1;rw [hk i x h1] at this;exact this
   rw [yj,bQ<|Qp hi hj];simpa using hc i j x y h1 h2
  refine ⟨arr.toList.take<|rows.length*K,cs,Fs,.inr ⟨g,cap,arr,rfl,hh,hcap,hmax,hsz,rfl⟩,hl,hk,fun i j x y h1 h2=>⟨hget i j x y h1 h2,hr i j x y h1 h2⟩,fun v hv=>?_,(nK.1 hnd).2,fun b hb=>⟨nV _ hb,fun h=>?_⟩,fun g' h=>?_⟩
  .obtain ⟨p,hp⟩:=CV hv;have hlt:p < rows.length*K:=by rw [<- hl];exact (dw.1 hp).1
   have hk0:0 < K:=by
    rcases Ua K with h0|h0
    .rw [h0,YQ] at hlt;omega
    .exact h0
   have hi:p / K < rows.length:=acX (by rwa [LZ]);have hj:p % K < K:=Qd _ hk0;have h1:rows[p / K]?=some rows[p / K]:=eZ hi;have hj':p % K < rows[p / K].length:=by rw [hk _ _ h1];exact hj
   have h2:rows[p / K][p % K]?=some rows[p / K][p % K]:=eZ hj';have h3:=hget _ _ _ _ h1 h2;rw [show p / K*K+p % K=p by rw [LZ];exact YL p K,hp] at h3;cases h3;exact (hr _ _ _ _ h1 h2).one
  .simp only [Value.ownBlock,iQ] at h;subst h;exact (nK.1 hnd).1 hb
  .simp only [Value.ownBlock,iQ] at h;subst h;simp
section
variable {P:Program} {G:Nat->Option (List V)}
end
end Go.Av
namespace Go.Av
section
variable {P:Program} {G:Nat->Option (List V)}
def JG (a b:Int):Option Int:=bif b==0 then none else some (a.tmod b)
def akF (G:Nat->Option (List V)) (ops:Array Oper) (i:Nat) (T:List V):Option (V×V):=
 match nk ops i T with
 | some (.binOp .rem _ x y _)=>some (ev G T x,ev G T y)
 | _=>none
theorem W.rem {ops:Array Oper} {draw:Bool} {T0:List V} {H0:Hp} {i:Nat} {T:List V} {H:Hp} {Es:List (Bool×Eff)} {Q:St->Prop} {k:IntKind} {a b r:Int} (hx:JG a b=some r) (h:akF G ops i T=some (.c<|.int k a,.c<|.int k b))
  (kk:W P G ops draw T0 H0 (i+1) (eU T (iX ops i)<|.c<|.int k r) H (Es++[(true,{v:=.c (.int k r)})]) Q):W P G ops draw T0 H0 i T H Es Q:=by
 unfold JG at hx;cases hb:b==0 with
 | true=>rw [hb] at hx;cases hx
 | false=>
  rw [hb] at hx;have hx:=lD hx;subst hx;have hb': ¬b=0:=by simpa using hb
  unfold akF at h;split at h
  .rename_i t x y t' hop;simp only [iQ,nY] at h;refine zF (.c<|.int k<|a.tmod b) [] hop (fun o ho e' H' he _=>?_) kk;refine Zi (D:=[]) (fun t i h=>by simp [Tab.at] at h) ?_;rw [ho];have e1:=(he x fU).trans h.1;have e2:=(he y fU).trans h.2;simp [iI,Ze,e1,e2,Zc,hb']
  .cases h
theorem Dn {L:Option Nat} (T':List V) (H':Hp) {id:Nat} {l:List Oper} {draw:Bool} {T:List V} {H:Hp} {Q:Exit->St->Prop} (hm:P.follows .mixedOrders=true)
  (h:W P G l.toArray draw T H 0 T H [] fun st=>Weak st ⟨T',H'⟩) (k:Q .normal ⟨T',H'⟩):CO L P G (.region id l.toArray draw) ⟨T,H⟩ Q:=by
 have h1:CO L P G (.region id l.toArray draw) ⟨T,H⟩ (fun e st=>e=.normal/\Weak st ⟨T',H'⟩):=kJ T' H' hm h fun st hw=>⟨rfl,hw⟩
 intro B ρ S F a w R hst hn;refine h1 B ρ S F a w R hst fun e st2 he kH S2 F2 a2 w2 oF hE2 hA2=>?_;obtain ⟨rfl,hw⟩:=he;obtain ⟨dJ,S1,F1,h3,e1,a1⟩:=hw _ G kH S2 F2 a2 w2 oF;exact hn .normal _ k dJ S1 F1 a2 w2 h3 (hE2.trans e1) (hA2.trans a1)
end
end Go.Av
namespace Go.Av
section
variable {P:Program} {G:Nat->Option (List V)} {L:Option Nat}
def QG (D:Tab) (G:Nat->Option (List V)) (ops:Array Oper) (draw:Bool) (q:Nat) (T:List V) (H:Hp):Bool:=
 match BL D G ops ops.size q 0 T H with
 | some r=>Dh draw ops T H r.Es
 | none=>false
theorem lzW {D:Tab} (hD:dG P D) {q:Nat} {ops:Array Oper} {draw:Bool} {T:List V} {H:Hp} {Q:St->Prop} (h:QG D G ops draw q T H=true) (k:Q ⟨(pq D G ops ops.size q 0 T H).T,(pq D G ops ops.size q 0 T H).H⟩):W P G ops draw T H 0 T H [] Q:=by
 unfold QG at h;unfold pq at k;split at h
 .rename_i r hr;rw [hr] at k;exact Qw hD _ hr (Gz ah h k)
 .cases h
theorem cv {D:Tab} (hD:dG P D) (hm:P.follows .mixedOrders=true) (q:Nat) {id:Nat} {l:List Oper} {draw:Bool} {c:Code} {T:List V} {H:Hp} {Q:Exit->St->Prop}
  (k:CO L P G c ⟨(pq D G l.toArray l.toArray.size q 0 T H).T,(pq D G l.toArray l.toArray.size q 0 T H).H⟩ Q) (h:QG D G l.toArray draw q T H=true):CO L P G (.seq (.region id l.toArray draw) c) ⟨T,H⟩ Q:=
 aF hm (lzW hD h k)
def QH (m:Ren) (ks:List Nat) (b:Bool) (T:List V) (H:Hp):Bool×List V×Option Hp:=(b&&(m.ok&&m.keep&&Dm m),zC m ks 0 T,tK m H m)
theorem jnW {m:Ren} {ks:List Nat} {b:Bool} {T:List V} {H:Hp} {s:St} (h:QH m ks b T H=(true,s.T,some s.H)):b=true/\Weak ⟨T,H⟩ s:=by
 unfold QH at h;simp only [nY] at h;obtain ⟨h1,h2,h3⟩:=h;rw [dP] at h1;exact ⟨h1.1,ZF m ks h1.2 h2 h3⟩
theorem ck {D:Tab} (hD:dG P D) (hm:P.follows .mixedOrders=true) (q:Nat) {ι:Type} {J:ι->St} {R:ι->Prop} {id:Nat} {l:List Oper} {draw:Bool} {T:List V} {H:Hp} {Q:Exit->St->Prop} (hk:∀ i,R i->∀ st,Weak st (J i)->Q .normal st) (i:ι) (hi:R i) (m:Ren) (ks:List Nat)
  (h:QH m ks (QG D G l.toArray draw q T H) (pq D G l.toArray l.toArray.size q 0 T H).T (pq D G l.toArray l.toArray.size q 0 T H).H=(true,(J i).T,some (J i).H)):CO L P G (.region id l.toArray draw) ⟨T,H⟩ Q:=by
 obtain ⟨h1,h2⟩:=jnW h;exact jh hm (lzW hD h1<|hk i hi _ h2)
theorem sK {ι:Type} {J:ι->St} {R:ι->Prop} {T:List V} {H:Hp} {Q:Exit->St->Prop} (hk:∀ i,R i->∀ st,Weak st (J i)->Q .normal st) (i:ι) (hi:R i) (m:Ren) (ks:List Nat)
  (h:QH m ks true T H=(true,(J i).T,some (J i).H):=by kernel_rfl):CO L P G .skip ⟨T,H⟩ Q:=
 aW (hk i hi _ (jnW h).2)
theorem wF {ops:Array Oper} {draw:Bool} {T0:List V} {H0:Hp} {i:Nat} {T:List V} {H:Hp} {Es:List (Bool×Eff)} {Q:St->Prop} (k:Q ⟨T,H⟩) (h:(Nat.ble ops.size i&&Dh draw ops T0 H0 Es)=true:=by kernel_rfl):W P G ops draw T0 H0 i T H Es Q:=by
 simp only [dP,zA] at h;exact Gz h.1 h.2 k
theorem wK {ops:Array Oper} {draw:Bool} {T0:List V} {H0:Hp} {i:Nat} {T:List V} {H:Hp} {Es:List (Bool×Eff)} {ι:Type} {J:ι->St} {R:ι->Prop} {Q:St->Prop} (hk:∀ i,R i->∀ st,Weak st (J i)->Q st) (x:ι) (hi:R x) (m:Ren) (ks:List Nat)
  (h:QH m ks (Nat.ble ops.size i&&Dh draw ops T0 H0 Es) T H=(true,(J x).T,some (J x).H):=by kernel_rfl):W P G ops draw T0 H0 i T H Es Q:=by
 obtain ⟨h1,h2⟩:=jnW h;exact wF (hk x hi _ h2) h1
theorem cI {β:Type} {b:Bool} {X Y:Option β} {r:β} {x:Operand} {c1 c2:Code} {T:List V} {H:Hp} {Q:Exit->St->Prop} (h:(bif b then X else Y)=some r)
  (k:b=true->X=some r->CO L P G c1 ⟨T,H⟩ Q) (k':b=false->Y=some r->CO L P G c2 ⟨T,H⟩ Q) (hb:ev G T x=.c (.bool b):=by kernel_rfl):CO L P G (.cond x c1 c2) ⟨T,H⟩ Q:=
 cR (fun hc h=>UG hc (hc ▸ hb)<|k hc h) (fun hc h=>ajP hc (hc ▸ hb)<|k' hc h) h
theorem wJ {β:Type} {b:Bool} {X Y:Option β} {r:β} {ops:Array Oper} {draw:Bool} {T0:List V} {H0:Hp} {i:Nat} {T:List V} {H:Hp} {Es:List (Bool×Eff)} {Q:St->Prop} (d:Nat) (h:(bif b then X else Y)=some r)
  (k:X=some r->W P G ops draw T0 H0 i (T.set d<|.c<|.bool true) H Es Q) (k':Y=some r->W P G ops draw T0 H0 i (T.set d<|.c<|.bool false) H Es Q) (hd:T[d]?=some (.c<|.bool b):=by kernel_rfl):W P G ops draw T0 H0 i T H Es Q:=
 cR (fun hc h=>W.is d hc hd<|k h) (fun hc h=>W.is d hc hd<|k' h) h
def ZV (D:Tab) (G:Nat->Option (List V)) (ops:Array Oper) (draw:Bool) (n q:Nat) (rc:V) (T:List V) (H:Hp):Bool×Option (FuncId×List V×Hp)×V:=
 let r1:=pq D G ops n q 0 T H
 let T1:=eU r1.T (iX ops n) rc
 ((BL D G ops n q 0 T H).isSome&&match BL D G ops (ops.size - (n+1)) q (n+1) T1 r1.H with
  | some r=>Dh draw ops T H (r1.Es++[(true,{v:=rc})]++r.Es)
  | none=>false,GD G ops [] [] n r1.T r1.H,rc.rn [])
def ME (D:Tab) (G:Nat->Option (List V)) (ops:Array Oper) (n q:Nat) (rc:V) (T:List V) (H:Hp):Run:=
 pq D G ops (ops.size - (n+1)) q (n+1) (eU (pq D G ops n q 0 T H).T (iX ops n) rc) (pq D G ops n q 0 T H).H
theorem ccW {D:Tab} (hD:dG P D) (n q:Nat) {ops:Array Oper} {draw:Bool} {T:List V} {H:Hp} {Q:St->Prop} {fid:FuncId} {vs:List V} {rc:V} (hA:AC P G fid vs [] rc []) (hcf:uQ P fid)
  (h:ZV D G ops draw n q rc T H=(true,some (fid,vs,[]),rc)) (k:Q ⟨(ME D G ops n q rc T H).T,(ME D G ops n q rc T H).H⟩):W P G ops draw T H 0 T H [] Q:=by
 unfold ZV at h;simp only [nY,dP] at h;obtain ⟨⟨h1,h2⟩,h3,h4⟩:=h;refine W.run hD n q h1 (W.uT hA hcf h4 ?_ ?_)
 .rw [qV];exact h3
 .rw [qV];unfold ME at k;unfold pq at k;unfold pq at h2 ⊢;split at h2
  .rename_i r hr;rw [hr] at k;exact Qw hD _ hr (Gz ah (by simpa using h2) k)
  .cases h2
theorem cc {D:Tab} (hD:dG P D) (hm:P.follows .mixedOrders=true) (n q:Nat) {id:Nat} {l:List Oper} {draw:Bool} {c:Code} {T:List V} {H:Hp} {Q:Exit->St->Prop} {fid:FuncId} {vs:List V} {rc:V} (hA:AC P G fid vs [] rc []) (hcf:uQ P fid)
  (k:CO L P G c ⟨(ME D G l.toArray n q rc T H).T,(ME D G l.toArray n q rc T H).H⟩ Q) (h:ZV D G l.toArray draw n q rc T H=(true,some (fid,vs,[]),rc)):CO L P G (.seq (.region id l.toArray draw) c) ⟨T,H⟩ Q:=
 aF hm (ccW hD n q hA hcf h k)
theorem e1 (t:Tmp) {fn:Func} {T:List V} {H:Hp} {r:V} {Q:Exit->St->Prop} (hQ:Ends P fn r [] .ret ⟨T,H⟩->Q .ret ⟨T,H⟩) (hf:fn.results=#[.tmp t]:=by rfl) (h:(T[t]?,r.rn [])=(some r,r):=by kernel_rfl):CO L P G .ret ⟨T,H⟩ Q:=by
 simp only [nY] at h;exact aQ (hQ<|ajX [] (.inr rfl) (aN.one hf<|Za h.1) rfl h.2 rfl)
end
end Go.Av
namespace Go.Av
end Go.Av
namespace Go.Av
end Go.Av
namespace Go.Av
end Go.Av
namespace Go.Av
end Go.Av
namespace Go.Av
open Go.RowKit
def atD (P:Program) (f:FuncId):Prop:=
 (∀ (bk c:Nat) (xs:List ByteArray) (sep:ByteArray) (w:World),(∀ (j:Nat) x,xs[j]?=some x->w.cell? ⟨bk,0+j,none⟩=some (.string x))->bk < w.heap.size->xs.length<=140737488355328->xs.length<=c->
  (Lib.join (xs.map (·.data.toList)) sep.data.toList).length<=140737488355328->
  Calls P f #[.slice (some ⟨bk,0,none⟩) xs.length c,.string sep] w fun e w'=>e=.returned (.string ⟨(Lib.join (xs.map (·.data.toList)) sep.data.toList).toArray⟩)/\Below w.heap.size w w')/\
 ∀ (sep:ByteArray) (w:World),Calls P f #[.slice none 0 0,.string sep] w fun e w'=>e=.returned (.string ⟨#[]⟩)/\w'=w
def aGO {P:Program} {G:Nat->Option (List V)} {f:FuncId} {te:TypeId} (h:atD P f) (nn:Bool) (l:List (List UInt8)) (sep:List UInt8) (hlen:l.length<=1048576) (hj:(Lib.join l sep).length<=140737488355328):
  AC P G f [.own 0,V.s sep] [(0,.vec nn te 1<|l.map fq)] (V.s<|Lib.join l sep) [(0,.vec nn te 1<|l.map fq)]:=by
 intro ρ S F xs w hsz hxs hH hG;have l0:look [(0,Ob.vec nn te 1<|l.map fq)] 0=some (.vec nn te 1<|l.map fq):=rfl;obtain ⟨r0,hr0,ZW⟩:=hH.obj 0 _ l0;have hnd:=hH.nodup 0 _ l0;have x0:xs.getD 0 undef=r0:=by
  have h:RV ρ S w (xs.getD 0 undef) (.own 0):=hxs 0 _ rfl;exact h.BI _ hr0
 have x1:xs.getD 1 undef=.string ⟨⟨sep⟩⟩:=(hxs 1 _ rfl).iw;have hx:xs=#[r0,.string ⟨⟨sep⟩⟩]:=by
  have h3:xs.size=2:=hsz;apply Array.ext
  .exact h3
  .intro j h1 h2;have:j=0\/j=1:=ah;rcases this with rfl|rfl
   .simpa [Array.getD,h1] using x0
   .simpa [Array.getD,h1] using x1
 subst hx;have fin:∀ w',Below w.heap.size w w'->∃ x ρ' S' F',Ending.returned (.string ⟨⟨Lib.join l sep⟩⟩)=.returned x/\RV ρ' S' w' x (V.s<|Lib.join l sep)/\dI ρ' S' F' [(0,Ob.vec nn te 1<|l.map fq)] w'/\iE S (Ub [(0,Ob.vec nn te 1<|l.map fq)] F) w S' (Ub [(0,Ob.vec nn te 1<|l.map fq)] F') w'/\lX ρ ρ':=fun w' hb=>by
  have hP:=ajE hH [0] (i:=0) hr0 (Fi:=F 0) hb.os hb.tape hb.output hb.size (fun b hb' _=>hb.block b hb') (fun ρ'=>ZW.mono (fun _ _ _ h=>by cases h) (fun b hb'=>⟨hb',hb.block b<|hH.slt b hb'⟩) fun b hb'=>hb.block b<|hH.lt 0 _ b l0 hb') hnd (fun b hb'=>.inl ⟨0,_,aA,l0,hb'⟩) (x:=.string ⟨⟨Lib.join l sep⟩⟩) (v:=V.s (Lib.join l sep)) (.c _);obtain ⟨ρ',S',F',h1,h2,h3,h4⟩:=hP;exact ⟨_,ρ',S',F',rfl,h1,h2,h3,fun j r hj hr=>h4 j r hr aA⟩
 have hcase:(r0=.slice none 0 0/\l=[])\/∃ (g cap:Nat) (arr:Array Value),r0=.slice (some ⟨g,0,none⟩) l.length cap/\w.heap[g]?=some (.cells arr te (0,0))/\l.length<=cap/\
   (∀ (i:Nat) (x:List UInt8),l[i]?=some x->arr[i]?=some (Go.Proofs.encStr x)):=by
  generalize F 0=Fi at ZW;generalize hrows:l.map fq=rows at ZW;cases ZW with
  | kZ=>exact .inl ⟨rfl,List.map_eq_nil_iff.1 hrows⟩
  | vec g cap arr _ _ _ _ cc Fs hh hcap hmax Ms hk hc hr tJ=>
   have htt:=tJ.2;cases tJ.1;have hlen:rows.length=l.length:=by rw [<- hrows];simp
   refine .inr ⟨g,cap,arr,by rw [hlen],hh,ah,fun i x hx=>?_⟩;have h1:rows[i]?=some (fq x):=by rw [<- hrows,gD,hx];rfl
   have h2:=hc i 0 _ (V.s x) h1 rfl;have h3:=hr i 0 _ (V.s x) h1 rfl;rw [YT,EF] at h2;unfold V.s at h3;generalize cc i 0=v at h2 h3;generalize Fs i 0=fs at h3;cases h3;exact h2
 rcases hcase with ⟨rfl,rfl⟩|⟨g,cap,arr,rfl,hh,hcap,hval⟩
 .refine Calls.mono (h.2 ⟨⟨sep⟩⟩ w) fun e w' hq=>?_;obtain ⟨rfl,rfl⟩:=hq;exact fin w' (Below.refl _ _)
 .have hg:g < w.heap.size:=(qQ.1 hh).1;have hm:((l.map fun b=>(⟨⟨b⟩⟩:ByteArray)).map (·.data.toList))=l:=by
   rw [Jt];exact (zu fun _ _=>rfl).trans (Mc l)
  have:=h.1 g cap (l.map fun b=>(⟨⟨b⟩⟩:ByteArray)) ⟨⟨sep⟩⟩ w (fun j x hx=>by
   rw [gD] at hx;obtain ⟨b,hb,rfl⟩:=dZ.1 hx;unfold World.cell?;simp only [hh];simpa using hval j b hb) hg bF (by simpa using hcap) (by rw [hm];exact hj)
  rw [hm,ED] at this;refine Calls.mono this fun e w' hq=>?_;obtain ⟨rfl,hb⟩:=hq;exact fin w' hb
end Go.Av
namespace Go.Av
variable {P:Program}
end Go.Av
