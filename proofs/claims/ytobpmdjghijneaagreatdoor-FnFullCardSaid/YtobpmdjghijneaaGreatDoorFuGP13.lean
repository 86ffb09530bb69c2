/-
 Plain lemmas on the models, part 8.
-/
import Derived.Test.YtobpmdjghijneaaGreatDoorFuGP7
namespace Go.Proofs.Tryz
open Go.Av
set_option maxRecDepth 100000
set_option linter.all false
def pE (l:List aC) (i:Nat):List UInt8:=(l[i]?.map (·.Text)).getD []
def EM {l:List aC} {i:Nat} (h:i < l.length):pE l i=l[i].Text:=by unfold pE;rw [eY h];rfl
def tJ:aL:=⟨14,false,false,false,false⟩
mutual
inductive fZ (l:List aC):aL->Nat->Nat->av->Bool->Prop
 | par {p:aL} {i j:Nat} {t:av} {h:Bool}:kd l i=32->i+1 < j->j < l.length->fZ l bU (i+1) j t h->kd l j=33->fZ l p i (j+1) t true
 | bare {p:aL} {i j:Nat} {t:av}:mh t.kind t.op p=true->i < j->j<=l.length->iW l p i j t->fZ l p i j t false
inductive iW (l:List aC):aL->Nat->Nat->av->Prop
 | leaf {p:aL} {i:Nat} (k:Int):k=3\/k=4\/k=5->kd l i=k->iW l p i (i+1) ⟨k - 1,0,pE l i,[],[]⟩
 | name {p:aL} {i:Nat}:kd l i=6->iW l p i (i+1) ⟨1,0,pE l i,[],[]⟩
 | index {p:aL} {i j:Nat} {ts:List av}:kd l i=6->kd l (i+1)=34->i+2 < j->j < l.length->kd l j=35->ts.length<=6->xg l (i+2) j ts->iW l p i (j+1) ⟨5,0,pE l i,[],ts⟩
 | xJ {p:aL} {i:Nat} (k:Int):k=7\/k=8->kd l i=k->kd l (i+1)=32->kd l (i+2)=33->iW l p i (i+3) ⟨k,0,pE l i,[],[]⟩
 | call {p:aL} {i j:Nat} {ts:List av} (k:Int):k=7\/k=8->kd l i=k->kd l (i+1)=32->i+2 < j->j < l.length->kd l j=33->ts.length<=6->xg l (i+2) j ts->iW l p i (j+1) ⟨k,0,pE l i,[],ts⟩
 | len {p:aL} {i:Nat}:kd l i=8->kd l (i+1)≠32->pE l i=[108,101,110,103,116,104]->iW l p i (i+1) ⟨8,0,pE l i,[],[]⟩
 | field {p:aL} {i j:Nat} {t:av} {h:Bool}:kd l i=68->i+1 < j->fZ l ⟨14,true,false,false,false⟩ (i+1) j t h->iW l p i j ⟨6,0,[],[],[t]⟩
 | pre {p:aL} {i j:Nat} {t:av} (o:Int):o=51\/o=52->kd l i=o->gQ t.kind=true->i+1 < j->iW l tJ (i+1) j t->iW l p i j ⟨9,o,[],[],[t]⟩
 | post {p:aL} {i j:Nat} {t:av} (o:Int):o=51\/o=52->kd l j=o->gQ t.kind=true->i < j->iW l tJ i j t->iW l p i (j+1) ⟨10,o,[],[],[t]⟩
 | unary {p:aL} {i j:Nat} {t:av} {h:Bool} (o:Int):o=55\/o=56\/o=61->kd l i=o->i+1 < j->fZ l ⟨11,false,p.aY,p.bg,false⟩ (i+1) j t h->iW l p i j ⟨11,o,[],[],[t]⟩
 | bin {p:aL} {i m f j:Nat} {a b:av} {h1 h2:Bool} (o:Int):bA o≠0->o≠99->kd l m=o->i < m->f < j->((bA o=3\/bA o=4)/\Ln l (m+1) f\/ ¬(bA o=3\/bA o=4)/\f=m+1)->fZ l ⟨(jO o).1,false,p.aY,p.bg,p.jS⟩ i m a h1->fZ l ⟨(jO o).2,false,p.aY,p.bg,false⟩ f j b h2->iW l p i j ⟨12,o,[],[],[a,b]⟩
 | cat {p:aL} {i m j:Nat} {a b:av} {h1 h2:Bool}:i < m->m < j->fZ l ⟨8,false,p.aY,p.bg,p.jS⟩ i m a h1->fZ l ⟨9,false,p.aY,p.bg,true⟩ m j b h2->iW l p i j ⟨12,99,[],[],[a,b]⟩
 | one {p:aL} {i m:Nat} {t:av} {h:Bool}:i < m->kd l m=24->kd l (m+1)=6->fZ l ⟨5,false,p.aY,p.bg,p.jS⟩ i m t h->iW l p i (m+2) ⟨13,0,pE l<|m+1,[],[t]⟩
 | many {p:aL} {i m:Nat} {ts:List av}:kd l i=32->i+1 < m->kd l m=33->kd l (m+1)=24->kd l (m+2)=6->2<=ts.length->ts.length<=6->xg l (i+1) m ts->iW l p i (m+3) ⟨13,0,pE l<|m+2,[],ts⟩
 | cond {p:aL} {i m n j:Nat} {a b c:av} {h1 h2 h3:Bool}:i < m->kd l m=65->m+1 < n->kd l n=66->n+1 < j->fZ l ⟨3,false,p.aY,p.bg,p.jS⟩ i m a h1->fZ l ⟨2,false,p.aY,p.bg,false⟩ (m+1) n b h2->fZ l ⟨2,false,p.aY,p.bg,false⟩ (n+1) j c h3->iW l p i j ⟨14,0,[],[],[a,b,c]⟩
 | assign {p:aL} {i m j:Nat} {a b:av} {h:Bool} (o:Int):qG o=true->kd l m=o->i < m->m+1 < j->gQ a.kind=true->iW l tJ i m a->fZ l ⟨1,false,p.aY,p.bg,false⟩ (m+1) j b h->iW l p i j ⟨15,o,[],[],[a,b]⟩
inductive xg (l:List aC):Nat->Nat->List av->Prop
 | one {i j:Nat} {t:av} {h:Bool}:i < j->fZ l bU i j t h->xg l i j [t]
 | cons {i k f j:Nat} {t u:av} {ts:List av} {h:Bool}:i < k->kd l k=36->Ln l (k+1) f->f < j->fZ l bU i k t h->xg l f j (u::ts)->xg l i j (t::u::ts)
end
def fZ.lt {l:List aC} {p:aL} {i j:Nat} {t:av} {h:Bool} (d:fZ l p i j t h):i < j/\j<=l.length:=by
 cases d with
 | par=>omega
 | bare=>omega
def Ng {l:List aC} {m f:Nat} {P:Prop} (h:P/\Ln l (m+1) f\/ ¬P/\f=m+1):m+1<=f:=by
 rcases h with ⟨_,h⟩|⟨_,h⟩
 .exact h.1
 .omega
def qL {k o:Int} {p:aL} (h:mh k o p=true) (hd:p.Ct=false):p.Level<=lv k o:=by
 unfold mh at h;rw [hd] at h;simp only [dP,VJ,Vz,mP] at h;exact h.2.2.2.2
def fZ.lvl {l:List aC} {p:aL} {i j:Nat} {t:av} {h:Bool} (d:fZ l p i j t h) (hd:p.Ct=false):h=true\/p.Level<=lv t.kind t.op:=by
 cases d with
 | par=>exact .inl rfl
 | bare hfit=>exact .inr (qL hfit hd)
def avG {k o:Int} {p:aL} (h:mh k o p=true) (hs:p.jS=true):k≠11/\k≠9/\k≠4:=by
 unfold mh at h;rw [hs] at h;simp only [dP,Ae,lI,Nh,adk] at h;exact h.2.2.2.1
def avH {k o:Int} {p:aL} (h:mh k o p=true) (hk:k=13):p.aY=false:=by
 unfold mh at h;simp only [dP,lI,alg] at h;rcases h.2.1 with h|h
 .exact h
 .rw [hk] at h;cases h
def avI {k o:Int} {p:aL} (h:mh k o p=true) (hk:k=12) (ho:o=62):p.bg=false:=by
 unfold mh at h;simp only [dP,lI,alg] at h;rcases h.2.2.1 with h|h
 .exact h
 .rw [hk,ho] at h;rcases h with h|h<;>cases h
def avJ {o:Int} (h:12<=bA o):jO o=(13,11):=by
 have:=Ka o;have e:bA o=12:=ah;unfold jO;rw [e];rfl
def Ni {l:List aC} {p:aL} {i j:Nat} {t:av} (d:iW l p i j t) (h:gQ t.kind=true):kd l i=6\/kd l i=68:=by
 cases d with
 | leaf k h1 h2=>rcases h1 with rfl|rfl|rfl<;>cases h
 | name h1=>exact .inl h1
 | index h1=>exact .inl h1
 | xJ k h1=>rcases h1 with rfl|rfl<;>cases h
 | call k h1=>rcases h1 with rfl|rfl<;>cases h
 | field h1=>exact .inr h1
 | len|pre|post|unary|bin|cat|one|many|cond|assign=>cases h
def aah (k:Int):Bool:=uT k||(k==5||(k==51||(k==52||(k==55||(k==56||k==61)))))
structure NI (p:aL) (t:av) (k:Int):Prop where
 o:aah k=true
 s:p.jS=true->t.kind≠11->t.kind≠9->t.kind≠4->uT k=true
 a:12<=lv t.kind t.op->k≠55/\k≠56/\k≠61
 b:14<=lv t.kind t.op->k≠51/\k≠52
 c:15<=lv t.kind t.op->k≠68
structure FsD (p:aL) (t:av) (h:Bool) (k:Int):Prop where
 o:aah k=true
 s:p.jS=true->uT k=true
 a:h=true\/12<=lv t.kind t.op->k≠55/\k≠56/\k≠61
 b:h=true\/14<=lv t.kind t.op->k≠51/\k≠52
 c:h=true\/15<=lv t.kind t.op->k≠68
def NI.beg {p:aL} {t:av} {k:Int} (h:uT k=true) (a:12<=lv t.kind t.op->k≠55/\k≠56/\k≠61) (b:14<=lv t.kind t.op->k≠51/\k≠52) (c:15<=lv t.kind t.op->k≠68):NI p t k:=⟨by unfold aah;rw [h];rfl,fun _ _ _ _=>h,a,b,c⟩
def NI.Kn {p:aL} {t:av} {k:Int} (h:k=3\/k=4\/k=6\/k=7\/k=8\/k=32):NI p t k:=by
 rcases h with rfl|rfl|rfl|rfl|rfl|rfl<;>exact .beg rfl (fun _=>aJ) (fun _=>aJ) (fun _=>aJ)
def ali (l:List aC):∀ (n i j:Nat),j - i<=n->(∀ p t,i < j->iW l p i j t->NI p t (kd l i))/\(∀ p t h,fZ l p i j t h->FsD p t h (kd l i)):=by
 intro n;induction n with
 | zero=>exact fun i j hn=>⟨fun p t hij=>ah,fun p t h d=>by have:=d.lt;omega⟩
 | succ n ih=>
  intro i j hn;have hN:∀ p t,i < j->iW l p i j t->NI p t (kd l i):=by
   intro p t hij d;cases d with
   | leaf k h1 h2=>
    rw [h2];rcases h1 with rfl|rfl|rfl
    .exact .Kn ah
    .exact .Kn ah
    .exact ⟨rfl,fun _ _ _ h=>absurd rfl h,fun _=>aJ,fun _=>aJ,fun _=>aJ⟩
   | name h1=>exact .Kn ah
   | index h1=>exact .Kn ah
   | xJ k h1 h2=>exact .Kn ah
   | call k h1 h2=>exact .Kn ah
   | len h1=>exact .Kn ah
   | field h1=>rw [h1];exact .beg rfl (fun _=>aJ) (fun _=>aJ) (fun h=>absurd h<|by show¬(15:Int)<=14;omega)
   | pre o h1 h2=>
    rw [h2];exact ⟨by rcases h1 with rfl|rfl<;>rfl,fun _ _ h=>absurd rfl h,fun _=>ah,fun h=>absurd h (by show¬(14:Int)<=13;omega),fun h=>absurd h<|by show¬(15:Int)<=13;omega⟩
   | post o h1 h2 h3 h4 h5=>rcases Ni h5 h3 with e|e<;>rw [e]<;>exact .beg rfl (fun _=>aJ) (fun _=>aJ) (fun h=>absurd h<|by show¬(15:Int)<=13;omega)
   | unary o h1 h2=>
    rw [h2];exact ⟨by rcases h1 with rfl|rfl|rfl<;>rfl,fun _ h=>absurd rfl h,fun h=>absurd h (by show¬(12:Int)<=11;omega),fun h=>absurd h (by show¬(14:Int)<=11;omega),fun h=>absurd h<|by show¬(15:Int)<=11;omega⟩
   | bin o h1 h2 h3 h4 h5 h6 h7 h8=>
    have hlt:=h7.lt;have r:=(ih i _ (by have:=Ng h6;omega)).2 _ _ _ h7;have ho:=Ka o;refine ⟨r.o,fun hs _ _ _=>r.s hs,fun h=>r.a ?_,fun h=>absurd h (by show¬(14:Int)<=bA o;omega),fun h=>absurd h<|by show¬(15:Int)<=bA o;omega⟩;have h:12<=bA o:=h;cases h7 with
    | par=>exact .inl rfl
    | bare hf=>
     have:=qL hf rfl;rw [avJ h] at this;exact .inr (by have this:(13:Int)<=_:=this;omega)
   | cat h1 h2 h3 h4=>
    have r:=(ih i _ ah).2 _ _ _ h3;exact ⟨r.o,fun hs _ _ _=>r.s hs,fun h=>absurd h (by show¬(12:Int)<=8;omega),fun h=>absurd h (by show¬(14:Int)<=8;omega),fun h=>absurd h<|by show¬(15:Int)<=8;omega⟩
   | one h1 h2 h3 h4=>
    have r:=(ih i _ ah).2 _ _ _ h4;exact ⟨r.o,fun hs _ _ _=>r.s hs,fun h=>absurd h (by show¬(12:Int)<=5;omega),fun h=>absurd h (by show¬(14:Int)<=5;omega),fun h=>absurd h<|by show¬(15:Int)<=5;omega⟩
   | many h1=>exact .Kn ah
   | cond h1 h2 h3 h4 h5 h6=>
    have r:=(ih i _ ah).2 _ _ _ h6;exact ⟨r.o,fun hs _ _ _=>r.s hs,fun h=>absurd h (by show¬(12:Int)<=2;omega),fun h=>absurd h (by show¬(14:Int)<=2;omega),fun h=>absurd h<|by show¬(15:Int)<=2;omega⟩
   | assign o h1 h2 h3 h4 h5 h6=>rcases Ni h6 h5 with e|e<;>rw [e]<;>exact .beg rfl (fun _=>aJ) (fun _=>aJ) (fun h=>absurd h<|by show¬(15:Int)<=1;omega)
  refine ⟨hN,fun p t h d=>?_⟩;cases d with
  | par h1=>rw [h1];exact ⟨rfl,fun _=>rfl,fun _=>aJ,fun _=>aJ,fun _=>aJ⟩
  | bare hf hij _ d=>
   have r:=hN p t hij d;refine ⟨r.o,fun hs=>?_,fun h=>r.a ?_,fun h=>r.b ?_,fun h=>r.c ?_⟩
   .obtain ⟨s1,s2,s3⟩:=avG hf hs;exact r.s hs s1 s2 s3
   all_goals
    rcases h with h|h
    .cases h
    .exact h
def fZ.first {l:List aC} {p:aL} {i j:Nat} {t:av} {h:Bool} (d:fZ l p i j t h):FsD p t h (kd l i):=(ali l (j - i) i j<|dX _).2 p t h d
def iW.first {l:List aC} {p:aL} {i j:Nat} {t:av} (d:iW l p i j t) (h:i < j):NI p t (kd l i):=(ali l (j - i) i j<|dX _).1 p t h d
def seg (l:List aC) (i j:Nat):List aC:=(l.drop i).take (j - i)
def NJ {l:List aC} {i m j:Nat} (h1:i<=m) (h2:m<=j):seg l i j=seg l i m++seg l m j:=by
 unfold seg;have e:j - i=(m - i)+(j - m):=ah;rw [e,List.take_add,Ws,show i+(m - i)=m by omega]
def Ko {l:List aC} {i:Nat} (h:i < l.length):seg l i (i+1)=[l[i]]:=by
 unfold seg;rw [show i+1 - i=1 by omega,EN h];rfl
def avK (l:List aC) (i:Nat):seg l i i=[]:=by
 unfold seg;rw [aeo];rfl
def alj {l:List aC} {i j:Nat}:Sg l i (seg l i j):=⟨(l.drop i).drop<|j - i,by unfold seg;rw [List.take_append_drop]⟩
def Bl (l:List aC) (e i j:Nat):Prop:=∀ d y,inn (e+d) (seg l i j++y)=inn (e+d) y
def Bl.nil (l:List aC) (e i:Nat):Bl l e i i:=fun d y=>by rw [avK,Hz]
def Bl.up {l:List aC} {i j:Nat} (h:Bl l 0 i j) (e:Nat):Bl l e i j:=fun d y=>by
 have:=h (e+d) y;rwa [rW] at this
def Bl.app {l:List aC} {e i m j:Nat} (h1:i<=m) (h2:m<=j) (a:Bl l e i m) (b:Bl l e m j):Bl l e i j:=fun d y=>by
 rw [NJ h1 h2,nC,a d,b d]
def Bl.tok {l:List aC} {i:Nat} (hi:i < l.length) (h:NH (kd l i)=true) (e:Nat):Bl l e i (i+1):=fun d y=>by
 rw [Ko hi];exact avD (by rw [<- BG hi];exact h) _ _
def avL {l:List aC} {i:Nat} (hi:i < l.length) (h:kd l i=36):Bl l 1 i (i+1):=fun d y=>by
 rw [Ko hi];have hk:l[i].Kind=36:=by rw [<- BG hi];exact h
 show inn (1+d) (l[i]::y)=_;rw [inn,hk];have:(1+d==0)=false:=aA;rw [this];rfl
def Bl.wrap {l:List aC} {i j:Nat} (hij:i < j) (hj:j < l.length) (ho:mQ (kd l i)=true) (hc:nU (kd l j)=true) (h:Bl l 1 (i+1) j):Bl l 0 i (j+1):=fun d y=>by
 have hi:i < l.length:=ah;rw [NJ (show i<=i+1 by omega) (show i+1<=j+1 by omega),NJ (show i+1<=j by omega) (show j<=j+1 by omega),Ko hi,Ko hj,nC,nC];show inn (0+d) (l[i]::(seg l (i+1) j++l[j]::y))=_;rw [avE (by rw [<- BG hi];exact ho),show 0+d+1=1+d by omega,h d,show 1+d=0+d+1 by omega,avF<|by rw [<- BG hj];exact hc]
def Bl.ln {l:List aC} {e:Nat}:∀ (n a f:Nat),f - a<=n->a<=f->f<=l.length->(∀ k,a<=k->k < f->kd l k=1)->Bl l e a f
 | 0,a,f,h,h1,_,_=>by
  have:a=f:=ah;subst this;exact .nil l e a
 | n+1,a,f,h,h1,h2,hk=>by
  by_cases ha:a=f
  .subst ha;exact .nil l e a
  .exact (Bl.tok ah (by rw [hk a ah ah];rfl) e).app ah ah (Bl.ln n (a+1) f ah ah h2 fun k h3 h4=>hk k ah h4)
def alk {k:Int} (h:k≠32/\k≠34/\k≠30/\k≠33/\k≠35/\k≠31/\k≠36):NH k=true:=by
 unfold NH mQ nU;obtain ⟨h1,h2,h3,h4,h5,h6,h7⟩:=h;have f:∀ {z:Int},k≠z->(k==z)=false:=fun h=>by simpa using h
 rw [f h1,f h2,f h3,f h4,f h5,f h6,f h7];rfl
def avM {o:Int} (h:bA o≠0):NH o=true:=by
 refine alk ?_;refine ⟨?_,?_,?_,?_,?_,?_,?_⟩<;>(intro e;subst e;exact h rfl)
def avN {o:Int} (h:qG o=true):NH o=true:=by
 refine alk ?_;refine ⟨?_,?_,?_,?_,?_,?_,?_⟩<;>(intro e;subst e;cases h)
def aeC {l:List aC} {i:Nat} {k:Int} (h:kd l i=k) (hk:k≠0):i < l.length:=aev (by rw [h];exact hk)
def avO (l:List aC):∀ (n i j:Nat),j - i<=n->(∀ p t,i < j->j<=l.length->iW l p i j t->Bl l 0 i j)/\(∀ p t h,fZ l p i j t h->Bl l 0 i j)/\(∀ ts,j<=l.length->xg l i j ts->Bl l 1 i j):=by
 intro n;induction n with
 | zero=>
  refine fun i j hn=>⟨fun p t hij=>ah,fun p t h d=>by have:=d.lt;omega,fun ts hj d=>?_⟩
  cases d with
  | one h1 h2=>have:=h2.lt;omega
  | cons h1 h2 h3 h4=>have:=h3.1;omega
 | succ n ih=>
  intro i j hn;have hN:∀ p t,i < j->j<=l.length->iW l p i j t->Bl l 0 i j:=by
   intro p t hij hj d;cases d with
   | leaf k h1 h2=>exact .tok ah (by rw [h2];rcases h1 with rfl|rfl|rfl<;>rfl) 0
   | name h1=>exact .tok ah (by rw [h1];rfl) 0
   | index h1 h2 h3 h4 h5 h6 h7=>exact (Bl.tok ah (by rw [h1];rfl) 0).app ah ah (.wrap ah h4 (by rw [h2];rfl) (by rw [h5];rfl)<|(ih (i+2) _ ah).2.2 _ ah h7)
   | xJ k h1 h2 h3 h4=>exact (Bl.tok ah (by rw [h2];rcases h1 with rfl|rfl<;>rfl) 0).app ah ah (Bl.wrap (i:=i+1) (j:=i+2) ah ah (by rw [h3];rfl) (by rw [h4];rfl)<|.nil l 1 _)
   | call k h1 h2 h3 h4 h5 h6 h7 h8=>exact (Bl.tok ah (by rw [h2];rcases h1 with rfl|rfl<;>rfl) 0).app ah ah (.wrap ah h5 (by rw [h3];rfl) (by rw [h6];rfl)<|(ih (i+2) _ ah).2.2 _ ah h8)
   | len h1=>exact .tok ah (by rw [h1];rfl) 0
   | field h1 h2 h3=>exact (Bl.tok ah (by rw [h1];rfl) 0).app ah ah ((ih (i+1) j ah).2.1 _ _ _ h3)
   | pre o h1 h2 h3 h4 h5=>exact (Bl.tok ah (by rw [h2];rcases h1 with rfl|rfl<;>rfl) 0).app ah ah ((ih (i+1) j ah).1 _ _ h4 hj h5)
   | post o h1 h2 h3 h4 h5=>exact ((ih i _ ah).1 _ _ h4 ah h5).app ah ah (.tok ah (by rw [h2];rcases h1 with rfl|rfl<;>rfl) 0)
   | unary o h1 h2 h3 h4=>exact (Bl.tok ah (by rw [h2];rcases h1 with rfl|rfl|rfl<;>rfl) 0).app ah ah ((ih (i+1) j ah).2.1 _ _ _ h4)
   | @bin _ _ m f _ a b _ _ o h1 h2 h3 h4 h5 h6 h7 h8=>
    have hl7:=h7.lt;have hl8:=h8.lt;have Nj:m+1<=f:=Ng h6;have ln:Bl l 0 (m+1) f:=by
     rcases h6 with ⟨_,h6⟩|⟨_,h6⟩
     .exact .ln (f - (m+1)) _ _ ah Nj ah h6.2.1
     .rw [h6];exact .nil l 0 _
    exact ((ih i m ah).2.1 _ _ _ h7).app ah ah ((Bl.tok ah (by rw [h3];exact avM h1) 0).app ah ah<|ln.app Nj ah<|(ih f j ah).2.1 _ _ _ h8)
   | cat h1 h2 h3 h4=>exact ((ih i _ ah).2.1 _ _ _ h3).app ah ah ((ih _ j ah).2.1 _ _ _ h4)
   | @one _ _ m t h h1 h2 h3 h4=>exact ((ih i m ah).2.1 _ _ _ h4).app ah ah ((Bl.tok ah (by rw [h2];rfl) 0).app ah ah<|Bl.tok (i:=m+1) ah (by rw [h3];rfl) 0)
   | @many _ _ m ts h1 h2 h3 h4 h5 h6 h7 h8=>exact (Bl.wrap ah ah (by rw [h1];rfl) (by rw [h3];rfl)<|(ih (i+1) m ah).2.2 _ ah h8).app ah ah ((Bl.tok (i:=m+1) ah (by rw [h4];rfl) 0).app ah ah<|Bl.tok (i:=m+2) ah (by rw [h5];rfl) 0)
   | @cond _ _ m n2 _ a b c _ _ _ h1 h2 h3 h4 h5 h6 h7 h8=>exact ((ih i m ah).2.1 _ _ _ h6).app ah ah ((Bl.tok ah (by rw [h2];rfl) 0).app ah ah<|((ih (m+1) n2 ah).2.1 _ _ _ h7).app ah ah<|(Bl.tok ah (by rw [h4];rfl) 0).app ah ah<|(ih (n2+1) j ah).2.1 _ _ _ h8)
   | @assign _ _ m _ a b _ o h1 h2 h3 h4 h5 h6 h7=>exact ((ih i m ah).1 _ _ h3 ah h6).app ah ah ((Bl.tok ah (by rw [h2];exact avN h1) 0).app ah ah<|(ih (m+1) j ah).2.1 _ _ _ h7)
  refine ⟨hN,fun p t h d=>?_,fun ts hj d=>?_⟩
  .cases d with
   | par h1 h2 h3 h4 h5=>exact .wrap ah h3 (by rw [h1];rfl) (by rw [h5];rfl) (((ih (i+1) _ ah).2.1 _ _ _ h4).up 1)
   | bare h1 h2 h3 h4=>exact hN p t h2 h3 h4
  .cases d with
   | one h1 h2=>
    cases h2 with
    | par g1 g2 g3 g4 g5=>exact (Bl.wrap ah g3 (by rw [g1];rfl) (by rw [g5];rfl)<|((ih (i+1) _ ah).2.1 _ _ _ g4).up 1).up 1
    | bare g1 g2 g3 g4=>exact (hN _ _ g2 g3 g4).up 1
   | @cons _ k f _ t u ts h h1 h2 h3 h4 h5 h6=>
    have:=h3.1;exact (((ih i k ah).2.1 _ _ _ h5).up 1).app ah ah ((avL ah h2).app ah ah<|(Bl.ln (f - (k+1)) _ _ ah ah ah h3.2.1).app ah ah<|(ih f j ah).2.2 _ hj h6)
def fZ.bal {l:List aC} {p:aL} {i j:Nat} {t:av} {h:Bool} (d:fZ l p i j t h):Bl l 0 i j:=(avO l (j - i) i j<|dX _).2.1 p t h d
def Bl.inn {l:List aC} {i j:Nat} (h:Bl l 0 i j):inn 0 (seg l i j)=true:=by
 have:=h 0 [];rw [pJ] at this;rw [this];rfl
def aln (l:List aC) (hl:l.length<=3000):∀ (n i j:Nat),j - i<=n->(∀ p t,i < j->j<=l.length->iW l p i j t->6<=lv t.kind t.op->qm l i false)/\(∀ p t h,fZ l p i j t h->h=true\/6<=lv t.kind t.op->qm l i false):=by
 intro n;induction n with
 | zero=>exact fun i j hn=>⟨fun p t hij=>ah,fun p t h d=>by have:=d.lt;omega⟩
 | succ n ih=>
  intro i j hn;have no:∀ k:Int,kd l i=k->k≠32->qm l i false:=fun k h hk=>avy l i (by rw [h];exact hk);have hN:∀ p t,i < j->j<=l.length->iW l p i j t->6<=lv t.kind t.op->qm l i false:=by
   intro p t hij hj d h6;cases d with
   | leaf k h1 h2=>exact no k h2 ah
   | name h1=>exact no 6 h1 aJ
   | index h1=>exact no 6 h1 aJ
   | xJ k h1 h2=>exact no k h2 ah
   | call k h1 h2=>exact no k h2 ah
   | len h1=>exact no 8 h1 aJ
   | field h1=>exact no 68 h1 aJ
   | pre o h1 h2=>exact no o h2 ah
   | post o h1 h2 h3 h4 h5=>rcases Ni h5 h3 with e|e<;>exact no _ e aJ
   | unary o h1 h2=>exact no o h2 ah
   | @bin _ _ m f _ a b _ _ o h1 h2 h3 h4 h5 h6' h7 h8=>
    have Nj:m+1<=f:=Ng h6';refine (ih i m ah).2 _ _ _ h7 ?_;have h6:6<=bA o:=h6;cases h7 with
    | par=>exact .inl rfl
    | bare hf=>
     have hs:7<=(jO o).1:=by
      have ho:=Ka o;have:bA o=6\/bA o=7\/bA o=8\/bA o=9\/bA o=10\/bA o=11\/bA o=12:=ah;unfold jO;rcases this with e|e|e|e|e|e|e<;>rw [e]<;>decide
     exact .inr (by have:=qL hf rfl;have this:(jO o).1<=_:=this;omega)
   | @cat _ _ m _ a b _ _ h1 h2 h3 h4=>
    refine (ih i m ah).2 _ _ _ h3 ?_;cases h3 with
    | par=>exact .inl rfl
    | bare hf=>exact .inr (by have:=qL hf rfl;have this:(8:Int)<=_:=this;omega)
   | one=>exact absurd h6 (by show¬(6:Int)<=5;omega)
   | many=>exact absurd h6 (by show¬(6:Int)<=5;omega)
   | cond=>exact absurd h6 (by show¬(6:Int)<=2;omega)
   | assign=>exact absurd h6 (by show¬(6:Int)<=1;omega)
  refine ⟨hN,fun p t h d hh=>?_⟩;cases d with
  | @par _ _ j t h h1 h2 h3 h4 h5=>
   have hi:i < l.length:=ah;refine avw l hl i l[i] l[j] (seg l (i+1) j) ?_ (by rw [<- BG hi];exact h1) (by rw [<- BG h3,h5];rfl) h4.bal.inn;have:=alj (l:=l) (i:=i) (j:=j+1);rwa [NJ (show i<=i+1 by omega) (show i+1<=j+1 by omega),NJ (show i+1<=j by omega) (show j<=j+1 by omega),Ko hi,Ko h3] at this
  | bare h1 h2 h3 h4=>
   rcases hh with h|h
   .cases h
   .exact hN p t h2 h3 h4 h
def fZ.cm {l:List aC} (hl:l.length<=3000) {p:aL} {i j:Nat} {t:av} {h:Bool} (d:fZ l p i j t h) (hh:h=true\/6<=lv t.kind t.op):qm l i false:=(aln l hl (j - i) i j<|dX _).2 p t h d hh
def NK {lv:Int} {q:aL} {k:Int} (h1:lv=1->qG k=false) (h2:lv=2->k≠65) (h5:lv=5->k≠24) (h8:lv=8->uT k=false) (h12:lv=12->k≠60) (ZO:lv=13->k≠51/\k≠52) (ho:bA k≠lv):cont lv q k=false:=by
 have f:∀ {a b:Int},a≠b->(a==b)=false:=fun h=>by simpa using h
 unfold cont;by_cases e1:lv=1
 .subst e1;exact h1 rfl
 by_cases e2:lv=2
 .subst e2;exact f (h2 rfl)
 by_cases e5:lv=5
 .subst e5;show (k==24&&!q.aY)=false;rw [f<|h5 rfl];rfl
 by_cases e8:lv=8
 .subst e8;exact h8 rfl
 by_cases e12:lv=12
 .subst e12;exact f (h12 rfl)
 by_cases e13:lv=13
 .subst e13;show (k==51||k==52)=false;rw [f (ZO rfl).1,f (ZO rfl).2];rfl
 rw [f e1,f e2,f e5,f e8,f e12,f e13,f ho];cases (lv==11)<;>cases (lv==14)<;>cases (lv==15)<;>simp
def QO {k:Int} (h:qG k=true):(38<=k/\k<=43)\/k=54:=by
 unfold qG Bo at h;rw [EK] at h;by_cases e:k=54
 .exact .inr e
 .have:(k==54)=false:=by simpa using e
  rw [this] at h;left;simpa using h
def GY {o:Int} (h:bA o≠0):o=44\/o=45\/o=67\/o=46\/o=63\/o=48\/o=47\/o=50\/o=62\/o=49\/o=99\/o=55\/o=56\/o=57\/o=58\/o=59\/o=60:=by
 apply Classical.byContradiction;intro hn;simp only [not_or] at hn;obtain ⟨a1,a2,a3,a4,a5,a6,a7,a8,a9,a10,a11,a12,a13,a14,a15,a16,a17⟩:=hn;apply h;have f:∀ {a b:Int},¬a=b->(a==b)=false:=fun h=>by simpa using h
 unfold bA Nb Vu GU Vt QH;simp only [f a1,f a2,f a3,f a4,f a5,f a6,f a7,f a8,f a9,f a10,f a11,f a12,f a13,f a14,f a15,f a16,f a17,aI,aaj]
def Zn {k:Int} (h:uT k=true):k=3\/k=4\/k=6\/k=7\/k=8\/k=32\/k=68:=by
 unfold uT at h;simp only [mX,qj] at h;omega
def aak {k:Int} (h:k=33\/k=35\/k=36\/k=66) (q:aL) (b:Int) (hb:1<=b):jC (aZ q b) k:=by
 refine ⟨ah,fun lv hv=>?_⟩;have hv:b<=lv:=hv;rcases h with rfl|rfl|rfl|rfl<;>exact NK (fun _=>rfl) (fun _=>aJ) (fun _=>aJ) (fun _=>rfl) (fun _=>aJ) (fun _=>aJ) (by show (0:Int)≠lv;omega)
def avU (q:aL) (b:Int) (hb:3<=b):jC (aZ q b) 65:=by
 refine ⟨ah,fun lv hv=>?_⟩;have hv:b<=lv:=hv;exact NK (fun _=>rfl) (fun _=>ah) (fun _=>aJ) (fun _=>rfl) (fun _=>aJ) (fun _=>aJ) (by show (0:Int)≠lv;omega)
def avV (q:aL) (b:Int) (hb:6<=b):jC (aZ q b) 24:=by
 refine ⟨ah,fun lv hv=>?_⟩;have hv:b<=lv:=hv;exact NK (fun _=>rfl) (fun _=>ah) (fun _=>ah) (fun _=>rfl) (fun _=>aJ) (fun _=>aJ) (by show (0:Int)≠lv;omega)
def avW {k:Int} (h:k=51\/k=52) (q:aL) (b:Int) (hb:14<=b):jC (aZ q b) k:=by
 refine ⟨ah,fun lv hv=>?_⟩;have hv:b<=lv:=hv;rcases h with rfl|rfl<;>exact NK (fun _=>rfl) (fun _=>ah) (fun _=>ah) (fun _=>rfl) (fun _=>aJ) (fun _=>ah) (by show (0:Int)≠lv;omega)
def avX {k:Int} (h:qG k=true) (q:aL) (b:Int) (hb:2<=b):jC (aZ q b) k:=by
 have hl:=QO h;refine ⟨ah,fun lv hv=>?_⟩;have hv:b<=lv:=hv;have h8:uT k=false:=by
  cases e:uT k with
  | false=>rfl
  | true=>have:=Zn e;omega
 refine NK (fun _=>ah) (fun _=>ah) (fun _=>ah) (fun _=>h8) (fun _=>ah) (fun _=>ah) ?_;intro e;have:=GY (o:=k) ah;omega
def aeD {k:Int} (h:bA k≠0) (pG:k≠99) (q:aL) (b:Int) (hb:bA k < b):jC (aZ q b) k:=by
 have hl:=GY h;refine ⟨ah,fun lv hv=>?_⟩;have hv:b<=lv:=hv;have h8:uT k=false:=by
  cases e:uT k with
  | false=>rfl
  | true=>have:=Zn e;omega
 have h1:qG k=false:=by
  cases e:qG k with
  | false=>rfl
  | true=>have:=QO e;omega
 refine NK (fun _=>h1) (fun _=>ah) (fun _=>ah) (fun _=>h8) (fun e=>?_) (fun _=>ah) ah;intro e60;subst e60;have:(12:Int) < b:=hb;omega
def avY {k:Int} (h:uT k=true) (q:aL) (b:Int) (hb:9<=b):jC (aZ q b) k:=by
 have hl:=Zn h;refine ⟨ah,fun lv hv=>?_⟩;have hv:b<=lv:=hv;have h1:qG k=false:=by
  cases e:qG k with
  | false=>rfl
  | true=>have:=QO e;omega
 refine NK (fun _=>h1) (fun _=>ah) (fun _=>ah) (fun _=>ah) (fun e=>ah) (fun _=>ah) ?_;intro e;have:=GY (o:=k) ah;omega
def jC.to {q:aL} {a b:Int} {k:Int} (h:jC (aZ q a) k) (hab:a<=b):jC (aZ q b) k:=⟨h.1,fun lv hv=>h.2 lv (by have hv:b<=lv:=hv;show a<=lv;omega)⟩
def jC.eleven {q:aL} {k:Int} (h:jC (aZ q 12) k):jC (aZ q 11) k:=⟨h.1,fun lv hv=>by
 have hv:11<=lv:=hv;by_cases e:lv=11
 .subst e;rfl
 .exact h.2 lv (by show 12<=lv;omega)⟩
def alo {l:List aC} {q:aL} {i j:Nat} {t:av} {h:Bool} (hsz:aX t<=400):∀ (n:Nat) (b:Int),1<=b->b+n<=11->(6<=b+n->qm l i false)->Rd l (aZ q<|b+n) i j t h->jC (aZ q b) (kd l j)->Rd l (aZ q b) i j t h
 | 0,b,_,_,_,hr,_=>by
  have:b+((0:Nat):Int)=b:=ah;rw [this] at hr;exact hr
 | n+1,b,h1,h2,hcm,hr,hn=>by
  have e:b+((n+1:Nat):Int)=(b+1)+(n:Int):=ah;rw [e] at hr hcm;exact alf b h1 ah hsz (alo hsz n (b+1) ah ah hcm hr<|hn.to ah) (hn.2 b<|ZR b) fun e5 _=>hcm ah
def desc {l:List aC} {q:aL} {i j:Nat} {t:av} {h:Bool} (hsz:aX t<=400) (a b:Int) (hb:1<=b) (hab:b<=a) (ha:a<=11) (hcm:6<=a->qm l i false) (hr:Rd l (aZ q a) i j t h) (hn:jC (aZ q b) (kd l j)):Rd l (aZ q b) i j t h:=by
 have e:b+(((a - b).toNat:Nat):Int)=a:=ah;exact alo hsz (a - b).toNat b hb ah (by rw [e];exact hcm) (by rw [e];exact hr) hn
def aeE {l:List aC} {q:aL} {i j:Nat} {t:av} {h:Bool} (hsz:aX t<=400) (b:Int) (hb:1<=b) (hb2:b<=13) (hcm:qm l i false) (hk:kd l i≠55/\kd l i≠56/\kd l i≠61) (hr:Rd l (aZ q 13) i j t h) (hn:jC (aZ q b) (kd l j)):Rd l (aZ q b) i j t h:=by
 have f:∀ {z:Int},kd l i≠z->(kd l i==z)=false:=fun h=>by simpa using h
 by_cases e13:b=13
 .subst e13;exact hr
 have c12:cont 12 q (kd l j)=false:=hn.2 12 (by show b<=12;omega);by_cases e12:b=12
 .subst e12;exact avB hr c12
 have fT:=avC hr c12 (by rw [f hk.1,f hk.2.1,f hk.2.2];rfl);exact desc hsz 11 b hb ah ah (fun _=>hcm) fT hn
def alp {l:List aC} {q:aL} {i j:Nat} {t:av} {h:Bool} (hsz:aX t<=400) (b:Int) (hb:1<=b) (hb2:b<=14) (hcm:qm l i false) (hk:kd l i≠55/\kd l i≠56/\kd l i≠61) (hk2:kd l i≠51/\kd l i≠52) (hr:Rd l (aZ q 14) i j t h) (hn:jC (aZ q b) (kd l j)):Rd l (aZ q b) i j t h:=by
 have f:∀ {z:Int},kd l i≠z->(kd l i==z)=false:=fun h=>by simpa using h
 by_cases e14:b=14
 .subst e14;exact hr
 exact aeE hsz b hb ah hcm hk (avA hr (by rw [f hk2.1,f hk2.2];rfl)<|hn.2 13<|by show b<=13;omega) hn
def NM {l:List aC} {q:aL} {i j:Nat} {t:av} {h:Bool} (hsz:aX t<=400) (b:Int) (hb:1<=b) (hb2:b<=15) (hcm:qm l i false) (hk:kd l i≠55/\kd l i≠56/\kd l i≠61) (hk2:kd l i≠51/\kd l i≠52) (hk3:kd l i≠68) (hr:Rd l (aZ q 15) i j t h) (hn:jC (aZ q b) (kd l j)):Rd l (aZ q b) i j t h:=by
 by_cases e15:b=15
 .subst e15;exact hr
 exact alp hsz b hb ah hcm hk hk2 (avz hr hk3) hn
def BQ (k o:Int) (x y:List UInt8) (t:av):aX ⟨k,o,x,y,[t]⟩=aX t+1:=by simp only [aX,aT]
def HV (k o:Int) (x y:List UInt8) (t u:av):aX ⟨k,o,x,y,[t,u]⟩=aX t+aX u+1:=by simp only [aX,aT];omega
def alq (k o:Int) (x y:List UInt8) (t u v:av):aX ⟨k,o,x,y,[t,u,v]⟩=aX t+aX u+aX v+1:=by simp only [aX,aT];omega
structure NP (l:List aC) (n:Nat):Prop where
 N:∀ i j,j - i<=n->∀ p t,i < j->j<=l.length->iW l p i j t->aX t<=400->∀ q,(t.kind<=9\/(q.aY=p.aY/\q.bg=p.bg))->(t.kind=13->q.aY=false)->(t.kind=12->t.op=62->q.bg=false)->∀ b,1<=b->b<=lv t.kind t.op->jC (aZ q b) (kd l j)->Rd l (aZ q b) i j t false
 D:∀ i j,j - i<=n->∀ p t h,fZ l p i j t h->aX t<=400->∀ q,q.aY=p.aY->q.bg=p.bg->∀ b,1<=b->b<=15->(h=true\/b<=lv t.kind t.op)->jC (aZ q b) (kd l j)->Rd l (aZ q b) i j t h
 C:∀ i j,j - i<=n->∀ p t h,fZ l p i j t h->aX t<=400->∀ q,q.aY=p.aY->q.bg=p.bg->∀ v sd,Dq v 3000 sd->(h=true\/v<=lv t.kind t.op)->jC (aZ q<|v+1) (kd l j)->∃ c,c < j - i/\Ch l v 3000 sd (aZ q v) i j t h c
 I:∀ i j,j - i<=n->∀ p t h,fZ l p i j t h->aX t<=400->∀ q,q.aY=p.aY->q.bg=p.bg->q.aY=false->(h=true\/5<=lv t.kind t.op)->jC (aZ q 6) (kd l j)->∃ c,c < j - i/\Am l (aZ q 5) i j t h c
 L:∀ i j,j - i<=n->∀ ts en,xg l i j ts->kd l j=en->(en=33\/en=35)->j < l.length->aT ts<=400->Km l en i (j+1) ts
def adl {l:List aC} {i j:Nat} {ts:List av} (d:xg l i j ts):aah (kd l i)=true:=by
 cases d with
 | one h1 h2=>exact h2.first.o
 | cons h1 h2 h3 h4 h5 h6=>exact h5.first.o
def aeF {o:Int} (h:bA o=3\/bA o=4\/bA o=9\/bA o=10):Dq (bA o) 3000 (jO o)/\(jO o).1=bA o:=by
 unfold jO;rcases h with e|e|e|e<;>rw [e]
 .exact ⟨.inl ⟨rfl,rfl,rfl⟩,rfl⟩
 .exact ⟨.inr<|.inl ⟨rfl,rfl,rfl⟩,rfl⟩
 .exact ⟨.inr<|.inr<|.inr<|.inr<|.inr<|.inl ⟨rfl,rfl,rfl⟩,rfl⟩
 .exact ⟨.inr<|.inr<|.inr<|.inr<|.inr<|.inr ⟨rfl,rfl,rfl⟩,rfl⟩
def avZ {o:Int} (h:bA o=6\/bA o=7):Dq (bA o) 1 (jO o)/\(jO o).1=bA o+1/\(jO o).2=bA o+1:=by
 unfold jO;rcases h with e|e<;>rw [e]
 .exact ⟨.inr<|.inr<|.inl ⟨rfl,rfl,rfl⟩,rfl,rfl⟩
 .exact ⟨.inr<|.inr<|.inr<|.inl ⟨rfl,rfl,rfl⟩,rfl,rfl⟩
def aeG {o:Int} (h:bA o≠0) (pG:o≠99):bA o=3\/bA o=4\/bA o=6\/bA o=7\/bA o=9\/bA o=10\/(bA o=12/\o=60):=by
 rcases GY h with e|e|e|e|e|e|e|e|e|e|e|e|e|e|e|e|e<;>subst e<;>first|(exact absurd rfl pG)|decide
def alr {o:Int} (h:bA o≠0) (pG:o≠99) (q:aL) (hg:o=62->q.bg=false) (h12:o≠60):cont (bA o) q o=true:=by
 rcases GY h with e|e|e|e|e|e|e|e|e|e|e|e|e|e|e|e|e<;>subst e<;>first|rfl|(exact absurd rfl pG)|(exact absurd rfl h12)|(unfold cont;rw [hg rfl];rfl)
section
variable (l:List aC) (hl:l.length<=3000)
include hl
theorem als {n:Nat} (ih:NP l n) {p:aL} {i m f j:Nat} {a b:av} {h1 h2:Bool} (o:Int) (hn:j - i<=n+1) (ho:bA o=3\/bA o=4\/bA o=9\/bA o=10) (pG:o≠99) (hk:kd l m=o) (him:i < m) (hfj:f < j) (hln:(bA o=3\/bA o=4)/\Ln l (m+1) f\/ ¬(bA o=3\/bA o=4)/\f=m+1)
  (da:fZ l ⟨(jO o).1,false,p.aY,p.bg,p.jS⟩ i m a h1) (db:fZ l ⟨(jO o).2,false,p.aY,p.bg,false⟩ f j b h2) (hz:aX a+aX b<=400) (q:aL) (q1:q.aY=p.aY) (q2:q.bg=p.bg) (hf:jC (aZ q<|bA o+1) (kd l j)):
  ∃ c,c < j - i/\Ch l (bA o) 3000 (jO o) (aZ q<|bA o) i j ⟨12,o,[],[],[a,b]⟩ false c:=by
 obtain ⟨hch,hs⟩:=aeF ho;have hlb:=db.lt;have Nj:m+1<=f:=Ng hln;have hb:=Ww hch;have hml:m < l.length:=ah;obtain ⟨c,hc,hA⟩:=ih.C i m ah _ a h1 da ah q q1 q2 (bA o) (jO o) hch (by
  cases da with
  | par=>exact .inl rfl
  | bare hfit=>
   have:=qL hfit rfl;have this:(jO o).1<=_:=this;exact .inr ah) (by rw [hk];exact aeD ah pG q _ ah)
 have hB:=ih.D f j ah _ b h2 db ah q q1 q2 (jO o).2 ah ah (by
  cases db with
  | par=>exact .inl rfl
  | bare hfit=>exact .inr<|qL hfit rfl) (hf.to ah)
 have awc:o≠60:=by
  intro e;rw [e] at ho;have:bA 60=12:=rfl;omega
 have awd:o≠62:=by
  intro e;rw [e] at ho;have:bA 62=7:=rfl;omega
 refine ⟨c+1,ah,?_⟩;exact aex hl hch hA ah ah (by rw [hk];exact alr ah pG (aZ q<|bA o) (fun e=>absurd e awd) awc) (m+1) f o (.inr ⟨by
  intro e;rw [e] at ho;omega,rfl,hk.symm,hml⟩) ah hln ah ah hB
theorem alu {n:Nat} (ih:NP l n) {p:aL} {i m j:Nat} {a b:av} {h1 h2:Bool} (hn:j - i<=n+1) (him:i < m) (hfj:m < j)
  (da:fZ l ⟨8,false,p.aY,p.bg,p.jS⟩ i m a h1) (db:fZ l ⟨9,false,p.aY,p.bg,true⟩ m j b h2) (hz:aX a+aX b<=400) (q:aL) (q1:q.aY=p.aY) (q2:q.bg=p.bg) (hf:jC (aZ q 9) (kd l j)):
  ∃ c,c < j - i/\Ch l 8 3000 (8,9) (aZ q 8) i j ⟨12,99,[],[],[a,b]⟩ false c:=by
 have hch:Dq 8 3000 (8,9):=.inr (.inr<|.inr<|.inr<|.inl ⟨rfl,rfl,rfl⟩);have hlb:=db.lt;have hbg:uT (kd l m)=true:=db.first.s rfl
 obtain ⟨c,hc,hA⟩:=ih.C i m ah _ a h1 da ah q q1 q2 8 (8,9) hch (by
  cases da with
  | par=>exact .inl rfl
  | bare hfit=>exact .inr<|qL hfit rfl) (avY hbg q _ ah)
 have hB:=ih.D m j ah _ b h2 db ah q q1 q2 9 ah ah (by
  cases db with
  | par=>exact .inl rfl
  | bare hfit=>exact .inr<|qL hfit rfl) hf
 refine ⟨c+1,ah,?_⟩;exact aex hl hch hA ah ah hbg m m 99 (.inl ⟨rfl,rfl,rfl⟩) ah (.inr ⟨ah,rfl⟩) ah ah hB
theorem alv {n:Nat} (ih:NP l n) {p:aL} {i m:Nat} {t:av} {h:Bool} (hn:m+2 - i<=n+1) (him:i < m) (k1:kd l m=24) (k2:kd l (m+1)=6) (d:fZ l ⟨5,false,p.aY,p.bg,p.jS⟩ i m t h) (hz:aX t<=400) (q:aL) (q1:q.aY=p.aY) (q2:q.bg=p.bg) (hq:q.aY=false):
  ∃ c,c < m+2 - i/\Am l (aZ q 5) i (m+2) ⟨13,0,pE l<|m+1,[],[t]⟩ false c:=by
 have hm1:m+1 < l.length:=aeC k2 aJ;obtain ⟨c,hc,hA⟩:=ih.I i m ah _ t h d hz q q1 q2 hq (by
  cases d with
  | par=>exact .inl rfl
  | bare hfit=>exact .inr<|qL hfit rfl) (by rw [k1];exact avV q 6 ah)
 rw [EM hm1];exact ⟨c+1,ah,avv l hl (aZ q 5) hq hA ah hm1 k1 k2 ah⟩
theorem alx {n:Nat} (ih:NP l n) {i m:Nat} {ts:List av} (hn:m+3 - i<=n+1) (k1:kd l i=32) (him:i+1 < m) (k2:kd l m=33) (k3:kd l (m+1)=24) (k4:kd l (m+2)=6) (h2:2<=ts.length) (h6:ts.length<=6) (d:xg l (i+1) m ts) (hz:aT ts<=400) (q:aL) (hq:q.aY=false):Am l (aZ q 5) i (m+3) ⟨13,0,pE l<|m+2,[],ts⟩ false 0:=by
 have hm2:m+2 < l.length:=aeC k4 aJ;have hls:=ih.L (i+1) m ah ts 33 d k2 (.inl rfl) ah hz;have hcm:qm l i true:=by
  have hi:i < l.length:=ah;cases d with
  | one=>simp at h2
  | @cons _ k f _ t u ts h g1 g2 g3 g4 g5 g6=>
   have hk:=aeC g2 aJ;refine avx l hl i l[i] l[k] (seg l (i+1) k) ?_ (by rw [<- BG hi];exact k1) (by rw [<- BG hk];exact g2) g5.bal.inn;have:=alj (l:=l) (i:=i) (j:=k+1);rwa [NJ (show i<=i+1 by omega) (show i+1<=k+1 by omega),NJ (show i+1<=k by omega) (show k<=k+1 by omega),Ko hi,Ko hk] at this
 have hne:kd l (i+1)≠33:=fun e=>by
  have:=adl d;rw [e] at this;cases this
 rw [EM hm2];exact avu l hl (aZ q 5) hq (k:=m+1) ts hcm k1 ah hls h6 hne ah hm2 k3 k4 ah
end
def awe {t:av} (h:gQ t.kind=true):14<=lv t.kind t.op/\t.kind<=9:=by
 have hk:t.kind=1\/t.kind=5\/t.kind=6:=by
  unfold gQ at h;simp only [mX,qj] at h;exact h
 obtain ⟨k,o,x,y,ks⟩:=t;rcases hk with e|e|e<;>(have e:k=_:=e;subst e)
 .exact ⟨(by omega:(14:Int)<=15),(by omega:(1:Int)<=9)⟩
 .exact ⟨(by omega:(14:Int)<=15),(by omega:(5:Int)<=9)⟩
 .exact ⟨(by omega:(14:Int)<=14),(by omega:(6:Int)<=9)⟩
section
variable (l:List aC) (hl:l.length<=3000)
include hl
omit hl in
theorem aal {n:Nat} (ih:NP l n) {i j:Nat} {t:av} (hn:j - i<=n) (hij:i < j) (hj:j<=l.length) (d:iW l tJ i j t) (hL:gQ t.kind=true) (hz:aX t<=400) (q:aL) (b:Int) (hb:1<=b) (hb2:b<=14) (hf:jC (aZ q b) (kd l j)):Rd l (aZ q b) i j t false:=by
 obtain ⟨h1,h2⟩:=awe hL;exact ih.N i j hn tJ t hij hj d hz q (.inl h2) (fun e=>ah) (fun e=>ah) b hb ah hf
set_option maxHeartbeats 4000000 in
theorem awf {n:Nat} (ih:NP l n) {i j:Nat} (hn:j - i<=n+1) {p:aL} {t:av} (hij:i < j) (hj:j<=l.length) (d:iW l p i j t) (hz:aX t<=400) (q:aL) (hq:t.kind<=9\/(q.aY=p.aY/\q.bg=p.bg)) (hin:t.kind=13->q.aY=false) (hgt:t.kind=12->t.op=62->q.bg=false) (b:Int) (hb:1<=b) (hbl:b<=lv t.kind t.op) (hf:jC (aZ q b) (kd l j)):Rd l (aZ q b) i j t false:=by
 have fs:=d.first hij
 have cm:6<=lv t.kind t.op->qm l i false:=fun h=>(aln l hl (j - i) i j<|dX _).1 p t hij hj d h;have f:∀ {a b:Int},a≠b->(a==b)=false:=fun h=>by simpa using h
 cases d with
 | leaf k h1 h2=>
  have hv:lv (k - 1) 0=15:=by rcases h1 with rfl|rfl|rfl<;>rfl
  have hbl:b<=lv (k - 1) 0:=hbl;have fa:=fs.a (by show 12<=lv (k - 1) 0;omega);have fb:=fs.b (by show 14<=lv (k - 1) 0;omega);have fc:=fs.c (by show 15<=lv (k - 1) 0;omega);have cm:=cm (by show 6<=lv (k - 1) 0;omega);refine NM hz b hb ah cm fa fb fc ?_ hf;rw [EM ah];exact avl l hl (aZ q 15) rfl k h1 h2 ah
 | name h1=>
  have fa:=fs.a (by show (12:Int)<=15;omega);have fb:=fs.b (by show (14:Int)<=15;omega);have fc:=fs.c (by show (15:Int)<=15;omega);have cm:=cm (by show (6:Int)<=15;omega);refine NM hz b hb hbl cm fa fb fc ?_ hf;rw [EM ah];exact avm l hl (aZ q 15) rfl h1 ah hf.1
 | @index _ _ j ts h1 h2 h3 h4 h5 h6 h7=>
  have fa:=fs.a (by show (12:Int)<=15;omega);have fb:=fs.b (by show (14:Int)<=15;omega);have fc:=fs.c (by show (15:Int)<=15;omega);have cm:=cm (by show (6:Int)<=15;omega);have hz':aT ts<=400:=by simp only [aX] at hz;omega
  refine NM hz b hb hbl cm fa fb fc ?_ hf;rw [EM ah];exact avr l hl (aZ q 15) rfl ts h1 h2 ah (ih.L (i+2) j ah ts 35 h7 h5 (.inr rfl) h4 hz') h6 ah
 | xJ k h1 h2 h3 h4=>
  have hv:lv k 0=15:=by rcases h1 with rfl|rfl<;>rfl
  have hbl:b<=lv k 0:=hbl;have fa:=fs.a (by show 12<=lv k 0;omega);have fb:=fs.b (by show 14<=lv k 0;omega);have fc:=fs.c (by show 15<=lv k 0;omega);have cm:=cm (by show 6<=lv k 0;omega);refine NM hz b hb ah cm fa fb fc ?_ hf;rw [EM ah];exact alc l hl (aZ q 15) rfl k h1 [] h2 h3 ah (.inl ⟨rfl,h4,rfl⟩) aA (by simp [aT])
 | @call _ _ j ts k h1 h2 h3 h4 h5 h6 h7 h8=>
  have hv:lv k 0=15:=by rcases h1 with rfl|rfl<;>rfl
  have hbl:b<=lv k 0:=hbl;have fa:=fs.a (by show 12<=lv k 0;omega);have fb:=fs.b (by show 14<=lv k 0;omega);have fc:=fs.c (by show 15<=lv k 0;omega);have cm:=cm (by show 6<=lv k 0;omega);have hz':aT ts<=400:=by simp only [aX] at hz;omega
  have jw:kd l (i+2)≠33:=fun e=>by
   have:=adl h8;rw [e] at this;cases this
  refine NM hz b hb ah cm fa fb fc ?_ hf;rw [EM ah];exact alc l hl (aZ q 15) rfl k h1 ts h2 h3 ah (.inr ⟨jw,ih.L (i+2) j ah ts 33 h8 h6 (.inl rfl) h5 hz'⟩) h7 ah
 | len h1 h2 h3=>
  have fa:=fs.a (by show (12:Int)<=15;omega);have fb:=fs.b (by show (14:Int)<=15;omega);have fc:=fs.c (by show (15:Int)<=15;omega);have cm:=cm (by show (6:Int)<=15;omega);refine NM hz b hb hbl cm fa fb fc ?_ hf;rw [EM ah];exact avs l hl (aZ q 15) rfl h1 ah h2 (by rw [<- EM ah];exact h3)
 | @field _ _ _ u h h1 h2 h3=>
  have fa:=fs.a (by show (12:Int)<=14;omega);have fb:=fs.b (by show (14:Int)<=14;omega);have cm:=cm (by show (6:Int)<=14;omega);rw [BQ] at hz;refine alp (by rw [BQ];omega) b hb hbl cm fa fb ?_ hf;have aeH:jC (aZ q 14) (kd l j):=hf.to hbl;have fsu:=h3.first
  by_cases hh:h=true\/14<=lv u.kind u.op
  .have hb1:=fsu.b hh;refine avj l hl (aZ q 14) rfl h1 ah (by rw [f hb1.1,f hb1.2];rfl) (h1:=h) ?_ ah;cases h3 with
   | @par _ _ jj _ h' g1 g2 g3 g4 g5=>
    exact ih.D (i+1) (jj+1) ah ⟨14,true,q.aY,q.bg,false⟩ u true (.par g1 g2 g3 g4 g5) ah q rfl rfl 14 ah ah (.inl rfl) aeH
   | bare g1 g2 g3 g4=>
    have hlv:14<=lv u.kind u.op:=by
     rcases hh with hh|hh
     .cases hh
     .exact hh
    have hk:iC u.kind=true->u.kind<=9:=fun he=>by
     have hs:aes ⟨14,true,false,false,false⟩ ⟨14,true,false,false,false⟩:=⟨rfl,rfl,rfl,rfl⟩
     exact (akJ he hs).2 g1
    have Ru:u.kind<=9:=by
     cases g4 with
     | leaf k e1=>show k - 1<=9;omega
     | name=>show (1:Int)<=9;omega
     | index=>show (5:Int)<=9;omega
     | len=>show (8:Int)<=9;omega
     | field=>show (6:Int)<=9;omega
     | pre=>show (9:Int)<=9;omega
     | xJ k e1|call k e1=>show k<=9;omega
     | post=>exact absurd hlv (by show¬(14:Int)<=13;omega)
     | unary=>exact absurd hlv (by show¬(14:Int)<=11;omega)
     | one|many=>exact absurd hlv (by show¬(14:Int)<=5;omega)
     | cond=>exact absurd hlv (by show¬(14:Int)<=2;omega)
     | assign=>exact absurd hlv (by show¬(14:Int)<=1;omega)
     | bin o=>exact absurd hlv (by show¬(14:Int)<=bA o;have:=Ka o;omega)
     | cat=>exact absurd hlv (by show¬(14:Int)<=8;decide)
    exact ih.N (i+1) j ah _ u g2 g3 g4 ah q (.inl Ru) (fun e=>ah) (fun e=>ah) 14 ah hlv aeH
  .cases h3 with
   | par=>exact absurd (.inl rfl) hh
   | bare g1 g2 g3 g4=>
    have hnl: ¬14<=lv u.kind u.op:=fun e=>hh (.inr e);have hp:u.kind=9:=by
     unfold mh at g1;simp only [dP,mX,Ae,mP,qj] at g1;rcases g1.2.2.2.2 with e|e
     .exact e
     .exact absurd e hnl
    cases g4 with
    | @pre _ _ _ u o e1 e2 e3 e4 e5=>
     have hi2:i+1 < l.length:=ah;have hlf:=Ni e5 e3;rw [BQ] at hz;have r:=aal l ih (i:=i+1+1) ah e4 g3 e5 e3 ah q 14 ah ah aeH;have:=avk l hl (aZ q 14) rfl h1 hi2 (by rw [e2];rcases e1 with rfl|rfl<;>rfl) (by rcases hlf with e|e<;>rw [e]<;>rfl) r ah;rw [e2] at this;exact this
    | leaf k e1=>have hp:k - 1=9:=hp;omega
    | xJ k e1|call k e1=>have hp:k=9:=hp;omega
    | name=>have hp:(1:Int)=9:=hp;omega
    | index=>have hp:(5:Int)=9:=hp;omega
    | len=>have hp:(8:Int)=9:=hp;omega
    | field=>have hp:(6:Int)=9:=hp;omega
    | post=>have hp:(10:Int)=9:=hp;omega
    | unary=>have hp:(11:Int)=9:=hp;omega
    | bin|cat=>have hp:(12:Int)=9:=hp;omega
    | one|many=>have hp:(13:Int)=9:=hp;omega
    | cond=>have hp:(14:Int)=9:=hp;omega
    | assign=>have hp:(15:Int)=9:=hp;omega
 | @pre _ _ _ u o h1 h2 h3 h4 h5=>
  have fa:=fs.a (by show (12:Int)<=13;omega);have cm:=cm (by show (6:Int)<=13;omega);rw [BQ] at hz;refine aeE (by rw [BQ];omega) b hb hbl cm fa ?_ hf;have hlf:=Ni h5 h3;have r:=aal l ih (i:=i+1) ah h4 hj h5 h3 ah q 14 ah ah (hf.to (by have:b<=13:=hbl;omega));have:=avh l hl (aZ q 13) rfl (i:=i) (by rw [h2];rcases h1 with rfl|rfl<;>rfl) ah (by rcases hlf with e|e<;>rw [e]<;>rfl) r ah;rw [h2] at this;exact this
 | @post _ _ j u o h1 h2 h3 h4 h5=>
  have fa:=fs.a (by show (12:Int)<=13;omega);have cm:=cm (by show (6:Int)<=13;omega);rw [BQ] at hz;refine aeE (by rw [BQ];omega) b hb hbl cm fa ?_ hf;have hlf:=Ni h5 h3;have r:=aal l ih (i:=i) (j:=j) ah h4 ah h5 h3 ah q 14 ah ah (by rw [h2];exact avW h1 q 14 ah);have:=avi l hl (aZ q 13) rfl r h3 (by rcases hlf with e|e<;>rw [e]<;>rfl) (by rw [h2];rcases h1 with rfl|rfl<;>rfl) ah ah ah;rw [h2] at this;exact this
 | @unary _ _ _ u h o h1 h2 h3 h4=>
  have cm:=cm (by show (6:Int)<=11;omega);have hbl:b<=11:=hbl;rw [BQ] at hz;have kW:q.aY=p.aY/\q.bg=p.bg:=by
   rcases hq with e|e
   .exact absurd e (by show¬(11:Int)<=9;omega)
   .exact e
  refine desc (by rw [BQ];omega) 11 b hb hbl ah (fun _=>cm) ?_ hf;have r:=ih.D (i+1) j ah _ u h h4 ah q kW.1 kW.2 11 ah ah (by
   cases h4 with
   | par=>exact .inl rfl
   | bare hfit=>exact .inr<|qL hfit rfl) (hf.to hbl)
  have:=avc l hl (aZ q 11) rfl (i:=i) (by rw [h2];rcases h1 with rfl|rfl|rfl<;>rfl) ah r ah;rw [h2] at this;exact this
 | @bin _ _ m ff _ a c g1 g2 o h1 h2 h3 h4 h5 h6 h7 h8=>
  have kW:q.aY=p.aY/\q.bg=p.bg:=by
   rcases hq with e|e
   .exact absurd e (by show¬(12:Int)<=9;omega)
   .exact e
  have hg:o=62->q.bg=false:=fun e=>hgt rfl e;rw [HV] at hz;have hbl:b<=bA o:=hbl;have hlc:=h8.lt;have Nj:m+1<=ff:=Ng h6;rcases aeG h1 h2 with e|e|e|e|e|e|⟨e,e60⟩
  case inr.inr.inl|inr.inr.inr.inl=>
   obtain ⟨hch,s1,s2⟩:=avZ (o:=o) ah;have hA:=ih.D i m ah _ a g1 h7 ah q kW.1 kW.2 (bA o+1) ah ah (by
    cases h7 with
    | par=>exact .inl rfl
    | bare hfit=>exact .inr (by have:=qL hfit rfl;have this:(jO o).1<=_:=this;omega)) (by rw [h3];exact aeD h1 h2 q _ ah)
   have hB:=ih.D ff j ah _ c g2 h8 ah q kW.1 kW.2 (jO o).2 ah ah (by
    cases h8 with
    | par=>exact .inl rfl
    | bare hfit=>exact .inr (by have:=qL hfit rfl;have this:(jO o).2<=_:=this;omega)) (hf.to ah)
   have hst:=aex hl hch (q:=aZ q (bA o)) (c:=0) (Ch.first hch hA) ah ah (by rw [h3];exact alr h1 h2 (aZ q<|bA o) hg (by intro e0;subst e0;have:(12:Int)=_:=e;omega)) (m+1) ff o (.inr ⟨ah,rfl,h3.symm,ah⟩) ah (.inr (by
    rcases h6 with ⟨h6,_⟩|h6
    .omega
    .exact h6)) ah ah hB
   have hd:=Ch.done hch (q:=aZ q (bA o)) (c:=1) rfl hst aJ (.inr ⟨rfl,aJ⟩);exact desc (by rw [HV];omega) (bA o) b hb hbl ah (fun _=>cm<|by show 6<=bA o;omega) hd hf
  case inr.inr.inr.inr.inr.inr=>
   subst e60;have hbl:b<=12:=hbl;have fa:=fs.a (by show (12:Int)<=12;omega);have hcm:=cm (by show (6:Int)<=12;omega);have hA:=ih.D i m ah _ a g1 h7 ah q kW.1 kW.2 13 ah ah (by
    cases h7 with
    | par=>exact .inl rfl
    | bare hfit=>exact .inr<|qL hfit rfl) (by rw [h3];exact aeD h1 h2 q _<|by show (12:Int) < 13;omega)
   have hff:ff=m+1:=by
    rcases h6 with ⟨h6,_⟩|h6
    .omega
    .exact h6.2
   subst hff;have awi:jC (aZ q 12) (kd l j):=hf.to hbl;have hB:=ih.D (m+1) j ah _ c g2 h8 ah q kW.1 kW.2 11 ah ah (by
    cases h8 with
    | par=>exact .inl rfl
    | bare hfit=>exact .inr<|qL hfit rfl) awi.eleven
   by_cases e12:b=12
   .subst e12;exact akZ l hl (aZ q 12) rfl hA h3 ah ah hB ah
   .have fT:=ave l hl (aZ q 11) rfl (by rw [f fa.1,f fa.2.1,f fa.2.2];rfl) hA h3 ah ah hB ah;exact desc (by rw [HV];omega) 11 b hb ah ah (fun _=>hcm) fT hf
  all_goals
   obtain ⟨cc,hc,hch⟩:=als l hl ih o hn ah h2 h3 h4 h5 h6 h7 h8 ah q kW.1 kW.2 (hf.to ah);have hd:=Ch.done (aeF (o:=o) ah).1 (q:=aZ q (bA o)) rfl hch ah (.inl<|hf.2 (bA o) hbl);exact desc (by rw [HV];omega) (bA o) b hb hbl ah (fun h=>cm<|by show 6<=bA o;omega) hd hf
 | @cat _ _ m _ a c g1 g2 h1 h2 h3 h4=>
  have kW:q.aY=p.aY/\q.bg=p.bg:=by
   rcases hq with e|e
   .exact absurd e (by show¬(12:Int)<=9;omega)
   .exact e
  rw [HV] at hz;have hbl:b<=8:=hbl;have hcm:=cm (by show (6:Int)<=8;omega);obtain ⟨cc,hc,hch⟩:=alu l hl ih hn h1 h2 h3 h4 ah q kW.1 kW.2 (hf.to ah);have hd:=Ch.done (.inr<|.inr<|.inr<|.inr<|.inl ⟨rfl,rfl,rfl⟩) (q:=aZ q 8) rfl hch ah (.inl<|hf.2 8 hbl);exact desc (by rw [HV];omega) 8 b hb hbl ah (fun h=>hcm) hd hf
 | @one _ _ m u h h1 h2 h3 h4=>
  have kW:q.aY=p.aY/\q.bg=p.bg:=by
   rcases hq with e|e
   .exact absurd e (by show¬(13:Int)<=9;omega)
   .exact e
  rw [BQ] at hz;have hbl:b<=5:=hbl;obtain ⟨cc,hc,hch⟩:=alv l hl ih hn h1 h2 h3 h4 ah q kW.1 kW.2 (hin rfl);have hd:=Am.done l (aZ q 5) rfl hch ah (hf.2 5 hbl);exact desc (by rw [BQ];omega) 5 b hb hbl ah (fun h=>absurd h ah) hd hf
 | @many _ _ m ts h1 h2 h3 h4 h5 h6 h7 h8=>
  have hbl:b<=5:=hbl;have hz':aT ts<=400:=by simp only [aX] at hz;omega
  have hch:=alx l hl ih hn h1 h2 h3 h4 h5 h6 h7 h8 hz' q (hin rfl);have hd:=Am.done l (aZ q 5) rfl hch ah (hf.2 5 hbl);exact desc hz 5 b hb hbl ah (fun h=>absurd h ah) hd hf
 | @cond _ _ m n2 _ a c e g1 g2 g3 h1 h2 h3 h4 h5 h6 h7 h8=>
  have kW:q.aY=p.aY/\q.bg=p.bg:=by
   rcases hq with e|e
   .exact absurd e (by show¬(14:Int)<=9;omega)
   .exact e
  rw [alq] at hz;have hbl:b<=2:=hbl;have hA:=ih.D i m ah _ a g1 h6 ah q kW.1 kW.2 3 ah ah (by
   cases h6 with
   | par=>exact .inl rfl
   | bare hfit=>exact .inr<|qL hfit rfl) (by rw [h2];exact avU q 3 ah)
  have hB:=ih.D (m+1) n2 ah _ c g2 h7 ah q kW.1 kW.2 2 ah ah (by
   cases h7 with
   | par=>exact .inl rfl
   | bare hfit=>exact .inr<|qL hfit rfl) (by rw [h4];exact aak ah q 2 ah)
  have hC:=ih.D (n2+1) j ah _ e g3 h8 ah q kW.1 kW.2 2 ah ah (by
   cases h8 with
   | par=>exact .inl rfl
   | bare hfit=>exact .inr<|qL hfit rfl) (hf.to hbl)
  have hd:=auZ l hl (aZ q 2) rfl hA h2 ah ah hB h4 ah ah hC ah;exact desc (by rw [alq];omega) 2 b hb hbl ah (fun h=>absurd h ah) hd hf
 | @assign _ _ m _ a c g o h1 h2 h3 h4 h5 h6 h7=>
  have kW:q.aY=p.aY/\q.bg=p.bg:=by
   rcases hq with e|e
   .exact absurd e (by show¬(15:Int)<=9;omega)
   .exact e
  rw [HV] at hz;have hbl:b<=1:=hbl;have e1:b=1:=ah;subst e1;have hA:=aal l ih (i:=i) (j:=m) ah h3 ah h6 h5 ah q 2 ah ah (by rw [h2];exact avX h1 q 2 ah);have hB:=ih.D (m+1) j ah _ c g h7 ah q kW.1 kW.2 1 ah ah (by
   cases h7 with
   | par=>exact .inl rfl
   | bare hfit=>exact .inr<|qL hfit rfl) hf
  have:=auY l hl (aZ q 1) rfl hA h5 (by rw [h2];exact h1) ah ah hB ah;rw [h2] at this;exact this
end
section
variable (l:List aC) (hl:l.length<=3000)
include hl
theorem awj:∀ n,NP l n:=by
 intro n;induction n with
 | zero=>
  refine ⟨fun i j hn p t hij=>ah,fun i j hn p t h d=>by have:=d.lt;omega,fun i j hn p t h d=>by have:=d.lt;omega,fun i j hn p t h d=>by have:=d.lt;omega,fun i j hn ts en d=>?_⟩;cases d with
  | one h1=>omega
  | cons h1 h2 h3 h4=>have:=h3.1;omega
 | succ n ih=>
  have hN:∀ i j,j - i<=n+1->∀ p t,i < j->j<=l.length->iW l p i j t->aX t<=400->∀ q,(t.kind<=9\/(q.aY=p.aY/\q.bg=p.bg))->(t.kind=13->q.aY=false)->(t.kind=12->t.op=62->q.bg=false)->∀ b,1<=b->b<=lv t.kind t.op->jC (aZ q b) (kd l j)->Rd l (aZ q b) i j t false:=
   fun i j hn p t hij hj d hz q hq hin hgt b hb hbl hf=>awf l hl ih hn hij hj d hz q hq hin hgt b hb hbl hf
  have hD:∀ i j,j - i<=n+1->∀ p t h,fZ l p i j t h->aX t<=400->∀ q,q.aY=p.aY->q.bg=p.bg->∀ b,1<=b->b<=15->(h=true\/b<=lv t.kind t.op)->jC (aZ q b) (kd l j)->Rd l (aZ q b) i j t h:=by
   intro i j hn p t h d hz q q1 q2 b hb hb2 hh hf;have dd:=d;cases d with
   | @par _ _ j _ h' h1 h2 h3 h4 h5=>
    have hin:=ih.D (i+1) j ah bU t h' h4 hz bU rfl rfl 1 ah ah (by
     cases h4 with
     | par=>exact .inl rfl
     | bare hfit=>exact .inr<|qL hfit rfl) (by rw [h5];exact aak ah bU 1 ah)
    have r:=avf l hl (aZ q 15) rfl h1 ah hin h5 h3;exact NM hz b hb hb2 (dd.cm hl<|.inl rfl) (by rw [h1];decide) (by rw [h1];decide) (by rw [h1];decide) r hf
   | bare h1 h2 h3 h4=>
    have hbl:b<=lv t.kind t.op:=by
     rcases hh with e|e
     .cases e
     .exact e
    exact hN i j hn p t h2 h3 h4 hz q (.inr ⟨q1,q2⟩) (fun e=>by rw [q1];exact avH h1 e) (fun e e'=>by rw [q2];exact avI h1 e e') b hb hbl hf
  have hC:∀ i j,j - i<=n+1->∀ p t h,fZ l p i j t h->aX t<=400->∀ q,q.aY=p.aY->q.bg=p.bg->∀ v sd,Dq v 3000 sd->(h=true\/v<=lv t.kind t.op)->jC (aZ q<|v+1) (kd l j)->∃ c,c < j - i/\Ch l v 3000 sd (aZ q v) i j t h c:=by
   intro i j hn p t h d hz q q1 q2 v sd hch hh hf;have hv:=Ww hch;have hlt:=d.lt;by_cases hx:h=true\/v+1<=lv t.kind t.op
   .exact ⟨0,ah,Ch.first hch (q:=aZ q v)<|hD i j hn p t h d hz q q1 q2 (v+1) ah ah hx hf⟩
   .have hv3:v=3\/v=4\/v=8\/v=9\/v=10:=by
     rcases hch with ⟨e,_⟩|⟨e,_⟩|⟨_,e,_⟩|⟨_,e,_⟩|⟨e,_⟩|⟨e,_⟩|⟨e,_⟩<;>omega
    cases d with
    | par=>exact absurd (.inl rfl) hx
    | bare h1 h2 h3 h4=>
     have he:lv t.kind t.op=v:=by
      rcases hh with e|e
      .cases e
      .have: ¬v+1<=lv t.kind t.op:=fun e=>hx (.inr e);omega
     cases h4 with
     | leaf k e1=>rcases e1 with rfl|rfl|rfl<;>(have he:(15:Int)=v:=he;omega)
     | name|index|len=>have he:(15:Int)=v:=he;omega
     | xJ k e1|call k e1=>rcases e1 with rfl|rfl<;>(have he:(15:Int)=v:=he;omega)
     | field=>have he:(14:Int)=v:=he;omega
     | pre|post=>have he:(13:Int)=v:=he;omega
     | unary=>have he:(11:Int)=v:=he;omega
     | one|many=>have he:(5:Int)=v:=he;omega
     | cond=>have he:(2:Int)=v:=he;omega
     | assign=>have he:(1:Int)=v:=he;omega
     | bin o g1 g2 g3 g4 g5 g6 g7 g8=>
      have he:bA o=v:=he;rw [HV] at hz;have hov:=aeG g1 g2;obtain ⟨aFE,_⟩:=aeF (o:=o) ah;have hsd:sd=jO o:=by
       subst he;rcases hch with ⟨e,_,rfl⟩|⟨e,_,rfl⟩|⟨_,e,_⟩|⟨_,e,_⟩|⟨e,_,rfl⟩|⟨e,_,rfl⟩|⟨e,_,rfl⟩<;>first|omega|(unfold jO;rw [e];rfl)
      subst he;subst hsd;exact als l hl ih o hn ah g2 g3 g4 g5 g6 g7 g8 ah q q1 q2 hf
     | cat g1 g2 g3 g4=>
      have he:(8:Int)=v:=he;subst he;rw [HV] at hz;have hsd:sd=(8,9):=by
       rcases hch with ⟨e,_,rfl⟩|⟨e,_,rfl⟩|⟨_,e,_⟩|⟨_,e,_⟩|⟨e,_,rfl⟩|⟨e,_,rfl⟩|⟨e,_,rfl⟩<;>first|omega|rfl
      subst hsd;exact alu l hl ih hn g1 g2 g3 g4 ah q q1 q2 hf
  have hI:∀ i j,j - i<=n+1->∀ p t h,fZ l p i j t h->aX t<=400->∀ q,q.aY=p.aY->q.bg=p.bg->q.aY=false->(h=true\/5<=lv t.kind t.op)->jC (aZ q 6) (kd l j)->∃ c,c < j - i/\Am l (aZ q 5) i j t h c:=by
   intro i j hn p t h d hz q q1 q2 q3 hh hf;have hlt:=d.lt;by_cases hx:h=true\/6<=lv t.kind t.op
   .exact ⟨0,ah,ald l (aZ q 5) (fun _=>d.cm hl hx)<|hD i j hn p t h d hz q q1 q2 6 ah ah hx hf⟩
   .cases d with
    | par=>exact absurd (.inl rfl) hx
    | bare h1 h2 h3 h4=>
     have he:lv t.kind t.op=5:=by
      rcases hh with e|e
      .cases e
      .have: ¬6<=lv t.kind t.op:=fun e=>hx (.inr e);omega
     cases h4 with
     | leaf k e1=>rcases e1 with rfl|rfl|rfl<;>(have he:(15:Int)=5:=he;omega)
     | name|index|len=>have he:(15:Int)=5:=he;omega
     | xJ k e1|call k e1=>rcases e1 with rfl|rfl<;>(have he:(15:Int)=5:=he;omega)
     | field=>have he:(14:Int)=5:=he;omega
     | pre|post=>have he:(13:Int)=5:=he;omega
     | unary=>have he:(11:Int)=5:=he;omega
     | cond=>have he:(2:Int)=5:=he;omega
     | assign=>have he:(1:Int)=5:=he;omega
     | bin o g1 g2=>
      have he:bA o=5:=he;have:=aeG g1 g2;omega
     | cat=>have he:(8:Int)=5:=he;omega
     | one g1 g2 g3 g4=>
      rw [BQ] at hz;exact alv l hl ih hn g1 g2 g3 g4 ah q q1 q2 q3
     | @many _ _ _ ts g1 g2 g3 g4 g5 g6 g7 g8=>
      have hz':aT ts<=400:=by simp only [aX] at hz;omega
      exact ⟨0,ah,alx l hl ih hn g1 g2 g3 g4 g5 g6 g7 g8 hz' q q3⟩
  have hL:∀ i j,j - i<=n+1->∀ ts en,xg l i j ts->kd l j=en->(en=33\/en=35)->j < l.length->aT ts<=400->Km l en i (j+1) ts:=by
   intro i j hn ts en d hk hen hj hz;cases d with
   | @one _ _ t h h1 h2=>
    have hz':aX t<=400:=by simp only [aT] at hz;omega
    refine ⟨h,j,?_,h1,hj,hk,rfl⟩;exact hD i j hn bU t h h2 hz' bU rfl rfl 1 ah ah (by
     cases h2 with
     | par=>exact .inl rfl
     | bare hfit=>exact .inr<|qL hfit rfl) (by rw [hk];exact aak ah bU 1 ah)
   | @cons _ k f _ t u ts h h1 h2 h3 h4 h5 h6=>
    have h3':=h3.1;have hz1:aX t<=400:=by simp only [aT] at hz;omega
    have hz2:aT (u::ts)<=400:=by simp only [aT] at hz ⊢;omega
    refine ⟨h,k,f,?_,h1,ah,h2,h3,ih.L f j ah _ en h6 hk hen hj hz2⟩;exact hD i k ah bU t h h5 hz1 bU rfl rfl 1 ah ah (by
     cases h5 with
     | par=>exact .inl rfl
     | bare hfit=>exact .inr<|qL hfit rfl) (by rw [h2];exact aak ah bU 1 ah)
  exact ⟨hN,hD,hC,hI,hL⟩
theorem aty {p:aL} {i j:Nat} {t:av} {h:Bool} (d:fZ l p i j t h) (hz:aX t<=400) (q:aL) (q1:q.aY=p.aY) (q2:q.bg=p.bg) (b:Int) (hb:1<=b) (hb2:b<=15) (hh:h=true\/b<=lv t.kind t.op) (hf:jC (aZ q b) (kd l j)):Rd l (aZ q b) i j t h:=
 (awj l hl<|j - i).D i j (dX _) p t h d hz q q1 q2 b hb hb2 hh hf
end
structure CN (t:av):Prop where
 qF:(t.kind==9||(t.kind==10||(t.kind==11||(t.kind==12||t.kind==15))))=false->t.op=0
 oth:t.other=[]
 Nf:t.kind=6\/t.kind=9\/t.kind=10\/t.kind=11\/t.kind=12\/t.kind=14\/t.kind=15->t.text=[]
 k9:t.kind=9\/t.kind=10->t.op=51\/t.op=52
 k11:t.kind=11->t.op=55\/t.op=56\/t.op=61
 k15:t.kind=15->qG t.op=true
 many:t.kind=5\/t.kind=7\/t.kind=8\/t.kind=13->t.kids.length<=6
def iW.lt {l:List aC} {p:aL} {i j:Nat} {t:av} (d:iW l p i j t):i < j:=by
 cases d with
 | bin o h1 h2 h3 h4 h5 h6=>have:=Ng h6;omega
 | _=>omega
def xg.lt {l:List aC} {i j:Nat} {ts:List av} (d:xg l i j ts):i < j/\j<=l.length:=by
 cases d with
 | one h1 h2=>exact h2.lt
 | cons h1 h2 h3 h4 h5 h6=>
  have:=h3.1;refine ⟨ah,?_⟩;clear h1 h2 h3 h5;have key:∀ (ts:List av) (i:Nat),xg l i j ts->j<=l.length:=by
   intro ts;induction ts with
   | nil=>intro i d;cases d
   | cons t ts ih=>
    intro i d;cases d with
    | one h1 h2=>exact h2.lt.2
    | cons h1 h2 h3 h4 h5 h6=>exact ih _ h6
  exact key _ _ h6
def Sg.pos {l:List aC} {i:Nat} {x:List aC} (h:Sg l i x) (hx:0 < x.length):i+x.length<=l.length:=by
 cases x with
 | nil=>simp at hx
 | cons t y=>
  obtain ⟨hi,_⟩:=h.hd;exact h.len ah
def aqG {k o:Int} (h:lv k o≠0):mh k o bU=true:=by
 have h1:1<=lv k o:=by
  by_cases e:k=12
  .subst e;have h:bA o≠0:=h;show 1<=bA o;rcases GY h with e|e|e|e|e|e|e|e|e|e|e|e|e|e|e|e|e<;>subst e<;>decide
  .have key:∀ {c:Bool} {x y:Int},(x=0\/1<=x)->(y=0\/1<=y)->(bif c then x else y)=0\/1<=(bif c then x else y):=fun {c x y} hx hy=>by cases c<;>assumption
   have:lv k o=0\/1<=lv k o:=by
    unfold lv;have e12:(k==12)=false:=by simpa using e
    rw [e12];exact key (.inr ah) (key (.inr ah)<|key (.inr ah)<|by rw [aI];exact key (.inr ah)<|key (.inr ah)<|key (.inr ah)<|key (.inr ah)<|.inl rfl)
   omega
 have h0:(lv k o==0)=false:=by simpa using h
 unfold mh;rw [h0];show (true&&(true&&(true&&(true&&(false||decide (lv k o>=1))))))=true;simp only [Ae,Vz,mP];omega
def aiO {k o:Int} {p:aL} (hp:posB p=true) (he:iC k=true) (hl:lv k o=15) (h4:k≠4):mh k o p=true:=by
 have ho:=Ka o;have hpl:p.Level<=15:=by
  unfold posB at hp;simp only [dP,mP] at hp;exact hp.1.2
 have hk:k=1\/k=2\/k=3\/k=5\/k=7\/k=8:=by
  rcases kinds he with e|e|e|e|e|e|e|e|e|e|e|e|e|e|e<;>subst e<;>first
   | omega
   | (exfalso;have hl:bA o=15:=hl;omega)
   | (exfalso;have hl:(14:Int)=15:=hl;omega)
   | (exfalso;have hl:(13:Int)=15:=hl;omega)
   | (exfalso;have hl:(11:Int)=15:=hl;omega)
   | (exfalso;have hl:(5:Int)=15:=hl;omega)
   | (exfalso;have hl:(2:Int)=15:=hl;omega)
   | (exfalso;have hl:(1:Int)=15:=hl;omega)
 unfold mh;rw [hp,hl];have hlv:decide ((15:Int)>=p.Level)=true:=by simpa using hpl
 rw [hlv];rcases hk with rfl|rfl|rfl|rfl|rfl|rfl<;>simp
def PrB (f:Bool) (t:av):Prop:=∀ (l:List aC) (p:aL) (i:Nat),posB p=true->Sg l i (dI f t p)->iW l p i (i+(dI f t p).length) t
def PrE (f:Bool) (t:av):Prop:=∀ (l:List aC) (p:aL) (i:Nat),posB p=true->Sg l i (bT f t p)->∃ h,fZ l p i (i+(bT f t p).length) t h
def abR {f:Bool} {t:av} (g:GN t) (hB:PrB f t):PrE f t:=by
 intro l p i hp hs;unfold bT at hs ⊢;have top:=aqG g.lv;cases hpar:vQ f t.kind t.op p with
 | true=>
  rw [hpar,qH,aO] at hs;rw [qH,aO];have h1:=hs.kd;have h2:Sg l (i+1) (dI f t bU++[sg 33]):=hs.tl;have d:=hB l bU (i+1) rfl h2.left;have hlt:=d.lt;have h3:Sg l (i+1+(dI f t bU).length) (sg 33::[]):=h2.right;obtain ⟨h4,_⟩:=h3.hd;have:=fZ.par (p:=p) h1 ah h4 (.bare top hlt ah d) h3.kd;refine ⟨true,?_⟩;have e:i+(sg 32::(dI f t bU++[sg 33])).length=i+1+(dI f t bU).length+1:=bE;rw [e];exact this
 | false=>
  rw [hpar,qH,aI] at hs;rw [qH,aI];have d:=hB l p i hp hs;have hlt:=d.lt;have hfit:mh t.kind t.op p=true:=by
   unfold vQ at hpar;cases f with
   | false=>simpa using hpar
   | true=>
    simp only [aO,Nh,bne_eq_false_iff_eq,adk] at hpar;exact aiO hp g.e hpar.1 hpar.2
  exact ⟨false,.bare hfit hlt (hs.pos ah) d⟩
def VE (f:Bool) (k o:Int) (n:Nat) (p:aL) (hk:∀ j,fU k o n j p=bU) (ht:∀ j,tgt k j=false):∀ (ts:List av) (j i:Nat) (l:List aC),(∀ t,t∈ts->PrE f t)->ts≠[]->Sg l i (dS false<|bG f k o n j p ts)->xg l i (i+(dS false<|bG f k o n j p ts).length) ts
 | [],_,_,_,_,h,_=>absurd rfl h
 | [t],j,i,l,hP,_,hs=>by
  have e:dS false (bG f k o n j p [t])=bT f t bU:=by
   rw [iA,bG];unfold bS;rw [ht j,aI,hk j];show []++(bT f t bU++[])=_;simp
  rw [e] at hs ⊢;obtain ⟨h,d⟩:=hP t aA l bU i rfl hs;exact .one d.lt.1 d
 | t::u::ts,j,i,l,hP,_,hs=>by
  have e:dS false (bG f k o n j p<|t::u::ts)=bT f t bU++sg 36::dS false (bG f k o n (j+1) p<|u::ts):=by
   rw [iA,iA];unfold bS;rw [ht j,aI,hk j];show []++(bT f t bU++([sg 36]++_))=_;simp [dS]
  rw [e] at hs ⊢;obtain ⟨h,d⟩:=hP t aA l bU i rfl hs.left;have h2:=hs.right;have dl:=VE f k o n p hk ht (u::ts) (j+1) _ l (fun v hv=>hP v<|by simp [hv]) aA h2.tl;have hop:=adl dl;have hd:=d.lt;have hdl:=dl.lt;have e2:i+(bT f t bU++sg 36::dS false (bG f k o n (j+1) p<|u::ts)).length=i+(bT f t bU).length+1+(dS false<|bG f k o n (j+1) p<|u::ts).length:=bE;rw [e2];exact .cons hd.1 h2.kd ⟨dX _,fun k h1 h2=>ah,(fun e=>by rw [e] at hop;cases hop),(fun e=>by rw [e] at hop;cases hop)⟩ hdl.1 d dl
def Sg.tx {l:List aC} {i:Nat} {t:aC} {y:List aC} (h:Sg l i (t::y)):pE l i=t.Text:=by
 obtain ⟨hi,e⟩:=h.hd;rw [EM hi,e]
def VF {t:av} (h:t.kids.length=1):∃ u,t.kids=[u]:=by
 match e:t.kids,h with
 | [a],_=>exact ⟨a,rfl⟩
def adn {f:Bool} {u:av} (g:allT GN u) (hL:gQ u.kind=true) (p:aL):dI f u p=dI f u tJ:=(aiP f u g).1 p tJ (.inr<|aiQ hL)
def ahu (f:Bool):∀ t:av,allT GN t->allT CN t->PrB f t:=by
 intro t;induction t using Ag with
 | h t ih=>
  intro hg hc;have g:=sM hg;have c:=sM hc;have gk:=BF hg;have ck:=BF hc;have Zh:∀ u,u∈t.kids->PrB f u:=fun u hu=>ih u hu (gk u hu) (ck u hu);have yj:∀ u,u∈t.kids->PrE f u:=fun u hu=>abR (sM<|gk u hu) (Zh u hu);obtain ⟨k,o,x,y,ks⟩:=t;have hy:y=[]:=c.oth;subst hy;intro l p i hp hs;rcases kinds g.e with e|e|e|e|e|e|e|e|e|e|e|e|e|e|e<;>(have e:k=_:=e;subst e)
  case inl=>
   have hk0:ks=[]:=GX.1 (g.a0<|.inl rfl);have ho:o=0:=c.qF rfl;subst hk0 ho;have et:dI f ⟨1,0,x,[],[]⟩ p=[(⟨6,x,0⟩:aC)]:=by rw [iM];rfl
   rw [et] at hs ⊢;have hx:pE l i=x:=hs.tx;rw [<- hx];exact .name hs.kd
  case inr.inl=>
   have hk0:ks=[]:=GX.1 (g.a0<|.inr<|.inl rfl);have ho:o=0:=c.qF rfl;subst hk0 ho;have et:dI f ⟨2,0,x,[],[]⟩ p=[(⟨3,x,0⟩:aC)]:=by rw [iM];rfl
   rw [et] at hs ⊢;have hx:pE l i=x:=hs.tx;rw [<- hx];exact .leaf 3 (.inl rfl) hs.kd
  case inr.inr.inl=>
   have hk0:ks=[]:=GX.1 (g.a0<|.inr<|.inr<|.inl rfl);have ho:o=0:=c.qF rfl;subst hk0 ho;have et:dI f ⟨3,0,x,[],[]⟩ p=[(⟨4,x,0⟩:aC)]:=by rw [iM];rfl
   rw [et] at hs ⊢;have hx:pE l i=x:=hs.tx;rw [<- hx];exact .leaf 4 (.inr<|.inl rfl) hs.kd
  case inr.inr.inr.inl=>
   have hk0:ks=[]:=GX.1 (g.a0<|.inr<|.inr<|.inr rfl);have ho:o=0:=c.qF rfl;subst hk0 ho;have et:dI f ⟨4,0,x,[],[]⟩ p=[(⟨5,x,0⟩:aC)]:=by rw [iM];rfl
   rw [et] at hs ⊢;have hx:pE l i=x:=hs.tx;rw [<- hx];exact .leaf 5 (.inr<|.inr rfl) hs.kd
  case inr.inr.inr.inr.inl=>
   have ho:o=0:=c.qF rfl;subst ho;have hm:ks.length<=6:=c.many (.inl rfl);have hn:ks≠[]:=by
    have:=g.ai (.inl rfl);intro e;subst e;simp at this
   have et:dI f ⟨5,0,x,[],ks⟩ p=⟨6,x,0⟩::sg 34::(dS false (bG f 5 0 ks.length 0 p ks)++[sg 35]):=by rw [iM];rfl
   rw [et] at hs ⊢;have hx:pE l i=x:=hs.tx;have h2:=hs.tl;have h3:Sg l (i+1+1) (dS false (bG f 5 0 ks.length 0 p ks)++[sg 35]):=h2.tl;have dl:=VE f 5 0 ks.length p (fun _=>rfl) (fun j=>by unfold tgt;simp) ks 0 _ l yj hn h3.left;have h4:=h3.right;have e2:i+((⟨6,x,0⟩:aC)::sg 34::(dS false (bG f 5 0 ks.length 0 p ks)++[sg 35])).length=i+1+1+(dS false<|bG f 5 0 ks.length 0 p ks).length+1:=bE;rw [e2,<- hx];have:=dl.lt;exact .index hs.kd h2.kd ah h4.hd.1 h4.kd hm dl
  case inr.inr.inr.inr.inr.inl=>
   have ho:o=0:=c.qF rfl;have hx:x=[]:=c.Nf (.inl rfl);subst ho hx;obtain ⟨u,e1⟩:=VF (g.a1<|.inl rfl);have e1:ks=[u]:=e1;subst e1;have et:dI f ⟨6,0,[],[],[u]⟩ p=sg 68::bT f u ⟨14,true,false,false,false⟩:=by
    rw [iM];show sg 68::(bG f 6 0 1 0 p [u]).getD 0 []=_;rw [iA];have:bS f 6 0 1 0 p u=bT f u (fU 6 0 1 0 p):=rfl;show sg 68::bS f 6 0 1 0 p u=_;rw [this,(aiP f u<|gk u aA).2 (fU 6 0 1 0 p) ⟨14,true,false,false,false⟩<|.inr ⟨rfl,rfl,rfl,rfl⟩]
   rw [et] at hs ⊢;obtain ⟨h,d⟩:=yj u aA l ⟨14,true,false,false,false⟩ (i+1) rfl hs.tl;have:=d.lt;have e2:i+(sg 68::bT f u ⟨14,true,false,false,false⟩).length=i+1+(bT f u ⟨14,true,false,false,false⟩).length:=bE;rw [e2];exact .field hs.kd ah d
  case inr.inr.inr.inr.inr.inr.inl=>
   have ho:o=0:=c.qF rfl;subst ho;have hm:ks.length<=6:=c.many (.inr<|.inl rfl);have et:dI f ⟨7,0,x,[],ks⟩ p=⟨7,x,0⟩::sg 32::(dS false (bG f 7 0 ks.length 0 p ks)++[sg 33]):=by rw [iM];rfl
   rw [et] at hs ⊢;have hx:pE l i=x:=hs.tx;have h2:=hs.tl;have h3:Sg l (i+1+1) (dS false (bG f 7 0 ks.length 0 p ks)++[sg 33]):=h2.tl;by_cases hn:ks=[]
   .subst hn;have h3:Sg l (i+1+1) ([]++[sg 33]):=by rw [bG] at h3;exact h3
    rw [bG,<- hx];exact .xJ 7 (.inl rfl) hs.kd h2.kd (Sg.kd h3)
   .have dl:=VE f 7 0 ks.length p (fun _=>rfl) (fun j=>by unfold tgt;simp) ks 0 _ l yj hn h3.left;have h4:=h3.right;have e2:i+((⟨7,x,0⟩:aC)::sg 32::(dS false (bG f 7 0 ks.length 0 p ks)++[sg 33])).length=i+1+1+(dS false<|bG f 7 0 ks.length 0 p ks).length+1:=bE;rw [e2,<- hx];have:=dl.lt;exact .call 7 (.inl rfl) hs.kd h2.kd ah h4.hd.1 h4.kd hm dl
  case inr.inr.inr.inr.inr.inr.inr.inl=>
   have ho:o=0:=c.qF rfl;subst ho;have hm:ks.length<=6:=c.many (.inr<|.inr<|.inl rfl);have et:dI f ⟨8,0,x,[],ks⟩ p=⟨8,x,0⟩::sg 32::(dS false (bG f 8 0 ks.length 0 p ks)++[sg 33]):=by rw [iM];rfl
   rw [et] at hs ⊢;have hx:pE l i=x:=hs.tx;have h2:=hs.tl;have h3:Sg l (i+1+1) (dS false (bG f 8 0 ks.length 0 p ks)++[sg 33]):=h2.tl;by_cases hn:ks=[]
   .subst hn;have h3:Sg l (i+1+1) ([]++[sg 33]):=by rw [bG] at h3;exact h3
    rw [bG,<- hx];exact .xJ 8 (.inr rfl) hs.kd h2.kd (Sg.kd h3)
   .have dl:=VE f 8 0 ks.length p (fun _=>rfl) (fun j=>by unfold tgt;simp) ks 0 _ l yj hn h3.left;have h4:=h3.right;have e2:i+((⟨8,x,0⟩:aC)::sg 32::(dS false (bG f 8 0 ks.length 0 p ks)++[sg 33])).length=i+1+1+(dS false<|bG f 8 0 ks.length 0 p ks).length+1:=bE;rw [e2,<- hx];have:=dl.lt;exact .call 8 (.inr rfl) hs.kd h2.kd ah h4.hd.1 h4.kd hm dl
  case inr.inr.inr.inr.inr.inr.inr.inr.inl=>
   have hx:x=[]:=c.Nf (.inr<|.inl rfl);subst hx;obtain ⟨u,e1⟩:=VF (g.a1<|.inr<|.inl rfl);have e1:ks=[u]:=e1;subst e1;have hL:gQ u.kind=true:=g.kl u rfl (.inl rfl);have et:dI f ⟨9,o,[],[],[u]⟩ p=sg o::dI f u tJ:=by
    rw [iM];show sg o::(bG f 9 o 1 0 p [u]).getD 0 []=_;rw [iA];show sg o::bS f 9 o 1 0 p u=_;have:bS f 9 o 1 0 p u=dI f u (fU 9 o 1 0 p):=rfl;rw [this,adn (gk u aA) hL]
   rw [et] at hs ⊢;have d:=Zh u aA l tJ (i+1) rfl hs.tl;have:=d.lt;have e2:i+(sg o::dI f u tJ).length=i+1+(dI f u tJ).length:=bE;rw [e2];exact .pre o (c.k9<|.inl rfl) hs.kd hL ah d
  case inr.inr.inr.inr.inr.inr.inr.inr.inr.inl=>
   have hx:x=[]:=c.Nf (.inr<|.inr<|.inl rfl);subst hx;obtain ⟨u,e1⟩:=VF (g.a1<|.inr<|.inr<|.inl rfl);have e1:ks=[u]:=e1;subst e1;have hL:gQ u.kind=true:=g.kl u rfl (.inr<|.inl rfl);have et:dI f ⟨10,o,[],[],[u]⟩ p=dI f u tJ++[sg o]:=by
    rw [iM];show (bG f 10 o 1 0 p [u]).getD 0 []++[sg o]=_;rw [iA];show bS f 10 o 1 0 p u++[sg o]=_;have:bS f 10 o 1 0 p u=dI f u (fU 10 o 1 0 p):=rfl;rw [this,adn (gk u aA) hL]
   rw [et] at hs ⊢;have d:=Zh u aA l tJ i rfl hs.left;have:=d.lt;have e2:i+(dI f u tJ++[sg o]).length=i+(dI f u tJ).length+1:=bE;rw [e2];exact .post o (c.k9<|.inr rfl) hs.right.kd hL ah d
  case inr.inr.inr.inr.inr.inr.inr.inr.inr.inr.inl=>
   have hx:x=[]:=c.Nf (.inr<|.inr<|.inr<|.inl rfl);subst hx;obtain ⟨u,e1⟩:=VF (g.a1<|.inr<|.inr<|.inr rfl);have e1:ks=[u]:=e1;subst e1;have et:dI f ⟨11,o,[],[],[u]⟩ p=sg o::bT f u ⟨11,false,p.aY,p.bg,false⟩:=by
    rw [iM];show sg o::(bG f 11 o 1 0 p [u]).getD 0 []=_;rw [iA];rfl
   rw [et] at hs ⊢;obtain ⟨h,d⟩:=yj u aA l ⟨11,false,p.aY,p.bg,false⟩ (i+1) rfl hs.tl;have:=d.lt;have e2:i+(sg o::bT f u ⟨11,false,p.aY,p.bg,false⟩).length=i+1+(bT f u ⟨11,false,p.aY,p.bg,false⟩).length:=bE;rw [e2];exact .unary o (c.k11 rfl) hs.kd ah d
  case inr.inr.inr.inr.inr.inr.inr.inr.inr.inr.inr.inl=>
   have hx:x=[]:=c.Nf (.inr<|.inr<|.inr<|.inr<|.inl rfl);subst hx;obtain ⟨a,b,e1⟩:=Zi (g.a2<|.inl rfl);have e1:ks=[a,b]:=e1;subst e1;have hlv:bA o≠0:=g.lv;have hpa:posB (fU 12 o 2 0 p)=true:=VG rfl;have hpb:posB (fU 12 o 2 1 p)=true:=VG rfl;have et0:dI f ⟨12,o,[],[],[a,b]⟩ p=bT f a (fU 12 o 2 0 p)++((bif o==99 then [] else [sg o])++bT f b (fU 12 o 2 1 p)):=by
    rw [iM];show (bG f 12 o 2 0 p [a,b]).getD 0 []++((bif o==99 then [] else [sg o])++(bG f 12 o 2 0 p [a,b]).getD 1 [])=_;rw [iA,iA];rfl
   by_cases pG:o=99
   .subst pG;have et:dI f ⟨12,99,[],[],[a,b]⟩ p=bT f a (fU 12 99 2 0 p)++bT f b (fU 12 99 2 1 p):=et0;rw [et] at hs ⊢;obtain ⟨h1,da⟩:=yj a aA l _ i hpa hs.left;obtain ⟨h2,db⟩:=yj b aA l _ _ hpb hs.right;have ha:=da.lt;have hb:=db.lt;have e2:i+(bT f a (fU 12 99 2 0 p)++bT f b (fU 12 99 2 1 p)).length=i+(bT f a<|fU 12 99 2 0 p).length+(bT f b<|fU 12 99 2 1 p).length:=bE;rw [e2];exact .cat ha.1 hb.1 da db
   .have aiS:(o==99)=false:=by simpa using pG
    have et:dI f ⟨12,o,[],[],[a,b]⟩ p=bT f a (fU 12 o 2 0 p)++sg o::bT f b (fU 12 o 2 1 p):=by rw [et0,aiS];rfl
    rw [et] at hs ⊢;obtain ⟨h1,da⟩:=yj a aA l _ i hpa hs.left;have hr:=hs.right;obtain ⟨h2,db⟩:=yj b aA l _ _ hpb hr.tl;have ha:=da.lt;have hb:=db.lt;have hop:=db.first.o
    have e2:i+(bT f a (fU 12 o 2 0 p)++sg o::bT f b (fU 12 o 2 1 p)).length=i+(bT f a<|fU 12 o 2 0 p).length+1+(bT f b<|fU 12 o 2 1 p).length:=bE;rw [e2];have hpos:fU 12 o 2 1 p=⟨(jO o).2,false,p.aY,p.bg,false⟩:=by
     show (⟨(jO o).2,false,p.aY,p.bg,o==99⟩:aL)=_;rw [aiS]
    rw [hpos] at db hb ⊢;refine .bin o hlv pG hr.kd ha.1 hb.1 ?_ da db;by_cases Zj:bA o=3\/bA o=4
    .exact .inl ⟨Zj,dX _,fun k h1 h2=>ah,(fun e=>by rw [e] at hop;cases hop),(fun e=>by rw [e] at hop;cases hop)⟩
    .exact .inr ⟨Zj,rfl⟩
  case inr.inr.inr.inr.inr.inr.inr.inr.inr.inr.inr.inr.inl=>
   have ho:o=0:=c.qF rfl;subst ho;have hm:ks.length<=6:=c.many (.inr<|.inr<|.inr rfl);have h1:1<=ks.length:=g.ai (.inr rfl);by_cases hn:ks.length=1
   .obtain ⟨u,e1⟩:=VF (t:=⟨13,0,x,[],ks⟩) hn;have e1:ks=[u]:=e1;subst e1;have et:dI f ⟨13,0,x,[],[u]⟩ p=bT f u ⟨5,false,p.aY,p.bg,p.jS⟩++[sg 24,⟨6,x,0⟩]:=by
     rw [iM];show (bG f 13 0 1 0 p [u]).getD 0 []++[sg 24,⟨6,x,0⟩]=_;rw [iA];rfl
    rw [et] at hs ⊢;obtain ⟨h,d⟩:=yj u aA l ⟨5,false,p.aY,p.bg,p.jS⟩ i rfl hs.left;have hd:=d.lt;have hr:=hs.right;have hr2:=hr.tl;have e2:i+(bT f u ⟨5,false,p.aY,p.bg,p.jS⟩++[sg 24,⟨6,x,0⟩]).length=i+(bT f u ⟨5,false,p.aY,p.bg,p.jS⟩).length+2:=bE;have hx:pE l (i+(bT f u ⟨5,false,p.aY,p.bg,p.jS⟩).length+1)=x:=hr2.tx;rw [e2];have:=iW.one (p:=p) hd.1 hr.kd hr2.kd d;rw [hx] at this;exact this
   .have h2:decide (ks.length > 1)=true:=bE;have hlen:∀ j,(bG f 13 0 ks.length j p ks).length=ks.length:=fun j=>VH f 13 0 ks.length p ks j;have et:dI f ⟨13,0,x,[],ks⟩ p=sg 32::(dS false (bG f 13 0 ks.length 0 p ks)++sg 33::[sg 24,⟨6,x,0⟩]):=by
     rw [iM];show (bif decide ((bG f 13 0 ks.length 0 p ks).length > 1) then sg 32::(dS false (bG f 13 0 ks.length 0 p ks)++[sg 33]) else (bG f 13 0 ks.length 0 p ks).getD 0 [])++[sg 24,⟨6,x,0⟩]=_;rw [hlen,h2,aO];simp
    rw [et] at hs ⊢;have hkp:∀ j,fU 13 0 ks.length j p=bU:=fun j=>by
     show (bif decide (ks.length > 1) then (⟨1,false,false,false,false⟩:aL) else _)=_;rw [h2];rfl
    have hnn:ks≠[]:=by intro e;subst e;simp at h1
    have h3:Sg l (i+1) (dS false (bG f 13 0 ks.length 0 p ks)++sg 33::[sg 24,⟨6,x,0⟩]):=hs.tl;have dl:=VE f 13 0 ks.length p hkp (fun j=>by unfold tgt;simp) ks 0 _ l yj hnn h3.left;have hd:=dl.lt;have h4:=h3.right;have h5:=h4.tl;have h6:=h5.tl;have e2:i+(sg 32::(dS false (bG f 13 0 ks.length 0 p ks)++sg 33::[sg 24,⟨6,x,0⟩])).length=i+1+(dS false<|bG f 13 0 ks.length 0 p ks).length+3:=bE;have hx:pE l (i+1+(dS false<|bG f 13 0 ks.length 0 p ks).length+2)=x:=h6.tx;rw [e2];have:=iW.many (p:=p) hs.kd hd.1 h4.kd h5.kd h6.kd ah hm dl;rw [hx] at this;exact this
  case inr.inr.inr.inr.inr.inr.inr.inr.inr.inr.inr.inr.inr.inl=>
   have ho:o=0:=c.qF rfl;have hx:x=[]:=c.Nf (.inr<|.inr<|.inr<|.inr<|.inr<|.inl rfl);subst ho hx;obtain ⟨a,b,cc,e1⟩:=aiT (g.a3 rfl);have e1:ks=[a,b,cc]:=e1;subst e1;have et:dI f ⟨14,0,[],[],[a,b,cc]⟩ p=bT f a ⟨3,false,p.aY,p.bg,p.jS⟩++sg 65::(bT f b ⟨2,false,p.aY,p.bg,false⟩++sg 66::bT f cc ⟨2,false,p.aY,p.bg,false⟩):=by
    rw [iM];show (bG f 14 0 3 0 p [a,b,cc]).getD 0 []++(sg 65::((bG f 14 0 3 0 p [a,b,cc]).getD 1 []++(sg 66::(bG f 14 0 3 0 p [a,b,cc]).getD 2 [])))=_;rw [iA,iA,iA];rfl
   rw [et] at hs ⊢;obtain ⟨h1,da⟩:=yj a aA l _ i rfl hs.left;have hr:=hs.right;obtain ⟨h2,db⟩:=yj b aA l _ _ rfl hr.tl.left;have hr2:=hr.tl.right;obtain ⟨h3,dc⟩:=yj cc aA l _ _ rfl hr2.tl;have ha:=da.lt;have hb:=db.lt;have hcc:=dc.lt;have e2:i+(bT f a ⟨3,false,p.aY,p.bg,p.jS⟩++sg 65::(bT f b ⟨2,false,p.aY,p.bg,false⟩++sg 66::bT f cc ⟨2,false,p.aY,p.bg,false⟩)).length=i+(bT f a ⟨3,false,p.aY,p.bg,p.jS⟩).length+1+(bT f b ⟨2,false,p.aY,p.bg,false⟩).length+1+(bT f cc ⟨2,false,p.aY,p.bg,false⟩).length:=bE;rw [e2];exact .cond ha.1 hr.kd hb.1 hr2.kd hcc.1 da db dc
  case inr.inr.inr.inr.inr.inr.inr.inr.inr.inr.inr.inr.inr.inr=>
   have hx:x=[]:=c.Nf (.inr<|.inr<|.inr<|.inr<|.inr<|.inr rfl);subst hx;obtain ⟨a,b,e1⟩:=Zi (g.a2<|.inr rfl);have e1:ks=[a,b]:=e1;subst e1;have hL:gQ a.kind=true:=g.kl a rfl (.inr<|.inr rfl);have pG:(o==99)=false:=by
    have:=g.op rfl;simpa using this
   have et:dI f ⟨15,o,[],[],[a,b]⟩ p=dI f a tJ++sg o::bT f b ⟨1,false,p.aY,p.bg,false⟩:=by
    rw [iM];show (bG f 15 o 2 0 p [a,b]).getD 0 []++((bif o==99 then [] else [sg o])++(bG f 15 o 2 0 p [a,b]).getD 1 [])=_;rw [pG,iA,iA];show bS f 15 o 2 0 p a++([sg o]++bT f b ⟨1,false,p.aY,p.bg,false⟩)=_;have:bS f 15 o 2 0 p a=dI f a (fU 15 o 2 0 p):=rfl;rw [this,adn (gk a aA) hL];rfl
   rw [et] at hs ⊢;have da:=Zh a aA l tJ i rfl hs.left;have hr:=hs.right;obtain ⟨h2,db⟩:=yj b aA l _ _ rfl hr.tl;have ha:=da.lt;have hb:=db.lt;have e2:i+(dI f a tJ++sg o::bT f b ⟨1,false,p.aY,p.bg,false⟩).length=i+(dI f a tJ).length+1+(bT f b ⟨1,false,p.aY,p.bg,false⟩).length:=bE;rw [e2];exact .assign o (c.k15 rfl) hr.kd ha hb.1 hL da db
def QN (t:aC):Prop:=t.Text.length<=1048576
def aqH (k:Int):∃ b:Bool,yh k=some b/\Mx k=some b:=by
 have e:Mx k=yh k:=rfl;rw [e];have hk:∀ b:Bool,CW b=some b:=by intro b;cases b<;>rfl
 have hb:∀ (c d:Bool) (X:Option Bool),(∃ b,X=some b)->∃ b,(bif c then some d else X)=some b:=by
  intro c d X hX;cases c
  .exact hX
  .exact ⟨d,rfl⟩
 unfold yh;simp only [hk];obtain ⟨b,h⟩:=hb (k==3) (k==3) _ (hb (k==4) (k==4) _<|hb (k==5) (k==5) _<|hb (k==6) (k==6) _<|hb (k==8) (k==8) _<|hb (k==33) (k==33) _<|hb (k==35) (k==35) _<|hb (k==51) (k==51) _ ⟨(k==52),rfl⟩);exact ⟨b,h,h⟩
def aqI (N M:Nat) (a:List aC) (ha:a.length<=3000) (hN:1048576+300 < N) (hs:∀ t,t∈a->QN t) (m i:Nat) (p:Int) (hm:0 < m) (h:i < a.length) (h0:a[i].Kind=0):xX N m (a,p,(i:Int))=some false:=by
 obtain ⟨m,rfl⟩:∃ k,m=k+1:=⟨m - 1,ah⟩
 have ht:=hs _ (nO h);unfold QN at ht;obtain ⟨b,_,b2,b3⟩:=QM N a[i] ht ah;have hb:=b3 h0;subst hb;have hk:∀ K,JL N (xX N m) (a,p,(i:Int),a[i],K)=some false:=by
  intro K;simp only [JL];rw [b2];rfl
 have hst:IntKind.wrap .i64 ((i:Int)+1)=((i+1:Nat):Int):=by rw [wrap64 ah ah];omega
 rw [xX,iL h,aO,dn h,aB,hst];by_cases h1:i+1 < a.length
 .rw [iL h1,aO,dn h1,aB,hk]
 .rw [jN h1,aI,hk]
def aqJ (N:Nat) (a:List aC) (ha:a.length<=3000) (hN:1048576+300 < N) (hs:∀ t,t∈a->QN t):∀ (n m i:Nat) (p:Int),a.length - i < n->a.length - i < m->i<=a.length->
  ∃ b:Bool,EH N n (a,p,(i:Int))=some b/\xX N m (a,p,(i:Int))=some b:=by
 intro n;induction n with
 | zero=>intro m i p h;omega
 | succ n ih=>
  intro m i p hn hm hi;obtain ⟨m,rfl⟩:∃ k,m=k+1:=⟨m - 1,ah⟩
  by_cases h:i < a.length
  .have hst:IntKind.wrap .i64 ((i:Int)+1)=((i+1:Nat):Int):=by rw [wrap64 ah ah];omega
   have ht:=hs _ (nO h);unfold QN at ht;obtain ⟨b,b1,b2,_⟩:=QM N a[i] ht ah;obtain ⟨e,e1,e2⟩:=aqH p;obtain ⟨q,q1,q2⟩:=ih m (i+1) a[i].Kind ah ah ah;have main:∀ (K:Int),(K≠0/\i+1 < a.length)\/(K=0/\ ¬i+1 < a.length)\/(K=0/\i+1 < a.length/\q=false)->
     ∃ r:Bool,QI N (EH N n) (a,p,(i:Int),K)=some r/\JL N (xX N m) (a,p,(i:Int),a[i],K)=some r:=by
    intro K hK;simp only [QI,JL,UU,dn h,aB,b1,b2,e1,e2,hst,q1,q2];have hL:decide (((i+1:Nat):Int) < (a.length:Int))=true/\(i+1 < a.length)\/decide (((i+1:Nat):Int) < (a.length:Int))=false/\ ¬(i+1 < a.length):=by
     by_cases h1:i+1 < a.length
     .exact .inl ⟨iL h1,h1⟩
     .exact .inr ⟨jN h1,h1⟩
    generalize (a[i].Kind==7)=c7;generalize hc2:(a[i].Kind==2)=c2;generalize hc5:(a[i].Kind==5)=c5;generalize aiV:(a[i].Kind==58)=Zk;generalize aiW:(a[i].Kind==41)=Zl;generalize (K !=32)=k32;generalize hk1:(K !=1)=k1;have h25:c2=true->c5=false/\Zk=false/\Zl=false:=by
     intro h;rw [h] at hc2;have:=eq_of_beq hc2;rw [this] at hc5 aiV aiW;exact ⟨hc5.symm,aiV.symm,aiW.symm⟩
    rcases hK with ⟨k0,hl⟩|⟨k0,hl⟩|⟨k0,hl,hq⟩
    .have hk0:(K !=0)=true:=by simpa using k0
     rcases hL with ⟨hL,_⟩|⟨_,hL⟩
     .rw [hL,hk0];cases b<;>cases c7<;>cases c2<;>cases c5<;>cases Zk<;>cases Zl<;>cases k32<;>cases k1<;>cases e<;>exact ⟨_,rfl,rfl⟩
     .exact absurd hl hL
    .have hk0:(K !=0)=false:=by rw [k0];rfl
     rcases hL with ⟨_,hL⟩|⟨hL,_⟩
     .exact absurd hL hl
     .rw [hL,hk0];cases b<;>cases c7<;>cases c2<;>cases c5<;>cases Zk<;>cases Zl<;>cases k32<;>cases k1<;>cases e<;>exact ⟨_,rfl,rfl⟩
    .have hk0:(K !=0)=false:=by rw [k0];rfl
     have aqK:k1=true:=by rw [<- hk1,k0];rfl
     rcases hL with ⟨hL,_⟩|⟨_,hL⟩
     .subst aqK;rw [hL,hk0,hq];cases b<;>cases c7<;>cases c2<;>cases c5<;>cases Zk<;>cases Zl<;>cases k32<;>cases e<;>first
       | exact ⟨_,rfl,rfl⟩
       | (exfalso;have:=h25 rfl;simp at this)
     .exact absurd hl hL
   rw [EH,xX,iL h,aO,aO,dn h,aB,hst];by_cases h1:i+1 < a.length
   .rw [iL h1,aO,aO,dn h1,aB,aB];refine main a[i+1].Kind ?_;by_cases hz:a[i+1].Kind=0
    .have:=aqI N N a ha hN hs m (i+1) a[i].Kind ah h1 hz;rw [q2] at this;exact .inr (.inr ⟨hz,h1,by simpa using this⟩)
    .exact .inl ⟨hz,h1⟩
   .rw [jN h1,aI,aI];exact main 0 (.inr<|.inl ⟨rfl,h1⟩)
  .rw [EH,xX,jN h];exact ⟨true,rfl,rfl⟩
def ahl (N:Nat) (a:List aC) (hN:1048576+300 < N) (hs:∀ t,t∈a->QN t):∃ b:Bool,Zd N a=some b/\FP N a=some b/\(b=true->a.length<=3000):=by
 unfold Zd FP;by_cases h:a.length<=3000
 .obtain ⟨b,h1,h2⟩:=aqJ N a h hN hs N N 0 0 ah ah ah;rw [tH (by omega: ¬(a.length:Int) > 3000)];exact ⟨b,h1,h2,fun _=>h⟩
 .rw [kL (by omega:(a.length:Int) > 3000)];exact ⟨false,rfl,rfl,fun h=>by cases h⟩
def jF (k:Int):Bool:=k==3||(k==4||(k==5||(k==6||(k==8||(k==33||(k==35||(k==51||k==52)))))))
def aqL (k:Int):yh k=some (jF k):=by
 have h1:∀ b,CW b=some b:=fun b=>by cases b<;>rfl
 unfold yh jF;simp only [h1];cases (k==3)<;>cases (k==4)<;>cases (k==5)<;>cases (k==6)<;>cases (k==8)<;>cases (k==33)<;>cases (k==35)<;>cases (k==51)<;>rfl
def aqM (l:List aC) (i k:Nat):Prop:=kd l k≠2/\(kd l k=7->kd l (k+1)=32)/\(i < k->kd l k=5->jF (kd l<|k - 1)=false)/\(kd l k=58\/kd l k=41->i < k/\jF (kd l<|k - 1)=true)
def mo (l:List aC) (i j:Nat):Prop:=∀ k,i<=k->k < j->aqM l i k
def mo.one {l:List aC} {i:Nat} (h:kd l i≠2/\kd l i≠58/\kd l i≠41) (h7:kd l i=7->kd l (i+1)=32):mo l i (i+1):=fun k h1 h2=>by
 have e:k=i:=ah;subst e;exact ⟨h.1,h7,fun h=>absurd h<|Zm _,fun e=>by rcases e with e|e<;>simp [e] at h⟩
def mo.snoc {l:List aC} {i m:Nat} (a:mo l i m) (him:i < m) (h:kd l m≠2/\kd l m≠7/\kd l m≠5) (hd:kd l m=58\/kd l m=41->jF (kd l<|m - 1)=true):mo l i (m+1):=fun k h1 h2=>by
 by_cases e:k=m
 .subst e;exact ⟨h.1,fun e=>absurd e h.2.1,fun _ e=>absurd e h.2.2,fun e=>⟨him,hd e⟩⟩
 .exact a k h1 ah
def mo.app {l:List aC} {i m j:Nat} (a:mo l i m) (b:mo l m j) (him:i < m) (hb:kd l m=5->jF (kd l<|m - 1)=false):mo l i j:=fun k h1 h2=>by
 by_cases e:k < m
 .exact a k h1 e
 .obtain ⟨b1,b2,b3,b4⟩:=b k ah h2;refine ⟨b1,b2,fun h e5=>?_,fun e4=>⟨ah,(b4 e4).2⟩⟩;by_cases ek:k=m
  .subst ek;exact hb e5
  .exact b3 ah e5
def adq {l:List aC} {i:Nat}:∀ (n m f:Nat),f - m<=n->mo l i m->i < m->m<=f->(∀ k,m<=k->k < f->kd l k=1)->mo l i f
 | 0,m,f,h,a,_,hm,_=>by
  have:m=f:=ah;subst this;exact a
 | n+1,m,f,h,a,him,hm,hk=>by
  by_cases e:m=f
  .subst e;exact a
  .have h1:=hk m (dX _) ah;exact adq n (m+1) f ah (a.snoc him (by rw [h1];decide) fun e=>by rw [h1] at e;omega) ah ah fun k g1 g2=>hk k ah g2
structure VI (l:List aC) (i j:Nat):Prop where
 a:mo l i j
 e:jF (kd l<|j - 1)=true
def aqN {o:Int} (h:bA o≠0):jF o=false/\o≠2/\o≠7/\o≠5:=by
 rcases GY h with e|e|e|e|e|e|e|e|e|e|e|e|e|e|e|e|e<;>subst e<;>decide
def aqO {o:Int} (h:qG o=true):jF o=false/\o≠2/\o≠7/\o≠5:=by
 have h1:=QO h;refine ⟨?_,ah,ah,ah⟩;have f:∀ {z:Int},o≠z->(o==z)=false:=fun h=>by simpa using h
 unfold jF;rw [f ah,f ah,f ah,f ah,f ah,f ah,f ah,f ah,f ah];rfl
def aiX {l:List aC} {m f:Nat} (h:Ln l (m+1) f) (he:jF (kd l m)=false):jF (kd l<|f - 1)=false:=by
 by_cases e:f=m+1
 .subst e;exact he
 .have:=h.1;rw [h.2.1 (f - 1) ah ah];rfl
def ahi (l:List aC):∀ (n i j:Nat),j - i<=n->(∀ p t,i < j->iW l p i j t->VI l i j)/\(∀ p t h,fZ l p i j t h->VI l i j)/\(∀ ts,xg l i j ts->VI l i j):=by
 intro n;induction n with
 | zero=>exact fun i j hn=>⟨fun p t hij=>ah,fun p t h d=>by have:=d.lt;omega,fun ts d=>by have:=d.lt;omega⟩
 | succ n ih=>
  intro i j hn;have hN:∀ p t,i < j->iW l p i j t->VI l i j:=by
   intro p t hij d;cases d with
   | leaf k h1 h2=>rcases h1 with rfl|rfl|rfl<;>exact ⟨.one (by rw [h2];decide) (fun e=>by rw [h2] at e;omega),by show jF (kd l i)=true;rw [h2];rfl⟩
   | name h1=>exact ⟨.one (by rw [h1];decide) (fun e=>by rw [h1] at e;omega),by show jF (kd l i)=true;rw [h1];rfl⟩
   | @index _ _ j ts h1 h2 h3 h4 h5 h6 h7=>
    have r:=(ih (i+2) j ah).2.2 _ h7;have a1:mo l i (i+1):=.one (by rw [h1];decide) (fun e=>by rw [h1] at e;omega);have a2:mo l i (i+1+1):=a1.snoc ah (by rw [h2];decide) (fun e=>by rw [h2] at e;omega);have a3:=a2.app r.a ah (fun _=>by show jF (kd l<|i+1)=false;rw [h2];rfl);exact ⟨a3.snoc ah (by rw [h5];decide) (fun e=>by rw [h5] at e;omega),by show jF (kd l j)=true;rw [h5];rfl⟩
   | xJ k h1 h2 h3 h4=>
    have a1:mo l i (i+1):=.one (by rw [h2];rcases h1 with rfl|rfl<;>decide) (fun _=>h3);have a2:mo l i (i+1+1):=a1.snoc ah (by rw [h3];decide) (fun e=>by rw [h3] at e;omega);have a3:mo l i (i+2+1):=a2.snoc ah (by show kd l (i+2)≠2/\kd l (i+2)≠7/\kd l (i+2)≠5;rw [h4];decide) (fun e=>by have e:kd l (i+2)=58\/kd l (i+2)=41:=e;rw [h4] at e;omega);exact ⟨a3,by show jF (kd l<|i+2)=true;rw [h4];rfl⟩
   | @call _ _ j ts k h1 h2 h3 h4 h5 h6 h7 h8=>
    have r:=(ih (i+2) j ah).2.2 _ h8;have a1:mo l i (i+1):=.one (by rw [h2];rcases h1 with rfl|rfl<;>decide) (fun _=>h3);have a2:mo l i (i+1+1):=a1.snoc ah (by rw [h3];decide) (fun e=>by rw [h3] at e;omega);have a3:=a2.app r.a ah (fun _=>by show jF (kd l<|i+1)=false;rw [h3];rfl);exact ⟨a3.snoc ah (by rw [h6];decide) (fun e=>by rw [h6] at e;omega),by show jF (kd l j)=true;rw [h6];rfl⟩
   | len h1=>exact ⟨.one (by rw [h1];decide) (fun e=>by rw [h1] at e;omega),by show jF (kd l i)=true;rw [h1];rfl⟩
   | field h1 h2 h3=>
    have r:=(ih (i+1) j ah).2.1 _ _ _ h3;have a1:mo l i (i+1):=.one (by rw [h1];decide) (fun e=>by rw [h1] at e;omega);exact ⟨a1.app r.a ah (fun _=>by show jF (kd l i)=false;rw [h1];rfl),r.e⟩
   | pre o h1 h2 h3 h4 h5=>
    have r:=(ih (i+1) j ah).1 _ _ h4 h5;have a1:mo l i (i+1):=.one (by rw [h2];omega) (fun e=>by rw [h2] at e;omega);have hl:=Ni h5 h3;exact ⟨a1.app r.a ah (fun e=>by rw [e] at hl;omega),r.e⟩
   | @post _ _ j t o h1 h2 h3 h4 h5=>
    have r:=(ih i j ah).1 _ _ h4 h5;exact ⟨r.a.snoc h4 (by rw [h2];omega) (fun e=>by rw [h2] at e;omega),by show jF (kd l j)=true;rw [h2];rcases h1 with rfl|rfl<;>rfl⟩
   | unary o h1 h2 h3 h4=>
    have r:=(ih (i+1) j ah).2.1 _ _ _ h4;have a1:mo l i (i+1):=.one (by rw [h2];omega) (fun e=>by rw [h2] at e;omega);exact ⟨a1.app r.a ah (fun _=>by show jF (kd l i)=false;rw [h2];rcases h1 with rfl|rfl|rfl<;>rfl),r.e⟩
   | @bin _ _ m f _ a b _ _ o h1 h2 h3 h4 h5 h6 h7 h8=>
    have Nj:=Ng h6;have ra:=(ih i m ah).2.1 _ _ _ h7;have rb:=(ih f j ah).2.1 _ _ _ h8;have ho:=aqN h1;have a1:=ra.a.snoc h4 (by rw [h3];exact ho.2) (fun _=>ra.e);rcases h6 with ⟨_,h6⟩|⟨_,h6⟩
    .have a2:=adq (f - (m+1)) (m+1) f ah a1 ah Nj h6.2.1;exact ⟨a2.app rb.a ah (fun _=>aiX h6<|by rw [h3];exact ho.1),rb.e⟩
    .subst h6;exact ⟨a1.app rb.a ah (fun _=>by show jF (kd l m)=false;rw [h3];exact ho.1),rb.e⟩
   | @cat _ _ m _ a b _ _ h1 h2 h3 h4=>
    have ra:=(ih i m ah).2.1 _ _ _ h3;have rb:=(ih m j ah).2.1 _ _ _ h4;have hbg:=Zn (h4.first.s rfl);exact ⟨ra.a.app rb.a h1 (fun e=>by rw [e] at hbg;omega),rb.e⟩
   | @one _ _ m t h h1 h2 h3 h4=>
    have ra:=(ih i m ah).2.1 _ _ _ h4;have a1:=ra.a.snoc h1 (by rw [h2];decide) (fun e=>by rw [h2] at e;omega);have a2:mo l i (m+1+1):=a1.snoc ah (by rw [h3];decide) (fun e=>by rw [h3] at e;omega);exact ⟨a2,by show jF (kd l<|m+1)=true;rw [h3];rfl⟩
   | @many _ _ m ts h1 h2 h3 h4 h5 h6 h7 h8=>
    have r:=(ih (i+1) m ah).2.2 _ h8;have a1:mo l i (i+1):=.one (by rw [h1];decide) (fun e=>by rw [h1] at e;omega);have a2:=a1.app r.a ah (fun _=>by show jF (kd l i)=false;rw [h1];rfl);have a3:=a2.snoc ah (by rw [h3];decide) (fun e=>by rw [h3] at e;omega);have a4:mo l i (m+1+1):=a3.snoc ah (by rw [h4];decide) (fun e=>by rw [h4] at e;omega);have a5:mo l i (m+2+1):=a4.snoc ah (by show kd l (m+2)≠2/\kd l (m+2)≠7/\kd l (m+2)≠5;rw [h5];decide) (fun e=>by have e:kd l (m+2)=58\/kd l (m+2)=41:=e;rw [h5] at e;omega);exact ⟨a5,by show jF (kd l<|m+2)=true;rw [h5];rfl⟩
   | @cond _ _ m n2 _ a b c _ _ _ h1 h2 h3 h4 h5 h6 h7 h8=>
    have ra:=(ih i m ah).2.1 _ _ _ h6;have rb:=(ih (m+1) n2 ah).2.1 _ _ _ h7;have rc:=(ih (n2+1) j ah).2.1 _ _ _ h8;have a1:=ra.a.snoc h1 (by rw [h2];decide) (fun e=>by rw [h2] at e;omega);have a2:=a1.app rb.a ah (fun _=>by show jF (kd l m)=false;rw [h2];rfl);have a3:=a2.snoc ah (by rw [h4];decide) (fun e=>by rw [h4] at e;omega);exact ⟨a3.app rc.a ah (fun _=>by show jF (kd l n2)=false;rw [h4];rfl),rc.e⟩
   | @assign _ _ m _ a b _ o h1 h2 h3 h4 h5 h6 h7=>
    have ra:=(ih i m ah).1 _ _ h3 h6;have rb:=(ih (m+1) j ah).2.1 _ _ _ h7;have ho:=aqO h1;have a1:=ra.a.snoc h3 (by rw [h2];exact ho.2) (fun _=>ra.e);exact ⟨a1.app rb.a ah (fun _=>by show jF (kd l m)=false;rw [h2];exact ho.1),rb.e⟩
  have hD:∀ p t h,fZ l p i j t h->VI l i j:=fun p t h d=>by
   cases d with
   | @par _ _ j _ h h1 h2 h3 h4 h5=>
    have r:=(ih (i+1) j ah).2.1 _ _ _ h4;have a1:mo l i (i+1):=.one (by rw [h1];decide) (fun e=>by rw [h1] at e;omega);have a2:=a1.app r.a ah (fun _=>by show jF (kd l i)=false;rw [h1];rfl);exact ⟨a2.snoc ah (by rw [h5];decide) (fun e=>by rw [h5] at e;omega),by show jF (kd l j)=true;rw [h5];rfl⟩
   | bare h1 h2 h3 h4=>exact hN p t h2 h4
  refine ⟨hN,hD,fun ts d=>?_⟩;cases d with
  | one h1 h2=>exact hD _ _ _ h2
  | @cons _ k f _ t u ts h h1 h2 h3 h4 h5 h6=>
   have h3':=h3.1;have ra:=(ih i k ah).2.1 _ _ _ h5;have rb:=(ih f j ah).2.2 _ h6;have a1:=ra.a.snoc h1 (by rw [h2];decide) (fun e=>by rw [h2] at e;omega);have a2:=adq (f - (k+1)) (k+1) f ah a1 ah h3' h3.2.1;exact ⟨a2.app rb.a ah (fun _=>aiX h3<|by rw [h2];rfl),rb.e⟩
def aqP (N:Nat) (a:List aC) (ha:a.length<=3000) (adr:mo a 0 a.length) (hok:∀ t,t∈a->sZ N t=some true):∀ (n i:Nat) (last:Int),a.length - i < n->i<=a.length->(i=0->last=0)->(0 < i->last=kd a (i - 1))->EH N n (a,last,(i:Int))=some true:=by
 intro n;induction n with
 | zero=>intro i last h;omega
 | succ n ih=>
  intro i last hn hi h0 h1;rw [EH];by_cases hlt:i < a.length
  .obtain ⟨b1,b2,b3,b4⟩:=adr i (CY _) hlt;have hk:=BG hlt;rw [hk] at b1 b2 b3 b4;have step:∀ nx:Int,nx=kd a (i+1)->QI N (EH N n) (a,last,(i:Int),nx)=some true:=fun nx hnx=>by
    unfold QI;dsimp only;simp only [dn hlt,aB,hok _<|nO hlt,nN,aI];have c2:(a[i].Kind==2)=false:=by simpa using b1
    have first:(bif a[i].Kind==7 then bif nx !=32 then some true else bif a[i].Kind==2 then bif nx !=1 then some (decide<|IntKind.wrap .i64 ((i:Int)+1) < (a.length:Int)) else some false else some false else bif a[i].Kind==2 then bif nx !=1 then some (decide<|IntKind.wrap .i64 ((i:Int)+1) < (a.length:Int)) else some false else some false)=some false:=by
     cases h7:(a[i].Kind==7) with
     | false=>rw [aI,c2,aI]
     | true=>
      have:nx=32:=by rw [hnx];exact b2 (by simpa using h7)
      rw [this,c2];rfl
    rw [first,aB,aI];have hend:jF last=true->0 < i/\last=kd a (i - 1):=fun h=>by
     by_cases e:i=0
     .rw [h0 e] at h;cases h
     .exact ⟨ah,h1 ah⟩
    have e5:a[i].Kind=5->jF last=false:=fun h=>by
     cases hb:jF last with
     | false=>rfl
     | true=>
      obtain ⟨g1,g2⟩:=hend hb;have:=b3 g1 h;rw [<- g2,hb] at this;cases this
    have ed:a[i].Kind=58\/a[i].Kind=41->jF last=true:=fun h=>by
     obtain ⟨g1,g2⟩:=b4 h;rw [h1 g1];exact g2
    have second:(bif a[i].Kind==5 then (yh last).bind fun acP=>bif acP then some true else (bif (a[i].Kind==58) then (yh last).bind fun acQ=>some (!acQ) else (bif (a[i].Kind==41) then (yh last).bind fun acR=>some (!acR) else (some false))) else (bif (a[i].Kind==58) then (yh last).bind fun acS=>some (!acS) else (bif (a[i].Kind==41) then (yh last).bind fun acT=>some (!acT) else (some false))))=some false:=by
     rw [aqL];simp only [aB];cases h5:(a[i].Kind==5) with
     | true=>
      have h5':a[i].Kind=5:=by simpa using h5
      rw [e5 h5',h5'];rfl
     | false=>
      rw [aI];cases iN:(a[i].Kind==58) with
      | true=>rw [ed<|.inl<|by simpa using iN];rfl
      | false=>
       rw [aI];cases lG:(a[i].Kind==41) with
       | true=>rw [ed<|.inr<|by simpa using lG];rfl
       | false=>rfl
    rw [second,aB,aI,wrap64 ah ah,show (i:Int)+1=((i+1:Nat):Int) by omega];exact ih (i+1) _ ah ah (fun e=>ah) (fun _=>hk.symm)
   rw [iL hlt,aO,wrap64 ah ah,show (i:Int)+1=((i+1:Nat):Int) by omega];by_cases h2:i+1 < a.length
   .rw [iL h2,aO,dn h2,aB];exact step _ (by rw [BG h2])
   .rw [jN h2,aI];exact step _ (by unfold kd;rw [zo ah];rfl)
  .rw [jN hlt,aI]
def ahj (N:Nat) (a:List aC) (ha:a.length<=3000) (hN:3000 < N) (adr:mo a 0 a.length) (hok:∀ t,t∈a->sZ N t=some true):Zd N a=some true:=by
 unfold Zd;rw [tH (show¬(a.length:Int) > 3000 by omega),aI];exact aqP N a ha adr hok N 0 0 ah ah (fun _=>rfl) (fun h=>ah)
def qI (d:Nat) (k:Int):Nat:=bif mQ k then (bif nU k then d - 1 else d)+1 else (bif nU k then d - 1 else d)
def jW:Nat->List aC->Bool
 | _,[]=>true
 | d,t::ts=>decide (qI d t.Kind<=40)&&jW (qI d t.Kind) ts
def aqQ (N:Nat) (a:List aC) (ha:a.length<=3000):∀ (n i d:Nat),a.length - i < n->i<=a.length->d<=40->∃ r,BA N n (a,(d:Int),(i:Int))=some r/\(jW d (a.drop i)=true->r= -1)/\(jW d (a.drop i)=false->0<=r/\r < (a.length:Int)):=by
 intro n;induction n with
 | zero=>intro i d h;omega
 | succ n ih=>
  intro i d hn hi hd;rw [BA];by_cases hlt:i < a.length
  .have k3:∀ d':Nat,d'=qI d a[i].Kind->∃ r,QD N (BA N n) (a,(i:Int),(d':Int))=some r/\(jW d (a.drop i)=true->r= -1)/\(jW d (a.drop i)=false->0<=r/\r < (a.length:Int)):=fun d' hd'=>by
    unfold QD;dsimp only;rw [EN hlt,jW,<- hd'];by_cases xk:d'<=40
    .rw [tH (show¬(d':Int) > 40 by omega),kL xk,aI,wrap64 ah ah,show (i:Int)+1=((i+1:Nat):Int) by omega,Ae];exact ih (i+1) d' ah ah xk
    .rw [kL (show (d':Int) > 40 by omega),tH xk,aO,VJ];exact ⟨_,rfl,(fun h=>by cases h),fun _=>⟨ah,ah⟩⟩
   have k2:∀ d':Nat,d'<=40->d'=(bif nU a[i].Kind then d - 1 else d)->∃ r,QF N (BA N n) (a,(i:Int),(d':Int))=some r/\(jW d (a.drop i)=true->r= -1)/\(jW d (a.drop i)=false->0<=r/\r < (a.length:Int)):=fun d' xk hd'=>by
    unfold QF;dsimp only;rw [dn hlt,aB,aqR,aB];cases ho:mQ a[i].Kind with
    | true=>
     rw [aO,wrap64 ah ah,show (d':Int)+1=((d'+1:Nat):Int) by omega];exact k3 _ (by unfold qI;rw [ho,<- hd'];rfl)
    | false=>
     rw [aI];exact k3 _ (by unfold qI;rw [ho,<- hd'];rfl)
   rw [iL hlt,aO,dn hlt,aB,aqS,aB];cases hc:nU a[i].Kind with
   | true=>
    rw [aO,wrap64 ah ah];have e:(if (d:Int) - 1 > 0 then (d:Int) - 1 else 0)=((d - 1:Nat):Int):=by
     split<;>omega
    rw [e];exact k2 (d - 1) ah (by rw [hc];rfl)
   | false=>
    rw [aI];exact k2 d hd (by rw [hc];rfl)
  .rw [jN hlt,aI];exact ⟨-1,rfl,fun _=>rfl,fun h=>by rw [CZ ah] at h;cases h⟩
def ahw (N:Nat) (a:List aC) (ha:a.length<=3000) (hN:3000 < N):∃ r,Zc N a=some r/\(jW 0 a=true->r= -1)/\(jW 0 a=false->0<=r/\r < (a.length:Int)):=by
 have:=aqQ N a ha N 0 0 ah ah ah;rw [EL] at this;exact this
def Dp (e:Nat) (x:List aC):Prop:=∀ d y,d+e<=40->jW d (x++y)=jW d y
def Dp.nil:Dp 0 []:=fun d y _=>rfl
def Dp.mono {e e':Nat} {x:List aC} (h:Dp e x) (he:e<=e'):Dp e' x:=fun d y hd=>h d y ah
def Dp.app {e:Nat} {x y:List aC} (hx:Dp e x) (hy:Dp e y):Dp e (x++y):=fun d z hd=>by rw [nC,hx d _ hd,hy d z hd]
def Dp.tok {e:Nat} {t:aC} (h:mQ t.Kind=false/\nU t.Kind=false):Dp e [t]:=fun d y hd=>by
 show (decide (qI d t.Kind<=40)&&jW (qI d t.Kind) y)=jW d y;have:qI d t.Kind=d:=by unfold qI;rw [h.1,h.2];rfl
 rw [this,kL ah,Ae]
def Dp.wrap {e:Nat} {o c:aC} {x:List aC} (ho:mQ o.Kind=true) (hc:nU c.Kind=true) (h:Dp e x):Dp (e+1) (o::(x++[c])):=fun d y hd=>by
 have hco:=(VK ho).1;have hoc:mQ c.Kind=false:=by
  cases h:mQ c.Kind with
  | false=>rfl
  | true=>rw [(VK h).1] at hc;cases hc
 show (decide (qI d o.Kind<=40)&&jW (qI d o.Kind) ((x++[c])++y))=jW d y;have e1:qI d o.Kind=d+1:=by unfold qI;rw [ho,hco];rfl
 rw [e1,kL ah,Ae,nC,h (d+1) _ ah];show (decide (qI (d+1) c.Kind<=40)&&jW (qI (d+1) c.Kind) y)=jW d y;have e2:qI (d+1) c.Kind=d:=by unfold qI;rw [hoc,hc];rfl
 rw [e2,kL ah,Ae]
def Dp.cons {e:Nat} {t:aC} {x:List aC} (h:mQ t.Kind=false/\nU t.Kind=false) (hx:Dp e x):Dp e (t::x):=Dp.app (x:=[t]) (.tok h) hx
def Dp.par {e:Nat} {b:Bool} {x y:List aC} (hx:b=false->Dp e x) (hy:b=true->Dp e y):Dp (e+1) (qH b x y):=by
 cases b with
 | false=>exact (hx rfl).mono ah
 | true=>exact Dp.wrap rfl rfl (hy rfl)
def aiY {P:av->Prop} {t:av} (h:P t) (hk:∀ k,k∈t.kids->allT P k):allT P t:=by
 have key:∀ ts:List av,(∀ k,k∈ts->allT P k)->zu P ts:=by
  intro ts;induction ts with
  | nil=>intro _;rw [zu];trivial
  | cons u ts ih=>
   intro h;rw [zu];exact ⟨h u aA,ih fun k hk=>h k<|by simp [hk]⟩
 obtain ⟨k,o,x,y,ks⟩:=t;rw [allT];exact ⟨h,key ks hk⟩
def aqT (N:Nat) (a:List aD) (hN:500 < N) (hsh:uN a=true) (hok:xI N a=some true):∀ (t:av) (s i:Nat),TA a t s i->iC t.kind=true->allT GN t:=by
 intro t;induction t using Ag with
 | h t ih=>
  intro s i hT he;obtain ⟨n,hn,e1,e2,e3,e4,hka,hkl⟩:=hT.node;have hmem:=mR hn;obtain ⟨hf,aqU⟩:=aiZ N a hN hsh hok n hmem;have hen:iC n.Kind=true:=by rw [<- e1];exact he
  obtain ⟨har,hlv⟩:=aqV N n hf hen;have aFw:=(ads hsh n hmem).1;have adt:∀ (q:Nat) (k:av),t.kids[q]?=some k->∃ kk s':Nat,TA a k s' kk/\iC k.kind=true/\((n.Kind=9\/n.Kind=10\/(n.Kind=15/\q=0))->gQ k.kind=true):=fun q k hq=>by
   obtain ⟨kk,s',g1,g2,_⟩:=hka.get q k hq;have hql:q < n.Kids.length:=(dB.1 g1).1;obtain ⟨y,y1,y2⟩:=aqU q hql;have hkk:n.Kids[q]=(kk:Int):=(dB.1 g1).2;obtain ⟨m,m1,m2,_⟩:=g2.node;rw [hkk,adu m1] at y1;cases y1;have:=aqX n q y.Kind y2 hen;rw [<- m2] at this;exact ⟨kk,s',g2,this⟩
  unfold Ar at har;obtain ⟨r0,r1,r2,r3,r4⟩:=har;rw [<- e1] at r0 r1 r2 r3 r4;rw [<- hkl] at r0 r1 r2 r3 r4;refine aiY ⟨he,by rw [e1,e2];exact hlv,r0,fun h=>r2 ah,fun h=>r3 h,r4,fun h=>r1 h,ah,fun k hk=>?_,fun k hk h=>?_,fun h=>?_⟩ fun k hk=>?_
  .obtain ⟨q,hq⟩:=GZ hk;obtain ⟨_,_,_,h2,_⟩:=adt q k hq;exact h2
  .obtain ⟨_,_,_,_,h2⟩:=adt 0 k hk;exact h2 (by rw [<- e1];rcases h with h|h|h<;>simp [h])
  .rw [e2];exact aqY N n hf (by rw [<- e1];exact h)
  .obtain ⟨q,hq⟩:=GZ hk;obtain ⟨kk,s',g1,g2,_⟩:=adt q k hq;exact ih k hk s' kk g1 g2
def aqZ (N:Nat) (n:aD) (h:za N n=some true):UQ N n=some true:=by
 unfold za at h;obtain ⟨⟨lo,hi⟩,h1,h⟩:=bind_some h;obtain ⟨y6,h2,h⟩:=bind_some h;obtain ⟨y13,h3,h⟩:=bind_some h;cases h;rcases Nk h3 with ⟨_,h3⟩|⟨_,h3⟩
 .obtain ⟨bM,ho,h3⟩:=bind_some h3;rcases Nk h3 with ⟨hc,h3⟩|⟨_,h3⟩
  .obtain ⟨eU,ht,h3⟩:=bind_some h3;rcases Nk h3 with ⟨hc2,h3⟩|⟨_,h3⟩
   .subst hc2;exact ht
   .cases h3
  .cases h3
 .cases h3
def zw (N:Nat) (t:aC):Prop:=sZ N t=some true
structure TN (N:Nat) (t:av):Prop where
 n6:t.kind=1\/t.kind=5\/t.kind=13->zw N ⟨6,t.text,0⟩
 n7:t.kind=7->zw N ⟨7,t.text,0⟩
 n8:t.kind=8->zw N ⟨8,t.text,0⟩
 n2:t.kind=2->zw N ⟨3,t.text,0⟩
 n3:t.kind=3->zw N ⟨4,t.text,0⟩
 n4:t.kind=4->zw N ⟨5,t.text,0⟩
def VL {x:Option Bool} {c:Bool} (h:((Option.bind x fun r=>bif r then some c else some false).bind fun y=>some y)=some true):x=some true/\c=true:=by
 cases x with
 | none=>cases h
 | some r=>
  cases r with
  | false=>cases h
  | true=>exact ⟨rfl,lF h⟩
def Nl {x:List UInt8} (h:(x==[])=true):x=[]:=by simpa using h
def ara (N:Nat) (n:aD) (h:za N n=some true) (he:iC n.Kind=true) (ts:List av) (hts:ts.length=n.Kids.length):CN ⟨n.Kind,n.Op,n.Text,n.Other,ts⟩/\TN N ⟨n.Kind,n.Op,n.Text,n.Other,ts⟩:=by
 have ht:=aqZ N n h;obtain ⟨lo,hi,h1,h2,h3,h4⟩:=adv N n h;obtain ⟨k,o,x,y,ks⟩:=n;have named:Eu N (⟨k,o,x,y,ks⟩,true)=some true->CF N x=some true/\y=[]:=fun h=>by
  obtain ⟨a,b⟩:=VL (x:=CF N x) (c:=y==[]) h;exact ⟨a,Nl b⟩
 have plain:((bif (x==[]) then some (y==[]) else (some false)).bind fun JH=>some JH)=some true->x=[]/\y=[]:=fun h=>by
  cases hx:(x==[]) with
  | false=>rw [hx] at h;cases h
  | true=>
   rw [hx] at h;exact ⟨Nl hx,Nl<|lF h⟩
 have qF:(Option.some<|o==0)=some true->o=0:=fun h=>by simpa using lF h
 have Zo:∀ kk:Int,kk=6\/kk=7->CF N x=some true->zw N ⟨kk,x,0⟩:=fun kk hkk h=>by
  unfold zw;have e:sZ N ⟨kk,x,0⟩=Aa N (⟨kk,x,0⟩,true):=by rcases hkk with rfl|rfl<;>rfl
  rw [e];unfold Aa;dsimp only;rw [aO,h];rfl
 rcases kinds he with e|e|e|e|e|e|e|e|e|e|e|e|e|e|e<;>(have e:k=_:=e;subst e)
 case inl=>
  obtain ⟨hn,hy⟩:=named ht;have ho:=qF h2;subst ho hy;exact ⟨⟨fun _=>rfl,rfl,aA,aA,aA,aA,aA⟩,⟨fun _=>Zo 6 (.inl rfl) hn,aA,aA,aA,aA,aA⟩⟩
 case inr.inl=>
  obtain ⟨hn,hy⟩:=VL (x:=sZ N ⟨3,x,0⟩) (c:=y==[]) ht;have hy:=Nl hy;have ho:=qF h2;subst ho hy;exact ⟨⟨fun _=>rfl,rfl,aA,aA,aA,aA,aA⟩,⟨aA,aA,aA,fun _=>hn,aA,aA⟩⟩
 case inr.inr.inl=>
  obtain ⟨hn,hy⟩:=VL (x:=sZ N ⟨4,x,0⟩) (c:=y==[]) ht;have hy:=Nl hy;have ho:=qF h2;subst ho hy;exact ⟨⟨fun _=>rfl,rfl,aA,aA,aA,aA,aA⟩,⟨aA,aA,aA,aA,fun _=>hn,aA⟩⟩
 case inr.inr.inr.inl=>
  obtain ⟨hn,hy⟩:=VL (x:=sZ N ⟨5,x,0⟩) (c:=y==[]) ht;have hy:=Nl hy;have ho:=qF h2;subst ho hy;exact ⟨⟨fun _=>rfl,rfl,aA,aA,aA,aA,aA⟩,⟨aA,aA,aA,aA,aA,fun _=>hn⟩⟩
 case inr.inr.inr.inr.inl=>
  obtain ⟨hn,hy⟩:=named ht;have ho:=qF h2;subst ho hy;have hm:(ks.length:Int)<=6:=by
   have:some ((1:Int),(6:Int))=some (lo,hi):=h1;cases this;exact h4
  exact ⟨⟨fun _=>rfl,rfl,aA,aA,aA,aA,fun _=>by show ts.length<=6;have hts:ts.length=ks.length:=hts;omega⟩,⟨fun _=>Zo 6 (.inl rfl) hn,aA,aA,aA,aA,aA⟩⟩
 case inr.inr.inr.inr.inr.inl=>
  obtain ⟨hx,hy⟩:=plain ht;have ho:=qF h2;subst ho hx hy;exact ⟨⟨fun _=>rfl,rfl,fun _=>rfl,aA,aA,aA,aA⟩,⟨aA,aA,aA,aA,aA,aA⟩⟩
 case inr.inr.inr.inr.inr.inr.inl=>
  obtain ⟨hn,hy⟩:=named ht;have ho:=qF h2;subst ho hy;have hm:(ks.length:Int)<=6:=by
   have:some ((0:Int),(6:Int))=some (lo,hi):=h1;cases this;exact h4
  exact ⟨⟨fun _=>rfl,rfl,aA,aA,aA,aA,fun _=>by show ts.length<=6;have hts:ts.length=ks.length:=hts;omega⟩,⟨aA,fun _=>Zo 7 (.inr rfl) hn,aA,aA,aA,aA⟩⟩
 case inr.inr.inr.inr.inr.inr.inr.inl=>
  obtain ⟨hn,hy⟩:=VL (x:=Gm N x) (c:=y==[]) ht;have hy:=Nl hy;have ho:=qF h2;subst ho hy;have hm:(ks.length:Int)<=6:=by
   have:some ((0:Int),(6:Int))=some (lo,hi):=h1;cases this;exact h4
  refine ⟨⟨fun _=>rfl,rfl,aA,aA,aA,aA,fun _=>by show ts.length<=6;have hts:ts.length=ks.length:=hts;omega⟩,⟨aA,aA,fun _=>?_,aA,aA,aA⟩⟩;unfold zw;have e:sZ N ⟨8,x,0⟩=Aa N (⟨8,x,0⟩,false):=rfl;rw [e];unfold Aa;dsimp only;show Option.bind (Gm N x) _=_;rw [hn];rfl
 case inr.inr.inr.inr.inr.inr.inr.inr.inl=>
  obtain ⟨hx,hy⟩:=plain ht;subst hx hy;have ho:o=51\/o=52:=by
   have e:CB ⟨9,o,[],[],ks⟩=some (o==51||o==52):=by
    show ((bif (o==51) then some true else some (o==52)).bind fun y=>some y)=_;cases (o==51)<;>rfl
   rw [e] at h2;simpa using lF h2
  exact ⟨⟨aA,rfl,fun _=>rfl,fun _=>ho,aA,aA,aA⟩,⟨aA,aA,aA,aA,aA,aA⟩⟩
 case inr.inr.inr.inr.inr.inr.inr.inr.inr.inl=>
  obtain ⟨hx,hy⟩:=plain ht;subst hx hy;have ho:o=51\/o=52:=by
   have e:CB ⟨10,o,[],[],ks⟩=some (o==51||o==52):=by
    show ((bif (o==51) then some true else some (o==52)).bind fun y=>some y)=_;cases (o==51)<;>rfl
   rw [e] at h2;simpa using lF h2
  exact ⟨⟨aA,rfl,fun _=>rfl,fun _=>ho,aA,aA,aA⟩,⟨aA,aA,aA,aA,aA,aA⟩⟩
 case inr.inr.inr.inr.inr.inr.inr.inr.inr.inr.inl=>
  obtain ⟨hx,hy⟩:=plain ht;subst hx hy;have ho:o=55\/o=56\/o=61:=by
   have e:CB ⟨11,o,[],[],ks⟩=some (o==55||(o==56||o==61)):=by
    show ((bif (o==55) then some true else (bif (o==56) then some true else some (o==61))).bind fun y=>some y)=_;cases (o==55)<;>cases (o==56)<;>rfl
   rw [e] at h2;simpa using lF h2
  exact ⟨⟨aA,rfl,fun _=>rfl,aA,fun _=>ho,aA,aA⟩,⟨aA,aA,aA,aA,aA,aA⟩⟩
 case inr.inr.inr.inr.inr.inr.inr.inr.inr.inr.inr.inl=>
  obtain ⟨hx,hy⟩:=plain ht;subst hx hy;exact ⟨⟨aA,rfl,fun _=>rfl,aA,aA,aA,aA⟩,⟨aA,aA,aA,aA,aA,aA⟩⟩
 case inr.inr.inr.inr.inr.inr.inr.inr.inr.inr.inr.inr.inl=>
  obtain ⟨hn,hy⟩:=named ht;have ho:=qF h2;subst ho hy;have hm:(ks.length:Int)<=6:=by
   have:some ((1:Int),(6:Int))=some (lo,hi):=h1;cases this;exact h4
  exact ⟨⟨fun _=>rfl,rfl,aA,aA,aA,aA,fun _=>by show ts.length<=6;have hts:ts.length=ks.length:=hts;omega⟩,⟨fun _=>Zo 6 (.inl rfl) hn,aA,aA,aA,aA,aA⟩⟩
 case inr.inr.inr.inr.inr.inr.inr.inr.inr.inr.inr.inr.inr.inl=>
  obtain ⟨hx,hy⟩:=plain ht;have ho:=qF h2;subst ho hx hy;exact ⟨⟨fun _=>rfl,rfl,fun _=>rfl,aA,aA,aA,aA⟩,⟨aA,aA,aA,aA,aA,aA⟩⟩
 case inr.inr.inr.inr.inr.inr.inr.inr.inr.inr.inr.inr.inr.inr=>
  obtain ⟨hx,hy⟩:=plain ht;subst hx hy;have ho:qG o=true:=by
   have e:CB ⟨15,o,[],[],ks⟩=Option.bind (Bo o) (fun iI=>some iI):=rfl;rw [e,aja] at h2;exact lF h2
  exact ⟨⟨aA,rfl,fun _=>rfl,aA,aA,fun _=>ho,aA⟩,⟨aA,aA,aA,aA,aA,aA⟩⟩
def arb (N:Nat) (a:List aD) (hN:500 < N) (hsh:uN a=true) (hok:xI N a=some true) {t:av} {s i:Nat} (hT:TA a t s i) (hg:allT GN t):allT (fun u=>CN u/\TN N u) t:=by
 have key:∀ t:av,∀ s i,TA a t s i->allT GN t->allT (fun u=>CN u/\TN N u) t:=by
  intro t;induction t using Ag with
  | h t ih=>
   intro s i hT hg;obtain ⟨n,hn,e1,e2,e3,e4,hka,hkl⟩:=hT.node;obtain ⟨hf,_⟩:=aiZ N a hN hsh hok n (mR hn);have g:=sM hg;have r:=ara N n hf (by rw [<- e1];exact g.e) t.kids hkl;have et:(⟨n.Kind,n.Op,n.Text,n.Other,t.kids⟩:av)=t:=by
    rw [<- e1,<- e2,<- e3,<- e4];cases t;rfl
   rw [et] at r;refine aiY r fun k hk=>?_;obtain ⟨q,hq⟩:=GZ hk;obtain ⟨kk,s',_,g2,_⟩:=hka.get q k hq;exact ih k hk s' kk g2 (BF hg k hk)
 exact key t s i hT hg
def ql (N:Nat) {k:Int} (h:k=24\/k=32\/k=33\/k=34\/k=35\/k=36\/k=51\/k=52\/k=61\/k=65\/k=66\/k=68\/bA k≠0/\k≠99\/qG k=true):zw N (sg k):=by
 have hk:k=24\/k=32\/k=33\/k=34\/k=35\/k=36\/k=51\/k=52\/k=61\/k=65\/k=66\/k=68\/k=44\/k=45\/k=67\/k=46\/k=63\/k=48\/k=47\/k=50\/k=62\/k=49\/k=55\/k=56\/k=57\/k=58\/k=59\/k=60\/k=38\/k=39\/k=40\/k=41\/k=42\/k=43\/k=54:=by
  rcases h with h|h|h|h|h|h|h|h|h|h|h|h|⟨h,h2⟩|h
  case inr.inr.inr.inr.inr.inr.inr.inr.inr.inr.inr.inr.inl=>have:=GY h;omega
  case inr.inr.inr.inr.inr.inr.inr.inr.inr.inr.inr.inr.inr=>have:=QO h;omega
  all_goals omega
 unfold zw;have key:∀ k:Int,(k==2)=false->(k==3)=false->(k==4)=false->(k==5)=false->(k==6)=false->(k==7)=false->(k==8)=false->(spl k==[])=false->sZ N (sg k)=some true:=fun k a1 a2 a3 a4 a5 a6 a7 a8=>by
  unfold sZ Aa sg;simp only [a1,a2,a3,a4,a5,a6,a7,a8,aI,ajb,aB,mg,aO,adw]
 rcases hk with rfl|rfl|rfl|rfl|rfl|rfl|rfl|rfl|rfl|rfl|rfl|rfl|rfl|rfl|rfl|rfl|rfl|rfl|rfl|rfl|rfl|rfl|rfl|rfl|rfl|rfl|rfl|rfl|rfl|rfl|rfl|rfl|rfl|rfl|rfl<;>exact key _ rfl rfl rfl rfl rfl rfl rfl rfl
def mU (N:Nat) (x:List aC):Prop:=∀ t,t∈x->zw N t
def mU.nil {N:Nat}:mU N []:=fun t h=>by cases h
def mU.app {N:Nat} {x y:List aC} (hx:mU N x) (hy:mU N y):mU N (x++y):=fun t h=>by
 rcases lH.1 h with h|h
 .exact hx t h
 .exact hy t h
def mU.cons {N:Nat} {t:aC} {y:List aC} (hx:zw N t) (hy:mU N y):mU N (t::y):=fun u h=>by
 rcases iO.1 h with rfl|h
 .exact hx
 .exact hy u h
def mU.one {N:Nat} {t:aC} (hx:zw N t):mU N [t]:=.cons hx .nil
def mU.getD {N:Nat} {l:List (List aC)} (h:∀ x,x∈l->mU N x) (j:Nat):mU N (l.getD j []):=by
 rw [Da];cases e:l[j]? with
 | none=>exact .nil
 | some x=>exact h x (mR e)
def ajc {N:Nat}:∀ (l:List (List aC)) (b:Bool),(∀ x,x∈l->mU N x)->mU N (dS b l)
 | [],b,_=>by rw [dS];exact .nil
 | x::l,b,h=>by
  rw [dS];refine .app ?_ (.app (h x aA)<|ajc l true fun y hy=>h y<|by simp [hy]);cases b with
  | false=>exact .nil
  | true=>exact .one (ql N aA)
def mU.par {N:Nat} {b:Bool} {x y:List aC} (hx:mU N x) (hy:mU N y):mU N (qH b x y):=by
 cases b with
 | false=>exact hx
 | true=>exact .cons (ql N aA) (.app hy<|.one<|ql N aA)
def ard (N:Nat) (t:av) (g:GN t) (c:CN t) (n:TN N t) (l:List (List aC)) (hl:∀ x,x∈l->mU N x):mU N (jd t.kind t.op t.text l):=by
 obtain ⟨k,o,x,y,ks⟩:=t;have d:=mU.getD hl;have li:=ajc l false hl;rcases kinds g.e with e|e|e|e|e|e|e|e|e|e|e|e|e|e|e<;>(have e:k=_:=e;subst e)
 .exact .one (n.n6<|.inl rfl)
 .exact .one (n.n2 rfl)
 .exact .one (n.n3 rfl)
 .exact .one (n.n4 rfl)
 .exact .cons (n.n6<|.inr<|.inl rfl) (.cons (ql N aA)<|.app li<|.one<|ql N aA)
 .exact .cons (ql N aA) (d 0)
 .exact .cons (n.n7 rfl) (.cons (ql N aA)<|.app li<|.one<|ql N aA)
 .exact .cons (n.n8 rfl) (.cons (ql N aA)<|.app li<|.one<|ql N aA)
 .exact .cons (ql N (by have:o=51\/o=52:=c.k9 (.inl rfl);rcases this with rfl|rfl<;>simp)) (d 0)
 .exact .app (d 0) (.one<|ql N (by have:o=51\/o=52:=c.k9 (.inr rfl);rcases this with rfl|rfl<;>simp))
 .refine .cons ?_ (d 0);have:o=55\/o=56\/o=61:=c.k11 rfl;rcases this with rfl|rfl|rfl
  .exact ql N (.inr<|.inr<|.inr<|.inr<|.inr<|.inr<|.inr<|.inr<|.inr<|.inr<|.inr<|.inr<|.inl ⟨by show bA 55≠0;decide,by show (55:Int)≠99;decide⟩)
  .exact ql N (.inr<|.inr<|.inr<|.inr<|.inr<|.inr<|.inr<|.inr<|.inr<|.inr<|.inr<|.inr<|.inl ⟨by show bA 56≠0;decide,by show (56:Int)≠99;decide⟩)
  .exact ql N aA
 .refine .app (d 0) (.app ?_ (d 1));cases pG:(o==99) with
  | true=>exact .nil
  | false=>exact .one (ql N<|.inr<|.inr<|.inr<|.inr<|.inr<|.inr<|.inr<|.inr<|.inr<|.inr<|.inr<|.inr<|.inl ⟨g.lv,by simpa using pG⟩)
 .refine .app (x:=bif decide (l.length > 1) then sg 32::(dS false l++[sg 33]) else l.getD 0 []) ?_ (.cons (ql N aA)<|.one<|n.n6<|.inr<|.inr rfl);cases decide (l.length > 1) with
  | true=>exact .cons (ql N aA) (.app li<|.one<|ql N aA)
  | false=>exact d 0
 .exact .app (d 0) (.cons (ql N aA)<|.app (d 1)<|.cons (ql N aA)<|d 2)
 .refine .app (d 0) (.app ?_ (d 1));cases pG:(o==99) with
  | true=>exact .nil
  | false=>exact .one (ql N<|.inr<|.inr<|.inr<|.inr<|.inr<|.inr<|.inr<|.inr<|.inr<|.inr<|.inr<|.inr<|.inr<|c.k15 rfl)
def ajd (N:Nat) (f:Bool):∀ t:av,allT GN t->allT (fun u=>CN u/\TN N u) t->∀ p,mU N (dI f t p):=by
 intro t;induction t using Ag with
 | h t ih=>
  intro hg hc p;obtain ⟨c,n⟩:=sM hc;rw [iM];refine ard N t (sM hg) c n _ ?_;have key:∀ (ts:List av) (j:Nat),(∀ u,u∈ts->u∈t.kids)->∀ x,x∈bG f t.kind t.op t.kids.length j p ts->mU N x:=by
   intro ts;induction ts with
   | nil=>intro j _ x hx;rw [bG] at hx;cases hx
   | cons u ts ih2=>
    intro j hm x hx;rw [iA] at hx;rcases iO.1 hx with rfl|hx
    .have hu:=hm u aA;have hB:=ih u hu (BF hg u hu) (BF hc u hu);unfold bS bT;cases tgt t.kind j with
     | true=>exact hB _
     | false=>exact mU.par (hB _) (hB _)
    .exact ih2 (j+1) (fun v hv=>hm v<|by simp [hv]) x hx
  exact key t.kids 0 fun u hu=>hu
def ahk (N:Nat) (f:Bool) (t:av) (hg:allT GN t) (hc:allT (fun u=>CN u/\TN N u) t) (p:aL):mU N (bT f t p):=by
 unfold bT;exact mU.par (ajd N f t hg hc p) (ajd N f t hg hc bU)
mutual
def yt:av->List av
 | ⟨k,o,x,y,ks⟩=>gK ks++[⟨k,o,x,y,ks⟩]
def gK:List av->List av
 | []=>[]
 | t::ts=>yt t++gK ts
end
def adx (t:av):yt t=gK t.kids++[t]:=by cases t;rw [yt]
def vR {α β:Type} (R:α->β->Prop):List α->List β->Prop
 | [],[]=>True
 | a::xs,b::ys=>R a b/\vR R xs ys
 | _,_=>False
def vR.app {α β:Type} {R:α->β->Prop}:∀ {a a':List α} {b b':List β},vR R a b->vR R a' b'->vR R (a++a') (b++b')
 | [],_,[],_,_,h=>h
 | _::_,_,_::_,_,h,h'=>⟨h.1,h.2.app h'⟩
 | [],_,_::_,_,h,_=>h.elim
 | _::_,_,[],_,h,_=>h.elim
def vR.imp {α β:Type} {R S:α->β->Prop} (hi:∀ a b,R a b->S a b):∀ {a:List α} {b:List β},vR R a b->vR S a b
 | [],[],_=>trivial
 | _::_,_::_,h=>⟨hi _ _ h.1,h.2.imp hi⟩
 | [],_::_,h=>h.elim
 | _::_,[],h=>h.elim
def vR.len {α β:Type} {R:α->β->Prop}:∀ {a:List α} {b:List β},vR R a b->a.length=b.length
 | [],[],_=>rfl
 | _::_,_::_,h=>by simp [h.2.len]
 | [],_::_,h=>h.elim
 | _::_,[],h=>h.elim
def vR.get {α β:Type} {R:α->β->Prop}:∀ {a:List α} {b:List β},vR R a b->∀ (i:Nat) (x:α) (y:β),a[i]?=some x->b[i]?=some y->R x y
 | _::_,_::_,h,0,x,y,hx,hy=>by
  simp at hx hy;rw [<- hx,<- hy];exact h.1
 | _::_,_::_,h,i+1,x,y,hx,hy=>h.2.get i x y (by simpa using hx) (by simpa using hy)
 | [],[],_,_,_,_,hx,_=>by simp at hx
 | [],_::_,h,_,_,_,_,_=>h.elim
 | _::_,[],h,_,_,_,_,_=>h.elim
def Nn (f:Bool) (l:List aC) (s:bP) (u:av):Prop:=∃ (a:Nat) (q:aL),posB q=true/\Sg l a (dI f u q)/\a+(dI f u q).length<=l.length/\s=⟨(a:Int),((a+(dI f u q).length:Nat):Int)⟩
def Sg.more {l:List aC} {i:Nat} {x:List aC} (h:Sg l i x) (hl:i+x.length<=l.length) (r:List aC):Sg (l++r) i x:=by
 obtain ⟨r',hr⟩:=h;exact ⟨r'++r,by rw [List.drop_append_of_le_length ah,hr,nC]⟩
def Nn.app {f:Bool} {l:List aC} {s:bP} {u:av} (h:Nn f l s u) (r:List aC):Nn f (l++r) s u:=by
 obtain ⟨a,q,h1,h2,h3,h4⟩:=h;exact ⟨a,q,h1,h2.more h3 r,by rw [jB];omega,h4⟩
def mq (f:Bool) (l:List aC) (bJ sp:List bP) (us:List av):Prop:=∃ wO,sp=bJ++wO/\vR (Nn f l) wO us
def mq.nil {f:Bool} {l:List aC} {bJ:List bP}:mq f l bJ bJ []:=⟨[],aA,trivial⟩
def mq.app {f:Bool} {l:List aC} {bJ sp:List bP} {us:List av} (h:mq f l bJ sp us) (r:List aC):mq f (l++r) bJ sp us:=by
 obtain ⟨wO,h1,h2⟩:=h;exact ⟨wO,h1,h2.imp fun _ _ h=>h.app r⟩
def mq.cast {f:Bool} {l l':List aC} {bJ sp:List bP} {us:List av} (h:mq f l bJ sp us) (e:l=l'):mq f l' bJ sp us:=e ▸ h
def mq.trans {f:Bool} {l:List aC} {bJ sp sq:List bP} {us vs:List av} (h:mq f l bJ sp us) (h':mq f l sp sq vs):mq f l bJ sq (us++vs):=by
 obtain ⟨wO,h1,h2⟩:=h;obtain ⟨sqs,g1,g2⟩:=h';exact ⟨wO++sqs,by rw [g1,h1,nC],h2.app g2⟩
def mq.own {f:Bool} {l:List aC} {bJ sp:List bP} {us:List av} (h:mq f l bJ sp us) {s:bP} {t:av} (ho:Nn f l s t):mq f l bJ (sp++[s]) (us++[t]):=h.trans ⟨[s],rfl,ho,trivial⟩
def ady {f:Bool} {t:av} {p:aL} {x:List aC} (hp:posB p=true) (he:dI f t p=x) (toks:List aC):Nn f (toks++x) ⟨(toks.length:Int),((toks++x).length:Int)⟩ t:=
 ⟨toks.length,p,hp,⟨[],by rw [List.drop_left' rfl,he,pJ]⟩,by rw [he,jB];omega,by rw [he,jB]⟩
def Wr (f:Bool) (x:Option (List aC×List bP)) (l:List aC) (bJ:List bP) (c:Nat) (us:List av):Prop:=∃ sp,x=some (l,sp)/\sp.length<=bJ.length+c/\mq f l bJ sp us
def arh (f:Bool) (M:Nat) (t kid:av) (j:Nat) (p:aL) (toks:List aC) (bJ:List bP) (hM:1000 < M) (g:GN t) (hk:t.kids[j]?=some kid) (hp:posB p=true):
  (dz<|M+1).gq t (j:Int) p f toks bJ=
   bif tgt t.kind j then (dz M).zY kid (fU t.kind t.op t.kids.length j p) f toks bJ
   else (dz M).zR kid (fU t.kind t.op t.kids.length j p) f toks bJ:=by
 have hl:=g.le;have hj:j < t.kids.length:=(dB.1 hk).1;have hkp:Qi (Kc t) (j:Int) p=some (fU t.kind t.op t.kids.length j p):=by
  have:=ari (Kc t) j p (by show j < (Db _).length;rw [VN];exact hj) (by show (Db _).length<=_;rw [VN];omega) hp g.e g.lv (fun e=>by show (Db _).length=2;rw [VN];exact g.a2<|.inl e);rw [this];show some (fU t.kind t.op (Db t.kids.length).length j p)=_;rw [VN]
 have vS:Uy (Kc t) (j:Int)=some (tgt t.kind j):=by
  unfold Uy tgt;show Option.bind (bif ((j:Int)==0) then bif (t.kind==9) then some true else (bif (t.kind==10) then some true else (some<|t.kind==15)) else (some false)) (fun y1=>some y1)=_;simp only [Zp,adz,aB]
 have He:∀ x:Option (List aC×List bP),(Option.bind x fun r=>some (r.1,r.2))=x:=fun x=>by cases x<;>rfl
 show UA M (dz M) t (j:Int) p f toks bJ=_;unfold UA;rw [aje M t ah ah,aB,adu hk,aB,hkp,aB,vS,aB];cases tgt t.kind j<;>simp only [aO,aI,He]
def QS (f:Bool) (t:av):Prop:=∀ (M:Nat) (p:aL) (toks:List aC) (bJ:List bP),posB p=true->1000+8*aX t<=M->toks.length+8*aX t<=900000->bJ.length+aX t<=900000->
 Wr f ((dz M).zY t p f toks bJ) (toks++dI f t p) bJ (aX t) (yt t)
def ImE (f:Bool) (t:av):Prop:=∀ (M:Nat) (p:aL) (toks:List aC) (bJ:List bP),posB p=true->1001+8*aX t<=M->toks.length+8*aX t+1<=900000->bJ.length+aX t<=900000->
 Wr f ((dz M).zR t p f toks bJ) (toks++bT f t p) bJ (aX t) (yt t)
def abO {f:Bool} {t:av} (g:GN t) (h:QS f t):ImE f t:=by
 intro M p toks bJ hp hM ht hs;obtain ⟨M,rfl⟩:∃ m,M=m+1:=⟨M - 1,ah⟩
 have hl:=g.le;have He:∀ x:Option (List aC×List bP),(Option.bind x fun r=>some (r.1,r.2))=x:=fun x=>by cases x<;>rfl
 have key:∀ b:Bool,Wr f (Qk M (dz M) f (t,p,toks,bJ,b)) (toks++qH b (dI f t p) (dI f t bU)) bJ (aX t) (yt t):=fun b=>by
  unfold Qk;cases b with
  | false=>
   simp only [mg,aO,He];exact h M p toks bJ hp ah ah hs
  | true=>
   have hl2:=QT f t bU;obtain ⟨sp,r1,r2,r3⟩:=h M bU (toks++[sg 32]) bJ rfl ah (by simp;have:=vB t;omega) hs;simp only [nN,aI,zx,aB,Ee];rw [vT _ _ _ _ bE,aB];have r1':(dz M).zY t (⟨1,false,false,false,false⟩:aL) f (toks++[sg 32]) bJ=some (toks++[sg 32]++dI f t bU,sp):=r1;rw [r1',aB];simp only [];rw [vT _ _ _ _ bE,aB];refine ⟨sp,?_,r2,(r3.app [sg 33]).cast<|by simp [qH]⟩;simp [qH]
 show Wr f (UD M (dz M) t p f toks bJ) _ _ _ _;unfold UD bT;rw [aje M t ah ah,aB,ark,aB];cases f with
 | false=>exact key (!mh t.kind t.op p)
 | true=>
  rw [adA,aB,aO];have e:(bif lv t.kind t.op !=15 then some true else some (t.kind==4))=some (lv t.kind t.op !=15||t.kind==4):=Zp _ _;have e2:(bif lv (Kc t).Kind (Kc t).Op !=15 then some true else some ((Kc t).Kind==4))=some (lv t.kind t.op !=15||t.kind==4):=e;rw [e2,aB];exact key _
def Ah {f:Bool} {t kid:av} {j:Nat} (g:GN t) (hk:t.kids[j]?=some kid) (hB:QS f kid) (gk:GN kid) (M:Nat) (p:aL) (toks:List aC) (bJ:List bP) (hp:posB p=true) (hM:1003+8*aX kid<=M) (ht:toks.length+8*aX kid+1<=900000) (hs:bJ.length+aX kid<=900000):
  Wr f ((dz M).gq t (j:Int) p f toks bJ) (toks++bS f t.kind t.op t.kids.length j p kid) bJ (aX kid) (yt kid):=by
 obtain ⟨M,rfl⟩:∃ m,M=m+1:=⟨M - 1,ah⟩
 have hkp:=VG (k:=t.kind) (o:=t.op) (n:=t.kids.length) (j:=j) (p:=p) g.e;rw [arh f M t kid j p toks bJ ah g hk hp];unfold bS;cases tgt t.kind j with
 | true=>exact hB M _ toks bJ hkp ah ah hs
 | false=>exact abO gk hB M _ toks bJ hkp ah ht hs
def ajf {f:Bool} {t:av} (g:GN t) (hB:∀ k,k∈t.kids->QS f k/\GN k) (M:Nat) (p:aL) (sh:Int) (hp:posB p=true) (hM:∀ k,k∈t.kids->1003+8*aX k<=M):∀ (ts:List av) (n j:Nat) (toks:List aC) (bJ:List bP),t.kids.drop j=ts->ts.length < n->
  toks.length+8*aT ts+4<=900000->bJ.length+aT ts<=900000->
  Wr f (Cz M (dz M) f n (sh,t,p,(j:Int),toks,bJ)) (toks++(dS (decide<|j > 0) (bG f t.kind t.op t.kids.length j p ts)++[sg sh])) bJ (aT ts) (gK ts)
 | [],n,j,toks,bJ,hd,hn,ht,hs=>by
  obtain ⟨n,rfl⟩:∃ m,n=m+1:=⟨n - 1,by simp at hn;omega⟩
  have hlt: ¬j < t.kids.length:=by
   intro h;rw [drop_cons h] at hd;cases hd
  rw [Cz];simp only [jN hlt,aI,zx,aB];rw [vT _ _ _ _ bE,aB,bG];refine ⟨bJ,?_,ah,by rw [gK];exact .nil⟩;cases decide (j > 0)<;>simp [dS]
 | k::ts,n,j,toks,bJ,hd,hn,ht,hs=>by
  simp only [jG] at hn;obtain ⟨n,rfl⟩:∃ m,n=m+1:=⟨n - 1,ah⟩
  have hlt:j < t.kids.length:=by
   cases vP j t.kids.length with
   | inl h=>exact h
   | inr h=>rw [CZ h] at hd;cases hd
  rw [drop_cons hlt] at hd;injection hd with hd1 hd2;have hmem:k∈t.kids:=by rw [<- hd1];exact nO hlt
  have hget:t.kids[j]?=some k:=by rw [eY hlt,hd1]
  have hle:=g.le;rw [aT] at ht hs;have hkt:=EO f t.kind t.op t.kids.length j p k;have step:∀ (oI:List aC),oI.length<=toks.length+1->Wr f (Qj M (dz M) f (Cz M (dz M) f n) (sh,(j:Int),t,p,bJ,oI))
    (oI++(bS f t.kind t.op t.kids.length j p k++(dS true (bG f t.kind t.op t.kids.length (j+1) p ts)++[sg sh]))) bJ (aT<|k::ts) (gK<|k::ts):=fun oI hl'=>by
   unfold Qj;obtain ⟨sp,r1,r2,r3⟩:=Ah g hget (hB k hmem).1 (hB k hmem).2 M p oI bJ hp (hM k hmem) (by have:=vB k;omega) ah;simp only [r1,aB];rw [wrap64 ah ah,show (j:Int)+1=((j+1:Nat):Int) by omega];obtain ⟨sp',q1,q2,q3⟩:=ajf g hB M p sh hp hM ts n (j+1) (oI++bS f t.kind t.op t.kids.length j p k) sp hd2 ah (by rw [jB];omega) ah;refine ⟨sp',?_,by rw [aT];omega,by rw [gK];exact ((r3.app _).trans q3).cast<|by rw [show decide (j+1 > 0)=true by simp];simp⟩;rw [q1,show decide (j+1 > 0)=true by simp];simp
  rw [Cz];simp only [iL hlt,aO];rw [iA,dS];have hg:decide ((j:Int) > 0)=decide (j > 0):=by by_cases h:j > 0<;>simp [h]
  rw [hg];cases hj:decide (j > 0) with
  | true=>
   simp only [aO,zx,aB];rw [vT _ _ _ _ bE,aB];have:=step (toks++[sg 36]) aA;simpa using this
  | false=>
   simp only [aI];have:=step toks ah;simpa using this
def ajg {f:Bool} {t:av} (g:GN t) (hB:∀ k,k∈t.kids->QS f k/\GN k) (M:Nat) (p:aL) (op sh:Int) (hp:posB p=true) (hM:1003+8*aT t.kids<=M) (toks:List aC) (bJ:List bP) (ht:toks.length+8*aT t.kids+5<=900000) (hs:bJ.length+aT t.kids<=900000):
  Wr f ((dz<|M+1).wU t op sh p f toks bJ) (toks++(sg op::(dS false (bG f t.kind t.op t.kids.length 0 p t.kids)++[sg sh]))) bJ (aT t.kids) (gK t.kids):=by
 have hl:=g.le;show Wr f (UC M (dz M) t op sh p f toks bJ) _ _ _ _;unfold UC;rw [zx,aB,vT _ _ _ _ bE,aB];have:=ajf g hB M p sh hp (fun k hk=>by have:=Hf hk;omega) t.kids M 0 (toks++[sg op]) bJ rfl (by have:=zy t.kids;omega) bE hs;rw [show decide (0 > 0)=false by simp] at this;simpa using this
def adB {f:Bool} {M:Nat} {R:rO} {toks l:List aC} {bJ sp:List bP} {c:Nat} {us:List av} {t:av} (hs:sp.length<=bJ.length+c) (hc:bJ.length+c+1<=900000) (hx:mq f l bJ sp us) (ho:Nn f l ⟨(toks.length:Int),(l.length:Int)⟩ t):
  Wr f (xU M R f (toks,l,sp)) l bJ (c+1) (us++[t]):=by
 unfold xU;simp only [];rw [pz bE,aB];exact ⟨_,rfl,bE,hx.own ho⟩
def imB (f:Bool):∀ t:av,allT GN t->QS f t:=by
 intro t;induction t using Ag with
 | h t ih=>
  intro hall M p toks bJ hp hM ht hs;have g:=sM hall;have hk:∀ k,k∈t.kids->QS f k/\GN k:=fun k hk=>⟨ih k hk<|BF hall k hk,sM<|BF hall k hk⟩
  have hsz:=Np t;have hl:=g.le;obtain ⟨M,rfl⟩:∃ m,M=m+3:=⟨M - 3,ah⟩
  show Wr f (YJ (M+2) (dz<|M+2) t p f toks bJ) _ _ _ _;have leaf:∀ tk:aC,t.kids=[]->dI f t p=[tk]->Wr f ((jM [tk] f toks bJ).bind fun jE=>xU (M+2) (dz<|M+2) f (toks,jE,bJ)) (toks++[tk]) bJ (aX t) (yt t):=fun tk hk0 he=>by
   rw [vT _ _ _ _ bE,aB,hsz,adx,hk0,gK,aT];exact adB ah (by have:=vB t;omega) .nil (ady hp he toks)
  have named:∀ (tk:aC) (op sh:Int),dI f t p=tk::sg op::(dS false (bG f t.kind t.op t.kids.length 0 p t.kids)++[sg sh])->Wr f ((jM [tk] f toks bJ).bind fun qz=>((dz<|M+2).wU t op sh p f qz bJ).bind fun iw=>xU (M+2) (dz<|M+2) f (toks,iw.1,iw.2))
    (toks++(tk::sg op::(dS false (bG f t.kind t.op t.kids.length 0 p t.kids)++[sg sh]))) bJ (aX t) (yt t):=fun tk op sh he=>by
   rw [vT _ _ _ _ bE,aB];obtain ⟨sp,r1,r2,r3⟩:=ajg g hk (M+1) p op sh hp ah (toks++[tk]) bJ bE ah;rw [r1,aB,hsz,adx];have el:toks++[tk]++(sg op::(dS false (bG f t.kind t.op t.kids.length 0 p t.kids)++[sg sh]))=toks++(tk::sg op::(dS false (bG f t.kind t.op t.kids.length 0 p t.kids)++[sg sh])):=aA;rw [el] at r3 ⊢;exact adB r2 ah r3 (ady hp he toks)
  have oper:∀ (l:List aC),dI f t p=l->∀ (x:Option (List aC×List bP)),Wr f x (toks++l) bJ (aT t.kids) (gK t.kids)->(Uz (M+1) (dz<|M+1) t p f toks bJ=x)->Wr f (((dz<|M+2).Jw t p f toks bJ).bind fun wV=>xU (M+2) (dz<|M+2) f (toks,wV.1,wV.2)) (toks++l) bJ (aX t) (yt t):=fun l ho x hx he=>by
   have e:(dz<|M+2).Jw t p f toks bJ=Uz (M+1) (dz<|M+1) t p f toks bJ:=rfl;obtain ⟨sp,r1,r2,r3⟩:=hx;rw [e,he,r1,aB,hsz,adx];exact adB r2 ah r3 (ady hp ho toks)
  have He:∀ x:Option (List aC×List bP),(Option.bind x fun r=>some (r.1,r.2))=x:=fun x=>by cases x<;>rfl
  rw [iM];clear ih hall;obtain ⟨k,o,x,y,ks⟩:=t;simp only at hsz hl;have hc:=kinds g.e;simp only at hc;rcases hc with e|e|e|e|e|e|e|e|e|e|e|e|e|e|e<;>subst e
  .exact leaf ⟨6,x,0⟩ (GX.1<|g.a0 aA) (by rw [iM];rfl)
  .exact leaf ⟨3,x,0⟩ (GX.1<|g.a0 aA) (by rw [iM];rfl)
  .exact leaf ⟨4,x,0⟩ (GX.1<|g.a0 aA) (by rw [iM];rfl)
  .exact leaf ⟨5,x,0⟩ (GX.1<|g.a0 aA) (by rw [iM];rfl)
  .exact named ⟨6,x,0⟩ 34 35 (by rw [iM];rfl)
  ·
   have h1:=g.a1 aA;obtain ⟨kid,rfl⟩:=VO.1 h1;have hm:kid∈(av.mk 6 o x y [kid]).kids:=aA;have yu:aT [kid]=aX kid:=by rw [aT,aT];omega
   have vU:∀ k' o' x' y',aT (av.mk k' o' x' y' [kid]).kids=aX kid:=fun _ _ _ _=>yu;obtain ⟨sp,r1,r2,r3⟩:=Ah (j:=0) g rfl (hk kid hm).1 (hk kid hm).2 (M+1) p (toks++[sg 68]) bJ hp ah bE ah;have h0:=oper (sg 68::bS f 6 o 1 0 p kid) (by rw [iM];show jd 6 o x (bG f 6 o 1 0 p [kid])=_;rw [iA,bG];rfl) (some (toks++[sg 68]++bS f 6 o 1 0 p kid,sp)) ⟨sp,aA,by rw [vU];omega,by show mq f _ bJ sp (gK [kid]);rw [gK,gK,pJ];exact (r3).cast aA⟩ (by
    show ((nJ 68).bind fun bF=>(jM [bF] f toks bJ).bind fun fT=>((dz<|M+1).gq ⟨6,o,x,y,[kid]⟩ 0 p f fT bJ).bind fun rM=>some (rM.1,rM.2))=_;rw [zx,aB,vT _ _ _ _ bE,aB,He];exact r1)
   have e2:jd 6 o x (bG f 6 o 1 0 p [kid])=sg 68::bS f 6 o 1 0 p kid:=by
    rw [iA,bG];rfl
   show Wr _ _ (toks++jd 6 o x (bG f 6 o 1 0 p [kid])) _ _ _;rw [e2];exact h0
  .exact named ⟨7,x,0⟩ 32 33 (by rw [iM];rfl)
  .exact named ⟨8,x,0⟩ 32 33 (by rw [iM];rfl)
  ·
   have h1:=g.a1 aA;obtain ⟨kid,rfl⟩:=VO.1 h1;have hm:kid∈(av.mk 9 o x y [kid]).kids:=aA;have yu:aT [kid]=aX kid:=by rw [aT,aT];omega
   have vU:∀ k' o' x' y',aT (av.mk k' o' x' y' [kid]).kids=aX kid:=fun _ _ _ _=>yu;obtain ⟨sp,r1,r2,r3⟩:=Ah (j:=0) g rfl (hk kid hm).1 (hk kid hm).2 (M+1) p (toks++[sg o]) bJ hp ah bE ah;have h0:=oper (sg o::bS f 9 o 1 0 p kid) (by rw [iM];show jd 9 o x (bG f 9 o 1 0 p [kid])=_;rw [iA,bG];rfl) (some (toks++[sg o]++bS f 9 o 1 0 p kid,sp)) ⟨sp,aA,by rw [vU];omega,by show mq f _ bJ sp (gK [kid]);rw [gK,gK,pJ];exact (r3).cast aA⟩ (by
    show ((nJ o).bind fun bF=>(jM [bF] f toks bJ).bind fun fT=>((dz<|M+1).gq ⟨9,o,x,y,[kid]⟩ 0 p f fT bJ).bind fun rM=>some (rM.1,rM.2))=_;rw [zx,aB,vT _ _ _ _ bE,aB,He];exact r1)
   have e2:jd 9 o x (bG f 9 o 1 0 p [kid])=sg o::bS f 9 o 1 0 p kid:=by
    rw [iA,bG];rfl
   show Wr _ _ (toks++jd 9 o x (bG f 9 o 1 0 p [kid])) _ _ _;rw [e2];exact h0
  ·
   have h1:=g.a1 aA;obtain ⟨kid,rfl⟩:=VO.1 h1;have hm:kid∈(av.mk 10 o x y [kid]).kids:=aA;have yu:aT [kid]=aX kid:=by rw [aT,aT];omega
   have vU:∀ k' o' x' y',aT (av.mk k' o' x' y' [kid]).kids=aX kid:=fun _ _ _ _=>yu;have hkt:=EO f 10 o 1 0 p kid;obtain ⟨sp,r1,r2,r3⟩:=Ah (j:=0) g rfl (hk kid hm).1 (hk kid hm).2 (M+1) p toks bJ hp ah ah ah;have r1':(dz<|M+1).gq ⟨10,o,x,y,[kid]⟩ 0 p f toks bJ=some (toks++bS f 10 o 1 0 p kid,sp):=r1;have h0:=oper (bS f 10 o 1 0 p kid++[sg o]) (by rw [iM];show jd 10 o x (bG f 10 o 1 0 p [kid])=_;rw [iA,bG];rfl) (some (toks++bS f 10 o 1 0 p kid++[sg o],sp)) ⟨sp,aA,by rw [vU];omega,by show mq f _ bJ sp (gK [kid]);rw [gK,gK,pJ];exact (r3.app [sg o]).cast aA⟩ (by
    show (((dz<|M+1).gq ⟨10,o,x,y,[kid]⟩ 0 p f toks bJ).bind fun eU=>(nJ o).bind fun gM=>(jM [gM] f eU.1 eU.2).bind fun iI=>some (iI,eU.2))=_;rw [r1',aB,zx,aB];simp only [];rw [vT _ _ _ _ bE,aB])
   have e2:jd 10 o x (bG f 10 o 1 0 p [kid])=bS f 10 o 1 0 p kid++[sg o]:=by
    rw [iA,bG];rfl
   show Wr _ _ (toks++jd 10 o x (bG f 10 o 1 0 p [kid])) _ _ _;rw [e2];exact h0
  ·
   have h1:=g.a1 aA;obtain ⟨kid,rfl⟩:=VO.1 h1;have hm:kid∈(av.mk 11 o x y [kid]).kids:=aA;have yu:aT [kid]=aX kid:=by rw [aT,aT];omega
   have vU:∀ k' o' x' y',aT (av.mk k' o' x' y' [kid]).kids=aX kid:=fun _ _ _ _=>yu;obtain ⟨sp,r1,r2,r3⟩:=Ah (j:=0) g rfl (hk kid hm).1 (hk kid hm).2 (M+1) p (toks++[sg o]) bJ hp ah bE ah;have h0:=oper (sg o::bS f 11 o 1 0 p kid) (by rw [iM];show jd 11 o x (bG f 11 o 1 0 p [kid])=_;rw [iA,bG];rfl) (some (toks++[sg o]++bS f 11 o 1 0 p kid,sp)) ⟨sp,aA,by rw [vU];omega,by show mq f _ bJ sp (gK [kid]);rw [gK,gK,pJ];exact (r3).cast aA⟩ (by
    show ((nJ o).bind fun bF=>(jM [bF] f toks bJ).bind fun fT=>((dz<|M+1).gq ⟨11,o,x,y,[kid]⟩ 0 p f fT bJ).bind fun rM=>some (rM.1,rM.2))=_;rw [zx,aB,vT _ _ _ _ bE,aB,He];exact r1)
   have e2:jd 11 o x (bG f 11 o 1 0 p [kid])=sg o::bS f 11 o 1 0 p kid:=by
    rw [iA,bG];rfl
   show Wr _ _ (toks++jd 11 o x (bG f 11 o 1 0 p [kid])) _ _ _;rw [e2];exact h0
  ·
   have h1:=g.a2 aA;obtain ⟨kx,ky,rfl⟩:=Zi h1;have hmx:kx∈(av.mk 12 o x y [kx,ky]).kids:=aA;have Ke:ky∈(av.mk 12 o x y [kx,ky]).kids:=aA;have yu:aT [kx,ky]=aX kx+aX ky:=by rw [aT,aT,aT];omega
   have vU:∀ k' o' x' y',aT (av.mk k' o' x' y' [kx,ky]).kids=aX kx+aX ky:=fun _ _ _ _=>yu;have hkt:=EO f 12 o 2 0 p kx;have ajh:=EO f 12 o 2 1 p ky;have hpx:=vB kx;have hpy:=vB ky;obtain ⟨sp,r1,r2,r3⟩:=Ah (j:=0) g rfl (hk kx hmx).1 (hk kx hmx).2 (M+1) p toks bJ hp ah ah ah;have r1':(dz<|M+1).gq ⟨12,o,x,y,[kx,ky]⟩ 0 p f toks bJ=some (toks++bS f 12 o 2 0 p kx,sp):=r1;have e2:jd 12 o x (bG f 12 o 2 0 p [kx,ky])=bS f 12 o 2 0 p kx++((bif o==99 then [] else [sg o])++bS f 12 o 2 1 p ky):=by
    rw [iA,iA,bG];rfl
   show Wr _ _ (toks++jd 12 o x (bG f 12 o 2 0 p [kx,ky])) _ _ _;rw [e2];have second:∀ (r0 oI:List aC),oI=toks++bS f 12 o 2 0 p kx++r0->oI.length<=toks.length+(bS f 12 o 2 0 p kx).length+1->∃ sq,yZ (M+1) (dz<|M+1) f (⟨12,o,x,y,[kx,ky]⟩,p,(toks++bS f 12 o 2 0 p kx,sp),oI)=some (oI++bS f 12 o 2 1 p ky,sq)/\sq.length<=bJ.length+aT [kx,ky]/\mq f (oI++bS f 12 o 2 1 p ky) bJ sq (yt kx++yt ky):=fun r0 oI ht' hl'=>by
    obtain ⟨sq,q1,q2,q3⟩:=Ah (j:=1) g rfl (hk ky Ke).1 (hk ky Ke).2 (M+1) p oI sp hp ah ah ah;refine ⟨sq,?_,ah,(((r3.app r0).app<|bS f 12 o 2 1 p ky).cast<|by subst ht';rfl).trans q3⟩;show (((dz<|M+1).gq ⟨12,o,x,y,[kx,ky]⟩ 1 p f oI sp).bind fun oz=>some (oz.1,oz.2))=_;rw [He];exact q1
   cases ho:o==99 with
   | true=>
    obtain ⟨sq,q1,q2,q3⟩:=second [] (toks++bS f 12 o 2 0 p kx) (pJ _).symm (by simp only [jB,jG,vV];omega);have h0:=oper (bS f 12 o 2 0 p kx++bS f 12 o 2 1 p ky) (by rw [iM];show jd 12 o x (bG f 12 o 2 0 p [kx,ky])=_;rw [e2,ho];rfl) (some (toks++bS f 12 o 2 0 p kx++bS f 12 o 2 1 p ky,sq)) ⟨sq,aA,by rw [vU];omega,by show mq f _ bJ sq (gK [kx,ky]);rw [gK,gK,gK,pJ];exact q3.cast aA⟩ (by
     show (((dz<|M+1).gq ⟨12,o,x,y,[kx,ky]⟩ 0 p f toks bJ).bind fun cB=>bif (o !=99) then (nJ o).bind fun iq=>(jM [iq] f cB.1 cB.2).bind fun jY=>yZ (M+1) (dz<|M+1) f (⟨12,o,x,y,[kx,ky]⟩,p,cB,jY) else (yZ (M+1) (dz<|M+1) f (⟨12,o,x,y,[kx,ky]⟩,p,cB,cB.1)))=_;rw [r1',aB];simp only [bne,ho,nN,aI];exact q1)
    exact h0
   | false=>
    obtain ⟨sq,q1,q2,q3⟩:=second [sg o] (toks++bS f 12 o 2 0 p kx++[sg o]) rfl (by simp only [jB,jG,vV];omega);have h0:=oper (bS f 12 o 2 0 p kx++([sg o]++bS f 12 o 2 1 p ky)) (by rw [iM];show jd 12 o x (bG f 12 o 2 0 p [kx,ky])=_;rw [e2,ho];rfl) (some (toks++bS f 12 o 2 0 p kx++[sg o]++bS f 12 o 2 1 p ky,sq)) ⟨sq,aA,by rw [vU];omega,by show mq f _ bJ sq (gK [kx,ky]);rw [gK,gK,gK,pJ];exact q3.cast aA⟩ (by
     show (((dz<|M+1).gq ⟨12,o,x,y,[kx,ky]⟩ 0 p f toks bJ).bind fun cB=>bif (o !=99) then (nJ o).bind fun iq=>(jM [iq] f cB.1 cB.2).bind fun jY=>yZ (M+1) (dz<|M+1) f (⟨12,o,x,y,[kx,ky]⟩,p,cB,jY) else (yZ (M+1) (dz<|M+1) f (⟨12,o,x,y,[kx,ky]⟩,p,cB,cB.1)))=_;rw [r1',aB];simp only [bne,ho,mg,aO,zx,aB];rw [vT _ _ _ _ bE,aB];exact q1)
    exact h0
  ·
   have h1:=g.ai aA;simp only at h1;cases hn:decide (ks.length > 1) with
   | true=>
    have hn2:1 < ks.length:=by simpa using hn
    obtain ⟨sp,r1,r2,r3⟩:=ajg g hk M p 32 33 hp (by show 1003+8*aT ks<=M;omega) toks bJ (by show toks.length+8*aT ks+5<=900000;omega) (by show bJ.length+aT ks<=900000;omega);have r1':(dz<|M+1).wU ⟨13,o,x,y,ks⟩ 32 33 p f toks bJ=some (toks++(sg 32::(dS false (bG f 13 o ks.length 0 p ks)++[sg 33])),sp):=r1;have hc:=adC (bG f 13 o ks.length 0 p ks) false;have hs3:=adD f 13 o ks.length p ks 0;have hl3:=VH f 13 o ks.length p ks 0;have h0:=oper (sg 32::(dS false (bG f 13 o ks.length 0 p ks)++[sg 33])++[sg 24,⟨6,x,0⟩]) (by rw [iM];show jd 13 o x (bG f 13 o ks.length 0 p ks)=_;show (bif decide ((bG f 13 o ks.length 0 p ks).length > 1) then _ else _)++_=_;rw [hl3,hn,aO]) (some (toks++(sg 32::(dS false (bG f 13 o ks.length 0 p ks)++[sg 33]))++[sg 24,⟨6,x,0⟩],sp)) ⟨sp,aA,r2,(r3.app [sg 24,⟨6,x,0⟩]).cast aA⟩ (by
     show (bif (decide<|(ks.length:Int) > 1) then ((dz<|M+1).wU ⟨13,o,x,y,ks⟩ 32 33 p f toks bJ).bind fun uD=>Gh (M+1) (dz<|M+1) f (⟨13,o,x,y,ks⟩,uD.1,uD.2) else (((dz<|M+1).gq ⟨13,o,x,y,ks⟩ 0 p f toks bJ).bind fun fG=>Gh (M+1) (dz<|M+1) f (⟨13,o,x,y,ks⟩,fG.1,fG.2)))=_;rw [kL ah,aO,r1',aB];unfold Gh;simp only [zx,aB];rw [vT _ _ _ _ bE,aB])
    have e2:jd 13 o x (bG f 13 o ks.length 0 p ks)=sg 32::(dS false (bG f 13 o ks.length 0 p ks)++[sg 33])++[sg 24,⟨6,x,0⟩]:=by
     show (bif decide ((bG f 13 o ks.length 0 p ks).length > 1) then _ else _)++_=_;rw [hl3,hn,aO]
    show Wr _ _ (toks++jd 13 o x (bG f 13 o ks.length 0 p ks)) _ _ _;rw [e2];exact h0
   | false=>
    have hn2: ¬1 < ks.length:=by simpa using hn
    obtain ⟨kid,rfl⟩:=VO.1 (by omega:ks.length=1);have hm:kid∈(av.mk 13 o x y [kid]).kids:=aA;have yu:aT [kid]=aX kid:=by rw [aT,aT];omega
    have vU:∀ k' o' x' y',aT (av.mk k' o' x' y' [kid]).kids=aX kid:=fun _ _ _ _=>yu;have hkt:=EO f 13 o 1 0 p kid;obtain ⟨sp,r1,r2,r3⟩:=Ah (j:=0) g rfl (hk kid hm).1 (hk kid hm).2 (M+1) p toks bJ hp ah ah ah;have r1':(dz<|M+1).gq ⟨13,o,x,y,[kid]⟩ 0 p f toks bJ=some (toks++bS f 13 o 1 0 p kid,sp):=r1;have h0:=oper (bS f 13 o 1 0 p kid++[sg 24,⟨6,x,0⟩]) (by rw [iM];show jd 13 o x (bG f 13 o 1 0 p [kid])=_;rw [iA,bG];rfl) (some (toks++bS f 13 o 1 0 p kid++[sg 24,⟨6,x,0⟩],sp)) ⟨sp,aA,by rw [vU];omega,by show mq f _ bJ sp (gK [kid]);rw [gK,gK,pJ];exact (r3.app [sg 24,⟨6,x,0⟩]).cast aA⟩ (by
     show (((dz<|M+1).gq ⟨13,o,x,y,[kid]⟩ 0 p f toks bJ).bind fun fG=>Gh (M+1) (dz<|M+1) f (⟨13,o,x,y,[kid]⟩,fG.1,fG.2))=_;rw [r1',aB];unfold Gh;simp only [zx,aB];rw [vT _ _ _ _ bE,aB])
    have e2:jd 13 o x (bG f 13 o 1 0 p [kid])=bS f 13 o 1 0 p kid++[sg 24,⟨6,x,0⟩]:=by
     rw [iA,bG];rfl
    show Wr _ _ (toks++jd 13 o x (bG f 13 o 1 0 p [kid])) _ _ _;rw [e2];exact h0
  ·
   have h1:=g.a3 rfl;obtain ⟨kx,ky,kz,rfl⟩:=aiT h1;have hmx:kx∈(av.mk 14 o x y [kx,ky,kz]).kids:=aA;have Ke:ky∈(av.mk 14 o x y [kx,ky,kz]).kids:=aA;have hmz:kz∈(av.mk 14 o x y [kx,ky,kz]).kids:=aA;have yu:aT [kx,ky,kz]=aX kx+aX ky+aX kz:=by rw [aT,aT,aT,aT];omega
   have vU:∀ k' o' x' y',aT (av.mk k' o' x' y' [kx,ky,kz]).kids=aX kx+aX ky+aX kz:=fun _ _ _ _=>yu;have hkt:=EO f 14 o 3 0 p kx;have ajh:=EO f 14 o 3 1 p ky;have aFx:=EO f 14 o 3 2 p kz;have hpx:=vB kx;have hpy:=vB ky;have hpz:=vB kz;obtain ⟨sp,r1,r2,r3⟩:=Ah (j:=0) g rfl (hk kx hmx).1 (hk kx hmx).2 (M+1) p toks bJ hp ah ah ah;obtain ⟨sq,q1,q2,q3⟩:=Ah (j:=1) g rfl (hk ky Ke).1 (hk ky Ke).2 (M+1) p (toks++bS f 14 o 3 0 p kx++[sg 65]) sp hp ah bE ah;obtain ⟨sr,o1,o2,o3⟩:=Ah (j:=2) g rfl (hk kz hmz).1 (hk kz hmz).2 (M+1) p (toks++bS f 14 o 3 0 p kx++[sg 65]++bS f 14 o 3 1 p ky++[sg 66]) sq hp ah bE ah;have r1':(dz<|M+1).gq ⟨14,o,x,y,[kx,ky,kz]⟩ 0 p f toks bJ=some (toks++bS f 14 o 3 0 p kx,sp):=r1;have q1':(dz<|M+1).gq ⟨14,o,x,y,[kx,ky,kz]⟩ 1 p f (toks++bS f 14 o 3 0 p kx++[sg 65]) sp=some (toks++bS f 14 o 3 0 p kx++[sg 65]++bS f 14 o 3 1 p ky,sq):=q1;have o1':(dz<|M+1).gq ⟨14,o,x,y,[kx,ky,kz]⟩ 2 p f (toks++bS f 14 o 3 0 p kx++[sg 65]++bS f 14 o 3 1 p ky++[sg 66]) sq=some (toks++bS f 14 o 3 0 p kx++[sg 65]++bS f 14 o 3 1 p ky++[sg 66]++bS f 14 o 3 2 p kz,sr):=o1;have h0:=oper (bS f 14 o 3 0 p kx++(sg 65::(bS f 14 o 3 1 p ky++(sg 66::bS f 14 o 3 2 p kz)))) (by rw [iM];show jd 14 o x (bG f 14 o 3 0 p [kx,ky,kz])=_;rw [iA,iA,iA,bG];rfl) (some (toks++bS f 14 o 3 0 p kx++[sg 65]++bS f 14 o 3 1 p ky++[sg 66]++bS f 14 o 3 2 p kz,sr)) ⟨sr,aA,by rw [vU];omega,by show mq f (toks++(bS f 14 o 3 0 p kx++(sg 65::(bS f 14 o 3 1 p ky++(sg 66::bS f 14 o 3 2 p kz))))) bJ sr (gK [kx,ky,kz]);rw [gK,gK,gK,gK,pJ,<- nC (yt kx)];exact ((((((r3.app [sg 65]).app<|bS f 14 o 3 1 p ky).trans q3).app [sg 66]).app<|bS f 14 o 3 2 p kz).trans o3).cast aA⟩ (by
    show (((dz<|M+1).gq ⟨14,o,x,y,[kx,ky,kz]⟩ 0 p f toks bJ).bind fun cZ=>(nJ 65).bind fun iw=>(jM [iw] f cZ.1 cZ.2).bind fun Gi=>((dz<|M+1).gq ⟨14,o,x,y,[kx,ky,kz]⟩ 1 p f Gi cZ.2).bind fun oQ=>(nJ 66).bind fun nK=>(jM [nK] f oQ.1 oQ.2).bind fun Jq=>((dz<|M+1).gq ⟨14,o,x,y,[kx,ky,kz]⟩ 2 p f Jq oQ.2).bind fun vH=>some (vH.1,vH.2))=_;rw [r1',aB,zx,aB];simp only [];rw [vT _ _ _ _ bE,aB,q1',aB,zx,aB];simp only [];rw [vT _ _ _ _ bE,aB,o1',aB])
   have e2:jd 14 o x (bG f 14 o 3 0 p [kx,ky,kz])=bS f 14 o 3 0 p kx++(sg 65::(bS f 14 o 3 1 p ky++(sg 66::bS f 14 o 3 2 p kz))):=by
    rw [iA,iA,iA,bG];rfl
   show Wr _ _ (toks++jd 14 o x (bG f 14 o 3 0 p [kx,ky,kz])) _ _ _;rw [e2];exact h0
  ·
   have h1:=g.a2 aA;obtain ⟨kx,ky,rfl⟩:=Zi h1;have hmx:kx∈(av.mk 15 o x y [kx,ky]).kids:=aA;have Ke:ky∈(av.mk 15 o x y [kx,ky]).kids:=aA;have yu:aT [kx,ky]=aX kx+aX ky:=by rw [aT,aT,aT];omega
   have vU:∀ k' o' x' y',aT (av.mk k' o' x' y' [kx,ky]).kids=aX kx+aX ky:=fun _ _ _ _=>yu;have hkt:=EO f 15 o 2 0 p kx;have ajh:=EO f 15 o 2 1 p ky;have hpx:=vB kx;have hpy:=vB ky;obtain ⟨sp,r1,r2,r3⟩:=Ah (j:=0) g rfl (hk kx hmx).1 (hk kx hmx).2 (M+1) p toks bJ hp ah ah ah;have r1':(dz<|M+1).gq ⟨15,o,x,y,[kx,ky]⟩ 0 p f toks bJ=some (toks++bS f 15 o 2 0 p kx,sp):=r1;have e2:jd 15 o x (bG f 15 o 2 0 p [kx,ky])=bS f 15 o 2 0 p kx++((bif o==99 then [] else [sg o])++bS f 15 o 2 1 p ky):=by
    rw [iA,iA,bG];rfl
   show Wr _ _ (toks++jd 15 o x (bG f 15 o 2 0 p [kx,ky])) _ _ _;rw [e2];have second:∀ (r0 oI:List aC),oI=toks++bS f 15 o 2 0 p kx++r0->oI.length<=toks.length+(bS f 15 o 2 0 p kx).length+1->∃ sq,yZ (M+1) (dz<|M+1) f (⟨15,o,x,y,[kx,ky]⟩,p,(toks++bS f 15 o 2 0 p kx,sp),oI)=some (oI++bS f 15 o 2 1 p ky,sq)/\sq.length<=bJ.length+aT [kx,ky]/\mq f (oI++bS f 15 o 2 1 p ky) bJ sq (yt kx++yt ky):=fun r0 oI ht' hl'=>by
    obtain ⟨sq,q1,q2,q3⟩:=Ah (j:=1) g rfl (hk ky Ke).1 (hk ky Ke).2 (M+1) p oI sp hp ah ah ah;refine ⟨sq,?_,ah,(((r3.app r0).app<|bS f 15 o 2 1 p ky).cast<|by subst ht';rfl).trans q3⟩;show (((dz<|M+1).gq ⟨15,o,x,y,[kx,ky]⟩ 1 p f oI sp).bind fun oz=>some (oz.1,oz.2))=_;rw [He];exact q1
   cases ho:o==99 with
   | true=>
    obtain ⟨sq,q1,q2,q3⟩:=second [] (toks++bS f 15 o 2 0 p kx) (pJ _).symm (by simp only [jB,jG,vV];omega);have h0:=oper (bS f 15 o 2 0 p kx++bS f 15 o 2 1 p ky) (by rw [iM];show jd 15 o x (bG f 15 o 2 0 p [kx,ky])=_;rw [e2,ho];rfl) (some (toks++bS f 15 o 2 0 p kx++bS f 15 o 2 1 p ky,sq)) ⟨sq,aA,by rw [vU];omega,by show mq f _ bJ sq (gK [kx,ky]);rw [gK,gK,gK,pJ];exact q3.cast aA⟩ (by
     show (((dz<|M+1).gq ⟨15,o,x,y,[kx,ky]⟩ 0 p f toks bJ).bind fun cB=>bif (o !=99) then (nJ o).bind fun iq=>(jM [iq] f cB.1 cB.2).bind fun jY=>yZ (M+1) (dz<|M+1) f (⟨15,o,x,y,[kx,ky]⟩,p,cB,jY) else (yZ (M+1) (dz<|M+1) f (⟨15,o,x,y,[kx,ky]⟩,p,cB,cB.1)))=_;rw [r1',aB];simp only [bne,ho,nN,aI];exact q1)
    exact h0
   | false=>
    obtain ⟨sq,q1,q2,q3⟩:=second [sg o] (toks++bS f 15 o 2 0 p kx++[sg o]) rfl (by simp only [jB,jG,vV];omega);have h0:=oper (bS f 15 o 2 0 p kx++([sg o]++bS f 15 o 2 1 p ky)) (by rw [iM];show jd 15 o x (bG f 15 o 2 0 p [kx,ky])=_;rw [e2,ho];rfl) (some (toks++bS f 15 o 2 0 p kx++[sg o]++bS f 15 o 2 1 p ky,sq)) ⟨sq,aA,by rw [vU];omega,by show mq f _ bJ sq (gK [kx,ky]);rw [gK,gK,gK,pJ];exact q3.cast aA⟩ (by
     show (((dz<|M+1).gq ⟨15,o,x,y,[kx,ky]⟩ 0 p f toks bJ).bind fun cB=>bif (o !=99) then (nJ o).bind fun iq=>(jM [iq] f cB.1 cB.2).bind fun jY=>yZ (M+1) (dz<|M+1) f (⟨15,o,x,y,[kx,ky]⟩,p,cB,jY) else (yZ (M+1) (dz<|M+1) f (⟨15,o,x,y,[kx,ky]⟩,p,cB,cB.1)))=_;rw [r1',aB];simp only [bne,ho,mg,aO,zx,aB];rw [vT _ _ _ _ bE,aB];exact q1)
    exact h0
structure ExR (N:Nat) (L:List aD) (t:av):Prop where
 eq:L=bX 0 t
 ta:TA L t 0 (L.length - 1)
 sz:aX t<=400
 dep:je t<=40
 tx:Ta t
 g:allT GN t
 c:allT (fun u=>CN u/\TN N u) t
 sh:uN L=true
 ok:xI N L=some true
def aro (N:Nat) (L:List aD) (hN:1048577 < N) (hs:∀ x,x∈L->vC x) (hsh:uN L=true) {t:av} (hT:TA L t 0 (L.length - 1)) (h:xI N L=some true):je t<=40:=by
 unfold xI at h;obtain ⟨y,h1,h⟩:=pK.1 h;cases y with
 | true=>cases h
 | false=>
  rw [aji N L hN hs hsh hT] at h1;obtain ⟨r,_,h1⟩:=pK.1 h1;cases r with
  | false=>cases h1
  | true=>
   simp only [nN,aI,aB] at h1;have:=QU (lF h1);omega
def ahs (N:Nat) (L:List aD) (hN:1048777 < N) (hS:∀ x,x∈L->vC x) (hok:xI N L=some true) (hsh:uN L=true) (hE:∀ t,TA L t 0 (L.length - 1)->iC t.kind=true):∃ t,ExR N L t:=by
 obtain ⟨l1,l2,_,_,_,_,_,t,ht⟩:=IX hsh;have hp:=ht.part;have hg:=aqT N L ah hsh hok t 0 _ ht (hE t ht);refine ⟨t,?_,ht,ah,aro N L ah hS hsh ht hok,arp hS ht,hg,arb N L ah hsh hok ht hg,hsh,hok⟩;have e:L.length - 1+1=L.length:=ah;rw [e] at hp;rw [<- hp.2.2,ajj]
def SmS (L:List aD):Prop:=∀ x,x∈L->x.Kids.length<=20000/\x.Text.length<=20/\x.Other.length<=20
def ahq {L:List aD} (h:SmS L):∀ x,x∈L->vC x:=fun x hx=>by
 obtain ⟨h1,h2,h3⟩:=h x hx;exact ⟨ah,ah,ah⟩
def ahx (N:Nat) (a:List aD) (hN:1048577 < N) (ha:a.length<=1048576) (hs:∀ x,x∈a->vC x):Lb N a a=some true:=by
 have ints:∀ (k:List Int),k.length<=1048576->Vr N k k=some true:=fun k hk=>by
  have l:∀ (n i:Nat),k.length - i < n->i<=k.length->MZ N n (k,k,(i:Int))=some true:=by
   intro n;induction n with
   | zero=>intro i h;omega
   | succ n ih=>
    intro i hn hi;rw [MZ];by_cases h:i < k.length
    .have ne:(k[i] !=k[i])=false:=aA;simp only [iL h,aO,dn h,aB,ne,aI];rw [wrap64 ah ah,show (i:Int)+1=((i+1:Nat):Int) by omega];exact ih (i+1) ah ah
    .simp only [jN h,aI]
  unfold Vr;have ne:((k.length:Int) !=(k.length:Int))=false:=aA;rw [ne,aI];exact l N 0 ah ah
 have l:∀ (n i:Nat),a.length - i < n->i<=a.length->Na N n (a,a,(i:Int))=some true:=by
  intro n;induction n with
  | zero=>intro i h;omega
  | succ n ih=>
   intro i hn hi;rw [Na];by_cases h:i < a.length
   .have e1:(a[i].Kind !=a[i].Kind)=false:=aA;have e2:(a[i].Op !=a[i].Op)=false:=aA;have e3:(!(a[i].Text==a[i].Text))=false:=aA;have e4:(!(a[i].Other==a[i].Other))=false:=aA;have e5:=ints a[i].Kids (by have:=hs _ (nO h);unfold vC at this;omega);simp only [iL h,aO,dn h,aB,e1,e2,e3,e4,e5,aI,nN];rw [wrap64 ah ah,show (i:Int)+1=((i+1:Nat):Int) by omega];exact ih (i+1) ah ah
   .simp only [jN h,aI]
 unfold Lb;have ne:((a.length:Int) !=(a.length:Int))=false:=aA;rw [ne,aI];exact l N 0 ah ah
def Dr {α:Type} (b:List UInt8) (P:α->Prop) (x:Option (α×Int×Int)):Prop:=∃ a i h,x=some (a,i,h)/\P a/\0<=i/\i<=(b.length:Int)
def Dr.bind {α β:Type} {b:List UInt8} {P:α->Prop} {Q:β->Prop} {x:Option (α×Int×Int)} {f:α×Int×Int->Option (β×Int×Int)} (hx:Dr b P x) (hf:∀ a i h,P a->0<=i->i<=(b.length:Int)->Dr b Q (f (a,i,h))):Dr b Q (Option.bind x f):=by
 obtain ⟨a,i,h,rfl,h1,h2,h3⟩:=hx;exact hf a i h h1 h2 h3
def Dr.some {α:Type} {b:List UInt8} {P:α->Prop} {a:α} {i h:Int} (ha:P a) (h0:0<=i) (h1:i<=(b.length:Int)):Dr b P (some (a,i,h)):=⟨a,i,h,rfl,ha,h0,h1⟩
def Dr.imp {α:Type} {b:List UInt8} {P Q:α->Prop} {x:Option (α×Int×Int)} (hx:Dr b P x) (h:∀ a,P a->Q a):Dr b Q x:=by
 obtain ⟨a,i,k,rfl,h1,h2,h3⟩:=hx;exact ⟨a,i,k,rfl,h a h1,h2,h3⟩
def Dr.cond {α:Type} {b:List UInt8} {P:α->Prop} {c:Bool} {x y:Option (α×Int×Int)} (hx:c=true->Dr b P x) (hy:c=false->Dr b P y):Dr b P (bif c then x else y):=by
 cases c
 .exact hy rfl
 .exact hx rfl
def QV {α:Type} {b:List UInt8} {P:α->Prop} {x:Option (α×Int×Int)} (hx:Dr b P x):Dr b P (Option.bind x fun r=>Option.some (r.1,r.2.1,r.2.2)):=Dr.bind hx fun _ _ _ ha h0 h1=>Dr.some ha h0 h1
def Zq (x:Int):0<=bits .and .i64 x 255/\bits .and .i64 x 255<=255:=by
 have e:bits .and .i64 x 255=IntKind.wrap .i64 (((BitVec.ofInt 64 x&&& BitVec.ofInt 64 255).toNat:Nat):Int):=rfl;have h:(BitVec.ofInt 64 x&&& BitVec.ofInt 64 255).toNat<=255:=by
  rw [BitVec.toNat_and];exact Nat.and_le_right
 rw [e,wrap64 ah ah];omega
section
set_option linter.unusedSectionVars false
variable (b:List UInt8) (hb:b.length<=1048576)
include hb
theorem VP (i h:Int) (h0:0<=i) (h1:i<=(b.length:Int)):Dr b (fun x=>0<=x/\x<=255) (Cu b i h):=by
 unfold Cu Pj;refine Dr.cond (fun hc=>?_) fun hc=>?_
 .have hc:=nP hc;obtain ⟨n,rfl⟩:=qJ h0;have hn:n < b.length:=ah;rw [dn hn,aB];exact Dr.some (Zq _) (by rw [wrap64 ah ah];omega) (by rw [wrap64 ah ah];omega)
 .exact Dr.some (Zq _) h0 h1
theorem ajk {P:Int->Prop} {x n i h:Int} (hx:0<=x) (hn:0 < n) (h0:0<=i) (h1:i<=(b.length:Int)) (hP:∀ r,0<=r->r < n->P r):Dr b P ((IZ x n).bind fun y=>some (y,i,h)):=by
 unfold IZ;have:(n==0)=false:=bE;rw [this,aI,aB];exact Dr.some (hP _ (adF _ hx)<|adG _ hn) h0 h1
theorem EP (n i h:Int) (h0:0<=i) (h1:i<=(b.length:Int)):Dr b (fun r=>0<=r/\(r < n\/n<=0/\r=0)) (jD n b i h):=by
 unfold jD;refine Dr.cond (fun hc=>?_) fun hc=>Dr.cond (fun hc2=>?_) fun hc2=>?_
 .have hc:=nP hc;exact Dr.some ⟨ah,.inr ⟨hc,rfl⟩⟩ h0 h1
 .have hc:=QU hc;exact Dr.bind (VP b hb i h h0 h1) fun x i h hx h0 h1=>ajk b hb hx.1 ah h0 h1 fun r g1 g2=>⟨g1,.inl g2⟩
 .have hc:=QU hc;refine Dr.bind (VP b hb i h h0 h1) fun x i h hx h0 h1=>Dr.bind (VP b hb i h h0 h1) fun y i h hy h0 h1=>Dr.bind (VP b hb i h h0 h1) fun z i h hz h0 h1=>Dr.bind (VP b hb i h h0 h1) fun w i h hw h0 h1=>?_;refine ajk b hb ?_ ah h0 h1 fun r g1 g2=>⟨g1,.inl g2⟩
  dsimp only;rw [wrap64 (n:=x*16777216) ah ah,wrap64 (n:=y*65536) ah ah,wrap64 (n:=x*16777216+y*65536) ah ah,wrap64 (n:=z*256) ah ah,wrap64 (n:=x*16777216+y*65536+z*256) ah ah,wrap64 ah ah];omega
theorem arq {P:List UInt8->Prop} (l:List (List UInt8)) (i h:Int) (h0:0<=i) (h1:i<=(b.length:Int)) (hl:0 < l.length) (hP:∀ x,x∈l->P x):Dr b P (uq l b i h):=by
 unfold uq;refine Dr.bind (EP b hb _ i h h0 h1) fun r i h hr h0 h1=>?_;obtain ⟨n,rfl⟩:=qJ hr.1;have hn:n < l.length:=by rcases hr.2 with h|h<;>omega
 dsimp only;have e:ix l (n:Int)=some l[n]:=dn hn;rw [e,aB];exact Dr.some (hP _<|nO hn) h0 h1
theorem ars (n i h:Int) (h0:0<=i) (h1:i<=(b.length:Int)):Dr b (fun _=>True) (yS n b i h):=Dr.bind (EP b hb _ i h h0 h1) fun _ _ _ _ h0 h1=>Dr.some trivial h0 h1
theorem ajl {P:Int->Prop} (l:List Int) (i h:Int) (h0:0<=i) (h1:i<=(b.length:Int)) (hl:0 < l.length) (hP:∀ x,x∈l->P x):Dr b P (zU l b i h):=by
 unfold zU;refine Dr.bind (EP b hb _ i h h0 h1) fun r i h hr h0 h1=>?_;obtain ⟨n,rfl⟩:=qJ hr.1;have hn:n < l.length:=by rcases hr.2 with h|h<;>omega
 dsimp only;have e:ix l (n:Int)=some l[n]:=dn hn;rw [e,aB];exact Dr.some (hP _<|nO hn) h0 h1
theorem ajm (m:Nat) (l:List (List UInt8)) (i h:Int) (h0:0<=i) (h1:i<=(b.length:Int)) (hl:0 < l.length) (hP:(l.all fun x=>decide<|x.length<=m)=true):Dr b (fun x=>x.length<=m) (uq l b i h):=
 arq b hb l i h h0 h1 hl fun x hx=>nP (jR.1 hP x hx)
def pw:Nat->Nat
 | 0=>1
 | n+1=>4*pw n
omit hb in
theorem adH:∀ n,1<=pw n
 | 0=>by rw [pw];omega
 | n+1=>by have:=adH n;rw [pw];omega
end
def Zt:Int:=6364136223846793005
def lcC:Int:=1442695040888963407
def lc (x:Int):Int:=x*Zt+lcC
def pO:Nat->Int->Int
 | 0,x=>x
 | n+1,x=>pO n (lc x)
def VQ:∀ (m n:Nat) (x:Int),pO (m+n) x=pO n (pO m x)
 | 0,n,x=>by rw [rW];rfl
 | m+1,n,x=>by
  rw [show m+1+n=(m+n)+1 by omega];show pO (m+n) (lc x)=pO n (pO m<|lc x);exact VQ m n (lc x)
def ajn (k:Nat):∃ p q u v:Int,(∀ x,pO (2 ^ k) x=p*x+q)/\p=1+2 ^ (k+2)*u/\q=2 ^ k*(1+2*v):=by
 induction k with
 | zero=>
  refine ⟨Zt,lcC,1591034055961698251,721347520444481703,fun x=>?_,aJ,aJ⟩;show pO 1 x=_;show x*Zt+lcC=_;rw [VR]
 | succ k ih=>
  obtain ⟨p,q,u,v,h1,h2,h3⟩:=ih;refine ⟨p*p,p*q+q,u+2 ^ (k+1)*u*u,v+2 ^ k*u*(1+2*v),fun x=>?_,?_,?_⟩
  .rw [show (2:Nat) ^ (k+1)=2 ^ k+2 ^ k by rw [Nat.pow_succ];omega,VQ,h1,h1,Int.mul_add,Int.mul_assoc,Int.add_assoc]
  .have e2:(2:Int) ^ (k+1+2)=2*2 ^ (k+2):=by rw [show k+1+2=(k+2)+1 by omega,Kg,VR]
   have e3:(2:Int) ^ (k+2)=2*2 ^ (k+1):=by rw [Kg,VR]
   rw [h2,e2];generalize (2:Int) ^ (k+2)=t at e3 ⊢;generalize (2:Int) ^ (k+1)=s at e3 ⊢;subst e3
   grind
  .have e1:(2:Int) ^ (k+1)=2*2 ^ k:=by rw [Kg,VR]
   have e2:(2:Int) ^ (k+2)=4*2 ^ k:=by rw [Kg,Kg];omega
   rw [h2,h3,e1,e2];generalize (2:Int) ^ k=t
   grind
def aru (k:Nat) (x y:Int):∃ n d,pO n x=y+2 ^ k*d:=by
 induction k with
 | zero=>exact ⟨0,x - y,by show x=_;simp;omega⟩
 | succ k ih=>
  obtain ⟨n,d,h⟩:=ih;have e1:(2:Int) ^ (k+1)=2*2 ^ k:=by rw [Kg,VR]
  by_cases hd:d % 2=0
  .refine ⟨n,d / 2,?_⟩;rw [h,e1,show d=2*(d / 2) by omega];rw [Int.mul_left_comm,<- Int.mul_assoc,show 2*(d / 2) / 2=d / 2 by omega]
  .obtain ⟨p,q,u,v,h1,h2,h3⟩:=ajn k;refine ⟨n+2 ^ k,(1+d) / 2+v+2*u*(y+2 ^ k*d),?_⟩;have e2:(2:Int) ^ (k+2)=4*2 ^ k:=by rw [Kg,Kg];omega
   have hd2:d=2*((1+d) / 2) - 1:=ah;rw [VQ,h,h1,h2,h3,e1,e2];generalize (1+d) / 2=g at hd2 ⊢;subst hd2;generalize (2:Int) ^ k=t
   grind
def mD (h:Int):Int:=IntKind.wrap .i64 (IntKind.wrap .i64 (h*6364136223846793005)+1442695040888963407)
def jH:Nat->Int->Int
 | 0,h=>h
 | n+1,h=>jH n (mD h)
def Zu:∀ (m n:Nat) (x:Int),jH (m+n) x=jH n (jH m x)
 | 0,n,x=>by rw [rW];rfl
 | m+1,n,x=>by
  rw [show m+1+n=(m+n)+1 by omega];show jH (m+n) (mD x)=jH n (jH m<|mD x);exact Zu m n (mD x)
def arv (h:Int): -9223372036854775808<=mD h/\mD h<=9223372036854775807:=by
 unfold mD;rw [adJ];omega
def ajo (x:Int):∃ d,IntKind.wrap .i64 x=x+18446744073709551616*d:=by
 rw [adJ];exact ⟨-((x+9223372036854775808) / 18446744073709551616),ah⟩
def arw (h:Int):∃ d,mD h=lc h+18446744073709551616*d:=by
 unfold mD lc;obtain ⟨d1,h1⟩:=ajo (h*6364136223846793005);obtain ⟨d2,h2⟩:=ajo (IntKind.wrap .i64 (h*6364136223846793005)+1442695040888963407);refine ⟨d1+d2,?_⟩;rw [h2,h1];show _=h*6364136223846793005+1442695040888963407+_;generalize h*6364136223846793005=z;omega
def adK:∀ (n:Nat) (x d:Int),∃ e,pO n (x+18446744073709551616*d)=pO n x+18446744073709551616*e
 | 0,x,d=>⟨d,rfl⟩
 | n+1,x,d=>by
  have e:lc (x+18446744073709551616*d)=lc x+18446744073709551616*(d*Zt):=by
   unfold lc
   grind
  show ∃ e,pO n (lc<|x+18446744073709551616*d)=pO n (lc x)+18446744073709551616*e;rw [e];exact adK n (lc x) _
def ajp:∀ (n:Nat) (h:Int),∃ d,jH n h=pO n h+18446744073709551616*d
 | 0,h=>⟨0,by show h=h+_;omega⟩
 | n+1,h=>by
  obtain ⟨d,hd⟩:=ajp n (mD h);obtain ⟨d2,h2⟩:=arw h;obtain ⟨e,he⟩:=adK n (lc h) d2;refine ⟨e+d,?_⟩;show jH n (mD h)=pO n (lc h)+_;rw [hd,h2,he];omega
def ajq (M:Nat) (hM:M=2 ^ 64) (x:Int):∃ d,pO M x=x+18446744073709551616*d:=by
 obtain ⟨p,q,u,v,h1,h2,h3⟩:=ajn 64;have e2:(2:Int) ^ (64+2)=73786976294838206464:=aJ;have e3:(2:Int) ^ 64=18446744073709551616:=aJ;rw [<- hM] at h1;rw [e2] at h2;rw [e3] at h3;refine ⟨4*u*x+(1+2*v),?_⟩;rw [h1,h2,h3]
 grind
def arx (M:Nat) (hM:M=2 ^ 64) (k:Nat) (x:Int):∃ d,pO (M*k) x=x+18446744073709551616*d:=by
 induction k with
 | zero=>exact ⟨0,by rw [Zv];show x=_;omega⟩
 | succ k ih=>
  obtain ⟨d,hd⟩:=ih;obtain ⟨d2,h2⟩:=ajq M hM (x+18446744073709551616*d);refine ⟨d+d2,?_⟩;rw [Nat.mul_succ,VQ,hd,h2];omega
def arz (M:Nat) (hM:M=2 ^ 64) (hM0:0 < M) (h y:Int) (h1: -9223372036854775808<=y) (h2:y<=9223372036854775807):∃ n,1<=n/\n<=M/\jH n h=y:=by
 obtain ⟨n,d,hn⟩:=aru 64 h y;have e3:(2:Int) ^ 64=18446744073709551616:=aJ;rw [e3] at hn;have key:∀ m,(∃ d,pO m h=y+18446744073709551616*d)->1<=m->jH m h=y:=fun m ⟨d,hm⟩ h1m=>by
  obtain ⟨d2,hd2⟩:=ajp m h;obtain ⟨m,rfl⟩:∃ k,m=k+1:=⟨m - 1,ah⟩
  have hr: -9223372036854775808<=jH (m+1) h/\jH (m+1) h<=9223372036854775807:=by
   rw [Zu m 1 h];exact arv _
  rw [hm] at hd2;omega
 obtain ⟨d2,hq⟩:=arx M hM (n / M) h;have hsplit:pO n h=pO (n % M) (pO (M*(n / M)) h):=by
  rw [<- VQ,Zw]
 obtain ⟨e,he⟩:=adK (n % M) h d2;rw [hsplit,hq,he] at hn;have hm:pO (n % M) h=y+18446744073709551616*(d - e):=ah;rcases VA (n % M) with h0|h0
 .rw [h0] at hm;obtain ⟨d3,h3⟩:=ajq M hM h;refine ⟨M,hM0,dX _,key _ ⟨d - e+d3,?_⟩ hM0⟩;rw [h3];have:h=y+18446744073709551616*(d - e):=hm;omega
 .exact ⟨n % M,h0,Ai<|QW _ hM0,key _ ⟨_,hm⟩ h0⟩
def arA (h y:Int) (h1: -9223372036854775808<=y) (h2:y<=9223372036854775807):∃ n,1<=n/\n<=2 ^ 64/\jH n h=y:=
 arz (2 ^ 64) rfl aJ h y h1 h2
inductive Pg (α:Type):Type
 | ret (a:α):Pg α
 | rd (k:Int->Pg α):Pg α
namespace Pg
def bind {α β:Type}:Pg α->(α->Pg β)->Pg β
 | ret a,f=>f a
 | rd k,f=>rd fun x=>(k x).bind f
def map {α β:Type} (g:α->β) (p:Pg α):Pg β:=p.bind fun a=>ret (g a)
inductive Post {α:Type} (P:α->Prop):Pg α->Prop
 | ret {a:α} (h:P a):Post P (.ret a)
 | rd {k:Int->Pg α} (h:∀ x,0<=x->x<=255->Post P (k x)):Post P (.rd k)
inductive Le {α:Type}:Pg α->Nat->Prop
 | ret {a:α} {n:Nat}:Le (.ret a) n
 | rd {k:Int->Pg α} {n:Nat} (h:∀ x,0<=x->x<=255->Le (k x) n):Le (.rd k) (n+1)
def One {α:Type}:Pg α->Prop
 | ret _=>False
 | rd _=>True
def Le.mono {α:Type} {p:Pg α} {n m:Nat} (h:Le p n) (hm:n<=m):Le p m:=by
 induction h generalizing m with
 | ret=>exact .ret
 | rd h ih=>
  obtain ⟨m,rfl⟩:∃ k,m=k+1:=⟨m - 1,ah⟩
  exact .rd fun x a b=>ih x a b ah
def Post.imp {α:Type} {P Q:α->Prop} {p:Pg α} (h:Post P p) (hi:∀ a,P a->Q a):Post Q p:=by
 induction h with
 | ret h=>exact .ret (hi _ h)
 | rd h ih=>exact .rd ih
def Post.bind {α β:Type} {P:α->Prop} {Q:β->Prop} {p:Pg α} {f:α->Pg β} (h:Post P p) (hf:∀ a,P a->Post Q (f a)):Post Q (p.bind f):=by
 induction h with
 | ret h=>exact hf _ h
 | rd h ih=>exact .rd ih
def dV.bind {α β:Type} {P:α->Prop} {p:Pg α} {f:α->Pg β} {n m k:Nat} (hp:Post P p) (h:Le p n) (hf:∀ a,P a->Le (f a) m) (hk:n+m<=k):Le (p.bind f) k:=by
 induction h generalizing k with
 | ret=>
  cases hp with
  | ret hp=>exact (hf _ hp).mono ah
 | rd h ih=>
  cases hp with
  | rd hp=>
   obtain ⟨k,rfl⟩:∃ j,k=j+1:=⟨k - 1,ah⟩
   exact .rd fun x a b=>ih x a b (hp x a b) ah
def One.bind {α β:Type} {p:Pg α} {f:α->Pg β} (h:One p):One (p.bind f):=by
 cases p with
 | ret=>cases h
 | rd=>trivial
def gen (h:Int):Int:=bits .and .i64 (bits .xor .i64 (Int.fdiv (mD h)<|2 ^ (min 33 64))<|Int.fdiv (mD h)<|2 ^ (min 45 64)) 255
def cb (b:List UInt8) (i:Nat) (h:Int):Int:=match b[i]? with
 | some e=>bits .and .i64 (IntKind.wrap .i64<|gen h+IntKind.wrap .i64 (e.toNat:Int)) 255
 | none=>gen h
def nx (b:List UInt8) (i:Nat):Nat:=if i < b.length then i+1 else i
def run {α:Type} (b:List UInt8):Pg α->Nat->Int->α×Nat×Int
 | ret a,i,h=>(a,i,h)
 | rd k,i,h=>run b (k<|cb b i h) (nx b i) (mD h)
def BH {α:Type}:Pg α->Int->α×Int
 | ret a,h=>(a,h)
 | rd k,h=>BH (k<|gen h) (mD h)
def run_bind {α β:Type} (b:List UInt8):∀ (p:Pg α) (f:α->Pg β) (i:Nat) (h:Int),run b (p.bind f) i h=run b (f (run b p i h).1) (run b p i h).2.1 (run b p i h).2.2
 | ret _,_,_,_=>rfl
 | rd k,f,i,h=>run_bind b (k<|cb b i h) f (nx b i) (mD h)
def arB {b:List UInt8} {i:Nat} (h:i<=b.length):nx b i<=b.length:=by unfold nx;split<;>omega
def ER {α:Type} (b:List UInt8):∀ (p:Pg α) (i:Nat) (h:Int),i<=b.length->(run b p i h).2.1<=b.length
 | ret _,_,_,hi=>hi
 | rd k,i,h,hi=>ER b (k<|cb b i h) (nx b i) (mD h) (arB hi)
def arC (b:List UInt8):nx b b.length=b.length:=by unfold nx;split<;>omega
def run_end {α:Type} (b:List UInt8):∀ (p:Pg α) (h:Int),run b p b.length h=((BH p h).1,b.length,(BH p h).2)
 | ret _,_=>rfl
 | rd k,h=>by
  have e:cb b b.length h=gen h:=by unfold cb;rw [zo ah]
  show run b (k<|cb b b.length h) (nx b b.length) (mD h)=_;rw [e,arC,run_end b (k<|gen h)<|mD h];rfl
def VT (h:Int):0<=gen h/\gen h<=255:=Zq _
def ajr (b:List UInt8) (i:Nat) (h:Int):0<=cb b i h/\cb b i h<=255:=by
 unfold cb;split
 .exact Zq _
 .exact VT h
def VU {α:Type} {P:α->Prop} (b:List UInt8) {p:Pg α} (hp:Post P p):∀ (i:Nat) (h:Int),P (run b p i h).1:=by
 induction hp with
 | ret h=>intro i h';exact h
 | rd h ih=>intro i h';exact ih (cb b i h') (ajr b i h').1 (ajr b i h').2 (nx b i) (mD h')
def arD {α:Type} {p:Pg α} {n:Nat} (hp:Le p n):∀ h:Int,∃ k,k<=n/\(BH p h).2=jH k h:=by
 induction hp with
 | ret=>intro h;exact ⟨0,ah,rfl⟩
 | rd h ih=>
  intro h';obtain ⟨k,h1,h2⟩:=ih (gen h') (VT h').1 (VT h').2 (mD h');exact ⟨k+1,ah,h2⟩
def arE {α:Type} {p:Pg α} {n:Nat} (hp:Le p n) (ho:One p) (h:Int):∃ k,1<=k/\k<=n/\(BH p h).2=jH k h:=by
 cases hp with
 | ret=>cases ho
 | rd hk=>
  obtain ⟨k,h1,h2⟩:=arD (hk (gen h) (VT h).1 (VT h).2) (mD h);exact ⟨k+1,ah,ah,h2⟩
def ajs {α:Type} (b:List UInt8):∀ (p:Pg α) (i:Nat) (h:Int),i<=(run b p i h).2.1
 | ret _,_,_=>dX _
 | rd k,i,h=>by
  have:=ajs b (k<|cb b i h) (nx b i) (mD h);have h2:i<=nx b i:=by unfold nx;split<;>omega
  exact Aj h2 this
def arF {α:Type} (b:List UInt8) {p:Pg α} (ho:One p) (i:Nat) (h:Int) (hi:i < b.length):i < (run b p i h).2.1:=by
 cases p with
 | ret=>cases ho
 | rd k=>
  have:=ajs b (k<|cb b i h) (nx b i) (mD h);have h2:nx b i=i+1:=by unfold nx;rw [bZ hi]
  rw [h2] at this;show i < (run b (k<|cb b i h) (nx b i)<|mD h).2.1;rw [h2];exact this
def ES {α:Type} (p:Pg α) (ok:α->Bool):Nat->Int->Option (α×Int)
 | 0,_=>none
 | n+1,h=>bif ok (BH p h).1 then some (BH p h) else ES p ok n (BH p h).2
def loop {α:Type} (b:List UInt8) (p:Pg α) (ok:α->Bool):Nat->Nat->Int->Option (α×Nat×Int)
 | 0,_,_=>none
 | n+1,i,h=>bif ok (run b p i h).1 then some (run b p i h) else loop b p ok n (run b p i h).2.1 (run b p i h).2.2
def ajt {α:Type} (b:List UInt8) (p:Pg α) (ok:α->Bool):∀ (n:Nat) (h:Int),(ES p ok n h).isSome=true->(loop b p ok n b.length h).isSome=true
 | 0,_,hs=>by cases hs
 | n+1,h,hs=>by
  rw [ES] at hs;rw [loop,run_end];dsimp only;cases hc:ok (BH p h).1 with
  | true=>rfl
  | false=>rw [hc,aI] at hs;rw [aI];exact ajt b p ok n (BH p h).2 hs
def Zx {α:Type} (p:Pg α) (ok:α->Bool):∀ (n m:Nat) (h:Int),n<=m->(ES p ok n h).isSome=true->(ES p ok m h).isSome=true
 | 0,_,_,_,hs=>by cases hs
 | n+1,0,_,hm,_=>by omega
 | n+1,m+1,h,hm,hs=>by
  rw [ES] at hs ⊢;cases hc:ok (BH p h).1 with
  | true=>rfl
  | false=>rw [hc,aI] at hs;rw [aI];exact Zx p ok n m _ ah hs
def jf {α:Type} (p:Pg α) (ok:α->Bool) (F:Nat):Nat->Int->Bool
 | 0,_=>true
 | n+1,h=>(ES p ok F h).isSome&&jf p ok F n (mD h)
def aju {α:Type} (p:Pg α) (ok:α->Bool) (F:Nat):∀ (n:Nat) (h:Int) (k:Nat),jf p ok F n h=true->k < n->(ES p ok F<|jH k h).isSome=true
 | 0,_,_,_,hk=>by omega
 | n+1,h,0,ha,_=>by
  rw [jf,dP] at ha;exact ha.1
 | n+1,h,k+1,ha,hk=>by
  rw [jf,dP] at ha;exact aju p ok F n (mD h) k ha.2 ah
def Ak {α:Type} (p:Pg α) (ok:α->Bool) (F:Nat):∀ (n m:Nat) (h:Int),jf p ok F n h=true->jf p ok F m (jH n h)=true->jf p ok F (n+m) h=true
 | 0,m,h,_,h2=>by rw [rW];exact h2
 | n+1,m,h,h1,h2=>by
  rw [show n+1+m=(n+m)+1 by omega,jf,dP];rw [jf,dP] at h1;exact ⟨h1.1,Ak p ok F n m (mD h) h1.2 h2⟩
def arG {α:Type} {p:Pg α} {ok:α->Bool} {B F:Nat} {h0:Int} (hB:Le p B) (ho:One p) (ha:jf p ok F (B+1) h0=true):∀ (n:Nat) (h:Int),jH n h=h0->(ES p ok (n+F+1) h).isSome=true:=by
 intro n;induction n using Nat.strongRecOn with
 | _ n ih=>
  intro h hn;rw [ES];cases ok (BH p h).1 with
  | true=>rfl
  | false=>
   rw [aI];obtain ⟨k,k1,k2,k3⟩:=arE hB ho h;rw [k3];by_cases hk:k<=n
   .have e:jH (n - k) (jH k h)=h0:=by rw [<- Zu,show k+(n - k)=n by omega];exact hn
    exact Zx p ok _ _ _ ah (ih (n - k) ah (jH k h) e)
   .have e:jH k h=jH (k - n) h0:=by rw [<- hn,<- Zu,show n+(k - n)=k by omega]
    rw [e];exact Zx p ok F _ _ ah (aju p ok F (B+1) h0 (k - n) ha ah)
def ajv {α:Type} {p:Pg α} {ok:α->Bool} {B F:Nat} {h0:Int} (hB:Le p B) (ho:One p) (ha:jf p ok F (B+1) h0=true) (h1: -9223372036854775808<=h0) (h2:h0<=9223372036854775807) (b:List UInt8) (M:Nat) (hM:18446744073709551616+F+1<=M):∀ (d i n:Nat) (h:Int),b.length - i=d->i<=b.length->M+d<=n->(loop b p ok n i h).isSome=true:=by
 intro d;induction d using Nat.strongRecOn with
 | _ d ih=>
  intro i n h hd hi hn;by_cases hlt:i < b.length
  .obtain ⟨n,rfl⟩:∃ k,n=k+1:=⟨n - 1,ah⟩
   rw [loop];cases ok (run b p i h).1 with
   | true=>rfl
   | false=>
    rw [aI];have g1:=arF b ho i h hlt;have g2:=ER b p i h hi;exact ih (b.length - (run b p i h).2.1) ah _ n _ rfl g2 ah
  .have e:i=b.length:=ah;subst e;obtain ⟨k,_,k2,k3⟩:=arA h h0 h1 h2;have e3:(2:Nat) ^ 64=18446744073709551616:=aJ;rw [e3] at k2;exact ajt b p ok n h (Zx p ok _ _ _ ah<|arG hB ho ha k h k3)
def adL {α:Type} (b:List UInt8) {P:α->Prop} {p:Pg α} (hp:Post P p) (ok:α->Bool):∀ (n i:Nat) (h:Int) (r:α×Nat×Int),i<=b.length->loop b p ok n i h=some r->P r.1/\ok r.1=true/\r.2.1<=b.length
 | 0,_,_,_,_,e=>by cases e
 | n+1,i,h,r,hi,e=>by
  rw [loop] at e;cases ho:ok (run b p i h).1 with
  | true=>
   rw [ho,aO] at e;cases e;exact ⟨VU b hp i h,ho,ER b p i h hi⟩
  | false=>
   rw [ho,aI] at e;exact adL b hp ok n _ _ r (ER b p i h hi) e
end Pg
def Sm {α β:Type} (b:List UInt8) (p:Pg α) (f:α->β) (i:Nat) (h:Int) (x:Option (β×Int×Int)):Prop:=x=some (f (Pg.run b p i h).1,((Pg.run b p i h).2.1:Int),(Pg.run b p i h).2.2)
def Sm.ret {α β:Type} {b:List UInt8} {a:α} {f:α->β} {i:Nat} {h:Int}:Sm b (.ret a) f i h (some (f a,(i:Int),h)):=rfl
def Sm.bind {α β γ δ:Type} {b:List UInt8} {p:Pg α} {f:α->β} {q:α->Pg γ} {g:γ->δ} {P:α->Prop} {i:Nat} {h:Int} {x:Option (β×Int×Int)} {y:β×Int×Int->Option (δ×Int×Int)} (hi:i<=b.length) (hp:Pg.Post P p) (hx:Sm b p f i h x) (hy:∀ a (i:Nat) h,P a->i<=b.length->Sm b (q a) g i h (y (f a,(i:Int),h))):Sm b (p.bind q) g i h (Option.bind x y):=by
 unfold Sm at hx hy ⊢;rw [hx,aB,Pg.run_bind];exact hy _ _ _ (Pg.VU b hp i h) (Pg.ER b p i h hi)
def BI {α β:Type} {b:List UInt8} {p:Pg α} {f:α->β} {i:Nat} {h:Int} {x:Option (β×Int×Int)} (hx:Sm b p f i h x):Sm b p f i h (Option.bind x fun r=>some (r.1,r.2.1,r.2.2)):=by
 unfold Sm at hx ⊢;rw [hx];rfl
def Sm.cond {α β:Type} {b:List UInt8} {p q:Pg α} {f:α->β} {i:Nat} {h:Int} {c:Bool} {x y:Option (β×Int×Int)} (hx:c=true->Sm b p f i h x) (hy:c=false->Sm b q f i h y):Sm b (bif c then p else q) f i h (bif c then x else y):=by
 cases c
 .exact hy rfl
 .exact hx rfl
def arH {α β:Type} {b:List UInt8} {p:Pg α} {f:α->β} {P:α->Prop} {Q:β->Prop} {i:Nat} {h:Int} {x:Option (β×Int×Int)} (hi:i<=b.length) (hx:Sm b p f i h x) (hp:Pg.Post P p) (hq:∀ a,P a->Q (f a)):Dr b Q x:=
 ⟨_,_,_,hx,hq _<|Pg.VU b hp i h,ah,by have:=Pg.ER b p i h hi;omega⟩
def kr (n:Int):Pg Int:=bif decide (n<=0) then .ret 0 else bif decide (n<=256) then .rd fun x=>.ret (Int.tmod x n) else .rd fun x=>.rd fun y=>.rd fun z=>.rd fun w=>.ret (Int.tmod (IntKind.wrap .i64<|(IntKind.wrap .i64<|(IntKind.wrap .i64<|(IntKind.wrap .i64<|x*16777216)+(IntKind.wrap .i64<|y*65536))+(IntKind.wrap .i64<|z*256))+w) n)
def Al (n:Int):Pg Bool:=(kr n).bind fun r=>.ret (r==0)
def tK (l:List (List UInt8)):Pg (List UInt8):=(kr (l.length:Int)).bind fun r=>.ret (l[r.toNat]?.getD [])
def BJ (l:List Int):Pg Int:=(kr (l.length:Int)).bind fun r=>.ret (l[r.toNat]?.getD 0)
def Zy:Pg (List UInt8):=tK [[48],[49],[52,50],[51,46,53],[46,53],[55,46],[49,101,51],[50,69,45,52],[49,48,46,50,53,101,43,49]]
def Zz:Pg (List UInt8):=tK [[34,34],[34,97,34],[34,120,32,121,34],[34,113,92,34,113,34],[34,92,110,34],[34,35,110,111,34],[34,47,34]]
def ZA:Pg (List UInt8):=tK [[47,97,47],[47,94,120,43,36,47],[47,97,92,47,98,47],[47,61,47],[47,32,47],[47,91,48,45,57,93,47]]
def ET:Pg (List UInt8):=tK [[120],[121],[110],[105],[97,114,114],[78,82],[70,83],[116,111,116,97,108],[97,49],[95,116],[99,111,117,110,116]]
def ZB:Pg Int:=BJ [60,57,58,59,55,56,56,99,99,99,63,48,47,50,62,62,49,67,46,45,44]
def eD (n:Int):Pg.Post (fun r=>0<=r/\(r < n\/n<=0/\r=0)) (kr n):=by
 unfold kr;cases h1:decide (n<=0) with
 | true=>exact .ret ⟨ah,.inr ⟨nP h1,rfl⟩⟩
 | false=>
  have h1:=QU h1;cases decide (n<=256) with
  | true=>exact .rd fun x hx _=>.ret ⟨adF _ hx,.inl<|adG _ ah⟩
  | false=>
   refine .rd fun x hx hx2=>.rd fun y hy hy2=>.rd fun z hz hz2=>.rd fun w hw hw2=>.ret ⟨adF _ ?_,.inl<|adG _ ah⟩;rw [wrap64 (n:=x*16777216) ah ah,wrap64 (n:=y*65536) ah ah,wrap64 (n:=x*16777216+y*65536) ah ah,wrap64 (n:=z*256) ah ah,wrap64 (n:=x*16777216+y*65536+z*256) ah ah,wrap64 ah ah];omega
def below_le (n:Int) (h:n<=256):Pg.Le (kr n) 1:=by
 unfold kr;cases decide (n<=0) with
 | true=>exact .ret
 | false=>rw [kL h];exact .rd fun _ _ _=>.ret
def rX (n:Int):Pg.Post (fun _=>True) (Al n):=(eD n).bind fun _ _=>.ret trivial
def QX (n:Int) (h:n<=256):Pg.Le (Al n) 1:=Pg.dV.bind (eD n) (below_le n h) (m:=0) (fun _ _=>.ret) ah
def arI {P:List UInt8->Prop} (l:List (List UInt8)) (hl:0 < l.length) (h:∀ x,x∈l->P x):Pg.Post P (tK l):=(eD _).bind fun r hr=>.ret (by
 have hn:r.toNat < l.length:=ah;rw [eY hn];exact h _<|nO hn)
def Hg (l:List (List UInt8)) (h:l.length<=256):Pg.Le (tK l) 1:=Pg.dV.bind (eD _) (below_le _ ah) (m:=0) (fun _ _=>.ret) ah
def QY {P:Int->Prop} (l:List Int) (hl:0 < l.length) (h:∀ x,x∈l->P x):Pg.Post P (BJ l):=(eD _).bind fun r hr=>.ret (by
 have hn:r.toNat < l.length:=ah;rw [eY hn];exact h _<|nO hn)
def VW (l:List Int) (h:l.length<=256):Pg.Le (BJ l) 1:=Pg.dV.bind (eD _) (below_le _ ah) (m:=0) (fun _ _=>.ret) ah
abbrev Sh (x:List UInt8):Prop:=x.length<=20
def tL (l:List (List UInt8)) (hl:0 < l.length) (h:(l.all fun x=>decide<|x.length<=20)=true):Pg.Post Sh (tK l):=arI l hl fun x hx=>nP (jR.1 h x hx)
def adM:Pg.Post Sh Zy:=tL _ aJ aJ
def adN:Pg.Post Sh Zz:=tL _ aJ aJ
def adO:Pg.Post Sh ZA:=tL _ aJ aJ
def oJ:Pg.Post Sh ET:=tL _ aJ aJ
def adP:Pg.Post (fun _=>True) ZB:=QY _ aJ fun _ _=>trivial
def arJ:Pg.Le Zy 1:=Hg _ aJ
def arK:Pg.Le Zz 1:=Hg _ aJ
def arL:Pg.Le ZA 1:=Hg _ aJ
def Nq:Pg.Le ET 1:=Hg _ aJ
def arM:Pg.Le ZB 1:=VW _ aJ
section
variable (b:List UInt8) (hb:b.length<=1048576)
include hb
theorem VX (i:Nat) (h:Int) (hi:i<=b.length):Sm b (.rd .ret) (fun x=>x) i h (Cu b (i:Int) h):=by
 unfold Cu Pj Sm;show _=some (Pg.cb b i h,((Pg.nx b i:Nat):Int),mD h);unfold Pg.cb Pg.nx;by_cases hlt:i < b.length
 .simp only [iL hlt,aO,dn hlt,aB,eY hlt,bZ hlt];rw [wrap64 (n:=(i:Int)+1) ah ah];rfl
 .simp only [jN hlt,aI,zo (show b.length<=i by omega),bI hlt];rfl
theorem uO (n:Int) (i:Nat) (h:Int) (hi:i<=b.length):Sm b (kr n) (fun x=>x) i h (jD n b (i:Int) h):=by
 unfold jD kr;have hp:Pg.Post (fun x:Int=>0<=x/\x<=255) (.rd .ret):=.rd fun x h1 h2=>.ret ⟨h1,h2⟩;refine Sm.cond (fun _=>Sm.ret) fun hc=>Sm.cond (fun _=>?_) fun _=>?_
 .have hc:=QU hc;have hn:(n==0)=false:=bE;refine Sm.bind (p:=.rd .ret) (q:=fun x=>.ret<|Int.tmod x n) hi hp (VX b hb i h hi) fun x i h _ _=>?_;unfold IZ;simp only [hn,aI,aB];exact Sm.ret
 .have hc:=QU hc;have hn:(n==0)=false:=bE;refine Sm.bind (p:=.rd .ret) (q:=fun x=>.rd fun y=>.rd fun z=>.rd fun w=>.ret<|Int.tmod (IntKind.wrap .i64<|(IntKind.wrap .i64<|(IntKind.wrap .i64<|(IntKind.wrap .i64<|x*16777216)+(IntKind.wrap .i64<|y*65536))+(IntKind.wrap .i64<|z*256))+w) n) hi hp (VX b hb i h hi) fun x i h _ hi=>?_;dsimp only;refine Sm.bind (p:=.rd .ret) (q:=fun y=>.rd fun z=>.rd fun w=>.ret<|Int.tmod (IntKind.wrap .i64<|(IntKind.wrap .i64<|(IntKind.wrap .i64<|(IntKind.wrap .i64<|x*16777216)+(IntKind.wrap .i64<|y*65536))+(IntKind.wrap .i64<|z*256))+w) n) hi hp (VX b hb i h hi) fun y i h _ hi=>?_;dsimp only;refine Sm.bind (p:=.rd .ret) (q:=fun z=>.rd fun w=>.ret<|Int.tmod (IntKind.wrap .i64<|(IntKind.wrap .i64<|(IntKind.wrap .i64<|(IntKind.wrap .i64<|x*16777216)+(IntKind.wrap .i64<|y*65536))+(IntKind.wrap .i64<|z*256))+w) n) hi hp (VX b hb i h hi) fun z i h _ hi=>?_;dsimp only;refine Sm.bind (p:=.rd .ret) (q:=fun w=>.ret<|Int.tmod (IntKind.wrap .i64<|(IntKind.wrap .i64<|(IntKind.wrap .i64<|(IntKind.wrap .i64<|x*16777216)+(IntKind.wrap .i64<|y*65536))+(IntKind.wrap .i64<|z*256))+w) n) hi hp (VX b hb i h hi) fun w i h _ hi=>?_;dsimp only;unfold IZ;simp only [hn,aI,aB];exact Sm.ret
theorem QZ (n:Int) (i:Nat) (h:Int) (hi:i<=b.length):Sm b (Al n) (fun x=>x) i h (yS n b (i:Int) h):=by
 unfold yS Al;exact Sm.bind hi (eD n) (uO b hb n i h hi) fun r i h _ hi=>Sm.ret
theorem Hl (l:List (List UInt8)) (hl:0 < l.length) (i:Nat) (h:Int) (hi:i<=b.length):Sm b (tK l) (fun x=>x) i h (uq l b (i:Int) h):=by
 unfold uq tK;refine Sm.bind hi (eD _) (uO b hb _ i h hi) fun r i h hr hi=>?_;obtain ⟨n,rfl⟩:=qJ hr.1;have hn:n < l.length:=by rcases hr.2 with h|h<;>omega
 have e:ix l (n:Int)=some l[n]:=dn hn;dsimp only;rw [e,aB,show Int.toNat ((n:Nat):Int)=n from rfl,eY hn];exact Sm.ret
theorem VY (l:List Int) (hl:0 < l.length) (i:Nat) (h:Int) (hi:i<=b.length):Sm b (BJ l) (fun x=>x) i h (zU l b (i:Int) h):=by
 unfold zU BJ;refine Sm.bind hi (eD _) (uO b hb _ i h hi) fun r i h hr hi=>?_;obtain ⟨n,rfl⟩:=qJ hr.1;have hn:n < l.length:=by rcases hr.2 with h|h<;>omega
 have e:ix l (n:Int)=some l[n]:=dn hn;dsimp only;rw [e,aB,show Int.toNat ((n:Nat):Int)=n from rfl,eY hn];exact Sm.ret
theorem arN (i:Nat) (h:Int) (hi:i<=b.length):Sm b Zy (fun x=>x) i h (Yg b (i:Int) h):=BI (Hl b hb _ aJ i h hi)
theorem arO (i:Nat) (h:Int) (hi:i<=b.length):Sm b Zz (fun x=>x) i h (Yh b (i:Int) h):=BI (Hl b hb _ aJ i h hi)
theorem arP (i:Nat) (h:Int) (hi:i<=b.length):Sm b ZA (fun x=>x) i h (Yi b (i:Int) h):=BI (Hl b hb _ aJ i h hi)
theorem Ho (i:Nat) (h:Int) (hi:i<=b.length):Sm b ET (fun x=>x) i h (yT b (i:Int) h):=BI (Hl b hb _ aJ i h hi)
theorem arQ (i:Nat) (h:Int) (hi:i<=b.length):Sm b ZB (fun x=>x) i h (Ym b (i:Int) h):=BI (VY b hb _ aJ i h hi)
end
def ShN (x:aD):Prop:=x.Text.length<=20/\x.Other.length<=20
def Nr (t:av):Prop:=∀ x,x∈bX 0 t->ShN x
def arR {t:av} (h:Nr t) (b:Nat):∀ x,x∈bX b t->ShN x:=fun x hx=>by
 have e:=ZC t 0 b;rw [rW] at e;rw [e] at hx;obtain ⟨y,hy,rfl⟩:=rY.1 hx;exact h y hy
def arS {ts:List av} (h:∀ t,t∈ts->Nr t):∀ (b:Nat) x,x∈jU b ts->ShN x:=by
 induction ts with
 | nil=>intro b x hx;rw [jU] at hx;cases hx
 | cons t ts ih=>
  intro b x hx;rw [jU] at hx;rcases lH.1 hx with hx|hx
  .exact arR (h t aA) b x hx
  .exact ih (fun t' h'=>h t'<|by simp [h']) _ x hx
def Gd (m d:Nat) (t:av):Prop:=aX t<=m/\je t<=d/\Nr t
def Gd.mono {m d m' d':Nat} {t:av} (h:Gd m d t) (hm:m<=m') (hd:d<=d'):Gd m' d' t:=⟨Aj h.1 hm,Aj h.2.1 hd,h.2.2⟩
def Gd.mk {m d:Nat} {k o:Int} {x y:List UInt8} {ts:List av} (hx:Sh x) (hy:Sh y) (hs:aT ts+1<=m) (hd:jg ts+1<=d) (h:∀ t,t∈ts->Nr t):Gd m d ⟨k,o,x,y,ts⟩:=by
 refine ⟨by rw [aX];exact hs,by rw [je];exact hd,fun n hn=>?_⟩;rw [bX] at hn;rcases lH.1 hn with hn|hn
 .exact arS h 0 n hn
 .rw [vW.1 hn];exact ⟨hx,hy⟩
def VZ {m d:Nat}:∀ {ts:List av},(∀ t,t∈ts->Gd m d t)->aT ts<=ts.length*m/\jg ts<=d/\∀ t,t∈ts->Nr t
 | [],_=>⟨by simp [aT],by simp [jg],fun t ht=>by cases ht⟩
 | t::ts,h=>by
  obtain ⟨h1,h2,h3⟩:=VZ (ts:=ts) fun t' ht'=>h t' (by simp [ht']);obtain ⟨g1,g2,g3⟩:=h t aA;refine ⟨by simp only [aT,jG,vY];omega,by simp only [jg];omega,fun t' ht'=>?_⟩;rcases iO.1 ht' with rfl|ht'
  .exact g3
  .exact h3 t' ht'
def oK {α:Type} (p:Pg α):Nat->Pg (List α)
 | 0=>.ret []
 | n+1=>p.bind fun a=>(oK p n).bind fun zs=>.ret (a::zs)
def Dc {α:Type} {P:α->Prop} {p:Pg α} (h:Pg.Post P p):∀ n,Pg.Post (fun zs=>zs.length=n/\∀ a,a∈zs->P a) (oK p n)
 | 0=>.ret ⟨rfl,fun a h=>by cases h⟩
 | n+1=>h.bind fun a ha=>(Dc h n).bind fun zs has=>.ret ⟨by simp [has.1],fun x hx=>by
  rcases iO.1 hx with rfl|hx
  .exact ha
  .exact has.2 x hx⟩
def Wd {α:Type} {P:α->Prop} {p:Pg α} (h:Pg.Post P p) {B:Nat} (hB:Pg.Le p B):∀ n,Pg.Le (oK p n) (n*B)
 | 0=>.ret
 | n+1=>Pg.dV.bind h hB (m:=n*B) (fun a _=>Pg.dV.bind (Dc h n) (Wd h hB n) (m:=0) (fun _ _=>.ret) ah) (by rw [vY];omega)
def EU:Pg av:=ET.bind fun x=>.ret ⟨1,0,x,[],[]⟩
def Kh:Pg av:=(kr 7).bind fun r=>bif r==0 then Zy.bind fun x=>.ret ⟨2,0,x,[],[]⟩ else bif r==1 then Zz.bind fun x=>.ret ⟨3,0,x,[],[]⟩ else bif r==2 then (Al 2).bind fun o=>bif o then ZA.bind fun x=>.ret ⟨4,0,x,[],[]⟩ else EU else EU
def zA (e1 e2:Pg av):Pg av:=(kr 4).bind fun r=>bif r==0 then ET.bind fun x=>e1.bind fun t=>.ret ⟨5,0,x,[],[t]⟩ else bif r==1 then e2.bind fun t=>.ret ⟨6,0,[],[],[t]⟩ else EU
def zB (lo hi:Int) (e:Pg av):Pg (List av):=(kr<|hi - lo+1).bind fun r=>oK e (lo+r).toNat
def Ra (e1 e2 e3:Pg av) (r:Int) (y:Bool):Pg av:=bif y then (BJ [56,55,61]).bind fun o=>e1.bind fun t=>.ret ⟨11,o,[],[],[t]⟩ else bif r==9 then ET.bind fun x=>(zB 1 2 e1).bind fun ts=>.ret ⟨13,0,x,[],ts⟩ else bif r==10 then e1.bind fun t=>e1.bind fun u=>e1.bind fun v=>.ret ⟨14,0,[],[],[t,u,v]⟩ else bif r==11 then (BJ [54,38,43]).bind fun o=>(zA e2 e3).bind fun t=>e1.bind fun u=>.ret ⟨15,o,[],[],[t,u]⟩ else ZB.bind fun o=>e1.bind fun t=>e1.bind fun u=>.ret ⟨12,o,[],[],[t,u]⟩
def Wh (e1 e2 e3:Pg av):Pg av:=(kr 2).bind fun a=>(kr 16).bind fun r=>bif r==0 then Kh else bif r==1 then zA e1 e2 else bif r==2 then e1.bind fun t=>.ret ⟨6,0,[],[],[t]⟩ else bif r==3 then ET.bind fun x=>(zB 0 3 e1).bind fun ts=>.ret ⟨7,0,x,[],ts⟩ else bif r==4 then (tK [[108,101,110,103,116,104],[115,117,98,115,116,114],[105,110,100,101,120],[105,110,116],[116,111,117,112,112,101,114]]).bind fun x=>(zB 0 3 e2).bind fun ts=>.ret ⟨8,0,x,[],ts⟩ else bif r==5 then (zA e2 e3).bind fun t=>.ret ⟨9,51+a,[],[],[t]⟩ else bif r==6 then (zA e2 e3).bind fun t=>.ret ⟨10,51+a,[],[],[t]⟩ else bif r==7 then Ra e1 e2 e3 r (r==7) else Ra e1 e2 e3 r (r==8)
def Ki:Nat->Pg av×Pg av×Pg av
 | 0=>(Kh,Kh,Kh)
 | d+1=>(Wh (Ki d).1 (Ki d).2.1 (Ki d).2.2,(Ki d).1,(Ki d).2.1)
def fJ (d:Nat):Pg av:=(Ki d).1
def arT:∀ d,(Ki d).2.1=fJ (d - 1)
 | 0=>rfl
 | d+1=>rfl
def arU:∀ d,(Ki d).2.2=fJ (d - 2)
 | 0=>rfl
 | 1=>rfl
 | d+2=>rfl
def adQ (d:Nat):fJ (d+1)=Wh (fJ d) (fJ<|d - 1) (fJ<|d - 2):=by
 rw [<- arT,<- arU];rfl
def yw (d:Nat):Nat:=if d=0 then 1 else d+2
def eb:Nat->Nat
 | 0=>3
 | d+1=>3*eb d+4
def Rb {a c:Nat} (h:a<=c):eb a<=eb c:=by
 induction c with
 | zero=>rw [show a=0 by omega];exact dX _
 | succ c ih=>
  by_cases e:a=c+1
  .rw [e];exact dX _
  .have:=ih ah;rw [eb];omega
def Df {a c:Nat} (h:a<=c):pw a<=pw c:=by
 induction c with
 | zero=>rw [show a=0 by omega];exact dX _
 | succ c ih=>
  by_cases e:a=c+1
  .rw [e];exact dX _
  .have:=ih ah;rw [pw];omega
def iX:Sh ([]:List UInt8):=aA
def Ns:Pg.Post (Gd 1 1) EU:=oJ.bind fun x hx=>.ret (Gd.mk hx iX (by simp [aT]) (by simp [jg]) fun t ht=>by cases ht)
def ZE:Pg.Le EU 1:=Pg.dV.bind oJ Nq (m:=0) (fun _ _=>.ret) ah
def gU {α:Type} {P:α->Prop} {c:Bool} {p q:Pg α} (hp:Pg.Post P p) (hq:Pg.Post P q):Pg.Post P (bif c then p else q):=by cases c<;>assumption
def leB {α:Type} {n:Nat} {c:Bool} {p q:Pg α} (hp:Pg.Le p n) (hq:Pg.Le q n):Pg.Le (bif c then p else q) n:=by cases c<;>assumption
def adR {p:Pg (List UInt8)} (h:Pg.Post Sh p) (k:Int):Pg.Post (Gd 1 1) (p.bind fun x=>.ret ⟨k,0,x,[],[]⟩):=h.bind fun x hx=>.ret (Gd.mk hx iX (by simp [aT]) (by simp [jg]) fun t ht=>by cases ht)
def ajw:Pg.Post (Gd 1 1) Kh:=(eD 7).bind fun r _=>gU (adR adM 2) (gU (adR adN 3)<|gU ((rX 2).bind fun o _=>gU (adR adO 4) Ns) Ns)
def jv {α β:Type} {P:α->Prop} {p:Pg α} {f:α->β} {n:Nat} (hp:Pg.Post P p) (h:Pg.Le p n):Pg.Le (p.bind fun a=>.ret<|f a) n:=Pg.dV.bind hp h (m:=0) (fun _ _=>.ret) ah
def ajx:Pg.Le Kh 3:=Pg.dV.bind (eD 7) (below_le 7 ah) (m:=2) (fun r _=>leB ((jv adM arJ).mono ah)<|leB ((jv adN arK).mono ah)<|leB (Pg.dV.bind (rX 2) (QX 2 ah) (m:=1) (fun o _=>leB (jv adO arL) ZE) ah)<|ZE.mono ah) ah
def adS {e1 e2:Pg av} {m d:Nat} (h1:Pg.Post (Gd m d) e1) (h2:Pg.Post (Gd m d) e2) (hm:1<=m):Pg.Post (Gd (m+1)<|d+1) (zA e1 e2):=by
 refine (eD 4).bind fun r _=>gU (oJ.bind fun x hx=>h1.bind fun t ht=>.ret ?_) (gU (h2.bind fun t ht=>.ret ?_)<|Ns.imp fun t ht=>ht.mono ah ah)
 .exact Gd.mk hx iX (by have:=ht.1;simp only [aT];omega) (by have:=ht.2.1;simp only [jg];omega) fun t' ht'=>by rw [vW.1 ht'];exact ht.2.2
 .exact Gd.mk iX iX (by have:=ht.1;simp only [aT];omega) (by have:=ht.2.1;simp only [jg];omega) fun t' ht'=>by rw [vW.1 ht'];exact ht.2.2
def ZF {e1 e2:Pg av} {P Q:av->Prop} {n:Nat} (h1:Pg.Post P e1) (h2:Pg.Post Q e2) (g1:Pg.Le e1 n) (g2:Pg.Le e2 n):Pg.Le (zA e1 e2) (n+2):=
 Pg.dV.bind (eD 4) (below_le 4 ah) (m:=n+1) (fun r _=>leB (Pg.dV.bind oJ Nq (m:=n) (fun x _=>jv h1 g1) ah)<|leB ((jv h2 g2).mono ah)<|ZE.mono ah) ah
def BK {e:Pg av} {m d:Nat} (h:Pg.Post (Gd m d) e) (lo hi:Nat) (hl:lo<=hi):Pg.Post (fun ts=>lo<=ts.length/\ts.length<=hi/\aT ts<=hi*m/\jg ts<=d/\∀ t,t∈ts->Nr t) (zB (lo:Int) (hi:Int) e):=by
 refine (eD _).bind fun r hr=>(Dc h _).imp fun ts hts=>?_;obtain ⟨g1,g2,g3⟩:=VZ hts.2;have hlen:ts.length<=hi:=by rw [hts.1];omega
 exact ⟨by rw [hts.1];omega,hlen,Aj g1<|vZ m hlen,g2,g3⟩
def Rc {e:Pg av} {P:av->Prop} {n:Nat} (h:Pg.Post P e) (g:Pg.Le e n) (lo hi:Nat) (hl:lo<=hi) (hh:hi<=250):Pg.Le (zB (lo:Int) (hi:Int) e) (hi*n+1):=
 Pg.dV.bind (eD _) (below_le _ ah) (m:=hi*n) (fun r hr=>(Wd h g _).mono<|vZ n ah) ah
def mk1 {m d m' d':Nat} {k o:Int} {x:List UInt8} (hx:Sh x) {t:av} (ht:Gd m d t) (hm:m+1<=m') (hd:d+1<=d'):Gd m' d' ⟨k,o,x,[],[t]⟩:=
 Gd.mk hx iX (by have:=ht.1;simp only [aT];omega) (by have:=ht.2.1;simp only [jg];omega) fun t' ht'=>by rw [vW.1 ht'];exact ht.2.2
def mk2 {m d m2 d2 m' d':Nat} {k o:Int} {x:List UInt8} (hx:Sh x) {t u:av} (ht:Gd m d t) (hu:Gd m2 d2 u) (hm:m+m2+1<=m') (hd:d+1<=d'/\d2+1<=d'):Gd m' d' ⟨k,o,x,[],[t,u]⟩:=
 Gd.mk hx iX (by have:=ht.1;have:=hu.1;simp only [aT];omega) (by have:=ht.2.1;have:=hu.2.1;simp only [jg];omega) fun t' ht'=>by
  simp only [iO,Nt,Nu] at ht';rcases ht' with rfl|rfl
  .exact ht.2.2
  .exact hu.2.2
def mk3 {m d m2 d2 m3 d3 m' d':Nat} {k o:Int} {x:List UInt8} (hx:Sh x) {t u v:av} (ht:Gd m d t) (hu:Gd m2 d2 u) (hv:Gd m3 d3 v) (hm:m+m2+m3+1<=m') (hd:d+1<=d'/\d2+1<=d'/\d3+1<=d'):Gd m' d' ⟨k,o,x,[],[t,u,v]⟩:=
 Gd.mk hx iX (by have:=ht.1;have:=hu.1;have:=hv.1;simp only [aT];omega) (by have:=ht.2.1;have:=hu.2.1;have:=hv.2.1;simp only [jg];omega) fun t' ht'=>by
  simp only [iO,Nt,Nu] at ht';rcases ht' with rfl|rfl|rfl
  .exact ht.2.2
  .exact hu.2.2
  .exact hv.2.2
def Rf {m d m' d' n lo:Nat} {k o:Int} {x:List UInt8} (hx:Sh x) {ts:List av} (h:lo<=ts.length/\ts.length<=n/\aT ts<=n*m/\jg ts<=d/\∀ t,t∈ts->Nr t) (hm:n*m+1<=m') (hd:d+1<=d'):Gd m' d' ⟨k,o,x,[],ts⟩:=
 Gd.mk hx iX (by have:=h.2.2.1;omega) (by have:=h.2.2.2.1;omega) h.2.2.2.2
def ajy {e1 e2 e3:Pg av} {m d d2 D:Nat} (h1:Pg.Post (Gd m d) e1) (h2:Pg.Post (Gd m d2) e2) (h3:Pg.Post (Gd m d2) e3) (hm:1<=m) (w1:d+1<=D) (w2:d2+2<=D):Pg.Post (Gd (4*m) D) (Wh e1 e2 e3):=by
 have hlv:Pg.Post (Gd (m+1)<|d2+1) (zA e2 e3):=adS h2 h3 hm;have hlv1:Pg.Post (Gd (m+1) D) (zA e1 e2):=by
  obtain ⟨k,rfl⟩:∃ k,D=k+1:=⟨D - 1,ah⟩
  exact adS (h1.imp fun t ht=>ht.mono ah ah) (h2.imp fun t ht=>ht.mono ah ah) hm
 have hK:∀ r y,Pg.Post (Gd (4*m) D) (Ra e1 e2 e3 r y):=fun r y=>by
  refine gU ?_ (gU ?_ (gU ?_ (gU ?_ ?_)))
  .exact (QY (P:=fun _=>True) _ aJ fun _ _=>trivial).bind fun o _=>h1.bind fun t ht=>.ret (mk1 iX ht ah ah)
  .exact oJ.bind fun x hx=>(BK h1 1 2 ah).bind fun ts hts=>.ret (Rf hx hts ah ah)
  .exact h1.bind fun t ht=>h1.bind fun u hu=>h1.bind fun v hv=>.ret (mk3 iX ht hu hv ah ah)
  .exact (QY (P:=fun _=>True) _ aJ fun _ _=>trivial).bind fun o _=>hlv.bind fun t ht=>h1.bind fun u hu=>.ret (mk2 iX ht hu ah ah)
  .exact adP.bind fun o _=>h1.bind fun t ht=>h1.bind fun u hu=>.ret (mk2 iX ht hu ah ah)
 refine (eD 2).bind fun a _=>(eD 16).bind fun r _=>gU (ajw.imp fun t ht=>ht.mono ah ah) (gU (hlv1.imp fun t ht=>ht.mono ah ah)<|gU ?_ (gU ?_ (gU ?_ (gU ?_ (gU ?_ (gU (hK _ _)<|hK _ _))))))
 .exact h1.bind fun t ht=>.ret (mk1 iX ht ah ah)
 .exact oJ.bind fun x hx=>(BK h1 0 3 ah).bind fun ts hts=>.ret (Rf hx hts ah ah)
 .exact (tL _ aJ aJ).bind fun x hx=>(BK h2 0 3 ah).bind fun ts hts=>.ret (Rf hx hts ah ah)
 .exact hlv.bind fun t ht=>.ret (mk1 iX ht ah ah)
 .exact hlv.bind fun t ht=>.ret (mk1 iX ht ah ah)
def arV {e1 e2 e3:Pg av} {P Q R:av->Prop} {n:Nat} (h1:Pg.Post P e1) (h2:Pg.Post Q e2) (h3:Pg.Post R e3) (g1:Pg.Le e1 n) (g2:Pg.Le e2 n) (g3:Pg.Le e3 n) (hn:3<=n):Pg.Le (Wh e1 e2 e3) (3*n+4):=by
 have tr:∀ {α:Type} {p:Pg α} {P:α->Prop},Pg.Post P p->Pg.Post (fun _=>True) p:=fun h=>h.imp fun _ _=>trivial;have lvT:Pg.Post (fun _=>True) (zA e2 e3):=(eD 4).bind fun r _=>gU (oJ.bind fun x _=>h2.bind fun t _=>.ret trivial) (gU (h3.bind fun t _=>.ret trivial)<|tr Ns);have lT:∀ lo hi:Int,∀ e:Pg av,Pg.Post (fun _=>True) e->Pg.Post (fun _=>True) (zB lo hi e):=fun lo hi e he=>(eD _).bind fun r _=>tr (Dc he _);have pI:∀ l:List Int,0 < l.length->Pg.Post (fun _=>True) (BJ l):=fun l hl=>QY l hl fun _ _=>trivial;have hK:∀ r y,Pg.Le (Ra e1 e2 e3 r y) (3*n+2):=fun r y=>by
  refine leB ?_ (leB ?_ (leB ?_ (leB ?_ ?_)))
  .exact Pg.dV.bind (pI _ aJ) (VW _ aJ) (m:=n) (fun o _=>jv h1 g1) ah
  .exact Pg.dV.bind oJ Nq (m:=2*n+1) (fun x _=>jv (lT 1 2 e1<|tr h1)<|Rc h1 g1 1 2 ah ah) ah
  .exact Pg.dV.bind h1 g1 (m:=2*n) (fun t _=>Pg.dV.bind h1 g1 (m:=n) (fun u _=>jv h1 g1) ah) ah
  .exact Pg.dV.bind (pI _ aJ) (VW _ aJ) (m:=2*n+2) (fun o _=>Pg.dV.bind lvT (ZF h2 h3 g2 g3) (m:=n) (fun t _=>jv h1 g1) ah) ah
  .exact Pg.dV.bind adP arM (m:=2*n) (fun o _=>Pg.dV.bind h1 g1 (m:=n) (fun t _=>jv h1 g1) ah) ah
 refine Pg.dV.bind (eD 2) (below_le 2 ah) (m:=3*n+3) (fun a _=>Pg.dV.bind (eD 16) (below_le 16 ah) (m:=3*n+2) (fun r _=>leB (ajx.mono ah)<|leB ((ZF h1 h2 g1 g2).mono ah)<|leB ((jv h1 g1).mono ah)<|leB ?_ (leB ?_ (leB ((jv lvT<|ZF h2 h3 g2 g3).mono ah)<|leB ((jv lvT<|ZF h2 h3 g2 g3).mono ah)<|leB (hK _ _)<|hK _ _))) ah) ah
 .exact Pg.dV.bind oJ Nq (m:=3*n+1) (fun x _=>jv (lT 0 3 e1<|tr h1)<|Rc h1 g1 0 3 ah ah) ah
 .exact Pg.dV.bind (tL _ aJ aJ) (Hg _ aJ) (m:=3*n+1) (fun x _=>jv (lT 0 3 e2<|tr h2)<|Rc h2 g2 0 3 ah ah) ah
def ku:∀ d,Pg.Post (Gd (pw d)<|yw d) (fJ d):=by
 intro d;induction d using Nat.strongRecOn with
 | _ d ih=>
  cases d with
  | zero=>exact ajw
  | succ d=>
   rw [adQ];have hp:=adH d;have a:=ih d ah;have b:=ih (d - 1) ah;have c:=ih (d - 2) ah;have b':Pg.Post (Gd (pw d)<|yw<|d - 1) (fJ<|d - 1):=b.imp fun t ht=>ht.mono (Df ah) ah;have c':Pg.Post (Gd (pw d)<|yw<|d - 2) (fJ<|d - 2):=c.imp fun t ht=>ht.mono (Df ah) ah;have e4:pw (d+1)=4*pw d:=by rw [pw]
   rw [e4];by_cases h0:d=0
   .subst h0;exact ajy (d:=1) (d2:=1) a b c ah aJ aJ
   .have hd:yw d=d+2:=by unfold yw;rw [bI h0]
    have hd1:yw (d+1)=d+3:=by unfold yw;rw [bI ah]
    have hd2:yw (d - 1)<=d+1:=by unfold yw;split<;>omega
    have hd3:yw (d - 2)<=d+1:=by unfold yw;split<;>omega
    rw [hd] at a;rw [hd1];exact ajy (d2:=d+1) a (b'.imp fun t ht=>ht.mono ah ah) (c'.imp fun t ht=>ht.mono ah ah) ah ah ah
def Nv:∀ d,Pg.Le (fJ d) (eb d):=by
 intro d;induction d using Nat.strongRecOn with
 | _ d ih=>
  cases d with
  | zero=>exact ajx
  | succ d=>
   rw [adQ];have h3:3<=eb d:=by have:=Rb (a:=0) (c:=d) ah;rw [eb] at this;exact this
   exact arV (ku d) (ku<|d - 1) (ku<|d - 2) (ih d ah) ((ih (d - 1) ah).mono<|Rb ah) ((ih (d - 2) ah).mono<|Rb ah) h3
section
set_option linter.unusedSectionVars false
variable (b:List UInt8) (hb:b.length<=1048576)
include hb
theorem ajz (i:Nat) (h:Int) (hi:i<=b.length):Sm b EU (bX 0) i h (Tj b ((i:Int),h)):=Sm.bind hi oJ (Ho b hb i h hi) fun x i h _ hi=>Sm.ret
theorem ajA (i:Nat) (h:Int) (hi:i<=b.length):Sm b Kh (bX 0) i h (Pk b (i:Int) h):=by
 unfold Pk Kh;refine Sm.bind hi (eD 7) (uO b hb 7 i h hi) fun r i h _ hi=>?_;dsimp only;refine Sm.cond (fun _=>Sm.bind hi adM (arN b hb i h hi) fun x i h _ hi=>Sm.ret) fun _=>Sm.cond (fun _=>Sm.bind hi adN (arO b hb i h hi) fun x i h _ hi=>Sm.ret) fun _=>Sm.cond (fun _=>?_) fun _=>ajz b hb i h hi;refine Sm.bind hi (rX 2) (QZ b hb 2 i h hi) fun o i h _ hi=>?_;dsimp only;exact Sm.cond (fun _=>Sm.bind hi adO (arP b hb i h hi) fun x i h _ hi=>Sm.ret) fun _=>ajz b hb i h hi
theorem kU {α:Type} {N:Nat} (hN:1048577 < N) (k o:Int) (x y:List UInt8) (ts:List av) (hs:aT ts<=900000) (i:Nat) (h:Int):Sm b (.ret (⟨k,o,x,y,ts⟩:av)) (bX 0) i h ((iH N ⟨k,o,x,y,[]⟩<|ts.map<|bX 0).bind fun r=>some (r,(i:Int),h)):=by
 rw [ajB N ⟨k,o,x,y,[]⟩ ts hN hs,aB];exact Sm.ret
def XS (N d:Nat):Prop:=∀ (deep:Int) (i:Nat) (h:Int),deep.toNat=d-> -1000<=deep->deep<=1000->i<=b.length->Sm b (fJ d) (bX 0) i h ((qc N).eP deep b (i:Int) h)
theorem ajC {N d:Nat} (hN:1048577 < N) (hd:d<=6) (h1:XS b N (d - 1)) (h2:XS b N (d - 2)) (deep:Int) (i:Nat) (h:Int) (hdp:deep.toNat=d) (g1: -900<=deep) (hi:i<=b.length):Sm b (zA (fJ<|d - 1)<|fJ<|d - 2) (bX 0) i h ((qc<|N+1).xM deep b (i:Int) h):=by
 have z1:pw (d - 1)<=4096:=Df (a:=d - 1) (c:=6) ah;have z2:pw (d - 2)<=4096:=Df (a:=d - 2) (c:=6) ah;show Sm b _ _ i h (Tt N (qc N) deep b (i:Int) h);unfold Tt zA;refine Sm.bind hi (eD 4) (uO b hb 4 i h hi) fun r i h _ hi=>?_;dsimp only;refine Sm.cond (fun _=>?_) fun _=>Sm.cond (fun _=>?_) fun _=>Sm.bind hi oJ (Ho b hb i h hi) fun x i h _ hi=>Sm.ret
 .refine Sm.bind hi oJ (Ho b hb i h hi) fun x i h _ hi=>?_;dsimp only;rw [wrap64 (n:=deep - 1) ah ah];refine Sm.bind hi (ku<|d - 1) (h1 (deep - 1) i h ah ah ah hi) fun t i h ht hi=>?_;exact kU (α:=Unit) b hb hN 5 0 x [] [t] (by have:=ht.1;simp only [aT];omega) i h
 .rw [wrap64 (n:=deep - 2) ah ah];refine Sm.bind hi (ku<|d - 2) (h2 (deep - 2) i h ah ah ah hi) fun t i h ht hi=>?_;exact kU (α:=Unit) b hb hN 6 0 [] [] [t] (by have:=ht.1;simp only [aT];omega) i h
theorem arW {N d:Nat} (hX:XS b N d) (deep:Int) (hdp:deep.toNat=d) (g1: -900<=deep) (g2:deep<=900):∀ (n c:Nat) (i:Nat) (h:Int) (acc:List (List aD)),c < n->acc.length+c<=100->i<=b.length->
  Sm b (oK (fJ d) c) (fun ts=>acc++ts.map (bX 0)) i h (Li N (qc N) b n (deep,(c:Int),(i:Int),h,acc)):=by
 intro n;induction n with
 | zero=>intro c i h acc hc;omega
 | succ n ih=>
  intro c i h acc hc ha hi;rw [Li];cases c with
  | zero=>
   have:decide (((0:Nat):Int) > 0)=false:=rfl;rw [this,aI];show _=some (acc++[].map (bX 0),_,_);rw [zC,pJ];rfl
  | succ c=>
   have:decide (((c+1:Nat):Int) > 0)=true:=kL ah;rw [this,aO,oK];refine Sm.bind hi (ku d) (hX deep i h hdp ah ah hi) fun t i h ht hi=>?_;dsimp only;rw [pz bE,aB,wrap64 ah ah,show ((c+1:Nat):Int) - 1=(c:Int) by omega];have:=ih c i h (acc++[bX 0 t]) ah bE hi;unfold Sm at this ⊢;rw [this,Pg.run_bind];simp [Pg.run]
theorem ZG {N d:Nat} (hN:200 < N) (hX:XS b N d) (lo hi':Nat) (hl:lo<=hi') (hh:hi'<=90) (deep:Int) (hdp:deep.toNat=d) (g1: -900<=deep) (g2:deep<=900) (i:Nat) (h:Int) (hi:i<=b.length):
  Sm b (zB (lo:Int) (hi':Int)<|fJ d) (fun ts=>ts.map<|bX 0) i h ((qc<|N+1).vF (lo:Int) (hi':Int) deep b (i:Int) h):=by
 show Sm b _ _ i h (Tq N (qc N) (lo:Int) (hi':Int) deep b (i:Int) h);unfold Tq zB;rw [wrap64 (n:=(hi':Int) - lo) ah ah,wrap64 (n:=(hi':Int) - lo+1) ah ah];refine Sm.bind hi (eD _) (uO b hb _ i h hi) fun r i h hr hi=>?_;dsimp only;obtain ⟨c,rfl⟩:=qJ hr.1;have hc:c<=hi' - lo:=by rcases hr.2 with h|h<;>omega
 rw [wrap64 ah ah,show (lo:Int)+(c:Int)=((lo+c:Nat):Int) by omega,BL];have:=arW b hb hX deep hdp g1 g2 N (lo+c) i h [] ah bE hi;exact this
theorem arX {N:Nat} (hN:1<=N):XS b N 0:=by
 intro deep i h hd h1 h2 hi;obtain ⟨N,rfl⟩:∃ m,N=m+1:=⟨N - 1,ah⟩
 show Sm b _ _ i h (Lj N (qc N) deep b (i:Int) h);unfold Lj;have:decide (deep<=0)=true:=kL ah;rw [this,aO];exact BI (ajA b hb i h hi)
theorem arY {N d:Nat} (hN:1048577 < N) (hdd:d<=5) (hA:∀ e,e<=d->XS b (N+1) e) (hB:∀ e,e<=d->XS b N e):XS b (N+1+1) (d+1):=by
 intro deep i h hd g1 g2 hi;have hp:=adH d;have hpb:pw d<=4096:=Df (a:=d) (c:=6) ah;have aFz:pw (d - 1)<=4096:=Df (a:=d - 1) (c:=6) ah;have aFA:pw (d - 2)<=4096:=Df (a:=d - 2) (c:=6) ah;have w1:IntKind.wrap .i64 (deep - 1)=deep - 1:=wrap64 ah ah;have w2:IntKind.wrap .i64 (deep - 2)=deep - 2:=wrap64 ah ah;show Sm b _ _ i h (Lj (N+1) (qc<|N+1) deep b (i:Int) h);rw [adQ];unfold Lj Wh;have:decide (deep<=0)=false:=tH ah;rw [this,aI];have e1:∀ (i:Nat) h,i<=b.length->Sm b (fJ d) (bX 0) i h ((qc<|N+1).eP (deep - 1) b (i:Int) h):=fun i h hi=>hA d ah (deep - 1) i h ah ah ah hi;have lv0:∀ (i:Nat) h,i<=b.length->Sm b (zA (fJ d)<|fJ<|d - 1) (bX 0) i h ((qc<|N+1).xM deep b (i:Int) h):=fun i h hi=>by
  have:=ajC b hb (d:=d+1) hN ah (by rw [ajD];exact hB d ah) (hB (d+1 - 2) ah) deep i h hd ah hi;rw [ajD,show d+1 - 2=d - 1 by omega] at this;exact this
 have lv1:∀ (i:Nat) h,i<=b.length->Sm b (zA (fJ<|d - 1)<|fJ<|d - 2) (bX 0) i h ((qc<|N+1).xM (deep - 1) b (i:Int) h):=fun i h hi=>
  ajC b hb (d:=d) hN ah (hB (d - 1) ah) (hB (d - 2) ah) (deep - 1) i h ah ah hi
 have Wi:∃ m D,m<=5000/\Pg.Post (Gd m D) (zA (fJ<|d - 1)<|fJ<|d - 2):=⟨pw d+1,yw (d - 1)+yw (d - 2)+1,ah,adS ((ku<|d - 1).imp fun t ht=>ht.mono (Df ah) ah) ((ku<|d - 2).imp fun t ht=>ht.mono (Df ah) ah) ah⟩
 obtain ⟨ml,dl,hml,Wi⟩:=Wi;have pI:∀ l:List Int,0 < l.length->Pg.Post (fun _=>True) (BJ l):=fun l hl=>QY l hl fun _ _=>trivial;refine Sm.bind hi (eD 2) (uO b hb 2 i h hi) fun a i h ha hi=>?_;dsimp only;refine Sm.bind hi (eD 16) (uO b hb 16 i h hi) fun r i h hr hi=>?_;dsimp only;have wa:IntKind.wrap .i64 (51+a)=51+a:=wrap64 ah ah;rw [wa];have hK:∀ y:Bool,Sm b (Ra (fJ d) (fJ<|d - 1) (fJ<|d - 2) r y) (bX 0) i h (Pn (N+1) (qc<|N+1) b (deep,(r,(i:Int),h),y)):=fun y=>by
  unfold Pn Ra;dsimp only;rw [w1];refine Sm.cond (fun _=>?_) fun _=>Sm.cond (fun _=>?_) fun _=>Sm.cond (fun _=>?_) fun _=>Sm.cond (fun _=>?_) fun _=>?_
  .refine Sm.bind hi (pI _ aJ) (VY b hb _ aJ i h hi) fun o i h _ hi=>?_;dsimp only;refine Sm.bind hi (ku d) (e1 i h hi) fun t i h ht hi=>?_;exact kU (α:=Unit) b hb ah 11 o [] [] [t] (by have:=ht.1;simp only [aT];omega) i h
  .refine Sm.bind hi oJ (Ho b hb i h hi) fun x i h _ hi=>?_;dsimp only;refine Sm.bind hi (BK (ku d) 1 2 ah) (ZG b hb (N:=N) ah (hB d ah) 1 2 ah ah (deep - 1) ah ah ah i h hi) fun ts i h hts hi=>?_;exact kU (α:=Unit) b hb ah 13 0 x [] ts (by have:=hts.2.2.1;omega) i h
  .refine Sm.bind hi (ku d) (e1 i h hi) fun t i h ht hi=>?_;dsimp only;refine Sm.bind hi (ku d) (e1 i h hi) fun u i h hu hi=>?_;dsimp only;refine Sm.bind hi (ku d) (e1 i h hi) fun v i h hv hi=>?_;exact kU (α:=Unit) b hb ah 14 0 [] [] [t,u,v] (by have:=ht.1;have:=hu.1;have:=hv.1;simp only [aT];omega) i h
  .refine Sm.bind hi (pI _ aJ) (VY b hb _ aJ i h hi) fun o i h _ hi=>?_;dsimp only;refine Sm.bind hi Wi (lv1 i h hi) fun t i h ht hi=>?_;dsimp only;refine Sm.bind hi (ku d) (e1 i h hi) fun u i h hu hi=>?_;exact kU (α:=Unit) b hb ah 15 o [] [] [t,u] (by have:=ht.1;have:=hu.1;simp only [aT];omega) i h
  .refine Sm.bind hi adP (arQ b hb i h hi) fun o i h _ hi=>?_;dsimp only;refine Sm.bind hi (ku d) (e1 i h hi) fun t i h ht hi=>?_;dsimp only;refine Sm.bind hi (ku d) (e1 i h hi) fun u i h hu hi=>?_;exact kU (α:=Unit) b hb ah 12 o [] [] [t,u] (by have:=ht.1;have:=hu.1;simp only [aT];omega) i h
 refine Sm.cond (fun _=>BI<|ajA b hb i h hi) fun _=>Sm.cond (fun _=>BI<|lv0 i h hi) fun _=>Sm.cond (fun _=>?_) fun _=>Sm.cond (fun _=>?_) fun _=>Sm.cond (fun _=>?_) fun _=>Sm.cond (fun _=>?_) fun _=>Sm.cond (fun _=>?_) fun _=>Sm.cond (fun _=>hK _) fun _=>hK _
 .rw [w1];refine Sm.bind hi (ku d) (e1 i h hi) fun t i h ht hi=>?_;exact kU (α:=Unit) b hb ah 6 0 [] [] [t] (by have:=ht.1;simp only [aT];omega) i h
 .refine Sm.bind hi oJ (Ho b hb i h hi) fun x i h _ hi=>?_;dsimp only;rw [w1];refine Sm.bind hi (BK (ku d) 0 3 ah) (ZG b hb (N:=N) ah (hB d ah) 0 3 ah ah (deep - 1) ah ah ah i h hi) fun ts i h hts hi=>?_;exact kU (α:=Unit) b hb ah 7 0 x [] ts (by have:=hts.2.2.1;omega) i h
 .refine Sm.bind hi (tL _ aJ aJ) (Hl b hb _ aJ i h hi) fun x i h _ hi=>?_;dsimp only;rw [w2];refine Sm.bind hi (BK (ku<|d - 1) 0 3 ah) (ZG b hb (N:=N) ah (hB (d - 1) ah) 0 3 ah ah (deep - 2) ah ah ah i h hi) fun ts i h hts hi=>?_;exact kU (α:=Unit) b hb ah 8 0 x [] ts (by have:=hts.2.2.1;omega) i h
 .rw [w1];refine Sm.bind hi Wi (lv1 i h hi) fun t i h ht hi=>?_;exact kU (α:=Unit) b hb ah 9 (51+a) [] [] [t] (by have:=ht.1;simp only [aT];omega) i h
 .rw [w1];refine Sm.bind hi Wi (lv1 i h hi) fun t i h ht hi=>?_;exact kU (α:=Unit) b hb ah 10 (51+a) [] [] [t] (by have:=ht.1;simp only [aT];omega) i h
theorem xs_all:∀ (d N:Nat),d<=6->1048580+3*d<=N->XS b N d:=by
 intro d;induction d using Nat.strongRecOn with
 | _ d ih=>
  intro N hd hN;cases d with
  | zero=>exact arX b hb ah
  | succ d=>
   obtain ⟨N,rfl⟩:∃ m,N=m+1+1:=⟨N - 2,ah⟩
   exact arY b hb ah ah (fun e he=>ih e ah (N+1) ah ah) (fun e he=>ih e ah N ah ah)
theorem ajE (N d:Nat) (hd:d<=6) (hN:1048700<=N) (deep:Int) (hdp:deep.toNat=d) (g1: -1000<=deep) (g2:deep<=1000) (i:Nat) (h:Int) (hi:i<=b.length):Sm b (fJ d) (bX 0) i h (eP N deep b (i:Int) h):=xs_all b hb d N hd ah deep i h hdp g1 g2 hi
theorem adV (N d:Nat) (hd:d<=6) (hN:1048700<=N) (lo hi':Nat) (hl:lo<=hi') (hh:hi'<=90) (deep:Int) (hdp:deep.toNat=d) (g1: -900<=deep) (g2:deep<=900) (i:Nat) (h:Int) (hi:i<=b.length):
  Sm b (zB (lo:Int) (hi':Int)<|fJ d) (fun ts=>ts.map<|bX 0) i h (vF N (lo:Int) (hi':Int) deep b (i:Int) h):=by
 obtain ⟨N,rfl⟩:∃ m,N=m+1:=⟨N - 1,ah⟩
 exact ZG b hb ah (xs_all b hb d N hd ah) lo hi' hl hh deep hdp g1 g2 i h hi
def uP:Pg av:=(kr 4).bind fun r=>fJ (1+r).toNat
def fits (m:Nat) (t:av):Bool:=Nat.ble (aX t) m
omit hb in
theorem asa:Pg.Post (Gd 256 6) uP:=(eD 4).bind fun r hr=>(ku _).imp fun t ht=>ht.mono (Df (a:=(1+r).toNat) (c:=4) ah) (by unfold yw;split<;>omega)
omit hb in
theorem asb:Pg.Le uP 404:=Pg.dV.bind (eD 4) (below_le 4 ah) (m:=403) (fun r hr=>(Nv _).mono<|Rb (a:=(1+r).toNat) (c:=4) ah) ah
theorem asc {N:Nat} (hN:1048700<=N):∀ (n i:Nat) (h:Int),i<=b.length->Lp N b n ((i:Int),h)=(Pg.loop b uP (fits 60) n i h).map fun r=>(bX 0 r.1,(r.2.1:Int),r.2.2):=by
 intro n;induction n with
 | zero=>intro i h hi;rfl
 | succ n ih=>
  intro i h hi;have hs:Sm b uP (bX 0) i h ((jD 4 b (i:Int) h).bind fun r9=>eP N (IntKind.wrap .i64<|1+r9.1) b r9.2.1 r9.2.2):=by
   refine Sm.bind hi (eD 4) (uO b hb 4 i h hi) fun r i h hr hi=>?_;dsimp only;rw [wrap64 ah ah];exact ajE b hb N _ ah hN (1+r) rfl ah ah i h hi
  rw [Lp,Pg.loop];unfold Sm at hs;have e:∀ g:(List aD×Int×Int)->Option (List aD×Int×Int),((jD 4 b (i:Int) h).bind fun r9=>Option.bind (eP N (IntKind.wrap .i64<|1+r9.1) b r9.2.1 r9.2.2) g)=Option.bind ((jD 4 b (i:Int) h).bind fun r9=>eP N (IntKind.wrap .i64<|1+r9.1) b r9.2.1 r9.2.2) g:=fun g=>by
   cases jD 4 b (i:Int) h<;>rfl
  rw [e,hs,aB];dsimp only;have hf:decide (((bX 0 (Pg.run b uP i h).1).length:Int)<=60)=fits 60 (Pg.run b uP i h).1:=by
   rw [AY];unfold fits;cases hc:Nat.ble (aX (Pg.run b uP i h).1) 60 with
   | true=>have:=EW hc;exact kL ah
   | false=>refine tH fun hh=>?_;rw [ajF ah] at hc;cases hc
  rw [hf];cases fits 60 (Pg.run b uP i h).1 with
  | true=>rfl
  | false=>rw [aI,aI];exact ih _ _ (Pg.ER b uP i h hi)
end
end Go.Proofs.Tryz
