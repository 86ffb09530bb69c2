/-
 Plain lemmas on the models, part 6.
-/
import Derived.Test.YtginnhpghngjiaaGreatDoorSpGP5
namespace Go.Proofs.Tryz
open Go.Av
set_option maxRecDepth 100000
set_option linter.all false
def qR (l:List aG) (i:Nat):List UInt8:=(l[i]?.map (·.Text)).getD []
def Il {l:List aG} {i:Nat} (h:i < l.length):qR l i=l[i].Text:=by unfold qR;rw [fB h];rfl
def uZ:aF:=⟨14,false,false,false,false⟩
mutual
inductive gP (l:List aG):aF->Nat->Nat->aC->Bool->Prop
 | par {p:aF} {i j:Nat} {t:aC} {h:Bool}:kd l i=32->i+1 < j->j < l.length->gP l dB (i+1) j t h->kd l j=33->gP l p i (j+1) t true
 | bare {p:aF} {i j:Nat} {t:aC}:jL t.kind t.op p=true->i < j->j<=l.length->iH l p i j t->gP l p i j t false
inductive iH (l:List aG):aF->Nat->Nat->aC->Prop
 | leaf {p:aF} {i:Nat} (k:Int):k=3\/k=4\/k=5->kd l i=k->iH l p i (i+1) ⟨k - 1,0,qR l i,[],[]⟩
 | name {p:aF} {i:Nat}:kd l i=6->iH l p i (i+1) ⟨1,0,qR l i,[],[]⟩
 | index {p:aF} {i j:Nat} {ts:List aC}:kd l i=6->kd l (i+1)=34->i+2 < j->j < l.length->kd l j=35->ts.length<=6->yH l (i+2) j ts->iH l p i (j+1) ⟨5,0,qR l i,[],ts⟩
 | xk {p:aF} {i:Nat} (k:Int):k=7\/k=8->kd l i=k->kd l (i+1)=32->kd l (i+2)=33->iH l p i (i+3) ⟨k,0,qR l i,[],[]⟩
 | call {p:aF} {i j:Nat} {ts:List aC} (k:Int):k=7\/k=8->kd l i=k->kd l (i+1)=32->i+2 < j->j < l.length->kd l j=33->ts.length<=6->yH l (i+2) j ts->iH l p i (j+1) ⟨k,0,qR l i,[],ts⟩
 | len {p:aF} {i:Nat}:kd l i=8->kd l (i+1)≠32->qR l i=[108,101,110,103,116,104]->iH l p i (i+1) ⟨8,0,qR l i,[],[]⟩
 | field {p:aF} {i j:Nat} {t:aC} {h:Bool}:kd l i=68->i+1 < j->gP l ⟨14,true,false,false,false⟩ (i+1) j t h->iH l p i j ⟨6,0,[],[],[t]⟩
 | pre {p:aF} {i j:Nat} {t:aC} (o:Int):o=51\/o=52->kd l i=o->jE t.kind=true->i+1 < j->iH l uZ (i+1) j t->iH l p i j ⟨9,o,[],[],[t]⟩
 | post {p:aF} {i j:Nat} {t:aC} (o:Int):o=51\/o=52->kd l j=o->jE t.kind=true->i < j->iH l uZ i j t->iH l p i (j+1) ⟨10,o,[],[],[t]⟩
 | unary {p:aF} {i j:Nat} {t:aC} {h:Bool} (o:Int):o=55\/o=56\/o=61->kd l i=o->i+1 < j->gP l ⟨11,false,p.aX,p.bg,false⟩ (i+1) j t h->iH l p i j ⟨11,o,[],[],[t]⟩
 | bin {p:aF} {i m f j:Nat} {a b:aC} {h1 h2:Bool} (o:Int):bL o≠0->o≠99->kd l m=o->i < m->f < j->((bL o=3\/bL o=4)/\Ln l (m+1) f\/ ¬(bL o=3\/bL o=4)/\f=m+1)->gP l ⟨(kC o).1,false,p.aX,p.bg,p.eH⟩ i m a h1->gP l ⟨(kC o).2,false,p.aX,p.bg,false⟩ f j b h2->iH l p i j ⟨12,o,[],[],[a,b]⟩
 | cat {p:aF} {i m j:Nat} {a b:aC} {h1 h2:Bool}:i < m->m < j->gP l ⟨8,false,p.aX,p.bg,p.eH⟩ i m a h1->gP l ⟨9,false,p.aX,p.bg,true⟩ m j b h2->iH l p i j ⟨12,99,[],[],[a,b]⟩
 | one {p:aF} {i m:Nat} {t:aC} {h:Bool}:i < m->kd l m=24->kd l (m+1)=6->gP l ⟨5,false,p.aX,p.bg,p.eH⟩ i m t h->iH l p i (m+2) ⟨13,0,qR l<|m+1,[],[t]⟩
 | many {p:aF} {i m:Nat} {ts:List aC}:kd l i=32->i+1 < m->kd l m=33->kd l (m+1)=24->kd l (m+2)=6->2<=ts.length->ts.length<=6->yH l (i+1) m ts->iH l p i (m+3) ⟨13,0,qR l<|m+2,[],ts⟩
 | cond {p:aF} {i m n j:Nat} {a b c:aC} {h1 h2 h3:Bool}:i < m->kd l m=65->m+1 < n->kd l n=66->n+1 < j->gP l ⟨3,false,p.aX,p.bg,p.eH⟩ i m a h1->gP l ⟨2,false,p.aX,p.bg,false⟩ (m+1) n b h2->gP l ⟨2,false,p.aX,p.bg,false⟩ (n+1) j c h3->iH l p i j ⟨14,0,[],[],[a,b,c]⟩
 | assign {p:aF} {i m j:Nat} {a b:aC} {h:Bool} (o:Int):sW o=true->kd l m=o->i < m->m+1 < j->jE a.kind=true->iH l uZ i m a->gP l ⟨1,false,p.aX,p.bg,false⟩ (m+1) j b h->iH l p i j ⟨15,o,[],[],[a,b]⟩
inductive yH (l:List aG):Nat->Nat->List aC->Prop
 | one {i j:Nat} {t:aC} {h:Bool}:i < j->gP l dB i j t h->yH l i j [t]
 | cons {i k f j:Nat} {t u:aC} {ts:List aC} {h:Bool}:i < k->kd l k=36->Ln l (k+1) f->f < j->gP l dB i k t h->yH l f j (u::ts)->yH l i j (t::u::ts)
end
def gP.lt {l:List aG} {p:aF} {i j:Nat} {t:aC} {h:Bool} (d:gP l p i j t h):i < j/\j<=l.length:=by
 cases d with
 | par=>omega
 | bare=>omega
def MG {l:List aG} {m f:Nat} {P:Prop} (h:P/\Ln l (m+1) f\/ ¬P/\f=m+1):m+1<=f:=by
 rcases h with ⟨_,h⟩|⟨_,h⟩
 .exact h.1
 .omega
def sZ {k o:Int} {p:aF} (h:jL k o p=true) (hd:p.nU=false):p.Level<=lv k o:=by
 unfold jL at h;rw [hd] at h;simp only [eu,afu,VY,oo] at h;exact h.2.2.2.2
def gP.lvl {l:List aG} {p:aF} {i j:Nat} {t:aC} {h:Bool} (d:gP l p i j t h) (hd:p.nU=false):h=true\/p.Level<=lv t.kind t.op:=by
 cases d with
 | par=>exact .inl rfl
 | bare hfit=>exact .inr (sZ hfit hd)
def aDA {k o:Int} {p:aF} (h:jL k o p=true) (hs:p.eH=true):k≠11/\k≠9/\k≠4:=by
 unfold jL at h;rw [hs] at h;simp only [eu,Df,pO,KF,aaN] at h;exact h.2.2.2.1
def aDB {k o:Int} {p:aF} (h:jL k o p=true) (hk:k=13):p.aX=false:=by
 unfold jL at h;simp only [eu,pO,alL] at h;rcases h.2.1 with h|h
 .exact h
 .rw [hk] at h;cases h
def aDC {k o:Int} {p:aF} (h:jL k o p=true) (hk:k=12) (ho:o=62):p.bg=false:=by
 unfold jL at h;simp only [eu,pO,alL] at h;rcases h.2.2.1 with h|h
 .exact h
 .rw [hk,ho] at h;rcases h with h|h<;>cases h
def aDD {o:Int} (h:12<=bL o):kC o=(13,11):=by
 have:=MQ o;have e:bL o=12:=ah;unfold kC;rw [e];rfl
def QO {l:List aG} {p:aF} {i j:Nat} {t:aC} (d:iH l p i j t) (h:jE t.kind=true):kd l i=6\/kd l i=68:=by
 cases d with
 | leaf k h1 h2=>rcases h1 with rfl|rfl|rfl<;>cases h
 | name h1=>exact .inl h1
 | index h1=>exact .inl h1
 | xk k h1=>rcases h1 with rfl|rfl<;>cases h
 | call k h1=>rcases h1 with rfl|rfl<;>cases h
 | field h1=>exact .inr h1
 | len|pre|post|unary|bin|cat|one|many|cond|assign=>cases h
def aee (k:Int):Bool:=yG k||(k==5||(k==51||(k==52||(k==55||(k==56||k==61)))))
structure QS (p:aF) (t:aC) (k:Int):Prop where
 o:aee k=true
 s:p.eH=true->t.kind≠11->t.kind≠9->t.kind≠4->yG k=true
 a:12<=lv t.kind t.op->k≠55/\k≠56/\k≠61
 b:14<=lv t.kind t.op->k≠51/\k≠52
 c:15<=lv t.kind t.op->k≠68
structure FsD (p:aF) (t:aC) (h:Bool) (k:Int):Prop where
 o:aee k=true
 s:p.eH=true->yG k=true
 a:h=true\/12<=lv t.kind t.op->k≠55/\k≠56/\k≠61
 b:h=true\/14<=lv t.kind t.op->k≠51/\k≠52
 c:h=true\/15<=lv t.kind t.op->k≠68
def QS.beg {p:aF} {t:aC} {k:Int} (h:yG k=true) (a:12<=lv t.kind t.op->k≠55/\k≠56/\k≠61) (b:14<=lv t.kind t.op->k≠51/\k≠52) (c:15<=lv t.kind t.op->k≠68):QS p t k:=⟨by unfold aee;rw [h];rfl,fun _ _ _ _=>h,a,b,c⟩
def QS.MU {p:aF} {t:aC} {k:Int} (h:k=3\/k=4\/k=6\/k=7\/k=8\/k=32):QS p t k:=by
 rcases h with rfl|rfl|rfl|rfl|rfl|rfl<;>exact .beg rfl (fun _=>aM) (fun _=>aM) (fun _=>aM)
def arA (l:List aG):∀ (n i j:Nat),j - i<=n->(∀ p t,i < j->iH l p i j t->QS p t (kd l i))/\(∀ p t h,gP l p i j t h->FsD p t h (kd l i)):=by
 intro n;induction n with
 | zero=>exact fun i j hn=>⟨fun p t hij=>ah,fun p t h d=>by have:=d.lt;omega⟩
 | succ n ih=>
  intro i j hn;have hN:∀ p t,i < j->iH l p i j t->QS p t (kd l i):=by
   intro p t hij d;cases d with
   | leaf k h1 h2=>
    rw [h2];rcases h1 with rfl|rfl|rfl
    .exact .MU ah
    .exact .MU ah
    .exact ⟨rfl,fun _ _ _ h=>absurd rfl h,fun _=>aM,fun _=>aM,fun _=>aM⟩
   | name h1=>exact .MU ah
   | index h1=>exact .MU ah
   | xk k h1 h2=>exact .MU ah
   | call k h1 h2=>exact .MU ah
   | len h1=>exact .MU ah
   | field h1=>rw [h1];exact .beg rfl (fun _=>aM) (fun _=>aM) (fun h=>absurd h<|by show¬(15:Int)<=14;omega)
   | pre o h1 h2=>
    rw [h2];exact ⟨by rcases h1 with rfl|rfl<;>rfl,fun _ _ h=>absurd rfl h,fun _=>ah,fun h=>absurd h (by show¬(14:Int)<=13;omega),fun h=>absurd h<|by show¬(15:Int)<=13;omega⟩
   | post o h1 h2 h3 h4 h5=>rcases QO h5 h3 with e|e<;>rw [e]<;>exact .beg rfl (fun _=>aM) (fun _=>aM) (fun h=>absurd h<|by show¬(15:Int)<=13;omega)
   | unary o h1 h2=>
    rw [h2];exact ⟨by rcases h1 with rfl|rfl|rfl<;>rfl,fun _ h=>absurd rfl h,fun h=>absurd h (by show¬(12:Int)<=11;omega),fun h=>absurd h (by show¬(14:Int)<=11;omega),fun h=>absurd h<|by show¬(15:Int)<=11;omega⟩
   | bin o h1 h2 h3 h4 h5 h6 h7 h8=>
    have hlt:=h7.lt;have r:=(ih i _ (by have:=MG h6;omega)).2 _ _ _ h7;have ho:=MQ o;refine ⟨r.o,fun hs _ _ _=>r.s hs,fun h=>r.a ?_,fun h=>absurd h (by show¬(14:Int)<=bL o;omega),fun h=>absurd h<|by show¬(15:Int)<=bL o;omega⟩;have h:12<=bL o:=h;cases h7 with
    | par=>exact .inl rfl
    | bare hf=>
     have:=sZ hf rfl;rw [aDD h] at this;exact .inr (by have this:(13:Int)<=_:=this;omega)
   | cat h1 h2 h3 h4=>
    have r:=(ih i _ ah).2 _ _ _ h3;exact ⟨r.o,fun hs _ _ _=>r.s hs,fun h=>absurd h (by show¬(12:Int)<=8;omega),fun h=>absurd h (by show¬(14:Int)<=8;omega),fun h=>absurd h<|by show¬(15:Int)<=8;omega⟩
   | one h1 h2 h3 h4=>
    have r:=(ih i _ ah).2 _ _ _ h4;exact ⟨r.o,fun hs _ _ _=>r.s hs,fun h=>absurd h (by show¬(12:Int)<=5;omega),fun h=>absurd h (by show¬(14:Int)<=5;omega),fun h=>absurd h<|by show¬(15:Int)<=5;omega⟩
   | many h1=>exact .MU ah
   | cond h1 h2 h3 h4 h5 h6=>
    have r:=(ih i _ ah).2 _ _ _ h6;exact ⟨r.o,fun hs _ _ _=>r.s hs,fun h=>absurd h (by show¬(12:Int)<=2;omega),fun h=>absurd h (by show¬(14:Int)<=2;omega),fun h=>absurd h<|by show¬(15:Int)<=2;omega⟩
   | assign o h1 h2 h3 h4 h5 h6=>rcases QO h6 h5 with e|e<;>rw [e]<;>exact .beg rfl (fun _=>aM) (fun _=>aM) (fun h=>absurd h<|by show¬(15:Int)<=1;omega)
  refine ⟨hN,fun p t h d=>?_⟩;cases d with
  | par h1=>rw [h1];exact ⟨rfl,fun _=>rfl,fun _=>aM,fun _=>aM,fun _=>aM⟩
  | bare hf hij _ d=>
   have r:=hN p t hij d;refine ⟨r.o,fun hs=>?_,fun h=>r.a ?_,fun h=>r.b ?_,fun h=>r.c ?_⟩
   .obtain ⟨s1,s2,s3⟩:=aDA hf hs;exact r.s hs s1 s2 s3
   all_goals
    rcases h with h|h
    .cases h
    .exact h
def gP.first {l:List aG} {p:aF} {i j:Nat} {t:aC} {h:Bool} (d:gP l p i j t h):FsD p t h (kd l i):=(arA l (j - i) i j<|eU _).2 p t h d
def iH.first {l:List aG} {p:aF} {i j:Nat} {t:aC} (d:iH l p i j t) (h:i < j):QS p t (kd l i):=(arA l (j - i) i j<|eU _).1 p t h d
def seg (l:List aG) (i j:Nat):List aG:=(l.drop i).take (j - i)
def QT {l:List aG} {i m j:Nat} (h1:i<=m) (h2:m<=j):seg l i j=seg l i m++seg l m j:=by
 unfold seg;have e:j - i=(m - i)+(j - m):=ah;rw [e,List.take_add,RX,show i+(m - i)=m by omega]
def MV {l:List aG} {i:Nat} (h:i < l.length):seg l i (i+1)=[l[i]]:=by
 unfold seg;rw [show i+1 - i=1 by omega,IC h];rfl
def aDE (l:List aG) (i:Nat):seg l i i=[]:=by
 unfold seg;rw [VZ];rfl
def arB {l:List aG} {i j:Nat}:Sg l i (seg l i j):=⟨(l.drop i).drop<|j - i,by unfold seg;rw [List.take_append_drop]⟩
def Bl (l:List aG) (e i j:Nat):Prop:=∀ d y,inn (e+d) (seg l i j++y)=inn (e+d) y
def Bl.nil (l:List aG) (e i:Nat):Bl l e i i:=fun d y=>by rw [aDE,Ai]
def Bl.up {l:List aG} {i j:Nat} (h:Bl l 0 i j) (e:Nat):Bl l e i j:=fun d y=>by
 have:=h (e+d) y;rwa [rZ] at this
def Bl.app {l:List aG} {e i m j:Nat} (h1:i<=m) (h2:m<=j) (a:Bl l e i m) (b:Bl l e m j):Bl l e i j:=fun d y=>by
 rw [QT h1 h2,jP,a d,b d]
def Bl.tok {l:List aG} {i:Nat} (hi:i < l.length) (h:QN (kd l i)=true) (e:Nat):Bl l e i (i+1):=fun d y=>by
 rw [MV hi];exact aDx (by rw [<- Ba hi];exact h) _ _
def aDF {l:List aG} {i:Nat} (hi:i < l.length) (h:kd l i=36):Bl l 1 i (i+1):=fun d y=>by
 rw [MV hi];have hk:l[i].Kind=36:=by rw [<- Ba hi];exact h
 show inn (1+d) (l[i]::y)=_;rw [inn,hk];have:(1+d==0)=false:=aA;rw [this];rfl
def Bl.wrap {l:List aG} {i j:Nat} (hij:i < j) (hj:j < l.length) (ho:mV (kd l i)=true) (hc:nK (kd l j)=true) (h:Bl l 1 (i+1) j):Bl l 0 i (j+1):=fun d y=>by
 have hi:i < l.length:=ah;rw [QT (show i<=i+1 by omega) (show i+1<=j+1 by omega),QT (show i+1<=j by omega) (show j<=j+1 by omega),MV hi,MV hj,jP,jP];show inn (0+d) (l[i]::(seg l (i+1) j++l[j]::y))=_;rw [aDy (by rw [<- Ba hi];exact ho),show 0+d+1=1+d by omega,h d,show 1+d=0+d+1 by omega,aDz<|by rw [<- Ba hj];exact hc]
def Bl.ln {l:List aG} {e:Nat}:∀ (n a f:Nat),f - a<=n->a<=f->f<=l.length->(∀ k,a<=k->k < f->kd l k=1)->Bl l e a f
 | 0,a,f,h,h1,_,_=>by
  have:a=f:=ah;subst this;exact .nil l e a
 | n+1,a,f,h,h1,h2,hk=>by
  by_cases ha:a=f
  .subst ha;exact .nil l e a
  .exact (Bl.tok ah (by rw [hk a ah ah];rfl) e).app ah ah (Bl.ln n (a+1) f ah ah h2 fun k h3 h4=>hk k ah h4)
def arC {k:Int} (h:k≠32/\k≠34/\k≠30/\k≠33/\k≠35/\k≠31/\k≠36):QN k=true:=by
 unfold QN mV nK;obtain ⟨h1,h2,h3,h4,h5,h6,h7⟩:=h;have f:∀ {z:Int},k≠z->(k==z)=false:=fun h=>by simpa using h
 rw [f h1,f h2,f h3,f h4,f h5,f h6,f h7];rfl
def aDG {o:Int} (h:bL o≠0):QN o=true:=by
 refine arC ?_;refine ⟨?_,?_,?_,?_,?_,?_,?_⟩<;>(intro e;subst e;exact h rfl)
def aDH {o:Int} (h:sW o=true):QN o=true:=by
 refine arC ?_;refine ⟨?_,?_,?_,?_,?_,?_,?_⟩<;>(intro e;subst e;cases h)
def ajH {l:List aG} {i:Nat} {k:Int} (h:kd l i=k) (hk:k≠0):i < l.length:=aju (by rw [h];exact hk)
def aDI (l:List aG):∀ (n i j:Nat),j - i<=n->(∀ p t,i < j->j<=l.length->iH l p i j t->Bl l 0 i j)/\(∀ p t h,gP l p i j t h->Bl l 0 i j)/\(∀ ts,j<=l.length->yH l i j ts->Bl l 1 i j):=by
 intro n;induction n with
 | zero=>
  refine fun i j hn=>⟨fun p t hij=>ah,fun p t h d=>by have:=d.lt;omega,fun ts hj d=>?_⟩
  cases d with
  | one h1 h2=>have:=h2.lt;omega
  | cons h1 h2 h3 h4=>have:=h3.1;omega
 | succ n ih=>
  intro i j hn;have hN:∀ p t,i < j->j<=l.length->iH l p i j t->Bl l 0 i j:=by
   intro p t hij hj d;cases d with
   | leaf k h1 h2=>exact .tok ah (by rw [h2];rcases h1 with rfl|rfl|rfl<;>rfl) 0
   | name h1=>exact .tok ah (by rw [h1];rfl) 0
   | index h1 h2 h3 h4 h5 h6 h7=>exact (Bl.tok ah (by rw [h1];rfl) 0).app ah ah (.wrap ah h4 (by rw [h2];rfl) (by rw [h5];rfl)<|(ih (i+2) _ ah).2.2 _ ah h7)
   | xk k h1 h2 h3 h4=>exact (Bl.tok ah (by rw [h2];rcases h1 with rfl|rfl<;>rfl) 0).app ah ah (Bl.wrap (i:=i+1) (j:=i+2) ah ah (by rw [h3];rfl) (by rw [h4];rfl)<|.nil l 1 _)
   | call k h1 h2 h3 h4 h5 h6 h7 h8=>exact (Bl.tok ah (by rw [h2];rcases h1 with rfl|rfl<;>rfl) 0).app ah ah (.wrap ah h5 (by rw [h3];rfl) (by rw [h6];rfl)<|(ih (i+2) _ ah).2.2 _ ah h8)
   | len h1=>exact .tok ah (by rw [h1];rfl) 0
   | field h1 h2 h3=>exact (Bl.tok ah (by rw [h1];rfl) 0).app ah ah ((ih (i+1) j ah).2.1 _ _ _ h3)
   | pre o h1 h2 h3 h4 h5=>exact (Bl.tok ah (by rw [h2];rcases h1 with rfl|rfl<;>rfl) 0).app ah ah ((ih (i+1) j ah).1 _ _ h4 hj h5)
   | post o h1 h2 h3 h4 h5=>exact ((ih i _ ah).1 _ _ h4 ah h5).app ah ah (.tok ah (by rw [h2];rcases h1 with rfl|rfl<;>rfl) 0)
   | unary o h1 h2 h3 h4=>exact (Bl.tok ah (by rw [h2];rcases h1 with rfl|rfl|rfl<;>rfl) 0).app ah ah ((ih (i+1) j ah).2.1 _ _ _ h4)
   | @bin _ _ m f _ a b _ _ o h1 h2 h3 h4 h5 h6 h7 h8=>
    have hl7:=h7.lt;have hl8:=h8.lt;have QU:m+1<=f:=MG h6;have ln:Bl l 0 (m+1) f:=by
     rcases h6 with ⟨_,h6⟩|⟨_,h6⟩
     .exact .ln (f - (m+1)) _ _ ah QU ah h6.2.1
     .rw [h6];exact .nil l 0 _
    exact ((ih i m ah).2.1 _ _ _ h7).app ah ah ((Bl.tok ah (by rw [h3];exact aDG h1) 0).app ah ah<|ln.app QU ah<|(ih f j ah).2.1 _ _ _ h8)
   | cat h1 h2 h3 h4=>exact ((ih i _ ah).2.1 _ _ _ h3).app ah ah ((ih _ j ah).2.1 _ _ _ h4)
   | @one _ _ m t h h1 h2 h3 h4=>exact ((ih i m ah).2.1 _ _ _ h4).app ah ah ((Bl.tok ah (by rw [h2];rfl) 0).app ah ah<|Bl.tok (i:=m+1) ah (by rw [h3];rfl) 0)
   | @many _ _ m ts h1 h2 h3 h4 h5 h6 h7 h8=>exact (Bl.wrap ah ah (by rw [h1];rfl) (by rw [h3];rfl)<|(ih (i+1) m ah).2.2 _ ah h8).app ah ah ((Bl.tok (i:=m+1) ah (by rw [h4];rfl) 0).app ah ah<|Bl.tok (i:=m+2) ah (by rw [h5];rfl) 0)
   | @cond _ _ m n2 _ a b c _ _ _ h1 h2 h3 h4 h5 h6 h7 h8=>exact ((ih i m ah).2.1 _ _ _ h6).app ah ah ((Bl.tok ah (by rw [h2];rfl) 0).app ah ah<|((ih (m+1) n2 ah).2.1 _ _ _ h7).app ah ah<|(Bl.tok ah (by rw [h4];rfl) 0).app ah ah<|(ih (n2+1) j ah).2.1 _ _ _ h8)
   | @assign _ _ m _ a b _ o h1 h2 h3 h4 h5 h6 h7=>exact ((ih i m ah).1 _ _ h3 ah h6).app ah ah ((Bl.tok ah (by rw [h2];exact aDH h1) 0).app ah ah<|(ih (m+1) j ah).2.1 _ _ _ h7)
  refine ⟨hN,fun p t h d=>?_,fun ts hj d=>?_⟩
  .cases d with
   | par h1 h2 h3 h4 h5=>exact .wrap ah h3 (by rw [h1];rfl) (by rw [h5];rfl) (((ih (i+1) _ ah).2.1 _ _ _ h4).up 1)
   | bare h1 h2 h3 h4=>exact hN p t h2 h3 h4
  .cases d with
   | one h1 h2=>
    cases h2 with
    | par g1 g2 g3 g4 g5=>exact (Bl.wrap ah g3 (by rw [g1];rfl) (by rw [g5];rfl)<|((ih (i+1) _ ah).2.1 _ _ _ g4).up 1).up 1
    | bare g1 g2 g3 g4=>exact (hN _ _ g2 g3 g4).up 1
   | @cons _ k f _ t u ts h h1 h2 h3 h4 h5 h6=>
    have:=h3.1;exact (((ih i k ah).2.1 _ _ _ h5).up 1).app ah ah ((aDF ah h2).app ah ah<|(Bl.ln (f - (k+1)) _ _ ah ah ah h3.2.1).app ah ah<|(ih f j ah).2.2 _ hj h6)
def gP.bal {l:List aG} {p:aF} {i j:Nat} {t:aC} {h:Bool} (d:gP l p i j t h):Bl l 0 i j:=(aDI l (j - i) i j<|eU _).2.1 p t h d
def Bl.inn {l:List aG} {i j:Nat} (h:Bl l 0 i j):inn 0 (seg l i j)=true:=by
 have:=h 0 [];rw [nQ] at this;rw [this];rfl
def arE (l:List aG) (hl:l.length<=3000):∀ (n i j:Nat),j - i<=n->(∀ p t,i < j->j<=l.length->iH l p i j t->6<=lv t.kind t.op->uY l i false)/\(∀ p t h,gP l p i j t h->h=true\/6<=lv t.kind t.op->uY l i false):=by
 intro n;induction n with
 | zero=>exact fun i j hn=>⟨fun p t hij=>ah,fun p t h d=>by have:=d.lt;omega⟩
 | succ n ih=>
  intro i j hn;have no:∀ k:Int,kd l i=k->k≠32->uY l i false:=fun k h hk=>aDw l i (by rw [h];exact hk);have hN:∀ p t,i < j->j<=l.length->iH l p i j t->6<=lv t.kind t.op->uY l i false:=by
   intro p t hij hj d h6;cases d with
   | leaf k h1 h2=>exact no k h2 ah
   | name h1=>exact no 6 h1 aM
   | index h1=>exact no 6 h1 aM
   | xk k h1 h2=>exact no k h2 ah
   | call k h1 h2=>exact no k h2 ah
   | len h1=>exact no 8 h1 aM
   | field h1=>exact no 68 h1 aM
   | pre o h1 h2=>exact no o h2 ah
   | post o h1 h2 h3 h4 h5=>rcases QO h5 h3 with e|e<;>exact no _ e aM
   | unary o h1 h2=>exact no o h2 ah
   | @bin _ _ m f _ a b _ _ o h1 h2 h3 h4 h5 h6' h7 h8=>
    have QU:m+1<=f:=MG h6';refine (ih i m ah).2 _ _ _ h7 ?_;have h6:6<=bL o:=h6;cases h7 with
    | par=>exact .inl rfl
    | bare hf=>
     have hs:7<=(kC o).1:=by
      have ho:=MQ o;have:bL o=6\/bL o=7\/bL o=8\/bL o=9\/bL o=10\/bL o=11\/bL o=12:=ah;unfold kC;rcases this with e|e|e|e|e|e|e<;>rw [e]<;>decide
     exact .inr (by have:=sZ hf rfl;have this:(kC o).1<=_:=this;omega)
   | @cat _ _ m _ a b _ _ h1 h2 h3 h4=>
    refine (ih i m ah).2 _ _ _ h3 ?_;cases h3 with
    | par=>exact .inl rfl
    | bare hf=>exact .inr (by have:=sZ hf rfl;have this:(8:Int)<=_:=this;omega)
   | one=>exact absurd h6 (by show¬(6:Int)<=5;omega)
   | many=>exact absurd h6 (by show¬(6:Int)<=5;omega)
   | cond=>exact absurd h6 (by show¬(6:Int)<=2;omega)
   | assign=>exact absurd h6 (by show¬(6:Int)<=1;omega)
  refine ⟨hN,fun p t h d hh=>?_⟩;cases d with
  | @par _ _ j t h h1 h2 h3 h4 h5=>
   have hi:i < l.length:=ah;refine aDv l hl i l[i] l[j] (seg l (i+1) j) ?_ (by rw [<- Ba hi];exact h1) (by rw [<- Ba h3,h5];rfl) h4.bal.inn;have:=arB (l:=l) (i:=i) (j:=j+1);rwa [QT (show i<=i+1 by omega) (show i+1<=j+1 by omega),QT (show i+1<=j by omega) (show j<=j+1 by omega),MV hi,MV h3] at this
  | bare h1 h2 h3 h4=>
   rcases hh with h|h
   .cases h
   .exact hN p t h2 h3 h4 h
def gP.cm {l:List aG} (hl:l.length<=3000) {p:aF} {i j:Nat} {t:aC} {h:Bool} (d:gP l p i j t h) (hh:h=true\/6<=lv t.kind t.op):uY l i false:=(arE l hl (j - i) i j<|eU _).2 p t h d hh
def QV {lv:Int} {q:aF} {k:Int} (h1:lv=1->sW k=false) (h2:lv=2->k≠65) (h5:lv=5->k≠24) (h8:lv=8->yG k=false) (h12:lv=12->k≠60) (zM:lv=13->k≠51/\k≠52) (ho:bL k≠lv):cont lv q k=false:=by
 have f:∀ {a b:Int},a≠b->(a==b)=false:=fun h=>by simpa using h
 unfold cont;by_cases e1:lv=1
 .subst e1;exact h1 rfl
 by_cases e2:lv=2
 .subst e2;exact f (h2 rfl)
 by_cases e5:lv=5
 .subst e5;show (k==24&&!q.aX)=false;rw [f<|h5 rfl];rfl
 by_cases e8:lv=8
 .subst e8;exact h8 rfl
 by_cases e12:lv=12
 .subst e12;exact f (h12 rfl)
 by_cases e13:lv=13
 .subst e13;show (k==51||k==52)=false;rw [f (zM rfl).1,f (zM rfl).2];rfl
 rw [f e1,f e2,f e5,f e8,f e12,f e13,f ho];cases (lv==11)<;>cases (lv==14)<;>cases (lv==15)<;>simp
def Vz {k:Int} (h:sW k=true):(38<=k/\k<=43)\/k=54:=by
 unfold sW BZ at h;rw [Ad] at h;by_cases e:k=54
 .exact .inr e
 .have:(k==54)=false:=by simpa using e
  rw [this] at h;left;simpa using h
def JQ {o:Int} (h:bL o≠0):o=44\/o=45\/o=67\/o=46\/o=63\/o=48\/o=47\/o=50\/o=62\/o=49\/o=99\/o=55\/o=56\/o=57\/o=58\/o=59\/o=60:=by
 apply Classical.byContradiction;intro hn;simp only [not_or] at hn;obtain ⟨a1,a2,a3,a4,a5,a6,a7,a8,a9,a10,a11,a12,a13,a14,a15,a16,a17⟩:=hn;apply h;have f:∀ {a b:Int},¬a=b->(a==b)=false:=fun h=>by simpa using h
 unfold bL Fq TY Hf TW Py;simp only [f a1,f a2,f a3,f a4,f a5,f a6,f a7,f a8,f a9,f a10,f a11,f a12,f a13,f a14,f a15,f a16,f a17,aJ,aaR]
def aeg {k:Int} (h:yG k=true):k=3\/k=4\/k=6\/k=7\/k=8\/k=32\/k=68:=by
 unfold yG at h;simp only [mI,qw] at h;omega
def aeh {k:Int} (h:k=33\/k=35\/k=36\/k=66) (q:aF) (b:Int) (hb:1<=b):kD (bE q b) k:=by
 refine ⟨ah,fun lv hv=>?_⟩;have hv:b<=lv:=hv;rcases h with rfl|rfl|rfl|rfl<;>exact QV (fun _=>rfl) (fun _=>aM) (fun _=>aM) (fun _=>rfl) (fun _=>aM) (fun _=>aM) (by show (0:Int)≠lv;omega)
def aDN (q:aF) (b:Int) (hb:3<=b):kD (bE q b) 65:=by
 refine ⟨ah,fun lv hv=>?_⟩;have hv:b<=lv:=hv;exact QV (fun _=>rfl) (fun _=>ah) (fun _=>aM) (fun _=>rfl) (fun _=>aM) (fun _=>aM) (by show (0:Int)≠lv;omega)
def aDO (q:aF) (b:Int) (hb:6<=b):kD (bE q b) 24:=by
 refine ⟨ah,fun lv hv=>?_⟩;have hv:b<=lv:=hv;exact QV (fun _=>rfl) (fun _=>ah) (fun _=>ah) (fun _=>rfl) (fun _=>aM) (fun _=>aM) (by show (0:Int)≠lv;omega)
def aDP {k:Int} (h:k=51\/k=52) (q:aF) (b:Int) (hb:14<=b):kD (bE q b) k:=by
 refine ⟨ah,fun lv hv=>?_⟩;have hv:b<=lv:=hv;rcases h with rfl|rfl<;>exact QV (fun _=>rfl) (fun _=>ah) (fun _=>ah) (fun _=>rfl) (fun _=>aM) (fun _=>ah) (by show (0:Int)≠lv;omega)
def aDQ {k:Int} (h:sW k=true) (q:aF) (b:Int) (hb:2<=b):kD (bE q b) k:=by
 have hl:=Vz h;refine ⟨ah,fun lv hv=>?_⟩;have hv:b<=lv:=hv;have h8:yG k=false:=by
  cases e:yG k with
  | false=>rfl
  | true=>have:=aeg e;omega
 refine QV (fun _=>ah) (fun _=>ah) (fun _=>ah) (fun _=>h8) (fun _=>ah) (fun _=>ah) ?_;intro e;have:=JQ (o:=k) ah;omega
def ajI {k:Int} (h:bL k≠0) (pG:k≠99) (q:aF) (b:Int) (hb:bL k < b):kD (bE q b) k:=by
 have hl:=JQ h;refine ⟨ah,fun lv hv=>?_⟩;have hv:b<=lv:=hv;have h8:yG k=false:=by
  cases e:yG k with
  | false=>rfl
  | true=>have:=aeg e;omega
 have h1:sW k=false:=by
  cases e:sW k with
  | false=>rfl
  | true=>have:=Vz e;omega
 refine QV (fun _=>h1) (fun _=>ah) (fun _=>ah) (fun _=>h8) (fun e=>?_) (fun _=>ah) ah;intro e60;subst e60;have:(12:Int) < b:=hb;omega
def aDR {k:Int} (h:yG k=true) (q:aF) (b:Int) (hb:9<=b):kD (bE q b) k:=by
 have hl:=aeg h;refine ⟨ah,fun lv hv=>?_⟩;have hv:b<=lv:=hv;have h1:sW k=false:=by
  cases e:sW k with
  | false=>rfl
  | true=>have:=Vz e;omega
 refine QV (fun _=>h1) (fun _=>ah) (fun _=>ah) (fun _=>ah) (fun e=>ah) (fun _=>ah) ?_;intro e;have:=JQ (o:=k) ah;omega
def kD.to {q:aF} {a b:Int} {k:Int} (h:kD (bE q a) k) (hab:a<=b):kD (bE q b) k:=⟨h.1,fun lv hv=>h.2 lv (by have hv:b<=lv:=hv;show a<=lv;omega)⟩
def kD.eleven {q:aF} {k:Int} (h:kD (bE q 12) k):kD (bE q 11) k:=⟨h.1,fun lv hv=>by
 have hv:11<=lv:=hv;by_cases e:lv=11
 .subst e;rfl
 .exact h.2 lv (by show 12<=lv;omega)⟩
def arF {l:List aG} {q:aF} {i j:Nat} {t:aC} {h:Bool} (hsz:aQ t<=400):∀ (n:Nat) (b:Int),1<=b->b+n<=11->(6<=b+n->uY l i false)->Rd l (bE q<|b+n) i j t h->kD (bE q b) (kd l j)->Rd l (bE q b) i j t h
 | 0,b,_,_,_,hr,_=>by
  have:b+((0:Nat):Int)=b:=ah;rw [this] at hr;exact hr
 | n+1,b,h1,h2,hcm,hr,hn=>by
  have e:b+((n+1:Nat):Int)=(b+1)+(n:Int):=ah;rw [e] at hr hcm;exact arx b h1 ah hsz (arF hsz n (b+1) ah ah hcm hr<|hn.to ah) (hn.2 b<|abe b) fun e5 _=>hcm ah
def desc {l:List aG} {q:aF} {i j:Nat} {t:aC} {h:Bool} (hsz:aQ t<=400) (a b:Int) (hb:1<=b) (hab:b<=a) (ha:a<=11) (hcm:6<=a->uY l i false) (hr:Rd l (bE q a) i j t h) (hn:kD (bE q b) (kd l j)):Rd l (bE q b) i j t h:=by
 have e:b+(((a - b).toNat:Nat):Int)=a:=ah;exact arF hsz (a - b).toNat b hb ah (by rw [e];exact hcm) (by rw [e];exact hr) hn
def ajJ {l:List aG} {q:aF} {i j:Nat} {t:aC} {h:Bool} (hsz:aQ t<=400) (b:Int) (hb:1<=b) (hb2:b<=13) (hcm:uY l i false) (hk:kd l i≠55/\kd l i≠56/\kd l i≠61) (hr:Rd l (bE q 13) i j t h) (hn:kD (bE q b) (kd l j)):Rd l (bE q b) i j t h:=by
 have f:∀ {z:Int},kd l i≠z->(kd l i==z)=false:=fun h=>by simpa using h
 by_cases e13:b=13
 .subst e13;exact hr
 have c12:cont 12 q (kd l j)=false:=hn.2 12 (by show b<=12;omega);by_cases e12:b=12
 .subst e12;exact aDt hr c12
 have nY:=aDu hr c12 (by rw [f hk.1,f hk.2.1,f hk.2.2];rfl);exact desc hsz 11 b hb ah ah (fun _=>hcm) nY hn
def arG {l:List aG} {q:aF} {i j:Nat} {t:aC} {h:Bool} (hsz:aQ t<=400) (b:Int) (hb:1<=b) (hb2:b<=14) (hcm:uY l i false) (hk:kd l i≠55/\kd l i≠56/\kd l i≠61) (hk2:kd l i≠51/\kd l i≠52) (hr:Rd l (bE q 14) i j t h) (hn:kD (bE q b) (kd l j)):Rd l (bE q b) i j t h:=by
 have f:∀ {z:Int},kd l i≠z->(kd l i==z)=false:=fun h=>by simpa using h
 by_cases e14:b=14
 .subst e14;exact hr
 exact ajJ hsz b hb ah hcm hk (aDs hr (by rw [f hk2.1,f hk2.2];rfl)<|hn.2 13<|by show b<=13;omega) hn
def QW {l:List aG} {q:aF} {i j:Nat} {t:aC} {h:Bool} (hsz:aQ t<=400) (b:Int) (hb:1<=b) (hb2:b<=15) (hcm:uY l i false) (hk:kd l i≠55/\kd l i≠56/\kd l i≠61) (hk2:kd l i≠51/\kd l i≠52) (hk3:kd l i≠68) (hr:Rd l (bE q 15) i j t h) (hn:kD (bE q b) (kd l j)):Rd l (bE q b) i j t h:=by
 by_cases e15:b=15
 .subst e15;exact hr
 exact arG hsz b hb ah hcm hk hk2 (aDr hr hk3) hn
def aei (l:List aG) (hl:l.length<=3000) (M i:Nat) (ns:List aG):∀ (x:List aG) (d j n:Nat) (c:aG),Sg l j (x++[c])->c.Kind=36->inn d x=true->x.length < n->d+x.length<=4000->yx M l (i:Int) false ns n (((d+1:Nat):Int),(j:Int))=some true
 | [],d,j,n,c,hs,hc,hi,hn,hd=>by
  obtain ⟨n,rfl⟩:∃ m,n=m+1:=⟨n - 1,by simp at hn;omega⟩
  have hs:Sg l j (c::[]):=hs;obtain ⟨hj,hk⟩:=hs.hd;have hd0:d=0:=by simpa [inn] using hi
  subst hd0;rw [yx];simp only [iT hj,aS,bX hj,av,hk,QM,hc,show mV 36=false from rfl,aJ];unfold Eb;dsimp only;rw [bX hj,av,hk,JO,av,hc,show nK 36=false from rfl,aJ];unfold Hy;dsimp only;rw [bX hj,av,hk,hc];rfl
 | t::x,d,j,n,c,hs,hc,hi,hn,hd=>by
  simp only [kY] at hn hd;obtain ⟨n,rfl⟩:∃ m,n=m+1:=⟨n - 1,ah⟩
  have hs:Sg l j (t::(x++[c])):=hs;obtain ⟨hj,hk⟩:=hs.hd;have hlen:=hs.tl.len ah;simp only [fP,ED] at hlen;rw [inn] at hi;rw [yx,iT hj,aS,bX hj,av,hk,QM,av];cases ho:mV t.Kind with
  | true=>
   rw [ho,aS] at hi;rw [aS];unfold Eb;dsimp only;rw [bX hj,av,hk,JO,av,(Vy ho).1,aJ,wrap64 ah ah,show ((d+1:Nat):Int)+1=((d+1+1:Nat):Int) by omega,MS l M i ns _ j (d+1+1) hj hl ah<|by rw [show (d+1+1==1)=false from by simp];rfl];exact aei l hl M i ns x (d+1) (j+1) n c hs.tl hc hi ah ah
  | false=>
   rw [ho,aJ] at hi;rw [aJ];unfold Eb;dsimp only;rw [bX hj,av,hk,JO,av];cases hcl:nK t.Kind with
   | true=>
    rw [hcl,aS] at hi;cases d with
    | zero=>cases hi
    | succ d=>
     have hi:inn d x=true:=by simpa using hi
     rw [aS,wrap64 ah ah,show ((d+1+1:Nat):Int) - 1=((d+1:Nat):Int) by omega,MS l M i ns _ j (d+1) hj hl ah<|by rw [hk,arj hcl,RY]];exact aei l hl M i ns x d (j+1) n c hs.tl hc hi ah ah
   | false=>
    rw [hcl,aJ] at hi;rw [aJ];have ZE:(d+1==1&&l[j].Kind==36)=false:=by
     rw [hk];cases h:(d==0&&t.Kind==36) with
     | true=>rw [h,aS] at hi;cases hi
     | false=>
      have:(d+1==1)=(d==0):=by
       cases d<;>rfl
      rw [this];exact h
    have hi:inn d x=true:=by
     cases h:(d==0&&t.Kind==36) with
     | true=>rw [h,aS] at hi;cases hi
     | false=>rw [h,aJ] at hi;exact hi
    rw [MS l M i ns _ j (d+1) hj hl ah ZE];exact aei l hl M i ns x d (j+1) n c hs.tl hc hi ah ah
def aDS (l:List aG) (hl:l.length<=3000) (i:Nat) (o c:aG) (x:List aG) (hs:Sg l i (o::(x++[c]))) (ho:o.Kind=32) (hc:c.Kind=36) (hi:inn 0 x=true):uY l i true:=by
 intro M ns hM;obtain ⟨hj,hk⟩:=hs.hd;have hlen:=hs.tl.len ah;simp only [fP,ED] at hlen;obtain ⟨M,rfl⟩:∃ m,M=m+1:=⟨M - 1,ah⟩
 have hkd:kd l i=32:=by rw [Ba hj,hk,ho]
 unfold Ml;rw [aJ,gY,hkd,av,av,show ((32:Int) !=32)=false from rfl,aJ,yx,iT hj,aS,bX hj,av,hk,QM,av,ho,show mV 32=true from rfl,aS];unfold Eb;dsimp only;rw [bX hj,av,hk,JO,av,ho,show nK 32=false from rfl,aJ];show Hy (M+1) l (i:Int) false ns _ ((i:Int),((1:Nat):Int))=_;rw [MS l (M+1) i ns _ i 1 hj hl ah<|by rw [hk,ho];rfl];exact aei l hl (M+1) i ns x 0 (i+1) M c hs.tl hc hi ah ah
def aDT (l:List aG) (hl:l.length<=3000) (q:aF) (hq:q.Level=15) {i:Nat} (ha:kd l i=8) (hi:i < l.length) (hb:kd l (i+1)≠32) (hx:l[i].Text=[108,101,110,103,116,104]):Rd l q i (i+1) ⟨8,0,l[i].Text,[],[]⟩ false:=by
 intro M hM ns;obtain ⟨M,rfl⟩:∃ m,M=m+3:=⟨M - 3,ah⟩
 have c32:(kd l (i+1) !=32)=true:=by simpa using hb
 have e:Qf M (bq M) 8 l (i:Int) false ns=some ((⟨[(⟨8,0,l[i].Text,[],[]⟩:aD)],false⟩:bS),((i+1:Nat):Int),false,ns):=by
  unfold Qf;rw [gY,av,oK ns ah ah rfl,av];have hno:(bif ((8:Int)==8) then (ku l ((i+1:Nat):Int) false ns).bind fun bF=>bif (bF !=32) then some (l[i].Text==[108,101,110,103,116,104]) else some false else some false)=some true:=by
   rw [gY,av,c32,hx];rfl
  dsimp only;rw [hno,av,aS]
 have e':(bq<|M+1).Ci 8 l (i:Int) false ns=_:=e;show jh (M+2) (bq<|M+2) q l (i:Int) false ns=_;rw [QJ _ _ _ _ _ _ hq];show zD (M+1) (bq<|M+1) l (i:Int) false ns=_;unfold zD;rw [aJ,gY,av,ha];show Option.bind ((bq<|M+1).Ci 8 l (i:Int) false ns) _=_;rw [e'];rfl
def Ep (k o:Int) (x y:List UInt8) (t:aC):aQ ⟨k,o,x,y,[t]⟩=aQ t+1:=by simp only [aQ,aK]
def JR (k o:Int) (x y:List UInt8) (t u:aC):aQ ⟨k,o,x,y,[t,u]⟩=aQ t+aQ u+1:=by simp only [aQ,aK];omega
def arH (k o:Int) (x y:List UInt8) (t u v:aC):aQ ⟨k,o,x,y,[t,u,v]⟩=aQ t+aQ u+aQ v+1:=by simp only [aQ,aK];omega
structure QX (l:List aG) (n:Nat):Prop where
 N:∀ i j,j - i<=n->∀ p t,i < j->j<=l.length->iH l p i j t->aQ t<=400->∀ q,(t.kind<=9\/(q.aX=p.aX/\q.bg=p.bg))->(t.kind=13->q.aX=false)->(t.kind=12->t.op=62->q.bg=false)->∀ b,1<=b->b<=lv t.kind t.op->kD (bE q b) (kd l j)->Rd l (bE q b) i j t false
 D:∀ i j,j - i<=n->∀ p t h,gP l p i j t h->aQ t<=400->∀ q,q.aX=p.aX->q.bg=p.bg->∀ b,1<=b->b<=15->(h=true\/b<=lv t.kind t.op)->kD (bE q b) (kd l j)->Rd l (bE q b) i j t h
 C:∀ i j,j - i<=n->∀ p t h,gP l p i j t h->aQ t<=400->∀ q,q.aX=p.aX->q.bg=p.bg->∀ v sd,Bb v 3000 sd->(h=true\/v<=lv t.kind t.op)->kD (bE q<|v+1) (kd l j)->∃ c,c < j - i/\Ch l v 3000 sd (bE q v) i j t h c
 I:∀ i j,j - i<=n->∀ p t h,gP l p i j t h->aQ t<=400->∀ q,q.aX=p.aX->q.bg=p.bg->q.aX=false->(h=true\/5<=lv t.kind t.op)->kD (bE q 6) (kd l j)->∃ c,c < j - i/\Cx l (bE q 5) i j t h c
 L:∀ i j,j - i<=n->∀ ts en,yH l i j ts->kd l j=en->(en=33\/en=35)->j < l.length->aK ts<=400->MR l en i (j+1) ts
def arI {l:List aG} {i j:Nat} {ts:List aC} (d:yH l i j ts):aee (kd l i)=true:=by
 cases d with
 | one h1 h2=>exact h2.first.o
 | cons h1 h2 h3 h4 h5 h6=>exact h5.first.o
def ajK {o:Int} (h:bL o=3\/bL o=4\/bL o=9\/bL o=10):Bb (bL o) 3000 (kC o)/\(kC o).1=bL o:=by
 unfold kC;rcases h with e|e|e|e<;>rw [e]
 .exact ⟨.inl ⟨rfl,rfl,rfl⟩,rfl⟩
 .exact ⟨.inr<|.inl ⟨rfl,rfl,rfl⟩,rfl⟩
 .exact ⟨.inr<|.inr<|.inr<|.inr<|.inr<|.inl ⟨rfl,rfl,rfl⟩,rfl⟩
 .exact ⟨.inr<|.inr<|.inr<|.inr<|.inr<|.inr ⟨rfl,rfl,rfl⟩,rfl⟩
def aDU {o:Int} (h:bL o=6\/bL o=7):Bb (bL o) 1 (kC o)/\(kC o).1=bL o+1/\(kC o).2=bL o+1:=by
 unfold kC;rcases h with e|e<;>rw [e]
 .exact ⟨.inr<|.inr<|.inl ⟨rfl,rfl,rfl⟩,rfl,rfl⟩
 .exact ⟨.inr<|.inr<|.inr<|.inl ⟨rfl,rfl,rfl⟩,rfl,rfl⟩
def ajL {o:Int} (h:bL o≠0) (pG:o≠99):bL o=3\/bL o=4\/bL o=6\/bL o=7\/bL o=9\/bL o=10\/(bL o=12/\o=60):=by
 rcases JQ h with e|e|e|e|e|e|e|e|e|e|e|e|e|e|e|e|e<;>subst e<;>first|(exact absurd rfl pG)|decide
def arJ {o:Int} (h:bL o≠0) (pG:o≠99) (q:aF) (hg:o=62->q.bg=false) (h12:o≠60):cont (bL o) q o=true:=by
 rcases JQ h with e|e|e|e|e|e|e|e|e|e|e|e|e|e|e|e|e<;>subst e<;>first|rfl|(exact absurd rfl pG)|(exact absurd rfl h12)|(unfold cont;rw [hg rfl];rfl)
section
variable (l:List aG) (hl:l.length<=3000)
include hl
theorem arK {n:Nat} (ih:QX l n) {p:aF} {i m f j:Nat} {a b:aC} {h1 h2:Bool} (o:Int) (hn:j - i<=n+1) (ho:bL o=3\/bL o=4\/bL o=9\/bL o=10) (pG:o≠99) (hk:kd l m=o) (him:i < m) (hfj:f < j) (hln:(bL o=3\/bL o=4)/\Ln l (m+1) f\/ ¬(bL o=3\/bL o=4)/\f=m+1)
  (da:gP l ⟨(kC o).1,false,p.aX,p.bg,p.eH⟩ i m a h1) (db:gP l ⟨(kC o).2,false,p.aX,p.bg,false⟩ f j b h2) (hz:aQ a+aQ b<=400) (q:aF) (q1:q.aX=p.aX) (q2:q.bg=p.bg) (hf:kD (bE q<|bL o+1) (kd l j)):
  ∃ c,c < j - i/\Ch l (bL o) 3000 (kC o) (bE q<|bL o) i j ⟨12,o,[],[],[a,b]⟩ false c:=by
 obtain ⟨hch,hs⟩:=ajK ho;have hlb:=db.lt;have QU:m+1<=f:=MG hln;have hb:=ZB hch;have hml:m < l.length:=ah;obtain ⟨c,hc,hA⟩:=ih.C i m ah _ a h1 da ah q q1 q2 (bL o) (kC o) hch (by
  cases da with
  | par=>exact .inl rfl
  | bare hfit=>
   have:=sZ hfit rfl;have this:(kC o).1<=_:=this;exact .inr ah) (by rw [hk];exact ajI ah pG q _ ah)
 have hB:=ih.D f j ah _ b h2 db ah q q1 q2 (kC o).2 ah ah (by
  cases db with
  | par=>exact .inl rfl
  | bare hfit=>exact .inr<|sZ hfit rfl) (hf.to ah)
 have aDV:o≠60:=by
  intro e;rw [e] at ho;have:bL 60=12:=rfl;omega
 have aDW:o≠62:=by
  intro e;rw [e] at ho;have:bL 62=7:=rfl;omega
 refine ⟨c+1,ah,?_⟩;exact ajA hl hch hA ah ah (by rw [hk];exact arJ ah pG (bE q<|bL o) (fun e=>absurd e aDW) aDV) (m+1) f o (.inr ⟨by
  intro e;rw [e] at ho;omega,rfl,hk.symm,hml⟩) ah hln ah ah hB
theorem arL {n:Nat} (ih:QX l n) {p:aF} {i m j:Nat} {a b:aC} {h1 h2:Bool} (hn:j - i<=n+1) (him:i < m) (hfj:m < j)
  (da:gP l ⟨8,false,p.aX,p.bg,p.eH⟩ i m a h1) (db:gP l ⟨9,false,p.aX,p.bg,true⟩ m j b h2) (hz:aQ a+aQ b<=400) (q:aF) (q1:q.aX=p.aX) (q2:q.bg=p.bg) (hf:kD (bE q 9) (kd l j)):
  ∃ c,c < j - i/\Ch l 8 3000 (8,9) (bE q 8) i j ⟨12,99,[],[],[a,b]⟩ false c:=by
 have hch:Bb 8 3000 (8,9):=.inr (.inr<|.inr<|.inr<|.inl ⟨rfl,rfl,rfl⟩);have hlb:=db.lt;have hbg:yG (kd l m)=true:=db.first.s rfl
 obtain ⟨c,hc,hA⟩:=ih.C i m ah _ a h1 da ah q q1 q2 8 (8,9) hch (by
  cases da with
  | par=>exact .inl rfl
  | bare hfit=>exact .inr<|sZ hfit rfl) (aDR hbg q _ ah)
 have hB:=ih.D m j ah _ b h2 db ah q q1 q2 9 ah ah (by
  cases db with
  | par=>exact .inl rfl
  | bare hfit=>exact .inr<|sZ hfit rfl) hf
 refine ⟨c+1,ah,?_⟩;exact ajA hl hch hA ah ah hbg m m 99 (.inl ⟨rfl,rfl,rfl⟩) ah (.inr ⟨ah,rfl⟩) ah ah hB
theorem arM {n:Nat} (ih:QX l n) {p:aF} {i m:Nat} {t:aC} {h:Bool} (hn:m+2 - i<=n+1) (him:i < m) (k1:kd l m=24) (k2:kd l (m+1)=6) (d:gP l ⟨5,false,p.aX,p.bg,p.eH⟩ i m t h) (hz:aQ t<=400) (q:aF) (q1:q.aX=p.aX) (q2:q.bg=p.bg) (hq:q.aX=false):
  ∃ c,c < m+2 - i/\Cx l (bE q 5) i (m+2) ⟨13,0,qR l<|m+1,[],[t]⟩ false c:=by
 have hm1:m+1 < l.length:=ajH k2 aM;obtain ⟨c,hc,hA⟩:=ih.I i m ah _ t h d hz q q1 q2 hq (by
  cases d with
  | par=>exact .inl rfl
  | bare hfit=>exact .inr<|sZ hfit rfl) (by rw [k1];exact aDO q 6 ah)
 rw [Il hm1];exact ⟨c+1,ah,aDn l hl (bE q 5) hq hA ah hm1 k1 k2 ah⟩
theorem arN {n:Nat} (ih:QX l n) {i m:Nat} {ts:List aC} (hn:m+3 - i<=n+1) (k1:kd l i=32) (him:i+1 < m) (k2:kd l m=33) (k3:kd l (m+1)=24) (k4:kd l (m+2)=6) (h2:2<=ts.length) (h6:ts.length<=6) (d:yH l (i+1) m ts) (hz:aK ts<=400) (q:aF) (hq:q.aX=false):Cx l (bE q 5) i (m+3) ⟨13,0,qR l<|m+2,[],ts⟩ false 0:=by
 have hm2:m+2 < l.length:=ajH k4 aM;have hls:=ih.L (i+1) m ah ts 33 d k2 (.inl rfl) ah hz;have hcm:uY l i true:=by
  have hi:i < l.length:=ah;cases d with
  | one=>simp at h2
  | @cons _ k f _ t u ts h g1 g2 g3 g4 g5 g6=>
   have hk:=ajH g2 aM;refine aDS l hl i l[i] l[k] (seg l (i+1) k) ?_ (by rw [<- Ba hi];exact k1) (by rw [<- Ba hk];exact g2) g5.bal.inn;have:=arB (l:=l) (i:=i) (j:=k+1);rwa [QT (show i<=i+1 by omega) (show i+1<=k+1 by omega),QT (show i+1<=k by omega) (show k<=k+1 by omega),MV hi,MV hk] at this
 rw [Il hm2];exact aDm l hl (bE q 5) hq (k:=m+1) ts hcm k1 ah hls h6 ah hm2 k3 k4 ah
end
def aDX {t:aC} (h:jE t.kind=true):14<=lv t.kind t.op/\t.kind<=9:=by
 have hk:t.kind=1\/t.kind=5\/t.kind=6:=by
  unfold jE at h;simp only [mI,qw] at h;exact h
 obtain ⟨k,o,x,y,ks⟩:=t;rcases hk with e|e|e<;>(have e:k=_:=e;subst e)
 .exact ⟨(by omega:(14:Int)<=15),(by omega:(1:Int)<=9)⟩
 .exact ⟨(by omega:(14:Int)<=15),(by omega:(5:Int)<=9)⟩
 .exact ⟨(by omega:(14:Int)<=14),(by omega:(6:Int)<=9)⟩
section
variable (l:List aG) (hl:l.length<=3000)
include hl
omit hl in
theorem aej {n:Nat} (ih:QX l n) {i j:Nat} {t:aC} (hn:j - i<=n) (hij:i < j) (hj:j<=l.length) (d:iH l uZ i j t) (hL:jE t.kind=true) (hz:aQ t<=400) (q:aF) (b:Int) (hb:1<=b) (hb2:b<=14) (hf:kD (bE q b) (kd l j)):Rd l (bE q b) i j t false:=by
 obtain ⟨h1,h2⟩:=aDX hL;exact ih.N i j hn uZ t hij hj d hz q (.inl h2) (fun e=>ah) (fun e=>ah) b hb ah hf
set_option maxHeartbeats 4000000 in
theorem aDY {n:Nat} (ih:QX l n) {i j:Nat} (hn:j - i<=n+1) {p:aF} {t:aC} (hij:i < j) (hj:j<=l.length) (d:iH l p i j t) (hz:aQ t<=400) (q:aF) (hq:t.kind<=9\/(q.aX=p.aX/\q.bg=p.bg)) (hin:t.kind=13->q.aX=false) (hgt:t.kind=12->t.op=62->q.bg=false) (b:Int) (hb:1<=b) (hbl:b<=lv t.kind t.op) (hf:kD (bE q b) (kd l j)):Rd l (bE q b) i j t false:=by
 have fs:=d.first hij
 have cm:6<=lv t.kind t.op->uY l i false:=fun h=>(arE l hl (j - i) i j<|eU _).1 p t hij hj d h;have f:∀ {a b:Int},a≠b->(a==b)=false:=fun h=>by simpa using h
 cases d with
 | leaf k h1 h2=>
  have hv:lv (k - 1) 0=15:=by rcases h1 with rfl|rfl|rfl<;>rfl
  have hbl:b<=lv (k - 1) 0:=hbl;have fa:=fs.a (by show 12<=lv (k - 1) 0;omega);have fb:=fs.b (by show 14<=lv (k - 1) 0;omega);have fc:=fs.c (by show 15<=lv (k - 1) 0;omega);have cm:=cm (by show 6<=lv (k - 1) 0;omega);refine QW hz b hb ah cm fa fb fc ?_ hf;rw [Il ah];exact aDj l hl (bE q 15) rfl k h1 h2 ah
 | name h1=>
  have fa:=fs.a (by show (12:Int)<=15;omega);have fb:=fs.b (by show (14:Int)<=15;omega);have fc:=fs.c (by show (15:Int)<=15;omega);have cm:=cm (by show (6:Int)<=15;omega);refine QW hz b hb hbl cm fa fb fc ?_ hf;rw [Il ah];exact aDk l hl (bE q 15) rfl h1 ah hf.1
 | @index _ _ j ts h1 h2 h3 h4 h5 h6 h7=>
  have fa:=fs.a (by show (12:Int)<=15;omega);have fb:=fs.b (by show (14:Int)<=15;omega);have fc:=fs.c (by show (15:Int)<=15;omega);have cm:=cm (by show (6:Int)<=15;omega);have hz':aK ts<=400:=by simp only [aQ] at hz;omega
  refine QW hz b hb hbl cm fa fb fc ?_ hf;rw [Il ah];exact aDl l hl (bE q 15) rfl ts h1 h2 ah (ih.L (i+2) j ah ts 35 h7 h5 (.inr rfl) h4 hz') h6 ah
 | xk k h1 h2 h3 h4=>
  have hv:lv k 0=15:=by rcases h1 with rfl|rfl<;>rfl
  have hbl:b<=lv k 0:=hbl;have fa:=fs.a (by show 12<=lv k 0;omega);have fb:=fs.b (by show 14<=lv k 0;omega);have fc:=fs.c (by show 15<=lv k 0;omega);have cm:=cm (by show 6<=lv k 0;omega);refine QW hz b hb ah cm fa fb fc ?_ hf;rw [Il ah];exact arv l hl (bE q 15) rfl k h1 [] h2 h3 ah (.inl ⟨rfl,h4,rfl⟩) aA (by simp [aK])
 | @call _ _ j ts k h1 h2 h3 h4 h5 h6 h7 h8=>
  have hv:lv k 0=15:=by rcases h1 with rfl|rfl<;>rfl
  have hbl:b<=lv k 0:=hbl;have fa:=fs.a (by show 12<=lv k 0;omega);have fb:=fs.b (by show 14<=lv k 0;omega);have fc:=fs.c (by show 15<=lv k 0;omega);have cm:=cm (by show 6<=lv k 0;omega);have hz':aK ts<=400:=by simp only [aQ] at hz;omega
  have kL:kd l (i+2)≠33:=fun e=>by
   have:=arI h8;rw [e] at this;cases this
  refine QW hz b hb ah cm fa fb fc ?_ hf;rw [Il ah];exact arv l hl (bE q 15) rfl k h1 ts h2 h3 ah (.inr ⟨kL,ih.L (i+2) j ah ts 33 h8 h6 (.inl rfl) h5 hz'⟩) h7 ah
 | len h1 h2 h3=>
  have fa:=fs.a (by show (12:Int)<=15;omega);have fb:=fs.b (by show (14:Int)<=15;omega);have fc:=fs.c (by show (15:Int)<=15;omega);have cm:=cm (by show (6:Int)<=15;omega);refine QW hz b hb hbl cm fa fb fc ?_ hf;rw [Il ah];exact aDT l hl (bE q 15) rfl h1 ah h2 (by rw [<- Il ah];exact h3)
 | @field _ _ _ u h h1 h2 h3=>
  have fa:=fs.a (by show (12:Int)<=14;omega);have fb:=fs.b (by show (14:Int)<=14;omega);have cm:=cm (by show (6:Int)<=14;omega);rw [Ep] at hz;refine arG (by rw [Ep];omega) b hb hbl cm fa fb ?_ hf;have ajM:kD (bE q 14) (kd l j):=hf.to hbl;have fsu:=h3.first
  by_cases hh:h=true\/14<=lv u.kind u.op
  .have hb1:=fsu.b hh;refine aDi l hl (bE q 14) rfl h1 ah (by rw [f hb1.1,f hb1.2];rfl) (h1:=h) ?_ ah;cases h3 with
   | @par _ _ jj _ h' g1 g2 g3 g4 g5=>
    exact ih.D (i+1) (jj+1) ah ⟨14,true,q.aX,q.bg,false⟩ u true (.par g1 g2 g3 g4 g5) ah q rfl rfl 14 ah ah (.inl rfl) ajM
   | bare g1 g2 g3 g4=>
    have hlv:14<=lv u.kind u.op:=by
     rcases hh with hh|hh
     .cases hh
     .exact hh
    have hk:eF u.kind=true->u.kind<=9:=fun he=>by
     have hs:ajt ⟨14,true,false,false,false⟩ ⟨14,true,false,false,false⟩:=⟨rfl,rfl,rfl,rfl⟩
     exact (arh he hs).2 g1
    have JK:u.kind<=9:=by
     cases g4 with
     | leaf k e1=>show k - 1<=9;omega
     | name=>show (1:Int)<=9;omega
     | index=>show (5:Int)<=9;omega
     | len=>show (8:Int)<=9;omega
     | field=>show (6:Int)<=9;omega
     | pre=>show (9:Int)<=9;omega
     | xk k e1|call k e1=>show k<=9;omega
     | post=>exact absurd hlv (by show¬(14:Int)<=13;omega)
     | unary=>exact absurd hlv (by show¬(14:Int)<=11;omega)
     | one|many=>exact absurd hlv (by show¬(14:Int)<=5;omega)
     | cond=>exact absurd hlv (by show¬(14:Int)<=2;omega)
     | assign=>exact absurd hlv (by show¬(14:Int)<=1;omega)
     | bin o=>exact absurd hlv (by show¬(14:Int)<=bL o;have:=MQ o;omega)
     | cat=>exact absurd hlv (by show¬(14:Int)<=8;decide)
    exact ih.N (i+1) j ah _ u g2 g3 g4 ah q (.inl JK) (fun e=>ah) (fun e=>ah) 14 ah hlv ajM
  .cases h3 with
   | par=>exact absurd (.inl rfl) hh
   | bare g1 g2 g3 g4=>
    have hnl: ¬14<=lv u.kind u.op:=fun e=>hh (.inr e);have hp:u.kind=9:=by
     unfold jL at g1;simp only [eu,mI,Df,oo,qw] at g1;rcases g1.2.2.2.2 with e|e
     .exact e
     .exact absurd e hnl
    cases g4 with
    | @pre _ _ _ u o e1 e2 e3 e4 e5=>
     have hi2:i+1 < l.length:=ah;have hlf:=QO e5 e3;rw [Ep] at hz;have r:=aej l ih (i:=i+1+1) ah e4 g3 e5 e3 ah q 14 ah ah ajM;have:=aDp l hl (bE q 14) rfl h1 hi2 (by rw [e2];rcases e1 with rfl|rfl<;>rfl) (by rcases hlf with e|e<;>rw [e]<;>rfl) r ah;rw [e2] at this;exact this
    | leaf k e1=>have hp:k - 1=9:=hp;omega
    | xk k e1|call k e1=>have hp:k=9:=hp;omega
    | name=>have hp:(1:Int)=9:=hp;omega
    | index=>have hp:(5:Int)=9:=hp;omega
    | len=>have hp:(8:Int)=9:=hp;omega
    | field=>have hp:(6:Int)=9:=hp;omega
    | post=>have hp:(10:Int)=9:=hp;omega
    | unary=>have hp:(11:Int)=9:=hp;omega
    | bin|cat=>have hp:(12:Int)=9:=hp;omega
    | one|many=>have hp:(13:Int)=9:=hp;omega
    | cond=>have hp:(14:Int)=9:=hp;omega
    | assign=>have hp:(15:Int)=9:=hp;omega
 | @pre _ _ _ u o h1 h2 h3 h4 h5=>
  have fa:=fs.a (by show (12:Int)<=13;omega);have cm:=cm (by show (6:Int)<=13;omega);rw [Ep] at hz;refine ajJ (by rw [Ep];omega) b hb hbl cm fa ?_ hf;have hlf:=QO h5 h3;have r:=aej l ih (i:=i+1) ah h4 hj h5 h3 ah q 14 ah ah (hf.to (by have:b<=13:=hbl;omega));have:=aDg l hl (bE q 13) rfl (i:=i) (by rw [h2];rcases h1 with rfl|rfl<;>rfl) ah (by rcases hlf with e|e<;>rw [e]<;>rfl) r ah;rw [h2] at this;exact this
 | @post _ _ j u o h1 h2 h3 h4 h5=>
  have fa:=fs.a (by show (12:Int)<=13;omega);have cm:=cm (by show (6:Int)<=13;omega);rw [Ep] at hz;refine ajJ (by rw [Ep];omega) b hb hbl cm fa ?_ hf;have hlf:=QO h5 h3;have r:=aej l ih (i:=i) (j:=j) ah h4 ah h5 h3 ah q 14 ah ah (by rw [h2];exact aDP h1 q 14 ah);have:=aDh l hl (bE q 13) rfl r h3 (by rcases hlf with e|e<;>rw [e]<;>rfl) (by rw [h2];rcases h1 with rfl|rfl<;>rfl) ah ah ah;rw [h2] at this;exact this
 | @unary _ _ _ u h o h1 h2 h3 h4=>
  have cm:=cm (by show (6:Int)<=11;omega);have hbl:b<=11:=hbl;rw [Ep] at hz;have nL:q.aX=p.aX/\q.bg=p.bg:=by
   rcases hq with e|e
   .exact absurd e (by show¬(11:Int)<=9;omega)
   .exact e
  refine desc (by rw [Ep];omega) 11 b hb hbl ah (fun _=>cm) ?_ hf;have r:=ih.D (i+1) j ah _ u h h4 ah q nL.1 nL.2 11 ah ah (by
   cases h4 with
   | par=>exact .inl rfl
   | bare hfit=>exact .inr<|sZ hfit rfl) (hf.to hbl)
  have:=aDd l hl (bE q 11) rfl (i:=i) (by rw [h2];rcases h1 with rfl|rfl|rfl<;>rfl) ah r ah;rw [h2] at this;exact this
 | @bin _ _ m ff _ a c g1 g2 o h1 h2 h3 h4 h5 h6 h7 h8=>
  have nL:q.aX=p.aX/\q.bg=p.bg:=by
   rcases hq with e|e
   .exact absurd e (by show¬(12:Int)<=9;omega)
   .exact e
  have hg:o=62->q.bg=false:=fun e=>hgt rfl e;rw [JR] at hz;have hbl:b<=bL o:=hbl;have hlc:=h8.lt;have QU:m+1<=ff:=MG h6;rcases ajL h1 h2 with e|e|e|e|e|e|⟨e,e60⟩
  case inr.inr.inl|inr.inr.inr.inl=>
   obtain ⟨hch,s1,s2⟩:=aDU (o:=o) ah;have hA:=ih.D i m ah _ a g1 h7 ah q nL.1 nL.2 (bL o+1) ah ah (by
    cases h7 with
    | par=>exact .inl rfl
    | bare hfit=>exact .inr (by have:=sZ hfit rfl;have this:(kC o).1<=_:=this;omega)) (by rw [h3];exact ajI h1 h2 q _ ah)
   have hB:=ih.D ff j ah _ c g2 h8 ah q nL.1 nL.2 (kC o).2 ah ah (by
    cases h8 with
    | par=>exact .inl rfl
    | bare hfit=>exact .inr (by have:=sZ hfit rfl;have this:(kC o).2<=_:=this;omega)) (hf.to ah)
   have hst:=ajA hl hch (q:=bE q (bL o)) (c:=0) (Ch.first hch hA) ah ah (by rw [h3];exact arJ h1 h2 (bE q<|bL o) hg (by intro e0;subst e0;have:(12:Int)=_:=e;omega)) (m+1) ff o (.inr ⟨ah,rfl,h3.symm,ah⟩) ah (.inr (by
    rcases h6 with ⟨h6,_⟩|h6
    .omega
    .exact h6)) ah ah hB
   have hd:=Ch.done hch (q:=bE q (bL o)) (c:=1) rfl hst aM (.inr aM);exact desc (by rw [JR];omega) (bL o) b hb hbl ah (fun _=>cm<|by show 6<=bL o;omega) hd hf
  case inr.inr.inr.inr.inr.inr=>
   subst e60;have hbl:b<=12:=hbl;have fa:=fs.a (by show (12:Int)<=12;omega);have hcm:=cm (by show (6:Int)<=12;omega);have hA:=ih.D i m ah _ a g1 h7 ah q nL.1 nL.2 13 ah ah (by
    cases h7 with
    | par=>exact .inl rfl
    | bare hfit=>exact .inr<|sZ hfit rfl) (by rw [h3];exact ajI h1 h2 q _<|by show (12:Int) < 13;omega)
   have hff:ff=m+1:=by
    rcases h6 with ⟨h6,_⟩|h6
    .omega
    .exact h6.2
   subst hff;have aEb:kD (bE q 12) (kd l j):=hf.to hbl;have hB:=ih.D (m+1) j ah _ c g2 h8 ah q nL.1 nL.2 11 ah ah (by
    cases h8 with
    | par=>exact .inl rfl
    | bare hfit=>exact .inr<|sZ hfit rfl) aEb.eleven
   by_cases e12:b=12
   .subst e12;exact aDe l hl (bE q 12) rfl hA h3 ah ah hB ah
   .have nY:=aDo l hl (bE q 11) rfl (by rw [f fa.1,f fa.2.1,f fa.2.2];rfl) hA h3 ah ah hB ah;exact desc (by rw [JR];omega) 11 b hb ah ah (fun _=>hcm) nY hf
  all_goals
   obtain ⟨cc,hc,hch⟩:=arK l hl ih o hn ah h2 h3 h4 h5 h6 h7 h8 ah q nL.1 nL.2 (hf.to ah);have hd:=Ch.done (ajK (o:=o) ah).1 (q:=bE q (bL o)) rfl hch ah (.inl<|hf.2 (bL o) hbl);exact desc (by rw [JR];omega) (bL o) b hb hbl ah (fun h=>cm<|by show 6<=bL o;omega) hd hf
 | @cat _ _ m _ a c g1 g2 h1 h2 h3 h4=>
  have nL:q.aX=p.aX/\q.bg=p.bg:=by
   rcases hq with e|e
   .exact absurd e (by show¬(12:Int)<=9;omega)
   .exact e
  rw [JR] at hz;have hbl:b<=8:=hbl;have hcm:=cm (by show (6:Int)<=8;omega);obtain ⟨cc,hc,hch⟩:=arL l hl ih hn h1 h2 h3 h4 ah q nL.1 nL.2 (hf.to ah);have hd:=Ch.done (.inr<|.inr<|.inr<|.inr<|.inl ⟨rfl,rfl,rfl⟩) (q:=bE q 8) rfl hch ah (.inl<|hf.2 8 hbl);exact desc (by rw [JR];omega) 8 b hb hbl ah (fun h=>hcm) hd hf
 | @one _ _ m u h h1 h2 h3 h4=>
  have nL:q.aX=p.aX/\q.bg=p.bg:=by
   rcases hq with e|e
   .exact absurd e (by show¬(13:Int)<=9;omega)
   .exact e
  rw [Ep] at hz;have hbl:b<=5:=hbl;obtain ⟨cc,hc,hch⟩:=arM l hl ih hn h1 h2 h3 h4 ah q nL.1 nL.2 (hin rfl);have hd:=Cx.done l (bE q 5) rfl hch ah (hf.2 5 hbl);exact desc (by rw [Ep];omega) 5 b hb hbl ah (fun h=>absurd h ah) hd hf
 | @many _ _ m ts h1 h2 h3 h4 h5 h6 h7 h8=>
  have hbl:b<=5:=hbl;have hz':aK ts<=400:=by simp only [aQ] at hz;omega
  have hch:=arN l hl ih hn h1 h2 h3 h4 h5 h6 h7 h8 hz' q (hin rfl);have hd:=Cx.done l (bE q 5) rfl hch ah (hf.2 5 hbl);exact desc hz 5 b hb hbl ah (fun h=>absurd h ah) hd hf
 | @cond _ _ m n2 _ a c e g1 g2 g3 h1 h2 h3 h4 h5 h6 h7 h8=>
  have nL:q.aX=p.aX/\q.bg=p.bg:=by
   rcases hq with e|e
   .exact absurd e (by show¬(14:Int)<=9;omega)
   .exact e
  rw [arH] at hz;have hbl:b<=2:=hbl;have hA:=ih.D i m ah _ a g1 h6 ah q nL.1 nL.2 3 ah ah (by
   cases h6 with
   | par=>exact .inl rfl
   | bare hfit=>exact .inr<|sZ hfit rfl) (by rw [h2];exact aDN q 3 ah)
  have hB:=ih.D (m+1) n2 ah _ c g2 h7 ah q nL.1 nL.2 2 ah ah (by
   cases h7 with
   | par=>exact .inl rfl
   | bare hfit=>exact .inr<|sZ hfit rfl) (by rw [h4];exact aeh ah q 2 ah)
  have hC:=ih.D (n2+1) j ah _ e g3 h8 ah q nL.1 nL.2 2 ah ah (by
   cases h8 with
   | par=>exact .inl rfl
   | bare hfit=>exact .inr<|sZ hfit rfl) (hf.to hbl)
  have hd:=aDb l hl (bE q 2) rfl hA h2 ah ah hB h4 ah ah hC ah;exact desc (by rw [arH];omega) 2 b hb hbl ah (fun h=>absurd h ah) hd hf
 | @assign _ _ m _ a c g o h1 h2 h3 h4 h5 h6 h7=>
  have nL:q.aX=p.aX/\q.bg=p.bg:=by
   rcases hq with e|e
   .exact absurd e (by show¬(15:Int)<=9;omega)
   .exact e
  rw [JR] at hz;have hbl:b<=1:=hbl;have e1:b=1:=ah;subst e1;have hA:=aej l ih (i:=i) (j:=m) ah h3 ah h6 h5 ah q 2 ah ah (by rw [h2];exact aDQ h1 q 2 ah);have hB:=ih.D (m+1) j ah _ c g h7 ah q nL.1 nL.2 1 ah ah (by
   cases h7 with
   | par=>exact .inl rfl
   | bare hfit=>exact .inr<|sZ hfit rfl) hf
  have:=aDa l hl (bE q 1) rfl hA h5 (by rw [h2];exact h1) ah ah hB ah;rw [h2] at this;exact this
end
section
variable (l:List aG) (hl:l.length<=3000)
include hl
theorem aEc:∀ n,QX l n:=by
 intro n;induction n with
 | zero=>
  refine ⟨fun i j hn p t hij=>ah,fun i j hn p t h d=>by have:=d.lt;omega,fun i j hn p t h d=>by have:=d.lt;omega,fun i j hn p t h d=>by have:=d.lt;omega,fun i j hn ts en d=>?_⟩;cases d with
  | one h1=>omega
  | cons h1 h2 h3 h4=>have:=h3.1;omega
 | succ n ih=>
  have hN:∀ i j,j - i<=n+1->∀ p t,i < j->j<=l.length->iH l p i j t->aQ t<=400->∀ q,(t.kind<=9\/(q.aX=p.aX/\q.bg=p.bg))->(t.kind=13->q.aX=false)->(t.kind=12->t.op=62->q.bg=false)->∀ b,1<=b->b<=lv t.kind t.op->kD (bE q b) (kd l j)->Rd l (bE q b) i j t false:=
   fun i j hn p t hij hj d hz q hq hin hgt b hb hbl hf=>aDY l hl ih hn hij hj d hz q hq hin hgt b hb hbl hf
  have hD:∀ i j,j - i<=n+1->∀ p t h,gP l p i j t h->aQ t<=400->∀ q,q.aX=p.aX->q.bg=p.bg->∀ b,1<=b->b<=15->(h=true\/b<=lv t.kind t.op)->kD (bE q b) (kd l j)->Rd l (bE q b) i j t h:=by
   intro i j hn p t h d hz q q1 q2 b hb hb2 hh hf;have dd:=d;cases d with
   | @par _ _ j _ h' h1 h2 h3 h4 h5=>
    have hin:=ih.D (i+1) j ah dB t h' h4 hz dB rfl rfl 1 ah ah (by
     cases h4 with
     | par=>exact .inl rfl
     | bare hfit=>exact .inr<|sZ hfit rfl) (by rw [h5];exact aeh ah dB 1 ah)
    have r:=aDf l hl (bE q 15) rfl h1 ah hin h5 h3;exact QW hz b hb hb2 (dd.cm hl<|.inl rfl) (by rw [h1];decide) (by rw [h1];decide) (by rw [h1];decide) r hf
   | bare h1 h2 h3 h4=>
    have hbl:b<=lv t.kind t.op:=by
     rcases hh with e|e
     .cases e
     .exact e
    exact hN i j hn p t h2 h3 h4 hz q (.inr ⟨q1,q2⟩) (fun e=>by rw [q1];exact aDB h1 e) (fun e e'=>by rw [q2];exact aDC h1 e e') b hb hbl hf
  have hC:∀ i j,j - i<=n+1->∀ p t h,gP l p i j t h->aQ t<=400->∀ q,q.aX=p.aX->q.bg=p.bg->∀ v sd,Bb v 3000 sd->(h=true\/v<=lv t.kind t.op)->kD (bE q<|v+1) (kd l j)->∃ c,c < j - i/\Ch l v 3000 sd (bE q v) i j t h c:=by
   intro i j hn p t h d hz q q1 q2 v sd hch hh hf;have hv:=ZB hch;have hlt:=d.lt;by_cases hx:h=true\/v+1<=lv t.kind t.op
   .exact ⟨0,ah,Ch.first hch (q:=bE q v)<|hD i j hn p t h d hz q q1 q2 (v+1) ah ah hx hf⟩
   .have hv3:v=3\/v=4\/v=8\/v=9\/v=10:=by
     rcases hch with ⟨e,_⟩|⟨e,_⟩|⟨_,e,_⟩|⟨_,e,_⟩|⟨e,_⟩|⟨e,_⟩|⟨e,_⟩<;>omega
    cases d with
    | par=>exact absurd (.inl rfl) hx
    | bare h1 h2 h3 h4=>
     have he:lv t.kind t.op=v:=by
      rcases hh with e|e
      .cases e
      .have: ¬v+1<=lv t.kind t.op:=fun e=>hx (.inr e);omega
     cases h4 with
     | leaf k e1=>rcases e1 with rfl|rfl|rfl<;>(have he:(15:Int)=v:=he;omega)
     | name|index|len=>have he:(15:Int)=v:=he;omega
     | xk k e1|call k e1=>rcases e1 with rfl|rfl<;>(have he:(15:Int)=v:=he;omega)
     | field=>have he:(14:Int)=v:=he;omega
     | pre|post=>have he:(13:Int)=v:=he;omega
     | unary=>have he:(11:Int)=v:=he;omega
     | one|many=>have he:(5:Int)=v:=he;omega
     | cond=>have he:(2:Int)=v:=he;omega
     | assign=>have he:(1:Int)=v:=he;omega
     | bin o g1 g2 g3 g4 g5 g6 g7 g8=>
      have he:bL o=v:=he;rw [JR] at hz;have hov:=ajL g1 g2;obtain ⟨aKt,_⟩:=ajK (o:=o) ah;have hsd:sd=kC o:=by
       subst he;rcases hch with ⟨e,_,rfl⟩|⟨e,_,rfl⟩|⟨_,e,_⟩|⟨_,e,_⟩|⟨e,_,rfl⟩|⟨e,_,rfl⟩|⟨e,_,rfl⟩<;>first|omega|(unfold kC;rw [e];rfl)
      subst he;subst hsd;exact arK l hl ih o hn ah g2 g3 g4 g5 g6 g7 g8 ah q q1 q2 hf
     | cat g1 g2 g3 g4=>
      have he:(8:Int)=v:=he;subst he;rw [JR] at hz;have hsd:sd=(8,9):=by
       rcases hch with ⟨e,_,rfl⟩|⟨e,_,rfl⟩|⟨_,e,_⟩|⟨_,e,_⟩|⟨e,_,rfl⟩|⟨e,_,rfl⟩|⟨e,_,rfl⟩<;>first|omega|rfl
      subst hsd;exact arL l hl ih hn g1 g2 g3 g4 ah q q1 q2 hf
  have hI:∀ i j,j - i<=n+1->∀ p t h,gP l p i j t h->aQ t<=400->∀ q,q.aX=p.aX->q.bg=p.bg->q.aX=false->(h=true\/5<=lv t.kind t.op)->kD (bE q 6) (kd l j)->∃ c,c < j - i/\Cx l (bE q 5) i j t h c:=by
   intro i j hn p t h d hz q q1 q2 q3 hh hf;have hlt:=d.lt;by_cases hx:h=true\/6<=lv t.kind t.op
   .exact ⟨0,ah,arw l (bE q 5) (fun _=>d.cm hl hx)<|hD i j hn p t h d hz q q1 q2 6 ah ah hx hf⟩
   .cases d with
    | par=>exact absurd (.inl rfl) hx
    | bare h1 h2 h3 h4=>
     have he:lv t.kind t.op=5:=by
      rcases hh with e|e
      .cases e
      .have: ¬6<=lv t.kind t.op:=fun e=>hx (.inr e);omega
     cases h4 with
     | leaf k e1=>rcases e1 with rfl|rfl|rfl<;>(have he:(15:Int)=5:=he;omega)
     | name|index|len=>have he:(15:Int)=5:=he;omega
     | xk k e1|call k e1=>rcases e1 with rfl|rfl<;>(have he:(15:Int)=5:=he;omega)
     | field=>have he:(14:Int)=5:=he;omega
     | pre|post=>have he:(13:Int)=5:=he;omega
     | unary=>have he:(11:Int)=5:=he;omega
     | cond=>have he:(2:Int)=5:=he;omega
     | assign=>have he:(1:Int)=5:=he;omega
     | bin o g1 g2=>
      have he:bL o=5:=he;have:=ajL g1 g2;omega
     | cat=>have he:(8:Int)=5:=he;omega
     | one g1 g2 g3 g4=>
      rw [Ep] at hz;exact arM l hl ih hn g1 g2 g3 g4 ah q q1 q2 q3
     | @many _ _ _ ts g1 g2 g3 g4 g5 g6 g7 g8=>
      have hz':aK ts<=400:=by simp only [aQ] at hz;omega
      exact ⟨0,ah,arN l hl ih hn g1 g2 g3 g4 g5 g6 g7 g8 hz' q q3⟩
  have hL:∀ i j,j - i<=n+1->∀ ts en,yH l i j ts->kd l j=en->(en=33\/en=35)->j < l.length->aK ts<=400->MR l en i (j+1) ts:=by
   intro i j hn ts en d hk hen hj hz;cases d with
   | @one _ _ t h h1 h2=>
    have hz':aQ t<=400:=by simp only [aK] at hz;omega
    refine ⟨h,j,?_,h1,hj,hk,rfl⟩;exact hD i j hn dB t h h2 hz' dB rfl rfl 1 ah ah (by
     cases h2 with
     | par=>exact .inl rfl
     | bare hfit=>exact .inr<|sZ hfit rfl) (by rw [hk];exact aeh ah dB 1 ah)
   | @cons _ k f _ t u ts h h1 h2 h3 h4 h5 h6=>
    have h3':=h3.1;have hz1:aQ t<=400:=by simp only [aK] at hz;omega
    have hz2:aK (u::ts)<=400:=by simp only [aK] at hz ⊢;omega
    refine ⟨h,k,f,?_,h1,ah,h2,h3,ih.L f j ah _ en h6 hk hen hj hz2⟩;exact hD i k ah dB t h h5 hz1 dB rfl rfl 1 ah ah (by
     cases h5 with
     | par=>exact .inl rfl
     | bare hfit=>exact .inr<|sZ hfit rfl) (by rw [h2];exact aeh ah dB 1 ah)
  exact ⟨hN,hD,hC,hI,hL⟩
theorem aEd {p:aF} {i j:Nat} {t:aC} {h:Bool} (d:gP l p i j t h) (hz:aQ t<=400) (q:aF) (q1:q.aX=p.aX) (q2:q.bg=p.bg) (b:Int) (hb:1<=b) (hb2:b<=15) (hh:h=true\/b<=lv t.kind t.op) (hf:kD (bE q b) (kd l j)):Rd l (bE q b) i j t h:=
 (aEc l hl<|j - i).D i j (eU _) p t h d hz q q1 q2 b hb hb2 hh hf
end
structure CN (t:aC):Prop where
 tq:(t.kind==9||(t.kind==10||(t.kind==11||(t.kind==12||t.kind==15))))=false->t.op=0
 oth:t.other=[]
 QY:t.kind=6\/t.kind=9\/t.kind=10\/t.kind=11\/t.kind=12\/t.kind=14\/t.kind=15->t.text=[]
 k9:t.kind=9\/t.kind=10->t.op=51\/t.op=52
 k11:t.kind=11->t.op=55\/t.op=56\/t.op=61
 k15:t.kind=15->sW t.op=true
 many:t.kind=5\/t.kind=7\/t.kind=8\/t.kind=13->t.kids.length<=6
def iH.lt {l:List aG} {p:aF} {i j:Nat} {t:aC} (d:iH l p i j t):i < j:=by
 cases d with
 | bin o h1 h2 h3 h4 h5 h6=>have:=MG h6;omega
 | _=>omega
def yH.lt {l:List aG} {i j:Nat} {ts:List aC} (d:yH l i j ts):i < j/\j<=l.length:=by
 cases d with
 | one h1 h2=>exact h2.lt
 | cons h1 h2 h3 h4 h5 h6=>
  have:=h3.1;refine ⟨ah,?_⟩;clear h1 h2 h3 h5;have key:∀ (ts:List aC) (i:Nat),yH l i j ts->j<=l.length:=by
   intro ts;induction ts with
   | nil=>intro i d;cases d
   | cons t ts ih=>
    intro i d;cases d with
    | one h1 h2=>exact h2.lt.2
    | cons h1 h2 h3 h4 h5 h6=>exact ih _ h6
  exact key _ _ h6
def Sg.pos {l:List aG} {i:Nat} {x:List aG} (h:Sg l i x) (hx:0 < x.length):i+x.length<=l.length:=by
 cases x with
 | nil=>simp at hx
 | cons t y=>
  obtain ⟨hi,_⟩:=h.hd;exact h.len ah
def aiz {k o:Int} (h:lv k o≠0):jL k o dB=true:=by
 have h1:1<=lv k o:=by
  by_cases e:k=12
  .subst e;have h:bL o≠0:=h;show 1<=bL o;rcases JQ h with e|e|e|e|e|e|e|e|e|e|e|e|e|e|e|e|e<;>subst e<;>decide
  .have key:∀ {c:Bool} {x y:Int},(x=0\/1<=x)->(y=0\/1<=y)->(bif c then x else y)=0\/1<=(bif c then x else y):=fun {c x y} hx hy=>by cases c<;>assumption
   have:lv k o=0\/1<=lv k o:=by
    unfold lv;have e12:(k==12)=false:=by simpa using e
    rw [e12];exact key (.inr ah) (key (.inr ah)<|key (.inr ah)<|by rw [aJ];exact key (.inr ah)<|key (.inr ah)<|key (.inr ah)<|key (.inr ah)<|.inl rfl)
   omega
 have h0:(lv k o==0)=false:=by simpa using h
 unfold jL;rw [h0];show (true&&(true&&(true&&(true&&(false||decide (lv k o>=1))))))=true;simp only [Df,VY,oo];omega
def aEf {k o:Int} {p:aF} (hp:posB p=true) (he:eF k=true) (hl:lv k o=15) (h4:k≠4):jL k o p=true:=by
 have ho:=MQ o;have hpl:p.Level<=15:=by
  unfold posB at hp;simp only [eu,oo] at hp;exact hp.1.2
 have hk:k=1\/k=2\/k=3\/k=5\/k=7\/k=8:=by
  rcases kinds he with e|e|e|e|e|e|e|e|e|e|e|e|e|e|e<;>subst e<;>first
   | omega
   | (exfalso;have hl:bL o=15:=hl;omega)
   | (exfalso;have hl:(14:Int)=15:=hl;omega)
   | (exfalso;have hl:(13:Int)=15:=hl;omega)
   | (exfalso;have hl:(11:Int)=15:=hl;omega)
   | (exfalso;have hl:(5:Int)=15:=hl;omega)
   | (exfalso;have hl:(2:Int)=15:=hl;omega)
   | (exfalso;have hl:(1:Int)=15:=hl;omega)
 unfold jL;rw [hp,hl];have hlv:decide ((15:Int)>=p.Level)=true:=by simpa using hpl
 rw [hlv];rcases hk with rfl|rfl|rfl|rfl|rfl|rfl<;>simp
def PrB (f:Bool) (t:aC):Prop:=∀ (l:List aG) (p:aF) (i:Nat),posB p=true->Sg l i (bT f t p)->iH l p i (i+(bT f t p).length) t
def PrE (f:Bool) (t:aC):Prop:=∀ (l:List aG) (p:aF) (i:Nat),posB p=true->Sg l i (dh f t p)->∃ h,gP l p i (i+(dh f t p).length) t h
def aEg {f:Bool} {t:aC} (g:GN t) (hB:PrB f t):PrE f t:=by
 intro l p i hp hs;unfold dh at hs ⊢;have top:=aiz g.lv;cases hpar:JF f t.kind t.op p with
 | true=>
  rw [hpar,zH,aS] at hs;rw [zH,aS];have h1:=hs.kd;have h2:Sg l (i+1) (bT f t dB++[sg 33]):=hs.tl;have d:=hB l dB (i+1) rfl h2.left;have hlt:=d.lt;have h3:Sg l (i+1+(bT f t dB).length) (sg 33::[]):=h2.right;obtain ⟨h4,_⟩:=h3.hd;have:=gP.par (p:=p) h1 ah h4 (.bare top hlt ah d) h3.kd;refine ⟨true,?_⟩;have e:i+(sg 32::(bT f t dB++[sg 33])).length=i+1+(bT f t dB).length+1:=aU;rw [e];exact this
 | false=>
  rw [hpar,zH,aJ] at hs;rw [zH,aJ];have d:=hB l p i hp hs;have hlt:=d.lt;have hfit:jL t.kind t.op p=true:=by
   unfold JF at hpar;cases f with
   | false=>simpa using hpar
   | true=>
    simp only [aS,KF,bne_eq_false_iff_eq,aaN] at hpar;exact aEf hp g.e hpar.1 hpar.2
  exact ⟨false,.bare hfit hlt (hs.pos ah) d⟩
def ZF (f:Bool) (k o:Int) (n:Nat) (p:aF) (hk:∀ j,bP k o n j p=dB) (ht:∀ j,tgt k j=false):∀ (ts:List aC) (j i:Nat) (l:List aG),(∀ t,t∈ts->PrE f t)->ts≠[]->Sg l i (dK false<|aZ f k o n j p ts)->yH l i (i+(dK false<|aZ f k o n j p ts).length) ts
 | [],_,_,_,_,h,_=>absurd rfl h
 | [t],j,i,l,hP,_,hs=>by
  have e:dK false (aZ f k o n j p [t])=dh f t dB:=by
   rw [dV,aZ];unfold bD;rw [ht j,aJ,hk j];show []++(dh f t dB++[])=_;simp
  rw [e] at hs ⊢;obtain ⟨h,d⟩:=hP t aA l dB i rfl hs;exact .one d.lt.1 d
 | t::u::ts,j,i,l,hP,_,hs=>by
  have e:dK false (aZ f k o n j p<|t::u::ts)=dh f t dB++sg 36::dK false (aZ f k o n (j+1) p<|u::ts):=by
   rw [dV,dV];unfold bD;rw [ht j,aJ,hk j];show []++(dh f t dB++([sg 36]++_))=_;simp [dK]
  rw [e] at hs ⊢;obtain ⟨h,d⟩:=hP t aA l dB i rfl hs.left;have h2:=hs.right;have dl:=ZF f k o n p hk ht (u::ts) (j+1) _ l (fun v hv=>hP v<|by simp [hv]) aA h2.tl;have hop:=arI dl;have hd:=d.lt;have hdl:=dl.lt;have e2:i+(dh f t dB++sg 36::dK false (aZ f k o n (j+1) p<|u::ts)).length=i+(dh f t dB).length+1+(dK false<|aZ f k o n (j+1) p<|u::ts).length:=aU;rw [e2];exact .cons hd.1 h2.kd ⟨eU _,fun k h1 h2=>ah,(fun e=>by rw [e] at hop;cases hop),(fun e=>by rw [e] at hop;cases hop)⟩ hdl.1 d dl
def Sg.tx {l:List aG} {i:Nat} {t:aG} {y:List aG} (h:Sg l i (t::y)):qR l i=t.Text:=by
 obtain ⟨hi,e⟩:=h.hd;rw [Il hi,e]
def JU {t:aC} (h:t.kids.length=1):∃ u,t.kids=[u]:=by
 match e:t.kids,h with
 | [a],_=>exact ⟨a,rfl⟩
def ajP {f:Bool} {u:aC} (g:allT GN u) (hL:jE u.kind=true) (p:aF):bT f u p=bT f u uZ:=(aiB f u g).1 p uZ (.inr<|aiC hL)
def VO (f:Bool):∀ t:aC,allT GN t->allT CN t->PrB f t:=by
 intro t;induction t using yC with
 | h t ih=>
  intro hg hc;have g:=wM hg;have c:=wM hc;have gk:=Cq hg;have ck:=Cq hc;have MW:∀ u,u∈t.kids->PrB f u:=fun u hu=>ih u hu (gk u hu) (ck u hu);have zO:∀ u,u∈t.kids->PrE f u:=fun u hu=>aEg (wM<|gk u hu) (MW u hu);obtain ⟨k,o,x,y,ks⟩:=t;have hy:y=[]:=c.oth;subst hy;intro l p i hp hs;rcases kinds g.e with e|e|e|e|e|e|e|e|e|e|e|e|e|e|e<;>(have e:k=_:=e;subst e)
  case inl=>
   have hk0:ks=[]:=Gt.1 (g.a0<|.inl rfl);have ho:o=0:=c.tq rfl;subst hk0 ho;have et:bT f ⟨1,0,x,[],[]⟩ p=[(⟨6,x,0⟩:aG)]:=by rw [gy];rfl
   rw [et] at hs ⊢;have hx:qR l i=x:=hs.tx;rw [<- hx];exact .name hs.kd
  case inr.inl=>
   have hk0:ks=[]:=Gt.1 (g.a0<|.inr<|.inl rfl);have ho:o=0:=c.tq rfl;subst hk0 ho;have et:bT f ⟨2,0,x,[],[]⟩ p=[(⟨3,x,0⟩:aG)]:=by rw [gy];rfl
   rw [et] at hs ⊢;have hx:qR l i=x:=hs.tx;rw [<- hx];exact .leaf 3 (.inl rfl) hs.kd
  case inr.inr.inl=>
   have hk0:ks=[]:=Gt.1 (g.a0<|.inr<|.inr<|.inl rfl);have ho:o=0:=c.tq rfl;subst hk0 ho;have et:bT f ⟨3,0,x,[],[]⟩ p=[(⟨4,x,0⟩:aG)]:=by rw [gy];rfl
   rw [et] at hs ⊢;have hx:qR l i=x:=hs.tx;rw [<- hx];exact .leaf 4 (.inr<|.inl rfl) hs.kd
  case inr.inr.inr.inl=>
   have hk0:ks=[]:=Gt.1 (g.a0<|.inr<|.inr<|.inr rfl);have ho:o=0:=c.tq rfl;subst hk0 ho;have et:bT f ⟨4,0,x,[],[]⟩ p=[(⟨5,x,0⟩:aG)]:=by rw [gy];rfl
   rw [et] at hs ⊢;have hx:qR l i=x:=hs.tx;rw [<- hx];exact .leaf 5 (.inr<|.inr rfl) hs.kd
  case inr.inr.inr.inr.inl=>
   have ho:o=0:=c.tq rfl;subst ho;have hm:ks.length<=6:=c.many (.inl rfl);have hn:ks≠[]:=by
    have:=g.ai (.inl rfl);intro e;subst e;simp at this
   have et:bT f ⟨5,0,x,[],ks⟩ p=⟨6,x,0⟩::sg 34::(dK false (aZ f 5 0 ks.length 0 p ks)++[sg 35]):=by rw [gy];rfl
   rw [et] at hs ⊢;have hx:qR l i=x:=hs.tx;have h2:=hs.tl;have h3:Sg l (i+1+1) (dK false (aZ f 5 0 ks.length 0 p ks)++[sg 35]):=h2.tl;have dl:=ZF f 5 0 ks.length p (fun _=>rfl) (fun j=>by unfold tgt;simp) ks 0 _ l zO hn h3.left;have h4:=h3.right;have e2:i+((⟨6,x,0⟩:aG)::sg 34::(dK false (aZ f 5 0 ks.length 0 p ks)++[sg 35])).length=i+1+1+(dK false<|aZ f 5 0 ks.length 0 p ks).length+1:=aU;rw [e2,<- hx];have:=dl.lt;exact .index hs.kd h2.kd ah h4.hd.1 h4.kd hm dl
  case inr.inr.inr.inr.inr.inl=>
   have ho:o=0:=c.tq rfl;have hx:x=[]:=c.QY (.inl rfl);subst ho hx;obtain ⟨u,e1⟩:=JU (g.a1<|.inl rfl);have e1:ks=[u]:=e1;subst e1;have et:bT f ⟨6,0,[],[],[u]⟩ p=sg 68::dh f u ⟨14,true,false,false,false⟩:=by
    rw [gy];show sg 68::(aZ f 6 0 1 0 p [u]).getD 0 []=_;rw [dV];have:bD f 6 0 1 0 p u=dh f u (bP 6 0 1 0 p):=rfl;show sg 68::bD f 6 0 1 0 p u=_;rw [this,(aiB f u<|gk u aA).2 (bP 6 0 1 0 p) ⟨14,true,false,false,false⟩<|.inr ⟨rfl,rfl,rfl,rfl⟩]
   rw [et] at hs ⊢;obtain ⟨h,d⟩:=zO u aA l ⟨14,true,false,false,false⟩ (i+1) rfl hs.tl;have:=d.lt;have e2:i+(sg 68::dh f u ⟨14,true,false,false,false⟩).length=i+1+(dh f u ⟨14,true,false,false,false⟩).length:=aU;rw [e2];exact .field hs.kd ah d
  case inr.inr.inr.inr.inr.inr.inl=>
   have ho:o=0:=c.tq rfl;subst ho;have hm:ks.length<=6:=c.many (.inr<|.inl rfl);have et:bT f ⟨7,0,x,[],ks⟩ p=⟨7,x,0⟩::sg 32::(dK false (aZ f 7 0 ks.length 0 p ks)++[sg 33]):=by rw [gy];rfl
   rw [et] at hs ⊢;have hx:qR l i=x:=hs.tx;have h2:=hs.tl;have h3:Sg l (i+1+1) (dK false (aZ f 7 0 ks.length 0 p ks)++[sg 33]):=h2.tl;by_cases hn:ks=[]
   .subst hn;have h3:Sg l (i+1+1) ([]++[sg 33]):=by rw [aZ] at h3;exact h3
    rw [aZ,<- hx];exact .xk 7 (.inl rfl) hs.kd h2.kd (Sg.kd h3)
   .have dl:=ZF f 7 0 ks.length p (fun _=>rfl) (fun j=>by unfold tgt;simp) ks 0 _ l zO hn h3.left;have h4:=h3.right;have e2:i+((⟨7,x,0⟩:aG)::sg 32::(dK false (aZ f 7 0 ks.length 0 p ks)++[sg 33])).length=i+1+1+(dK false<|aZ f 7 0 ks.length 0 p ks).length+1:=aU;rw [e2,<- hx];have:=dl.lt;exact .call 7 (.inl rfl) hs.kd h2.kd ah h4.hd.1 h4.kd hm dl
  case inr.inr.inr.inr.inr.inr.inr.inl=>
   have ho:o=0:=c.tq rfl;subst ho;have hm:ks.length<=6:=c.many (.inr<|.inr<|.inl rfl);have et:bT f ⟨8,0,x,[],ks⟩ p=⟨8,x,0⟩::sg 32::(dK false (aZ f 8 0 ks.length 0 p ks)++[sg 33]):=by rw [gy];rfl
   rw [et] at hs ⊢;have hx:qR l i=x:=hs.tx;have h2:=hs.tl;have h3:Sg l (i+1+1) (dK false (aZ f 8 0 ks.length 0 p ks)++[sg 33]):=h2.tl;by_cases hn:ks=[]
   .subst hn;have h3:Sg l (i+1+1) ([]++[sg 33]):=by rw [aZ] at h3;exact h3
    rw [aZ,<- hx];exact .xk 8 (.inr rfl) hs.kd h2.kd (Sg.kd h3)
   .have dl:=ZF f 8 0 ks.length p (fun _=>rfl) (fun j=>by unfold tgt;simp) ks 0 _ l zO hn h3.left;have h4:=h3.right;have e2:i+((⟨8,x,0⟩:aG)::sg 32::(dK false (aZ f 8 0 ks.length 0 p ks)++[sg 33])).length=i+1+1+(dK false<|aZ f 8 0 ks.length 0 p ks).length+1:=aU;rw [e2,<- hx];have:=dl.lt;exact .call 8 (.inr rfl) hs.kd h2.kd ah h4.hd.1 h4.kd hm dl
  case inr.inr.inr.inr.inr.inr.inr.inr.inl=>
   have hx:x=[]:=c.QY (.inr<|.inl rfl);subst hx;obtain ⟨u,e1⟩:=JU (g.a1<|.inr<|.inl rfl);have e1:ks=[u]:=e1;subst e1;have hL:jE u.kind=true:=g.kl u rfl (.inl rfl);have et:bT f ⟨9,o,[],[],[u]⟩ p=sg o::bT f u uZ:=by
    rw [gy];show sg o::(aZ f 9 o 1 0 p [u]).getD 0 []=_;rw [dV];show sg o::bD f 9 o 1 0 p u=_;have:bD f 9 o 1 0 p u=bT f u (bP 9 o 1 0 p):=rfl;rw [this,ajP (gk u aA) hL]
   rw [et] at hs ⊢;have d:=MW u aA l uZ (i+1) rfl hs.tl;have:=d.lt;have e2:i+(sg o::bT f u uZ).length=i+1+(bT f u uZ).length:=aU;rw [e2];exact .pre o (c.k9<|.inl rfl) hs.kd hL ah d
  case inr.inr.inr.inr.inr.inr.inr.inr.inr.inl=>
   have hx:x=[]:=c.QY (.inr<|.inr<|.inl rfl);subst hx;obtain ⟨u,e1⟩:=JU (g.a1<|.inr<|.inr<|.inl rfl);have e1:ks=[u]:=e1;subst e1;have hL:jE u.kind=true:=g.kl u rfl (.inr<|.inl rfl);have et:bT f ⟨10,o,[],[],[u]⟩ p=bT f u uZ++[sg o]:=by
    rw [gy];show (aZ f 10 o 1 0 p [u]).getD 0 []++[sg o]=_;rw [dV];show bD f 10 o 1 0 p u++[sg o]=_;have:bD f 10 o 1 0 p u=bT f u (bP 10 o 1 0 p):=rfl;rw [this,ajP (gk u aA) hL]
   rw [et] at hs ⊢;have d:=MW u aA l uZ i rfl hs.left;have:=d.lt;have e2:i+(bT f u uZ++[sg o]).length=i+(bT f u uZ).length+1:=aU;rw [e2];exact .post o (c.k9<|.inr rfl) hs.right.kd hL ah d
  case inr.inr.inr.inr.inr.inr.inr.inr.inr.inr.inl=>
   have hx:x=[]:=c.QY (.inr<|.inr<|.inr<|.inl rfl);subst hx;obtain ⟨u,e1⟩:=JU (g.a1<|.inr<|.inr<|.inr rfl);have e1:ks=[u]:=e1;subst e1;have et:bT f ⟨11,o,[],[],[u]⟩ p=sg o::dh f u ⟨11,false,p.aX,p.bg,false⟩:=by
    rw [gy];show sg o::(aZ f 11 o 1 0 p [u]).getD 0 []=_;rw [dV];rfl
   rw [et] at hs ⊢;obtain ⟨h,d⟩:=zO u aA l ⟨11,false,p.aX,p.bg,false⟩ (i+1) rfl hs.tl;have:=d.lt;have e2:i+(sg o::dh f u ⟨11,false,p.aX,p.bg,false⟩).length=i+1+(dh f u ⟨11,false,p.aX,p.bg,false⟩).length:=aU;rw [e2];exact .unary o (c.k11 rfl) hs.kd ah d
  case inr.inr.inr.inr.inr.inr.inr.inr.inr.inr.inr.inl=>
   have hx:x=[]:=c.QY (.inr<|.inr<|.inr<|.inr<|.inl rfl);subst hx;obtain ⟨a,b,e1⟩:=MI (g.a2<|.inl rfl);have e1:ks=[a,b]:=e1;subst e1;have hlv:bL o≠0:=g.lv;have hpa:posB (bP 12 o 2 0 p)=true:=um rfl;have hpb:posB (bP 12 o 2 1 p)=true:=um rfl;have et0:bT f ⟨12,o,[],[],[a,b]⟩ p=dh f a (bP 12 o 2 0 p)++((bif o==99 then [] else [sg o])++dh f b (bP 12 o 2 1 p)):=by
    rw [gy];show (aZ f 12 o 2 0 p [a,b]).getD 0 []++((bif o==99 then [] else [sg o])++(aZ f 12 o 2 0 p [a,b]).getD 1 [])=_;rw [dV,dV];rfl
   by_cases pG:o=99
   .subst pG;have et:bT f ⟨12,99,[],[],[a,b]⟩ p=dh f a (bP 12 99 2 0 p)++dh f b (bP 12 99 2 1 p):=et0;rw [et] at hs ⊢;obtain ⟨h1,da⟩:=zO a aA l _ i hpa hs.left;obtain ⟨h2,db⟩:=zO b aA l _ _ hpb hs.right;have ha:=da.lt;have hb:=db.lt;have e2:i+(dh f a (bP 12 99 2 0 p)++dh f b (bP 12 99 2 1 p)).length=i+(dh f a<|bP 12 99 2 0 p).length+(dh f b<|bP 12 99 2 1 p).length:=aU;rw [e2];exact .cat ha.1 hb.1 da db
   .have arP:(o==99)=false:=by simpa using pG
    have et:bT f ⟨12,o,[],[],[a,b]⟩ p=dh f a (bP 12 o 2 0 p)++sg o::dh f b (bP 12 o 2 1 p):=by rw [et0,arP];rfl
    rw [et] at hs ⊢;obtain ⟨h1,da⟩:=zO a aA l _ i hpa hs.left;have hr:=hs.right;obtain ⟨h2,db⟩:=zO b aA l _ _ hpb hr.tl;have ha:=da.lt;have hb:=db.lt;have hop:=db.first.o
    have e2:i+(dh f a (bP 12 o 2 0 p)++sg o::dh f b (bP 12 o 2 1 p)).length=i+(dh f a<|bP 12 o 2 0 p).length+1+(dh f b<|bP 12 o 2 1 p).length:=aU;rw [e2];have hpos:bP 12 o 2 1 p=⟨(kC o).2,false,p.aX,p.bg,false⟩:=by
     show (⟨(kC o).2,false,p.aX,p.bg,o==99⟩:aF)=_;rw [arP]
    rw [hpos] at db hb ⊢;refine .bin o hlv pG hr.kd ha.1 hb.1 ?_ da db;by_cases FU:bL o=3\/bL o=4
    .exact .inl ⟨FU,eU _,fun k h1 h2=>ah,(fun e=>by rw [e] at hop;cases hop),(fun e=>by rw [e] at hop;cases hop)⟩
    .exact .inr ⟨FU,rfl⟩
  case inr.inr.inr.inr.inr.inr.inr.inr.inr.inr.inr.inr.inl=>
   have ho:o=0:=c.tq rfl;subst ho;have hm:ks.length<=6:=c.many (.inr<|.inr<|.inr rfl);have h1:1<=ks.length:=g.ai (.inr rfl);by_cases hn:ks.length=1
   .obtain ⟨u,e1⟩:=JU (t:=⟨13,0,x,[],ks⟩) hn;have e1:ks=[u]:=e1;subst e1;have et:bT f ⟨13,0,x,[],[u]⟩ p=dh f u ⟨5,false,p.aX,p.bg,p.eH⟩++[sg 24,⟨6,x,0⟩]:=by
     rw [gy];show (aZ f 13 0 1 0 p [u]).getD 0 []++[sg 24,⟨6,x,0⟩]=_;rw [dV];rfl
    rw [et] at hs ⊢;obtain ⟨h,d⟩:=zO u aA l ⟨5,false,p.aX,p.bg,p.eH⟩ i rfl hs.left;have hd:=d.lt;have hr:=hs.right;have hr2:=hr.tl;have e2:i+(dh f u ⟨5,false,p.aX,p.bg,p.eH⟩++[sg 24,⟨6,x,0⟩]).length=i+(dh f u ⟨5,false,p.aX,p.bg,p.eH⟩).length+2:=aU;have hx:qR l (i+(dh f u ⟨5,false,p.aX,p.bg,p.eH⟩).length+1)=x:=hr2.tx;rw [e2];have:=iH.one (p:=p) hd.1 hr.kd hr2.kd d;rw [hx] at this;exact this
   .have h2:decide (ks.length > 1)=true:=aU;have hlen:∀ j,(aZ f 13 0 ks.length j p ks).length=ks.length:=fun j=>MH f 13 0 ks.length p ks j;have et:bT f ⟨13,0,x,[],ks⟩ p=sg 32::(dK false (aZ f 13 0 ks.length 0 p ks)++sg 33::[sg 24,⟨6,x,0⟩]):=by
     rw [gy];show (bif decide ((aZ f 13 0 ks.length 0 p ks).length > 1) then sg 32::(dK false (aZ f 13 0 ks.length 0 p ks)++[sg 33]) else (aZ f 13 0 ks.length 0 p ks).getD 0 [])++[sg 24,⟨6,x,0⟩]=_;rw [hlen,h2,aS];simp
    rw [et] at hs ⊢;have hkp:∀ j,bP 13 0 ks.length j p=dB:=fun j=>by
     show (bif decide (ks.length > 1) then (⟨1,false,false,false,false⟩:aF) else _)=_;rw [h2];rfl
    have hnn:ks≠[]:=by intro e;subst e;simp at h1
    have h3:Sg l (i+1) (dK false (aZ f 13 0 ks.length 0 p ks)++sg 33::[sg 24,⟨6,x,0⟩]):=hs.tl;have dl:=ZF f 13 0 ks.length p hkp (fun j=>by unfold tgt;simp) ks 0 _ l zO hnn h3.left;have hd:=dl.lt;have h4:=h3.right;have h5:=h4.tl;have h6:=h5.tl;have e2:i+(sg 32::(dK false (aZ f 13 0 ks.length 0 p ks)++sg 33::[sg 24,⟨6,x,0⟩])).length=i+1+(dK false<|aZ f 13 0 ks.length 0 p ks).length+3:=aU;have hx:qR l (i+1+(dK false<|aZ f 13 0 ks.length 0 p ks).length+2)=x:=h6.tx;rw [e2];have:=iH.many (p:=p) hs.kd hd.1 h4.kd h5.kd h6.kd ah hm dl;rw [hx] at this;exact this
  case inr.inr.inr.inr.inr.inr.inr.inr.inr.inr.inr.inr.inr.inl=>
   have ho:o=0:=c.tq rfl;have hx:x=[]:=c.QY (.inr<|.inr<|.inr<|.inr<|.inr<|.inl rfl);subst ho hx;obtain ⟨a,b,cc,e1⟩:=adF (g.a3 rfl);have e1:ks=[a,b,cc]:=e1;subst e1;have et:bT f ⟨14,0,[],[],[a,b,cc]⟩ p=dh f a ⟨3,false,p.aX,p.bg,p.eH⟩++sg 65::(dh f b ⟨2,false,p.aX,p.bg,false⟩++sg 66::dh f cc ⟨2,false,p.aX,p.bg,false⟩):=by
    rw [gy];show (aZ f 14 0 3 0 p [a,b,cc]).getD 0 []++(sg 65::((aZ f 14 0 3 0 p [a,b,cc]).getD 1 []++(sg 66::(aZ f 14 0 3 0 p [a,b,cc]).getD 2 [])))=_;rw [dV,dV,dV];rfl
   rw [et] at hs ⊢;obtain ⟨h1,da⟩:=zO a aA l _ i rfl hs.left;have hr:=hs.right;obtain ⟨h2,db⟩:=zO b aA l _ _ rfl hr.tl.left;have hr2:=hr.tl.right;obtain ⟨h3,dc⟩:=zO cc aA l _ _ rfl hr2.tl;have ha:=da.lt;have hb:=db.lt;have hcc:=dc.lt;have e2:i+(dh f a ⟨3,false,p.aX,p.bg,p.eH⟩++sg 65::(dh f b ⟨2,false,p.aX,p.bg,false⟩++sg 66::dh f cc ⟨2,false,p.aX,p.bg,false⟩)).length=i+(dh f a ⟨3,false,p.aX,p.bg,p.eH⟩).length+1+(dh f b ⟨2,false,p.aX,p.bg,false⟩).length+1+(dh f cc ⟨2,false,p.aX,p.bg,false⟩).length:=aU;rw [e2];exact .cond ha.1 hr.kd hb.1 hr2.kd hcc.1 da db dc
  case inr.inr.inr.inr.inr.inr.inr.inr.inr.inr.inr.inr.inr.inr=>
   have hx:x=[]:=c.QY (.inr<|.inr<|.inr<|.inr<|.inr<|.inr rfl);subst hx;obtain ⟨a,b,e1⟩:=MI (g.a2<|.inr rfl);have e1:ks=[a,b]:=e1;subst e1;have hL:jE a.kind=true:=g.kl a rfl (.inr<|.inr rfl);have pG:(o==99)=false:=by
    have:=g.op rfl;simpa using this
   have et:bT f ⟨15,o,[],[],[a,b]⟩ p=bT f a uZ++sg o::dh f b ⟨1,false,p.aX,p.bg,false⟩:=by
    rw [gy];show (aZ f 15 o 2 0 p [a,b]).getD 0 []++((bif o==99 then [] else [sg o])++(aZ f 15 o 2 0 p [a,b]).getD 1 [])=_;rw [pG,dV,dV];show bD f 15 o 2 0 p a++([sg o]++dh f b ⟨1,false,p.aX,p.bg,false⟩)=_;have:bD f 15 o 2 0 p a=bT f a (bP 15 o 2 0 p):=rfl;rw [this,ajP (gk a aA) hL];rfl
   rw [et] at hs ⊢;have da:=MW a aA l uZ i rfl hs.left;have hr:=hs.right;obtain ⟨h2,db⟩:=zO b aA l _ _ rfl hr.tl;have ha:=da.lt;have hb:=db.lt;have e2:i+(bT f a uZ++sg o::dh f b ⟨1,false,p.aX,p.bg,false⟩).length=i+(bT f a uZ).length+1+(dh f b ⟨1,false,p.aX,p.bg,false⟩).length:=aU;rw [e2];exact .assign o (c.k15 rfl) hr.kd ha hb.1 hL da db
def kM (k:Int):Bool:=k==3||(k==4||(k==5||(k==6||(k==8||(k==33||(k==35||(k==51||k==52)))))))
def aEh (k:Int):AQ k=some (kM k):=by
 have h1:∀ b,DZ b=some b:=fun b=>by cases b<;>rfl
 unfold AQ kM;simp only [h1];cases (k==3)<;>cases (k==4)<;>cases (k==5)<;>cases (k==6)<;>cases (k==8)<;>cases (k==33)<;>cases (k==35)<;>cases (k==51)<;>rfl
def aEi (l:List aG) (i k:Nat):Prop:=kd l k≠2/\(kd l k=7->kd l (k+1)=32)/\(i < k->kd l k=5->kM (kd l<|k - 1)=false)/\(kd l k=58\/kd l k=41->i < k/\kM (kd l<|k - 1)=true)
def nM (l:List aG) (i j:Nat):Prop:=∀ k,i<=k->k < j->aEi l i k
def nM.one {l:List aG} {i:Nat} (h:kd l i≠2/\kd l i≠58/\kd l i≠41) (h7:kd l i=7->kd l (i+1)=32):nM l i (i+1):=fun k h1 h2=>by
 have e:k=i:=ah;subst e;exact ⟨h.1,h7,fun h=>absurd h<|aaX _,fun e=>by rcases e with e|e<;>simp [e] at h⟩
def nM.snoc {l:List aG} {i m:Nat} (a:nM l i m) (him:i < m) (h:kd l m≠2/\kd l m≠7/\kd l m≠5) (hd:kd l m=58\/kd l m=41->kM (kd l<|m - 1)=true):nM l i (m+1):=fun k h1 h2=>by
 by_cases e:k=m
 .subst e;exact ⟨h.1,fun e=>absurd e h.2.1,fun _ e=>absurd e h.2.2,fun e=>⟨him,hd e⟩⟩
 .exact a k h1 ah
def nM.app {l:List aG} {i m j:Nat} (a:nM l i m) (b:nM l m j) (him:i < m) (hb:kd l m=5->kM (kd l<|m - 1)=false):nM l i j:=fun k h1 h2=>by
 by_cases e:k < m
 .exact a k h1 e
 .obtain ⟨b1,b2,b3,b4⟩:=b k ah h2;refine ⟨b1,b2,fun h e5=>?_,fun e4=>⟨ah,(b4 e4).2⟩⟩;by_cases ek:k=m
  .subst ek;exact hb e5
  .exact b3 ah e5
def ajQ {l:List aG} {i:Nat}:∀ (n m f:Nat),f - m<=n->nM l i m->i < m->m<=f->(∀ k,m<=k->k < f->kd l k=1)->nM l i f
 | 0,m,f,h,a,_,hm,_=>by
  have:m=f:=ah;subst this;exact a
 | n+1,m,f,h,a,him,hm,hk=>by
  by_cases e:m=f
  .subst e;exact a
  .have h1:=hk m (eU _) ah;exact ajQ n (m+1) f ah (a.snoc him (by rw [h1];decide) fun e=>by rw [h1] at e;omega) ah ah fun k g1 g2=>hk k ah g2
structure ZG (l:List aG) (i j:Nat):Prop where
 a:nM l i j
 e:kM (kd l<|j - 1)=true
def aEj {o:Int} (h:bL o≠0):kM o=false/\o≠2/\o≠7/\o≠5:=by
 rcases JQ h with e|e|e|e|e|e|e|e|e|e|e|e|e|e|e|e|e<;>subst e<;>decide
def aEk {o:Int} (h:sW o=true):kM o=false/\o≠2/\o≠7/\o≠5:=by
 have h1:=Vz h;refine ⟨?_,ah,ah,ah⟩;have f:∀ {z:Int},o≠z->(o==z)=false:=fun h=>by simpa using h
 unfold kM;rw [f ah,f ah,f ah,f ah,f ah,f ah,f ah,f ah,f ah];rfl
def arQ {l:List aG} {m f:Nat} (h:Ln l (m+1) f) (he:kM (kd l m)=false):kM (kd l<|f - 1)=false:=by
 by_cases e:f=m+1
 .subst e;exact he
 .have:=h.1;rw [h.2.1 (f - 1) ah ah];rfl
def ayW (l:List aG):∀ (n i j:Nat),j - i<=n->(∀ p t,i < j->iH l p i j t->ZG l i j)/\(∀ p t h,gP l p i j t h->ZG l i j)/\(∀ ts,yH l i j ts->ZG l i j):=by
 intro n;induction n with
 | zero=>exact fun i j hn=>⟨fun p t hij=>ah,fun p t h d=>by have:=d.lt;omega,fun ts d=>by have:=d.lt;omega⟩
 | succ n ih=>
  intro i j hn;have hN:∀ p t,i < j->iH l p i j t->ZG l i j:=by
   intro p t hij d;cases d with
   | leaf k h1 h2=>rcases h1 with rfl|rfl|rfl<;>exact ⟨.one (by rw [h2];decide) (fun e=>by rw [h2] at e;omega),by show kM (kd l i)=true;rw [h2];rfl⟩
   | name h1=>exact ⟨.one (by rw [h1];decide) (fun e=>by rw [h1] at e;omega),by show kM (kd l i)=true;rw [h1];rfl⟩
   | @index _ _ j ts h1 h2 h3 h4 h5 h6 h7=>
    have r:=(ih (i+2) j ah).2.2 _ h7;have a1:nM l i (i+1):=.one (by rw [h1];decide) (fun e=>by rw [h1] at e;omega);have a2:nM l i (i+1+1):=a1.snoc ah (by rw [h2];decide) (fun e=>by rw [h2] at e;omega);have a3:=a2.app r.a ah (fun _=>by show kM (kd l<|i+1)=false;rw [h2];rfl);exact ⟨a3.snoc ah (by rw [h5];decide) (fun e=>by rw [h5] at e;omega),by show kM (kd l j)=true;rw [h5];rfl⟩
   | xk k h1 h2 h3 h4=>
    have a1:nM l i (i+1):=.one (by rw [h2];rcases h1 with rfl|rfl<;>decide) (fun _=>h3);have a2:nM l i (i+1+1):=a1.snoc ah (by rw [h3];decide) (fun e=>by rw [h3] at e;omega);have a3:nM l i (i+2+1):=a2.snoc ah (by show kd l (i+2)≠2/\kd l (i+2)≠7/\kd l (i+2)≠5;rw [h4];decide) (fun e=>by have e:kd l (i+2)=58\/kd l (i+2)=41:=e;rw [h4] at e;omega);exact ⟨a3,by show kM (kd l<|i+2)=true;rw [h4];rfl⟩
   | @call _ _ j ts k h1 h2 h3 h4 h5 h6 h7 h8=>
    have r:=(ih (i+2) j ah).2.2 _ h8;have a1:nM l i (i+1):=.one (by rw [h2];rcases h1 with rfl|rfl<;>decide) (fun _=>h3);have a2:nM l i (i+1+1):=a1.snoc ah (by rw [h3];decide) (fun e=>by rw [h3] at e;omega);have a3:=a2.app r.a ah (fun _=>by show kM (kd l<|i+1)=false;rw [h3];rfl);exact ⟨a3.snoc ah (by rw [h6];decide) (fun e=>by rw [h6] at e;omega),by show kM (kd l j)=true;rw [h6];rfl⟩
   | len h1=>exact ⟨.one (by rw [h1];decide) (fun e=>by rw [h1] at e;omega),by show kM (kd l i)=true;rw [h1];rfl⟩
   | field h1 h2 h3=>
    have r:=(ih (i+1) j ah).2.1 _ _ _ h3;have a1:nM l i (i+1):=.one (by rw [h1];decide) (fun e=>by rw [h1] at e;omega);exact ⟨a1.app r.a ah (fun _=>by show kM (kd l i)=false;rw [h1];rfl),r.e⟩
   | pre o h1 h2 h3 h4 h5=>
    have r:=(ih (i+1) j ah).1 _ _ h4 h5;have a1:nM l i (i+1):=.one (by rw [h2];omega) (fun e=>by rw [h2] at e;omega);have hl:=QO h5 h3;exact ⟨a1.app r.a ah (fun e=>by rw [e] at hl;omega),r.e⟩
   | @post _ _ j t o h1 h2 h3 h4 h5=>
    have r:=(ih i j ah).1 _ _ h4 h5;exact ⟨r.a.snoc h4 (by rw [h2];omega) (fun e=>by rw [h2] at e;omega),by show kM (kd l j)=true;rw [h2];rcases h1 with rfl|rfl<;>rfl⟩
   | unary o h1 h2 h3 h4=>
    have r:=(ih (i+1) j ah).2.1 _ _ _ h4;have a1:nM l i (i+1):=.one (by rw [h2];omega) (fun e=>by rw [h2] at e;omega);exact ⟨a1.app r.a ah (fun _=>by show kM (kd l i)=false;rw [h2];rcases h1 with rfl|rfl|rfl<;>rfl),r.e⟩
   | @bin _ _ m f _ a b _ _ o h1 h2 h3 h4 h5 h6 h7 h8=>
    have QU:=MG h6;have ra:=(ih i m ah).2.1 _ _ _ h7;have rb:=(ih f j ah).2.1 _ _ _ h8;have ho:=aEj h1;have a1:=ra.a.snoc h4 (by rw [h3];exact ho.2) (fun _=>ra.e);rcases h6 with ⟨_,h6⟩|⟨_,h6⟩
    .have a2:=ajQ (f - (m+1)) (m+1) f ah a1 ah QU h6.2.1;exact ⟨a2.app rb.a ah (fun _=>arQ h6<|by rw [h3];exact ho.1),rb.e⟩
    .subst h6;exact ⟨a1.app rb.a ah (fun _=>by show kM (kd l m)=false;rw [h3];exact ho.1),rb.e⟩
   | @cat _ _ m _ a b _ _ h1 h2 h3 h4=>
    have ra:=(ih i m ah).2.1 _ _ _ h3;have rb:=(ih m j ah).2.1 _ _ _ h4;have hbg:=aeg (h4.first.s rfl);exact ⟨ra.a.app rb.a h1 (fun e=>by rw [e] at hbg;omega),rb.e⟩
   | @one _ _ m t h h1 h2 h3 h4=>
    have ra:=(ih i m ah).2.1 _ _ _ h4;have a1:=ra.a.snoc h1 (by rw [h2];decide) (fun e=>by rw [h2] at e;omega);have a2:nM l i (m+1+1):=a1.snoc ah (by rw [h3];decide) (fun e=>by rw [h3] at e;omega);exact ⟨a2,by show kM (kd l<|m+1)=true;rw [h3];rfl⟩
   | @many _ _ m ts h1 h2 h3 h4 h5 h6 h7 h8=>
    have r:=(ih (i+1) m ah).2.2 _ h8;have a1:nM l i (i+1):=.one (by rw [h1];decide) (fun e=>by rw [h1] at e;omega);have a2:=a1.app r.a ah (fun _=>by show kM (kd l i)=false;rw [h1];rfl);have a3:=a2.snoc ah (by rw [h3];decide) (fun e=>by rw [h3] at e;omega);have a4:nM l i (m+1+1):=a3.snoc ah (by rw [h4];decide) (fun e=>by rw [h4] at e;omega);have a5:nM l i (m+2+1):=a4.snoc ah (by show kd l (m+2)≠2/\kd l (m+2)≠7/\kd l (m+2)≠5;rw [h5];decide) (fun e=>by have e:kd l (m+2)=58\/kd l (m+2)=41:=e;rw [h5] at e;omega);exact ⟨a5,by show kM (kd l<|m+2)=true;rw [h5];rfl⟩
   | @cond _ _ m n2 _ a b c _ _ _ h1 h2 h3 h4 h5 h6 h7 h8=>
    have ra:=(ih i m ah).2.1 _ _ _ h6;have rb:=(ih (m+1) n2 ah).2.1 _ _ _ h7;have rc:=(ih (n2+1) j ah).2.1 _ _ _ h8;have a1:=ra.a.snoc h1 (by rw [h2];decide) (fun e=>by rw [h2] at e;omega);have a2:=a1.app rb.a ah (fun _=>by show kM (kd l m)=false;rw [h2];rfl);have a3:=a2.snoc ah (by rw [h4];decide) (fun e=>by rw [h4] at e;omega);exact ⟨a3.app rc.a ah (fun _=>by show kM (kd l n2)=false;rw [h4];rfl),rc.e⟩
   | @assign _ _ m _ a b _ o h1 h2 h3 h4 h5 h6 h7=>
    have ra:=(ih i m ah).1 _ _ h3 h6;have rb:=(ih (m+1) j ah).2.1 _ _ _ h7;have ho:=aEk h1;have a1:=ra.a.snoc h3 (by rw [h2];exact ho.2) (fun _=>ra.e);exact ⟨a1.app rb.a ah (fun _=>by show kM (kd l m)=false;rw [h2];exact ho.1),rb.e⟩
  have hD:∀ p t h,gP l p i j t h->ZG l i j:=fun p t h d=>by
   cases d with
   | @par _ _ j _ h h1 h2 h3 h4 h5=>
    have r:=(ih (i+1) j ah).2.1 _ _ _ h4;have a1:nM l i (i+1):=.one (by rw [h1];decide) (fun e=>by rw [h1] at e;omega);have a2:=a1.app r.a ah (fun _=>by show kM (kd l i)=false;rw [h1];rfl);exact ⟨a2.snoc ah (by rw [h5];decide) (fun e=>by rw [h5] at e;omega),by show kM (kd l j)=true;rw [h5];rfl⟩
   | bare h1 h2 h3 h4=>exact hN p t h2 h4
  refine ⟨hN,hD,fun ts d=>?_⟩;cases d with
  | one h1 h2=>exact hD _ _ _ h2
  | @cons _ k f _ t u ts h h1 h2 h3 h4 h5 h6=>
   have h3':=h3.1;have ra:=(ih i k ah).2.1 _ _ _ h5;have rb:=(ih f j ah).2.2 _ h6;have a1:=ra.a.snoc h1 (by rw [h2];decide) (fun e=>by rw [h2] at e;omega);have a2:=ajQ (f - (k+1)) (k+1) f ah a1 ah h3' h3.2.1;exact ⟨a2.app rb.a ah (fun _=>arQ h3<|by rw [h2];rfl),rb.e⟩
def aEl (N:Nat) (a:List aG) (ha:a.length<=3000) (ajR:nM a 0 a.length) (hok:∀ t,t∈a->rG N t=some true):∀ (n i:Nat) (last:Int),a.length - i < n->i<=a.length->(i=0->last=0)->(0 < i->last=kd a (i - 1))->Hu N n (a,last,(i:Int))=some true:=by
 intro n;induction n with
 | zero=>intro i last h;omega
 | succ n ih=>
  intro i last hn hi h0 h1;rw [Hu];by_cases hlt:i < a.length
  .obtain ⟨b1,b2,b3,b4⟩:=ajR i (BF _) hlt;have hk:=Ba hlt;rw [hk] at b1 b2 b3 b4;have step:∀ nx:Int,nx=kd a (i+1)->UA N (Hu N n) (a,last,(i:Int),nx)=some true:=fun nx hnx=>by
    unfold UA;dsimp only;simp only [bX hlt,av,hok _<|ou hlt,kQ,aJ];have c2:(a[i].Kind==2)=false:=by simpa using b1
    have first:(bif a[i].Kind==7 then bif nx !=32 then some true else bif a[i].Kind==2 then bif nx !=1 then some (decide<|IntKind.wrap .i64 ((i:Int)+1) < (a.length:Int)) else some false else some false else bif a[i].Kind==2 then bif nx !=1 then some (decide<|IntKind.wrap .i64 ((i:Int)+1) < (a.length:Int)) else some false else some false)=some false:=by
     cases h7:(a[i].Kind==7) with
     | false=>rw [aJ,c2,aJ]
     | true=>
      have:nx=32:=by rw [hnx];exact b2 (by simpa using h7)
      rw [this,c2];rfl
    rw [first,av,aJ];have hend:kM last=true->0 < i/\last=kd a (i - 1):=fun h=>by
     by_cases e:i=0
     .rw [h0 e] at h;cases h
     .exact ⟨ah,h1 ah⟩
    have e5:a[i].Kind=5->kM last=false:=fun h=>by
     cases hb:kM last with
     | false=>rfl
     | true=>
      obtain ⟨g1,g2⟩:=hend hb;have:=b3 g1 h;rw [<- g2,hb] at this;cases this
    have ed:a[i].Kind=58\/a[i].Kind=41->kM last=true:=fun h=>by
     obtain ⟨g1,g2⟩:=b4 h;rw [h1 g1];exact g2
    have second:(bif a[i].Kind==5 then (AQ last).bind fun ado=>bif ado then some true else (bif (a[i].Kind==58) then (AQ last).bind fun adp=>some (!adp) else (bif (a[i].Kind==41) then (AQ last).bind fun adq=>some (!adq) else (some false))) else (bif (a[i].Kind==58) then (AQ last).bind fun adr=>some (!adr) else (bif (a[i].Kind==41) then (AQ last).bind fun ads=>some (!ads) else (some false))))=some false:=by
     rw [aEh];simp only [av];cases h5:(a[i].Kind==5) with
     | true=>
      have h5':a[i].Kind=5:=by simpa using h5
      rw [e5 h5',h5'];rfl
     | false=>
      rw [aJ];cases jA:(a[i].Kind==58) with
      | true=>rw [ed<|.inl<|by simpa using jA];rfl
      | false=>
       rw [aJ];cases JM:(a[i].Kind==41) with
       | true=>rw [ed<|.inr<|by simpa using JM];rfl
       | false=>rfl
    rw [second,av,aJ,wrap64 ah ah,show (i:Int)+1=((i+1:Nat):Int) by omega];exact ih (i+1) _ ah ah (fun e=>ah) (fun _=>hk.symm)
   rw [iT hlt,aS,wrap64 ah ah,show (i:Int)+1=((i+1:Nat):Int) by omega];by_cases h2:i+1 < a.length
   .rw [iT h2,aS,bX h2,av];exact step _ (by rw [Ba h2])
   .rw [kG h2,aJ];exact step _ (by unfold kd;rw [Da ah];rfl)
  .rw [kG hlt,aJ]
def ayY (N:Nat) (a:List aG) (ha:a.length<=3000) (hN:3000 < N) (ajR:nM a 0 a.length) (hok:∀ t,t∈a->rG N t=some true):Kz N a=some true:=by
 unfold Kz;rw [pQ (show¬(a.length:Int) > 3000 by omega),aJ];exact aEl N a ha ajR hok N 0 0 ah ah (fun _=>rfl) (fun h=>ah)
def xM (d:Nat) (k:Int):Nat:=bif mV k then (bif nK k then d - 1 else d)+1 else (bif nK k then d - 1 else d)
def uw:Nat->List aG->Bool
 | _,[]=>true
 | d,t::ts=>decide (xM d t.Kind<=40)&&uw (xM d t.Kind) ts
def aEm (N:Nat) (a:List aG) (ha:a.length<=3000):∀ (n i d:Nat),a.length - i < n->i<=a.length->d<=40->∃ r,Ea N n (a,(d:Int),(i:Int))=some r/\(uw d (a.drop i)=true->r= -1)/\(uw d (a.drop i)=false->0<=r/\r < (a.length:Int)):=by
 intro n;induction n with
 | zero=>intro i d h;omega
 | succ n ih=>
  intro i d hn hi hd;rw [Ea];by_cases hlt:i < a.length
  .have k3:∀ d':Nat,d'=xM d a[i].Kind->∃ r,UF N (Ea N n) (a,(i:Int),(d':Int))=some r/\(uw d (a.drop i)=true->r= -1)/\(uw d (a.drop i)=false->0<=r/\r < (a.length:Int)):=fun d' hd'=>by
    unfold UF;dsimp only;rw [IC hlt,uw,<- hd'];by_cases En:d'<=40
    .rw [pQ (show¬(d':Int) > 40 by omega),kP En,aJ,wrap64 ah ah,show (i:Int)+1=((i+1:Nat):Int) by omega,Df];exact ih (i+1) d' ah ah En
    .rw [kP (show (d':Int) > 40 by omega),pQ En,aS,afu];exact ⟨_,rfl,(fun h=>by cases h),fun _=>⟨ah,ah⟩⟩
   have k2:∀ d':Nat,d'<=40->d'=(bif nK a[i].Kind then d - 1 else d)->∃ r,UG N (Ea N n) (a,(i:Int),(d':Int))=some r/\(uw d (a.drop i)=true->r= -1)/\(uw d (a.drop i)=false->0<=r/\r < (a.length:Int)):=fun d' En hd'=>by
    unfold UG;dsimp only;rw [bX hlt,av,QM,av];cases ho:mV a[i].Kind with
    | true=>
     rw [aS,wrap64 ah ah,show (d':Int)+1=((d'+1:Nat):Int) by omega];exact k3 _ (by unfold xM;rw [ho,<- hd'];rfl)
    | false=>
     rw [aJ];exact k3 _ (by unfold xM;rw [ho,<- hd'];rfl)
   rw [iT hlt,aS,bX hlt,av,JO,av];cases hc:nK a[i].Kind with
   | true=>
    rw [aS,wrap64 ah ah];have e:(if (d:Int) - 1 > 0 then (d:Int) - 1 else 0)=((d - 1:Nat):Int):=by
     split<;>omega
    rw [e];exact k2 (d - 1) ah (by rw [hc];rfl)
   | false=>
    rw [aJ];exact k2 d hd (by rw [hc];rfl)
  .rw [kG hlt,aJ];exact ⟨-1,rfl,fun _=>rfl,fun h=>by rw [Gv ah] at h;cases h⟩
def aEn (N:Nat) (a:List aG) (ha:a.length<=3000) (hN:3000 < N):∃ r,adt N a=some r/\(uw 0 a=true->r= -1)/\(uw 0 a=false->0<=r/\r < (a.length:Int)):=by
 have:=aEm N a ha N 0 0 ah ah ah;rw [KL] at this;exact this
def Dp (e:Nat) (x:List aG):Prop:=∀ d y,d+e<=40->uw d (x++y)=uw d y
def Dp.nil:Dp 0 []:=fun d y _=>rfl
def Dp.mono {e e':Nat} {x:List aG} (h:Dp e x) (he:e<=e'):Dp e' x:=fun d y hd=>h d y ah
def Dp.app {e:Nat} {x y:List aG} (hx:Dp e x) (hy:Dp e y):Dp e (x++y):=fun d z hd=>by rw [jP,hx d _ hd,hy d z hd]
def Dp.tok {e:Nat} {t:aG} (h:mV t.Kind=false/\nK t.Kind=false):Dp e [t]:=fun d y hd=>by
 show (decide (xM d t.Kind<=40)&&uw (xM d t.Kind) y)=uw d y;have:xM d t.Kind=d:=by unfold xM;rw [h.1,h.2];rfl
 rw [this,kP ah,Df]
def Dp.wrap {e:Nat} {o c:aG} {x:List aG} (ho:mV o.Kind=true) (hc:nK c.Kind=true) (h:Dp e x):Dp (e+1) (o::(x++[c])):=fun d y hd=>by
 have hco:=(Vy ho).1;have hoc:mV c.Kind=false:=by
  cases h:mV c.Kind with
  | false=>rfl
  | true=>rw [(Vy h).1] at hc;cases hc
 show (decide (xM d o.Kind<=40)&&uw (xM d o.Kind) ((x++[c])++y))=uw d y;have e1:xM d o.Kind=d+1:=by unfold xM;rw [ho,hco];rfl
 rw [e1,kP ah,Df,jP,h (d+1) _ ah];show (decide (xM (d+1) c.Kind<=40)&&uw (xM (d+1) c.Kind) y)=uw d y;have e2:xM (d+1) c.Kind=d:=by unfold xM;rw [hoc,hc];rfl
 rw [e2,kP ah,Df]
def Dp.cons {e:Nat} {t:aG} {x:List aG} (h:mV t.Kind=false/\nK t.Kind=false) (hx:Dp e x):Dp e (t::x):=Dp.app (x:=[t]) (.tok h) hx
def aEo {o:Int} (h:bL o≠0):mV o=false/\nK o=false:=by
 rcases JQ h with e|e|e|e|e|e|e|e|e|e|e|e|e|e|e|e|e<;>subst e<;>exact ⟨rfl,rfl⟩
def aEp {o:Int} (h:sW o=true):mV o=false/\nK o=false:=by
 have h1:=Vz h;have f:∀ {z:Int},o≠z->(o==z)=false:=fun h=>by simpa using h
 unfold mV nK;rw [f ah,f ah,f ah,f ah,f ah,f ah];exact ⟨rfl,rfl⟩
def Dp.par {e:Nat} {b:Bool} {x y:List aG} (hx:b=false->Dp e x) (hy:b=true->Dp e y):Dp (e+1) (zH b x y):=by
 cases b with
 | false=>exact (hx rfl).mono ah
 | true=>exact Dp.wrap rfl rfl (hy rfl)
def arR:∀ (xs:List (List aG)) (b:Bool) (e:Nat),(∀ x,x∈xs->Dp e x)->Dp e (dK b xs)
 | [],b,e,_=>by rw [dK];exact Dp.nil.mono ah
 | x::xs,b,e,h=>by
  rw [dK];refine Dp.app ?_ (Dp.app (h x aA)<|arR xs true e fun y hy=>h y<|by simp [hy]);cases b with
  | false=>exact Dp.nil.mono ah
  | true=>exact Dp.tok ⟨rfl,rfl⟩
def adD:∀ {ts:List aC} {t:aC},t∈ts->gH t<=ji ts
 | [],_,h=>by cases h
 | u::ts,t,h=>by
  rw [ji];rcases iL.1 h with rfl|h
  .omega
  .have:=adD h;omega
def DpB (t:aC):Prop:=∀ p,Dp (gH t) (bT false t p)
def aEq {t:aC} (h:DpB t) (p:aF):Dp (gH t+1) (dh false t p):=by
 unfold dh;exact Dp.par (fun _=>h p) (fun _=>h dB)
def aEr {t:aC} (g:GN t) (h:DpB t):Dp (gH t) (dh false t dB):=by
 unfold dh JF;rw [aiz g.lv];exact h dB
def aza:∀ t:aC,allT GN t->allT CN t->DpB t:=by
 intro t;induction t using yC with
 | h t ih=>
  intro hg hc p;have g:=wM hg;have c:=wM hc;have gk:=Cq hg;have ck:=Cq hc;have MW:∀ u,u∈t.kids->DpB u:=fun u hu=>ih u hu (gk u hu) (ck u hu);have hd:=aiy t;have kid:∀ (j:Nat) (u:aC),u∈t.kids->Dp (gH t) (bD false t.kind t.op t.kids.length j p u):=fun j u hu=>by
   have h1:=adD hu;unfold bD;cases tgt t.kind j with
   | true=>exact (MW u hu _).mono ah
   | false=>exact (aEq (MW u hu) _).mono ah
  have aEs:∀ (ts:List aC) (j:Nat),(∀ u,u∈ts->u∈t.kids)->(∀ j,bP t.kind t.op t.kids.length j p=dB)->(∀ j,tgt t.kind j=false)->∀ x,x∈aZ false t.kind t.op t.kids.length j p ts->Dp (ji t.kids) x:=by
   intro ts;induction ts with
   | nil=>intro j _ _ _ x hx;rw [aZ] at hx;cases hx
   | cons u ts ih2=>
    intro j hm hk ht x hx;rw [dV] at hx;rcases iL.1 hx with rfl|hx
    .have hu:=hm u aA;unfold bD;rw [ht j,aJ,hk j];exact (aEr (wM<|gk u hu)<|MW u hu).mono (adD hu)
    .exact ih2 (j+1) (fun v hv=>hm v<|by simp [hv]) hk ht x hx
  obtain ⟨k,o,x,y,ks⟩:=t;have one:∀ tk:aG,mV tk.Kind=false/\nK tk.Kind=false->Dp (gH ⟨k,o,x,y,ks⟩) [tk]:=fun tk h=>.tok h;have list:∀ a b:aG,mV a.Kind=true->nK b.Kind=true->(∀ j,bP k o ks.length j p=dB)->(∀ j,tgt k j=false)->Dp (gH ⟨k,o,x,y,ks⟩) (a::(dK false (aZ false k o ks.length 0 p ks)++[b])):=fun a b ha hb hk ht=>by
   rw [hd];exact Dp.wrap ha hb (arR _ false _<|aEs ks 0 (fun u hu=>hu) hk ht)
  rcases kinds g.e with e|e|e|e|e|e|e|e|e|e|e|e|e|e|e<;>(have e:k=_:=e;subst e)
  case inl=>rw [gy];exact one ⟨6,x,0⟩ ⟨rfl,rfl⟩
  case inr.inl=>rw [gy];exact one ⟨3,x,0⟩ ⟨rfl,rfl⟩
  case inr.inr.inl=>rw [gy];exact one ⟨4,x,0⟩ ⟨rfl,rfl⟩
  case inr.inr.inr.inl=>rw [gy];exact one ⟨5,x,0⟩ ⟨rfl,rfl⟩
  case inr.inr.inr.inr.inl=>
   have et:bT false ⟨5,o,x,y,ks⟩ p=⟨6,x,0⟩::sg 34::(dK false (aZ false 5 o ks.length 0 p ks)++[sg 35]):=by rw [gy];rfl
   rw [et];exact Dp.cons ⟨rfl,rfl⟩ (list (sg 34) (sg 35) rfl rfl (fun _=>rfl) fun j=>by unfold tgt;simp)
  case inr.inr.inr.inr.inr.inl=>
   obtain ⟨u,e1⟩:=JU (g.a1<|.inl rfl);have e1:ks=[u]:=e1;subst e1;have et:bT false ⟨6,o,x,y,[u]⟩ p=sg 68::bD false 6 o 1 0 p u:=by rw [gy];show sg 68::(aZ false 6 o 1 0 p [u]).getD 0 []=_;rw [dV];rfl
   rw [et];exact Dp.cons ⟨rfl,rfl⟩ (kid 0 u aA)
  case inr.inr.inr.inr.inr.inr.inl=>
   have et:bT false ⟨7,o,x,y,ks⟩ p=⟨7,x,0⟩::sg 32::(dK false (aZ false 7 o ks.length 0 p ks)++[sg 33]):=by rw [gy];rfl
   rw [et];exact Dp.cons ⟨rfl,rfl⟩ (list (sg 32) (sg 33) rfl rfl (fun _=>rfl) fun j=>by unfold tgt;simp)
  case inr.inr.inr.inr.inr.inr.inr.inl=>
   have et:bT false ⟨8,o,x,y,ks⟩ p=⟨8,x,0⟩::sg 32::(dK false (aZ false 8 o ks.length 0 p ks)++[sg 33]):=by rw [gy];rfl
   rw [et];exact Dp.cons ⟨rfl,rfl⟩ (list (sg 32) (sg 33) rfl rfl (fun _=>rfl) fun j=>by unfold tgt;simp)
  case inr.inr.inr.inr.inr.inr.inr.inr.inl=>
   obtain ⟨u,e1⟩:=JU (g.a1<|.inr<|.inl rfl);have e1:ks=[u]:=e1;subst e1;have et:bT false ⟨9,o,x,y,[u]⟩ p=sg o::bD false 9 o 1 0 p u:=by rw [gy];show sg o::(aZ false 9 o 1 0 p [u]).getD 0 []=_;rw [dV];rfl
   rw [et];have ho:o=51\/o=52:=c.k9 (.inl rfl);exact Dp.cons (by rcases ho with rfl|rfl<;>exact ⟨rfl,rfl⟩) (kid 0 u aA)
  case inr.inr.inr.inr.inr.inr.inr.inr.inr.inl=>
   obtain ⟨u,e1⟩:=JU (g.a1<|.inr<|.inr<|.inl rfl);have e1:ks=[u]:=e1;subst e1;have et:bT false ⟨10,o,x,y,[u]⟩ p=bD false 10 o 1 0 p u++[sg o]:=by rw [gy];show (aZ false 10 o 1 0 p [u]).getD 0 []++[sg o]=_;rw [dV];rfl
   rw [et];have ho:o=51\/o=52:=c.k9 (.inr rfl);exact Dp.app (kid 0 u aA) (.tok<|by rcases ho with rfl|rfl<;>exact ⟨rfl,rfl⟩)
  case inr.inr.inr.inr.inr.inr.inr.inr.inr.inr.inl=>
   obtain ⟨u,e1⟩:=JU (g.a1<|.inr<|.inr<|.inr rfl);have e1:ks=[u]:=e1;subst e1;have et:bT false ⟨11,o,x,y,[u]⟩ p=sg o::bD false 11 o 1 0 p u:=by rw [gy];show sg o::(aZ false 11 o 1 0 p [u]).getD 0 []=_;rw [dV];rfl
   rw [et];have ho:o=55\/o=56\/o=61:=c.k11 rfl;exact Dp.cons (by rcases ho with rfl|rfl|rfl<;>exact ⟨rfl,rfl⟩) (kid 0 u aA)
  case inr.inr.inr.inr.inr.inr.inr.inr.inr.inr.inr.inl=>
   obtain ⟨a,b,e1⟩:=MI (g.a2<|.inl rfl);have e1:ks=[a,b]:=e1;subst e1;have et:bT false ⟨12,o,x,y,[a,b]⟩ p=bD false 12 o 2 0 p a++((bif o==99 then [] else [sg o])++bD false 12 o 2 1 p b):=by
    rw [gy];show (aZ false 12 o 2 0 p [a,b]).getD 0 []++((bif o==99 then [] else [sg o])++(aZ false 12 o 2 0 p [a,b]).getD 1 [])=_;rw [dV,dV];rfl
   rw [et];have ho:bL o≠0:=g.lv;refine Dp.app (kid 0 a aA) (Dp.app ?_ (kid 1 b aA));cases o==99 with
   | true=>exact Dp.nil.mono ah
   | false=>exact .tok (aEo ho)
  case inr.inr.inr.inr.inr.inr.inr.inr.inr.inr.inr.inr.inl=>
   have hlen:=MH false 13 o ks.length p ks 0;have et:bT false ⟨13,o,x,y,ks⟩ p=(bif decide (ks.length > 1) then sg 32::(dK false (aZ false 13 o ks.length 0 p ks)++[sg 33]) else (aZ false 13 o ks.length 0 p ks).getD 0 [])++[sg 24,⟨6,x,0⟩]:=by
    rw [gy];show (bif decide ((aZ false 13 o ks.length 0 p ks).length > 1) then _ else _)++_=_;rw [hlen]
   rw [et];refine Dp.app ?_ (Dp.app (x:=[sg 24]) (.tok ⟨rfl,rfl⟩)<|.tok ⟨rfl,rfl⟩);cases h2:decide (ks.length > 1) with
   | true=>exact list (sg 32) (sg 33) rfl rfl (fun j=>by show (bif decide (ks.length > 1) then (⟨1,false,false,false,false⟩:aF) else _)=_;rw [h2];rfl) (fun j=>by unfold tgt;simp)
   | false=>
    rw [aJ];cases ks with
    | nil=>rw [aZ];exact Dp.nil.mono ah
    | cons u ts=>
     rw [dV];exact kid 0 u aA
  case inr.inr.inr.inr.inr.inr.inr.inr.inr.inr.inr.inr.inr.inl=>
   obtain ⟨a,b,cc,e1⟩:=adF (g.a3 rfl);have e1:ks=[a,b,cc]:=e1;subst e1;have et:bT false ⟨14,o,x,y,[a,b,cc]⟩ p=bD false 14 o 3 0 p a++(sg 65::(bD false 14 o 3 1 p b++(sg 66::bD false 14 o 3 2 p cc))):=by
    rw [gy];show (aZ false 14 o 3 0 p [a,b,cc]).getD 0 []++(sg 65::((aZ false 14 o 3 0 p [a,b,cc]).getD 1 []++(sg 66::(aZ false 14 o 3 0 p [a,b,cc]).getD 2 [])))=_;rw [dV,dV,dV];rfl
   rw [et];exact Dp.app (kid 0 a aA) (Dp.cons ⟨rfl,rfl⟩<|Dp.app (kid 1 b aA)<|Dp.cons ⟨rfl,rfl⟩<|kid 2 cc aA)
  case inr.inr.inr.inr.inr.inr.inr.inr.inr.inr.inr.inr.inr.inr=>
   obtain ⟨a,b,e1⟩:=MI (g.a2<|.inr rfl);have e1:ks=[a,b]:=e1;subst e1;have et:bT false ⟨15,o,x,y,[a,b]⟩ p=bD false 15 o 2 0 p a++((bif o==99 then [] else [sg o])++bD false 15 o 2 1 p b):=by
    rw [gy];show (aZ false 15 o 2 0 p [a,b]).getD 0 []++((bif o==99 then [] else [sg o])++(aZ false 15 o 2 0 p [a,b]).getD 1 [])=_;rw [dV,dV];rfl
   rw [et];have ho:sW o=true:=c.k15 rfl;refine Dp.app (kid 0 a aA) (Dp.app ?_ (kid 1 b aA));cases o==99 with
   | true=>exact Dp.nil.mono ah
   | false=>exact .tok (aEp ho)
def Dp.nest {e:Nat} {x:List aG} (h:Dp e x) (he:e<=40):uw 0 x=true:=by
 have:=h 0 [] ah;rw [nQ] at this;rw [this];rfl
def arS {P:aC->Prop} {t:aC} (h:P t) (hk:∀ k,k∈t.kids->allT P k):allT P t:=by
 have key:∀ ts:List aC,(∀ k,k∈ts->allT P k)->FV P ts:=by
  intro ts;induction ts with
  | nil=>intro _;rw [FV];trivial
  | cons u ts ih=>
   intro h;rw [FV];exact ⟨h u aA,ih fun k hk=>h k<|by simp [hk]⟩
 obtain ⟨k,o,x,y,ks⟩:=t;rw [allT];exact ⟨h,key ks hk⟩
def azk (N:Nat) (a:List aD) (hN:500 < N) (hsh:qd a=true) (hok:tN N a=some true):∀ (t:aC) (s i:Nat),TA a t s i->eF t.kind=true->allT GN t:=by
 intro t;induction t using yC with
 | h t ih=>
  intro s i hT he;obtain ⟨n,hn,e1,e2,e3,e4,hka,hkl⟩:=hT.node;have hmem:=mH hn;obtain ⟨hf,jo⟩:=aji N a hN hsh hok n hmem;have hen:eF n.Kind=true:=by rw [<- e1];exact he
  obtain ⟨har,hlv⟩:=aqw N n hf hen;have aKu:=(Vr hsh n hmem).1;have ajS:∀ (q:Nat) (k:aC),t.kids[q]?=some k->∃ kk s':Nat,TA a k s' kk/\eF k.kind=true/\((n.Kind=9\/n.Kind=10\/(n.Kind=15/\q=0))->jE k.kind=true):=fun q k hq=>by
   obtain ⟨kk,s',g1,g2,_⟩:=hka.get q k hq;have hql:q < n.Kids.length:=(cO.1 g1).1;obtain ⟨y,y1,y2⟩:=jo q hql;have hkk:n.Kids[q]=(kk:Int):=(cO.1 g1).2;obtain ⟨m,m1,m2,_⟩:=g2.node;rw [hkk,wI m1] at y1;cases y1;have:=aqx n q y.Kind y2 hen;rw [<- m2] at this;exact ⟨kk,s',g2,this⟩
  unfold Ar at har;obtain ⟨r0,r1,r2,r3,r4⟩:=har;rw [<- e1] at r0 r1 r2 r3 r4;rw [<- hkl] at r0 r1 r2 r3 r4;refine arS ⟨he,by rw [e1,e2];exact hlv,r0,fun h=>r2 ah,fun h=>r3 h,r4,fun h=>r1 h,ah,fun k hk=>?_,fun k hk h=>?_,fun h=>?_⟩ fun k hk=>?_
  .obtain ⟨q,hq⟩:=EF hk;obtain ⟨_,_,_,h2,_⟩:=ajS q k hq;exact h2
  .obtain ⟨_,_,_,_,h2⟩:=ajS 0 k hk;exact h2 (by rw [<- e1];rcases h with h|h|h<;>simp [h])
  .rw [e2];exact aqy N n hf (by rw [<- e1];exact h)
  .obtain ⟨q,hq⟩:=EF hk;obtain ⟨kk,s',g1,g2,_⟩:=ajS q k hq;exact ih k hk s' kk g1 g2
def aEu (N:Nat) (n:aD) (h:yu N n=some true):TV N n=some true:=by
 unfold yu at h;obtain ⟨⟨lo,hi⟩,h1,h⟩:=bind_some h;obtain ⟨y6,h2,h⟩:=bind_some h;obtain ⟨y13,h3,h⟩:=bind_some h;cases h;rcases Oq h3 with ⟨_,h3⟩|⟨_,h3⟩
 .obtain ⟨cZ,ho,h3⟩:=bind_some h3;rcases Oq h3 with ⟨hc,h3⟩|⟨_,h3⟩
  .obtain ⟨eY,ht,h3⟩:=bind_some h3;rcases Oq h3 with ⟨hc2,h3⟩|⟨_,h3⟩
   .subst hc2;exact ht
   .cases h3
  .cases h3
 .cases h3
def Bc (N:Nat) (t:aG):Prop:=rG N t=some true
structure TN (N:Nat) (t:aC):Prop where
 n6:t.kind=1\/t.kind=5\/t.kind=13->Bc N ⟨6,t.text,0⟩
 n7:t.kind=7->Bc N ⟨7,t.text,0⟩
 n8:t.kind=8->Bc N ⟨8,t.text,0⟩
 n2:t.kind=2->Bc N ⟨3,t.text,0⟩
 n3:t.kind=3->Bc N ⟨4,t.text,0⟩
 n4:t.kind=4->Bc N ⟨5,t.text,0⟩
def ZH {x:Option Bool} {c:Bool} (h:((Option.bind x fun r=>bif r then some c else some false).bind fun y=>some y)=some true):x=some true/\c=true:=by
 cases x with
 | none=>cases h
 | some r=>
  cases r with
  | false=>cases h
  | true=>exact ⟨rfl,mJ h⟩
def QZ {x:List UInt8} (h:(x==[])=true):x=[]:=by simpa using h
def aEv (N:Nat) (n:aD) (h:yu N n=some true) (he:eF n.Kind=true) (ts:List aC) (hts:ts.length=n.Kids.length):CN ⟨n.Kind,n.Op,n.Text,n.Other,ts⟩/\TN N ⟨n.Kind,n.Op,n.Text,n.Other,ts⟩:=by
 have ht:=aEu N n h;obtain ⟨lo,hi,h1,h2,h3,h4⟩:=ajs N n h;obtain ⟨k,o,x,y,ks⟩:=n;have named:DR N (⟨k,o,x,y,ks⟩,true)=some true->Ca N x=some true/\y=[]:=fun h=>by
  obtain ⟨a,b⟩:=ZH (x:=Ca N x) (c:=y==[]) h;exact ⟨a,QZ b⟩
 have plain:((bif (x==[]) then some (y==[]) else (some false)).bind fun Xt=>some Xt)=some true->x=[]/\y=[]:=fun h=>by
  cases hx:(x==[]) with
  | false=>rw [hx] at h;cases h
  | true=>
   rw [hx] at h;exact ⟨QZ hx,QZ<|mJ h⟩
 have tq:(Option.some<|o==0)=some true->o=0:=fun h=>by simpa using mJ h
 have nok:∀ kk:Int,kk=6\/kk=7->Ca N x=some true->Bc N ⟨kk,x,0⟩:=fun kk hkk h=>by
  unfold Bc;have e:rG N ⟨kk,x,0⟩=zq N (⟨kk,x,0⟩,true):=by rcases hkk with rfl|rfl<;>rfl
  rw [e];unfold zq;dsimp only;rw [aS,h];rfl
 rcases kinds he with e|e|e|e|e|e|e|e|e|e|e|e|e|e|e<;>(have e:k=_:=e;subst e)
 case inl=>
  obtain ⟨hn,hy⟩:=named ht;have ho:=tq h2;subst ho hy;exact ⟨⟨fun _=>rfl,rfl,aA,aA,aA,aA,aA⟩,⟨fun _=>nok 6 (.inl rfl) hn,aA,aA,aA,aA,aA⟩⟩
 case inr.inl=>
  obtain ⟨hn,hy⟩:=ZH (x:=rG N ⟨3,x,0⟩) (c:=y==[]) ht;have hy:=QZ hy;have ho:=tq h2;subst ho hy;exact ⟨⟨fun _=>rfl,rfl,aA,aA,aA,aA,aA⟩,⟨aA,aA,aA,fun _=>hn,aA,aA⟩⟩
 case inr.inr.inl=>
  obtain ⟨hn,hy⟩:=ZH (x:=rG N ⟨4,x,0⟩) (c:=y==[]) ht;have hy:=QZ hy;have ho:=tq h2;subst ho hy;exact ⟨⟨fun _=>rfl,rfl,aA,aA,aA,aA,aA⟩,⟨aA,aA,aA,aA,fun _=>hn,aA⟩⟩
 case inr.inr.inr.inl=>
  obtain ⟨hn,hy⟩:=ZH (x:=rG N ⟨5,x,0⟩) (c:=y==[]) ht;have hy:=QZ hy;have ho:=tq h2;subst ho hy;exact ⟨⟨fun _=>rfl,rfl,aA,aA,aA,aA,aA⟩,⟨aA,aA,aA,aA,aA,fun _=>hn⟩⟩
 case inr.inr.inr.inr.inl=>
  obtain ⟨hn,hy⟩:=named ht;have ho:=tq h2;subst ho hy;have hm:(ks.length:Int)<=6:=by
   have:some ((1:Int),(6:Int))=some (lo,hi):=h1;cases this;exact h4
  exact ⟨⟨fun _=>rfl,rfl,aA,aA,aA,aA,fun _=>by show ts.length<=6;have hts:ts.length=ks.length:=hts;omega⟩,⟨fun _=>nok 6 (.inl rfl) hn,aA,aA,aA,aA,aA⟩⟩
 case inr.inr.inr.inr.inr.inl=>
  obtain ⟨hx,hy⟩:=plain ht;have ho:=tq h2;subst ho hx hy;exact ⟨⟨fun _=>rfl,rfl,fun _=>rfl,aA,aA,aA,aA⟩,⟨aA,aA,aA,aA,aA,aA⟩⟩
 case inr.inr.inr.inr.inr.inr.inl=>
  obtain ⟨hn,hy⟩:=named ht;have ho:=tq h2;subst ho hy;have hm:(ks.length:Int)<=6:=by
   have:some ((0:Int),(6:Int))=some (lo,hi):=h1;cases this;exact h4
  exact ⟨⟨fun _=>rfl,rfl,aA,aA,aA,aA,fun _=>by show ts.length<=6;have hts:ts.length=ks.length:=hts;omega⟩,⟨aA,fun _=>nok 7 (.inr rfl) hn,aA,aA,aA,aA⟩⟩
 case inr.inr.inr.inr.inr.inr.inr.inl=>
  obtain ⟨hn,hy⟩:=ZH (x:=Jo N x) (c:=y==[]) ht;have hy:=QZ hy;have ho:=tq h2;subst ho hy;have hm:(ks.length:Int)<=6:=by
   have:some ((0:Int),(6:Int))=some (lo,hi):=h1;cases this;exact h4
  refine ⟨⟨fun _=>rfl,rfl,aA,aA,aA,aA,fun _=>by show ts.length<=6;have hts:ts.length=ks.length:=hts;omega⟩,⟨aA,aA,fun _=>?_,aA,aA,aA⟩⟩;unfold Bc;have e:rG N ⟨8,x,0⟩=zq N (⟨8,x,0⟩,false):=rfl;rw [e];unfold zq;dsimp only;show Option.bind (Jo N x) _=_;rw [hn];rfl
 case inr.inr.inr.inr.inr.inr.inr.inr.inl=>
  obtain ⟨hx,hy⟩:=plain ht;subst hx hy;have ho:o=51\/o=52:=by
   have e:DL ⟨9,o,[],[],ks⟩=some (o==51||o==52):=by
    show ((bif (o==51) then some true else some (o==52)).bind fun y=>some y)=_;cases (o==51)<;>rfl
   rw [e] at h2;simpa using mJ h2
  exact ⟨⟨aA,rfl,fun _=>rfl,fun _=>ho,aA,aA,aA⟩,⟨aA,aA,aA,aA,aA,aA⟩⟩
 case inr.inr.inr.inr.inr.inr.inr.inr.inr.inl=>
  obtain ⟨hx,hy⟩:=plain ht;subst hx hy;have ho:o=51\/o=52:=by
   have e:DL ⟨10,o,[],[],ks⟩=some (o==51||o==52):=by
    show ((bif (o==51) then some true else some (o==52)).bind fun y=>some y)=_;cases (o==51)<;>rfl
   rw [e] at h2;simpa using mJ h2
  exact ⟨⟨aA,rfl,fun _=>rfl,fun _=>ho,aA,aA,aA⟩,⟨aA,aA,aA,aA,aA,aA⟩⟩
 case inr.inr.inr.inr.inr.inr.inr.inr.inr.inr.inl=>
  obtain ⟨hx,hy⟩:=plain ht;subst hx hy;have ho:o=55\/o=56\/o=61:=by
   have e:DL ⟨11,o,[],[],ks⟩=some (o==55||(o==56||o==61)):=by
    show ((bif (o==55) then some true else (bif (o==56) then some true else some (o==61))).bind fun y=>some y)=_;cases (o==55)<;>cases (o==56)<;>rfl
   rw [e] at h2;simpa using mJ h2
  exact ⟨⟨aA,rfl,fun _=>rfl,aA,fun _=>ho,aA,aA⟩,⟨aA,aA,aA,aA,aA,aA⟩⟩
 case inr.inr.inr.inr.inr.inr.inr.inr.inr.inr.inr.inl=>
  obtain ⟨hx,hy⟩:=plain ht;subst hx hy;exact ⟨⟨aA,rfl,fun _=>rfl,aA,aA,aA,aA⟩,⟨aA,aA,aA,aA,aA,aA⟩⟩
 case inr.inr.inr.inr.inr.inr.inr.inr.inr.inr.inr.inr.inl=>
  obtain ⟨hn,hy⟩:=named ht;have ho:=tq h2;subst ho hy;have hm:(ks.length:Int)<=6:=by
   have:some ((1:Int),(6:Int))=some (lo,hi):=h1;cases this;exact h4
  exact ⟨⟨fun _=>rfl,rfl,aA,aA,aA,aA,fun _=>by show ts.length<=6;have hts:ts.length=ks.length:=hts;omega⟩,⟨fun _=>nok 6 (.inl rfl) hn,aA,aA,aA,aA,aA⟩⟩
 case inr.inr.inr.inr.inr.inr.inr.inr.inr.inr.inr.inr.inr.inl=>
  obtain ⟨hx,hy⟩:=plain ht;have ho:=tq h2;subst ho hx hy;exact ⟨⟨fun _=>rfl,rfl,fun _=>rfl,aA,aA,aA,aA⟩,⟨aA,aA,aA,aA,aA,aA⟩⟩
 case inr.inr.inr.inr.inr.inr.inr.inr.inr.inr.inr.inr.inr.inr=>
  obtain ⟨hx,hy⟩:=plain ht;subst hx hy;have ho:sW o=true:=by
   have e:DL ⟨15,o,[],[],ks⟩=Option.bind (BZ o) (fun dI=>some dI):=rfl;rw [e,ajw] at h2;exact mJ h2
  exact ⟨⟨aA,rfl,fun _=>rfl,aA,aA,fun _=>ho,aA⟩,⟨aA,aA,aA,aA,aA,aA⟩⟩
def azl (N:Nat) (a:List aD) (hN:500 < N) (hsh:qd a=true) (hok:tN N a=some true) {t:aC} {s i:Nat} (hT:TA a t s i) (hg:allT GN t):allT (fun u=>CN u/\TN N u) t:=by
 have key:∀ t:aC,∀ s i,TA a t s i->allT GN t->allT (fun u=>CN u/\TN N u) t:=by
  intro t;induction t using yC with
  | h t ih=>
   intro s i hT hg;obtain ⟨n,hn,e1,e2,e3,e4,hka,hkl⟩:=hT.node;obtain ⟨hf,_⟩:=aji N a hN hsh hok n (mH hn);have g:=wM hg;have r:=aEv N n hf (by rw [<- e1];exact g.e) t.kids hkl;have et:(⟨n.Kind,n.Op,n.Text,n.Other,t.kids⟩:aC)=t:=by
    rw [<- e1,<- e2,<- e3,<- e4];cases t;rfl
   rw [et] at r;refine arS r fun k hk=>?_;obtain ⟨q,hq⟩:=EF hk;obtain ⟨kk,s',_,g2,_⟩:=hka.get q k hq;exact ih k hk s' kk g2 (Cq hg k hk)
 exact key t s i hT hg
def rQ (N:Nat) {k:Int} (h:k=24\/k=32\/k=33\/k=34\/k=35\/k=36\/k=51\/k=52\/k=61\/k=65\/k=66\/k=68\/bL k≠0/\k≠99\/sW k=true):Bc N (sg k):=by
 have hk:k=24\/k=32\/k=33\/k=34\/k=35\/k=36\/k=51\/k=52\/k=61\/k=65\/k=66\/k=68\/k=44\/k=45\/k=67\/k=46\/k=63\/k=48\/k=47\/k=50\/k=62\/k=49\/k=55\/k=56\/k=57\/k=58\/k=59\/k=60\/k=38\/k=39\/k=40\/k=41\/k=42\/k=43\/k=54:=by
  rcases h with h|h|h|h|h|h|h|h|h|h|h|h|⟨h,h2⟩|h
  case inr.inr.inr.inr.inr.inr.inr.inr.inr.inr.inr.inr.inl=>have:=JQ h;omega
  case inr.inr.inr.inr.inr.inr.inr.inr.inr.inr.inr.inr.inr=>have:=Vz h;omega
  all_goals omega
 unfold Bc;have key:∀ k:Int,(k==2)=false->(k==3)=false->(k==4)=false->(k==5)=false->(k==6)=false->(k==7)=false->(k==8)=false->(spl k==[])=false->rG N (sg k)=some true:=fun k a1 a2 a3 a4 a5 a6 a7 a8=>by
  unfold rG zq sg;simp only [a1,a2,a3,a4,a5,a6,a7,a8,aJ,ari,av,ru,aS,afp]
 rcases hk with rfl|rfl|rfl|rfl|rfl|rfl|rfl|rfl|rfl|rfl|rfl|rfl|rfl|rfl|rfl|rfl|rfl|rfl|rfl|rfl|rfl|rfl|rfl|rfl|rfl|rfl|rfl|rfl|rfl|rfl|rfl|rfl|rfl|rfl|rfl<;>exact key _ rfl rfl rfl rfl rfl rfl rfl rfl
def pJ (N:Nat) (x:List aG):Prop:=∀ t,t∈x->Bc N t
def pJ.nil {N:Nat}:pJ N []:=fun t h=>by cases h
def pJ.app {N:Nat} {x y:List aG} (hx:pJ N x) (hy:pJ N y):pJ N (x++y):=fun t h=>by
 rcases lX.1 h with h|h
 .exact hx t h
 .exact hy t h
def pJ.cons {N:Nat} {t:aG} {y:List aG} (hx:Bc N t) (hy:pJ N y):pJ N (t::y):=fun u h=>by
 rcases iL.1 h with rfl|h
 .exact hx
 .exact hy u h
def pJ.one {N:Nat} {t:aG} (hx:Bc N t):pJ N [t]:=.cons hx .nil
def pJ.getD {N:Nat} {l:List (List aG)} (h:∀ x,x∈l->pJ N x) (j:Nat):pJ N (l.getD j []):=by
 rw [KD];cases e:l[j]? with
 | none=>exact .nil
 | some x=>exact h x (mH e)
def arT {N:Nat}:∀ (l:List (List aG)) (b:Bool),(∀ x,x∈l->pJ N x)->pJ N (dK b l)
 | [],b,_=>by rw [dK];exact .nil
 | x::l,b,h=>by
  rw [dK];refine .app ?_ (.app (h x aA)<|arT l true fun y hy=>h y<|by simp [hy]);cases b with
  | false=>exact .nil
  | true=>exact .one (rQ N aA)
def pJ.par {N:Nat} {b:Bool} {x y:List aG} (hx:pJ N x) (hy:pJ N y):pJ N (zH b x y):=by
 cases b with
 | false=>exact hx
 | true=>exact .cons (rQ N aA) (.app hy<|.one<|rQ N aA)
def aEw (N:Nat) (t:aC) (g:GN t) (c:CN t) (n:TN N t) (l:List (List aG)) (hl:∀ x,x∈l->pJ N x):pJ N (iJ t.kind t.op t.text l):=by
 obtain ⟨k,o,x,y,ks⟩:=t;have d:=pJ.getD hl;have li:=arT l false hl;rcases kinds g.e with e|e|e|e|e|e|e|e|e|e|e|e|e|e|e<;>(have e:k=_:=e;subst e)
 .exact .one (n.n6<|.inl rfl)
 .exact .one (n.n2 rfl)
 .exact .one (n.n3 rfl)
 .exact .one (n.n4 rfl)
 .exact .cons (n.n6<|.inr<|.inl rfl) (.cons (rQ N aA)<|.app li<|.one<|rQ N aA)
 .exact .cons (rQ N aA) (d 0)
 .exact .cons (n.n7 rfl) (.cons (rQ N aA)<|.app li<|.one<|rQ N aA)
 .exact .cons (n.n8 rfl) (.cons (rQ N aA)<|.app li<|.one<|rQ N aA)
 .exact .cons (rQ N (by have:o=51\/o=52:=c.k9 (.inl rfl);rcases this with rfl|rfl<;>simp)) (d 0)
 .exact .app (d 0) (.one<|rQ N (by have:o=51\/o=52:=c.k9 (.inr rfl);rcases this with rfl|rfl<;>simp))
 .refine .cons ?_ (d 0);have:o=55\/o=56\/o=61:=c.k11 rfl;rcases this with rfl|rfl|rfl
  .exact rQ N (.inr<|.inr<|.inr<|.inr<|.inr<|.inr<|.inr<|.inr<|.inr<|.inr<|.inr<|.inr<|.inl ⟨by show bL 55≠0;decide,by show (55:Int)≠99;decide⟩)
  .exact rQ N (.inr<|.inr<|.inr<|.inr<|.inr<|.inr<|.inr<|.inr<|.inr<|.inr<|.inr<|.inr<|.inl ⟨by show bL 56≠0;decide,by show (56:Int)≠99;decide⟩)
  .exact rQ N aA
 .refine .app (d 0) (.app ?_ (d 1));cases pG:(o==99) with
  | true=>exact .nil
  | false=>exact .one (rQ N<|.inr<|.inr<|.inr<|.inr<|.inr<|.inr<|.inr<|.inr<|.inr<|.inr<|.inr<|.inr<|.inl ⟨g.lv,by simpa using pG⟩)
 .refine .app (x:=bif decide (l.length > 1) then sg 32::(dK false l++[sg 33]) else l.getD 0 []) ?_ (.cons (rQ N aA)<|.one<|n.n6<|.inr<|.inr rfl);cases decide (l.length > 1) with
  | true=>exact .cons (rQ N aA) (.app li<|.one<|rQ N aA)
  | false=>exact d 0
 .exact .app (d 0) (.cons (rQ N aA)<|.app (d 1)<|.cons (rQ N aA)<|d 2)
 .refine .app (d 0) (.app ?_ (d 1));cases pG:(o==99) with
  | true=>exact .nil
  | false=>exact .one (rQ N<|.inr<|.inr<|.inr<|.inr<|.inr<|.inr<|.inr<|.inr<|.inr<|.inr<|.inr<|.inr<|.inr<|c.k15 rfl)
def ayZ (N:Nat) (f:Bool):∀ t:aC,allT GN t->allT (fun u=>CN u/\TN N u) t->∀ p,pJ N (bT f t p):=by
 intro t;induction t using yC with
 | h t ih=>
  intro hg hc p;obtain ⟨c,n⟩:=wM hc;rw [gy];refine aEw N t (wM hg) c n _ ?_;have key:∀ (ts:List aC) (j:Nat),(∀ u,u∈ts->u∈t.kids)->∀ x,x∈aZ f t.kind t.op t.kids.length j p ts->pJ N x:=by
   intro ts;induction ts with
   | nil=>intro j _ x hx;rw [aZ] at hx;cases hx
   | cons u ts ih2=>
    intro j hm x hx;rw [dV] at hx;rcases iL.1 hx with rfl|hx
    .have hu:=hm u aA;have hB:=ih u hu (Cq hg u hu) (Cq hc u hu);unfold bD dh;cases tgt t.kind j with
     | true=>exact hB _
     | false=>exact pJ.par (hB _) (hB _)
    .exact ih2 (j+1) (fun v hv=>hm v<|by simp [hv]) x hx
  exact key t.kids 0 fun u hu=>hu
def aEx (N:Nat) (t:aC) (hN:1048577 < N) (hz:aQ t<=400) (hx:Gp t):Pb N (bf 0 t)=some (gH t:Int):=by
 exact adG N (bf 0 t) hN (aeR ah hx 0) (aCp t hz) (aCq t)
def aEy (N:Nat) (t:aC) (hN:1048577 < N) (hz:aQ t<=400) (hd:gH t<=40) (hx:Gp t):YC N (bf 0 t)=some ⟨0,0⟩:=by
 unfold YC;rw [rV,pQ (show¬(aQ t:Int) > 400 by omega),aJ,aEx N t hN hz hx,av,pQ (show¬(gH t:Int) > 40 by omega),aJ]
def ayX (N:Nat) (hN:2000000<=N) (l:List aG) (hl:l.length<=3000) (t:aC) (h:Bool) (d:gP l dB 0 l.length t h) (hz:aQ t<=400) (hd:gH t<=40) (hx:Gp t) (hto:Kz N l=some true) (hne:uw 0 l=true):Gq N l dB=some (bf 0 t,(l.length:Int),⟨0,0⟩):=by
 obtain ⟨r,r1,r2,_⟩:=aEn N l hl ah;have r2:=r2 hne;subst r2;have hk:kd l l.length=0:=by unfold kd;rw [Da<|eU _];rfl
 have hr:=aEd l hl d hz dB rfl rfl 1 ah ah (d.lvl rfl) (by rw [hk];exact aDq _);have n1:(1:Int).toNat=1:=rfl;have e:=hr N (by show _+4*(16 - (1:Int).toNat)<=N;omega) [];have e':eD N dB l 0 false []=some ((⟨bf 0 t,h⟩:bS),(l.length:Int),false,[]):=e;unfold Gq;rw [EC,show posB dB=true from rfl,hto,r1];simp only [av,kQ,aJ];rw [show decide ((-1:Int)>=0)=false from rfl,aJ,show dB.eH=false from rfl,aJ,av,aJ,show dB.nU=false from rfl,aJ,av,aJ,e',av];unfold YD;dsimp only;rw [aJ,aEy N t ah hz hd hx,av];rfl
mutual
def iZ:aC->List aC
 | ⟨k,o,x,y,ks⟩=>eZ ks++[⟨k,o,x,y,ks⟩]
def eZ:List aC->List aC
 | []=>[]
 | t::ts=>iZ t++eZ ts
end
def Qt (t:aC):iZ t=eZ t.kids++[t]:=by cases t;rw [iZ]
def wL {α β:Type} (R:α->β->Prop):List α->List β->Prop
 | [],[]=>True
 | a::xs,b::ys=>R a b/\wL R xs ys
 | _,_=>False
def wL.app {α β:Type} {R:α->β->Prop}:∀ {a a':List α} {b b':List β},wL R a b->wL R a' b'->wL R (a++a') (b++b')
 | [],_,[],_,_,h=>h
 | _::_,_,_::_,_,h,h'=>⟨h.1,h.2.app h'⟩
 | [],_,_::_,_,h,_=>h.elim
 | _::_,_,[],_,h,_=>h.elim
def wL.imp {α β:Type} {R S:α->β->Prop} (hi:∀ a b,R a b->S a b):∀ {a:List α} {b:List β},wL R a b->wL S a b
 | [],[],_=>trivial
 | _::_,_::_,h=>⟨hi _ _ h.1,h.2.imp hi⟩
 | [],_::_,h=>h.elim
 | _::_,[],h=>h.elim
def wL.len {α β:Type} {R:α->β->Prop}:∀ {a:List α} {b:List β},wL R a b->a.length=b.length
 | [],[],_=>rfl
 | _::_,_::_,h=>by simp [h.2.len]
 | [],_::_,h=>h.elim
 | _::_,[],h=>h.elim
def wL.get {α β:Type} {R:α->β->Prop}:∀ {a:List α} {b:List β},wL R a b->∀ (i:Nat) (x:α) (y:β),a[i]?=some x->b[i]?=some y->R x y
 | _::_,_::_,h,0,x,y,hx,hy=>by
  simp at hx hy;rw [<- hx,<- hy];exact h.1
 | _::_,_::_,h,i+1,x,y,hx,hy=>h.2.get i x y (by simpa using hx) (by simpa using hy)
 | [],[],_,_,_,_,hx,_=>by simp at hx
 | [],_::_,h,_,_,_,_,_=>h.elim
 | _::_,[],h,_,_,_,_,_=>h.elim
def EA (f:Bool) (l:List aG) (s:aR) (u:aC):Prop:=∃ (a:Nat) (q:aF),posB q=true/\Sg l a (bT f u q)/\a+(bT f u q).length<=l.length/\s=⟨(a:Int),((a+(bT f u q).length:Nat):Int)⟩
def Sg.more {l:List aG} {i:Nat} {x:List aG} (h:Sg l i x) (hl:i+x.length<=l.length) (r:List aG):Sg (l++r) i x:=by
 obtain ⟨r',hr⟩:=h;exact ⟨r'++r,by rw [List.drop_append_of_le_length ah,hr,jP]⟩
def EA.app {f:Bool} {l:List aG} {s:aR} {u:aC} (h:EA f l s u) (r:List aG):EA f (l++r) s u:=by
 obtain ⟨a,q,h1,h2,h3,h4⟩:=h;exact ⟨a,q,h1,h2.more h3 r,by rw [fP];omega,h4⟩
def nN (f:Bool) (l:List aG) (aL sp:List aR) (us:List aC):Prop:=∃ CY,sp=aL++CY/\wL (EA f l) CY us
def nN.nil {f:Bool} {l:List aG} {aL:List aR}:nN f l aL aL []:=⟨[],aA,trivial⟩
def nN.app {f:Bool} {l:List aG} {aL sp:List aR} {us:List aC} (h:nN f l aL sp us) (r:List aG):nN f (l++r) aL sp us:=by
 obtain ⟨CY,h1,h2⟩:=h;exact ⟨CY,h1,h2.imp fun _ _ h=>h.app r⟩
def nN.cast {f:Bool} {l l':List aG} {aL sp:List aR} {us:List aC} (h:nN f l aL sp us) (e:l=l'):nN f l' aL sp us:=e ▸ h
def nN.trans {f:Bool} {l:List aG} {aL sp sq:List aR} {us vs:List aC} (h:nN f l aL sp us) (h':nN f l sp sq vs):nN f l aL sq (us++vs):=by
 obtain ⟨CY,h1,h2⟩:=h;obtain ⟨sqs,g1,g2⟩:=h';exact ⟨CY++sqs,by rw [g1,h1,jP],h2.app g2⟩
def nN.own {f:Bool} {l:List aG} {aL sp:List aR} {us:List aC} (h:nN f l aL sp us) {s:aR} {t:aC} (ho:EA f l s t):nN f l aL (sp++[s]) (us++[t]):=h.trans ⟨[s],rfl,ho,trivial⟩
def ajT {f:Bool} {t:aC} {p:aF} {x:List aG} (hp:posB p=true) (he:bT f t p=x) (toks:List aG):EA f (toks++x) ⟨(toks.length:Int),((toks++x).length:Int)⟩ t:=
 ⟨toks.length,p,hp,⟨[],by rw [List.drop_left' rfl,he,nQ]⟩,by rw [he,fP];omega,by rw [he,fP]⟩
def Wr (f:Bool) (x:Option (List aG×List aR)) (l:List aG) (aL:List aR) (c:Nat) (us:List aC):Prop:=∃ sp,x=some (l,sp)/\sp.length<=aL.length+c/\nN f l aL sp us
def aEA (f:Bool) (M:Nat) (t kid:aC) (j:Nat) (p:aF) (toks:List aG) (aL:List aR) (hM:1000 < M) (g:GN t) (hk:t.kids[j]?=some kid) (hp:posB p=true):
  (bK<|M+1).eB t (j:Int) p f toks aL=
   bif tgt t.kind j then (bK M).zA kid (bP t.kind t.op t.kids.length j p) f toks aL
   else (bK M).xW kid (bP t.kind t.op t.kids.length j p) f toks aL:=by
 have hl:=g.le;have hj:j < t.kids.length:=(cO.1 hk).1;have hkp:PY (FP t) (j:Int) p=some (bP t.kind t.op t.kids.length j p):=by
  have:=aqm (FP t) j p (by show j < (zK _).length;rw [JJ];exact hj) (by show (zK _).length<=_;rw [JJ];omega) hp g.e g.lv (fun e=>by show (zK _).length=2;rw [JJ];exact g.a2<|.inl e);rw [this];show some (bP t.kind t.op (zK t.kids.length).length j p)=_;rw [JJ]
 have iV:PZ (FP t) (j:Int)=some (tgt t.kind j):=by
  unfold PZ tgt;show Option.bind (bif ((j:Int)==0) then bif (t.kind==9) then some true else (bif (t.kind==10) then some true else (some<|t.kind==15)) else (some false)) (fun y1=>some y1)=_;simp only [Vv,Qv,av]
 have xI:∀ x:Option (List aG×List aR),(Option.bind x fun r=>some (r.1,r.2))=x:=fun x=>by cases x<;>rfl
 show Qa M (bK M) t (j:Int) p f toks aL=_;unfold Qa;rw [adW M t ah ah,av,wI hk,av,hkp,av,iV,av];cases tgt t.kind j<;>simp only [aS,aJ,xI]
def VA (f:Bool) (t:aC):Prop:=∀ (M:Nat) (p:aF) (toks:List aG) (aL:List aR),posB p=true->1000+8*aQ t<=M->toks.length+8*aQ t<=900000->aL.length+aQ t<=900000->
 Wr f ((bK M).zA t p f toks aL) (toks++bT f t p) aL (aQ t) (iZ t)
def ImE (f:Bool) (t:aC):Prop:=∀ (M:Nat) (p:aF) (toks:List aG) (aL:List aR),posB p=true->1001+8*aQ t<=M->toks.length+8*aQ t+1<=900000->aL.length+aQ t<=900000->
 Wr f ((bK M).xW t p f toks aL) (toks++dh f t p) aL (aQ t) (iZ t)
def aeU {f:Bool} {t:aC} (g:GN t) (h:VA f t):ImE f t:=by
 intro M p toks aL hp hM ht hs;obtain ⟨M,rfl⟩:∃ m,M=m+1:=⟨M - 1,ah⟩
 have hl:=g.le;have xI:∀ x:Option (List aG×List aR),(Option.bind x fun r=>some (r.1,r.2))=x:=fun x=>by cases x<;>rfl
 have key:∀ b:Bool,Wr f (JA M (bK M) f (t,p,toks,aL,b)) (toks++zH b (bT f t p) (bT f t dB)) aL (aQ t) (iZ t):=fun b=>by
  unfold JA;cases b with
  | false=>
   simp only [ru,aS,xI];exact h M p toks aL hp ah ah hs
  | true=>
   have hl2:=Qu f t dB;obtain ⟨sp,r1,r2,r3⟩:=h M dB (toks++[sg 32]) aL rfl ah (by simp;have:=kN t;omega) hs;simp only [kQ,aJ,AZ,av,Uz];rw [kU _ _ _ _ aU,av];have r1':(bK M).zA t (⟨1,false,false,false,false⟩:aF) f (toks++[sg 32]) aL=some (toks++[sg 32]++bT f t dB,sp):=r1;rw [r1',av];simp only [];rw [kU _ _ _ _ aU,av];refine ⟨sp,?_,r2,(r3.app [sg 33]).cast<|by simp [zH]⟩;simp [zH]
 show Wr f (Qb M (bK M) t p f toks aL) _ _ _ _;unfold Qb dh;rw [adW M t ah ah,av,aqp,av];cases f with
 | false=>exact key (!jL t.kind t.op p)
 | true=>
  rw [ajr,av,aS];have e:(bif lv t.kind t.op !=15 then some true else some (t.kind==4))=some (lv t.kind t.op !=15||t.kind==4):=Vv _ _;have e2:(bif lv (FP t).Kind (FP t).Op !=15 then some true else some ((FP t).Kind==4))=some (lv t.kind t.op !=15||t.kind==4):=e;rw [e2,av];exact key _
def Cy {f:Bool} {t kid:aC} {j:Nat} (g:GN t) (hk:t.kids[j]?=some kid) (hB:VA f kid) (gk:GN kid) (M:Nat) (p:aF) (toks:List aG) (aL:List aR) (hp:posB p=true) (hM:1003+8*aQ kid<=M) (ht:toks.length+8*aQ kid+1<=900000) (hs:aL.length+aQ kid<=900000):
  Wr f ((bK M).eB t (j:Int) p f toks aL) (toks++bD f t.kind t.op t.kids.length j p kid) aL (aQ kid) (iZ kid):=by
 obtain ⟨M,rfl⟩:∃ m,M=m+1:=⟨M - 1,ah⟩
 have hkp:=um (k:=t.kind) (o:=t.op) (n:=t.kids.length) (j:=j) (p:=p) g.e;rw [aEA f M t kid j p toks aL ah g hk hp];unfold bD;cases tgt t.kind j with
 | true=>exact hB M _ toks aL hkp ah ah hs
 | false=>exact aeU gk hB M _ toks aL hkp ah ht hs
def arU {f:Bool} {t:aC} (g:GN t) (hB:∀ k,k∈t.kids->VA f k/\GN k) (M:Nat) (p:aF) (sh:Int) (hp:posB p=true) (hM:∀ k,k∈t.kids->1003+8*aQ k<=M):∀ (ts:List aC) (n j:Nat) (toks:List aG) (aL:List aR),t.kids.drop j=ts->ts.length < n->
  toks.length+8*aK ts+4<=900000->aL.length+aK ts<=900000->
  Wr f (zC M (bK M) f n (sh,t,p,(j:Int),toks,aL)) (toks++(dK (decide<|j > 0) (aZ f t.kind t.op t.kids.length j p ts)++[sg sh])) aL (aK ts) (eZ ts)
 | [],n,j,toks,aL,hd,hn,ht,hs=>by
  obtain ⟨n,rfl⟩:∃ m,n=m+1:=⟨n - 1,by simp at hn;omega⟩
  have hlt: ¬j < t.kids.length:=by
   intro h;rw [drop_cons h] at hd;cases hd
  rw [zC];simp only [kG hlt,aJ,AZ,av];rw [kU _ _ _ _ aU,av,aZ];refine ⟨aL,?_,ah,by rw [eZ];exact .nil⟩;cases decide (j > 0)<;>simp [dK]
 | k::ts,n,j,toks,aL,hd,hn,ht,hs=>by
  simp only [kY] at hn;obtain ⟨n,rfl⟩:∃ m,n=m+1:=⟨n - 1,ah⟩
  have hlt:j < t.kids.length:=by
   cases xX j t.kids.length with
   | inl h=>exact h
   | inr h=>rw [Gv h] at hd;cases hd
  rw [drop_cons hlt] at hd;injection hd with hd1 hd2;have hmem:k∈t.kids:=by rw [<- hd1];exact ou hlt
  have hget:t.kids[j]?=some k:=by rw [fB hlt,hd1]
  have hle:=g.le;rw [aK] at ht hs;have hkt:=rP f t.kind t.op t.kids.length j p k;have step:∀ (dW:List aG),dW.length<=toks.length+1->Wr f (Mi M (bK M) f (zC M (bK M) f n) (sh,(j:Int),t,p,aL,dW))
    (dW++(bD f t.kind t.op t.kids.length j p k++(dK true (aZ f t.kind t.op t.kids.length (j+1) p ts)++[sg sh]))) aL (aK<|k::ts) (eZ<|k::ts):=fun dW hl'=>by
   unfold Mi;obtain ⟨sp,r1,r2,r3⟩:=Cy g hget (hB k hmem).1 (hB k hmem).2 M p dW aL hp (hM k hmem) (by have:=kN k;omega) ah;simp only [r1,av];rw [wrap64 ah ah,show (j:Int)+1=((j+1:Nat):Int) by omega];obtain ⟨sp',q1,q2,q3⟩:=arU g hB M p sh hp hM ts n (j+1) (dW++bD f t.kind t.op t.kids.length j p k) sp hd2 ah (by rw [fP];omega) ah;refine ⟨sp',?_,by rw [aK];omega,by rw [eZ];exact ((r3.app _).trans q3).cast<|by rw [show decide (j+1 > 0)=true by simp];simp⟩;rw [q1,show decide (j+1 > 0)=true by simp];simp
  rw [zC];simp only [iT hlt,aS];rw [dV,dK];have hg:decide ((j:Int) > 0)=decide (j > 0):=by by_cases h:j > 0<;>simp [h]
  rw [hg];cases hj:decide (j > 0) with
  | true=>
   simp only [aS,AZ,av];rw [kU _ _ _ _ aU,av];have:=step (toks++[sg 36]) aA;simpa using this
  | false=>
   simp only [aJ];have:=step toks ah;simpa using this
def arV {f:Bool} {t:aC} (g:GN t) (hB:∀ k,k∈t.kids->VA f k/\GN k) (M:Nat) (p:aF) (op sh:Int) (hp:posB p=true) (hM:1003+8*aK t.kids<=M) (toks:List aG) (aL:List aR) (ht:toks.length+8*aK t.kids+5<=900000) (hs:aL.length+aK t.kids<=900000):
  Wr f ((bK<|M+1).sS t op sh p f toks aL) (toks++(sg op::(dK false (aZ f t.kind t.op t.kids.length 0 p t.kids)++[sg sh]))) aL (aK t.kids) (eZ t.kids):=by
 have hl:=g.le;show Wr f (Jz M (bK M) t op sh p f toks aL) _ _ _ _;unfold Jz;rw [AZ,av,kU _ _ _ _ aU,av];have:=arU g hB M p sh hp (fun k hk=>by have:=Cr hk;omega) t.kids M 0 (toks++[sg op]) aL rfl (by have:=zI t.kids;omega) aU hs;rw [show decide (0 > 0)=false by simp] at this;simpa using this
def ajU {f:Bool} {M:Nat} {R:sQ} {toks l:List aG} {aL sp:List aR} {c:Nat} {us:List aC} {t:aC} (hs:sp.length<=aL.length+c) (hc:aL.length+c+1<=900000) (hx:nN f l aL sp us) (ho:EA f l ⟨(toks.length:Int),(l.length:Int)⟩ t):
  Wr f (mQ M R f (toks,l,sp)) l aL (c+1) (us++[t]):=by
 unfold mQ;simp only [];rw [jf aU,av];exact ⟨_,rfl,aU,hx.own ho⟩
def imB (f:Bool):∀ t:aC,allT GN t->VA f t:=by
 intro t;induction t using yC with
 | h t ih=>
  intro hall M p toks aL hp hM ht hs;have g:=wM hall;have hk:∀ k,k∈t.kids->VA f k/\GN k:=fun k hk=>⟨ih k hk<|Cq hall k hk,wM<|Cq hall k hk⟩
  have hsz:=wh t;have hl:=g.le;obtain ⟨M,rfl⟩:∃ m,M=m+3:=⟨M - 3,ah⟩
  show Wr f (Ym (M+2) (bK<|M+2) t p f toks aL) _ _ _ _;have leaf:∀ tk:aG,t.kids=[]->bT f t p=[tk]->Wr f ((iA [tk] f toks aL).bind fun gN=>mQ (M+2) (bK<|M+2) f (toks,gN,aL)) (toks++[tk]) aL (aQ t) (iZ t):=fun tk hk0 he=>by
   rw [kU _ _ _ _ aU,av,hsz,Qt,hk0,eZ,aK];exact ajU ah (by have:=kN t;omega) .nil (ajT hp he toks)
  have named:∀ (tk:aG) (op sh:Int),bT f t p=tk::sg op::(dK false (aZ f t.kind t.op t.kids.length 0 p t.kids)++[sg sh])->Wr f ((iA [tk] f toks aL).bind fun iW=>((bK<|M+2).sS t op sh p f iW aL).bind fun jD=>mQ (M+2) (bK<|M+2) f (toks,jD.1,jD.2))
    (toks++(tk::sg op::(dK false (aZ f t.kind t.op t.kids.length 0 p t.kids)++[sg sh]))) aL (aQ t) (iZ t):=fun tk op sh he=>by
   rw [kU _ _ _ _ aU,av];obtain ⟨sp,r1,r2,r3⟩:=arV g hk (M+1) p op sh hp ah (toks++[tk]) aL aU ah;rw [r1,av,hsz,Qt];have el:toks++[tk]++(sg op::(dK false (aZ f t.kind t.op t.kids.length 0 p t.kids)++[sg sh]))=toks++(tk::sg op::(dK false (aZ f t.kind t.op t.kids.length 0 p t.kids)++[sg sh])):=aA;rw [el] at r3 ⊢;exact ajU r2 ah r3 (ajT hp he toks)
  have oper:∀ (l:List aG),bT f t p=l->∀ (x:Option (List aG×List aR)),Wr f x (toks++l) aL (aK t.kids) (eZ t.kids)->(Yl (M+1) (bK<|M+1) t p f toks aL=x)->Wr f (((bK<|M+2).Mh t p f toks aL).bind fun fM=>mQ (M+2) (bK<|M+2) f (toks,fM.1,fM.2)) (toks++l) aL (aQ t) (iZ t):=fun l ho x hx he=>by
   have e:(bK<|M+2).Mh t p f toks aL=Yl (M+1) (bK<|M+1) t p f toks aL:=rfl;obtain ⟨sp,r1,r2,r3⟩:=hx;rw [e,he,r1,av,hsz,Qt];exact ajU r2 ah r3 (ajT hp ho toks)
  have xI:∀ x:Option (List aG×List aR),(Option.bind x fun r=>some (r.1,r.2))=x:=fun x=>by cases x<;>rfl
  rw [gy];clear ih hall;obtain ⟨k,o,x,y,ks⟩:=t;simp only at hsz hl;have hc:=kinds g.e;simp only at hc;rcases hc with e|e|e|e|e|e|e|e|e|e|e|e|e|e|e<;>subst e
  .exact leaf ⟨6,x,0⟩ (Gt.1<|g.a0 aA) (by rw [gy];rfl)
  .exact leaf ⟨3,x,0⟩ (Gt.1<|g.a0 aA) (by rw [gy];rfl)
  .exact leaf ⟨4,x,0⟩ (Gt.1<|g.a0 aA) (by rw [gy];rfl)
  .exact leaf ⟨5,x,0⟩ (Gt.1<|g.a0 aA) (by rw [gy];rfl)
  .exact named ⟨6,x,0⟩ 34 35 (by rw [gy];rfl)
  ·
   have h1:=g.a1 aA;obtain ⟨kid,rfl⟩:=Gw.1 h1;have hm:kid∈(aC.mk 6 o x y [kid]).kids:=aA;have qO:aK [kid]=aQ kid:=by rw [aK,aK];omega
   have xO:∀ k' o' x' y',aK (aC.mk k' o' x' y' [kid]).kids=aQ kid:=fun _ _ _ _=>qO;obtain ⟨sp,r1,r2,r3⟩:=Cy (j:=0) g rfl (hk kid hm).1 (hk kid hm).2 (M+1) p (toks++[sg 68]) aL hp ah aU ah;have h0:=oper (sg 68::bD f 6 o 1 0 p kid) (by rw [gy];show iJ 6 o x (aZ f 6 o 1 0 p [kid])=_;rw [dV,aZ];rfl) (some (toks++[sg 68]++bD f 6 o 1 0 p kid,sp)) ⟨sp,aA,by rw [xO];omega,by show nN f _ aL sp (eZ [kid]);rw [eZ,eZ,nQ];exact (r3).cast aA⟩ (by
    show ((jJ 68).bind fun bF=>(iA [bF] f toks aL).bind fun nY=>((bK<|M+1).eB ⟨6,o,x,y,[kid]⟩ 0 p f nY aL).bind fun jI=>some (jI.1,jI.2))=_;rw [AZ,av,kU _ _ _ _ aU,av,xI];exact r1)
   have e2:iJ 6 o x (aZ f 6 o 1 0 p [kid])=sg 68::bD f 6 o 1 0 p kid:=by
    rw [dV,aZ];rfl
   show Wr _ _ (toks++iJ 6 o x (aZ f 6 o 1 0 p [kid])) _ _ _;rw [e2];exact h0
  .exact named ⟨7,x,0⟩ 32 33 (by rw [gy];rfl)
  .exact named ⟨8,x,0⟩ 32 33 (by rw [gy];rfl)
  ·
   have h1:=g.a1 aA;obtain ⟨kid,rfl⟩:=Gw.1 h1;have hm:kid∈(aC.mk 9 o x y [kid]).kids:=aA;have qO:aK [kid]=aQ kid:=by rw [aK,aK];omega
   have xO:∀ k' o' x' y',aK (aC.mk k' o' x' y' [kid]).kids=aQ kid:=fun _ _ _ _=>qO;obtain ⟨sp,r1,r2,r3⟩:=Cy (j:=0) g rfl (hk kid hm).1 (hk kid hm).2 (M+1) p (toks++[sg o]) aL hp ah aU ah;have h0:=oper (sg o::bD f 9 o 1 0 p kid) (by rw [gy];show iJ 9 o x (aZ f 9 o 1 0 p [kid])=_;rw [dV,aZ];rfl) (some (toks++[sg o]++bD f 9 o 1 0 p kid,sp)) ⟨sp,aA,by rw [xO];omega,by show nN f _ aL sp (eZ [kid]);rw [eZ,eZ,nQ];exact (r3).cast aA⟩ (by
    show ((jJ o).bind fun bF=>(iA [bF] f toks aL).bind fun nY=>((bK<|M+1).eB ⟨9,o,x,y,[kid]⟩ 0 p f nY aL).bind fun jI=>some (jI.1,jI.2))=_;rw [AZ,av,kU _ _ _ _ aU,av,xI];exact r1)
   have e2:iJ 9 o x (aZ f 9 o 1 0 p [kid])=sg o::bD f 9 o 1 0 p kid:=by
    rw [dV,aZ];rfl
   show Wr _ _ (toks++iJ 9 o x (aZ f 9 o 1 0 p [kid])) _ _ _;rw [e2];exact h0
  ·
   have h1:=g.a1 aA;obtain ⟨kid,rfl⟩:=Gw.1 h1;have hm:kid∈(aC.mk 10 o x y [kid]).kids:=aA;have qO:aK [kid]=aQ kid:=by rw [aK,aK];omega
   have xO:∀ k' o' x' y',aK (aC.mk k' o' x' y' [kid]).kids=aQ kid:=fun _ _ _ _=>qO;have hkt:=rP f 10 o 1 0 p kid;obtain ⟨sp,r1,r2,r3⟩:=Cy (j:=0) g rfl (hk kid hm).1 (hk kid hm).2 (M+1) p toks aL hp ah ah ah;have r1':(bK<|M+1).eB ⟨10,o,x,y,[kid]⟩ 0 p f toks aL=some (toks++bD f 10 o 1 0 p kid,sp):=r1;have h0:=oper (bD f 10 o 1 0 p kid++[sg o]) (by rw [gy];show iJ 10 o x (aZ f 10 o 1 0 p [kid])=_;rw [dV,aZ];rfl) (some (toks++bD f 10 o 1 0 p kid++[sg o],sp)) ⟨sp,aA,by rw [xO];omega,by show nN f _ aL sp (eZ [kid]);rw [eZ,eZ,nQ];exact (r3.app [sg o]).cast aA⟩ (by
    show (((bK<|M+1).eB ⟨10,o,x,y,[kid]⟩ 0 p f toks aL).bind fun eY=>(jJ o).bind fun dR=>(iA [dR] f eY.1 eY.2).bind fun dI=>some (dI,eY.2))=_;rw [r1',av,AZ,av];simp only [];rw [kU _ _ _ _ aU,av])
   have e2:iJ 10 o x (aZ f 10 o 1 0 p [kid])=bD f 10 o 1 0 p kid++[sg o]:=by
    rw [dV,aZ];rfl
   show Wr _ _ (toks++iJ 10 o x (aZ f 10 o 1 0 p [kid])) _ _ _;rw [e2];exact h0
  ·
   have h1:=g.a1 aA;obtain ⟨kid,rfl⟩:=Gw.1 h1;have hm:kid∈(aC.mk 11 o x y [kid]).kids:=aA;have qO:aK [kid]=aQ kid:=by rw [aK,aK];omega
   have xO:∀ k' o' x' y',aK (aC.mk k' o' x' y' [kid]).kids=aQ kid:=fun _ _ _ _=>qO;obtain ⟨sp,r1,r2,r3⟩:=Cy (j:=0) g rfl (hk kid hm).1 (hk kid hm).2 (M+1) p (toks++[sg o]) aL hp ah aU ah;have h0:=oper (sg o::bD f 11 o 1 0 p kid) (by rw [gy];show iJ 11 o x (aZ f 11 o 1 0 p [kid])=_;rw [dV,aZ];rfl) (some (toks++[sg o]++bD f 11 o 1 0 p kid,sp)) ⟨sp,aA,by rw [xO];omega,by show nN f _ aL sp (eZ [kid]);rw [eZ,eZ,nQ];exact (r3).cast aA⟩ (by
    show ((jJ o).bind fun bF=>(iA [bF] f toks aL).bind fun nY=>((bK<|M+1).eB ⟨11,o,x,y,[kid]⟩ 0 p f nY aL).bind fun jI=>some (jI.1,jI.2))=_;rw [AZ,av,kU _ _ _ _ aU,av,xI];exact r1)
   have e2:iJ 11 o x (aZ f 11 o 1 0 p [kid])=sg o::bD f 11 o 1 0 p kid:=by
    rw [dV,aZ];rfl
   show Wr _ _ (toks++iJ 11 o x (aZ f 11 o 1 0 p [kid])) _ _ _;rw [e2];exact h0
  ·
   have h1:=g.a2 aA;obtain ⟨kx,ky,rfl⟩:=MI h1;have hmx:kx∈(aC.mk 12 o x y [kx,ky]).kids:=aA;have yD:ky∈(aC.mk 12 o x y [kx,ky]).kids:=aA;have qO:aK [kx,ky]=aQ kx+aQ ky:=by rw [aK,aK,aK];omega
   have xO:∀ k' o' x' y',aK (aC.mk k' o' x' y' [kx,ky]).kids=aQ kx+aQ ky:=fun _ _ _ _=>qO;have hkt:=rP f 12 o 2 0 p kx;have YZ:=rP f 12 o 2 1 p ky;have hpx:=kN kx;have hpy:=kN ky;obtain ⟨sp,r1,r2,r3⟩:=Cy (j:=0) g rfl (hk kx hmx).1 (hk kx hmx).2 (M+1) p toks aL hp ah ah ah;have r1':(bK<|M+1).eB ⟨12,o,x,y,[kx,ky]⟩ 0 p f toks aL=some (toks++bD f 12 o 2 0 p kx,sp):=r1;have e2:iJ 12 o x (aZ f 12 o 2 0 p [kx,ky])=bD f 12 o 2 0 p kx++((bif o==99 then [] else [sg o])++bD f 12 o 2 1 p ky):=by
    rw [dV,dV,aZ];rfl
   show Wr _ _ (toks++iJ 12 o x (aZ f 12 o 2 0 p [kx,ky])) _ _ _;rw [e2];have second:∀ (r0 dW:List aG),dW=toks++bD f 12 o 2 0 p kx++r0->dW.length<=toks.length+(bD f 12 o 2 0 p kx).length+1->∃ sq,xE (M+1) (bK<|M+1) f (⟨12,o,x,y,[kx,ky]⟩,p,(toks++bD f 12 o 2 0 p kx,sp),dW)=some (dW++bD f 12 o 2 1 p ky,sq)/\sq.length<=aL.length+aK [kx,ky]/\nN f (dW++bD f 12 o 2 1 p ky) aL sq (iZ kx++iZ ky):=fun r0 dW ht' hl'=>by
    obtain ⟨sq,q1,q2,q3⟩:=Cy (j:=1) g rfl (hk ky yD).1 (hk ky yD).2 (M+1) p dW sp hp ah ah ah;refine ⟨sq,?_,ah,(((r3.app r0).app<|bD f 12 o 2 1 p ky).cast<|by subst ht';rfl).trans q3⟩;show (((bK<|M+1).eB ⟨12,o,x,y,[kx,ky]⟩ 1 p f dW sp).bind fun nI=>some (nI.1,nI.2))=_;rw [xI];exact q1
   cases ho:o==99 with
   | true=>
    obtain ⟨sq,q1,q2,q3⟩:=second [] (toks++bD f 12 o 2 0 p kx) (nQ _).symm (by simp only [fP,kY,wQ];omega);have h0:=oper (bD f 12 o 2 0 p kx++bD f 12 o 2 1 p ky) (by rw [gy];show iJ 12 o x (aZ f 12 o 2 0 p [kx,ky])=_;rw [e2,ho];rfl) (some (toks++bD f 12 o 2 0 p kx++bD f 12 o 2 1 p ky,sq)) ⟨sq,aA,by rw [xO];omega,by show nN f _ aL sq (eZ [kx,ky]);rw [eZ,eZ,eZ,nQ];exact q3.cast aA⟩ (by
     show (((bK<|M+1).eB ⟨12,o,x,y,[kx,ky]⟩ 0 p f toks aL).bind fun eX=>bif (o !=99) then (jJ o).bind fun eP=>(iA [eP] f eX.1 eX.2).bind fun lN=>xE (M+1) (bK<|M+1) f (⟨12,o,x,y,[kx,ky]⟩,p,eX,lN) else (xE (M+1) (bK<|M+1) f (⟨12,o,x,y,[kx,ky]⟩,p,eX,eX.1)))=_;rw [r1',av];simp only [bne,ho,kQ,aJ];exact q1)
    exact h0
   | false=>
    obtain ⟨sq,q1,q2,q3⟩:=second [sg o] (toks++bD f 12 o 2 0 p kx++[sg o]) rfl (by simp only [fP,kY,wQ];omega);have h0:=oper (bD f 12 o 2 0 p kx++([sg o]++bD f 12 o 2 1 p ky)) (by rw [gy];show iJ 12 o x (aZ f 12 o 2 0 p [kx,ky])=_;rw [e2,ho];rfl) (some (toks++bD f 12 o 2 0 p kx++[sg o]++bD f 12 o 2 1 p ky,sq)) ⟨sq,aA,by rw [xO];omega,by show nN f _ aL sq (eZ [kx,ky]);rw [eZ,eZ,eZ,nQ];exact q3.cast aA⟩ (by
     show (((bK<|M+1).eB ⟨12,o,x,y,[kx,ky]⟩ 0 p f toks aL).bind fun eX=>bif (o !=99) then (jJ o).bind fun eP=>(iA [eP] f eX.1 eX.2).bind fun lN=>xE (M+1) (bK<|M+1) f (⟨12,o,x,y,[kx,ky]⟩,p,eX,lN) else (xE (M+1) (bK<|M+1) f (⟨12,o,x,y,[kx,ky]⟩,p,eX,eX.1)))=_;rw [r1',av];simp only [bne,ho,ru,aS,AZ,av];rw [kU _ _ _ _ aU,av];exact q1)
    exact h0
  ·
   have h1:=g.ai aA;simp only at h1;cases hn:decide (ks.length > 1) with
   | true=>
    have hn2:1 < ks.length:=by simpa using hn
    obtain ⟨sp,r1,r2,r3⟩:=arV g hk M p 32 33 hp (by show 1003+8*aK ks<=M;omega) toks aL (by show toks.length+8*aK ks+5<=900000;omega) (by show aL.length+aK ks<=900000;omega);have r1':(bK<|M+1).sS ⟨13,o,x,y,ks⟩ 32 33 p f toks aL=some (toks++(sg 32::(dK false (aZ f 13 o ks.length 0 p ks)++[sg 33])),sp):=r1;have hc:=YW (aZ f 13 o ks.length 0 p ks) false;have hs3:=YX f 13 o ks.length p ks 0;have hl3:=MH f 13 o ks.length p ks 0;have h0:=oper (sg 32::(dK false (aZ f 13 o ks.length 0 p ks)++[sg 33])++[sg 24,⟨6,x,0⟩]) (by rw [gy];show iJ 13 o x (aZ f 13 o ks.length 0 p ks)=_;show (bif decide ((aZ f 13 o ks.length 0 p ks).length > 1) then _ else _)++_=_;rw [hl3,hn,aS]) (some (toks++(sg 32::(dK false (aZ f 13 o ks.length 0 p ks)++[sg 33]))++[sg 24,⟨6,x,0⟩],sp)) ⟨sp,aA,r2,(r3.app [sg 24,⟨6,x,0⟩]).cast aA⟩ (by
     show (bif (decide<|(ks.length:Int) > 1) then ((bK<|M+1).sS ⟨13,o,x,y,ks⟩ 32 33 p f toks aL).bind fun oZ=>zB (M+1) (bK<|M+1) f (⟨13,o,x,y,ks⟩,oZ.1,oZ.2) else (((bK<|M+1).eB ⟨13,o,x,y,ks⟩ 0 p f toks aL).bind fun dZ=>zB (M+1) (bK<|M+1) f (⟨13,o,x,y,ks⟩,dZ.1,dZ.2)))=_;rw [kP ah,aS,r1',av];unfold zB;simp only [AZ,av];rw [kU _ _ _ _ aU,av])
    have e2:iJ 13 o x (aZ f 13 o ks.length 0 p ks)=sg 32::(dK false (aZ f 13 o ks.length 0 p ks)++[sg 33])++[sg 24,⟨6,x,0⟩]:=by
     show (bif decide ((aZ f 13 o ks.length 0 p ks).length > 1) then _ else _)++_=_;rw [hl3,hn,aS]
    show Wr _ _ (toks++iJ 13 o x (aZ f 13 o ks.length 0 p ks)) _ _ _;rw [e2];exact h0
   | false=>
    have hn2: ¬1 < ks.length:=by simpa using hn
    obtain ⟨kid,rfl⟩:=Gw.1 (by omega:ks.length=1);have hm:kid∈(aC.mk 13 o x y [kid]).kids:=aA;have qO:aK [kid]=aQ kid:=by rw [aK,aK];omega
    have xO:∀ k' o' x' y',aK (aC.mk k' o' x' y' [kid]).kids=aQ kid:=fun _ _ _ _=>qO;have hkt:=rP f 13 o 1 0 p kid;obtain ⟨sp,r1,r2,r3⟩:=Cy (j:=0) g rfl (hk kid hm).1 (hk kid hm).2 (M+1) p toks aL hp ah ah ah;have r1':(bK<|M+1).eB ⟨13,o,x,y,[kid]⟩ 0 p f toks aL=some (toks++bD f 13 o 1 0 p kid,sp):=r1;have h0:=oper (bD f 13 o 1 0 p kid++[sg 24,⟨6,x,0⟩]) (by rw [gy];show iJ 13 o x (aZ f 13 o 1 0 p [kid])=_;rw [dV,aZ];rfl) (some (toks++bD f 13 o 1 0 p kid++[sg 24,⟨6,x,0⟩],sp)) ⟨sp,aA,by rw [xO];omega,by show nN f _ aL sp (eZ [kid]);rw [eZ,eZ,nQ];exact (r3.app [sg 24,⟨6,x,0⟩]).cast aA⟩ (by
     show (((bK<|M+1).eB ⟨13,o,x,y,[kid]⟩ 0 p f toks aL).bind fun dZ=>zB (M+1) (bK<|M+1) f (⟨13,o,x,y,[kid]⟩,dZ.1,dZ.2))=_;rw [r1',av];unfold zB;simp only [AZ,av];rw [kU _ _ _ _ aU,av])
    have e2:iJ 13 o x (aZ f 13 o 1 0 p [kid])=bD f 13 o 1 0 p kid++[sg 24,⟨6,x,0⟩]:=by
     rw [dV,aZ];rfl
    show Wr _ _ (toks++iJ 13 o x (aZ f 13 o 1 0 p [kid])) _ _ _;rw [e2];exact h0
  ·
   have h1:=g.a3 rfl;obtain ⟨kx,ky,kz,rfl⟩:=adF h1;have hmx:kx∈(aC.mk 14 o x y [kx,ky,kz]).kids:=aA;have yD:ky∈(aC.mk 14 o x y [kx,ky,kz]).kids:=aA;have hmz:kz∈(aC.mk 14 o x y [kx,ky,kz]).kids:=aA;have qO:aK [kx,ky,kz]=aQ kx+aQ ky+aQ kz:=by rw [aK,aK,aK,aK];omega
   have xO:∀ k' o' x' y',aK (aC.mk k' o' x' y' [kx,ky,kz]).kids=aQ kx+aQ ky+aQ kz:=fun _ _ _ _=>qO;have hkt:=rP f 14 o 3 0 p kx;have YZ:=rP f 14 o 3 1 p ky;have aze:=rP f 14 o 3 2 p kz;have hpx:=kN kx;have hpy:=kN ky;have hpz:=kN kz;obtain ⟨sp,r1,r2,r3⟩:=Cy (j:=0) g rfl (hk kx hmx).1 (hk kx hmx).2 (M+1) p toks aL hp ah ah ah;obtain ⟨sq,q1,q2,q3⟩:=Cy (j:=1) g rfl (hk ky yD).1 (hk ky yD).2 (M+1) p (toks++bD f 14 o 3 0 p kx++[sg 65]) sp hp ah aU ah;obtain ⟨sr,o1,o2,o3⟩:=Cy (j:=2) g rfl (hk kz hmz).1 (hk kz hmz).2 (M+1) p (toks++bD f 14 o 3 0 p kx++[sg 65]++bD f 14 o 3 1 p ky++[sg 66]) sq hp ah aU ah;have r1':(bK<|M+1).eB ⟨14,o,x,y,[kx,ky,kz]⟩ 0 p f toks aL=some (toks++bD f 14 o 3 0 p kx,sp):=r1;have q1':(bK<|M+1).eB ⟨14,o,x,y,[kx,ky,kz]⟩ 1 p f (toks++bD f 14 o 3 0 p kx++[sg 65]) sp=some (toks++bD f 14 o 3 0 p kx++[sg 65]++bD f 14 o 3 1 p ky,sq):=q1;have o1':(bK<|M+1).eB ⟨14,o,x,y,[kx,ky,kz]⟩ 2 p f (toks++bD f 14 o 3 0 p kx++[sg 65]++bD f 14 o 3 1 p ky++[sg 66]) sq=some (toks++bD f 14 o 3 0 p kx++[sg 65]++bD f 14 o 3 1 p ky++[sg 66]++bD f 14 o 3 2 p kz,sr):=o1;have h0:=oper (bD f 14 o 3 0 p kx++(sg 65::(bD f 14 o 3 1 p ky++(sg 66::bD f 14 o 3 2 p kz)))) (by rw [gy];show iJ 14 o x (aZ f 14 o 3 0 p [kx,ky,kz])=_;rw [dV,dV,dV,aZ];rfl) (some (toks++bD f 14 o 3 0 p kx++[sg 65]++bD f 14 o 3 1 p ky++[sg 66]++bD f 14 o 3 2 p kz,sr)) ⟨sr,aA,by rw [xO];omega,by show nN f (toks++(bD f 14 o 3 0 p kx++(sg 65::(bD f 14 o 3 1 p ky++(sg 66::bD f 14 o 3 2 p kz))))) aL sr (eZ [kx,ky,kz]);rw [eZ,eZ,eZ,eZ,nQ,<- jP (iZ kx)];exact ((((((r3.app [sg 65]).app<|bD f 14 o 3 1 p ky).trans q3).app [sg 66]).app<|bD f 14 o 3 2 p kz).trans o3).cast aA⟩ (by
    show (((bK<|M+1).eB ⟨14,o,x,y,[kx,ky,kz]⟩ 0 p f toks aL).bind fun dJ=>(jJ 65).bind fun jD=>(iA [jD] f dJ.1 dJ.2).bind fun DW=>((bK<|M+1).eB ⟨14,o,x,y,[kx,ky,kz]⟩ 1 p f DW dJ.2).bind fun lQ=>(jJ 66).bind fun vU=>(iA [vU] f lQ.1 lQ.2).bind fun zu=>((bK<|M+1).eB ⟨14,o,x,y,[kx,ky,kz]⟩ 2 p f zu lQ.2).bind fun tZ=>some (tZ.1,tZ.2))=_;rw [r1',av,AZ,av];simp only [];rw [kU _ _ _ _ aU,av,q1',av,AZ,av];simp only [];rw [kU _ _ _ _ aU,av,o1',av])
   have e2:iJ 14 o x (aZ f 14 o 3 0 p [kx,ky,kz])=bD f 14 o 3 0 p kx++(sg 65::(bD f 14 o 3 1 p ky++(sg 66::bD f 14 o 3 2 p kz))):=by
    rw [dV,dV,dV,aZ];rfl
   show Wr _ _ (toks++iJ 14 o x (aZ f 14 o 3 0 p [kx,ky,kz])) _ _ _;rw [e2];exact h0
  ·
   have h1:=g.a2 aA;obtain ⟨kx,ky,rfl⟩:=MI h1;have hmx:kx∈(aC.mk 15 o x y [kx,ky]).kids:=aA;have yD:ky∈(aC.mk 15 o x y [kx,ky]).kids:=aA;have qO:aK [kx,ky]=aQ kx+aQ ky:=by rw [aK,aK,aK];omega
   have xO:∀ k' o' x' y',aK (aC.mk k' o' x' y' [kx,ky]).kids=aQ kx+aQ ky:=fun _ _ _ _=>qO;have hkt:=rP f 15 o 2 0 p kx;have YZ:=rP f 15 o 2 1 p ky;have hpx:=kN kx;have hpy:=kN ky;obtain ⟨sp,r1,r2,r3⟩:=Cy (j:=0) g rfl (hk kx hmx).1 (hk kx hmx).2 (M+1) p toks aL hp ah ah ah;have r1':(bK<|M+1).eB ⟨15,o,x,y,[kx,ky]⟩ 0 p f toks aL=some (toks++bD f 15 o 2 0 p kx,sp):=r1;have e2:iJ 15 o x (aZ f 15 o 2 0 p [kx,ky])=bD f 15 o 2 0 p kx++((bif o==99 then [] else [sg o])++bD f 15 o 2 1 p ky):=by
    rw [dV,dV,aZ];rfl
   show Wr _ _ (toks++iJ 15 o x (aZ f 15 o 2 0 p [kx,ky])) _ _ _;rw [e2];have second:∀ (r0 dW:List aG),dW=toks++bD f 15 o 2 0 p kx++r0->dW.length<=toks.length+(bD f 15 o 2 0 p kx).length+1->∃ sq,xE (M+1) (bK<|M+1) f (⟨15,o,x,y,[kx,ky]⟩,p,(toks++bD f 15 o 2 0 p kx,sp),dW)=some (dW++bD f 15 o 2 1 p ky,sq)/\sq.length<=aL.length+aK [kx,ky]/\nN f (dW++bD f 15 o 2 1 p ky) aL sq (iZ kx++iZ ky):=fun r0 dW ht' hl'=>by
    obtain ⟨sq,q1,q2,q3⟩:=Cy (j:=1) g rfl (hk ky yD).1 (hk ky yD).2 (M+1) p dW sp hp ah ah ah;refine ⟨sq,?_,ah,(((r3.app r0).app<|bD f 15 o 2 1 p ky).cast<|by subst ht';rfl).trans q3⟩;show (((bK<|M+1).eB ⟨15,o,x,y,[kx,ky]⟩ 1 p f dW sp).bind fun nI=>some (nI.1,nI.2))=_;rw [xI];exact q1
   cases ho:o==99 with
   | true=>
    obtain ⟨sq,q1,q2,q3⟩:=second [] (toks++bD f 15 o 2 0 p kx) (nQ _).symm (by simp only [fP,kY,wQ];omega);have h0:=oper (bD f 15 o 2 0 p kx++bD f 15 o 2 1 p ky) (by rw [gy];show iJ 15 o x (aZ f 15 o 2 0 p [kx,ky])=_;rw [e2,ho];rfl) (some (toks++bD f 15 o 2 0 p kx++bD f 15 o 2 1 p ky,sq)) ⟨sq,aA,by rw [xO];omega,by show nN f _ aL sq (eZ [kx,ky]);rw [eZ,eZ,eZ,nQ];exact q3.cast aA⟩ (by
     show (((bK<|M+1).eB ⟨15,o,x,y,[kx,ky]⟩ 0 p f toks aL).bind fun eX=>bif (o !=99) then (jJ o).bind fun eP=>(iA [eP] f eX.1 eX.2).bind fun lN=>xE (M+1) (bK<|M+1) f (⟨15,o,x,y,[kx,ky]⟩,p,eX,lN) else (xE (M+1) (bK<|M+1) f (⟨15,o,x,y,[kx,ky]⟩,p,eX,eX.1)))=_;rw [r1',av];simp only [bne,ho,kQ,aJ];exact q1)
    exact h0
   | false=>
    obtain ⟨sq,q1,q2,q3⟩:=second [sg o] (toks++bD f 15 o 2 0 p kx++[sg o]) rfl (by simp only [fP,kY,wQ];omega);have h0:=oper (bD f 15 o 2 0 p kx++([sg o]++bD f 15 o 2 1 p ky)) (by rw [gy];show iJ 15 o x (aZ f 15 o 2 0 p [kx,ky])=_;rw [e2,ho];rfl) (some (toks++bD f 15 o 2 0 p kx++[sg o]++bD f 15 o 2 1 p ky,sq)) ⟨sq,aA,by rw [xO];omega,by show nN f _ aL sq (eZ [kx,ky]);rw [eZ,eZ,eZ,nQ];exact q3.cast aA⟩ (by
     show (((bK<|M+1).eB ⟨15,o,x,y,[kx,ky]⟩ 0 p f toks aL).bind fun eX=>bif (o !=99) then (jJ o).bind fun eP=>(iA [eP] f eX.1 eX.2).bind fun lN=>xE (M+1) (bK<|M+1) f (⟨15,o,x,y,[kx,ky]⟩,p,eX,lN) else (xE (M+1) (bK<|M+1) f (⟨15,o,x,y,[kx,ky]⟩,p,eX,eX.1)))=_;rw [r1',av];simp only [bne,ho,ru,aS,AZ,av];rw [kU _ _ _ _ aU,av];exact q1)
    exact h0
def Wk (p p':aF):Prop:=p'.Level=p.Level/\p'.nU=p.nU/\(p'.aX=true->p.aX=true)/\(p'.bg=true->p.bg=true)/\(p'.eH=true->p.eH=true)
def ayT {k o:Int} {p p':aF} (h:jL k o p=true) (w:Wk p p'):jL k o p'=true:=by
 obtain ⟨v,d,a,g,s⟩:=p;obtain ⟨v',d',a',g',s'⟩:=p';obtain ⟨w1,w2,w3,w4,w5⟩:=w;have w1:v'=v:=w1;have w2:d'=d:=w2;subst w1 w2;have key:∀ {x y c:Bool},(y=true->x=true)->(!(x&&c))=true->(!(y&&c))=true:=fun {x y c} h h1=>by
  cases y with
  | false=>rfl
  | true=>rw [h rfl] at h1;exact h1
 unfold jL at h ⊢;simp only [eu] at h ⊢;obtain ⟨h1,h2,h3,h4,h5⟩:=h;exact ⟨h1,key w3 h2,key w4 h3,key w5 h4,h5⟩
def ayU (l:List aG):∀ (n i j:Nat),j - i<=n->(∀ p p' t,i < j->(p'.aX=true->p.aX=true)->(p'.bg=true->p.bg=true)->(p'.eH=true->p.eH=true)->iH l p i j t->iH l p' i j t)/\(∀ p p' t h,Wk p p'->gP l p i j t h->gP l p' i j t h):=by
 intro n;induction n with
 | zero=>exact fun i j hn=>⟨fun p p' t hij=>ah,fun p p' t h w d=>by have:=d.lt;omega⟩
 | succ n ih=>
  intro i j hn;have hN:∀ p p' t,i < j->(p'.aX=true->p.aX=true)->(p'.bg=true->p.bg=true)->(p'.eH=true->p.eH=true)->iH l p i j t->iH l p' i j t:=by
   intro p p' t hij wi wg ws d;have no:false=true->false=true:=fun h=>h;have W:∀ {a b:Nat} {p p':aF} {t:aC} {h:Bool},b - a<=n->gP l p a b t h->Wk p p'->gP l p' a b t h:=fun hn d w=>(ih _ _ hn).2 _ _ _ _ w d;cases d with
   | leaf k h1 h2=>exact .leaf k h1 h2
   | name h1=>exact .name h1
   | index h1 h2 h3 h4 h5 h6 h7=>exact .index h1 h2 h3 h4 h5 h6 h7
   | xk k h1 h2 h3 h4=>exact .xk k h1 h2 h3 h4
   | call k h1 h2 h3 h4 h5 h6 h7 h8=>exact .call k h1 h2 h3 h4 h5 h6 h7 h8
   | len h1 h2 h3=>exact .len h1 h2 h3
   | field h1 h2 h3=>exact .field h1 h2 h3
   | pre o h1 h2 h3 h4 h5=>exact .pre o h1 h2 h3 h4 h5
   | post o h1 h2 h3 h4 h5=>exact .post o h1 h2 h3 h4 h5
   | unary o h1 h2 h3 h4=>exact .unary o h1 h2 h3 (W ah h4 ⟨rfl,rfl,wi,wg,no⟩)
   | bin o h1 h2 h3 h4 h5 h6 h7 h8=>
    have:=MG h6;have:=h8.lt;have:=h7.lt;exact .bin o h1 h2 h3 h4 h5 h6 (W ah h7 ⟨rfl,rfl,wi,wg,ws⟩) (W ah h8 ⟨rfl,rfl,wi,wg,no⟩)
   | cat h1 h2 h3 h4=>exact .cat h1 h2 (W ah h3 ⟨rfl,rfl,wi,wg,ws⟩) (W ah h4 ⟨rfl,rfl,wi,wg,fun h=>h⟩)
   | one h1 h2 h3 h4=>exact .one h1 h2 h3 (W ah h4 ⟨rfl,rfl,wi,wg,ws⟩)
   | many h1 h2 h3 h4 h5 h6 h7 h8=>exact .many h1 h2 h3 h4 h5 h6 h7 h8
   | cond h1 h2 h3 h4 h5 h6 h7 h8=>exact .cond h1 h2 h3 h4 h5 (W ah h6 ⟨rfl,rfl,wi,wg,ws⟩) (W ah h7 ⟨rfl,rfl,wi,wg,no⟩) (W ah h8 ⟨rfl,rfl,wi,wg,no⟩)
   | assign o h1 h2 h3 h4 h5 h6 h7=>exact .assign o h1 h2 h3 h4 h5 h6 (W ah h7 ⟨rfl,rfl,wi,wg,no⟩)
  refine ⟨hN,fun p p' t h w d=>?_⟩;cases d with
  | par h1 h2 h3 h4 h5=>exact .par h1 h2 h3 h4 h5
  | bare h1 h2 h3 h4=>exact .bare (ayT h1 w) h2 h3 (hN p p' t h2 w.2.2.1 w.2.2.2.1 w.2.2.2.2 h4)
def iH.top {l:List aG} {p:aF} {i j:Nat} {t:aC} (d:iH l p i j t):iH l dB i j t:=
 (ayU l (j - i) i j<|eU _).1 p dB t d.lt (fun h=>by cases h) (fun h=>by cases h) (fun h=>by cases h) d
def RH:∀ t:aC,(iZ t).length=aQ t:=by
 intro t;induction t using yC with
 | h t ih=>
  have key:∀ ts:List aC,(∀ u,u∈ts->u∈t.kids)->(eZ ts).length=aK ts:=by
   intro ts;induction ts with
   | nil=>intro _;rw [eZ,aK];rfl
   | cons u ts ih2=>
    intro h;rw [eZ,aK,fP,ih u<|h u aA,ih2 fun v hv=>h v<|by simp [hv]]
  rw [Qt,wh,fP,key t.kids fun u hu=>hu];rfl
def alk (a:List aD):∀ (t:aC) (s i:Nat),TA a t s i->∀ (k:Nat) (u:aC),(iZ t)[k]?=some u->∃ s',TA a u s' (s+k):=by
 intro t;induction t using yC with
 | h t ih=>
  intro s i hT k u hu;obtain ⟨n,hn,e1,e2,e3,e4,hka,hkl⟩:=hT.node;obtain ⟨p1,p2,_⟩:=hT.part;have hsz:=wh t;have key:∀ (ts:List aC) (ks:List Int) (s e:Nat),(∀ v,v∈ts->v∈t.kids)->KA a ts ks s e->∀ (k:Nat) (u:aC),(eZ ts)[k]?=some u->∃ s',TA a u s' (s+k):=by
   intro ts;induction ts with
   | nil=>intro ks s e _ _ k u hu;rw [eZ] at hu;simp at hu
   | cons v ts ih2=>
    intro ks s e hm hk k u hu;rw [KA] at hk;obtain ⟨kk,ks',rfl,h1,h2,h3,h4⟩:=hk;rw [eZ] at hu;have hvl:=RH v;obtain ⟨q1,q2,_⟩:=h3.part;by_cases hlt:k < (iZ v).length
    .rw [rX hlt] at hu;exact ih v (hm v aA) s kk h3 k u hu
    .rw [qo ah] at hu;obtain ⟨s',hs'⟩:=ih2 ks' (kk+1) e (fun w hw=>hm w<|by simp [hw]) h4 _ u hu;refine ⟨s',?_⟩;have e:kk+1+(k - (iZ v).length)=s+k:=ah;rw [e] at hs';exact hs'
  have hlen:=RH t;rw [Qt] at hu hlen;simp only [fP,ED] at hlen;by_cases hlt:k < (eZ t.kids).length
  .rw [rX hlt] at hu;exact key t.kids n.Kids s i (fun v hv=>hv) hka k u hu
  .rw [qo ah] at hu;have hk:k - (eZ t.kids).length=0:=by
    cases e:k - (eZ t.kids).length with
    | zero=>rfl
    | succ m=>rw [e] at hu;simp at hu
   rw [hk] at hu;simp at hu;subst hu;refine ⟨s,?_⟩;have e:s+k=i:=ah;rw [e];exact hT
def Ky {P:aC->Prop}:∀ t:aC,allT P t->∀ u,u∈iZ t->allT P u:=by
 intro t;induction t using yC with
 | h t ih=>
  intro h u hu;rw [Qt] at hu;rcases lX.1 hu with hu|hu
  .have key:∀ ts:List aC,(∀ v,v∈ts->v∈t.kids)->∀ u,u∈eZ ts->allT P u:=by
    intro ts;induction ts with
    | nil=>intro _ u hu;rw [eZ] at hu;cases hu
    | cons v ts ih2=>
     intro hm u hu;rw [eZ] at hu;rcases lX.1 hu with hu|hu
     .exact ih v (hm v aA) (Cq h v<|hm v aA) u hu
     .exact ih2 (fun w hw=>hm w<|by simp [hw]) u hu
   exact key t.kids (fun v hv=>hv) u hu
  .rw [uD.1 hu];exact h
def alj:∀ t:aC,∀ u,u∈iZ t->gH u<=gH t/\aQ u<=aQ t:=by
 intro t;induction t using yC with
 | h t ih=>
  intro u hu;rw [Qt] at hu;rcases lX.1 hu with hu|hu
  .have key:∀ ts:List aC,(∀ v,v∈ts->v∈t.kids)->∀ u,u∈eZ ts->gH u<=ji t.kids/\aQ u<=aK t.kids:=by
    intro ts;induction ts with
    | nil=>intro _ u hu;rw [eZ] at hu;cases hu
    | cons v ts ih2=>
     intro hm u hu;rw [eZ] at hu;rcases lX.1 hu with hu|hu
     .have h1:=ih v (hm v aA) u hu;have h2:=adD (hm v aA);have h3:=Cr (hm v aA);omega
     .exact ih2 (fun w hw=>hm w<|by simp [hw]) u hu
   have h1:=key t.kids (fun v hv=>hv) u hu;have h2:=aiy t;have h3:=wh t;omega
  .rw [uD.1 hu];exact ⟨eU _,eU _⟩
def aaG (N:Nat) (hN:2000000<=N) (u:aC) (hg:allT GN u) (hc:allT (fun u=>CN u/\TN N u) u) (q:aF) (hq:posB q=true) (hz:aQ u<=400) (hd:gH u<=40) (hx:Gp u) (hl:(bT false u q).length<=3000):Gq N (bT false u q) dB=some (bf 0 u,((bT false u q).length:Int),⟨0,0⟩):=by
 have hc1:allT CN u:=RI (fun _ h=>h.1) u hc;have d:=VO false u hg hc1 (bT false u q) q 0 hq (Sg.all _);rw [rZ] at d;have d:=gP.bare (aiz (wM hg).lv) d.lt (eU _) d.top;have adj:=(ayW (bT false u q) _ 0 _<|eU _).2.1 _ _ _ d;exact ayX N hN _ hl u false d hz hd hx (ayY N _ hl ah adj.a<|ayZ N false u hg hc q) ((aza u hg hc1 q).nest hd)
def YV (a:List aD) (f:Bool) (t:aC):Prop:=∀ (s i M:Nat) (p:aF),TA a t s i->posB p=true->1000+8*aQ t<=M->aQ t<=100000->(dS M).xC ⟨a,f⟩ (i:Int) p=some (bT f t p)
def SpE (a:List aD) (f:Bool) (t:aC):Prop:=∀ (s i M:Nat) (p:aF),TA a t s i->posB p=true->1001+8*aQ t<=M->aQ t<=100000->(dS M).iG ⟨a,f⟩ (i:Int) p=some (dh f t p)
def Ct {a:List aD} {f:Bool} {t:aC} (h:YV a f t):SpE a f t:=by
 intro s i M p hT hp hM hsz;obtain ⟨M,rfl⟩:∃ m,M=m+1:=⟨M - 1,ah⟩
 obtain ⟨n,hn,e1,e2,e3,e4,hka,hkl⟩:=hT.node;have hl2:=Qu f t dB;have plain:Option.bind ((dS M).xC ⟨a,f⟩ (i:Int) p) (fun r=>some r)=some (bT f t p):=by rw [h s i M p hT hp ah hsz];rfl
 have r1:(dS M).xC ⟨a,f⟩ (i:Int) (⟨1,false,false,false,false⟩:aF)=some (bT f t dB):=h s i M dB hT rfl ah hsz;have par:((lg 32).bind fun fU=>Option.bind qY fun jD=>((dS M).xC ⟨a,f⟩ (i:Int) jD).bind fun DW=>(app 32 [fU] DW).bind fun x40=>(lg 33).bind fun Fe=>(app 32 x40 [Fe]).bind fun Jj=>some Jj)=some (sg 32::(bT f t dB++[sg 33])):=by
  simp only [zG,av,qY,r1];rw [jf aU,av,jf aU,av];rfl
 show XD M (dS M) ⟨a,f⟩ (i:Int) p=_;unfold XD dh JF zH;simp only [wI hn,av,apz,adE,par,<- e1,<- e2];cases f with
 | false=>
  cases jL t.kind t.op p with
  | true=>exact plain
  | false=>rfl
 | true=>
  have e:(bif lv t.kind t.op==15 then some (t.kind !=4) else some false)=some (!(lv t.kind t.op !=15||t.kind==4)):=by
   rw [Qv];congr 1;simp [bne]
  cases hx:(lv t.kind t.op !=15||t.kind==4) with
  | true=>
   rw [hx] at e;cases jL t.kind t.op p<;>simp only [aS,aJ,kQ,av,e]
  | false=>
   rw [hx] at e;cases jL t.kind t.op p<;>simp only [aS,aJ,kQ,ru,av,e]<;>exact plain
def aiA {a:List aD} {f:Bool} {t kid:aC} {n:Nat} (hall:allT GN kid) (h:YV a f kid) (hl:jE kid.kind=true) (M s i:Nat) (p:aF) (iI:TA a kid s i) (hM:1001+8*aQ kid<=M) (hsz:aQ kid<=100000) (k o:Int) (ht:tgt k 0=true):
  (dS M).AJ ⟨a,f⟩ (i:Int)=some (bD f k o n 0 p kid):=by
 obtain ⟨M,rfl⟩:∃ m,M=m+1:=⟨M - 1,ah⟩
 show Option.bind ((dS M).xC ⟨a,f⟩ (i:Int) (⟨14,false,false,false,false⟩:aF)) (fun r2=>some r2)=_;rw [h s i M ⟨14,false,false,false,false⟩ iI rfl ah hsz,av];unfold bD;rw [ht,aS,(aiB f kid hall).1 ⟨14,false,false,false,false⟩ (bP k o n 0 p)<|.inr<|aiC hl]
def apA {a:List aD} {f:Bool} (M:Nat) (k o:Int) (n:Nat) (p:aF) (hk:∀ j,bP k o n j p=dB) (iV:∀ j,tgt k j=false) (ks:List Int) (hlen:ks.length<=400):∀ (ts:List aC) (g j s e:Nat) (acc:List aG),(∀ t,t∈ts->YV a f t/\1001+8*aQ t<=M/\aQ t<=100000)->KA a ts (ks.drop j) s e->j<=ks.length->ts.length < g->acc.length+8*aK ts<=900000->
  DV M (dS M) g (ks,⟨a,f⟩,(j:Int),acc)=some (acc++dK (decide<|j > 0) (aZ f k o n j p ts))
 | [],g,j,s,e,acc,_,hka,hj,hg,ha=>by
  obtain ⟨g,rfl⟩:∃ m,g=m+1:=⟨g - 1,by simp at hg;omega⟩
  rw [KA] at hka;have hlt: ¬j < ks.length:=by
   intro h;rw [drop_cons h] at hka;cases hka.1
  rw [DV];simp only [kG hlt,aJ];rw [aZ];cases decide (j > 0)<;>simp [dK]
 | t::ts,g,j,s,e,acc,hB,hka,hj,hg,ha=>by
  simp only [kY] at hg;obtain ⟨g,rfl⟩:∃ m,g=m+1:=⟨g - 1,ah⟩
  rw [KA] at hka;obtain ⟨i,ks',e1,h1,h2,h3,h4⟩:=hka;have hlt:j < ks.length:=by
   cases xX j ks.length with
   | inl h=>exact h
   | inr h=>rw [Gv h] at e1;cases e1
  have hget:ks[j]?=some (i:Int):=by
   have:=congrArg (fun l=>l[0]?) e1;simpa using this
  have hdrop:ks.drop (j+1)=ks':=by
   have:=congrArg List.tail e1;simpa using this
  obtain ⟨b1,b2,b3⟩:=hB t aA;rw [aK] at ha;have hte:=Kw f t dB;have hkt:bD f k o n j p t=dh f t dB:=by unfold bD;rw [iV,aJ,hk]
  have step:∀ acc':List aG,acc'.length<=acc.length+1->Uf M (dS M) (DV M (dS M) g) (ks,(j:Int),⟨a,f⟩,acc')=some (acc'++(bD f k o n j p t++dK true (aZ f k o n (j+1) p ts))):=fun acc' hl=>by
   unfold Uf;have r1:(dS M).iG ⟨a,f⟩ (i:Int) (⟨1,false,false,false,false⟩:aF)=some (dh f t dB):=Ct b1 s i M dB h3 rfl b2 b3;simp only [wI hget,av,qY,r1];rw [jf ah,av,wrap64 ah ah,show (j:Int)+1=((j+1:Nat):Int) by omega];have:=apA M k o n p hk iV ks hlen ts g (j+1) (i+1) e (acc'++dh f t dB) (fun u hu=>hB u<|by simp [hu]) (by rw [hdrop];exact h4) ah ah (by rw [fP];omega);rw [this,hkt,show decide (j+1 > 0)=true by simp];simp
  rw [DV];simp only [iT hlt,aS];rw [dV,dK];have hg:decide ((j:Int) > 0)=decide (j > 0):=by by_cases h:j > 0<;>simp [h]
  rw [hg];cases hj:decide (j > 0) with
  | true=>
   simp only [aS,zG,av];rw [jf aU,av];have:=step (acc++[sg 36]) aA;simpa using this
  | false=>
   simp only [aJ];have:=step acc ah;simpa using this
def spB (a:List aD) (f:Bool):∀ t:aC,allT GN t->YV a f t:=by
 intro t;induction t using yC with
 | h t ih=>
  intro hall s i M p hT hp hM aKl;have g:=wM hall;have aiD:=Cq hall;have hk:∀ k,k∈t.kids->YV a f k:=fun k hk=>ih k hk (Cq hall k hk);have hsz:=wh t;have hl:=g.le;obtain ⟨M,rfl⟩:∃ m,M=m+3:=⟨M - 3,ah⟩
  obtain ⟨n,hn,e1,e2,e3,e4,hka,hkl⟩:=hT.node;have hnl:n.Kids.length<=400:=ah;have hkp:∀ j,j < t.kids.length->fO n (j:Int) p=some (bP t.kind t.op t.kids.length j p):=fun j hj=>by
   have:=apB n j p ah ah hp (by rw [<- e1,<- e2];exact g.lv);rw [this,<- e1,<- e2,hkl]
  show Xx (M+2) (dS<|M+2) ⟨a,f⟩ (i:Int) p=_;unfold Xx;simp only [wI hn,av];have bf:∀ (hk1:∀ j,bP t.kind t.op t.kids.length j p=dB) (hk2:∀ j,tgt t.kind j=false) (Q:Nat),1000+8*aQ t<=Q+3->(dS<|Q+1).DU ⟨a,f⟩ n.Kids=some (dK false<|aZ f t.kind t.op t.kids.length 0 p t.kids):=fun hk1 hk2 Q hQ=>by
   show DV Q (dS Q) Q (n.Kids,⟨a,f⟩,((0:Nat):Int),[])=_;rw [apA Q t.kind t.op t.kids.length p hk1 hk2 n.Kids hnl t.kids Q 0 s i [] (fun k hkm=>⟨hk k hkm,by have:=Cr hkm;omega,by have:=Cr hkm;omega⟩) hka ah (by have:=zI t.kids;omega) aU];rfl
  have hcl:=YW (aZ f t.kind t.op t.kids.length 0 p t.kids) false;have hcs:=YX f t.kind t.op t.kids.length p t.kids 0;have hcn:=MH f t.kind t.op t.kids.length p t.kids 0;have named:∀ (tk:aG) (op:Int),0<=op->op<=100->(∀ j,bP t.kind t.op t.kids.length j p=dB)->(∀ j,tgt t.kind j=false)->(dS<|M+2).Fu ⟨a,f⟩ tk n.Kids op=some (tk::sg op::(dK false (aZ f t.kind t.op t.kids.length 0 p t.kids)++[sg<|op+1])):=fun tk op o1 o2 hk1 hk2=>by
   show ((lg op).bind fun r4=>((dS<|M+1).DU ⟨a,f⟩ n.Kids).bind fun r5=>(app 32 [tk,r4] r5).bind fun x6=>(lg<|IntKind.wrap .i64<|op+1).bind fun r9=>(app 32 x6 [r9]).bind fun x10=>some x10)=_;rw [zG,av,bf hk1 hk2 M ah,av,jf aU,av,wrap64 ah ah,zG,av,jf aU,av];rfl
  rw [gy];clear ih hT;obtain ⟨k,o,x,y,ks⟩:=t;obtain ⟨nk,no,nx,ny,Ib⟩:=n;simp only at e1 e2 e3 e4;subst e1 e2 e3 e4;simp only at hsz hl hka hkl hnl hkp;have hc:=kinds g.e;simp only at hc;rcases hc with e|e|e|e|e|e|e|e|e|e|e|e|e|e|e<;>subst e
  .rfl
  .rfl
  .rfl
  .rfl
  .exact (congrArg (Option.bind · fun xB=>some xB)<|named ⟨6,x,0⟩ 34 aM aM (fun j=>rfl) fun j=>by unfold tgt;simp)
  ·
   have h1:=g.a1 aA;obtain ⟨kid,rfl⟩:=Gw.1 h1;have hm:kid∈(aC.mk 6 o x y [kid]).kids:=aA;have qO:aK [kid]=aQ kid:=by rw [aK,aK];omega
   have hkt:=rP f 6 o 1 0 p kid;simp only [KA] at hka;obtain ⟨c,ks',rfl,h1,h2,iI,rfl,h3⟩:=hka;subst h3;have Ed:fO ⟨6,o,x,y,[(c:Int)]⟩ 0 p=some (bP 6 o 1 0 p):=hkp 0 aA;have r1:(dS<|M+2).iG ⟨a,f⟩ (c:Int) (bP 6 o 1 0 p)=some (bD f 6 o 1 0 p kid):=Ct (hk kid hm) s c (M+2) _ iI (um g.e) ah ah;show ((lg 68).bind fun BR=>(ix [(c:Int)] 0).bind fun e138=>(fO ⟨6,o,x,y,[(c:Int)]⟩ 0 p).bind fun ko=>((dS<|M+2).iG ⟨a,f⟩ e138 ko).bind fun Ug=>(app 32 [BR] Ug).bind fun Uh=>some Uh)=some (iJ 6 o x<|aZ f 6 o 1 0 p [kid]);have hix:ix [(c:Int)] 0=some (c:Int):=rfl;rw [zG,av,hix,av,Ed,av,r1,av,jf aU,av,dV,aZ];rfl
  .exact (congrArg (Option.bind · fun Hl=>some Hl)<|named ⟨7,x,0⟩ 32 aM aM (fun j=>rfl) fun j=>by unfold tgt;simp)
  .exact (congrArg (Option.bind · fun Cg=>some Cg)<|named ⟨8,x,0⟩ 32 aM aM (fun j=>rfl) fun j=>by unfold tgt;simp)
  ·
   have h1:=g.a1 aA;obtain ⟨kid,rfl⟩:=Gw.1 h1;have hm:kid∈(aC.mk 9 o x y [kid]).kids:=aA;have qO:aK [kid]=aQ kid:=by rw [aK,aK];omega
   have hkt:=rP f 9 o 1 0 p kid;simp only [KA] at hka;obtain ⟨c,ks',rfl,h1,h2,iI,rfl,h3⟩:=hka;subst h3;have Ed:fO ⟨9,o,x,y,[(c:Int)]⟩ 0 p=some (bP 9 o 1 0 p):=hkp 0 aA;have r1:=aiA (n:=1) (t:=⟨9,o,x,y,[kid]⟩) (aiD kid hm) (hk kid hm) (g.kl kid rfl<|.inl rfl) (M+2) s c p iI ah ah 9 o rfl;show ((lg o).bind fun uP=>(ix [(c:Int)] 0).bind fun Fv=>((dS<|M+2).AJ ⟨a,f⟩ Fv).bind fun qJ=>(app 32 [uP] qJ).bind fun x107=>some x107)=some (iJ 9 o x<|aZ f 9 o 1 0 p [kid]);have hix:ix [(c:Int)] 0=some (c:Int):=rfl;rw [zG,av,hix,av,r1,av,jf aU,av,dV,aZ];rfl
  ·
   have h1:=g.a1 aA;obtain ⟨kid,rfl⟩:=Gw.1 h1;have hm:kid∈(aC.mk 10 o x y [kid]).kids:=aA;have qO:aK [kid]=aQ kid:=by rw [aK,aK];omega
   have hkt:=rP f 10 o 1 0 p kid;simp only [KA] at hka;obtain ⟨c,ks',rfl,h1,h2,iI,rfl,h3⟩:=hka;subst h3;have Ed:fO ⟨10,o,x,y,[(c:Int)]⟩ 0 p=some (bP 10 o 1 0 p):=hkp 0 aA;have r1:=aiA (n:=1) (t:=⟨10,o,x,y,[kid]⟩) (aiD kid hm) (hk kid hm) (g.kl kid rfl<|.inr<|.inl rfl) (M+2) s c p iI ah ah 10 o rfl;show ((ix [(c:Int)] 0).bind fun Xy=>((dS<|M+2).AJ ⟨a,f⟩ Xy).bind fun mg=>(lg o).bind fun sJ=>(app 32 mg [sJ]).bind fun x115=>some x115)=some (iJ 10 o x<|aZ f 10 o 1 0 p [kid]);have hix:ix [(c:Int)] 0=some (c:Int):=rfl;rw [hix,av,r1,av,zG,av,jf aU,av,dV,aZ];rfl
  ·
   have h1:=g.a1 aA;obtain ⟨kid,rfl⟩:=Gw.1 h1;have hm:kid∈(aC.mk 11 o x y [kid]).kids:=aA;have qO:aK [kid]=aQ kid:=by rw [aK,aK];omega
   have hkt:=rP f 11 o 1 0 p kid;simp only [KA] at hka;obtain ⟨c,ks',rfl,h1,h2,iI,rfl,h3⟩:=hka;subst h3;have Ed:fO ⟨11,o,x,y,[(c:Int)]⟩ 0 p=some (bP 11 o 1 0 p):=hkp 0 aA;have r1:(dS<|M+2).iG ⟨a,f⟩ (c:Int) (bP 11 o 1 0 p)=some (bD f 11 o 1 0 p kid):=Ct (hk kid hm) s c (M+2) _ iI (um g.e) ah ah;show ((lg o).bind fun BR=>(ix [(c:Int)] 0).bind fun e138=>(fO ⟨11,o,x,y,[(c:Int)]⟩ 0 p).bind fun ko=>((dS<|M+2).iG ⟨a,f⟩ e138 ko).bind fun Ug=>(app 32 [BR] Ug).bind fun Uh=>some Uh)=some (iJ 11 o x<|aZ f 11 o 1 0 p [kid]);have hix:ix [(c:Int)] 0=some (c:Int):=rfl;rw [zG,av,hix,av,Ed,av,r1,av,jf aU,av,dV,aZ];rfl
  ·
   have h1:=g.a2 aA;obtain ⟨kx,ky,rfl⟩:=MI h1;have hmx:kx∈(aC.mk 12 o x y [kx,ky]).kids:=aA;have yD:ky∈(aC.mk 12 o x y [kx,ky]).kids:=aA;have qO:aK [kx,ky]=aQ kx+aQ ky:=by rw [aK,aK,aK];omega
   have hkt:=rP f 12 o 2 0 p kx;have YZ:=rP f 12 o 2 1 p ky;simp only [KA] at hka;obtain ⟨c,ks',rfl,h1,h2,iI,c2,apC,rfl,h3,h4,Qw,rfl,h5⟩:=hka;subst h5;have Ed:fO ⟨12,o,x,y,[(c:Int),(c2:Int)]⟩ 0 p=some (bP 12 o 2 0 p):=hkp 0 aA;have Za:fO ⟨12,o,x,y,[(c:Int),(c2:Int)]⟩ 1 p=some (bP 12 o 2 1 p):=hkp 1 aA;have hix:ix [(c:Int),(c2:Int)] 0=some (c:Int):=rfl;have Zb:ix [(c:Int),(c2:Int)] 1=some (c2:Int):=rfl;have q1:(dS<|M+1).iG ⟨a,f⟩ (c2:Int) (bP 12 o 2 1 p)=some (bD f 12 o 2 1 p ky):=Ct (hk ky yD) (c+1) c2 (M+1) _ Qw (um g.e) ah ah;have q2:(dS<|M+2).iG ⟨a,f⟩ (c2:Int) (bP 12 o 2 1 p)=some (bD f 12 o 2 1 p ky):=Ct (hk ky yD) (c+1) c2 (M+2) _ Qw (um g.e) ah ah;have e2:iJ 12 o x (aZ f 12 o 2 0 p [kx,ky])=bD f 12 o 2 0 p kx++((bif o==99 then [] else [sg o])++bD f 12 o 2 1 p ky):=by
    rw [dV,dV,aZ];rfl
   have r1:(dS<|M+1).iG ⟨a,f⟩ (c:Int) (bP 12 o 2 0 p)=some (bD f 12 o 2 0 p kx):=Ct (hk kx hmx) s c (M+1) _ iI (um g.e) ah ah;show Option.bind ((ix [(c:Int),(c2:Int)] 0).bind fun e4=>(fO ⟨12,o,x,y,[(c:Int),(c2:Int)]⟩ 0 p).bind fun r5=>((dS<|M+1).iG ⟨a,f⟩ e4 r5).bind fun r6=>(bif (o !=99) then (lg o).bind fun GU=>(app 32 r6 [GU]).bind fun Xv=>LQ (M+1) (dS<|M+1) (⟨a,f⟩,⟨12,o,x,y,[(c:Int),(c2:Int)]⟩,p,Xv) else (LQ (M+1) (dS<|M+1) (⟨a,f⟩,⟨12,o,x,y,[(c:Int),(c2:Int)]⟩,p,r6)))) (fun Ui=>some Ui)=some (iJ 12 o x<|aZ f 12 o 2 0 p [kx,ky]);have fin:∀ l:List aG,l.length<=(bD f 12 o 2 0 p kx).length+1->LQ (M+1) (dS<|M+1) (⟨a,f⟩,⟨12,o,x,y,[(c:Int),(c2:Int)]⟩,p,l)=some (l++bD f 12 o 2 1 p ky):=fun l hl=>by
    unfold LQ;simp only [Zb,Za,q1,av];rw [jf ah,av]
   rw [hix,av,Ed,av,r1,av,e2];cases ho:o==99 with
   | true=>
    simp only [bne,ho,kQ,aJ,aS];rw [fin _ ah];rfl
   | false=>
    simp only [bne,ho,ru,aJ,aS,zG,av];rw [jf aU,av,fin _ aA];simp
  ·
   have h1:=g.ai aA;simp only at h1;obtain ⟨kid,rest,rfl⟩:∃ kid rest,ks=kid::rest:=by
    cases ks with
    | nil=>simp at h1
    | cons u us=>exact ⟨u,us,rfl⟩
   have hm:kid∈(aC.mk 13 o x y<|kid::rest).kids:=aA;have aKm:=hka;rw [KA] at hka;obtain ⟨c,ks',rfl,h1,h2,iI,hrest⟩:=hka;have qO:aK (kid::rest)=aQ kid+aK rest:=by rw [aK]
   have Ed:fO ⟨13,o,x,y,(c:Int)::ks'⟩ 0 p=some (bP 13 o (kid::rest).length 0 p):=hkp 0 aA;have hkt:=rP f 13 o (kid::rest).length 0 p kid;have r1:(dS<|M+2).iG ⟨a,f⟩ (c:Int) (bP 13 o (kid::rest).length 0 p)=some (bD f 13 o (kid::rest).length 0 p kid):=Ct (hk kid hm) s c (M+2) _ iI (um g.e) ah ah;have hix:ix ((c:Int)::ks') 0=some (c:Int):=rfl;have fin:∀ l:List aG,l.length<=900000->LV (M+2) (dS<|M+2) (⟨13,o,x,y,(c:Int)::ks'⟩,l)=some (l++[sg 24,⟨6,x,0⟩]):=fun l hl=>by
    unfold LV;simp only [zG,av];rw [jf aU,av]
   show ((ix ((c:Int)::ks') 0).bind fun Xz=>(fO ⟨13,o,x,y,(c:Int)::ks'⟩ 0 p).bind fun XA=>((dS<|M+2).iG ⟨a,f⟩ Xz XA).bind fun XB=>bif (decide<|(((c:Int)::ks').length:Int) > 1) then (lg 32).bind fun acT=>((dS<|M+2).DU ⟨a,f⟩<|(c:Int)::ks').bind fun acU=>(app 32 [acT] acU).bind fun acV=>(lg 33).bind fun acW=>(app 32 acV [acW]).bind fun XC=>LV (M+2) (dS<|M+2) (⟨13,o,x,y,(c:Int)::ks'⟩,XC) else (LV (M+2) (dS<|M+2) (⟨13,o,x,y,(c:Int)::ks'⟩,XB)))=some (iJ 13 o x<|aZ f 13 o (kid::rest).length 0 p<|kid::rest);rw [hix,av,Ed,av,r1,av];have e0:iJ 13 o x (aZ f 13 o (kid::rest).length 0 p<|kid::rest)=(bif decide ((kid::rest).length > 1) then sg 32::(dK false (aZ f 13 o (kid::rest).length 0 p<|kid::rest)++[sg 33]) else bD f 13 o (kid::rest).length 0 p kid)++[sg 24,⟨6,x,0⟩]:=by
    show (bif decide ((aZ f 13 o (kid::rest).length 0 p<|kid::rest).length > 1) then _ else (aZ f 13 o (kid::rest).length 0 p<|kid::rest).getD 0 [])++_=_;rw [MH,dV];rfl
   rw [e0];cases hn:decide ((kid::rest).length > 1) with
   | true=>
    have hn2:1 < (kid::rest).length:=by simpa using hn
    have hl1:=bf (fun j=>by unfold bP;simp only [hn];rfl) (fun j=>by unfold tgt;simp) (M+1) ah;have hl2:(dS<|M+2).DU ⟨a,f⟩ ((c:Int)::ks')=some (dK false<|aZ f 13 o (kid::rest).length 0 p<|kid::rest):=hl1;have azd:(dK false<|aZ f 13 o (kid::rest).length 0 p<|kid::rest).length<=800000:=by
     have:=YW (aZ f 13 o (kid::rest).length 0 p<|kid::rest) false;have:=YX f 13 o (kid::rest).length p (kid::rest) 0;have:=MH f 13 o (kid::rest).length p (kid::rest) 0;omega
    generalize dK false (aZ f 13 o (kid::rest).length 0 p<|kid::rest)=CL at hl2 azd ⊢;rw [kP ah,aS,zG,av,hl2,av,jf aU,av,zG,av,jf aU,av,fin _ aU];rfl
   | false=>
    have hn2: ¬1 < (kid::rest).length:=by simpa using hn
    rw [pQ ah,aJ,fin _ ah];rfl
  ·
   have h1:=g.a3 rfl;obtain ⟨kx,ky,kz,rfl⟩:=adF h1;have hmx:kx∈(aC.mk 14 o x y [kx,ky,kz]).kids:=aA;have yD:ky∈(aC.mk 14 o x y [kx,ky,kz]).kids:=aA;have hmz:kz∈(aC.mk 14 o x y [kx,ky,kz]).kids:=aA;have qO:aK [kx,ky,kz]=aQ kx+aQ ky+aQ kz:=by rw [aK,aK,aK,aK];omega
   have hkt:=rP f 14 o 3 0 p kx;have YZ:=rP f 14 o 3 1 p ky;have aze:=rP f 14 o 3 2 p kz;simp only [KA] at hka;obtain ⟨c,ks',rfl,h1,h2,iI,c2,apC,rfl,h3,h4,Qw,c3,ks3,rfl,h5,h6,azg,rfl,h7⟩:=hka;subst h7;have Ed:fO ⟨14,o,x,y,[(c:Int),(c2:Int),(c3:Int)]⟩ 0 p=some (bP 14 o 3 0 p):=hkp 0 aA;have Za:fO ⟨14,o,x,y,[(c:Int),(c2:Int),(c3:Int)]⟩ 1 p=some (bP 14 o 3 1 p):=hkp 1 aA;have azh:fO ⟨14,o,x,y,[(c:Int),(c2:Int),(c3:Int)]⟩ 2 p=some (bP 14 o 3 2 p):=hkp 2 aA;have hix:ix [(c:Int),(c2:Int),(c3:Int)] 0=some (c:Int):=rfl;have Zb:ix [(c:Int),(c2:Int),(c3:Int)] 1=some (c2:Int):=rfl;have azi:ix [(c:Int),(c2:Int),(c3:Int)] 2=some (c3:Int):=rfl;have r1:(dS<|M+1).iG ⟨a,f⟩ (c:Int) (bP 14 o 3 0 p)=some (bD f 14 o 3 0 p kx):=Ct (hk kx hmx) s c (M+1) _ iI (um g.e) ah ah;have q1:(dS<|M+1).iG ⟨a,f⟩ (c2:Int) (bP 14 o 3 1 p)=some (bD f 14 o 3 1 p ky):=Ct (hk ky yD) (c+1) c2 (M+1) _ Qw (um g.e) ah ah;have z1:(dS<|M+1).iG ⟨a,f⟩ (c3:Int) (bP 14 o 3 2 p)=some (bD f 14 o 3 2 p kz):=Ct (hk kz hmz) (c2+1) c3 (M+1) _ azg (um g.e) ah ah;have e2:iJ 14 o x (aZ f 14 o 3 0 p [kx,ky,kz])=bD f 14 o 3 0 p kx++(sg 65::(bD f 14 o 3 1 p ky++(sg 66::bD f 14 o 3 2 p kz))):=by
    rw [dV,dV,dV,aZ];rfl
   show Option.bind ((ix [(c:Int),(c2:Int),(c3:Int)] 0).bind fun e4=>(fO ⟨14,o,x,y,[(c:Int),(c2:Int),(c3:Int)]⟩ 0 p).bind fun r5=>((dS<|M+1).iG ⟨a,f⟩ e4 r5).bind fun r6=>(lg 65).bind fun dZ=>(app 32 r6 [dZ]).bind fun x34=>(ix [(c:Int),(c2:Int),(c3:Int)] 1).bind fun e39=>(fO ⟨14,o,x,y,[(c:Int),(c2:Int),(c3:Int)]⟩ 1 p).bind fun mh=>((dS<|M+1).iG ⟨a,f⟩ e39 mh).bind fun lQ=>(app 32 x34 lQ).bind fun x42=>(lg 66).bind fun zu=>(app 32 x42 [zu]).bind fun x46=>(ix [(c:Int),(c2:Int),(c3:Int)] 2).bind fun e51=>(fO ⟨14,o,x,y,[(c:Int),(c2:Int),(c3:Int)]⟩ 2 p).bind fun vS=>((dS<|M+1).iG ⟨a,f⟩ e51 vS).bind fun lF=>(app 32 x46 lF).bind fun x54=>some x54) (fun Ui=>some Ui)=some (iJ 14 o x<|aZ f 14 o 3 0 p [kx,ky,kz]);rw [hix,av,Ed,av,r1,av,zG,av,jf aU,av,Zb,av,Za,av,q1,av,jf aU,av,zG,av,jf aU,av,azi,av,azh,av,z1,av,jf aU,av,e2];simp
  ·
   have pG:=g.op rfl;simp only at pG;have h1:=g.a2 aA;obtain ⟨kx,ky,rfl⟩:=MI h1;have hmx:kx∈(aC.mk 15 o x y [kx,ky]).kids:=aA;have yD:ky∈(aC.mk 15 o x y [kx,ky]).kids:=aA;have qO:aK [kx,ky]=aQ kx+aQ ky:=by rw [aK,aK,aK];omega
   have hkt:=rP f 15 o 2 0 p kx;have YZ:=rP f 15 o 2 1 p ky;simp only [KA] at hka;obtain ⟨c,ks',rfl,h1,h2,iI,c2,apC,rfl,h3,h4,Qw,rfl,h5⟩:=hka;subst h5;have Ed:fO ⟨15,o,x,y,[(c:Int),(c2:Int)]⟩ 0 p=some (bP 15 o 2 0 p):=hkp 0 aA;have Za:fO ⟨15,o,x,y,[(c:Int),(c2:Int)]⟩ 1 p=some (bP 15 o 2 1 p):=hkp 1 aA;have hix:ix [(c:Int),(c2:Int)] 0=some (c:Int):=rfl;have Zb:ix [(c:Int),(c2:Int)] 1=some (c2:Int):=rfl;have q1:(dS<|M+1).iG ⟨a,f⟩ (c2:Int) (bP 15 o 2 1 p)=some (bD f 15 o 2 1 p ky):=Ct (hk ky yD) (c+1) c2 (M+1) _ Qw (um g.e) ah ah;have q2:(dS<|M+2).iG ⟨a,f⟩ (c2:Int) (bP 15 o 2 1 p)=some (bD f 15 o 2 1 p ky):=Ct (hk ky yD) (c+1) c2 (M+2) _ Qw (um g.e) ah ah;have e2:iJ 15 o x (aZ f 15 o 2 0 p [kx,ky])=bD f 15 o 2 0 p kx++((bif o==99 then [] else [sg o])++bD f 15 o 2 1 p ky):=by
    rw [dV,dV,aZ];rfl
   have r1:=aiA (n:=2) (t:=⟨15,o,x,y,[kx,ky]⟩) (aiD kx hmx) (hk kx hmx) (g.kl kx rfl<|.inr<|.inr rfl) (M+2) s c p iI ah ah 15 o rfl;show ((ix [(c:Int),(c2:Int)] 0).bind fun e120=>((dS<|M+2).AJ ⟨a,f⟩ e120).bind fun oD=>(lg o).bind fun uM=>(app 32 oD [uM]).bind fun acR=>(ix [(c:Int),(c2:Int)] 1).bind fun e128=>(fO ⟨15,o,x,y,[(c:Int),(c2:Int)]⟩ 1 p).bind fun qz=>((dS<|M+2).iG ⟨a,f⟩ e128 qz).bind fun yj=>(app 32 acR yj).bind fun acS=>some acS)=some (iJ 15 o x<|aZ f 15 o 2 0 p [kx,ky]);rw [hix,av,r1,av,zG,av,jf aU,av,Zb,av,Za,av,q2,av,jf aU,av,e2,show (o==99)=false by simpa using pG];simp
structure RG (N:Nat) (L:List aD) (t:aC):Prop where
 eq:L=bf 0 t
 ta:TA L t 0 (L.length - 1)
 sz:aQ t<=400
 dep:gH t<=40
 tx:Gp t
 g:allT GN t
 c:allT (fun u=>CN u/\TN N u) t
 sh:qd L=true
 ok:tN N L=some true
def azj (N:Nat) (L:List aD) (hN:1048577 < N) (hs:∀ x,x∈L->mW x) (hsh:qd L=true) {t:aC} (hT:TA L t 0 (L.length - 1)) (h:tN N L=some true):gH t<=40:=by
 unfold tN at h;obtain ⟨y,h1,h⟩:=qH.1 h;cases y with
 | true=>cases h
 | false=>
  rw [adG N L hN hs hsh hT] at h1;obtain ⟨r,_,h1⟩:=qH.1 h1;cases r with
  | false=>cases h1
  | true=>
   simp only [kQ,aJ,av] at h1;have:=RP (mJ h1);omega
def alv (N:Nat) (L:List aD) (hN:1048777 < N) (hS:∀ x,x∈L->mW x) (hok:tN N L=some true) (hsh:qd L=true) (hE:∀ t,TA L t 0 (L.length - 1)->eF t.kind=true):∃ t,RG N L t:=by
 obtain ⟨l1,l2,_,_,_,_,_,t,ht⟩:=Bw hsh;have hp:=ht.part;have hg:=azk N L ah hsh hok t 0 _ ht (hE t ht);refine ⟨t,?_,ht,ah,azj N L ah hS hsh ht hok,aeP hS ht,hg,azl N L ah hsh hok ht hg,hsh,hok⟩;have e:L.length - 1+1=L.length:=ah;rw [e] at hp;rw [<- hp.2.2,apD]
def alx (N:Nat) (L:List aD) (t:aC) (hN:1048777 < N) (r:RG N L t) (hex:Fp N L=some true) (p:aF) (hp:posB p=true):CX N L p=some (dh false t p):=by
 obtain ⟨l1,l2,_⟩:=Bw r.sh;have hT:=r.ta;obtain ⟨n,hn,e1,_⟩:=hT.node;have hsz:=r.sz;unfold CX;rw [hex,EC,hp,wrap64 ah ah,show (L.length:Int) - 1=((L.length - 1:Nat):Int) by omega,wI hn];have hk:(n.Kind==16)=false:=by
  have g:=(wM r.g).e;rw [e1] at g;unfold eF at g;simp only [eu,oo] at g;simp;omega
 simp only [av,kQ,aJ,hk];have:=Ct (spB L false t r.g) 0 (L.length - 1) N p hT hp ah ah;have e:iG N (⟨L,false⟩:jw) ((L.length - 1:Nat):Int) p=some (dh false t p):=this;rw [e,av]
def SmS (L:List aD):Prop:=∀ x,x∈L->x.Kids.length<=20000/\x.Text.length<=20/\x.Other.length<=20
def als {L:List aD} (h:SmS L):∀ x,x∈L->mW x:=fun x hx=>by
 obtain ⟨h1,h2,h3⟩:=h x hx;exact ⟨ah,ah,ah⟩
def aln (N:Nat) (a:List aD) (hN:1048577 < N) (ha:a.length<=1048576) (hs:∀ x,x∈a->mW x):Nz N a a=some true:=by
 have ints:∀ (k:List Int),k.length<=1048576->YF N k k=some true:=fun k hk=>by
  have l:∀ (n i:Nat),k.length - i < n->i<=k.length->Qo N n (k,k,(i:Int))=some true:=by
   intro n;induction n with
   | zero=>intro i h;omega
   | succ n ih=>
    intro i hn hi;rw [Qo];by_cases h:i < k.length
    .have ne:(k[i] !=k[i])=false:=aA;simp only [iT h,aS,bX h,av,ne,aJ];rw [wrap64 ah ah,show (i:Int)+1=((i+1:Nat):Int) by omega];exact ih (i+1) ah ah
    .simp only [kG h,aJ]
  unfold YF;have ne:((k.length:Int) !=(k.length:Int))=false:=aA;rw [ne,aJ];exact l N 0 ah ah
 have l:∀ (n i:Nat),a.length - i < n->i<=a.length->Qp N n (a,a,(i:Int))=some true:=by
  intro n;induction n with
  | zero=>intro i h;omega
  | succ n ih=>
   intro i hn hi;rw [Qp];by_cases h:i < a.length
   .have e1:(a[i].Kind !=a[i].Kind)=false:=aA;have e2:(a[i].Op !=a[i].Op)=false:=aA;have e3:(!(a[i].Text==a[i].Text))=false:=aA;have e4:(!(a[i].Other==a[i].Other))=false:=aA;have e5:=ints a[i].Kids (by have:=hs _ (ou h);unfold mW at this;omega);simp only [iT h,aS,bX h,av,e1,e2,e3,e4,e5,aJ,kQ];rw [wrap64 ah ah,show (i:Int)+1=((i+1:Nat):Int) by omega];exact ih (i+1) ah ah
   .simp only [kG h,aJ]
 unfold Nz;have ne:((a.length:Int) !=(a.length:Int))=false:=aA;rw [ne,aJ];exact l N 0 ah ah
def Dr {α:Type} (b:List UInt8) (P:α->Prop) (x:Option (α×Int×Int)):Prop:=∃ a i h,x=some (a,i,h)/\P a/\0<=i/\i<=(b.length:Int)
def Dr.bind {α β:Type} {b:List UInt8} {P:α->Prop} {Q:β->Prop} {x:Option (α×Int×Int)} {f:α×Int×Int->Option (β×Int×Int)} (hx:Dr b P x) (hf:∀ a i h,P a->0<=i->i<=(b.length:Int)->Dr b Q (f (a,i,h))):Dr b Q (Option.bind x f):=by
 obtain ⟨a,i,h,rfl,h1,h2,h3⟩:=hx;exact hf a i h h1 h2 h3
def Dr.some {α:Type} {b:List UInt8} {P:α->Prop} {a:α} {i h:Int} (ha:P a) (h0:0<=i) (h1:i<=(b.length:Int)):Dr b P (some (a,i,h)):=⟨a,i,h,rfl,ha,h0,h1⟩
def Dr.imp {α:Type} {b:List UInt8} {P Q:α->Prop} {x:Option (α×Int×Int)} (hx:Dr b P x) (h:∀ a,P a->Q a):Dr b Q x:=by
 obtain ⟨a,i,k,rfl,h1,h2,h3⟩:=hx;exact ⟨a,i,k,rfl,h a h1,h2,h3⟩
def Dr.cond {α:Type} {b:List UInt8} {P:α->Prop} {c:Bool} {x y:Option (α×Int×Int)} (hx:c=true->Dr b P x) (hy:c=false->Dr b P y):Dr b P (bif c then x else y):=by
 cases c
 .exact hy rfl
 .exact hx rfl
def Dr.cat {α:Type} {b:List UInt8} {P:α->Prop} {u v:List UInt8} {f:List UInt8->Option (α×Int×Int)} (h:u.length+v.length<=140737488355328) (hf:(u++v).length=u.length+v.length->Dr b P (f<|u++v)):Dr b P (Option.bind (cat u v) f):=by
 rw [awF<|by simp only [maxLen];omega];exact hf fP
def Qx {α:Type} {b:List UInt8} {P:α->Prop} {x:Option (α×Int×Int)} (hx:Dr b P x):Dr b P (Option.bind x fun r=>Option.some (r.1,r.2.1,r.2.2)):=Dr.bind hx fun _ _ _ ha h0 h1=>Dr.some ha h0 h1
def adH (x:Int):0<=bits .and .i64 x 255/\bits .and .i64 x 255<=255:=by
 have e:bits .and .i64 x 255=IntKind.wrap .i64 (((BitVec.ofInt 64 x&&& BitVec.ofInt 64 255).toNat:Nat):Int):=rfl;have h:(BitVec.ofInt 64 x&&& BitVec.ofInt 64 255).toNat<=255:=by
  rw [BitVec.toNat_and];exact Nat.and_le_right
 rw [e,wrap64 ah ah];omega
section
set_option linter.unusedSectionVars false
variable (b:List UInt8) (hb:b.length<=1048576)
include hb
theorem Zc (i h:Int) (h0:0<=i) (h1:i<=(b.length:Int)):Dr b (fun x=>0<=x/\x<=255) (EY b i h):=by
 unfold EY Ti;refine Dr.cond (fun hc=>?_) fun hc=>?_
 .have hc:=qp hc;obtain ⟨n,rfl⟩:=qZ h0;have hn:n < b.length:=ah;rw [bX hn,av];exact Dr.some (adH _) (by rw [wrap64 ah ah];omega) (by rw [wrap64 ah ah];omega)
 .exact Dr.some (adH _) h0 h1
theorem apE {P:Int->Prop} {x n i h:Int} (hx:0<=x) (hn:0 < n) (h0:0<=i) (h1:i<=(b.length:Int)) (hP:∀ r,0<=r->r < n->P r):Dr b P ((Lc x n).bind fun y=>some (y,i,h)):=by
 unfold Lc;have:(n==0)=false:=aU;rw [this,aJ,av];exact Dr.some (hP _ (afr _ hx)<|afj _ hn) h0 h1
theorem Af (n i h:Int) (h0:0<=i) (h1:i<=(b.length:Int)):Dr b (fun r=>0<=r/\(r < n\/n<=0/\r=0)) (jG n b i h):=by
 unfold jG;refine Dr.cond (fun hc=>?_) fun hc=>Dr.cond (fun hc2=>?_) fun hc2=>?_
 .have hc:=qp hc;exact Dr.some ⟨ah,.inr ⟨hc,rfl⟩⟩ h0 h1
 .have hc:=RP hc;exact Dr.bind (Zc b hb i h h0 h1) fun x i h hx h0 h1=>apE b hb hx.1 ah h0 h1 fun r g1 g2=>⟨g1,.inl g2⟩
 .have hc:=RP hc;refine Dr.bind (Zc b hb i h h0 h1) fun x i h hx h0 h1=>Dr.bind (Zc b hb i h h0 h1) fun y i h hy h0 h1=>Dr.bind (Zc b hb i h h0 h1) fun z i h hz h0 h1=>Dr.bind (Zc b hb i h h0 h1) fun w i h hw h0 h1=>?_;refine apE b hb ?_ ah h0 h1 fun r g1 g2=>⟨g1,.inl g2⟩
  dsimp only;rw [wrap64 (n:=x*16777216) ah ah,wrap64 (n:=y*65536) ah ah,wrap64 (n:=x*16777216+y*65536) ah ah,wrap64 (n:=z*256) ah ah,wrap64 (n:=x*16777216+y*65536+z*256) ah ah,wrap64 ah ah];omega
theorem azm {P:List UInt8->Prop} (l:List (List UInt8)) (i h:Int) (h0:0<=i) (h1:i<=(b.length:Int)) (hl:0 < l.length) (hP:∀ x,x∈l->P x):Dr b P (vO l b i h):=by
 unfold vO;refine Dr.bind (Af b hb _ i h h0 h1) fun r i h hr h0 h1=>?_;obtain ⟨n,rfl⟩:=qZ hr.1;have hn:n < l.length:=by rcases hr.2 with h|h<;>omega
 dsimp only;have e:ix l (n:Int)=some l[n]:=bX hn;rw [e,av];exact Dr.some (hP _<|ou hn) h0 h1
theorem Zd (n i h:Int) (h0:0<=i) (h1:i<=(b.length:Int)):Dr b (fun _=>True) (vM n b i h):=Dr.bind (Af b hb _ i h h0 h1) fun _ _ _ _ h0 h1=>Dr.some trivial h0 h1
theorem aiF {P:Int->Prop} (l:List Int) (i h:Int) (h0:0<=i) (h1:i<=(b.length:Int)) (hl:0 < l.length) (hP:∀ x,x∈l->P x):Dr b P (Az l b i h):=by
 unfold Az;refine Dr.bind (Af b hb _ i h h0 h1) fun r i h hr h0 h1=>?_;obtain ⟨n,rfl⟩:=qZ hr.1;have hn:n < l.length:=by rcases hr.2 with h|h<;>omega
 dsimp only;have e:ix l (n:Int)=some l[n]:=bX hn;rw [e,av];exact Dr.some (hP _<|ou hn) h0 h1
theorem apF (m:Nat) (l:List (List UInt8)) (i h:Int) (h0:0<=i) (h1:i<=(b.length:Int)) (hl:0 < l.length) (hP:(l.all fun x=>decide<|x.length<=m)=true):Dr b (fun x=>x.length<=m) (vO l b i h):=
 azm b hb l i h h0 h1 hl fun x hx=>qp (nP.1 hP x hx)
def pw:Nat->Nat
 | 0=>1
 | n+1=>4*pw n
omit hb in
theorem aiG:∀ n,1<=pw n
 | 0=>by rw [pw];omega
 | n+1=>by have:=aiG n;rw [pw];omega
end
def lcA:Int:=6364136223846793005
def lcC:Int:=1442695040888963407
def lc (x:Int):Int:=x*lcA+lcC
def qP:Nat->Int->Int
 | 0,x=>x
 | n+1,x=>qP n (lc x)
def Ze:∀ (m n:Nat) (x:Int),qP (m+n) x=qP n (qP m x)
 | 0,n,x=>by rw [rZ];rfl
 | m+1,n,x=>by
  rw [show m+1+n=(m+n)+1 by omega];show qP (m+n) (lc x)=qP n (qP m<|lc x);exact Ze m n (lc x)
def apG (k:Nat):∃ p q u v:Int,(∀ x,qP (2 ^ k) x=p*x+q)/\p=1+2 ^ (k+2)*u/\q=2 ^ k*(1+2*v):=by
 induction k with
 | zero=>
  refine ⟨lcA,lcC,1591034055961698251,721347520444481703,fun x=>?_,aM,aM⟩;show qP 1 x=_;show x*lcA+lcC=_;rw [Wh]
 | succ k ih=>
  obtain ⟨p,q,u,v,h1,h2,h3⟩:=ih;refine ⟨p*p,p*q+q,u+2 ^ (k+1)*u*u,v+2 ^ k*u*(1+2*v),fun x=>?_,?_,?_⟩
  .rw [show (2:Nat) ^ (k+1)=2 ^ k+2 ^ k by rw [Nat.pow_succ];omega,Ze,h1,h1,Int.mul_add,Int.mul_assoc,Int.add_assoc]
  .have e2:(2:Int) ^ (k+1+2)=2*2 ^ (k+2):=by rw [show k+1+2=(k+2)+1 by omega,KN,Wh]
   have e3:(2:Int) ^ (k+2)=2*2 ^ (k+1):=by rw [KN,Wh]
   rw [h2,e2];generalize (2:Int) ^ (k+2)=t at e3 ⊢;generalize (2:Int) ^ (k+1)=s at e3 ⊢;subst e3
   grind
  .have e1:(2:Int) ^ (k+1)=2*2 ^ k:=by rw [KN,Wh]
   have e2:(2:Int) ^ (k+2)=4*2 ^ k:=by rw [KN,KN];omega
   rw [h2,h3,e1,e2];generalize (2:Int) ^ k=t
   grind
def azn (k:Nat) (x y:Int):∃ n d,qP n x=y+2 ^ k*d:=by
 induction k with
 | zero=>exact ⟨0,x - y,by show x=_;simp;omega⟩
 | succ k ih=>
  obtain ⟨n,d,h⟩:=ih;have e1:(2:Int) ^ (k+1)=2*2 ^ k:=by rw [KN,Wh]
  by_cases hd:d % 2=0
  .refine ⟨n,d / 2,?_⟩;rw [h,e1,show d=2*(d / 2) by omega];rw [Int.mul_left_comm,<- Int.mul_assoc,show 2*(d / 2) / 2=d / 2 by omega]
  .obtain ⟨p,q,u,v,h1,h2,h3⟩:=apG k;refine ⟨n+2 ^ k,(1+d) / 2+v+2*u*(y+2 ^ k*d),?_⟩;have e2:(2:Int) ^ (k+2)=4*2 ^ k:=by rw [KN,KN];omega
   have hd2:d=2*((1+d) / 2) - 1:=ah;rw [Ze,h,h1,h2,h3,e1,e2];generalize (1+d) / 2=g at hd2 ⊢;subst hd2;generalize (2:Int) ^ k=t
   grind
def nJ (h:Int):Int:=IntKind.wrap .i64 (IntKind.wrap .i64 (h*6364136223846793005)+1442695040888963407)
def kK:Nat->Int->Int
 | 0,h=>h
 | n+1,h=>kK n (nJ h)
def adJ:∀ (m n:Nat) (x:Int),kK (m+n) x=kK n (kK m x)
 | 0,n,x=>by rw [rZ];rfl
 | m+1,n,x=>by
  rw [show m+1+n=(m+n)+1 by omega];show kK (m+n) (nJ x)=kK n (kK m<|nJ x);exact adJ m n (nJ x)
def azo (h:Int): -9223372036854775808<=nJ h/\nJ h<=9223372036854775807:=by
 unfold nJ;rw [afo];omega
def apH (x:Int):∃ d,IntKind.wrap .i64 x=x+18446744073709551616*d:=by
 rw [afo];exact ⟨-((x+9223372036854775808) / 18446744073709551616),ah⟩
def azp (h:Int):∃ d,nJ h=lc h+18446744073709551616*d:=by
 unfold nJ lc;obtain ⟨d1,h1⟩:=apH (h*6364136223846793005);obtain ⟨d2,h2⟩:=apH (IntKind.wrap .i64 (h*6364136223846793005)+1442695040888963407);refine ⟨d1+d2,?_⟩;rw [h2,h1];show _=h*6364136223846793005+1442695040888963407+_;generalize h*6364136223846793005=z;omega
def aiI:∀ (n:Nat) (x d:Int),∃ e,qP n (x+18446744073709551616*d)=qP n x+18446744073709551616*e
 | 0,x,d=>⟨d,rfl⟩
 | n+1,x,d=>by
  have e:lc (x+18446744073709551616*d)=lc x+18446744073709551616*(d*lcA):=by
   unfold lc
   grind
  show ∃ e,qP n (lc<|x+18446744073709551616*d)=qP n (lc x)+18446744073709551616*e;rw [e];exact aiI n (lc x) _
def apI:∀ (n:Nat) (h:Int),∃ d,kK n h=qP n h+18446744073709551616*d
 | 0,h=>⟨0,by show h=h+_;omega⟩
 | n+1,h=>by
  obtain ⟨d,hd⟩:=apI n (nJ h);obtain ⟨d2,h2⟩:=azp h;obtain ⟨e,he⟩:=aiI n (lc h) d2;refine ⟨e+d,?_⟩;show kK n (nJ h)=qP n (lc h)+_;rw [hd,h2,he];omega
def apJ (M:Nat) (hM:M=2 ^ 64) (x:Int):∃ d,qP M x=x+18446744073709551616*d:=by
 obtain ⟨p,q,u,v,h1,h2,h3⟩:=apG 64;have e2:(2:Int) ^ (64+2)=73786976294838206464:=aM;have e3:(2:Int) ^ 64=18446744073709551616:=aM;rw [<- hM] at h1;rw [e2] at h2;rw [e3] at h3;refine ⟨4*u*x+(1+2*v),?_⟩;rw [h1,h2,h3]
 grind
def azq (M:Nat) (hM:M=2 ^ 64) (k:Nat) (x:Int):∃ d,qP (M*k) x=x+18446744073709551616*d:=by
 induction k with
 | zero=>exact ⟨0,by rw [aaZ];show x=_;omega⟩
 | succ k ih=>
  obtain ⟨d,hd⟩:=ih;obtain ⟨d2,h2⟩:=apJ M hM (x+18446744073709551616*d);refine ⟨d+d2,?_⟩;rw [Nat.mul_succ,Ze,hd,h2];omega
def azr (M:Nat) (hM:M=2 ^ 64) (hM0:0 < M) (h y:Int) (h1: -9223372036854775808<=y) (h2:y<=9223372036854775807):∃ n,1<=n/\n<=M/\kK n h=y:=by
 obtain ⟨n,d,hn⟩:=azn 64 h y;have e3:(2:Int) ^ 64=18446744073709551616:=aM;rw [e3] at hn;have key:∀ m,(∃ d,qP m h=y+18446744073709551616*d)->1<=m->kK m h=y:=fun m ⟨d,hm⟩ h1m=>by
  obtain ⟨d2,hd2⟩:=apI m h;obtain ⟨m,rfl⟩:∃ k,m=k+1:=⟨m - 1,ah⟩
  have hr: -9223372036854775808<=kK (m+1) h/\kK (m+1) h<=9223372036854775807:=by
   rw [adJ m 1 h];exact azo _
  rw [hm] at hd2;omega
 obtain ⟨d2,hq⟩:=azq M hM (n / M) h;have hsplit:qP n h=qP (n % M) (qP (M*(n / M)) h):=by
  rw [<- Ze,aaT]
 obtain ⟨e,he⟩:=aiI (n % M) h d2;rw [hsplit,hq,he] at hn;have hm:qP (n % M) h=y+18446744073709551616*(d - e):=ah;rcases VT (n % M) with h0|h0
 .rw [h0] at hm;obtain ⟨d3,h3⟩:=apJ M hM h;refine ⟨M,hM0,eU _,key _ ⟨d - e+d3,?_⟩ hM0⟩;rw [h3];have:h=y+18446744073709551616*(d - e):=hm;omega
 .exact ⟨n % M,h0,afy<|Sc _ hM0,key _ ⟨_,hm⟩ h0⟩
def azs (h y:Int) (h1: -9223372036854775808<=y) (h2:y<=9223372036854775807):∃ n,1<=n/\n<=2 ^ 64/\kK n h=y:=
 azr (2 ^ 64) rfl aM h y h1 h2
inductive Pg (α:Type):Type
 | ret (a:α):Pg α
 | rd (k:Int->Pg α):Pg α
namespace Pg
def bind {α β:Type}:Pg α->(α->Pg β)->Pg β
 | ret a,f=>f a
 | rd k,f=>rd fun x=>(k x).bind f
def map {α β:Type} (g:α->β) (p:Pg α):Pg β:=p.bind fun a=>ret (g a)
inductive Post {α:Type} (P:α->Prop):Pg α->Prop
 | ret {a:α} (h:P a):Post P (.ret a)
 | rd {k:Int->Pg α} (h:∀ x,0<=x->x<=255->Post P (k x)):Post P (.rd k)
inductive Le {α:Type}:Pg α->Nat->Prop
 | ret {a:α} {n:Nat}:Le (.ret a) n
 | rd {k:Int->Pg α} {n:Nat} (h:∀ x,0<=x->x<=255->Le (k x) n):Le (.rd k) (n+1)
def One {α:Type}:Pg α->Prop
 | ret _=>False
 | rd _=>True
def Le.mono {α:Type} {p:Pg α} {n m:Nat} (h:Le p n) (hm:n<=m):Le p m:=by
 induction h generalizing m with
 | ret=>exact .ret
 | rd h ih=>
  obtain ⟨m,rfl⟩:∃ k,m=k+1:=⟨m - 1,ah⟩
  exact .rd fun x a b=>ih x a b ah
def Post.imp {α:Type} {P Q:α->Prop} {p:Pg α} (h:Post P p) (hi:∀ a,P a->Q a):Post Q p:=by
 induction h with
 | ret h=>exact .ret (hi _ h)
 | rd h ih=>exact .rd ih
def Post.bind {α β:Type} {P:α->Prop} {Q:β->Prop} {p:Pg α} {f:α->Pg β} (h:Post P p) (hf:∀ a,P a->Post Q (f a)):Post Q (p.bind f):=by
 induction h with
 | ret h=>exact hf _ h
 | rd h ih=>exact .rd ih
def fu.bind {α β:Type} {P:α->Prop} {p:Pg α} {f:α->Pg β} {n m k:Nat} (hp:Post P p) (h:Le p n) (hf:∀ a,P a->Le (f a) m) (hk:n+m<=k):Le (p.bind f) k:=by
 induction h generalizing k with
 | ret=>
  cases hp with
  | ret hp=>exact (hf _ hp).mono ah
 | rd h ih=>
  cases hp with
  | rd hp=>
   obtain ⟨k,rfl⟩:∃ j,k=j+1:=⟨k - 1,ah⟩
   exact .rd fun x a b=>ih x a b (hp x a b) ah
def One.bind {α β:Type} {p:Pg α} {f:α->Pg β} (h:One p):One (p.bind f):=by
 cases p with
 | ret=>cases h
 | rd=>trivial
def gen (h:Int):Int:=bits .and .i64 (bits .xor .i64 (Int.fdiv (nJ h)<|2 ^ (min 33 64))<|Int.fdiv (nJ h)<|2 ^ (min 45 64)) 255
def cb (b:List UInt8) (i:Nat) (h:Int):Int:=match b[i]? with
 | some e=>bits .and .i64 (IntKind.wrap .i64<|gen h+IntKind.wrap .i64 (e.toNat:Int)) 255
 | none=>gen h
def nx (b:List UInt8) (i:Nat):Nat:=if i < b.length then i+1 else i
def run {α:Type} (b:List UInt8):Pg α->Nat->Int->α×Nat×Int
 | ret a,i,h=>(a,i,h)
 | rd k,i,h=>run b (k<|cb b i h) (nx b i) (nJ h)
def Ee {α:Type}:Pg α->Int->α×Int
 | ret a,h=>(a,h)
 | rd k,h=>Ee (k<|gen h) (nJ h)
def run_bind {α β:Type} (b:List UInt8):∀ (p:Pg α) (f:α->Pg β) (i:Nat) (h:Int),run b (p.bind f) i h=run b (f (run b p i h).1) (run b p i h).2.1 (run b p i h).2.2
 | ret _,_,_,_=>rfl
 | rd k,f,i,h=>run_bind b (k<|cb b i h) f (nx b i) (nJ h)
def azt {b:List UInt8} {i:Nat} (h:i<=b.length):nx b i<=b.length:=by unfold nx;split<;>omega
def Ic {α:Type} (b:List UInt8):∀ (p:Pg α) (i:Nat) (h:Int),i<=b.length->(run b p i h).2.1<=b.length
 | ret _,_,_,hi=>hi
 | rd k,i,h,hi=>Ic b (k<|cb b i h) (nx b i) (nJ h) (azt hi)
def azu (b:List UInt8):nx b b.length=b.length:=by unfold nx;split<;>omega
def run_end {α:Type} (b:List UInt8):∀ (p:Pg α) (h:Int),run b p b.length h=((Ee p h).1,b.length,(Ee p h).2)
 | ret _,_=>rfl
 | rd k,h=>by
  have e:cb b b.length h=gen h:=by unfold cb;rw [Da ah]
  show run b (k<|cb b b.length h) (nx b b.length) (nJ h)=_;rw [e,azu,run_end b (k<|gen h)<|nJ h];rfl
def Zf (h:Int):0<=gen h/\gen h<=255:=adH _
def apK (b:List UInt8) (i:Nat) (h:Int):0<=cb b i h/\cb b i h<=255:=by
 unfold cb;split
 .exact adH _
 .exact Zf h
def Zg {α:Type} {P:α->Prop} (b:List UInt8) {p:Pg α} (hp:Post P p):∀ (i:Nat) (h:Int),P (run b p i h).1:=by
 induction hp with
 | ret h=>intro i h';exact h
 | rd h ih=>intro i h';exact ih (cb b i h') (apK b i h').1 (apK b i h').2 (nx b i) (nJ h')
def azv {α:Type} {p:Pg α} {n:Nat} (hp:Le p n):∀ h:Int,∃ k,k<=n/\(Ee p h).2=kK k h:=by
 induction hp with
 | ret=>intro h;exact ⟨0,ah,rfl⟩
 | rd h ih=>
  intro h';obtain ⟨k,h1,h2⟩:=ih (gen h') (Zf h').1 (Zf h').2 (nJ h');exact ⟨k+1,ah,h2⟩
def azw {α:Type} {p:Pg α} {n:Nat} (hp:Le p n) (ho:One p) (h:Int):∃ k,1<=k/\k<=n/\(Ee p h).2=kK k h:=by
 cases hp with
 | ret=>cases ho
 | rd hk=>
  obtain ⟨k,h1,h2⟩:=azv (hk (gen h) (Zf h).1 (Zf h).2) (nJ h);exact ⟨k+1,ah,ah,h2⟩
def apL {α:Type} (b:List UInt8):∀ (p:Pg α) (i:Nat) (h:Int),i<=(run b p i h).2.1
 | ret _,_,_=>eU _
 | rd k,i,h=>by
  have:=apL b (k<|cb b i h) (nx b i) (nJ h);have h2:i<=nx b i:=by unfold nx;split<;>omega
  exact BD h2 this
def azx {α:Type} (b:List UInt8) {p:Pg α} (ho:One p) (i:Nat) (h:Int) (hi:i < b.length):i < (run b p i h).2.1:=by
 cases p with
 | ret=>cases ho
 | rd k=>
  have:=apL b (k<|cb b i h) (nx b i) (nJ h);have h2:nx b i=i+1:=by unfold nx;rw [bZ hi]
  rw [h2] at this;show i < (run b (k<|cb b i h) (nx b i)<|nJ h).2.1;rw [h2];exact this
def Ie {α:Type} (p:Pg α) (ok:α->Bool):Nat->Int->Option (α×Int)
 | 0,_=>none
 | n+1,h=>bif ok (Ee p h).1 then some (Ee p h) else Ie p ok n (Ee p h).2
def loop {α:Type} (b:List UInt8) (p:Pg α) (ok:α->Bool):Nat->Nat->Int->Option (α×Nat×Int)
 | 0,_,_=>none
 | n+1,i,h=>bif ok (run b p i h).1 then some (run b p i h) else loop b p ok n (run b p i h).2.1 (run b p i h).2.2
def apM {α:Type} (b:List UInt8) (p:Pg α) (ok:α->Bool):∀ (n:Nat) (h:Int),(Ie p ok n h).isSome=true->(loop b p ok n b.length h).isSome=true
 | 0,_,hs=>by cases hs
 | n+1,h,hs=>by
  rw [Ie] at hs;rw [loop,run_end];dsimp only;cases hc:ok (Ee p h).1 with
  | true=>rfl
  | false=>rw [hc,aJ] at hs;rw [aJ];exact apM b p ok n (Ee p h).2 hs
def adK {α:Type} (p:Pg α) (ok:α->Bool):∀ (n m:Nat) (h:Int),n<=m->(Ie p ok n h).isSome=true->(Ie p ok m h).isSome=true
 | 0,_,_,_,hs=>by cases hs
 | n+1,0,_,hm,_=>by omega
 | n+1,m+1,h,hm,hs=>by
  rw [Ie] at hs ⊢;cases hc:ok (Ee p h).1 with
  | true=>rfl
  | false=>rw [hc,aJ] at hs;rw [aJ];exact adK p ok n m _ ah hs
def jM {α:Type} (p:Pg α) (ok:α->Bool) (F:Nat):Nat->Int->Bool
 | 0,_=>true
 | n+1,h=>(Ie p ok F h).isSome&&jM p ok F n (nJ h)
def apN {α:Type} (p:Pg α) (ok:α->Bool) (F:Nat):∀ (n:Nat) (h:Int) (k:Nat),jM p ok F n h=true->k < n->(Ie p ok F<|kK k h).isSome=true
 | 0,_,_,_,hk=>by omega
 | n+1,h,0,ha,_=>by
  rw [jM,eu] at ha;exact ha.1
 | n+1,h,k+1,ha,hk=>by
  rw [jM,eu] at ha;exact apN p ok F n (nJ h) k ha.2 ah
def Cu {α:Type} (p:Pg α) (ok:α->Bool) (F:Nat):∀ (n m:Nat) (h:Int),jM p ok F n h=true->jM p ok F m (kK n h)=true->jM p ok F (n+m) h=true
 | 0,m,h,_,h2=>by rw [rZ];exact h2
 | n+1,m,h,h1,h2=>by
  rw [show n+1+m=(n+m)+1 by omega,jM,eu];rw [jM,eu] at h1;exact ⟨h1.1,Cu p ok F n m (nJ h) h1.2 h2⟩
def azy {α:Type} {p:Pg α} {ok:α->Bool} {B F:Nat} {h0:Int} (hB:Le p B) (ho:One p) (ha:jM p ok F (B+1) h0=true):∀ (n:Nat) (h:Int),kK n h=h0->(Ie p ok (n+F+1) h).isSome=true:=by
 intro n;induction n using Nat.strongRecOn with
 | _ n ih=>
  intro h hn;rw [Ie];cases ok (Ee p h).1 with
  | true=>rfl
  | false=>
   rw [aJ];obtain ⟨k,k1,k2,k3⟩:=azw hB ho h;rw [k3];by_cases hk:k<=n
   .have e:kK (n - k) (kK k h)=h0:=by rw [<- adJ,show k+(n - k)=n by omega];exact hn
    exact adK p ok _ _ _ ah (ih (n - k) ah (kK k h) e)
   .have e:kK k h=kK (k - n) h0:=by rw [<- hn,<- adJ,show n+(k - n)=k by omega]
    rw [e];exact adK p ok F _ _ ah (apN p ok F (B+1) h0 (k - n) ha ah)
def apO {α:Type} {p:Pg α} {ok:α->Bool} {B F:Nat} {h0:Int} (hB:Le p B) (ho:One p) (ha:jM p ok F (B+1) h0=true) (h1: -9223372036854775808<=h0) (h2:h0<=9223372036854775807) (b:List UInt8) (M:Nat) (hM:18446744073709551616+F+1<=M):∀ (d i n:Nat) (h:Int),b.length - i=d->i<=b.length->M+d<=n->(loop b p ok n i h).isSome=true:=by
 intro d;induction d using Nat.strongRecOn with
 | _ d ih=>
  intro i n h hd hi hn;by_cases hlt:i < b.length
  .obtain ⟨n,rfl⟩:∃ k,n=k+1:=⟨n - 1,ah⟩
   rw [loop];cases ok (run b p i h).1 with
   | true=>rfl
   | false=>
    rw [aJ];have g1:=azx b ho i h hlt;have g2:=Ic b p i h hi;exact ih (b.length - (run b p i h).2.1) ah _ n _ rfl g2 ah
  .have e:i=b.length:=ah;subst e;obtain ⟨k,_,k2,k3⟩:=azs h h0 h1 h2;have e3:(2:Nat) ^ 64=18446744073709551616:=aM;rw [e3] at k2;exact apM b p ok n h (adK p ok _ _ _ ah<|azy hB ho ha k h k3)
def aiJ {α:Type} (b:List UInt8) {P:α->Prop} {p:Pg α} (hp:Post P p) (ok:α->Bool):∀ (n i:Nat) (h:Int) (r:α×Nat×Int),i<=b.length->loop b p ok n i h=some r->P r.1/\ok r.1=true/\r.2.1<=b.length
 | 0,_,_,_,_,e=>by cases e
 | n+1,i,h,r,hi,e=>by
  rw [loop] at e;cases ho:ok (run b p i h).1 with
  | true=>
   rw [ho,aS] at e;cases e;exact ⟨Zg b hp i h,ho,Ic b p i h hi⟩
  | false=>
   rw [ho,aJ] at e;exact aiJ b hp ok n _ _ r (Ic b p i h hi) e
end Pg
def Sm {α β:Type} (b:List UInt8) (p:Pg α) (f:α->β) (i:Nat) (h:Int) (x:Option (β×Int×Int)):Prop:=x=some (f (Pg.run b p i h).1,((Pg.run b p i h).2.1:Int),(Pg.run b p i h).2.2)
def Sm.ret {α β:Type} {b:List UInt8} {a:α} {f:α->β} {i:Nat} {h:Int}:Sm b (.ret a) f i h (some (f a,(i:Int),h)):=rfl
def Sm.bind {α β γ δ:Type} {b:List UInt8} {p:Pg α} {f:α->β} {q:α->Pg γ} {g:γ->δ} {P:α->Prop} {i:Nat} {h:Int} {x:Option (β×Int×Int)} {y:β×Int×Int->Option (δ×Int×Int)} (hi:i<=b.length) (hp:Pg.Post P p) (hx:Sm b p f i h x) (hy:∀ a (i:Nat) h,P a->i<=b.length->Sm b (q a) g i h (y (f a,(i:Int),h))):Sm b (p.bind q) g i h (Option.bind x y):=by
 unfold Sm at hx hy ⊢;rw [hx,av,Pg.run_bind];exact hy _ _ _ (Pg.Zg b hp i h) (Pg.Ic b p i h hi)
def Ef {α β:Type} {b:List UInt8} {p:Pg α} {f:α->β} {i:Nat} {h:Int} {x:Option (β×Int×Int)} (hx:Sm b p f i h x):Sm b p f i h (Option.bind x fun r=>some (r.1,r.2.1,r.2.2)):=by
 unfold Sm at hx ⊢;rw [hx];rfl
def Sm.cond {α β:Type} {b:List UInt8} {p q:Pg α} {f:α->β} {i:Nat} {h:Int} {c:Bool} {x y:Option (β×Int×Int)} (hx:c=true->Sm b p f i h x) (hy:c=false->Sm b q f i h y):Sm b (bif c then p else q) f i h (bif c then x else y):=by
 cases c
 .exact hy rfl
 .exact hx rfl
def azz {α β:Type} {b:List UInt8} {p:Pg α} {f:α->β} {P:α->Prop} {Q:β->Prop} {i:Nat} {h:Int} {x:Option (β×Int×Int)} (hi:i<=b.length) (hx:Sm b p f i h x) (hp:Pg.Post P p) (hq:∀ a,P a->Q (f a)):Dr b Q x:=
 ⟨_,_,_,hx,hq _<|Pg.Zg b hp i h,ah,by have:=Pg.Ic b p i h hi;omega⟩
end Go.Proofs.Tryz
