/-
 Plain lemmas on the models, part 8.
-/
import Derived.Test.YtlglnimglieinaaGreatDoorDeGP7
namespace Go.Proofs.Tryz
open Go.Av
set_option maxRecDepth 100000
set_option linter.all false
def jE (l:List av) (i:Nat):List UInt8:=(l[i]?.map (·.Text)).getD []
def uM {l:List av} {i:Nat} (h:i < l.length):jE l i=l[i].Text:=by unfold jE;rw [fZ h];rfl
def rX:aI:=⟨14,false,false,false,false⟩
mutual
inductive bO (l:List av):aI->Nat->Nat->aD->Bool->Prop
 | par {p:aI} {i j:Nat} {t:aD} {h:Bool}:kd l i=32->i+1 < j->j < l.length->bO l oV (i+1) j t h->kd l j=33->bO l p i (j+1) t true
 | bare {p:aI} {i j:Nat} {t:aD}:fK t.kind t.op p=true->i < j->j<=l.length->cO l p i j t->bO l p i j t false
inductive cO (l:List av):aI->Nat->Nat->aD->Prop
 | leaf {p:aI} {i:Nat} (k:Int):k=3\/k=4\/k=5->kd l i=k->cO l p i (i+1) ⟨k - 1,0,jE l i,[],[]⟩
 | name {p:aI} {i:Nat}:kd l i=6->cO l p i (i+1) ⟨1,0,jE l i,[],[]⟩
 | index {p:aI} {i j:Nat} {ts:List aD}:kd l i=6->kd l (i+1)=34->i+2 < j->j < l.length->kd l j=35->ts.length<=6->lg l (i+2) j ts->cO l p i (j+1) ⟨5,0,jE l i,[],ts⟩
 | jU {p:aI} {i:Nat} (k:Int):k=7\/k=8->kd l i=k->kd l (i+1)=32->kd l (i+2)=33->cO l p i (i+3) ⟨k,0,jE l i,[],[]⟩
 | call {p:aI} {i j:Nat} {ts:List aD} (k:Int):k=7\/k=8->kd l i=k->kd l (i+1)=32->i+2 < j->j < l.length->kd l j=33->ts.length<=6->lg l (i+2) j ts->cO l p i (j+1) ⟨k,0,jE l i,[],ts⟩
 | len {p:aI} {i:Nat}:kd l i=8->kd l (i+1)≠32->jE l i=[108,101,110,103,116,104]->cO l p i (i+1) ⟨8,0,jE l i,[],[]⟩
 | field {p:aI} {i j:Nat} {t:aD} {h:Bool}:kd l i=68->i+1 < j->bO l ⟨14,true,false,false,false⟩ (i+1) j t h->cO l p i j ⟨6,0,[],[],[t]⟩
 | pre {p:aI} {i j:Nat} {t:aD} (o:Int):o=51\/o=52->kd l i=o->dL t.kind=true->i+1 < j->cO l rX (i+1) j t->cO l p i j ⟨9,o,[],[],[t]⟩
 | post {p:aI} {i j:Nat} {t:aD} (o:Int):o=51\/o=52->kd l j=o->dL t.kind=true->i < j->cO l rX i j t->cO l p i (j+1) ⟨10,o,[],[],[t]⟩
 | unary {p:aI} {i j:Nat} {t:aD} {h:Bool} (o:Int):o=55\/o=56\/o=61->kd l i=o->i+1 < j->bO l ⟨11,false,p.aV,p.aW,false⟩ (i+1) j t h->cO l p i j ⟨11,o,[],[],[t]⟩
 | bin {p:aI} {i m f j:Nat} {a b:aD} {h1 h2:Bool} (o:Int):bF o≠0->o≠99->kd l m=o->i < m->f < j->((bF o=3\/bF o=4)/\Ln l (m+1) f\/ ¬(bF o=3\/bF o=4)/\f=m+1)->bO l ⟨(iY o).1,false,p.aV,p.aW,p.eZ⟩ i m a h1->bO l ⟨(iY o).2,false,p.aV,p.aW,false⟩ f j b h2->cO l p i j ⟨12,o,[],[],[a,b]⟩
 | cat {p:aI} {i m j:Nat} {a b:aD} {h1 h2:Bool}:i < m->m < j->bO l ⟨8,false,p.aV,p.aW,p.eZ⟩ i m a h1->bO l ⟨9,false,p.aV,p.aW,true⟩ m j b h2->cO l p i j ⟨12,99,[],[],[a,b]⟩
 | one {p:aI} {i m:Nat} {t:aD} {h:Bool}:i < m->kd l m=24->kd l (m+1)=6->bO l ⟨5,false,p.aV,p.aW,p.eZ⟩ i m t h->cO l p i (m+2) ⟨13,0,jE l<|m+1,[],[t]⟩
 | many {p:aI} {i m:Nat} {ts:List aD}:kd l i=32->i+1 < m->kd l m=33->kd l (m+1)=24->kd l (m+2)=6->2<=ts.length->ts.length<=6->lg l (i+1) m ts->cO l p i (m+3) ⟨13,0,jE l<|m+2,[],ts⟩
 | cond {p:aI} {i m n j:Nat} {a b c:aD} {h1 h2 h3:Bool}:i < m->kd l m=65->m+1 < n->kd l n=66->n+1 < j->bO l ⟨3,false,p.aV,p.aW,p.eZ⟩ i m a h1->bO l ⟨2,false,p.aV,p.aW,false⟩ (m+1) n b h2->bO l ⟨2,false,p.aV,p.aW,false⟩ (n+1) j c h3->cO l p i j ⟨14,0,[],[],[a,b,c]⟩
 | assign {p:aI} {i m j:Nat} {a b:aD} {h:Bool} (o:Int):oQ o=true->kd l m=o->i < m->m+1 < j->dL a.kind=true->cO l rX i m a->bO l ⟨1,false,p.aV,p.aW,false⟩ (m+1) j b h->cO l p i j ⟨15,o,[],[],[a,b]⟩
inductive lg (l:List av):Nat->Nat->List aD->Prop
 | one {i j:Nat} {t:aD} {h:Bool}:i < j->bO l oV i j t h->lg l i j [t]
 | cons {i k f j:Nat} {t u:aD} {ts:List aD} {h:Bool}:i < k->kd l k=36->Ln l (k+1) f->f < j->bO l oV i k t h->lg l f j (u::ts)->lg l i j (t::u::ts)
end
def bO.lt {l:List av} {p:aI} {i j:Nat} {t:aD} {h:Bool} (d:bO l p i j t h):i < j/\j<=l.length:=by
 cases d with
 | par=>omega
 | bare=>omega
def cO.low {l:List av} {p:aI} {i j:Nat} {t:aD} (d:cO l p i j t) (hk:t.kind<=9) (q:aI):cO l q i j t:=by
 cases d with
 | leaf k h1 h2=>exact .leaf k h1 h2
 | name h1=>exact .name h1
 | index h1 h2 h3 h4 h5 h6 h7=>exact .index h1 h2 h3 h4 h5 h6 h7
 | jU k h1 h2 h3 h4=>exact .jU k h1 h2 h3 h4
 | call k h1 h2 h3 h4 h5 h6 h7 h8=>exact .call k h1 h2 h3 h4 h5 h6 h7 h8
 | len h1 h2 h3=>exact .len h1 h2 h3
 | field h1 h2 h3=>exact .field h1 h2 h3
 | pre o h1 h2 h3 h4 h5=>exact .pre o h1 h2 h3 h4 h5
 | post=>exact absurd hk (by show¬(10:Int)<=9;omega)
 | unary=>exact absurd hk (by show¬(11:Int)<=9;omega)
 | bin=>exact absurd hk (by show¬(12:Int)<=9;omega)
 | cat=>exact absurd hk (by show¬(12:Int)<=9;omega)
 | one=>exact absurd hk (by show¬(13:Int)<=9;omega)
 | many=>exact absurd hk (by show¬(13:Int)<=9;omega)
 | cond=>exact absurd hk (by show¬(14:Int)<=9;omega)
 | assign=>exact absurd hk (by show¬(15:Int)<=9;omega)
def xV {l:List av} {m f:Nat} {P:Prop} (h:P/\Ln l (m+1) f\/ ¬P/\f=m+1):m+1<=f:=by
 rcases h with ⟨_,h⟩|⟨_,h⟩
 .exact h.1
 .omega
def qc {k o:Int} {p:aI} (h:fK k o p=true) (hd:p.jo=false):p.Level<=lv k o:=by
 unfold fK at h;rw [hd] at h;simp only [dA,tY,Aj,jS] at h;exact h.2.2.2.2
def bO.lvl {l:List av} {p:aI} {i j:Nat} {t:aD} {h:Bool} (d:bO l p i j t h) (hd:p.jo=false):h=true\/p.Level<=lv t.kind t.op:=by
 cases d with
 | par=>exact .inl rfl
 | bare hfit=>exact .inr (qc hfit hd)
def axz {k o:Int} {p:aI} (h:fK k o p=true) (hs:p.eZ=true):k≠11/\k≠9/\k≠4:=by
 unfold fK at h;rw [hs] at h;simp only [dA,iF,kF,Kk,fF] at h;exact h.2.2.2.1
def ajB {k o:Int} {p:aI} (h:fK k o p=true) (hk:k=13):p.aV=false:=by
 unfold fK at h;simp only [dA,kF,NH] at h;rcases h.2.1 with h|h
 .exact h
 .rw [hk] at h;cases h
def ajC {k o:Int} {p:aI} (h:fK k o p=true) (hk:k=12) (ho:o=62):p.aW=false:=by
 unfold fK at h;simp only [dA,kF,NH] at h;rcases h.2.2.1 with h|h
 .exact h
 .rw [hk,ho] at h;rcases h with h|h<;>cases h
def axA {o:Int} (h:12<=bF o):iY o=(13,11):=by
 have:=NJ o;have e:bF o=12:=ah;unfold iY;rw [e];rfl
def GL {l:List av} {p:aI} {i j:Nat} {t:aD} (d:cO l p i j t) (h:dL t.kind=true):kd l i=6\/kd l i=68:=by
 cases d with
 | leaf k h1 h2=>rcases h1 with rfl|rfl|rfl<;>cases h
 | name h1=>exact .inl h1
 | index h1=>exact .inl h1
 | jU k h1=>rcases h1 with rfl|rfl<;>cases h
 | call k h1=>rcases h1 with rfl|rfl<;>cases h
 | field h1=>exact .inr h1
 | len|pre|post|unary|bin|cat|one|many|cond|assign=>cases h
def Wd (k:Int):Bool:=lX k||(k==5||(k==51||(k==52||(k==55||(k==56||k==61)))))
structure Og (p:aI) (t:aD) (k:Int):Prop where
 o:Wd k=true
 s:p.eZ=true->t.kind≠11->t.kind≠9->t.kind≠4->lX k=true
 a:12<=lv t.kind t.op->k≠55/\k≠56/\k≠61
 b:14<=lv t.kind t.op->k≠51/\k≠52
 c:15<=lv t.kind t.op->k≠68
structure FsD (p:aI) (t:aD) (h:Bool) (k:Int):Prop where
 o:Wd k=true
 s:p.eZ=true->lX k=true
 a:h=true\/12<=lv t.kind t.op->k≠55/\k≠56/\k≠61
 b:h=true\/14<=lv t.kind t.op->k≠51/\k≠52
 c:h=true\/15<=lv t.kind t.op->k≠68
def Og.beg {p:aI} {t:aD} {k:Int} (h:lX k=true) (a:12<=lv t.kind t.op->k≠55/\k≠56/\k≠61) (b:14<=lv t.kind t.op->k≠51/\k≠52) (c:15<=lv t.kind t.op->k≠68):Og p t k:=⟨by unfold Wd;rw [h];rfl,fun _ _ _ _=>h,a,b,c⟩
def Og.KF {p:aI} {t:aD} {k:Int} (h:k=3\/k=4\/k=6\/k=7\/k=8\/k=32):Og p t k:=by
 rcases h with rfl|rfl|rfl|rfl|rfl|rfl<;>exact .beg rfl (fun _=>aH) (fun _=>aH) (fun _=>aH)
def asO {k:Int} (h:lX k=true):k≠55/\k≠56/\k≠61/\k≠51/\k≠52:=by
 unfold lX at h;simp only [iX,iG] at h;omega
def alD (l:List av):∀ (n i j:Nat),j - i<=n->(∀ p t,i < j->cO l p i j t->Og p t (kd l i))/\(∀ p t h,bO l p i j t h->FsD p t h (kd l i)):=by
 intro n;induction n with
 | zero=>exact fun i j hn=>⟨fun p t hij=>ah,fun p t h d=>by have:=d.lt;omega⟩
 | succ n ih=>
  intro i j hn;have hN:∀ p t,i < j->cO l p i j t->Og p t (kd l i):=by
   intro p t hij d;cases d with
   | leaf k h1 h2=>
    rw [h2];rcases h1 with rfl|rfl|rfl
    .exact .KF ah
    .exact .KF ah
    .exact ⟨rfl,fun _ _ _ h=>absurd rfl h,fun _=>aH,fun _=>aH,fun _=>aH⟩
   | name h1=>exact .KF ah
   | index h1=>exact .KF ah
   | jU k h1 h2=>exact .KF ah
   | call k h1 h2=>exact .KF ah
   | len h1=>exact .KF ah
   | field h1=>rw [h1];exact .beg rfl (fun _=>aH) (fun _=>aH) (fun h=>absurd h<|by show¬(15:Int)<=14;omega)
   | pre o h1 h2=>
    rw [h2];exact ⟨by rcases h1 with rfl|rfl<;>rfl,fun _ _ h=>absurd rfl h,fun _=>ah,fun h=>absurd h (by show¬(14:Int)<=13;omega),fun h=>absurd h<|by show¬(15:Int)<=13;omega⟩
   | post o h1 h2 h3 h4 h5=>rcases GL h5 h3 with e|e<;>rw [e]<;>exact .beg rfl (fun _=>aH) (fun _=>aH) (fun h=>absurd h<|by show¬(15:Int)<=13;omega)
   | unary o h1 h2=>
    rw [h2];exact ⟨by rcases h1 with rfl|rfl|rfl<;>rfl,fun _ h=>absurd rfl h,fun h=>absurd h (by show¬(12:Int)<=11;omega),fun h=>absurd h (by show¬(14:Int)<=11;omega),fun h=>absurd h<|by show¬(15:Int)<=11;omega⟩
   | bin o h1 h2 h3 h4 h5 h6 h7 h8=>
    have hlt:=h7.lt;have r:=(ih i _ (by have:=xV h6;omega)).2 _ _ _ h7;have ho:=NJ o;refine ⟨r.o,fun hs _ _ _=>r.s hs,fun h=>r.a ?_,fun h=>absurd h (by show¬(14:Int)<=bF o;omega),fun h=>absurd h<|by show¬(15:Int)<=bF o;omega⟩;have h:12<=bF o:=h;cases h7 with
    | par=>exact .inl rfl
    | bare hf=>
     have:=qc hf rfl;rw [axA h] at this;exact .inr (by have this:(13:Int)<=_:=this;omega)
   | cat h1 h2 h3 h4=>
    have r:=(ih i _ ah).2 _ _ _ h3;exact ⟨r.o,fun hs _ _ _=>r.s hs,fun h=>absurd h (by show¬(12:Int)<=8;omega),fun h=>absurd h (by show¬(14:Int)<=8;omega),fun h=>absurd h<|by show¬(15:Int)<=8;omega⟩
   | one h1 h2 h3 h4=>
    have r:=(ih i _ ah).2 _ _ _ h4;exact ⟨r.o,fun hs _ _ _=>r.s hs,fun h=>absurd h (by show¬(12:Int)<=5;omega),fun h=>absurd h (by show¬(14:Int)<=5;omega),fun h=>absurd h<|by show¬(15:Int)<=5;omega⟩
   | many h1=>exact .KF ah
   | cond h1 h2 h3 h4 h5 h6=>
    have r:=(ih i _ ah).2 _ _ _ h6;exact ⟨r.o,fun hs _ _ _=>r.s hs,fun h=>absurd h (by show¬(12:Int)<=2;omega),fun h=>absurd h (by show¬(14:Int)<=2;omega),fun h=>absurd h<|by show¬(15:Int)<=2;omega⟩
   | assign o h1 h2 h3 h4 h5 h6=>rcases GL h6 h5 with e|e<;>rw [e]<;>exact .beg rfl (fun _=>aH) (fun _=>aH) (fun h=>absurd h<|by show¬(15:Int)<=1;omega)
  refine ⟨hN,fun p t h d=>?_⟩;cases d with
  | par h1=>rw [h1];exact ⟨rfl,fun _=>rfl,fun _=>aH,fun _=>aH,fun _=>aH⟩
  | bare hf hij _ d=>
   have r:=hN p t hij d;refine ⟨r.o,fun hs=>?_,fun h=>r.a ?_,fun h=>r.b ?_,fun h=>r.c ?_⟩
   .obtain ⟨s1,s2,s3⟩:=axz hf hs;exact r.s hs s1 s2 s3
   all_goals
    rcases h with h|h
    .cases h
    .exact h
def bO.first {l:List av} {p:aI} {i j:Nat} {t:aD} {h:Bool} (d:bO l p i j t h):FsD p t h (kd l i):=(alD l (j - i) i j<|dK _).2 p t h d
def cO.first {l:List av} {p:aI} {i j:Nat} {t:aD} (d:cO l p i j t) (h:i < j):Og p t (kd l i):=(alD l (j - i) i j<|dK _).1 p t h d
def seg (l:List av) (i j:Nat):List av:=(l.drop i).take (j - i)
def uf {l:List av} {i m j:Nat} (h1:i<=m) (h2:m<=j):seg l i j=seg l i m++seg l m j:=by
 unfold seg;have e:j - i=(m - i)+(j - m):=ah;rw [e,List.take_add,Wx,show i+(m - i)=m by omega]
def rY {l:List av} {i:Nat} (h:i < l.length):seg l i (i+1)=[l[i]]:=by
 unfold seg;rw [show i+1 - i=1 by omega,xX h];rfl
def NG (l:List av) (i:Nat):seg l i i=[]:=by
 unfold seg;rw [RG];rfl
def alE {l:List av} {i j:Nat}:Sg l i (seg l i j):=⟨(l.drop i).drop<|j - i,by unfold seg;rw [List.take_append_drop]⟩
def Bl (l:List av) (e i j:Nat):Prop:=∀ d y,inn (e+d) (seg l i j++y)=inn (e+d) y
def Bl.nil (l:List av) (e i:Nat):Bl l e i i:=fun d y=>by rw [NG,Fh]
def Bl.up {l:List av} {i j:Nat} (h:Bl l 0 i j) (e:Nat):Bl l e i j:=fun d y=>by
 have:=h (e+d) y;rwa [wm] at this
def Bl.app {l:List av} {e i m j:Nat} (h1:i<=m) (h2:m<=j) (a:Bl l e i m) (b:Bl l e m j):Bl l e i j:=fun d y=>by
 rw [uf h1 h2,lW,a d,b d]
def Bl.tok {l:List av} {i:Nat} (hi:i < l.length) (h:Oe (kd l i)=true) (e:Nat):Bl l e i (i+1):=fun d y=>by
 rw [rY hi];exact axw (by rw [<- iQ hi];exact h) _ _
def axB {l:List av} {i:Nat} (hi:i < l.length) (h:kd l i=36):Bl l 1 i (i+1):=fun d y=>by
 rw [rY hi];have hk:l[i].Kind=36:=by rw [<- iQ hi];exact h
 show inn (1+d) (l[i]::y)=_;rw [inn,hk];have:(1+d==0)=false:=aF;rw [this];rfl
def Bl.wrap {l:List av} {i j:Nat} (hij:i < j) (hj:j < l.length) (ho:dD (kd l i)=true) (hc:dF (kd l j)=true) (h:Bl l 1 (i+1) j):Bl l 0 i (j+1):=fun d y=>by
 have hi:i < l.length:=ah;rw [uf (show i<=i+1 by omega) (show i+1<=j+1 by omega),uf (show i+1<=j by omega) (show j<=j+1 by omega),rY hi,rY hj,lW,lW];show inn (0+d) (l[i]::(seg l (i+1) j++l[j]::y))=_;rw [axx (by rw [<- iQ hi];exact ho),show 0+d+1=1+d by omega,h d,show 1+d=0+d+1 by omega,axy<|by rw [<- iQ hj];exact hc]
def Bl.ln {l:List av} {e:Nat}:∀ (n a f:Nat),f - a<=n->a<=f->f<=l.length->(∀ k,a<=k->k < f->kd l k=1)->Bl l e a f
 | 0,a,f,h,h1,_,_=>by
  have:a=f:=ah;subst this;exact .nil l e a
 | n+1,a,f,h,h1,h2,hk=>by
  by_cases ha:a=f
  .subst ha;exact .nil l e a
  .exact (Bl.tok ah (by rw [hk a ah ah];rfl) e).app ah ah (Bl.ln n (a+1) f ah ah h2 fun k h3 h4=>hk k ah h4)
def alF {k:Int} (h:k≠32/\k≠34/\k≠30/\k≠33/\k≠35/\k≠31/\k≠36):Oe k=true:=by
 unfold Oe dD dF;obtain ⟨h1,h2,h3,h4,h5,h6,h7⟩:=h;have f:∀ {z:Int},k≠z->(k==z)=false:=fun h=>by simpa using h
 rw [f h1,f h2,f h3,f h4,f h5,f h6,f h7];rfl
def axC {o:Int} (h:bF o≠0):Oe o=true:=by
 refine alF ?_;refine ⟨?_,?_,?_,?_,?_,?_,?_⟩<;>(intro e;subst e;exact h rfl)
def axD {o:Int} (h:oQ o=true):Oe o=true:=by
 refine alF ?_;refine ⟨?_,?_,?_,?_,?_,?_,?_⟩<;>(intro e;subst e;cases h)
def aah {l:List av} {i:Nat} {k:Int} (h:kd l i=k) (hk:k≠0):i < l.length:=dz (by rw [h];exact hk)
def axE (l:List av):∀ (n i j:Nat),j - i<=n->(∀ p t,i < j->j<=l.length->cO l p i j t->Bl l 0 i j)/\(∀ p t h,bO l p i j t h->Bl l 0 i j)/\(∀ ts,j<=l.length->lg l i j ts->Bl l 1 i j):=by
 intro n;induction n with
 | zero=>
  refine fun i j hn=>⟨fun p t hij=>ah,fun p t h d=>by have:=d.lt;omega,fun ts hj d=>?_⟩
  cases d with
  | one h1 h2=>have:=h2.lt;omega
  | cons h1 h2 h3 h4=>have:=h3.1;omega
 | succ n ih=>
  intro i j hn;have hN:∀ p t,i < j->j<=l.length->cO l p i j t->Bl l 0 i j:=by
   intro p t hij hj d;cases d with
   | leaf k h1 h2=>exact .tok ah (by rw [h2];rcases h1 with rfl|rfl|rfl<;>rfl) 0
   | name h1=>exact .tok ah (by rw [h1];rfl) 0
   | index h1 h2 h3 h4 h5 h6 h7=>exact (Bl.tok ah (by rw [h1];rfl) 0).app ah ah (.wrap ah h4 (by rw [h2];rfl) (by rw [h5];rfl)<|(ih (i+2) _ ah).2.2 _ ah h7)
   | jU k h1 h2 h3 h4=>exact (Bl.tok ah (by rw [h2];rcases h1 with rfl|rfl<;>rfl) 0).app ah ah (Bl.wrap (i:=i+1) (j:=i+2) ah ah (by rw [h3];rfl) (by rw [h4];rfl)<|.nil l 1 _)
   | call k h1 h2 h3 h4 h5 h6 h7 h8=>exact (Bl.tok ah (by rw [h2];rcases h1 with rfl|rfl<;>rfl) 0).app ah ah (.wrap ah h5 (by rw [h3];rfl) (by rw [h6];rfl)<|(ih (i+2) _ ah).2.2 _ ah h8)
   | len h1=>exact .tok ah (by rw [h1];rfl) 0
   | field h1 h2 h3=>exact (Bl.tok ah (by rw [h1];rfl) 0).app ah ah ((ih (i+1) j ah).2.1 _ _ _ h3)
   | pre o h1 h2 h3 h4 h5=>exact (Bl.tok ah (by rw [h2];rcases h1 with rfl|rfl<;>rfl) 0).app ah ah ((ih (i+1) j ah).1 _ _ h4 hj h5)
   | post o h1 h2 h3 h4 h5=>exact ((ih i _ ah).1 _ _ h4 ah h5).app ah ah (.tok ah (by rw [h2];rcases h1 with rfl|rfl<;>rfl) 0)
   | unary o h1 h2 h3 h4=>exact (Bl.tok ah (by rw [h2];rcases h1 with rfl|rfl|rfl<;>rfl) 0).app ah ah ((ih (i+1) j ah).2.1 _ _ _ h4)
   | @bin _ _ m f _ a b _ _ o h1 h2 h3 h4 h5 h6 h7 h8=>
    have hl7:=h7.lt;have hl8:=h8.lt;have xW:m+1<=f:=xV h6;have ln:Bl l 0 (m+1) f:=by
     rcases h6 with ⟨_,h6⟩|⟨_,h6⟩
     .exact .ln (f - (m+1)) _ _ ah xW ah h6.2.1
     .rw [h6];exact .nil l 0 _
    exact ((ih i m ah).2.1 _ _ _ h7).app ah ah ((Bl.tok ah (by rw [h3];exact axC h1) 0).app ah ah<|ln.app xW ah<|(ih f j ah).2.1 _ _ _ h8)
   | cat h1 h2 h3 h4=>exact ((ih i _ ah).2.1 _ _ _ h3).app ah ah ((ih _ j ah).2.1 _ _ _ h4)
   | @one _ _ m t h h1 h2 h3 h4=>exact ((ih i m ah).2.1 _ _ _ h4).app ah ah ((Bl.tok ah (by rw [h2];rfl) 0).app ah ah<|Bl.tok (i:=m+1) ah (by rw [h3];rfl) 0)
   | @many _ _ m ts h1 h2 h3 h4 h5 h6 h7 h8=>exact (Bl.wrap ah ah (by rw [h1];rfl) (by rw [h3];rfl)<|(ih (i+1) m ah).2.2 _ ah h8).app ah ah ((Bl.tok (i:=m+1) ah (by rw [h4];rfl) 0).app ah ah<|Bl.tok (i:=m+2) ah (by rw [h5];rfl) 0)
   | @cond _ _ m n2 _ a b c _ _ _ h1 h2 h3 h4 h5 h6 h7 h8=>exact ((ih i m ah).2.1 _ _ _ h6).app ah ah ((Bl.tok ah (by rw [h2];rfl) 0).app ah ah<|((ih (m+1) n2 ah).2.1 _ _ _ h7).app ah ah<|(Bl.tok ah (by rw [h4];rfl) 0).app ah ah<|(ih (n2+1) j ah).2.1 _ _ _ h8)
   | @assign _ _ m _ a b _ o h1 h2 h3 h4 h5 h6 h7=>exact ((ih i m ah).1 _ _ h3 ah h6).app ah ah ((Bl.tok ah (by rw [h2];exact axD h1) 0).app ah ah<|(ih (m+1) j ah).2.1 _ _ _ h7)
  refine ⟨hN,fun p t h d=>?_,fun ts hj d=>?_⟩
  .cases d with
   | par h1 h2 h3 h4 h5=>exact .wrap ah h3 (by rw [h1];rfl) (by rw [h5];rfl) (((ih (i+1) _ ah).2.1 _ _ _ h4).up 1)
   | bare h1 h2 h3 h4=>exact hN p t h2 h3 h4
  .cases d with
   | one h1 h2=>
    cases h2 with
    | par g1 g2 g3 g4 g5=>exact (Bl.wrap ah g3 (by rw [g1];rfl) (by rw [g5];rfl)<|((ih (i+1) _ ah).2.1 _ _ _ g4).up 1).up 1
    | bare g1 g2 g3 g4=>exact (hN _ _ g2 g3 g4).up 1
   | @cons _ k f _ t u ts h h1 h2 h3 h4 h5 h6=>
    have:=h3.1;exact (((ih i k ah).2.1 _ _ _ h5).up 1).app ah ah ((axB ah h2).app ah ah<|(Bl.ln (f - (k+1)) _ _ ah ah ah h3.2.1).app ah ah<|(ih f j ah).2.2 _ hj h6)
def bO.bal {l:List av} {p:aI} {i j:Nat} {t:aD} {h:Bool} (d:bO l p i j t h):Bl l 0 i j:=(axE l (j - i) i j<|dK _).2.1 p t h d
def Bl.inn {l:List av} {i j:Nat} (h:Bl l 0 i j):inn 0 (seg l i j)=true:=by
 have:=h 0 [];rw [Kv] at this;rw [this];rfl
def adP (l:List av) (hl:l.length<=3000):∀ (n i j:Nat),j - i<=n->(∀ p t,i < j->j<=l.length->cO l p i j t->6<=lv t.kind t.op->qd l i false)/\(∀ p t h,bO l p i j t h->h=true\/6<=lv t.kind t.op->qd l i false):=by
 intro n;induction n with
 | zero=>exact fun i j hn=>⟨fun p t hij=>ah,fun p t h d=>by have:=d.lt;omega⟩
 | succ n ih=>
  intro i j hn;have no:∀ k:Int,kd l i=k->k≠32->qd l i false:=fun k h hk=>axq l i (by rw [h];exact hk);have hN:∀ p t,i < j->j<=l.length->cO l p i j t->6<=lv t.kind t.op->qd l i false:=by
   intro p t hij hj d h6;cases d with
   | leaf k h1 h2=>exact no k h2 ah
   | name h1=>exact no 6 h1 aH
   | index h1=>exact no 6 h1 aH
   | jU k h1 h2=>exact no k h2 ah
   | call k h1 h2=>exact no k h2 ah
   | len h1=>exact no 8 h1 aH
   | field h1=>exact no 68 h1 aH
   | pre o h1 h2=>exact no o h2 ah
   | post o h1 h2 h3 h4 h5=>rcases GL h5 h3 with e|e<;>exact no _ e aH
   | unary o h1 h2=>exact no o h2 ah
   | @bin _ _ m f _ a b _ _ o h1 h2 h3 h4 h5 h6' h7 h8=>
    have xW:m+1<=f:=xV h6';refine (ih i m ah).2 _ _ _ h7 ?_;have h6:6<=bF o:=h6;cases h7 with
    | par=>exact .inl rfl
    | bare hf=>
     have hs:7<=(iY o).1:=by
      have ho:=NJ o;have:bF o=6\/bF o=7\/bF o=8\/bF o=9\/bF o=10\/bF o=11\/bF o=12:=ah;unfold iY;rcases this with e|e|e|e|e|e|e<;>rw [e]<;>decide
     exact .inr (by have:=qc hf rfl;have this:(iY o).1<=_:=this;omega)
   | @cat _ _ m _ a b _ _ h1 h2 h3 h4=>
    refine (ih i m ah).2 _ _ _ h3 ?_;cases h3 with
    | par=>exact .inl rfl
    | bare hf=>exact .inr (by have:=qc hf rfl;have this:(8:Int)<=_:=this;omega)
   | one=>exact absurd h6 (by show¬(6:Int)<=5;omega)
   | many=>exact absurd h6 (by show¬(6:Int)<=5;omega)
   | cond=>exact absurd h6 (by show¬(6:Int)<=2;omega)
   | assign=>exact absurd h6 (by show¬(6:Int)<=1;omega)
  refine ⟨hN,fun p t h d hh=>?_⟩;cases d with
  | @par _ _ j t h h1 h2 h3 h4 h5=>
   have hi:i < l.length:=ah;refine axo l hl i l[i] l[j] (seg l (i+1) j) ?_ (by rw [<- iQ hi];exact h1) (by rw [<- iQ h3,h5];rfl) h4.bal.inn;have:=alE (l:=l) (i:=i) (j:=j+1);rwa [uf (show i<=i+1 by omega) (show i+1<=j+1 by omega),uf (show i+1<=j by omega) (show j<=j+1 by omega),rY hi,rY h3] at this
  | bare h1 h2 h3 h4=>
   rcases hh with h|h
   .cases h
   .exact hN p t h2 h3 h4 h
def bO.cm {l:List av} (hl:l.length<=3000) {p:aI} {i j:Nat} {t:aD} {h:Bool} (d:bO l p i j t h) (hh:h=true\/6<=lv t.kind t.op):qd l i false:=(adP l hl (j - i) i j<|dK _).2 p t h d hh
def Oh {lv:Int} {q:aI} {k:Int} (h1:lv=1->oQ k=false) (h2:lv=2->k≠65) (h5:lv=5->k≠24) (h8:lv=8->lX k=false) (h12:lv=12->k≠60) (zG:lv=13->k≠51/\k≠52) (ho:bF k≠lv):cont lv q k=false:=by
 have f:∀ {a b:Int},a≠b->(a==b)=false:=fun h=>by simpa using h
 unfold cont;by_cases e1:lv=1
 .subst e1;exact h1 rfl
 by_cases e2:lv=2
 .subst e2;exact f (h2 rfl)
 by_cases e5:lv=5
 .subst e5;show (k==24&&!q.aV)=false;rw [f<|h5 rfl];rfl
 by_cases e8:lv=8
 .subst e8;exact h8 rfl
 by_cases e12:lv=12
 .subst e12;exact f (h12 rfl)
 by_cases e13:lv=13
 .subst e13;show (k==51||k==52)=false;rw [f (zG rfl).1,f (zG rfl).2];rfl
 rw [f e1,f e2,f e5,f e8,f e12,f e13,f ho];cases (lv==11)<;>cases (lv==14)<;>cases (lv==15)<;>simp
def GK {k:Int} (h:oQ k=true):(38<=k/\k<=43)\/k=54:=by
 unfold oQ wY at h;rw [Ak] at h;by_cases e:k=54
 .exact .inr e
 .have:(k==54)=false:=by simpa using e
  rw [this] at h;left;simpa using h
def EN {o:Int} (h:bF o≠0):o=44\/o=45\/o=67\/o=46\/o=63\/o=48\/o=47\/o=50\/o=62\/o=49\/o=99\/o=55\/o=56\/o=57\/o=58\/o=59\/o=60:=by
 apply Classical.byContradiction;intro hn;simp only [not_or] at hn;obtain ⟨a1,a2,a3,a4,a5,a6,a7,a8,a9,a10,a11,a12,a13,a14,a15,a16,a17⟩:=hn;apply h;have f:∀ {a b:Int},¬a=b->(a==b)=false:=fun h=>by simpa using h
 unfold bF zY Jo BA Jm Gg;simp only [f a1,f a2,f a3,f a4,f a5,f a6,f a7,f a8,f a9,f a10,f a11,f a12,f a13,f a14,f a15,f a16,f a17,aA,aeI]
def ZJ {k:Int} (h:lX k=true):k=3\/k=4\/k=6\/k=7\/k=8\/k=32\/k=68:=by
 unfold lX at h;simp only [iX,iG] at h;omega
def aaz {k:Int} (h:k=33\/k=35\/k=36\/k=66) (q:aI) (b:Int) (hb:1<=b):jw (bG q b) k:=by
 refine ⟨ah,fun lv hv=>?_⟩;have hv:b<=lv:=hv;rcases h with rfl|rfl|rfl|rfl<;>exact Oh (fun _=>rfl) (fun _=>aH) (fun _=>aH) (fun _=>rfl) (fun _=>aH) (fun _=>aH) (by show (0:Int)≠lv;omega)
def axK (q:aI) (b:Int) (hb:3<=b):jw (bG q b) 65:=by
 refine ⟨ah,fun lv hv=>?_⟩;have hv:b<=lv:=hv;exact Oh (fun _=>rfl) (fun _=>ah) (fun _=>aH) (fun _=>rfl) (fun _=>aH) (fun _=>aH) (by show (0:Int)≠lv;omega)
def axL (q:aI) (b:Int) (hb:6<=b):jw (bG q b) 24:=by
 refine ⟨ah,fun lv hv=>?_⟩;have hv:b<=lv:=hv;exact Oh (fun _=>rfl) (fun _=>ah) (fun _=>ah) (fun _=>rfl) (fun _=>aH) (fun _=>aH) (by show (0:Int)≠lv;omega)
def axM {k:Int} (h:k=51\/k=52) (q:aI) (b:Int) (hb:14<=b):jw (bG q b) k:=by
 refine ⟨ah,fun lv hv=>?_⟩;have hv:b<=lv:=hv;rcases h with rfl|rfl<;>exact Oh (fun _=>rfl) (fun _=>ah) (fun _=>ah) (fun _=>rfl) (fun _=>aH) (fun _=>ah) (by show (0:Int)≠lv;omega)
def axN {k:Int} (h:oQ k=true) (q:aI) (b:Int) (hb:2<=b):jw (bG q b) k:=by
 have hl:=GK h;refine ⟨ah,fun lv hv=>?_⟩;have hv:b<=lv:=hv;have h8:lX k=false:=by
  cases e:lX k with
  | false=>rfl
  | true=>have:=ZJ e;omega
 refine Oh (fun _=>ah) (fun _=>ah) (fun _=>ah) (fun _=>h8) (fun _=>ah) (fun _=>ah) ?_;intro e;have:=EN (o:=k) ah;omega
def aeJ {k:Int} (h:bF k≠0) (nO:k≠99) (q:aI) (b:Int) (hb:bF k < b):jw (bG q b) k:=by
 have hl:=EN h;refine ⟨ah,fun lv hv=>?_⟩;have hv:b<=lv:=hv;have h8:lX k=false:=by
  cases e:lX k with
  | false=>rfl
  | true=>have:=ZJ e;omega
 have h1:oQ k=false:=by
  cases e:oQ k with
  | false=>rfl
  | true=>have:=GK e;omega
 refine Oh (fun _=>h1) (fun _=>ah) (fun _=>ah) (fun _=>h8) (fun e=>?_) (fun _=>ah) ah;intro e60;subst e60;have:(12:Int) < b:=hb;omega
def axO {k:Int} (h:lX k=true) (q:aI) (b:Int) (hb:9<=b):jw (bG q b) k:=by
 have hl:=ZJ h;refine ⟨ah,fun lv hv=>?_⟩;have hv:b<=lv:=hv;have h1:oQ k=false:=by
  cases e:oQ k with
  | false=>rfl
  | true=>have:=GK e;omega
 refine Oh (fun _=>h1) (fun _=>ah) (fun _=>ah) (fun _=>ah) (fun e=>ah) (fun _=>ah) ?_;intro e;have:=EN (o:=k) ah;omega
def jw.to {q:aI} {a b:Int} {k:Int} (h:jw (bG q a) k) (hab:a<=b):jw (bG q b) k:=⟨h.1,fun lv hv=>h.2 lv (by have hv:b<=lv:=hv;show a<=lv;omega)⟩
def jw.eleven {q:aI} {k:Int} (h:jw (bG q 12) k):jw (bG q 11) k:=⟨h.1,fun lv hv=>by
 have hv:11<=lv:=hv;by_cases e:lv=11
 .subst e;rfl
 .exact h.2 lv (by show 12<=lv;omega)⟩
def alH {l:List av} {q:aI} {i j:Nat} {t:aD} {h:Bool} (hsz:aU t<=400):∀ (n:Nat) (b:Int),1<=b->b+n<=11->(6<=b+n->qd l i false)->Rd l (bG q<|b+n) i j t h->jw (bG q b) (kd l j)->Rd l (bG q b) i j t h
 | 0,b,_,_,_,hr,_=>by
  have:b+((0:Nat):Int)=b:=ah;rw [this] at hr;exact hr
 | n+1,b,h1,h2,hcm,hr,hn=>by
  have e:b+((n+1:Nat):Int)=(b+1)+(n:Int):=ah;rw [e] at hr hcm;exact alB b h1 ah hsz (alH hsz n (b+1) ah ah hcm hr<|hn.to ah) (hn.2 b<|Dt b) fun e5 _=>hcm ah
def desc {l:List av} {q:aI} {i j:Nat} {t:aD} {h:Bool} (hsz:aU t<=400) (a b:Int) (hb:1<=b) (hab:b<=a) (ha:a<=11) (hcm:6<=a->qd l i false) (hr:Rd l (bG q a) i j t h) (hn:jw (bG q b) (kd l j)):Rd l (bG q b) i j t h:=by
 have e:b+(((a - b).toNat:Nat):Int)=a:=ah;exact alH hsz (a - b).toNat b hb ah (by rw [e];exact hcm) (by rw [e];exact hr) hn
def aeK {l:List av} {q:aI} {i j:Nat} {t:aD} {h:Bool} (hsz:aU t<=400) (b:Int) (hb:1<=b) (hb2:b<=13) (hcm:qd l i false) (hk:kd l i≠55/\kd l i≠56/\kd l i≠61) (hr:Rd l (bG q 13) i j t h) (hn:jw (bG q b) (kd l j)):Rd l (bG q b) i j t h:=by
 have f:∀ {z:Int},kd l i≠z->(kd l i==z)=false:=fun h=>by simpa using h
 by_cases e13:b=13
 .subst e13;exact hr
 have c12:cont 12 q (kd l j)=false:=hn.2 12 (by show b<=12;omega);by_cases e12:b=12
 .subst e12;exact axu hr c12
 have fM:=axv hr c12 (by rw [f hk.1,f hk.2.1,f hk.2.2];rfl);exact desc hsz 11 b hb ah ah (fun _=>hcm) fM hn
def alI {l:List av} {q:aI} {i j:Nat} {t:aD} {h:Bool} (hsz:aU t<=400) (b:Int) (hb:1<=b) (hb2:b<=14) (hcm:qd l i false) (hk:kd l i≠55/\kd l i≠56/\kd l i≠61) (hk2:kd l i≠51/\kd l i≠52) (hr:Rd l (bG q 14) i j t h) (hn:jw (bG q b) (kd l j)):Rd l (bG q b) i j t h:=by
 have f:∀ {z:Int},kd l i≠z->(kd l i==z)=false:=fun h=>by simpa using h
 by_cases e14:b=14
 .subst e14;exact hr
 exact aeK hsz b hb ah hcm hk (axt hr (by rw [f hk2.1,f hk2.2];rfl)<|hn.2 13<|by show b<=13;omega) hn
def Oi {l:List av} {q:aI} {i j:Nat} {t:aD} {h:Bool} (hsz:aU t<=400) (b:Int) (hb:1<=b) (hb2:b<=15) (hcm:qd l i false) (hk:kd l i≠55/\kd l i≠56/\kd l i≠61) (hk2:kd l i≠51/\kd l i≠52) (hk3:kd l i≠68) (hr:Rd l (bG q 15) i j t h) (hn:jw (bG q b) (kd l j)):Rd l (bG q b) i j t h:=by
 by_cases e15:b=15
 .subst e15;exact hr
 exact alI hsz b hb ah hcm hk hk2 (axr hr hk3) hn
def Am (k o:Int) (x y:List UInt8) (t:aD):aU ⟨k,o,x,y,[t]⟩=aU t+1:=by simp only [aU,bq]
def Hl (k o:Int) (x y:List UInt8) (t u:aD):aU ⟨k,o,x,y,[t,u]⟩=aU t+aU u+1:=by simp only [aU,bq];omega
def alJ (k o:Int) (x y:List UInt8) (t u v:aD):aU ⟨k,o,x,y,[t,u,v]⟩=aU t+aU u+aU v+1:=by simp only [aU,bq];omega
structure Oj (l:List av) (n:Nat):Prop where
 N:∀ i j,j - i<=n->∀ p t,i < j->j<=l.length->cO l p i j t->aU t<=400->∀ q,(t.kind<=9\/(q.aV=p.aV/\q.aW=p.aW))->(t.kind=13->q.aV=false)->(t.kind=12->t.op=62->q.aW=false)->∀ b,1<=b->b<=lv t.kind t.op->jw (bG q b) (kd l j)->Rd l (bG q b) i j t false
 D:∀ i j,j - i<=n->∀ p t h,bO l p i j t h->aU t<=400->∀ q,q.aV=p.aV->q.aW=p.aW->∀ b,1<=b->b<=15->(h=true\/b<=lv t.kind t.op)->jw (bG q b) (kd l j)->Rd l (bG q b) i j t h
 C:∀ i j,j - i<=n->∀ p t h,bO l p i j t h->aU t<=400->∀ q,q.aV=p.aV->q.aW=p.aW->∀ v sd,Dz v 3000 sd->(h=true\/v<=lv t.kind t.op)->jw (bG q<|v+1) (kd l j)->∃ c,c < j - i/\Ch l v 3000 sd (bG q v) i j t h c
 I:∀ i j,j - i<=n->∀ p t h,bO l p i j t h->aU t<=400->∀ q,q.aV=p.aV->q.aW=p.aW->q.aV=false->(h=true\/5<=lv t.kind t.op)->jw (bG q 6) (kd l j)->∃ c,c < j - i/\Au l (bG q 5) i j t h c
 L:∀ i j,j - i<=n->∀ ts en,lg l i j ts->kd l j=en->(en=33\/en=35)->j < l.length->bq ts<=400->KE l en i (j+1) ts
def alK {l:List av} {i j:Nat} {ts:List aD} (d:lg l i j ts):Wd (kd l i)=true:=by
 cases d with
 | one h1 h2=>exact h2.first.o
 | cons h1 h2 h3 h4 h5 h6=>exact h5.first.o
def aeL {o:Int} (h:bF o=3\/bF o=4\/bF o=9\/bF o=10):Dz (bF o) 3000 (iY o)/\(iY o).1=bF o:=by
 unfold iY;rcases h with e|e|e|e<;>rw [e]
 .exact ⟨.inl ⟨rfl,rfl,rfl⟩,rfl⟩
 .exact ⟨.inr<|.inl ⟨rfl,rfl,rfl⟩,rfl⟩
 .exact ⟨.inr<|.inr<|.inr<|.inr<|.inr<|.inl ⟨rfl,rfl,rfl⟩,rfl⟩
 .exact ⟨.inr<|.inr<|.inr<|.inr<|.inr<|.inr ⟨rfl,rfl,rfl⟩,rfl⟩
def axP {o:Int} (h:bF o=6\/bF o=7):Dz (bF o) 1 (iY o)/\(iY o).1=bF o+1/\(iY o).2=bF o+1:=by
 unfold iY;rcases h with e|e<;>rw [e]
 .exact ⟨.inr<|.inr<|.inl ⟨rfl,rfl,rfl⟩,rfl,rfl⟩
 .exact ⟨.inr<|.inr<|.inr<|.inl ⟨rfl,rfl,rfl⟩,rfl,rfl⟩
def aeM {o:Int} (h:bF o≠0) (nO:o≠99):bF o=3\/bF o=4\/bF o=6\/bF o=7\/bF o=9\/bF o=10\/(bF o=12/\o=60):=by
 rcases EN h with e|e|e|e|e|e|e|e|e|e|e|e|e|e|e|e|e<;>subst e<;>first|(exact absurd rfl nO)|decide
def alL {o:Int} (h:bF o≠0) (nO:o≠99) (q:aI) (hg:o=62->q.aW=false) (h12:o≠60):cont (bF o) q o=true:=by
 rcases EN h with e|e|e|e|e|e|e|e|e|e|e|e|e|e|e|e|e<;>subst e<;>first|rfl|(exact absurd rfl nO)|(exact absurd rfl h12)|(unfold cont;rw [hg rfl];rfl)
section
variable (l:List av) (hl:l.length<=3000)
include hl
theorem alM {n:Nat} (ih:Oj l n) {p:aI} {i m f j:Nat} {a b:aD} {h1 h2:Bool} (o:Int) (hn:j - i<=n+1) (ho:bF o=3\/bF o=4\/bF o=9\/bF o=10) (nO:o≠99) (hk:kd l m=o) (him:i < m) (hfj:f < j) (hln:(bF o=3\/bF o=4)/\Ln l (m+1) f\/ ¬(bF o=3\/bF o=4)/\f=m+1)
  (da:bO l ⟨(iY o).1,false,p.aV,p.aW,p.eZ⟩ i m a h1) (db:bO l ⟨(iY o).2,false,p.aV,p.aW,false⟩ f j b h2) (hz:aU a+aU b<=400) (q:aI) (q1:q.aV=p.aV) (q2:q.aW=p.aW) (hf:jw (bG q<|bF o+1) (kd l j)):
  ∃ c,c < j - i/\Ch l (bF o) 3000 (iY o) (bG q<|bF o) i j ⟨12,o,[],[],[a,b]⟩ false c:=by
 obtain ⟨hch,hs⟩:=aeL ho;have hlb:=db.lt;have xW:m+1<=f:=xV hln;have hb:=Wy hch;have hml:m < l.length:=ah;obtain ⟨c,hc,hA⟩:=ih.C i m ah _ a h1 da ah q q1 q2 (bF o) (iY o) hch (by
  cases da with
  | par=>exact .inl rfl
  | bare hfit=>
   have:=qc hfit rfl;have this:(iY o).1<=_:=this;exact .inr ah) (by rw [hk];exact aeJ ah nO q _ ah)
 have hB:=ih.D f j ah _ b h2 db ah q q1 q2 (iY o).2 ah ah (by
  cases db with
  | par=>exact .inl rfl
  | bare hfit=>exact .inr<|qc hfit rfl) (hf.to ah)
 have axQ:o≠60:=by
  intro e;rw [e] at ho;have:bF 60=12:=rfl;omega
 have axR:o≠62:=by
  intro e;rw [e] at ho;have:bF 62=7:=rfl;omega
 refine ⟨c+1,ah,?_⟩;exact aeE hl hch hA ah ah (by rw [hk];exact alL ah nO (bG q<|bF o) (fun e=>absurd e axR) axQ) (m+1) f o (.inr ⟨by
  intro e;rw [e] at ho;omega,rfl,hk.symm,hml⟩) ah hln ah ah hB
theorem alN {n:Nat} (ih:Oj l n) {p:aI} {i m j:Nat} {a b:aD} {h1 h2:Bool} (hn:j - i<=n+1) (him:i < m) (hfj:m < j)
  (da:bO l ⟨8,false,p.aV,p.aW,p.eZ⟩ i m a h1) (db:bO l ⟨9,false,p.aV,p.aW,true⟩ m j b h2) (hz:aU a+aU b<=400) (q:aI) (q1:q.aV=p.aV) (q2:q.aW=p.aW) (hf:jw (bG q 9) (kd l j)):
  ∃ c,c < j - i/\Ch l 8 3000 (8,9) (bG q 8) i j ⟨12,99,[],[],[a,b]⟩ false c:=by
 have hch:Dz 8 3000 (8,9):=.inr (.inr<|.inr<|.inr<|.inl ⟨rfl,rfl,rfl⟩);have hlb:=db.lt;have hbg:lX (kd l m)=true:=db.first.s rfl
 obtain ⟨c,hc,hA⟩:=ih.C i m ah _ a h1 da ah q q1 q2 8 (8,9) hch (by
  cases da with
  | par=>exact .inl rfl
  | bare hfit=>exact .inr<|qc hfit rfl) (axO hbg q _ ah)
 have hB:=ih.D m j ah _ b h2 db ah q q1 q2 9 ah ah (by
  cases db with
  | par=>exact .inl rfl
  | bare hfit=>exact .inr<|qc hfit rfl) hf
 refine ⟨c+1,ah,?_⟩;exact aeE hl hch hA ah ah hbg m m 99 (.inl ⟨rfl,rfl,rfl⟩) ah (.inr ⟨ah,rfl⟩) ah ah hB
theorem alO {n:Nat} (ih:Oj l n) {p:aI} {i m:Nat} {t:aD} {h:Bool} (hn:m+2 - i<=n+1) (him:i < m) (k1:kd l m=24) (k2:kd l (m+1)=6) (d:bO l ⟨5,false,p.aV,p.aW,p.eZ⟩ i m t h) (hz:aU t<=400) (q:aI) (q1:q.aV=p.aV) (q2:q.aW=p.aW) (hq:q.aV=false):
  ∃ c,c < m+2 - i/\Au l (bG q 5) i (m+2) ⟨13,0,jE l<|m+1,[],[t]⟩ false c:=by
 have hm1:m+1 < l.length:=aah k2 aH;obtain ⟨c,hc,hA⟩:=ih.I i m ah _ t h d hz q q1 q2 hq (by
  cases d with
  | par=>exact .inl rfl
  | bare hfit=>exact .inr<|qc hfit rfl) (by rw [k1];exact axL q 6 ah)
 rw [uM hm1];exact ⟨c+1,ah,axn l hl (bG q 5) hq hA ah hm1 k1 k2 ah⟩
theorem alP {n:Nat} (ih:Oj l n) {i m:Nat} {ts:List aD} (hn:m+3 - i<=n+1) (k1:kd l i=32) (him:i+1 < m) (k2:kd l m=33) (k3:kd l (m+1)=24) (k4:kd l (m+2)=6) (h2:2<=ts.length) (h6:ts.length<=6) (d:lg l (i+1) m ts) (hz:bq ts<=400) (q:aI) (hq:q.aV=false):Au l (bG q 5) i (m+3) ⟨13,0,jE l<|m+2,[],ts⟩ false 0:=by
 have hm2:m+2 < l.length:=aah k4 aH;have hls:=ih.L (i+1) m ah ts 33 d k2 (.inl rfl) ah hz;have hcm:qd l i true:=by
  have hi:i < l.length:=ah;cases d with
  | one=>simp at h2
  | @cons _ k f _ t u ts h g1 g2 g3 g4 g5 g6=>
   have hk:=aah g2 aH;refine axp l hl i l[i] l[k] (seg l (i+1) k) ?_ (by rw [<- iQ hi];exact k1) (by rw [<- iQ hk];exact g2) g5.bal.inn;have:=alE (l:=l) (i:=i) (j:=k+1);rwa [uf (show i<=i+1 by omega) (show i+1<=k+1 by omega),uf (show i+1<=k by omega) (show k<=k+1 by omega),rY hi,rY hk] at this
 have hne:kd l (i+1)≠33:=fun e=>by
  have:=alK d;rw [e] at this;cases this
 rw [uM hm2];exact axl l hl (bG q 5) hq (k:=m+1) ts hcm k1 ah hls h6 hne ah hm2 k3 k4 ah
end
def Km {t:aD} (h:dL t.kind=true):14<=lv t.kind t.op/\t.kind<=9:=by
 have hk:t.kind=1\/t.kind=5\/t.kind=6:=by
  unfold dL at h;simp only [iX,iG] at h;exact h
 obtain ⟨k,o,x,y,ks⟩:=t;rcases hk with e|e|e<;>(have e:k=_:=e;subst e)
 .exact ⟨(by omega:(14:Int)<=15),(by omega:(1:Int)<=9)⟩
 .exact ⟨(by omega:(14:Int)<=15),(by omega:(5:Int)<=9)⟩
 .exact ⟨(by omega:(14:Int)<=14),(by omega:(6:Int)<=9)⟩
section
variable (l:List av) (hl:l.length<=3000)
include hl
omit hl in
theorem VW {n:Nat} (ih:Oj l n) {i j:Nat} {t:aD} (hn:j - i<=n) (hij:i < j) (hj:j<=l.length) (d:cO l rX i j t) (hL:dL t.kind=true) (hz:aU t<=400) (q:aI) (b:Int) (hb:1<=b) (hb2:b<=14) (hf:jw (bG q b) (kd l j)):Rd l (bG q b) i j t false:=by
 obtain ⟨h1,h2⟩:=Km hL;exact ih.N i j hn rX t hij hj d hz q (.inl h2) (fun e=>ah) (fun e=>ah) b hb ah hf
set_option maxHeartbeats 4000000 in
theorem axS {n:Nat} (ih:Oj l n) {i j:Nat} (hn:j - i<=n+1) {p:aI} {t:aD} (hij:i < j) (hj:j<=l.length) (d:cO l p i j t) (hz:aU t<=400) (q:aI) (hq:t.kind<=9\/(q.aV=p.aV/\q.aW=p.aW)) (hin:t.kind=13->q.aV=false) (hgt:t.kind=12->t.op=62->q.aW=false) (b:Int) (hb:1<=b) (hbl:b<=lv t.kind t.op) (hf:jw (bG q b) (kd l j)):Rd l (bG q b) i j t false:=by
 have fs:=d.first hij
 have cm:6<=lv t.kind t.op->qd l i false:=fun h=>(adP l hl (j - i) i j<|dK _).1 p t hij hj d h;have f:∀ {a b:Int},a≠b->(a==b)=false:=fun h=>by simpa using h
 cases d with
 | leaf k h1 h2=>
  have hv:lv (k - 1) 0=15:=by rcases h1 with rfl|rfl|rfl<;>rfl
  have hbl:b<=lv (k - 1) 0:=hbl;have fa:=fs.a (by show 12<=lv (k - 1) 0;omega);have fb:=fs.b (by show 14<=lv (k - 1) 0;omega);have fc:=fs.c (by show 15<=lv (k - 1) 0;omega);have cm:=cm (by show 6<=lv (k - 1) 0;omega);refine Oi hz b hb ah cm fa fb fc ?_ hf;rw [uM ah];exact axc l hl (bG q 15) rfl k h1 h2 ah
 | name h1=>
  have fa:=fs.a (by show (12:Int)<=15;omega);have fb:=fs.b (by show (14:Int)<=15;omega);have fc:=fs.c (by show (15:Int)<=15;omega);have cm:=cm (by show (6:Int)<=15;omega);refine Oi hz b hb hbl cm fa fb fc ?_ hf;rw [uM ah];exact axd l hl (bG q 15) rfl h1 ah hf.1
 | @index _ _ j ts h1 h2 h3 h4 h5 h6 h7=>
  have fa:=fs.a (by show (12:Int)<=15;omega);have fb:=fs.b (by show (14:Int)<=15;omega);have fc:=fs.c (by show (15:Int)<=15;omega);have cm:=cm (by show (6:Int)<=15;omega);have hz':bq ts<=400:=by simp only [aU] at hz;omega
  refine Oi hz b hb hbl cm fa fb fc ?_ hf;rw [uM ah];exact axi l hl (bG q 15) rfl ts h1 h2 ah (ih.L (i+2) j ah ts 35 h7 h5 (.inr rfl) h4 hz') h6 ah
 | jU k h1 h2 h3 h4=>
  have hv:lv k 0=15:=by rcases h1 with rfl|rfl<;>rfl
  have hbl:b<=lv k 0:=hbl;have fa:=fs.a (by show 12<=lv k 0;omega);have fb:=fs.b (by show 14<=lv k 0;omega);have fc:=fs.c (by show 15<=lv k 0;omega);have cm:=cm (by show 6<=lv k 0;omega);refine Oi hz b hb ah cm fa fb fc ?_ hf;rw [uM ah];exact aly l hl (bG q 15) rfl k h1 [] h2 h3 ah (.inl ⟨rfl,h4,rfl⟩) aF (by simp [bq])
 | @call _ _ j ts k h1 h2 h3 h4 h5 h6 h7 h8=>
  have hv:lv k 0=15:=by rcases h1 with rfl|rfl<;>rfl
  have hbl:b<=lv k 0:=hbl;have fa:=fs.a (by show 12<=lv k 0;omega);have fb:=fs.b (by show 14<=lv k 0;omega);have fc:=fs.c (by show 15<=lv k 0;omega);have cm:=cm (by show 6<=lv k 0;omega);have hz':bq ts<=400:=by simp only [aU] at hz;omega
  have gZ:kd l (i+2)≠33:=fun e=>by
   have:=alK h8;rw [e] at this;cases this
  refine Oi hz b hb ah cm fa fb fc ?_ hf;rw [uM ah];exact aly l hl (bG q 15) rfl k h1 ts h2 h3 ah (.inr ⟨gZ,ih.L (i+2) j ah ts 33 h8 h6 (.inl rfl) h5 hz'⟩) h7 ah
 | len h1 h2 h3=>
  have fa:=fs.a (by show (12:Int)<=15;omega);have fb:=fs.b (by show (14:Int)<=15;omega);have fc:=fs.c (by show (15:Int)<=15;omega);have cm:=cm (by show (6:Int)<=15;omega);refine Oi hz b hb hbl cm fa fb fc ?_ hf;rw [uM ah];exact axj l hl (bG q 15) rfl h1 ah h2 (by rw [<- uM ah];exact h3)
 | @field _ _ _ u h h1 h2 h3=>
  have fa:=fs.a (by show (12:Int)<=14;omega);have fb:=fs.b (by show (14:Int)<=14;omega);have cm:=cm (by show (6:Int)<=14;omega);rw [Am] at hz;refine alI (by rw [Am];omega) b hb hbl cm fa fb ?_ hf;have aeN:jw (bG q 14) (kd l j):=hf.to hbl;have fsu:=h3.first
  by_cases hh:h=true\/14<=lv u.kind u.op
  .have hb1:=fsu.b hh;refine axa l hl (bG q 14) rfl h1 ah (by rw [f hb1.1,f hb1.2];rfl) (h1:=h) ?_ ah;cases h3 with
   | @par _ _ jj _ h' g1 g2 g3 g4 g5=>
    exact ih.D (i+1) (jj+1) ah ⟨14,true,q.aV,q.aW,false⟩ u true (.par g1 g2 g3 g4 g5) ah q rfl rfl 14 ah ah (.inl rfl) aeN
   | bare g1 g2 g3 g4=>
    have hlv:14<=lv u.kind u.op:=by
     rcases hh with hh|hh
     .cases hh
     .exact hh
    have hk:iP u.kind=true->u.kind<=9:=fun he=>by
     have hs:alg ⟨14,true,false,false,false⟩ ⟨14,true,false,false,false⟩:=⟨rfl,rfl,rfl,rfl⟩
     exact (awm he hs).2 g1
    have zC:u.kind<=9:=by
     cases g4 with
     | leaf k e1=>show k - 1<=9;omega
     | name=>show (1:Int)<=9;omega
     | index=>show (5:Int)<=9;omega
     | len=>show (8:Int)<=9;omega
     | field=>show (6:Int)<=9;omega
     | pre=>show (9:Int)<=9;omega
     | jU k e1|call k e1=>show k<=9;omega
     | post=>exact absurd hlv (by show¬(14:Int)<=13;omega)
     | unary=>exact absurd hlv (by show¬(14:Int)<=11;omega)
     | one|many=>exact absurd hlv (by show¬(14:Int)<=5;omega)
     | cond=>exact absurd hlv (by show¬(14:Int)<=2;omega)
     | assign=>exact absurd hlv (by show¬(14:Int)<=1;omega)
     | bin o=>exact absurd hlv (by show¬(14:Int)<=bF o;have:=NJ o;omega)
     | cat=>exact absurd hlv (by show¬(14:Int)<=8;decide)
    exact ih.N (i+1) j ah _ u g2 g3 g4 ah q (.inl zC) (fun e=>ah) (fun e=>ah) 14 ah hlv aeN
  .cases h3 with
   | par=>exact absurd (.inl rfl) hh
   | bare g1 g2 g3 g4=>
    have hnl: ¬14<=lv u.kind u.op:=fun e=>hh (.inr e);have hp:u.kind=9:=by
     unfold fK at g1;simp only [dA,iX,iF,jS,iG] at g1;rcases g1.2.2.2.2 with e|e
     .exact e
     .exact absurd e hnl
    cases g4 with
    | @pre _ _ _ u o e1 e2 e3 e4 e5=>
     have hi2:i+1 < l.length:=ah;have hlf:=GL e5 e3;rw [Am] at hz;have r:=VW l ih (i:=i+1+1) ah e4 g3 e5 e3 ah q 14 ah ah aeN;have:=axb l hl (bG q 14) rfl h1 hi2 (by rw [e2];rcases e1 with rfl|rfl<;>rfl) (by rcases hlf with e|e<;>rw [e]<;>rfl) r ah;rw [e2] at this;exact this
    | leaf k e1=>have hp:k - 1=9:=hp;omega
    | jU k e1|call k e1=>have hp:k=9:=hp;omega
    | name=>have hp:(1:Int)=9:=hp;omega
    | index=>have hp:(5:Int)=9:=hp;omega
    | len=>have hp:(8:Int)=9:=hp;omega
    | field=>have hp:(6:Int)=9:=hp;omega
    | post=>have hp:(10:Int)=9:=hp;omega
    | unary=>have hp:(11:Int)=9:=hp;omega
    | bin|cat=>have hp:(12:Int)=9:=hp;omega
    | one|many=>have hp:(13:Int)=9:=hp;omega
    | cond=>have hp:(14:Int)=9:=hp;omega
    | assign=>have hp:(15:Int)=9:=hp;omega
 | @pre _ _ _ u o h1 h2 h3 h4 h5=>
  have fa:=fs.a (by show (12:Int)<=13;omega);have cm:=cm (by show (6:Int)<=13;omega);rw [Am] at hz;refine aeK (by rw [Am];omega) b hb hbl cm fa ?_ hf;have hlf:=GL h5 h3;have r:=VW l ih (i:=i+1) ah h4 hj h5 h3 ah q 14 ah ah (hf.to (by have:b<=13:=hbl;omega));have:=awY l hl (bG q 13) rfl (i:=i) (by rw [h2];rcases h1 with rfl|rfl<;>rfl) ah (by rcases hlf with e|e<;>rw [e]<;>rfl) r ah;rw [h2] at this;exact this
 | @post _ _ j u o h1 h2 h3 h4 h5=>
  have fa:=fs.a (by show (12:Int)<=13;omega);have cm:=cm (by show (6:Int)<=13;omega);rw [Am] at hz;refine aeK (by rw [Am];omega) b hb hbl cm fa ?_ hf;have hlf:=GL h5 h3;have r:=VW l ih (i:=i) (j:=j) ah h4 ah h5 h3 ah q 14 ah ah (by rw [h2];exact axM h1 q 14 ah);have:=awZ l hl (bG q 13) rfl r h3 (by rcases hlf with e|e<;>rw [e]<;>rfl) (by rw [h2];rcases h1 with rfl|rfl<;>rfl) ah ah ah;rw [h2] at this;exact this
 | @unary _ _ _ u h o h1 h2 h3 h4=>
  have cm:=cm (by show (6:Int)<=11;omega);have hbl:b<=11:=hbl;rw [Am] at hz;have kT:q.aV=p.aV/\q.aW=p.aW:=by
   rcases hq with e|e
   .exact absurd e (by show¬(11:Int)<=9;omega)
   .exact e
  refine desc (by rw [Am];omega) 11 b hb hbl ah (fun _=>cm) ?_ hf;have r:=ih.D (i+1) j ah _ u h h4 ah q kT.1 kT.2 11 ah ah (by
   cases h4 with
   | par=>exact .inl rfl
   | bare hfit=>exact .inr<|qc hfit rfl) (hf.to hbl)
  have:=awT l hl (bG q 11) rfl (i:=i) (by rw [h2];rcases h1 with rfl|rfl|rfl<;>rfl) ah r ah;rw [h2] at this;exact this
 | @bin _ _ m ff _ a c g1 g2 o h1 h2 h3 h4 h5 h6 h7 h8=>
  have kT:q.aV=p.aV/\q.aW=p.aW:=by
   rcases hq with e|e
   .exact absurd e (by show¬(12:Int)<=9;omega)
   .exact e
  have hg:o=62->q.aW=false:=fun e=>hgt rfl e;rw [Hl] at hz;have hbl:b<=bF o:=hbl;have hlc:=h8.lt;have xW:m+1<=ff:=xV h6;rcases aeM h1 h2 with e|e|e|e|e|e|⟨e,e60⟩
  case inr.inr.inl|inr.inr.inr.inl=>
   obtain ⟨hch,s1,s2⟩:=axP (o:=o) ah;have hA:=ih.D i m ah _ a g1 h7 ah q kT.1 kT.2 (bF o+1) ah ah (by
    cases h7 with
    | par=>exact .inl rfl
    | bare hfit=>exact .inr (by have:=qc hfit rfl;have this:(iY o).1<=_:=this;omega)) (by rw [h3];exact aeJ h1 h2 q _ ah)
   have hB:=ih.D ff j ah _ c g2 h8 ah q kT.1 kT.2 (iY o).2 ah ah (by
    cases h8 with
    | par=>exact .inl rfl
    | bare hfit=>exact .inr (by have:=qc hfit rfl;have this:(iY o).2<=_:=this;omega)) (hf.to ah)
   have hst:=aeE hl hch (q:=bG q (bF o)) (c:=0) (Ch.first hch hA) ah ah (by rw [h3];exact alL h1 h2 (bG q<|bF o) hg (by intro e0;subst e0;have:(12:Int)=_:=e;omega)) (m+1) ff o (.inr ⟨ah,rfl,h3.symm,ah⟩) ah (.inr (by
    rcases h6 with ⟨h6,_⟩|h6
    .omega
    .exact h6)) ah ah hB
   have hd:=Ch.done hch (q:=bG q (bF o)) (c:=1) rfl hst aH (.inr ⟨rfl,aH⟩);exact desc (by rw [Hl];omega) (bF o) b hb hbl ah (fun _=>cm<|by show 6<=bF o;omega) hd hf
  case inr.inr.inr.inr.inr.inr=>
   subst e60;have hbl:b<=12:=hbl;have fa:=fs.a (by show (12:Int)<=12;omega);have hcm:=cm (by show (6:Int)<=12;omega);have hA:=ih.D i m ah _ a g1 h7 ah q kT.1 kT.2 13 ah ah (by
    cases h7 with
    | par=>exact .inl rfl
    | bare hfit=>exact .inr<|qc hfit rfl) (by rw [h3];exact aeJ h1 h2 q _<|by show (12:Int) < 13;omega)
   have hff:ff=m+1:=by
    rcases h6 with ⟨h6,_⟩|h6
    .omega
    .exact h6.2
   subst hff;have axV:jw (bG q 12) (kd l j):=hf.to hbl;have hB:=ih.D (m+1) j ah _ c g2 h8 ah q kT.1 kT.2 11 ah ah (by
    cases h8 with
    | par=>exact .inl rfl
    | bare hfit=>exact .inr<|qc hfit rfl) axV.eleven
   by_cases e12:b=12
   .subst e12;exact alv l hl (bG q 12) rfl hA h3 ah ah hB ah
   .have fM:=awV l hl (bG q 11) rfl (by rw [f fa.1,f fa.2.1,f fa.2.2];rfl) hA h3 ah ah hB ah;exact desc (by rw [Hl];omega) 11 b hb ah ah (fun _=>hcm) fM hf
  all_goals
   obtain ⟨cc,hc,hch⟩:=alM l hl ih o hn ah h2 h3 h4 h5 h6 h7 h8 ah q kT.1 kT.2 (hf.to ah);have hd:=Ch.done (aeL (o:=o) ah).1 (q:=bG q (bF o)) rfl hch ah (.inl<|hf.2 (bF o) hbl);exact desc (by rw [Hl];omega) (bF o) b hb hbl ah (fun h=>cm<|by show 6<=bF o;omega) hd hf
 | @cat _ _ m _ a c g1 g2 h1 h2 h3 h4=>
  have kT:q.aV=p.aV/\q.aW=p.aW:=by
   rcases hq with e|e
   .exact absurd e (by show¬(12:Int)<=9;omega)
   .exact e
  rw [Hl] at hz;have hbl:b<=8:=hbl;have hcm:=cm (by show (6:Int)<=8;omega);obtain ⟨cc,hc,hch⟩:=alN l hl ih hn h1 h2 h3 h4 ah q kT.1 kT.2 (hf.to ah);have hd:=Ch.done (.inr<|.inr<|.inr<|.inr<|.inl ⟨rfl,rfl,rfl⟩) (q:=bG q 8) rfl hch ah (.inl<|hf.2 8 hbl);exact desc (by rw [Hl];omega) 8 b hb hbl ah (fun h=>hcm) hd hf
 | @one _ _ m u h h1 h2 h3 h4=>
  have kT:q.aV=p.aV/\q.aW=p.aW:=by
   rcases hq with e|e
   .exact absurd e (by show¬(13:Int)<=9;omega)
   .exact e
  rw [Am] at hz;have hbl:b<=5:=hbl;obtain ⟨cc,hc,hch⟩:=alO l hl ih hn h1 h2 h3 h4 ah q kT.1 kT.2 (hin rfl);have hd:=Au.done l (bG q 5) rfl hch ah (hf.2 5 hbl);exact desc (by rw [Am];omega) 5 b hb hbl ah (fun h=>absurd h ah) hd hf
 | @many _ _ m ts h1 h2 h3 h4 h5 h6 h7 h8=>
  have hbl:b<=5:=hbl;have hz':bq ts<=400:=by simp only [aU] at hz;omega
  have hch:=alP l hl ih hn h1 h2 h3 h4 h5 h6 h7 h8 hz' q (hin rfl);have hd:=Au.done l (bG q 5) rfl hch ah (hf.2 5 hbl);exact desc hz 5 b hb hbl ah (fun h=>absurd h ah) hd hf
 | @cond _ _ m n2 _ a c e g1 g2 g3 h1 h2 h3 h4 h5 h6 h7 h8=>
  have kT:q.aV=p.aV/\q.aW=p.aW:=by
   rcases hq with e|e
   .exact absurd e (by show¬(14:Int)<=9;omega)
   .exact e
  rw [alJ] at hz;have hbl:b<=2:=hbl;have hA:=ih.D i m ah _ a g1 h6 ah q kT.1 kT.2 3 ah ah (by
   cases h6 with
   | par=>exact .inl rfl
   | bare hfit=>exact .inr<|qc hfit rfl) (by rw [h2];exact axK q 3 ah)
  have hB:=ih.D (m+1) n2 ah _ c g2 h7 ah q kT.1 kT.2 2 ah ah (by
   cases h7 with
   | par=>exact .inl rfl
   | bare hfit=>exact .inr<|qc hfit rfl) (by rw [h4];exact aaz ah q 2 ah)
  have hC:=ih.D (n2+1) j ah _ e g3 h8 ah q kT.1 kT.2 2 ah ah (by
   cases h8 with
   | par=>exact .inl rfl
   | bare hfit=>exact .inr<|qc hfit rfl) (hf.to hbl)
  have hd:=awQ l hl (bG q 2) rfl hA h2 ah ah hB h4 ah ah hC ah;exact desc (by rw [alJ];omega) 2 b hb hbl ah (fun h=>absurd h ah) hd hf
 | @assign _ _ m _ a c g o h1 h2 h3 h4 h5 h6 h7=>
  have kT:q.aV=p.aV/\q.aW=p.aW:=by
   rcases hq with e|e
   .exact absurd e (by show¬(15:Int)<=9;omega)
   .exact e
  rw [Hl] at hz;have hbl:b<=1:=hbl;have e1:b=1:=ah;subst e1;have hA:=VW l ih (i:=i) (j:=m) ah h3 ah h6 h5 ah q 2 ah ah (by rw [h2];exact axN h1 q 2 ah);have hB:=ih.D (m+1) j ah _ c g h7 ah q kT.1 kT.2 1 ah ah (by
   cases h7 with
   | par=>exact .inl rfl
   | bare hfit=>exact .inr<|qc hfit rfl) hf
  have:=awP l hl (bG q 1) rfl hA h5 (by rw [h2];exact h1) ah ah hB ah;rw [h2] at this;exact this
end
section
variable (l:List av) (hl:l.length<=3000)
include hl
theorem ajn:∀ n,Oj l n:=by
 intro n;induction n with
 | zero=>
  refine ⟨fun i j hn p t hij=>ah,fun i j hn p t h d=>by have:=d.lt;omega,fun i j hn p t h d=>by have:=d.lt;omega,fun i j hn p t h d=>by have:=d.lt;omega,fun i j hn ts en d=>?_⟩;cases d with
  | one h1=>omega
  | cons h1 h2 h3 h4=>have:=h3.1;omega
 | succ n ih=>
  have hN:∀ i j,j - i<=n+1->∀ p t,i < j->j<=l.length->cO l p i j t->aU t<=400->∀ q,(t.kind<=9\/(q.aV=p.aV/\q.aW=p.aW))->(t.kind=13->q.aV=false)->(t.kind=12->t.op=62->q.aW=false)->∀ b,1<=b->b<=lv t.kind t.op->jw (bG q b) (kd l j)->Rd l (bG q b) i j t false:=
   fun i j hn p t hij hj d hz q hq hin hgt b hb hbl hf=>axS l hl ih hn hij hj d hz q hq hin hgt b hb hbl hf
  have hD:∀ i j,j - i<=n+1->∀ p t h,bO l p i j t h->aU t<=400->∀ q,q.aV=p.aV->q.aW=p.aW->∀ b,1<=b->b<=15->(h=true\/b<=lv t.kind t.op)->jw (bG q b) (kd l j)->Rd l (bG q b) i j t h:=by
   intro i j hn p t h d hz q q1 q2 b hb hb2 hh hf;have dd:=d;cases d with
   | @par _ _ j _ h' h1 h2 h3 h4 h5=>
    have hin:=ih.D (i+1) j ah oV t h' h4 hz oV rfl rfl 1 ah ah (by
     cases h4 with
     | par=>exact .inl rfl
     | bare hfit=>exact .inr<|qc hfit rfl) (by rw [h5];exact aaz ah oV 1 ah)
    have r:=awW l hl (bG q 15) rfl h1 ah hin h5 h3;exact Oi hz b hb hb2 (dd.cm hl<|.inl rfl) (by rw [h1];decide) (by rw [h1];decide) (by rw [h1];decide) r hf
   | bare h1 h2 h3 h4=>
    have hbl:b<=lv t.kind t.op:=by
     rcases hh with e|e
     .cases e
     .exact e
    exact hN i j hn p t h2 h3 h4 hz q (.inr ⟨q1,q2⟩) (fun e=>by rw [q1];exact ajB h1 e) (fun e e'=>by rw [q2];exact ajC h1 e e') b hb hbl hf
  have hC:∀ i j,j - i<=n+1->∀ p t h,bO l p i j t h->aU t<=400->∀ q,q.aV=p.aV->q.aW=p.aW->∀ v sd,Dz v 3000 sd->(h=true\/v<=lv t.kind t.op)->jw (bG q<|v+1) (kd l j)->∃ c,c < j - i/\Ch l v 3000 sd (bG q v) i j t h c:=by
   intro i j hn p t h d hz q q1 q2 v sd hch hh hf;have hv:=Wy hch;have hlt:=d.lt;by_cases hx:h=true\/v+1<=lv t.kind t.op
   .exact ⟨0,ah,Ch.first hch (q:=bG q v)<|hD i j hn p t h d hz q q1 q2 (v+1) ah ah hx hf⟩
   .have hv3:v=3\/v=4\/v=8\/v=9\/v=10:=by
     rcases hch with ⟨e,_⟩|⟨e,_⟩|⟨_,e,_⟩|⟨_,e,_⟩|⟨e,_⟩|⟨e,_⟩|⟨e,_⟩<;>omega
    cases d with
    | par=>exact absurd (.inl rfl) hx
    | bare h1 h2 h3 h4=>
     have he:lv t.kind t.op=v:=by
      rcases hh with e|e
      .cases e
      .have: ¬v+1<=lv t.kind t.op:=fun e=>hx (.inr e);omega
     cases h4 with
     | leaf k e1=>rcases e1 with rfl|rfl|rfl<;>(have he:(15:Int)=v:=he;omega)
     | name|index|len=>have he:(15:Int)=v:=he;omega
     | jU k e1|call k e1=>rcases e1 with rfl|rfl<;>(have he:(15:Int)=v:=he;omega)
     | field=>have he:(14:Int)=v:=he;omega
     | pre|post=>have he:(13:Int)=v:=he;omega
     | unary=>have he:(11:Int)=v:=he;omega
     | one|many=>have he:(5:Int)=v:=he;omega
     | cond=>have he:(2:Int)=v:=he;omega
     | assign=>have he:(1:Int)=v:=he;omega
     | bin o g1 g2 g3 g4 g5 g6 g7 g8=>
      have he:bF o=v:=he;rw [Hl] at hz;have hov:=aeM g1 g2;obtain ⟨aHt,_⟩:=aeL (o:=o) ah;have hsd:sd=iY o:=by
       subst he;rcases hch with ⟨e,_,rfl⟩|⟨e,_,rfl⟩|⟨_,e,_⟩|⟨_,e,_⟩|⟨e,_,rfl⟩|⟨e,_,rfl⟩|⟨e,_,rfl⟩<;>first|omega|(unfold iY;rw [e];rfl)
      subst he;subst hsd;exact alM l hl ih o hn ah g2 g3 g4 g5 g6 g7 g8 ah q q1 q2 hf
     | cat g1 g2 g3 g4=>
      have he:(8:Int)=v:=he;subst he;rw [Hl] at hz;have hsd:sd=(8,9):=by
       rcases hch with ⟨e,_,rfl⟩|⟨e,_,rfl⟩|⟨_,e,_⟩|⟨_,e,_⟩|⟨e,_,rfl⟩|⟨e,_,rfl⟩|⟨e,_,rfl⟩<;>first|omega|rfl
      subst hsd;exact alN l hl ih hn g1 g2 g3 g4 ah q q1 q2 hf
  have hI:∀ i j,j - i<=n+1->∀ p t h,bO l p i j t h->aU t<=400->∀ q,q.aV=p.aV->q.aW=p.aW->q.aV=false->(h=true\/5<=lv t.kind t.op)->jw (bG q 6) (kd l j)->∃ c,c < j - i/\Au l (bG q 5) i j t h c:=by
   intro i j hn p t h d hz q q1 q2 q3 hh hf;have hlt:=d.lt;by_cases hx:h=true\/6<=lv t.kind t.op
   .exact ⟨0,ah,alz l (bG q 5) (fun _=>d.cm hl hx)<|hD i j hn p t h d hz q q1 q2 6 ah ah hx hf⟩
   .cases d with
    | par=>exact absurd (.inl rfl) hx
    | bare h1 h2 h3 h4=>
     have he:lv t.kind t.op=5:=by
      rcases hh with e|e
      .cases e
      .have: ¬6<=lv t.kind t.op:=fun e=>hx (.inr e);omega
     cases h4 with
     | leaf k e1=>rcases e1 with rfl|rfl|rfl<;>(have he:(15:Int)=5:=he;omega)
     | name|index|len=>have he:(15:Int)=5:=he;omega
     | jU k e1|call k e1=>rcases e1 with rfl|rfl<;>(have he:(15:Int)=5:=he;omega)
     | field=>have he:(14:Int)=5:=he;omega
     | pre|post=>have he:(13:Int)=5:=he;omega
     | unary=>have he:(11:Int)=5:=he;omega
     | cond=>have he:(2:Int)=5:=he;omega
     | assign=>have he:(1:Int)=5:=he;omega
     | bin o g1 g2=>
      have he:bF o=5:=he;have:=aeM g1 g2;omega
     | cat=>have he:(8:Int)=5:=he;omega
     | one g1 g2 g3 g4=>
      rw [Am] at hz;exact alO l hl ih hn g1 g2 g3 g4 ah q q1 q2 q3
     | @many _ _ _ ts g1 g2 g3 g4 g5 g6 g7 g8=>
      have hz':bq ts<=400:=by simp only [aU] at hz;omega
      exact ⟨0,ah,alP l hl ih hn g1 g2 g3 g4 g5 g6 g7 g8 hz' q q3⟩
  have hL:∀ i j,j - i<=n+1->∀ ts en,lg l i j ts->kd l j=en->(en=33\/en=35)->j < l.length->bq ts<=400->KE l en i (j+1) ts:=by
   intro i j hn ts en d hk hen hj hz;cases d with
   | @one _ _ t h h1 h2=>
    have hz':aU t<=400:=by simp only [bq] at hz;omega
    refine ⟨h,j,?_,h1,hj,hk,rfl⟩;exact hD i j hn oV t h h2 hz' oV rfl rfl 1 ah ah (by
     cases h2 with
     | par=>exact .inl rfl
     | bare hfit=>exact .inr<|qc hfit rfl) (by rw [hk];exact aaz ah oV 1 ah)
   | @cons _ k f _ t u ts h h1 h2 h3 h4 h5 h6=>
    have h3':=h3.1;have hz1:aU t<=400:=by simp only [bq] at hz;omega
    have hz2:bq (u::ts)<=400:=by simp only [bq] at hz ⊢;omega
    refine ⟨h,k,f,?_,h1,ah,h2,h3,ih.L f j ah _ en h6 hk hen hj hz2⟩;exact hD i k ah oV t h h5 hz1 oV rfl rfl 1 ah ah (by
     cases h5 with
     | par=>exact .inl rfl
     | bare hfit=>exact .inr<|qc hfit rfl) (by rw [h2];exact aaz ah oV 1 ah)
  exact ⟨hN,hD,hC,hI,hL⟩
theorem asF {p:aI} {i j:Nat} {t:aD} {h:Bool} (d:bO l p i j t h) (hz:aU t<=400) (q:aI) (q1:q.aV=p.aV) (q2:q.aW=p.aW) (b:Int) (hb:1<=b) (hb2:b<=15) (hh:h=true\/b<=lv t.kind t.op) (hf:jw (bG q b) (kd l j)):Rd l (bG q b) i j t h:=
 (ajn l hl<|j - i).D i j (dK _) p t h d hz q q1 q2 b hb hb2 hh hf
end
structure CN (t:aD):Prop where
 pY:(t.kind==9||(t.kind==10||(t.kind==11||(t.kind==12||t.kind==15))))=false->t.op=0
 oth:t.other=[]
 tex:t.kind=6\/t.kind=9\/t.kind=10\/t.kind=11\/t.kind=12\/t.kind=14\/t.kind=15->t.text=[]
 k9:t.kind=9\/t.kind=10->t.op=51\/t.op=52
 k11:t.kind=11->t.op=55\/t.op=56\/t.op=61
 k15:t.kind=15->oQ t.op=true
 many:t.kind=5\/t.kind=7\/t.kind=8\/t.kind=13->t.kids.length<=6
def cO.lt {l:List av} {p:aI} {i j:Nat} {t:aD} (d:cO l p i j t):i < j:=by
 cases d with
 | bin o h1 h2 h3 h4 h5 h6=>have:=xV h6;omega
 | _=>omega
def lg.lt {l:List av} {i j:Nat} {ts:List aD} (d:lg l i j ts):i < j/\j<=l.length:=by
 cases d with
 | one h1 h2=>exact h2.lt
 | cons h1 h2 h3 h4 h5 h6=>
  have:=h3.1;refine ⟨ah,?_⟩;clear h1 h2 h3 h5;have key:∀ (ts:List aD) (i:Nat),lg l i j ts->j<=l.length:=by
   intro ts;induction ts with
   | nil=>intro i d;cases d
   | cons t ts ih=>
    intro i d;cases d with
    | one h1 h2=>exact h2.lt.2
    | cons h1 h2 h3 h4 h5 h6=>exact ih _ h6
  exact key _ _ h6
def aHi {l:List av} {i:Nat} {x:List av} (h:Sg l i x) (hx:0 < x.length):i+x.length<=l.length:=by
 cases x with
 | nil=>simp at hx
 | cons t y=>
  obtain ⟨hi,_⟩:=h.hd;exact h.len ah
def aHj {l:List av} {i:Nat} {t:av} {y:List av} (h:Sg l i (t::y)):jE l i=t.Text:=by
 obtain ⟨hi,e⟩:=h.hd;rw [uM hi,e]
def Ke (t:av):Prop:=t.Text.length<=1048576
def arM (k:Int):∃ b:Bool,Ei k=some b/\MO k=some b:=by
 have e:MO k=Ei k:=rfl;rw [e];have hk:∀ b:Bool,Bq b=some b:=by intro b;cases b<;>rfl
 have hb:∀ (c d:Bool) (X:Option Bool),(∃ b,X=some b)->∃ b,(bif c then some d else X)=some b:=by
  intro c d X hX;cases c
  .exact hX
  .exact ⟨d,rfl⟩
 unfold Ei;simp only [hk];obtain ⟨b,h⟩:=hb (k==3) (k==3) _ (hb (k==4) (k==4) _<|hb (k==5) (k==5) _<|hb (k==6) (k==6) _<|hb (k==8) (k==8) _<|hb (k==33) (k==33) _<|hb (k==35) (k==35) _<|hb (k==51) (k==51) _ ⟨(k==52),rfl⟩);exact ⟨b,h,h⟩
def arN (N M:Nat) (a:List av) (ha:a.length<=3000) (hN:1048576+300 < N) (hs:∀ t,t∈a->Ke t) (m i:Nat) (p:Int) (hm:0 < m) (h:i < a.length) (h0:a[i].Kind=0):xI N m (a,p,(i:Int))=some false:=by
 obtain ⟨m,rfl⟩:∃ k,m=k+1:=⟨m - 1,ah⟩
 have ht:=hs _ (kE h);unfold Ke at ht;obtain ⟨b,_,b2,b3⟩:=Rn N a[i] ht ah;have hb:=b3 h0;subst hb;have hk:∀ K,JH N (xI N m) (a,p,(i:Int),a[i],K)=some false:=by
  intro K;simp only [JH];rw [b2];rfl
 have hst:IntKind.wrap .i64 ((i:Int)+1)=((i+1:Nat):Int):=by rw [wrap64 ah ah];omega
 rw [xI,fO h,aB,bJ h,ak,hst];by_cases h1:i+1 < a.length
 .rw [fO h1,aB,bJ h1,ak,hk]
 .rw [gP h1,aA,hk]
def arO (N:Nat) (a:List av) (ha:a.length<=3000) (hN:1048576+300 < N) (hs:∀ t,t∈a->Ke t):∀ (n m i:Nat) (p:Int),a.length - i < n->a.length - i < m->i<=a.length->
  ∃ b:Bool,Cz N n (a,p,(i:Int))=some b/\xI N m (a,p,(i:Int))=some b:=by
 intro n;induction n with
 | zero=>intro m i p h;omega
 | succ n ih=>
  intro m i p hn hm hi;obtain ⟨m,rfl⟩:∃ k,m=k+1:=⟨m - 1,ah⟩
  by_cases h:i < a.length
  .have hst:IntKind.wrap .i64 ((i:Int)+1)=((i+1:Nat):Int):=by rw [wrap64 ah ah];omega
   have ht:=hs _ (kE h);unfold Ke at ht;obtain ⟨b,b1,b2,_⟩:=Rn N a[i] ht ah;obtain ⟨e,e1,e2⟩:=arM p;obtain ⟨q,q1,q2⟩:=ih m (i+1) a[i].Kind ah ah ah;have main:∀ (K:Int),(K≠0/\i+1 < a.length)\/(K=0/\ ¬i+1 < a.length)\/(K=0/\i+1 < a.length/\q=false)->
     ∃ r:Bool,Qb N (Cz N n) (a,p,(i:Int),K)=some r/\JH N (xI N m) (a,p,(i:Int),a[i],K)=some r:=by
    intro K hK;simp only [Qb,JH,Vm,bJ h,ak,b1,b2,e1,e2,hst,q1,q2];have hL:decide (((i+1:Nat):Int) < (a.length:Int))=true/\(i+1 < a.length)\/decide (((i+1:Nat):Int) < (a.length:Int))=false/\ ¬(i+1 < a.length):=by
     by_cases h1:i+1 < a.length
     .exact .inl ⟨fO h1,h1⟩
     .exact .inr ⟨gP h1,h1⟩
    generalize (a[i].Kind==7)=c7;generalize hc2:(a[i].Kind==2)=c2;generalize hc5:(a[i].Kind==5)=c5;generalize aiX:(a[i].Kind==58)=ZG;generalize aiY:(a[i].Kind==41)=ZH;generalize (K !=32)=k32;generalize hk1:(K !=1)=k1;have h25:c2=true->c5=false/\ZG=false/\ZH=false:=by
     intro h;rw [h] at hc2;have:=eq_of_beq hc2;rw [this] at hc5 aiX aiY;exact ⟨hc5.symm,aiX.symm,aiY.symm⟩
    rcases hK with ⟨k0,hl⟩|⟨k0,hl⟩|⟨k0,hl,hq⟩
    .have hk0:(K !=0)=true:=by simpa using k0
     rcases hL with ⟨hL,_⟩|⟨_,hL⟩
     .rw [hL,hk0];cases b<;>cases c7<;>cases c2<;>cases c5<;>cases ZG<;>cases ZH<;>cases k32<;>cases k1<;>cases e<;>exact ⟨_,rfl,rfl⟩
     .exact absurd hl hL
    .have hk0:(K !=0)=false:=by rw [k0];rfl
     rcases hL with ⟨_,hL⟩|⟨hL,_⟩
     .exact absurd hL hl
     .rw [hL,hk0];cases b<;>cases c7<;>cases c2<;>cases c5<;>cases ZG<;>cases ZH<;>cases k32<;>cases k1<;>cases e<;>exact ⟨_,rfl,rfl⟩
    .have hk0:(K !=0)=false:=by rw [k0];rfl
     have arP:k1=true:=by rw [<- hk1,k0];rfl
     rcases hL with ⟨hL,_⟩|⟨_,hL⟩
     .subst arP;rw [hL,hk0,hq];cases b<;>cases c7<;>cases c2<;>cases c5<;>cases ZG<;>cases ZH<;>cases k32<;>cases e<;>first
       | exact ⟨_,rfl,rfl⟩
       | (exfalso;have:=h25 rfl;simp at this)
     .exact absurd hl hL
   rw [Cz,xI,fO h,aB,aB,bJ h,ak,hst];by_cases h1:i+1 < a.length
   .rw [fO h1,aB,aB,bJ h1,ak,ak];refine main a[i+1].Kind ?_;by_cases hz:a[i+1].Kind=0
    .have:=arN N N a ha hN hs m (i+1) a[i].Kind ah h1 hz;rw [q2] at this;exact .inr (.inr ⟨hz,h1,by simpa using this⟩)
    .exact .inl ⟨hz,h1⟩
   .rw [gP h1,aA,aA];exact main 0 (.inr<|.inl ⟨rfl,h1⟩)
  .rw [Cz,xI,gP h];exact ⟨true,rfl,rfl⟩
def aiZ (N:Nat) (a:List av) (hN:1048576+300 < N) (hs:∀ t,t∈a->Ke t):∃ b:Bool,Qd N a=some b/\Gr N a=some b/\(b=true->a.length<=3000):=by
 unfold Qd Gr;by_cases h:a.length<=3000
 .obtain ⟨b,h1,h2⟩:=arO N a h hN hs N N 0 0 ah ah ah;rw [lG (by omega: ¬(a.length:Int) > 3000)];exact ⟨b,h1,h2,fun _=>h⟩
 .rw [gN (by omega:(a.length:Int) > 3000)];exact ⟨false,rfl,rfl,fun h=>by cases h⟩
def lq (k:Int):Bool:=k==3||(k==4||(k==5||(k==6||(k==8||(k==33||(k==35||(k==51||k==52)))))))
def arQ (l:List av) (i k:Nat):Prop:=kd l k≠2/\(kd l k=7->kd l (k+1)=32)/\(i < k->kd l k=5->lq (kd l<|k - 1)=false)/\(kd l k=58\/kd l k=41->i < k/\lq (kd l<|k - 1)=true)
def mI (l:List av) (i j:Nat):Prop:=∀ k,i<=k->k < j->arQ l i k
def mI.one {l:List av} {i:Nat} (h:kd l i≠2/\kd l i≠58/\kd l i≠41) (h7:kd l i=7->kd l (i+1)=32):mI l i (i+1):=fun k h1 h2=>by
 have e:k=i:=ah;subst e;exact ⟨h.1,h7,fun h=>absurd h<|ZI _,fun e=>by rcases e with e|e<;>simp [e] at h⟩
def mI.snoc {l:List av} {i m:Nat} (a:mI l i m) (him:i < m) (h:kd l m≠2/\kd l m≠7/\kd l m≠5) (hd:kd l m=58\/kd l m=41->lq (kd l<|m - 1)=true):mI l i (m+1):=fun k h1 h2=>by
 by_cases e:k=m
 .subst e;exact ⟨h.1,fun e=>absurd e h.2.1,fun _ e=>absurd e h.2.2,fun e=>⟨him,hd e⟩⟩
 .exact a k h1 ah
def mI.app {l:List av} {i m j:Nat} (a:mI l i m) (b:mI l m j) (him:i < m) (hb:kd l m=5->lq (kd l<|m - 1)=false):mI l i j:=fun k h1 h2=>by
 by_cases e:k < m
 .exact a k h1 e
 .obtain ⟨b1,b2,b3,b4⟩:=b k ah h2;refine ⟨b1,b2,fun h e5=>?_,fun e4=>⟨ah,(b4 e4).2⟩⟩;by_cases ek:k=m
  .subst ek;exact hb e5
  .exact b3 ah e5
def adt {l:List av} {i:Nat}:∀ (n m f:Nat),f - m<=n->mI l i m->i < m->m<=f->(∀ k,m<=k->k < f->kd l k=1)->mI l i f
 | 0,m,f,h,a,_,hm,_=>by
  have:m=f:=ah;subst this;exact a
 | n+1,m,f,h,a,him,hm,hk=>by
  by_cases e:m=f
  .subst e;exact a
  .have h1:=hk m (dK _) ah;exact adt n (m+1) f ah (a.snoc him (by rw [h1];decide) fun e=>by rw [h1] at e;omega) ah ah fun k g1 g2=>hk k ah g2
structure VR (l:List av) (i j:Nat):Prop where
 a:mI l i j
 e:lq (kd l<|j - 1)=true
def arR {o:Int} (h:bF o≠0):lq o=false/\o≠2/\o≠7/\o≠5:=by
 rcases EN h with e|e|e|e|e|e|e|e|e|e|e|e|e|e|e|e|e<;>subst e<;>decide
def arS {o:Int} (h:oQ o=true):lq o=false/\o≠2/\o≠7/\o≠5:=by
 have h1:=GK h;refine ⟨?_,ah,ah,ah⟩;have f:∀ {z:Int},o≠z->(o==z)=false:=fun h=>by simpa using h
 unfold lq;rw [f ah,f ah,f ah,f ah,f ah,f ah,f ah,f ah,f ah];rfl
def aja {l:List av} {m f:Nat} (h:Ln l (m+1) f) (he:lq (kd l m)=false):lq (kd l<|f - 1)=false:=by
 by_cases e:f=m+1
 .subst e;exact he
 .have:=h.1;rw [h.2.1 (f - 1) ah ah];rfl
def arT (l:List av):∀ (n i j:Nat),j - i<=n->(∀ p t,i < j->cO l p i j t->VR l i j)/\(∀ p t h,bO l p i j t h->VR l i j)/\(∀ ts,lg l i j ts->VR l i j):=by
 intro n;induction n with
 | zero=>exact fun i j hn=>⟨fun p t hij=>ah,fun p t h d=>by have:=d.lt;omega,fun ts d=>by have:=d.lt;omega⟩
 | succ n ih=>
  intro i j hn;have hN:∀ p t,i < j->cO l p i j t->VR l i j:=by
   intro p t hij d;cases d with
   | leaf k h1 h2=>rcases h1 with rfl|rfl|rfl<;>exact ⟨.one (by rw [h2];decide) (fun e=>by rw [h2] at e;omega),by show lq (kd l i)=true;rw [h2];rfl⟩
   | name h1=>exact ⟨.one (by rw [h1];decide) (fun e=>by rw [h1] at e;omega),by show lq (kd l i)=true;rw [h1];rfl⟩
   | @index _ _ j ts h1 h2 h3 h4 h5 h6 h7=>
    have r:=(ih (i+2) j ah).2.2 _ h7;have a1:mI l i (i+1):=.one (by rw [h1];decide) (fun e=>by rw [h1] at e;omega);have a2:mI l i (i+1+1):=a1.snoc ah (by rw [h2];decide) (fun e=>by rw [h2] at e;omega);have a3:=a2.app r.a ah (fun _=>by show lq (kd l<|i+1)=false;rw [h2];rfl);exact ⟨a3.snoc ah (by rw [h5];decide) (fun e=>by rw [h5] at e;omega),by show lq (kd l j)=true;rw [h5];rfl⟩
   | jU k h1 h2 h3 h4=>
    have a1:mI l i (i+1):=.one (by rw [h2];rcases h1 with rfl|rfl<;>decide) (fun _=>h3);have a2:mI l i (i+1+1):=a1.snoc ah (by rw [h3];decide) (fun e=>by rw [h3] at e;omega);have a3:mI l i (i+2+1):=a2.snoc ah (by show kd l (i+2)≠2/\kd l (i+2)≠7/\kd l (i+2)≠5;rw [h4];decide) (fun e=>by have e:kd l (i+2)=58\/kd l (i+2)=41:=e;rw [h4] at e;omega);exact ⟨a3,by show lq (kd l<|i+2)=true;rw [h4];rfl⟩
   | @call _ _ j ts k h1 h2 h3 h4 h5 h6 h7 h8=>
    have r:=(ih (i+2) j ah).2.2 _ h8;have a1:mI l i (i+1):=.one (by rw [h2];rcases h1 with rfl|rfl<;>decide) (fun _=>h3);have a2:mI l i (i+1+1):=a1.snoc ah (by rw [h3];decide) (fun e=>by rw [h3] at e;omega);have a3:=a2.app r.a ah (fun _=>by show lq (kd l<|i+1)=false;rw [h3];rfl);exact ⟨a3.snoc ah (by rw [h6];decide) (fun e=>by rw [h6] at e;omega),by show lq (kd l j)=true;rw [h6];rfl⟩
   | len h1=>exact ⟨.one (by rw [h1];decide) (fun e=>by rw [h1] at e;omega),by show lq (kd l i)=true;rw [h1];rfl⟩
   | field h1 h2 h3=>
    have r:=(ih (i+1) j ah).2.1 _ _ _ h3;have a1:mI l i (i+1):=.one (by rw [h1];decide) (fun e=>by rw [h1] at e;omega);exact ⟨a1.app r.a ah (fun _=>by show lq (kd l i)=false;rw [h1];rfl),r.e⟩
   | pre o h1 h2 h3 h4 h5=>
    have r:=(ih (i+1) j ah).1 _ _ h4 h5;have a1:mI l i (i+1):=.one (by rw [h2];omega) (fun e=>by rw [h2] at e;omega);have hl:=GL h5 h3;exact ⟨a1.app r.a ah (fun e=>by rw [e] at hl;omega),r.e⟩
   | @post _ _ j t o h1 h2 h3 h4 h5=>
    have r:=(ih i j ah).1 _ _ h4 h5;exact ⟨r.a.snoc h4 (by rw [h2];omega) (fun e=>by rw [h2] at e;omega),by show lq (kd l j)=true;rw [h2];rcases h1 with rfl|rfl<;>rfl⟩
   | unary o h1 h2 h3 h4=>
    have r:=(ih (i+1) j ah).2.1 _ _ _ h4;have a1:mI l i (i+1):=.one (by rw [h2];omega) (fun e=>by rw [h2] at e;omega);exact ⟨a1.app r.a ah (fun _=>by show lq (kd l i)=false;rw [h2];rcases h1 with rfl|rfl|rfl<;>rfl),r.e⟩
   | @bin _ _ m f _ a b _ _ o h1 h2 h3 h4 h5 h6 h7 h8=>
    have xW:=xV h6;have ra:=(ih i m ah).2.1 _ _ _ h7;have rb:=(ih f j ah).2.1 _ _ _ h8;have ho:=arR h1;have a1:=ra.a.snoc h4 (by rw [h3];exact ho.2) (fun _=>ra.e);rcases h6 with ⟨_,h6⟩|⟨_,h6⟩
    .have a2:=adt (f - (m+1)) (m+1) f ah a1 ah xW h6.2.1;exact ⟨a2.app rb.a ah (fun _=>aja h6<|by rw [h3];exact ho.1),rb.e⟩
    .subst h6;exact ⟨a1.app rb.a ah (fun _=>by show lq (kd l m)=false;rw [h3];exact ho.1),rb.e⟩
   | @cat _ _ m _ a b _ _ h1 h2 h3 h4=>
    have ra:=(ih i m ah).2.1 _ _ _ h3;have rb:=(ih m j ah).2.1 _ _ _ h4;have hbg:=ZJ (h4.first.s rfl);exact ⟨ra.a.app rb.a h1 (fun e=>by rw [e] at hbg;omega),rb.e⟩
   | @one _ _ m t h h1 h2 h3 h4=>
    have ra:=(ih i m ah).2.1 _ _ _ h4;have a1:=ra.a.snoc h1 (by rw [h2];decide) (fun e=>by rw [h2] at e;omega);have a2:mI l i (m+1+1):=a1.snoc ah (by rw [h3];decide) (fun e=>by rw [h3] at e;omega);exact ⟨a2,by show lq (kd l<|m+1)=true;rw [h3];rfl⟩
   | @many _ _ m ts h1 h2 h3 h4 h5 h6 h7 h8=>
    have r:=(ih (i+1) m ah).2.2 _ h8;have a1:mI l i (i+1):=.one (by rw [h1];decide) (fun e=>by rw [h1] at e;omega);have a2:=a1.app r.a ah (fun _=>by show lq (kd l i)=false;rw [h1];rfl);have a3:=a2.snoc ah (by rw [h3];decide) (fun e=>by rw [h3] at e;omega);have a4:mI l i (m+1+1):=a3.snoc ah (by rw [h4];decide) (fun e=>by rw [h4] at e;omega);have a5:mI l i (m+2+1):=a4.snoc ah (by show kd l (m+2)≠2/\kd l (m+2)≠7/\kd l (m+2)≠5;rw [h5];decide) (fun e=>by have e:kd l (m+2)=58\/kd l (m+2)=41:=e;rw [h5] at e;omega);exact ⟨a5,by show lq (kd l<|m+2)=true;rw [h5];rfl⟩
   | @cond _ _ m n2 _ a b c _ _ _ h1 h2 h3 h4 h5 h6 h7 h8=>
    have ra:=(ih i m ah).2.1 _ _ _ h6;have rb:=(ih (m+1) n2 ah).2.1 _ _ _ h7;have rc:=(ih (n2+1) j ah).2.1 _ _ _ h8;have a1:=ra.a.snoc h1 (by rw [h2];decide) (fun e=>by rw [h2] at e;omega);have a2:=a1.app rb.a ah (fun _=>by show lq (kd l m)=false;rw [h2];rfl);have a3:=a2.snoc ah (by rw [h4];decide) (fun e=>by rw [h4] at e;omega);exact ⟨a3.app rc.a ah (fun _=>by show lq (kd l n2)=false;rw [h4];rfl),rc.e⟩
   | @assign _ _ m _ a b _ o h1 h2 h3 h4 h5 h6 h7=>
    have ra:=(ih i m ah).1 _ _ h3 h6;have rb:=(ih (m+1) j ah).2.1 _ _ _ h7;have ho:=arS h1;have a1:=ra.a.snoc h3 (by rw [h2];exact ho.2) (fun _=>ra.e);exact ⟨a1.app rb.a ah (fun _=>by show lq (kd l m)=false;rw [h2];exact ho.1),rb.e⟩
  have hD:∀ p t h,bO l p i j t h->VR l i j:=fun p t h d=>by
   cases d with
   | @par _ _ j _ h h1 h2 h3 h4 h5=>
    have r:=(ih (i+1) j ah).2.1 _ _ _ h4;have a1:mI l i (i+1):=.one (by rw [h1];decide) (fun e=>by rw [h1] at e;omega);have a2:=a1.app r.a ah (fun _=>by show lq (kd l i)=false;rw [h1];rfl);exact ⟨a2.snoc ah (by rw [h5];decide) (fun e=>by rw [h5] at e;omega),by show lq (kd l j)=true;rw [h5];rfl⟩
   | bare h1 h2 h3 h4=>exact hN p t h2 h4
  refine ⟨hN,hD,fun ts d=>?_⟩;cases d with
  | one h1 h2=>exact hD _ _ _ h2
  | @cons _ k f _ t u ts h h1 h2 h3 h4 h5 h6=>
   have h3':=h3.1;have ra:=(ih i k ah).2.1 _ _ _ h5;have rb:=(ih f j ah).2.2 _ h6;have a1:=ra.a.snoc h1 (by rw [h2];decide) (fun e=>by rw [h2] at e;omega);have a2:=adt (f - (k+1)) (k+1) f ah a1 ah h3' h3.2.1;exact ⟨a2.app rb.a ah (fun _=>aja h3<|by rw [h2];rfl),rb.e⟩
def qy (d:Nat) (k:Int):Nat:=bif dD k then (bif dF k then d - 1 else d)+1 else (bif dF k then d - 1 else d)
def jM:Nat->List av->Bool
 | _,[]=>true
 | d,t::ts=>decide (qy d t.Kind<=40)&&jM (qy d t.Kind) ts
def arU (N:Nat) (a:List av) (ha:a.length<=3000):∀ (n i d:Nat),a.length - i < n->i<=a.length->d<=40->∃ r,xk N n (a,(d:Int),(i:Int))=some r/\(jM d (a.drop i)=true->r= -1)/\(jM d (a.drop i)=false->0<=r/\r < (a.length:Int)):=by
 intro n;induction n with
 | zero=>intro i d h;omega
 | succ n ih=>
  intro i d hn hi hd;rw [xk];by_cases hlt:i < a.length
  .have k3:∀ d':Nat,d'=qy d a[i].Kind->∃ r,Ji N (xk N n) (a,(i:Int),(d':Int))=some r/\(jM d (a.drop i)=true->r= -1)/\(jM d (a.drop i)=false->0<=r/\r < (a.length:Int)):=fun d' hd'=>by
    unfold Ji;dsimp only;rw [xX hlt,jM,<- hd'];by_cases vZ:d'<=40
    .rw [lG (show¬(d':Int) > 40 by omega),gN vZ,aA,wrap64 ah ah,show (i:Int)+1=((i+1:Nat):Int) by omega,iF];exact ih (i+1) d' ah ah vZ
    .rw [gN (show (d':Int) > 40 by omega),lG vZ,aB,tY];exact ⟨_,rfl,(fun h=>by cases h),fun _=>⟨ah,ah⟩⟩
   have k2:∀ d':Nat,d'<=40->d'=(bif dF a[i].Kind then d - 1 else d)->∃ r,Ga N (xk N n) (a,(i:Int),(d':Int))=some r/\(jM d (a.drop i)=true->r= -1)/\(jM d (a.drop i)=false->0<=r/\r < (a.length:Int)):=fun d' vZ hd'=>by
    unfold Ga;dsimp only;rw [bJ hlt,ak,arV,ak];cases ho:dD a[i].Kind with
    | true=>
     rw [aB,wrap64 ah ah,show (d':Int)+1=((d'+1:Nat):Int) by omega];exact k3 _ (by unfold qy;rw [ho,<- hd'];rfl)
    | false=>
     rw [aA];exact k3 _ (by unfold qy;rw [ho,<- hd'];rfl)
   rw [fO hlt,aB,bJ hlt,ak,arW,ak];cases hc:dF a[i].Kind with
   | true=>
    rw [aB,wrap64 ah ah];have e:(if (d:Int) - 1 > 0 then (d:Int) - 1 else 0)=((d - 1:Nat):Int):=by
     split<;>omega
    rw [e];exact k2 (d - 1) ah (by rw [hc];rfl)
   | false=>
    rw [aA];exact k2 d hd (by rw [hc];rfl)
  .rw [gP hlt,aA];exact ⟨-1,rfl,fun _=>rfl,fun h=>by rw [xY ah] at h;cases h⟩
def arX (N:Nat) (a:List av) (ha:a.length<=3000) (hN:3000 < N):∃ r,Ql N a=some r/\(jM 0 a=true->r= -1)/\(jM 0 a=false->0<=r/\r < (a.length:Int)):=by
 have:=arU N a ha N 0 0 ah ah ah;rw [zy] at this;exact this
def Dp (e:Nat) (x:List av):Prop:=∀ d y,d+e<=40->jM d (x++y)=jM d y
def Dp.nil:Dp 0 []:=fun d y _=>rfl
def Dp.mono {e e':Nat} {x:List av} (h:Dp e x) (he:e<=e'):Dp e' x:=fun d y hd=>h d y ah
def Dp.app {e:Nat} {x y:List av} (hx:Dp e x) (hy:Dp e y):Dp e (x++y):=fun d z hd=>by rw [lW,hx d _ hd,hy d z hd]
def Dp.tok {e:Nat} {t:av} (h:dD t.Kind=false/\dF t.Kind=false):Dp e [t]:=fun d y hd=>by
 show (decide (qy d t.Kind<=40)&&jM (qy d t.Kind) y)=jM d y;have:qy d t.Kind=d:=by unfold qy;rw [h.1,h.2];rfl
 rw [this,gN ah,iF]
def Dp.wrap {e:Nat} {o c:av} {x:List av} (ho:dD o.Kind=true) (hc:dF c.Kind=true) (h:Dp e x):Dp (e+1) (o::(x++[c])):=fun d y hd=>by
 have hco:=(Kg ho).1;have hoc:dD c.Kind=false:=by
  cases h:dD c.Kind with
  | false=>rfl
  | true=>rw [(Kg h).1] at hc;cases hc
 show (decide (qy d o.Kind<=40)&&jM (qy d o.Kind) ((x++[c])++y))=jM d y;have e1:qy d o.Kind=d+1:=by unfold qy;rw [ho,hco];rfl
 rw [e1,gN ah,iF,lW,h (d+1) _ ah];show (decide (qy (d+1) c.Kind<=40)&&jM (qy (d+1) c.Kind) y)=jM d y;have e2:qy (d+1) c.Kind=d:=by unfold qy;rw [hoc,hc];rfl
 rw [e2,gN ah,iF]
def Dp.cons {e:Nat} {t:av} {x:List av} (h:dD t.Kind=false/\dF t.Kind=false) (hx:Dp e x):Dp e (t::x):=Dp.app (x:=[t]) (.tok h) hx
def Rq {o:Int} (h:bF o≠0):dD o=false/\dF o=false:=by
 rcases EN h with e|e|e|e|e|e|e|e|e|e|e|e|e|e|e|e|e<;>subst e<;>exact ⟨rfl,rfl⟩
def adu {o:Int} (h:oQ o=true):dD o=false/\dF o=false:=by
 have h1:=GK h;have f:∀ {z:Int},o≠z->(o==z)=false:=fun h=>by simpa using h
 unfold dD dF;rw [f ah,f ah,f ah,f ah,f ah,f ah];exact ⟨rfl,rfl⟩
def Dp.par {e:Nat} {b:Bool} {x y:List av} (hx:b=false->Dp e x) (hy:b=true->Dp e y):Dp (e+1) (adv b x y):=by
 cases b with
 | false=>exact (hx rfl).mono ah
 | true=>exact Dp.wrap rfl rfl (hy rfl)
def ajb {P:aD->Prop} {t:aD} (h:P t) (hk:∀ k,k∈t.kids->allT P k):allT P t:=by
 have key:∀ ts:List aD,(∀ k,k∈ts->allT P k)->Dm P ts:=by
  intro ts;induction ts with
  | nil=>intro _;rw [Dm];trivial
  | cons u ts ih=>
   intro h;rw [Dm];exact ⟨h u aF,ih fun k hk=>h k<|by simp [hk]⟩
 obtain ⟨k,o,x,y,ks⟩:=t;rw [allT];exact ⟨h,key ks hk⟩
def arY (N:Nat) (a:List aG) (hN:500 < N) (hsh:qY a=true) (hok:yV N a=some true):∀ (t:aD) (s i:Nat),TA a t s i->iP t.kind=true->allT GN t:=by
 intro t;induction t using EO with
 | h t ih=>
  intro s i hT he;obtain ⟨n,hn,e1,e2,e3,e4,hka,hkl⟩:=hT.node;have hmem:=nk hn;obtain ⟨hf,ZK⟩:=ajc N a hN hsh hok n hmem;have hen:iP n.Kind=true:=by rw [<- e1];exact he
  obtain ⟨har,hlv⟩:=arZ N n hf hen;have GQ:=(adw hsh n hmem).1;have adx:∀ (q:Nat) (k:aD),t.kids[q]?=some k->∃ kk s':Nat,TA a k s' kk/\iP k.kind=true/\((n.Kind=9\/n.Kind=10\/(n.Kind=15/\q=0))->dL k.kind=true):=fun q k hq=>by
   obtain ⟨kk,s',g1,g2,_⟩:=hka.get q k hq;have hql:q < n.Kids.length:=(dV.1 g1).1;obtain ⟨y,y1,y2⟩:=ZK q hql;have hkk:n.Kids[q]=(kk:Int):=(dV.1 g1).2;obtain ⟨m,m1,m2,_⟩:=g2.node;rw [hkk,zA m1] at y1;cases y1;have:=asa n q y.Kind y2 hen;rw [<- m2] at this;exact ⟨kk,s',g2,this⟩
  unfold Ar at har;obtain ⟨r0,r1,r2,r3,r4⟩:=har;rw [<- e1] at r0 r1 r2 r3 r4;rw [<- hkl] at r0 r1 r2 r3 r4;refine ajb ⟨he,by rw [e1,e2];exact hlv,r0,fun h=>r2 ah,fun h=>r3 h,r4,fun h=>r1 h,ah,fun k hk=>?_,fun k hk h=>?_,fun h=>?_⟩ fun k hk=>?_
  .obtain ⟨q,hq⟩:=Kh hk;obtain ⟨_,_,_,h2,_⟩:=adx q k hq;exact h2
  .obtain ⟨_,_,_,_,h2⟩:=adx 0 k hk;exact h2 (by rw [<- e1];rcases h with h|h|h<;>simp [h])
  .rw [e2];exact asb N n hf (by rw [<- e1];exact h)
  .obtain ⟨q,hq⟩:=Kh hk;obtain ⟨kk,s',g1,g2,_⟩:=adx q k hq;exact ih k hk s' kk g1 g2
def asc (N:Nat) (n:aG) (h:yT N n=some true):TL N n=some true:=by
 unfold yT at h;obtain ⟨⟨lo,hi⟩,h1,h⟩:=bind_some h;obtain ⟨y6,h2,h⟩:=bind_some h;obtain ⟨y13,h3,h⟩:=bind_some h;cases h;rcases Ny h3 with ⟨_,h3⟩|⟨_,h3⟩
 .obtain ⟨bP,ho,h3⟩:=bind_some h3;rcases Ny h3 with ⟨hc,h3⟩|⟨_,h3⟩
  .obtain ⟨fD,ht,h3⟩:=bind_some h3;rcases Ny h3 with ⟨hc2,h3⟩|⟨_,h3⟩
   .subst hc2;exact ht
   .cases h3
  .cases h3
 .cases h3
def zB (N:Nat) (t:av):Prop:=uG N t=some true
structure TN (N:Nat) (t:aD):Prop where
 n6:t.kind=1\/t.kind=5\/t.kind=13->zB N ⟨6,t.text,0⟩
 n7:t.kind=7->zB N ⟨7,t.text,0⟩
 n8:t.kind=8->zB N ⟨8,t.text,0⟩
 n2:t.kind=2->zB N ⟨3,t.text,0⟩
 n3:t.kind=3->zB N ⟨4,t.text,0⟩
 n4:t.kind=4->zB N ⟨5,t.text,0⟩
def VT {x:Option Bool} {c:Bool} (h:((Option.bind x fun r=>bif r then some c else some false).bind fun y=>some y)=some true):x=some true/\c=true:=by
 cases x with
 | none=>cases h
 | some r=>
  cases r with
  | false=>cases h
  | true=>exact ⟨rfl,iV h⟩
def Nz {x:List UInt8} (h:(x==[])=true):x=[]:=by simpa using h
def ase (N:Nat) (n:aG) (h:yT N n=some true) (he:iP n.Kind=true) (ts:List aD) (hts:ts.length=n.Kids.length):CN ⟨n.Kind,n.Op,n.Text,n.Other,ts⟩/\TN N ⟨n.Kind,n.Op,n.Text,n.Other,ts⟩:=by
 have ht:=asc N n h;obtain ⟨lo,hi,h1,h2,h3,h4⟩:=adz N n h;obtain ⟨k,o,x,y,ks⟩:=n;have named:En N (⟨k,o,x,y,ks⟩,true)=some true->Cx N x=some true/\y=[]:=fun h=>by
  obtain ⟨a,b⟩:=VT (x:=Cx N x) (c:=y==[]) h;exact ⟨a,Nz b⟩
 have plain:((bif (x==[]) then some (y==[]) else (some false)).bind fun kD=>some kD)=some true->x=[]/\y=[]:=fun h=>by
  cases hx:(x==[]) with
  | false=>rw [hx] at h;cases h
  | true=>
   rw [hx] at h;exact ⟨Nz hx,Nz<|iV h⟩
 have pY:(Option.some<|o==0)=some true->o=0:=fun h=>by simpa using iV h
 have ZL:∀ kk:Int,kk=6\/kk=7->Cx N x=some true->zB N ⟨kk,x,0⟩:=fun kk hkk h=>by
  unfold zB;have e:uG N ⟨kk,x,0⟩=zU N (⟨kk,x,0⟩,true):=by rcases hkk with rfl|rfl<;>rfl
  rw [e];unfold zU;dsimp only;rw [aB,h];rfl
 rcases kinds he with e|e|e|e|e|e|e|e|e|e|e|e|e|e|e<;>(have e:k=_:=e;subst e)
 case inl=>
  obtain ⟨hn,hy⟩:=named ht;have ho:=pY h2;subst ho hy;exact ⟨⟨fun _=>rfl,rfl,aF,aF,aF,aF,aF⟩,⟨fun _=>ZL 6 (.inl rfl) hn,aF,aF,aF,aF,aF⟩⟩
 case inr.inl=>
  obtain ⟨hn,hy⟩:=VT (x:=uG N ⟨3,x,0⟩) (c:=y==[]) ht;have hy:=Nz hy;have ho:=pY h2;subst ho hy;exact ⟨⟨fun _=>rfl,rfl,aF,aF,aF,aF,aF⟩,⟨aF,aF,aF,fun _=>hn,aF,aF⟩⟩
 case inr.inr.inl=>
  obtain ⟨hn,hy⟩:=VT (x:=uG N ⟨4,x,0⟩) (c:=y==[]) ht;have hy:=Nz hy;have ho:=pY h2;subst ho hy;exact ⟨⟨fun _=>rfl,rfl,aF,aF,aF,aF,aF⟩,⟨aF,aF,aF,aF,fun _=>hn,aF⟩⟩
 case inr.inr.inr.inl=>
  obtain ⟨hn,hy⟩:=VT (x:=uG N ⟨5,x,0⟩) (c:=y==[]) ht;have hy:=Nz hy;have ho:=pY h2;subst ho hy;exact ⟨⟨fun _=>rfl,rfl,aF,aF,aF,aF,aF⟩,⟨aF,aF,aF,aF,aF,fun _=>hn⟩⟩
 case inr.inr.inr.inr.inl=>
  obtain ⟨hn,hy⟩:=named ht;have ho:=pY h2;subst ho hy;have hm:(ks.length:Int)<=6:=by
   have:some ((1:Int),(6:Int))=some (lo,hi):=h1;cases this;exact h4
  exact ⟨⟨fun _=>rfl,rfl,aF,aF,aF,aF,fun _=>by show ts.length<=6;have hts:ts.length=ks.length:=hts;omega⟩,⟨fun _=>ZL 6 (.inl rfl) hn,aF,aF,aF,aF,aF⟩⟩
 case inr.inr.inr.inr.inr.inl=>
  obtain ⟨hx,hy⟩:=plain ht;have ho:=pY h2;subst ho hx hy;exact ⟨⟨fun _=>rfl,rfl,fun _=>rfl,aF,aF,aF,aF⟩,⟨aF,aF,aF,aF,aF,aF⟩⟩
 case inr.inr.inr.inr.inr.inr.inl=>
  obtain ⟨hn,hy⟩:=named ht;have ho:=pY h2;subst ho hy;have hm:(ks.length:Int)<=6:=by
   have:some ((0:Int),(6:Int))=some (lo,hi):=h1;cases this;exact h4
  exact ⟨⟨fun _=>rfl,rfl,aF,aF,aF,aF,fun _=>by show ts.length<=6;have hts:ts.length=ks.length:=hts;omega⟩,⟨aF,fun _=>ZL 7 (.inr rfl) hn,aF,aF,aF,aF⟩⟩
 case inr.inr.inr.inr.inr.inr.inr.inl=>
  obtain ⟨hn,hy⟩:=VT (x:=FV N x) (c:=y==[]) ht;have hy:=Nz hy;have ho:=pY h2;subst ho hy;have hm:(ks.length:Int)<=6:=by
   have:some ((0:Int),(6:Int))=some (lo,hi):=h1;cases this;exact h4
  refine ⟨⟨fun _=>rfl,rfl,aF,aF,aF,aF,fun _=>by show ts.length<=6;have hts:ts.length=ks.length:=hts;omega⟩,⟨aF,aF,fun _=>?_,aF,aF,aF⟩⟩;unfold zB;have e:uG N ⟨8,x,0⟩=zU N (⟨8,x,0⟩,false):=rfl;rw [e];unfold zU;dsimp only;show Option.bind (FV N x) _=_;rw [hn];rfl
 case inr.inr.inr.inr.inr.inr.inr.inr.inl=>
  obtain ⟨hx,hy⟩:=plain ht;subst hx hy;have ho:o=51\/o=52:=by
   have e:CB ⟨9,o,[],[],ks⟩=some (o==51||o==52):=by
    show ((bif (o==51) then some true else some (o==52)).bind fun y=>some y)=_;cases (o==51)<;>rfl
   rw [e] at h2;simpa using iV h2
  exact ⟨⟨aF,rfl,fun _=>rfl,fun _=>ho,aF,aF,aF⟩,⟨aF,aF,aF,aF,aF,aF⟩⟩
 case inr.inr.inr.inr.inr.inr.inr.inr.inr.inl=>
  obtain ⟨hx,hy⟩:=plain ht;subst hx hy;have ho:o=51\/o=52:=by
   have e:CB ⟨10,o,[],[],ks⟩=some (o==51||o==52):=by
    show ((bif (o==51) then some true else some (o==52)).bind fun y=>some y)=_;cases (o==51)<;>rfl
   rw [e] at h2;simpa using iV h2
  exact ⟨⟨aF,rfl,fun _=>rfl,fun _=>ho,aF,aF,aF⟩,⟨aF,aF,aF,aF,aF,aF⟩⟩
 case inr.inr.inr.inr.inr.inr.inr.inr.inr.inr.inl=>
  obtain ⟨hx,hy⟩:=plain ht;subst hx hy;have ho:o=55\/o=56\/o=61:=by
   have e:CB ⟨11,o,[],[],ks⟩=some (o==55||(o==56||o==61)):=by
    show ((bif (o==55) then some true else (bif (o==56) then some true else some (o==61))).bind fun y=>some y)=_;cases (o==55)<;>cases (o==56)<;>rfl
   rw [e] at h2;simpa using iV h2
  exact ⟨⟨aF,rfl,fun _=>rfl,aF,fun _=>ho,aF,aF⟩,⟨aF,aF,aF,aF,aF,aF⟩⟩
 case inr.inr.inr.inr.inr.inr.inr.inr.inr.inr.inr.inl=>
  obtain ⟨hx,hy⟩:=plain ht;subst hx hy;exact ⟨⟨aF,rfl,fun _=>rfl,aF,aF,aF,aF⟩,⟨aF,aF,aF,aF,aF,aF⟩⟩
 case inr.inr.inr.inr.inr.inr.inr.inr.inr.inr.inr.inr.inl=>
  obtain ⟨hn,hy⟩:=named ht;have ho:=pY h2;subst ho hy;have hm:(ks.length:Int)<=6:=by
   have:some ((1:Int),(6:Int))=some (lo,hi):=h1;cases this;exact h4
  exact ⟨⟨fun _=>rfl,rfl,aF,aF,aF,aF,fun _=>by show ts.length<=6;have hts:ts.length=ks.length:=hts;omega⟩,⟨fun _=>ZL 6 (.inl rfl) hn,aF,aF,aF,aF,aF⟩⟩
 case inr.inr.inr.inr.inr.inr.inr.inr.inr.inr.inr.inr.inr.inl=>
  obtain ⟨hx,hy⟩:=plain ht;have ho:=pY h2;subst ho hx hy;exact ⟨⟨fun _=>rfl,rfl,fun _=>rfl,aF,aF,aF,aF⟩,⟨aF,aF,aF,aF,aF,aF⟩⟩
 case inr.inr.inr.inr.inr.inr.inr.inr.inr.inr.inr.inr.inr.inr=>
  obtain ⟨hx,hy⟩:=plain ht;subst hx hy;have ho:oQ o=true:=by
   have e:CB ⟨15,o,[],[],ks⟩=Option.bind (wY o) (fun kV=>some kV):=rfl;rw [e,ajd] at h2;exact iV h2
  exact ⟨⟨aF,rfl,fun _=>rfl,aF,aF,fun _=>ho,aF⟩,⟨aF,aF,aF,aF,aF,aF⟩⟩
def asf (N:Nat) (a:List aG) (hN:500 < N) (hsh:qY a=true) (hok:yV N a=some true) {t:aD} {s i:Nat} (hT:TA a t s i) (hg:allT GN t):allT (fun u=>CN u/\TN N u) t:=by
 have key:∀ t:aD,∀ s i,TA a t s i->allT GN t->allT (fun u=>CN u/\TN N u) t:=by
  intro t;induction t using EO with
  | h t ih=>
   intro s i hT hg;obtain ⟨n,hn,e1,e2,e3,e4,hka,hkl⟩:=hT.node;obtain ⟨hf,_⟩:=ajc N a hN hsh hok n (nk hn);have g:=adA hg;have r:=ase N n hf (by rw [<- e1];exact g.e) t.kids hkl;have et:(⟨n.Kind,n.Op,n.Text,n.Other,t.kids⟩:aD)=t:=by
    rw [<- e1,<- e2,<- e3,<- e4];cases t;rfl
   rw [et] at r;refine ajb r fun k hk=>?_;obtain ⟨q,hq⟩:=Kh hk;obtain ⟨kk,s',_,g2,_⟩:=hka.get q k hq;exact ih k hk s' kk g2 (adB hg k hk)
 exact key t s i hT hg
def adC (N:Nat) {k:Int} (h:k=24\/k=32\/k=33\/k=34\/k=35\/k=36\/k=51\/k=52\/k=61\/k=65\/k=66\/k=68\/bF k≠0/\k≠99\/oQ k=true):zB N (sg k):=by
 have hk:k=24\/k=32\/k=33\/k=34\/k=35\/k=36\/k=51\/k=52\/k=61\/k=65\/k=66\/k=68\/k=44\/k=45\/k=67\/k=46\/k=63\/k=48\/k=47\/k=50\/k=62\/k=49\/k=55\/k=56\/k=57\/k=58\/k=59\/k=60\/k=38\/k=39\/k=40\/k=41\/k=42\/k=43\/k=54:=by
  rcases h with h|h|h|h|h|h|h|h|h|h|h|h|⟨h,h2⟩|h
  case inr.inr.inr.inr.inr.inr.inr.inr.inr.inr.inr.inr.inl=>have:=EN h;omega
  case inr.inr.inr.inr.inr.inr.inr.inr.inr.inr.inr.inr.inr=>have:=GK h;omega
  all_goals omega
 unfold zB;have key:∀ k:Int,(k==2)=false->(k==3)=false->(k==4)=false->(k==5)=false->(k==6)=false->(k==7)=false->(k==8)=false->(spl k==[])=false->uG N (sg k)=some true:=fun k a1 a2 a3 a4 a5 a6 a7 a8=>by
  unfold uG zU sg;simp only [a1,a2,a3,a4,a5,a6,a7,a8,aA,aje,ak,bY,aB,tZ]
 rcases hk with rfl|rfl|rfl|rfl|rfl|rfl|rfl|rfl|rfl|rfl|rfl|rfl|rfl|rfl|rfl|rfl|rfl|rfl|rfl|rfl|rfl|rfl|rfl|rfl|rfl|rfl|rfl|rfl|rfl|rfl|rfl|rfl|rfl|rfl|rfl<;>exact key _ rfl rfl rfl rfl rfl rfl rfl rfl
def uN (N:Nat) (x:List av):Prop:=∀ t,t∈x->zB N t
def uN.nil {N:Nat}:uN N []:=fun t h=>by cases h
def uN.app {N:Nat} {x y:List av} (hx:uN N x) (hy:uN N y):uN N (x++y):=fun t h=>by
 rcases mJ.1 h with h|h
 .exact hx t h
 .exact hy t h
def uN.cons {N:Nat} {t:av} {y:List av} (hx:zB N t) (hy:uN N y):uN N (t::y):=fun u h=>by
 rcases jW.1 h with rfl|h
 .exact hx
 .exact hy u h
def uN.one {N:Nat} {t:av} (hx:zB N t):uN N [t]:=.cons hx .nil
def ash {N:Nat}:∀ (l:List (List av)) (b:Bool),(∀ x,x∈l->uN N x)->uN N (NA b l)
 | [],b,_=>by rw [NA];exact .nil
 | x::l,b,h=>by
  rw [NA];refine .app ?_ (.app (h x aF)<|ash l true fun y hy=>h y<|by simp [hy]);cases b with
  | false=>exact .nil
  | true=>exact .one (adC N aF)
def uN.par {N:Nat} {b:Bool} {x y:List av} (hx:uN N x) (hy:uN N y):uN N (adv b x y):=by
 cases b with
 | false=>exact hx
 | true=>exact .cons (adC N aF) (.app hy<|.one<|adC N aF)
structure ExR (N:Nat) (L:List aG) (t:aD):Prop where
 eq:L=dQ 0 t
 ta:TA L t 0 (L.length - 1)
 sz:aU t<=400
 dep:iW t<=40
 tx:txT t
 g:allT GN t
 c:allT (fun u=>CN u/\TN N u) t
 sh:qY L=true
 ok:yV N L=some true
def asj (N:Nat) (L:List aG) (hN:1048577 < N) (hs:∀ x,x∈L->mD x) (hsh:qY L=true) {t:aD} (hT:TA L t 0 (L.length - 1)) (h:yV N L=some true):iW t<=40:=by
 unfold yV at h;obtain ⟨y,h1,h⟩:=dn.1 h;cases y with
 | true=>cases h
 | false=>
  rw [adD N L hN hs hsh hT] at h1;obtain ⟨r,_,h1⟩:=dn.1 h1;cases r with
  | false=>cases h1
  | true=>
   simp only [fE,aA,ak] at h1;have:=ajg (iV h1);omega
def asl (N:Nat) (L:List aG) (hN:1048777 < N) (hS:∀ x,x∈L->mD x) (hok:yV N L=some true) (hsh:qY L=true) (hE:∀ t,TA L t 0 (L.length - 1)->iP t.kind=true):∃ t,ExR N L t:=by
 obtain ⟨l1,l2,_,_,_,_,_,t,ht⟩:=Rs hsh;have hp:=ht.part;have hg:=arY N L ah hsh hok t 0 _ ht (hE t ht);refine ⟨t,?_,ht,ah,asj N L ah hS hsh ht hok,aso hS ht,hg,asf N L ah hsh hok ht hg,hsh,hok⟩;have e:L.length - 1+1=L.length:=ah;rw [e] at hp;rw [<- hp.2.2,ajh]
def asq (N:Nat) (a b:List Int) (hl:a.length=b.length) (hm:a.length<=1048576):∀ (n i:Nat),a.length - i < n->i<=a.length->Ns N n (a,b,(i:Int))=some (decide<|a.drop i=b.drop i):=by
 intro n;induction n with
 | zero=>intro i h;omega
 | succ n ih=>
  intro i hn hi;rw [Ns];by_cases h:i < a.length
  .have h':i < b.length:=ah;simp only [fO h,aB,bJ h,bJ h',ak];rw [drop_cons h,drop_cons h'];by_cases he:a[i]=b[i]
   .have hb:(a[i] !=b[i])=false:=by simpa using he
    rw [hb,aA,EM h (by simp only [maxLen];omega),ih (i+1) ah ah];simp only [List.cons.injEq,he,true_and]
   .have hb:(a[i] !=b[i])=true:=by simpa using he
    rw [hb,aB];simp only [List.cons.injEq,he,false_and,GR]
  .have h': ¬i < b.length:=ah;simp only [gP h,aA];rw [drop_nil h,drop_nil h'];simp
def asr (N:Nat) (a b:List Int) (hm:a.length<=1048576) (hN:1048577 < N):Rj N a b=some (decide<|a=b):=by
 unfold Rj;by_cases hl:a.length=b.length
 .have e:((a.length:Int) !=(b.length:Int))=false:=by simp [hl]
  rw [e,aA];exact asq N a b hl hm N 0 ah ah
 .have e:((a.length:Int) !=(b.length:Int))=true:=bZ;rw [e,aB];have:a≠b:=fun h=>hl (by rw [h]);simp [this]
def asu (N:Nat) (a b:List aG) (hN:1048577 < N) (hl:a.length=b.length) (hm:a.length<=1048576) (hk:∀ x,x∈a->x.Kids.length<=1048576):∀ (n i:Nat),a.length - i < n->i<=a.length->Nt N n (a,b,(i:Int))=some (decide<|a.drop i=b.drop i):=by
 intro n;induction n with
 | zero=>intro i h;omega
 | succ n ih=>
  intro i hn hi;rw [Nt];by_cases h:i < a.length
  .have h':i < b.length:=ah;have hki:=hk _ (kE h);simp only [fO h,aB,bJ h,bJ h',ak];rw [drop_cons h,drop_cons h',EM h (by simp only [maxLen];omega),ih (i+1) ah ah];generalize a[i]=x at hki;generalize b[i]=y;obtain ⟨k,o,t,p,ks⟩:=x;obtain ⟨k',o',t',p',ks'⟩:=y;simp only at hki;simp only [asr N ks ks' hki hN,ak];by_cases e1:k=k'
   .subst e1;by_cases e2:o=o'
    .subst e2;by_cases e3:t=t'
     .subst e3;by_cases e4:p=p'
      .subst e4;by_cases e5:ks=ks'
       .subst e5;simp only [bne_self_eq_false,tZ,fE,aA,Al,ak,List.cons.injEq,true_and]
       .simp only [bne_self_eq_false,tZ,fE,bY,aB,aA,e5,GR,ak,List.cons.injEq,aG.mk.injEq,true_and,false_and]
      .have b4:(p==p')=false:=by simpa using e4
       simp only [bne_self_eq_false,tZ,fE,bY,b4,aB,aA,e4,GR,ak,List.cons.injEq,aG.mk.injEq,true_and,false_and]
     .have b3:(t==t')=false:=by simpa using e3
      simp only [bne_self_eq_false,bY,b3,aB,aA,e3,GR,ak,List.cons.injEq,aG.mk.injEq,true_and,false_and]
    .have b2:(o !=o')=true:=by simpa using e2
     simp only [bne_self_eq_false,b2,aB,aA,e2,GR,ak,List.cons.injEq,aG.mk.injEq,true_and,false_and]
   .have b1:(k !=k')=true:=by simpa using e1
    simp only [b1,aB,e1,GR,ak,List.cons.injEq,aG.mk.injEq,false_and]
  .have h': ¬i < b.length:=ah;simp only [gP h,aA];rw [drop_nil h,drop_nil h'];simp
def aji (N:Nat) (a b:List aG) (hN:1048577 < N) (hm:a.length<=1048576) (hk:∀ x,x∈a->x.Kids.length<=1048576):VK N a b=some (decide<|a=b):=by
 unfold VK;by_cases hl:a.length=b.length
 .have e:((a.length:Int) !=(b.length:Int))=false:=by simp [hl]
  rw [e,aA];exact asu N a b hN hl hm hk N 0 ah ah
 .have e:((a.length:Int) !=(b.length:Int))=true:=bZ;rw [e,aB];have:a≠b:=fun h=>hl (by rw [h]);simp [this]
def asv (N:Nat) (a:List aG) (hN:1048577+400 < N) (hs:∀ x,x∈a->mD x):∃ b:Bool,Qk N a=some b/\MK N a=some b/\(b=true->qY a=true/\∀ t,TA a t 0 (a.length - 1)->iP t.kind=true):=by
 obtain ⟨b,b1,b2,b3⟩:=asw N a hN hs;unfold Qk MK;rw [b1,b2];simp only [ak];cases b with
 | false=>exact ⟨false,rfl,rfl,fun h=>by cases h⟩
 | true=>
  obtain ⟨h1,h2⟩:=b3 rfl;obtain ⟨l1,l2,_⟩:=Rs h1;have hlt:a.length - 1 < a.length:=ah;have hx:=bJ hlt;rw [wrap64 ah ah,show (a.length:Int) - 1=((a.length - 1:Nat):Int) by omega,hx];simp only [aB,ak,Dn,GU];refine ⟨_,rfl,rfl,fun h=>⟨h1,fun t ht=>?_⟩⟩;obtain ⟨n,hn,e1,_⟩:=ht.node;rw [fZ hlt] at hn;cases hn;rw [e1];exact h
def ajj (G:Nat) (t:aD) (ht:aU t<=1000000) (ih:∀ k,k∈t.kids->(Nh G).zq k=some (aU k:Int)):∀ (ts:List aD) (n j m:Nat),t.kids.drop j=ts->ts.length < n->j<=t.kids.length->m+bq ts<=1000000->
  JL G (Nh G) n (t,(m:Int),(j:Int))=some ((m+bq ts:Nat):Int)
 | [],n,j,m,hd,hn,hj,hm=>by
  obtain ⟨n,rfl⟩:∃ q,n=q+1:=⟨n - 1,by simp at hn;omega⟩
  have hlt: ¬j < t.kids.length:=by
   intro h;rw [drop_cons h] at hd;cases hd
  rw [JL];simp only [gP hlt,aA,bq,EP]
 | k::ts,n,j,m,hd,hn,hj,hm=>by
  simp only [nu] at hn;rw [bq] at hm;obtain ⟨n,rfl⟩:∃ q,n=q+1:=⟨n - 1,ah⟩
  have hlt:j < t.kids.length:=by
   cases vY j t.kids.length with
   | inl h=>exact h
   | inr h=>rw [xY h] at hd;cases hd
  have htl:=xZ t.kids;have hs:=Ki t;rw [drop_cons hlt] at hd;injection hd with hd1 hd2;rw [JL];simp only [fO hlt,aB,bJ hlt,ak,hd1,ih k<|by rw [<- hd1];exact kE hlt];rw [wrap64 (n:=(m:Int)+(aU k:Int)) ah ah,EM hlt<|by simp only [maxLen];omega];have:=ajj G t ht ih ts n (j+1) (m+aU k) hd2 ah ah ah;refine Kj this ?_;rw [bq,ER]
def ajk:∀ (t:aD) (N:Nat),2*aU t+2<=N->aU t<=1000000->(Nh N).zq t=some (aU t:Int):=by
 intro t;induction t using EO with
 | h t ih=>
  intro N hN hsz;obtain ⟨M,rfl⟩:∃ M,N=M+1:=⟨N - 1,ah⟩
  have hs:=Ki t;have htl:=xZ t.kids;have:=ajj M t hsz (fun k hk=>ih k hk M (by have:=Dq hk;omega) (by have:=Dq hk;omega)) t.kids M 0 1 rfl ah ah ah;refine Kj this ?_;rw [hs,Nat.add_comm]
def asx (k:Int):(spl k).length<=10:=by
 have key:∃ x:List UInt8,Cy k=some x/\x.length<=10:=by
  unfold Cy;rw [Dl,Dl,ZE,adi];simp only [ak];cases h1:(k==1) with
  | true=>exact ⟨[10],rfl,aF⟩
  | false=>
   cases h2:(decide (k>=10)&&decide (k<=26)) with
   | true=>
    simp only [dA,jS] at h2;obtain ⟨j,rfl⟩:∃ j:Nat,k=(j:Int)+10:=⟨(k - 10).toNat,ah⟩
    have hl:qK.length=17:=rfl;have hw:IntKind.wrap .i64 ((j:Int)+10 - 10)=(j:Int):=by rw [wrap64 ah ah];omega
    have ha:(qK.all fun x=>decide<|x.length<=10)=true:=rfl;rw [aA,aB,hw,bJ ah];exact ⟨_,rfl,qb<|kJ.1 ha _<|kE _⟩
   | false=>
    cases h3:(decide (k>=30)&&decide (k<=68)) with
    | true=>
     simp only [dA,jS] at h3;obtain ⟨j,rfl⟩:∃ j:Nat,k=(j:Int)+30:=⟨(k - 30).toNat,ah⟩
     have hl:yO.length=39:=rfl;have hw:IntKind.wrap .i64 ((j:Int)+30 - 30)=(j:Int):=by rw [wrap64 ah ah];omega
     have ha:(yO.all fun x=>decide<|x.length<=10)=true:=rfl;rw [aA,aA,aB,hw,bJ ah];exact ⟨_,rfl,qb<|kJ.1 ha _<|kE _⟩
    | false=>exact ⟨[],rfl,aF⟩
 obtain ⟨x,h1,h2⟩:=key;have:=aje k;rw [h1] at this;rw [<- iV this];exact h2
def qZ (x:List av):Prop:=∀ t,t∈x->Ke t
def qZ.nil:qZ []:=fun t h=>by cases h
def qZ.app {x y:List av} (hx:qZ x) (hy:qZ y):qZ (x++y):=fun t h=>by
 rcases mJ.1 h with h|h
 .exact hx t h
 .exact hy t h
def qZ.one {k:Int} {x:List UInt8} (hx:x.length<=1048576):qZ [⟨k,x,0⟩]:=fun u h=>by rw [yg.1 h];exact hx
def qZ.sg (k:Int):qZ [sg k]:=.one (by have:=asx k;omega)
def qZ.cons {t:av} {x:List av} (ht:qZ [t]) (hx:qZ x):qZ (t::x):=.app (x:=[t]) ht hx
def asy:∀ (l:List (List av)) (b:Bool),(∀ x,x∈l->qZ x)->qZ (NA b l)
 | [],b,_=>by rw [NA];exact .nil
 | x::l,b,h=>by
  rw [NA];refine .app ?_ (.app (h x aF)<|asy l true fun y hy=>h y<|by simp [hy]);cases b with
  | false=>exact .nil
  | true=>exact .sg 36
def qZ.par {b:Bool} {x y:List av} (hx:qZ x) (hy:qZ y):qZ (adv b x y):=by
 cases b with
 | false=>exact hx
 | true=>exact .cons (.sg 32) (.app hy<|.sg 33)
def asz (k:Int):EB k=some (dD k):=by
 unfold EB dD;cases (k==32)<;>cases (k==34)<;>rfl
def asA (k:Int):EC k=some (dF k):=by
 unfold EC dF;cases (k==33)<;>cases (k==35)<;>rfl
def asC (N:Nat) (a:List av) (ha:a.length<=3000):∀ (n i d:Nat),a.length - i < n->i<=a.length->d<=40->∃ r,zi N n (a,(d:Int),(i:Int))=some r/\(jM d (a.drop i)=true->r= -1)/\(jM d (a.drop i)=false->0<=r/\r < (a.length:Int)):=by
 intro n;induction n with
 | zero=>intro i d h;omega
 | succ n ih=>
  intro i d hn hi hd;rw [zi];by_cases hlt:i < a.length
  .have k2:∀ (d':Nat) (v:Int),v=(d':Int)->d'=qy d a[i].Kind->∃ r,Gt N (zi N n) ((i:Int),a,v)=some r/\(jM d (a.drop i)=true->r= -1)/\(jM d (a.drop i)=false->0<=r/\r < (a.length:Int)):=fun d' v hv hd'=>by
    subst hv;unfold Gt;dsimp only;rw [xX hlt,jM,<- hd'];by_cases vZ:d'<=40
    .rw [lG (show¬(d':Int) > 40 by omega),gN vZ,aA,wrap64 ah ah,show (i:Int)+1=((i+1:Nat):Int) by omega,iF];exact ih (i+1) d' ah ah vZ
    .rw [gN (show (d':Int) > 40 by omega),lG vZ,aB,tY];exact ⟨_,rfl,(fun h=>by cases h),fun _=>⟨ah,ah⟩⟩
   rw [fO hlt,aB,bJ hlt,ak,asz,ak,asA,ak];cases ho:dD a[i].Kind with
   | true=>
    rw [aB,wrap64 ah ah];exact k2 (d+1) _ ah (by unfold qy;rw [ho,(Kg ho).1];rfl)
   | false=>
    rw [aA];cases hc:dF a[i].Kind with
    | true=>
     rw [aB,wrap64 ah ah];exact k2 (d - 1) _ (by split<;>omega) (by unfold qy;rw [ho,hc];rfl)
    | false=>
     rw [aA];exact k2 d _ rfl (by unfold qy;rw [ho,hc];rfl)
  .rw [gP hlt,aA];exact ⟨-1,rfl,fun _=>rfl,fun h=>by rw [xY ah] at h;cases h⟩
def asD (N:Nat) (a:List av) (ha:a.length<=3000) (hN:3000 < N):∃ r,Vp N a=some r/\(jM 0 a=true->r= -1)/\(jM 0 a=false->0<=r/\r < (a.length:Int)):=by
 have:=asC N a ha N 0 0 ah ah ah;rw [zy] at this;exact this
def ajl (N:Nat) (a:List av) (ha:a.length<=3000) (hN:3000 < N) (h:Gr N a=some true):∃ c,MR N a=some c/\(jM 0 a=true->c=⟨0,0⟩)/\(jM 0 a=false->c.Kind=4):=by
 obtain ⟨r,r1,r2,r3⟩:=asD N a ha hN;unfold MR;rw [h,ak,r1];simp only [fE,aA,ak];cases hn:jM 0 a with
 | true=>
  rw [r2 hn];exact ⟨_,rfl,fun _=>rfl,fun h=>by cases h⟩
 | false=>
  obtain ⟨g1,g2⟩:=r3 hn;obtain ⟨j,rfl⟩:∃ j:Nat,r=(j:Int):=⟨r.toNat,ah⟩
  have hj:j < a.length:=ah;rw [gN (show (j:Int)>=0 by omega),aB];unfold MQ;rw [fO hj,aB,bJ hj];exact ⟨_,rfl,(fun h=>by cases h),fun _=>rfl⟩
def adE {x:Option (bQ×Int×Bool×List (List UInt8))} {r:bQ×Int×Bool×List (List UInt8)} (h:x=some r):Option.bind x (fun r=>some (r.1,r.2.1,r.2.2.1,r.2.2.2))=some r:=by rw [h];rfl
def asE (N:Nat) (hN:2000000<=N) (l:List av) (hl:l.length<=3000) (t:aD) (p:aI) (hp:posB p=true) (h:Bool) (d:bO l p 0 l.length t h) (hz:aU t<=400):zo N p l 0 false []=some (fu t h,(l.length:Int),false,[]):=by
 have hk:kd l l.length=0:=by unfold kd;rw [vW<|dK _];rfl
 obtain ⟨j,hj⟩:∃ j,j=l.length:=⟨_,rfl⟩
 rw [<- hj] at d hk ⊢;have fs:=d.first
 obtain ⟨v,dl,a,g,s⟩:=p;have hs:(bif s then (dS l 0 false []).bind fun fM=>(Gu fM).bind fun dG=>some (!dG) else some false)=some false:=by
  cases s with
  | false=>rfl
  | true=>
   have e:dS l ((0:Nat):Int) false []=some (kd l 0):=by rw [bI]
   have e:dS l 0 false []=some (kd l 0):=e;rw [aB,e,ak,VU,fs.s rfl];rfl
 unfold zo;rw [show (⟨v,dl,a,g,s⟩:aI).eZ=s from rfl,hs,ak,aA];have hv:1<=v/\v<=15/\(dl=true->v=14):=by
  unfold posB at hp;simp only [dA,jS,iX,kF,iG] at hp;refine ⟨hp.1.1,hp.1.2,fun e=>?_⟩;rcases hp.2 with g|g
  .rw [e] at g;cases g
  .exact g
 obtain ⟨hv1,hv2,hv3⟩:=hv;have main:(h=true\/v<=lv t.kind t.op)->pF (aJ N) v ⟨a,g⟩ l 0 false []=some (fu t h,(j:Int),false,[]):=fun hh=>by
  have hr:=asF l hl d hz ⟨v,dl,a,g,s⟩ rfl rfl v hv1 hv2 hh (by rw [hk];exact ajm _);have:=hr N (by show _+4*(16 - v.toNat)<=N;omega) [];exact this
 have low:v≠14\/dl=false->h=true\/v<=lv t.kind t.op:=fun e=>by
  have:dl=false:=by
   cases dl with
   | false=>rfl
   | true=>
    have:=hv3 rfl;rcases e with e|e
    .exact absurd this e
    .exact e
  exact d.lvl this
 have hc:v=1\/v=2\/v=3\/v=4\/v=5\/v=6\/v=7\/v=8\/v=9\/v=10\/v=11\/v=12\/v=13\/v=14\/v=15:=ah;rcases hc with e|e|e|e|e|e|e|e|e|e|e|e|e|e|e<;>subst e
 case inr.inr.inr.inr.inr.inr.inr.inr.inr.inr.inr.inr.inr.inl=>
  show Option.bind (bif dl then (dS l 0 false []).bind fun qN=>(xE qN).bind fun tC=>some tC else some false) _=_;by_cases hh:h=true\/14<=lv t.kind t.op
  .have hst:(bif dl then (dS l 0 false []).bind fun qN=>(xE qN).bind fun tC=>some tC else some false)=some false:=by
    cases dl with
    | false=>rfl
    | true=>
     have e:dS l ((0:Nat):Int) false []=some (kd l 0):=by rw [bI]
     have e:dS l 0 false []=some (kd l 0):=e;have hb:=fs.b hh;have f1:(kd l 0==51)=false:=by simpa using hb.1
     have f2:(kd l 0==52)=false:=by simpa using hb.2
     rw [aB,e,ak,Dr,f1,f2];rfl
   rw [hst,ak,aA];exact adE (main hh)
  .have hd:dl=true:=by
    cases hd:dl with
    | true=>rfl
    | false=>exact absurd (low<|.inr hd) hh
   subst hd;cases d with
   | par=>exact absurd (.inl rfl) hh
   | bare g1 g2 g3 g4=>
    have hnl: ¬14<=lv t.kind t.op:=fun e=>hh (.inr e);have BS:t.kind=9:=by
     unfold fK at g1;simp only [dA,iX,iF,jS,iG] at g1;rcases g1.2.2.2.2 with e|e
     .exact e
     .exact absurd e hnl
    cases g4 with
    | @pre _ _ _ u o e1 e2 e3 e4 e5=>
     have hlf:=GL e5 e3;rw [Am] at hz;have r:=VW l (n:=j) (ajn l hl _) (i:=0+1) ah e4 g3 e5 e3 ah ⟨14,true,a,g,s⟩ 14 ah ah (by rw [hk];exact ajm _);obtain ⟨M,rfl⟩:∃ m,N=m+2:=⟨N - 2,ah⟩
     have e:=adF l hl ⟨14,true,a,g,s⟩ (M:=M) (i:=0) [] ah (by rcases hlf with e|e<;>rw [e]<;>rfl) r ah;have e:tQ (M+2) l 0 false []=some ((⟨⟨9,kd l 0,[],[],[u]⟩,false⟩:bQ),(j:Int),false,[]):=e;have ek:dS l ((0:Nat):Int) false []=some (kd l 0):=by rw [bI]
     have ek:dS l 0 false []=some (kd l 0):=ek;have hst:(bif true then (dS l 0 false []).bind fun qN=>(xE qN).bind fun tC=>some tC else some false)=some true:=by
      rw [aB,ek,ak,Dr,e2];rcases e1 with rfl|rfl<;>rfl
     rw [hst,ak,aB];rw [e2] at e;exact adE e
    | leaf k e1=>have hp:k - 1=9:=BS;omega
    | jU k e1|call k e1=>have hp:k=9:=BS;omega
    | name=>have hp:(1:Int)=9:=BS;omega
    | index=>have hp:(5:Int)=9:=BS;omega
    | len=>have hp:(8:Int)=9:=BS;omega
    | field=>have hp:(6:Int)=9:=BS;omega
    | post=>have hp:(10:Int)=9:=BS;omega
    | unary=>have hp:(11:Int)=9:=BS;omega
    | bin|cat=>have hp:(12:Int)=9:=BS;omega
    | one|many=>have hp:(13:Int)=9:=BS;omega
    | cond=>have hp:(14:Int)=9:=BS;omega
    | assign=>have hp:(15:Int)=9:=BS;omega
 all_goals exact adE (main<|low<|.inl aH)
def asG (N:Nat) (hN:2000000<=N) (l:List av) (hl:l.length<=3000) (t:aD) (p:aI) (hp:posB p=true) (h:Bool) (d:bO l p 0 l.length t h) (hz:aU t<=400) (hd:iW t<=40) (hto:Gr N l=some true) (hn:jM 0 l=true):BQ N l p=some (dQ 0 t,(l.length:Int),⟨0,0⟩):=by
 obtain ⟨c,c1,c2,c3⟩:=ajl N l hl ah hto;have e0:=c2 hn;subst e0;unfold BQ;rw [adG,hp,c1];simp only [ak,fE,aA];rw [asE N hN l hl t p hp h d hz];simp only [ak,aA];have hb:QT N (fu t h).tree=some ⟨0,0⟩:=by
  unfold QT;have e1:zq N t=some (aU t:Int):=ajk t N ah ah;have e2:tL N t=some (iW t:Int):=adH t N ah ah;show Option.bind (zq N t) _=_;rw [e1,ak,lG (show¬(aU t:Int) > 400 by omega),aA];show Option.bind (tL N t) _=_;rw [e2,ak,lG (show¬(iW t:Int) > 40 by omega),aA]
 have hL:Ni N (fu t h).tree=some (dQ 0 t):=adI N t ah ah;rw [hb,hL];rfl
def asH (N:Nat) (a b:List Int):Vx N a b=Rj N a b:=by
 have l:∀ n i,JN N n (a,b,i)=Ns N n (a,b,i):=by
  intro n;induction n with
  | zero=>intro i;rw [JN,Ns]
  | succ n ih=>intro i;rw [JN,Ns];simp only [ih]
 unfold Vx Rj;rw [l]
def ajo (N:Nat) (a b:List aG):QV N a b=VK N a b:=by
 have l:∀ n i,JO N n (b,a,i)=Nt N n (a,b,i):=by
  intro n;induction n with
  | zero=>intro i;rw [JO,Nt]
  | succ n ih=>
   intro i;rw [JO,Nt];simp only [ih];cases decide (i < (a.length:Int)) with
   | false=>rfl
   | true=>
    rw [aB,aB];cases ha:ix a i with
    | none=>rfl
    | some x=>
     cases hb:ix b i with
     | none=>rfl
     | some y=>
      unfold Ze;simp only [ak,bne,asH];cases (x.Kind==y.Kind) with
      | false=>rfl
      | true=>
       cases (x.Op==y.Op) with
       | false=>rfl
       | true=>
        cases (x.Text==y.Text) with
        | false=>rfl
        | true=>
         cases (x.Other==y.Other) with
         | false=>rfl
         | true=>
          simp only [aB,fE,aA];cases Rj N x.Kids y.Kids with
          | none=>rfl
          | some r=>rfl
 have e:∀ x:Option Bool,(Option.bind x fun r=>some r)=x:=fun x=>by cases x<;>rfl
 unfold QV Zf VK;rw [l,e]
def asJ (N:Nat) (l:List av) (hl:l.length<=3000) (hN:3000 < N) (h:∀ k,k < l.length->kd l k≠2):ML N l=some false:=by
 have key:∀ (n i:Nat),l.length - i < n->i<=l.length->EA N n (l,(i:Int))=some (-1):=by
  intro n;induction n with
  | zero=>intro i h;omega
  | succ n ih=>
   intro i hn hi;rw [EA];by_cases hlt:i < l.length
   .have hk:=h i hlt;have e:kd l i=l[i].Kind:=by unfold kd;rw [fZ hlt];rfl
    rw [e] at hk;have e2:(l[i].Kind==2)=false:=by simpa using hk
    rw [fO hlt,aB,bJ hlt,ak];unfold Vk;rw [e2,ak,aA,wrap64 ah ah,show (i:Int)+1=((i+1:Nat):Int) by omega];exact ih (i+1) ah ah
   .rw [gP hlt,aA]
 unfold ML Vl;have e:EA N N (l,0)=some (-1):=key N 0 ah ah;rw [e];rfl
def asK (N:Nat) (hN:2000000<=N) (l:List av) (hl:l.length<=400) (t:aD) (p:aI) (hp:posB p=true) (h:Bool) (d:bO l p 0 l.length t h) (hz:aU t<=400) (hd:iW t<=40) (hto:Gr N l=some true) (hn:jM 0 l=true) (x:List aG) (c:Bool) (hc:MK N x=some c):JQ N l x p=bif c then VK N (dQ 0 t) x else some false:=by
 have adj:=(arT l _ 0 _<|dK _).2.1 _ _ _ d;have e:∀ x:Option Bool,((Option.bind x fun r=>some r).bind fun r=>some r)=x:=fun x=>by cases x<;>rfl
 unfold JQ Nj;rw [hc,asG N hN l ah t p hp h d hz hd hto hn,asJ N l ah ah fun k hk=>(adj.a k ah hk).1];cases c with
 | false=>rfl
 | true=>
  have GQ:decide ((l.length:Int) > 400)=false:=bZ;have hlen:((l.length:Int)==(l.length:Int))=true:=aF;simp only [ak,fE,aA,GQ,hlen,tZ,zu,aB,ajo];exact e _
def Wk (p p':aI):Prop:=p'.Level=p.Level/\p'.jo=p.jo/\(p'.aV=true->p.aV=true)/\(p'.aW=true->p.aW=true)/\(p'.eZ=true->p.eZ=true)
def asM {k o:Int} {p p':aI} (h:fK k o p=true) (w:Wk p p'):fK k o p'=true:=by
 obtain ⟨v,d,a,g,s⟩:=p;obtain ⟨v',d',a',g',s'⟩:=p';obtain ⟨w1,w2,w3,w4,w5⟩:=w;have w1:v'=v:=w1;have w2:d'=d:=w2;subst w1 w2;have key:∀ {x y c:Bool},(y=true->x=true)->(!(x&&c))=true->(!(y&&c))=true:=fun {x y c} h h1=>by
  cases y with
  | false=>rfl
  | true=>rw [h rfl] at h1;exact h1
 unfold fK at h ⊢;simp only [dA] at h ⊢;obtain ⟨h1,h2,h3,h4,h5⟩:=h;exact ⟨h1,key w3 h2,key w4 h3,key w5 h4,h5⟩
def adJ (l:List av):∀ (n i j:Nat),j - i<=n->(∀ p p' t,i < j->(p'.aV=true->p.aV=true)->(p'.aW=true->p.aW=true)->(p'.eZ=true->p.eZ=true)->cO l p i j t->cO l p' i j t)/\(∀ p p' t h,Wk p p'->bO l p i j t h->bO l p' i j t h):=by
 intro n;induction n with
 | zero=>exact fun i j hn=>⟨fun p p' t hij=>ah,fun p p' t h w d=>by have:=d.lt;omega⟩
 | succ n ih=>
  intro i j hn;have hN:∀ p p' t,i < j->(p'.aV=true->p.aV=true)->(p'.aW=true->p.aW=true)->(p'.eZ=true->p.eZ=true)->cO l p i j t->cO l p' i j t:=by
   intro p p' t hij wi wg ws d;have no:false=true->false=true:=fun h=>h;have W:∀ {a b:Nat} {p p':aI} {t:aD} {h:Bool},b - a<=n->bO l p a b t h->Wk p p'->bO l p' a b t h:=fun hn d w=>(ih _ _ hn).2 _ _ _ _ w d;cases d with
   | leaf k h1 h2=>exact .leaf k h1 h2
   | name h1=>exact .name h1
   | index h1 h2 h3 h4 h5 h6 h7=>exact .index h1 h2 h3 h4 h5 h6 h7
   | jU k h1 h2 h3 h4=>exact .jU k h1 h2 h3 h4
   | call k h1 h2 h3 h4 h5 h6 h7 h8=>exact .call k h1 h2 h3 h4 h5 h6 h7 h8
   | len h1 h2 h3=>exact .len h1 h2 h3
   | field h1 h2 h3=>exact .field h1 h2 h3
   | pre o h1 h2 h3 h4 h5=>exact .pre o h1 h2 h3 h4 h5
   | post o h1 h2 h3 h4 h5=>exact .post o h1 h2 h3 h4 h5
   | unary o h1 h2 h3 h4=>exact .unary o h1 h2 h3 (W ah h4 ⟨rfl,rfl,wi,wg,no⟩)
   | bin o h1 h2 h3 h4 h5 h6 h7 h8=>
    have:=xV h6;have:=h8.lt;have:=h7.lt;exact .bin o h1 h2 h3 h4 h5 h6 (W ah h7 ⟨rfl,rfl,wi,wg,ws⟩) (W ah h8 ⟨rfl,rfl,wi,wg,no⟩)
   | cat h1 h2 h3 h4=>exact .cat h1 h2 (W ah h3 ⟨rfl,rfl,wi,wg,ws⟩) (W ah h4 ⟨rfl,rfl,wi,wg,fun h=>h⟩)
   | one h1 h2 h3 h4=>exact .one h1 h2 h3 (W ah h4 ⟨rfl,rfl,wi,wg,ws⟩)
   | many h1 h2 h3 h4 h5 h6 h7 h8=>exact .many h1 h2 h3 h4 h5 h6 h7 h8
   | cond h1 h2 h3 h4 h5 h6 h7 h8=>exact .cond h1 h2 h3 h4 h5 (W ah h6 ⟨rfl,rfl,wi,wg,ws⟩) (W ah h7 ⟨rfl,rfl,wi,wg,no⟩) (W ah h8 ⟨rfl,rfl,wi,wg,no⟩)
   | assign o h1 h2 h3 h4 h5 h6 h7=>exact .assign o h1 h2 h3 h4 h5 h6 (W ah h7 ⟨rfl,rfl,wi,wg,no⟩)
  refine ⟨hN,fun p p' t h w d=>?_⟩;cases d with
  | par h1 h2 h3 h4 h5=>exact .par h1 h2 h3 h4 h5
  | bare h1 h2 h3 h4=>exact .bare (asM h1 w) h2 h3 (hN p p' t h2 w.2.2.1 w.2.2.2.1 w.2.2.2.2 h4)
def asN {k o v v':Int} {a g:Bool} (h:fK k o ⟨v,false,a,g,false⟩=true) (h1:1<=v') (h2:v'<=v):fK k o ⟨v',false,a,g,false⟩=true:=by
 unfold fK posB at h ⊢;simp only [dA,iX,kF,Kk,Bool.not_eq_false',jS,tY,Kl,bY,iF,Aj,Bool.true_or] at h ⊢;obtain ⟨⟨⟨⟨p1,p2⟩,p3⟩,p4⟩,p5,p6,p7⟩:=h;exact ⟨⟨⟨⟨h1,ah⟩,trivial⟩,p4⟩,p5,p6,ah⟩
def bO.down {l:List av} {v v':Int} {a g:Bool} {i j:Nat} {t:aD} {h:Bool} (d:bO l ⟨v,false,a,g,false⟩ i j t h) (h1:1<=v') (h2:v'<=v):bO l ⟨v',false,a,g,false⟩ i j t h:=by
 cases d with
 | par g1 g2 g3 g4 g5=>exact .par g1 g2 g3 g4 g5
 | bare g1 g2 g3 g4=>exact .bare (asN g1 h1 h2) g2 g3 ((adJ l (j - i) i j<|dK _).1 ⟨v,false,a,g,false⟩ ⟨v',false,a,g,false⟩ t g2 (fun h=>h) (fun h=>h) (fun h=>h) g4)
def ajp (l:List av):∀ (n i j:Nat),j - i<=n->lX (kd l i)=true->(∀ v a g t,i < j->cO l ⟨v,false,a,g,false⟩ i j t->cO l ⟨v,false,a,g,true⟩ i j t)/\(∀ v a g t h,bO l ⟨v,false,a,g,false⟩ i j t h->bO l ⟨v,false,a,g,true⟩ i j t h):=by
 intro n;induction n with
 | zero=>exact fun i j hn hb=>⟨fun v a g t hij=>ah,fun v a g t h d=>by have:=d.lt;omega⟩
 | succ n ih=>
  intro i j hn hb;have hN:∀ v a g t,i < j->cO l ⟨v,false,a,g,false⟩ i j t->cO l ⟨v,false,a,g,true⟩ i j t:=by
   intro v a g t hij d;cases d with
   | leaf k h1 h2=>exact .leaf k h1 h2
   | name h1=>exact .name h1
   | index h1 h2 h3 h4 h5 h6 h7=>exact .index h1 h2 h3 h4 h5 h6 h7
   | jU k h1 h2 h3 h4=>exact .jU k h1 h2 h3 h4
   | call k h1 h2 h3 h4 h5 h6 h7 h8=>exact .call k h1 h2 h3 h4 h5 h6 h7 h8
   | len h1 h2 h3=>exact .len h1 h2 h3
   | field h1 h2 h3=>exact .field h1 h2 h3
   | pre o h1 h2 h3 h4 h5=>exact .pre o h1 h2 h3 h4 h5
   | post o h1 h2 h3 h4 h5=>exact .post o h1 h2 h3 h4 h5
   | unary o h1 h2 h3 h4=>exact .unary o h1 h2 h3 h4
   | bin o h1 h2 h3 h4 h5 h6 h7 h8=>
    have:=xV h6;have:=h8.lt;have:=h7.lt;exact .bin o h1 h2 h3 h4 h5 h6 ((ih _ _ ah hb).2 _ _ _ _ _ h7) h8
   | cat h1 h2 h3 h4=>exact .cat h1 h2 ((ih _ _ ah hb).2 _ _ _ _ _ h3) h4
   | one h1 h2 h3 h4=>exact .one h1 h2 h3 ((ih _ _ ah hb).2 _ _ _ _ _ h4)
   | many h1 h2 h3 h4 h5 h6 h7 h8=>exact .many h1 h2 h3 h4 h5 h6 h7 h8
   | cond h1 h2 h3 h4 h5 h6 h7 h8=>exact .cond h1 h2 h3 h4 h5 ((ih _ _ ah hb).2 _ _ _ _ _ h6) h7 h8
   | assign o h1 h2 h3 h4 h5 h6 h7=>exact .assign o h1 h2 h3 h4 h5 h6 h7
  refine ⟨hN,fun v a g t h d=>?_⟩;cases d with
  | par h1 h2 h3 h4 h5=>exact .par h1 h2 h3 h4 h5
  | bare h1 h2 h3 h4=>
   have no:=asO hb;have k11:t.kind≠11/\t.kind≠9/\t.kind≠4:=by
    cases h4 with
    | leaf k e1 e2=>
     refine ⟨by show k - 1≠11;omega,by show k - 1≠9;omega,?_⟩;show k - 1≠4;intro e;have:k=5:=ah;rw [e2,this] at hb;cases hb
    | unary o e1 e2=>omega
    | pre o e1 e2=>omega
    | name=>exact ⟨by show (1:Int)≠11;decide,by show (1:Int)≠9;decide,by show (1:Int)≠4;decide⟩
    | index=>exact ⟨by show (5:Int)≠11;decide,by show (5:Int)≠9;decide,by show (5:Int)≠4;decide⟩
    | jU k e1|call k e1=>exact ⟨by show k≠11;omega,by show k≠9;omega,by show k≠4;omega⟩
    | len=>exact ⟨by show (8:Int)≠11;decide,by show (8:Int)≠9;decide,by show (8:Int)≠4;decide⟩
    | field=>exact ⟨by show (6:Int)≠11;decide,by show (6:Int)≠9;decide,by show (6:Int)≠4;decide⟩
    | post=>exact ⟨by show (10:Int)≠11;decide,by show (10:Int)≠9;decide,by show (10:Int)≠4;decide⟩
    | bin|cat=>exact ⟨by show (12:Int)≠11;decide,by show (12:Int)≠9;decide,by show (12:Int)≠4;decide⟩
    | one|many=>exact ⟨by show (13:Int)≠11;decide,by show (13:Int)≠9;decide,by show (13:Int)≠4;decide⟩
    | cond=>exact ⟨by show (14:Int)≠11;decide,by show (14:Int)≠9;decide,by show (14:Int)≠4;decide⟩
    | assign=>exact ⟨by show (15:Int)≠11;decide,by show (15:Int)≠9;decide,by show (15:Int)≠4;decide⟩
   refine .bare ?_ h2 h3 (hN v a g t h2 h4);obtain ⟨q1,q2,q3⟩:=k11;have f:∀ {z:Int},t.kind≠z->(t.kind==z)=false:=fun h=>by simpa using h
   unfold fK posB at h1 ⊢;simp only [f q1,f q2,f q3,Kl,Bool.or_false,dA] at h1 ⊢;exact h1
def NC {l:List av} {v:Int} {a g:Bool} {i m f j:Nat} {x y:aD} {h1 h2:Bool} (o:Int) (ho:bF o=v) (hv:1<=v/\v<=15) (nO:o≠99) (hgt:g=true->o≠62) (hk:kd l m=o) (hln:(bF o=3\/bF o=4)/\Ln l (m+1) f\/ ¬(bF o=3\/bF o=4)/\f=m+1) (hx:bO l ⟨(iY o).1,false,a,g,false⟩ i m x h1) (hy:bO l ⟨(iY o).2,false,a,g,false⟩ f j y h2):bO l ⟨v,false,a,g,false⟩ i j ⟨12,o,[],[],[x,y]⟩ false:=by
 have lx:=hx.lt;have ly:=hy.lt;have:=xV hln;refine .bare ?_ ah ly.2 (.bin o ah nO hk lx.1 ly.1 hln hx hy);have hl:lv 12 o=v:=ho;have h1:(v==0)=false:=by rw [fF];omega
 have hg:(g&&o==62)=false:=by
  cases g with
  | false=>rfl
  | true=>have:=hgt rfl;simpa using this
 unfold fK posB;rw [hl];have d1:decide (v>=1)=true:=gN hv.1;have d2:decide (v<=15)=true:=gN hv.2;show (!(!((decide (v>=1)&&decide (v<=15))&&(!false||v==14))||v==0)&&(!(a&&(12:Int)==13)&&(!(g&&((12:Int)==12&&o==62))&&(!(false&&_)&&((false&&_)||decide (v>=v))))))=true;have e1:((12:Int)==13)=false:=rfl;have e2:((12:Int)==12)=true:=rfl;rw [d1,d2,h1,e1,e2,gN<|Dt v];simp only [iF,hg];simp
def adK (l:List av) (hl:l.length<=3000) (hc:∀ k,kd l k≠2) (N':Nat) (ns:List (List UInt8)):∀ (fuel a:Nat) (f:Int) (ns':List (List UInt8)),a<=l.length->xK N' l false fuel ((a:Int),ns)=some (f,ns')->ns'=ns/\∃ b:Nat,f=(b:Int)/\Ln l a b/\b<=l.length:=by
 intro fuel;induction fuel with
 | zero=>intro a f ns' _ h;cases h
 | succ n ih=>
  intro a f ns' ha h;rw [xK,bY,aB,bI,ak] at h;cases h1:(kd l a==1) with
  | true=>
   have e:=eq_of_beq h1;have hlt:=dz (l:=l) (i:=a) (by rw [e];decide);rw [h1,aB] at h;unfold JI at h;dsimp only at h;rw [iw (nP hlt)<|show l.length<=100000 by omega] at h;obtain ⟨q1,b,q2,q3,q4⟩:=ih (a+1) f ns' ah h;refine ⟨q1,b,q2,⟨by have:=q3.1;omega,fun k g1 g2=>?_,q3.2.2⟩,q4⟩;by_cases ek:k=a
   .subst ek;exact e
   .exact q3.2.1 k ah g2
  | false=>
   have e1:kd l a≠1:=by simpa using h1
   have h2:(kd l a==2)=false:=by simpa using hc a
   rw [h1,h2,aA,aA] at h;cases h;exact ⟨rfl,a,rfl,⟨dK _,fun k g1 g2=>ah,e1,hc a⟩,ha⟩
section
variable (l:List av) (hl:l.length<=3000) (hc:∀ k,kd l k≠2)
def Sn (l:List av) (v:Int) (a g:Bool) (i:Nat) (x:Option (bQ×Int×Bool×List (List UInt8))):Prop:=∀ (t:aD) (tg:Bool) (j:Int) (ns:List (List UInt8)),x=some (⟨t,tg⟩,j,false,ns)->∃ (k:Nat) (h:Bool),j=(k:Int)/\bO l ⟨v,false,a,g,false⟩ i k t h/\tg=(!h&&dL t.kind)
def ZM (l:List av) (i:Nat) (x:Option (bQ×Int×Bool×List (List UInt8))):Prop:=∀ (t:aD) (tg:Bool) (j:Int) (ns:List (List UInt8)),x=some (⟨t,tg⟩,j,false,ns)->∃ k:Nat,j=(k:Int)/\i < k/\k<=l.length/\cO l rX i k t/\dL t.kind=true/\tg=true
def SnV (l:List av) (i:Nat) (x:Option (bQ×Int×Bool×List (List UInt8))):Prop:=∀ (t:aD) (tg:Bool) (j:Int) (ns:List (List UInt8)),x=some (⟨t,tg⟩,j,false,ns)->∃ k:Nat,j=(k:Int)/\i < k/\k<=l.length/\cO l rX i k t/\(t.kind=1\/t.kind=5)/\tg=true
def SnB (l:List av) (i:Nat) (x:Option (bQ×Int×Bool×List (List UInt8))):Prop:=∀ (t:aD) (tg:Bool) (j:Int) (ns:List (List UInt8)),x=some (⟨t,tg⟩,j,false,ns)->∃ k:Nat,j=(k:Int)/\i < k/\k<=l.length/\cO l rX i k t/\t.kind=9/\tg=false
def SnI (l:List av) (i:Nat) (x:Option (List aD×Int×Bool×List (List UInt8))):Prop:=∀ (ts:List aD) (j:Int) (ns:List (List UInt8)),x=some (ts,j,false,ns)->∃ k:Nat,j=(k:Int)/\lg l i k ts/\ts.length<=6
def SnS (l:List av) (en:Int) (i:Nat) (x:Option (List aD×Int×Bool×List (List UInt8))):Prop:=∀ (ts:List aD) (j:Int) (ns:List (List UInt8)),x=some (ts,j,false,ns)->(ts=[]/\en=33/\kd l i=33/\j=((i+1:Nat):Int))\/∃ k:Nat,j=((k+1:Nat):Int)/\kd l k=en/\lg l i k ts/\ts.length<=6
structure lu (l:List av) (M:Nat):Prop where
 ZN:∀ (i:Nat) ns a g,i<=l.length->Sn l 1 a g i ((aJ M).ou ⟨a,g⟩ l (i:Int) false ns)
 cd:∀ (i:Nat) ns a g,i<=l.length->Sn l 2 a g i ((aJ M).oM ⟨a,g⟩ l (i:Int) false ns)
 orr:∀ (i:Nat) ns a g,i<=l.length->Sn l 3 a g i ((aJ M).xR ⟨a,g⟩ l (i:Int) false ns)
 an:∀ (i:Nat) ns a g,i<=l.length->Sn l 4 a g i ((aJ M).vM ⟨a,g⟩ l (i:Int) false ns)
 inn:∀ (i:Nat) ns a g,i<=l.length->Sn l 5 a g i ((aJ M).vL ⟨a,g⟩ l (i:Int) false ns)
 ma:∀ (i:Nat) ns a g,i<=l.length->Sn l 6 a g i ((aJ M).xP ⟨a,g⟩ l (i:Int) false ns)
 cm:∀ (i:Nat) ns a g,i<=l.length->Sn l 7 a g i ((aJ M).uL ⟨a,g⟩ l (i:Int) false ns)
 ct:∀ (i:Nat) ns a g,i<=l.length->Sn l 8 a g i ((aJ M).uK ⟨a,g⟩ l (i:Int) false ns)
 ad:∀ (i:Nat) ns a g,i<=l.length->Sn l 9 a g i ((aJ M).vK ⟨a,g⟩ l (i:Int) false ns)
 mu:∀ (i:Nat) ns a g,i<=l.length->Sn l 10 a g i ((aJ M).vJ ⟨a,g⟩ l (i:Int) false ns)
 un:∀ (i:Nat) ns a g,i<=l.length->Sn l 11 a g i ((aJ M).om ⟨a,g⟩ l (i:Int) false ns)
 pw:∀ (i:Nat) ns a g,i<=l.length->Sn l 12 a g i ((aJ M).xO ⟨a,g⟩ l (i:Int) false ns)
 ic:∀ (i:Nat) ns a g,i<=l.length->Sn l 13 a g i ((aJ M).xM l (i:Int) false ns)
 fd:∀ (i:Nat) ns a g,i<=l.length->Sn l 14 a g i ((aJ M).lV l (i:Int) false ns)
 pr:∀ (i:Nat) ns a g,i<=l.length->Sn l 15 a g i ((aJ M).zk l (i:Int) false ns)
 bf:∀ (i:Nat) ns,kd l i=51\/kd l i=52->SnB l i ((aJ M).tQ l (i:Int) false ns)
 lvl:∀ (i:Nat) ns,i<=l.length->ZM l i ((aJ M).BM l (i:Int) false ns)
 vr:∀ (i:Nat) ns,kd l i=6->SnV l i ((aJ M).vI l (i:Int) false ns)
 f8:∀ (i:Nat) ns,kd l i=68->ZM l i ((aJ M).lV l (i:Int) false ns)
 it:∀ (i:Nat) ns,i<=l.length->SnI l i ((aJ M).EF ⟨false,false⟩ l (i:Int) false ns)
 ls:∀ (i:Nat) ns en,en=33\/en=35->i<=l.length->SnS l en i ((aJ M).xQ en l (i:Int) false ns)
theorem Sn.down {v v':Int} {a g:Bool} {i:Nat} {x:Option (bQ×Int×Bool×List (List UInt8))} (h:Sn l v a g i x) (h1:1<=v') (h2:v'<=v):Sn l v' a g i x:=fun t tg j ns e=>by
 obtain ⟨k,hh,q1,q2,q3⟩:=h t tg j ns e;exact ⟨k,hh,q1,q2.down h1 h2,q3⟩
theorem aHk {v:Int} {a g:Bool} {i:Nat} {x:Option (bQ×Int×Bool×List (List UInt8))} (h:Sn l v a g i x):Sn l v a g i (Option.bind x fun r=>some (r.1,r.2.1,r.2.2.1,r.2.2.2)):=by rw [mK];exact h
theorem adM {p:aI} {i j:Nat} {t:aD} (hv:fK t.kind t.op p=true) (d:cO l rX i j t) (hk:t.kind<=9) (h1:i < j) (h2:j<=l.length):bO l p i j t false:=.bare hv h1 h2 (d.low hk p)
theorem Ao {k o v:Int} {a g:Bool} (hl:lv k o>=v) (h0:lv k o≠0) (hv:1<=v/\v<=15) (hk:k≠13/\k≠12):fK k o ⟨v,false,a,g,false⟩=true:=by
 have e0:(lv k o==0)=false:=by simpa using h0
 have e1:(k==13)=false:=by simpa using hk.1
 have e2:(k==12)=false:=by simpa using hk.2
 unfold fK posB;rw [e0,e1,e2,gN hv.1,gN hv.2];simp only [Kl,tY,bY,iF,fE,Bool.or_false,Aj,Bool.true_or];exact gN hl
include hl
theorem asP {M:Nat} (S:lu l M) (i:Nat) (ns:List (List UInt8)) (hk:kd l i=6):SnV l i (CW M (aJ M) l (i:Int) false ns):=by
 intro t tg j ns' h;have hlt:=dz (l:=l) (i:=i) (by rw [hk];decide);unfold CW xL at h;rw [bJ hlt,ak,iw (nP hlt) (show l.length<=100000 by omega),ak] at h;dsimp only at h;rw [bI,ak] at h;cases oU:(kd l (i+1)==34) with
 | true=>
  have e34:=eq_of_beq oU;have hlt2:=dz (l:=l) (i:=i+1) (by rw [e34];decide);rw [oU,aB,iw (nP hlt2)<|show l.length<=100000 by omega] at h;obtain ⟨⟨ts,j1,b1,n1⟩,hr,h⟩:=dn.1 h;unfold QO at h;dsimp only at h;cases h;rcases S.ls (i+1+1) ns 35 (.inr rfl) ah _ _ _ hr with ⟨_,e,_⟩|⟨k,q1,q2,q3,q4⟩
  .cases e
  .have:=q3.lt;have hkl:=dz (l:=l) (i:=k) (by rw [q2];decide);refine ⟨k+1,q1,ah,ah,?_,.inr rfl,rfl⟩;rw [<- uM hlt];exact .index hk e34 ah hkl q2 q4 q3
 | false=>
  rw [oU,aA] at h;unfold QO at h;dsimp only at h;cases h;refine ⟨i+1,rfl,ah,hlt,?_,.inl rfl,rfl⟩;rw [<- uM hlt];exact .name hk
theorem VX {en:Int} {k:Nat} {b:Bool} {ns:List (List UInt8)} {x:Bool} {j:Int} (hk:k<=l.length) (h:uJ en l (k:Int) b ns=some (x,j,false)):x=true/\b=false/\kd l k=en/\j=((k+1:Nat):Int):=by
 cases b with
 | true=>rw [ZO] at h;cases h
 | false=>
  by_cases e:kd l k=en
  .rw [ES ns ah e] at h;cases h;exact ⟨rfl,rfl,e,rfl⟩
  .rw [Rt false ns e] at h;cases h
theorem asQ {M:Nat} (S:lu l M) (i:Nat) (ns:List (List UInt8)) (en:Int) (hen:en=33\/en=35) (hi:i<=l.length):SnS l en i (Db M (aJ M) en l (i:Int) false ns):=by
 intro ts j ns' h;unfold Db at h;rw [bI,ak] at h;have go:Option.bind ((aJ M).EF ⟨false,false⟩ l (i:Int) false ns) (fun r8=>(uJ en l r8.2.1 r8.2.2.1 r8.2.2.2).bind fun bM=>some (r8.1,bM.2.1,bM.2.2,r8.2.2.2))=some (ts,j,false,ns')->∃ k:Nat,j=((k+1:Nat):Int)/\kd l k=en/\lg l i k ts/\ts.length<=6:=fun h=>by
  obtain ⟨⟨ET,j1,b1,n1⟩,hr,h⟩:=dn.1 h;obtain ⟨⟨x,j2,b2⟩,ht,h⟩:=dn.1 h;cases h;cases b1 with
  | true=>
   exfalso;unfold uJ at ht;cases ht
  | false=>
   obtain ⟨k,q1,q2,q3⟩:=S.it i ns hi _ _ _ hr;have:=q2.lt;dsimp only at ht;rw [q1] at ht;obtain ⟨_,_,e1,e2⟩:=VX l hl ah ht;exact ⟨k,e2,e1,q2,q3⟩
 cases h1:(kd l i==en) with
 | true=>
  rw [h1,aB,ak] at h;cases h3:(en==33) with
  | true=>
   rw [h3,aB] at h;have e1:=eq_of_beq h1;have e3:=eq_of_beq h3;have hlt:=dz (l:=l) (i:=i) (by rw [e1,e3];decide);rw [iw hi<|show l.length<=100000 by omega] at h;cases h;exact .inl ⟨rfl,e3,by rw [e1,e3],rfl⟩
  | false=>
   rw [h3,aA] at h;exact .inr (go h)
 | false=>
  rw [h1,aA,ak,aA] at h;exact .inr (go h)
end
def asR {l:List av} {i j:Nat} {t:aD} {h:Bool} (d:bO l ⟨14,false,false,false,false⟩ i j t h):bO l ⟨14,true,false,false,false⟩ i j t h:=by
 cases d with
 | par g1 g2 g3 g4 g5=>exact .par g1 g2 g3 g4 g5
 | bare g1 g2 g3 g4=>
  refine .bare ?_ g2 g3 ((adJ l (j - i) i j<|dK _).1 ⟨14,false,false,false,false⟩ ⟨14,true,false,false,false⟩ t g2 (fun h=>h) (fun h=>h) (fun h=>h) g4);have hlv:(14:Int)<=lv t.kind t.op:=qc g1 rfl;have e0:(lv t.kind t.op==0)=false:=by rw [fF];omega
  unfold fK posB;rw [e0];simp only [tY,bY,iF,gN hlv,Bool.or_true,EU];rfl
section
variable (l:List av) (hl:l.length<=3000)
include hl
theorem asT {a g:Bool} {i:Nat} (k:Int) (hk:k=3\/k=4\/k=5) (h:kd l i=k):bO l ⟨15,false,a,g,false⟩ i (i+1) ⟨k - 1,0,jE l i,[],[]⟩ false:=by
 have hlt:=dz (l:=l) (i:=i) (by rw [h];omega);refine .bare ?_ ah hlt (.leaf k hk h);rcases hk with rfl|rfl|rfl
 .show fK 2 0 ⟨15,false,a,g,false⟩=true;exact Ao aH aH aH aH
 .show fK 3 0 ⟨15,false,a,g,false⟩=true;exact Ao aH aH aH aH
 .show fK 4 0 ⟨15,false,a,g,false⟩=true;exact Ao aH aH aH aH
theorem asU {M:Nat} (S:lu l M) (i:Nat) (ns:List (List UInt8)) (a g:Bool) (hi:i<=l.length):Sn l 15 a g i (oN M (aJ M) l (i:Int) false ns):=by
 intro t tg j ns' h;unfold oN at h;rw [aA,bI,ak] at h;have text:∀ (h0:kd l i≠0),xL l (i:Int) false ns=some (jE l i,((i+1:Nat):Int)):=fun h0=>by
  have hlt:=dz (l:=l) (i:=i) h0;unfold xL;rw [bJ hlt,ak,iw hi (show l.length<=100000 by omega),uM hlt]
 have leaf:∀ k:Int,(k=3\/k=4\/k=5)->(kd l i==k)=true->Option.bind (xL l (i:Int) false ns) (fun kN=>some ((⟨(⟨k - 1,0,kN.1,[],[]⟩:aD),false⟩:bQ),kN.2,false,ns))=some (⟨t,tg⟩,j,false,ns')->∃ (k:Nat) (h:Bool),j=(k:Int)/\bO l ⟨15,false,a,g,false⟩ i k t h/\tg=(!h&&dL t.kind):=fun k hk e h=>by
  have e:=eq_of_beq e;rw [text ah,ak] at h;cases h;refine ⟨i+1,false,rfl,asT l hl k hk e,?_⟩;rcases hk with rfl|rfl|rfl<;>rfl
 have call:∀ k:Int,(k=7\/k=8)->kd l i=k->EG M (aJ M) l ((jE l i,((i+1:Nat):Int)),false,ns,k)=some (⟨t,tg⟩,j,false,ns')->∃ (k:Nat) (h:Bool),j=(k:Int)/\bO l ⟨15,false,a,g,false⟩ i k t h/\tg=(!h&&dL t.kind):=fun k hk e h=>by
  have hlt:=dz (l:=l) (i:=i) ah;have hf:fK k 0 ⟨15,false,a,g,false⟩=true:=by rcases hk with rfl|rfl<;>exact Ao aH aH aH aH
  have hnl:(false:Bool)=(!false&&dL k):=by rcases hk with rfl|rfl<;>rfl
  unfold EG at h;obtain ⟨⟨x,j2,b2⟩,ht,h⟩:=dn.1 h;dsimp only at ht h;cases x with
  | false=>
   exfalso;rw [aA] at h;unfold QS at h;dsimp only at h;cases h;obtain ⟨e1,_⟩:=VX l hl ah ht;cases e1
  | true=>
   rw [aB] at h;obtain ⟨⟨ts,j3,b3,n3⟩,hr,h⟩:=dn.1 h;unfold QS at h;dsimp only at h;cases h;cases b2 with
   | true=>
    exfalso;by_cases e:kd l (i+1)=32
    .rw [ES ns ah e] at ht;cases ht
    .rw [Rt false ns e] at ht;cases ht
   | false=>
    obtain ⟨_,_,e1,e2⟩:=VX l hl ah ht;have hlt2:=dz (l:=l) (i:=i+1) (by rw [e1];decide);subst e2;rcases S.ls (i+1+1) ns 33 (.inl rfl) ah _ _ _ hr with ⟨q0,_,q1,q2⟩|⟨k2,q1,q2,q3,q4⟩
    .subst q0;have hlt3:=dz (l:=l) (i:=i+1+1) (by rw [q1];decide);exact ⟨i+3,false,q2,.bare hf ah ah<|.jU k hk e e1 q1,hnl⟩
    .have:=q3.lt;have hkl:=dz (l:=l) (i:=k2) (by rw [q2];decide);exact ⟨k2+1,false,q1,.bare hf ah ah<|.call k hk e e1 ah hkl q2 q4 q3,hnl⟩
 cases h3:(kd l i==3) with
 | true=>rw [h3,aB] at h;exact leaf 3 (.inl rfl) h3 h
 | false=>
  rw [h3,aA] at h;cases h4:(kd l i==4) with
  | true=>rw [h4,aB] at h;exact leaf 4 (.inr<|.inl rfl) h4 h
  | false=>
   rw [h4,aA] at h;cases h5:(kd l i==5) with
   | true=>rw [h5,aB] at h;exact leaf 5 (.inr<|.inr rfl) h5 h
   | false=>
    rw [h5,aA] at h;cases h6:(kd l i==6) with
    | true=>
     rw [h6,aB,mK] at h;obtain ⟨k,q1,q2,q3,q4,q5,q6⟩:=S.vr i ns (eq_of_beq h6) _ _ _ _ h;refine ⟨k,false,q1,adM l ?_ q4 ah q2 q3,?_⟩
     .rcases q5 with e|e<;>rw [e]<;>exact Ao (Dt 15) (show (15:Int)≠0 by decide) aH aH
     .rw [q6];rcases q5 with e|e<;>rw [e]<;>rfl
    | false=>
     rw [h6,aA] at h;unfold Ac at h;dsimp only at h;cases h7:(kd l i==7) with
     | true=>
      have e7:=eq_of_beq h7;have h8:(kd l i==8)=false:=by rw [e7];rfl
      rw [h7,aB,aB,text ah,ak,h8,aA] at h;exact call 7 (.inl rfl) e7 h
     | false=>
      rw [h7,aA] at h;cases h8:(kd l i==8) with
      | true=>
       have e8:=eq_of_beq h8;have hlt:=dz (l:=l) (i:=i) ah;rw [h8,aB,text ah,ak,aB] at h;dsimp only at h;cases hlen:(jE l i==[108,101,110,103,116,104]) with
       | false=>
        rw [hlen,aA,ak,aA] at h;exact call 8 (.inr rfl) e8 h
       | true=>
        rw [hlen,aB,bI,ak,ak] at h;cases h32:(kd l (i+1) !=32) with
        | false=>
         rw [h32,aA] at h;exact call 8 (.inr rfl) e8 h
        | true=>
         rw [h32,aB] at h;cases h;exact ⟨i+1,false,rfl,.bare (show fK 8 0 ⟨15,false,a,g,false⟩=true from Ao aH aH aH aH) ah hlt (.len e8 (by simpa using h32)<|eq_of_beq hlen),rfl⟩
      | false=>
       rw [h8,aA] at h;cases h32:(kd l i==32) with
       | false=>
        rw [h32,aA] at h;cases h
       | true=>
        have e32:=eq_of_beq h32;have hlt:=dz (l:=l) (i:=i) ah;rw [h32,aB,iw hi<|show l.length<=100000 by omega] at h;obtain ⟨⟨⟨t1,nQ⟩,j1,b1,n1⟩,hr,h⟩:=dn.1 h;obtain ⟨⟨x,j2,b2⟩,ht,h⟩:=dn.1 h;cases h;cases b1 with
        | true=>
         exfalso;unfold uJ at ht;cases ht
        | false=>
         obtain ⟨k,hh,q1,q2,q3⟩:=S.ZN (i+1) ns false false hlt _ _ _ _ hr;have:=q2.lt;dsimp only at ht;rw [q1] at ht;obtain ⟨_,_,e1,e2⟩:=VX l hl ah ht;have hkl:=dz (l:=l) (i:=k) (by rw [e1];decide);exact ⟨k+1,true,e2,.par e32 ah hkl q2 e1,rfl⟩
end
section
variable (l:List av) (hl:l.length<=3000)
include hl
theorem aju {M:Nat} (S:lu l M) (i:Nat) (ns:List (List UInt8)) (hk:kd l i=68):ZM l i (rP M (aJ M) l (i:Int) false ns):=by
 intro t tg j ns' h;have hlt:=dz (l:=l) (i:=i) ah;unfold rP at h;have Gj:(kd l i !=68)=false:=by rw [hk];rfl
 rw [aA,bI,ak,Gj,ak,aA,iw (nP hlt) (show l.length<=100000 by omega),bI,ak,Dr,ak] at h;cases hs:(kd l (i+1)==51||kd l (i+1)==52) with
 | true=>
  have hs':kd l (i+1)=51\/kd l (i+1)=52:=by simpa using hs
  rw [hs,aB] at h;obtain ⟨⟨⟨⟨kk,oo,xx,yy,kks⟩,nQ⟩,j1,b1,n1⟩,hr,h⟩:=dn.1 h;unfold JK at h;dsimp only at h;cases h;obtain ⟨k,q1,q2,q3,q4,q5,q6⟩:=S.bf (i+1) ns hs' _ _ _ _ hr;refine ⟨k,q1,ah,q3,?_,rfl,rfl⟩;have q5:kk=9:=q5;subst q5;exact .field hk q2 (h:=false) (.bare (show fK 9 oo ⟨14,true,false,false,false⟩=true from rfl) q2 q3<|q4.low (show (9:Int)<=9 by decide) _)
 | false=>
  rw [hs,aA] at h;obtain ⟨⟨⟨⟨kk,oo,xx,yy,kks⟩,nQ⟩,j1,b1,n1⟩,hr,h⟩:=dn.1 h;unfold JK at h;dsimp only at h;cases h;obtain ⟨k,hh,q1,q2,q3⟩:=S.fd (i+1) ns false false hlt _ _ _ _ hr;have:=q2.lt;exact ⟨k,q1,ah,this.2,.field hk this.1<|asR q2,rfl,rfl⟩
theorem asW {v:Int} {a g:Bool} {i k:Nat} {t:aD} (hv:1<=v/\v<=14) (d:cO l rX i k t) (hL:dL t.kind=true) (h1:i < k) (h2:k<=l.length):bO l ⟨v,false,a,g,false⟩ i k t false:=by
 obtain ⟨g1,g2⟩:=Km hL;have hk:t.kind≠13/\t.kind≠12:=ah;exact adM l (Ao ah ah ⟨hv.1,ah⟩ hk) d g2 h1 h2
theorem asX {M:Nat} (S:lu l M) (i:Nat) (ns:List (List UInt8)) (a g:Bool) (hi:i<=l.length):Sn l 14 a g i (rP M (aJ M) l (i:Int) false ns):=by
 intro t tg j ns' h;by_cases h68:kd l i=68
 .obtain ⟨k,q1,q2,q3,q4,q5,q6⟩:=aju l hl S i ns h68 _ _ _ _ h;exact ⟨k,false,q1,asW l hl aH q4 q5 q2 q3,by rw [q6,q5];rfl⟩
 .have Gj:(kd l i !=68)=true:=by simpa using h68
  unfold rP at h;rw [aA,bI,ak,Gj,ak,aB,mK] at h;exact Sn.down l (S.pr i ns a g hi) aH aH _ _ _ _ h
theorem asY {M:Nat} (S:lu l M) (i:Nat) (ns:List (List UInt8)):ZM l i (Ae M (aJ M) l (i:Int) false ns):=by
 intro t tg j ns' h;unfold Ae at h;rw [aA,bI,ak] at h;cases h68:(kd l i==68) with
 | true=>
  rw [h68,aB,mK] at h;exact S.f8 i ns (eq_of_beq h68) _ _ _ _ h
 | false=>
  rw [h68,aA,ak] at h;cases h6:(kd l i==6) with
  | true=>
   rw [h6,aB,mK] at h;obtain ⟨k,q1,q2,q3,q4,q5,q6⟩:=S.vr i ns (eq_of_beq h6) _ _ _ _ h;exact ⟨k,q1,q2,q3,q4,by rcases q5 with e|e<;>rw [e]<;>rfl,q6⟩
  | false=>
   rw [h6,aA] at h;unfold Vq at h;cases h
theorem asZ {M:Nat} (S:lu l M) (i:Nat) (ns:List (List UInt8)) (hk:kd l i=51\/kd l i=52):SnB l i (Gy M (aJ M) l (i:Int) false ns):=by
 intro t tg j ns' h;have hlt:=dz (l:=l) (i:=i) ah;unfold Gy at h;rw [bI,ak,iw (nP hlt)<|show l.length<=100000 by omega] at h;obtain ⟨⟨⟨t1,nQ⟩,j1,b1,n1⟩,hr,h⟩:=dn.1 h;cases h;obtain ⟨k,q1,q2,q3,q4,q5,q6⟩:=S.lvl (i+1) ns hlt _ _ _ _ hr;exact ⟨k,q1,ah,q3,.pre (kd l i) hk rfl q5 q2 q4,rfl,rfl⟩
theorem ata {M:Nat} (S:lu l M) (i:Nat) (ns:List (List UInt8)) (a g:Bool) (hi:i<=l.length):Sn l 13 a g i (Af M (aJ M) l (i:Int) false ns):=by
 intro t tg j ns' h;unfold Af at h;rw [bY,aB,bI,ak,Dr,ak,ak] at h;cases hs:(kd l i==51||kd l i==52) with
 | true=>
  have hs':kd l i=51\/kd l i=52:=by simpa using hs
  rw [hs,aB,mK] at h;obtain ⟨k,q1,q2,q3,q4,q5,q6⟩:=S.bf i ns hs' _ _ _ _ h;refine ⟨k,false,q1,adM l ?_ q4 ah q2 q3,by rw [q6,q5];rfl⟩;rw [q5];exact Ao (Dt 13) (show (13:Int)≠0 by decide) aH aH
 | false=>
  rw [hs,aA] at h;obtain ⟨⟨⟨t1,nQ⟩,j1,b1,n1⟩,hr,h⟩:=dn.1 h;cases b1 with
  | true=>
   exfalso;rw [show (bif true then some true else _:Option Bool)=some true from rfl,ak,aB] at h;cases h
  | false=>
   obtain ⟨k,hh,q1,q2,q3⟩:=S.fd i ns a g hi _ _ _ _ hr;have hq:=q2.lt;subst q1;rw [aA] at h;cases nQ with
   | false=>
    rw [show (bif (!false) then some true else _:Option Bool)=some true from rfl,ak,aB] at h;cases h;exact ⟨k,hh,rfl,q2.down aH aH,q3⟩
   | true=>
    dsimp only at h;rw [fE,aA,bI,ak,Dr,ak,ak] at h;cases hs2:(kd l k==51||kd l k==52) with
    | false=>
     rw [hs2,bY,aB] at h;cases h;exact ⟨k,hh,rfl,q2.down aH aH,q3⟩
    | true=>
     have hs3:kd l k=51\/kd l k=52:=by simpa using hs2
     have hkl:=dz (l:=l) (i:=k) ah;rw [hs2,fE,aA,ak,iw (nP hkl)<|show l.length<=100000 by omega] at h;cases h;cases q2 with
     | par=>cases q3
     | bare g1 g2 g3 g4=>
      have hL:dL t1.kind=true:=by
       rw [bY,iF] at q3;exact q3.symm
      obtain ⟨_,zC⟩:=Km hL;refine ⟨k+1,false,rfl,.bare ?_ ah hkl (.post (kd l k) hs3 rfl hL g2<|g4.low zC rX),rfl⟩;exact Ao (Dt 13) (show (13:Int)≠0 by decide) aH (show (10:Int)≠13/\(10:Int)≠12 by decide)
theorem atb {M:Nat} (S:lu l M) (i:Nat) (ns:List (List UInt8)) (a g:Bool) (hi:i<=l.length):Sn l 12 a g i (CY M (aJ M) ⟨a,g⟩ l (i:Int) false ns):=by
 intro t tg j ns' h;unfold CY at h;obtain ⟨⟨⟨t1,nQ⟩,j1,b1,n1⟩,hr,h⟩:=dn.1 h;cases b1 with
 | true=>
  exfalso;rw [show (bif true then some true else _:Option Bool)=some true from rfl,ak,aB] at h;cases h
 | false=>
  obtain ⟨k,hh,q1,q2,q3⟩:=S.ic i ns a g hi _ _ _ _ hr;have hq:=q2.lt;subst q1;dsimp only at h;rw [aA,bI,ak,ak] at h;cases Du:(kd l k !=60) with
  | true=>
   rw [Du,aB] at h;cases h;exact ⟨k,hh,rfl,q2.down aH aH,q3⟩
  | false=>
   have e60:kd l k=60:=by simpa using Du
   have hkl:=dz (l:=l) (i:=k) ah;rw [Du,aA,iw (nP hkl)<|show l.length<=100000 by omega] at h;obtain ⟨⟨⟨t2,yh⟩,j2,b2,n2⟩,hr2,h⟩:=dn.1 h;cases h;obtain ⟨k2,ND,w1,w2,w3⟩:=S.un (k+1) n1 a g hkl _ _ _ _ hr2;have ho:bF 60=12:=rfl;exact ⟨k2,false,w1,NC 60 ho aH aH (fun _=>aH) e60 (.inr ⟨by rw [ho];decide,rfl⟩) q2 w2,rfl⟩
theorem atc {M:Nat} (S:lu l M) (i:Nat) (ns:List (List UInt8)) (a g:Bool) (hi:i<=l.length):Sn l 11 a g i (Ag M (aJ M) ⟨a,g⟩ l (i:Int) false ns):=by
 intro t tg j ns' h;unfold Ag at h;rw [bI,ak,aA] at h;by_cases ho:kd l i=55\/kd l i=56\/kd l i=61
 .have e:(bif (kd l i !=55) then bif (kd l i !=56) then some (kd l i !=61) else some false else some false)=some false:=by
   rcases ho with e|e|e<;>rw [e]<;>rfl
  have hlt:=dz (l:=l) (i:=i) ah;rw [e,ak,aA,iw hi<|show l.length<=100000 by omega] at h;obtain ⟨⟨⟨t2,yh⟩,j2,b2,n2⟩,hr2,h⟩:=dn.1 h;cases h;obtain ⟨k,hh,w1,w2,w3⟩:=S.un (i+1) ns a g hlt _ _ _ _ hr2;have:=w2.lt;refine ⟨k,false,w1,.bare ?_ ah this.2 (.unary (kd l i) ho rfl this.1 w2),rfl⟩;exact Ao (Dt 11) (show (11:Int)≠0 by decide) aH (show (11:Int)≠13/\(11:Int)≠12 by decide)
 .have e:(bif (kd l i !=55) then bif (kd l i !=56) then some (kd l i !=61) else some false else some false)=some true:=by
   have f:∀ {z:Int},kd l i≠z->(kd l i !=z)=true:=fun h=>by simpa using h
   rw [f fun e=>ho<|.inl e,f fun e=>ho<|.inr<|.inl e,f fun e=>ho<|.inr<|.inr e];rfl
  rw [e,ak,aB,mK] at h;exact Sn.down l (S.pw i ns a g hi) aH aH _ _ _ _ h
end
def ZP {o v:Int} (h:bF o=v):iY o=bif v==3 then (3,4) else bif v==4 then (4,5) else bif v==6 then (7,7) else bif v==7 then (8,8) else bif v==8 then (8,9) else bif v==9 then (9,10) else bif v==10 then (10,11) else (13,11):=by
 unfold iY;rw [h]
def ZQ {x:Option Bool} {f:Bool->Option (bQ×Int×Bool×List (List UInt8))}:Option.bind (bif true then some true else x) f=f true:=rfl
section
variable (l:List av) (hl:l.length<=3000) (hc:∀ k,kd l k≠2)
include hl
theorem atd {M:Nat} (S:lu l M) (N:Nat) (a g:Bool) (i:Nat):∀ (n k:Nat) (k0 o0:Int) (x0 y0:List UInt8) (iy:List aD) (tg h:Bool) (ns:List (List UInt8)),bO l ⟨10,false,a,g,false⟩ i k ⟨k0,o0,x0,y0,iy⟩ h->tg=(!h&&dL k0)->Sn l 10 a g i (vP N (aJ M) l n (⟨a,g⟩,(k:Int),false,k0,o0,x0,y0,iy,tg,ns)):=by
 intro n;induction n with
 | zero=>intro k k0 o0 x0 y0 iy tg h ns d e t GV j ns' hx;cases hx
 | succ n ih=>
  intro k k0 o0 x0 y0 iy tg h ns d e t GV j ns' hx;have hk:=d.lt.2;rw [vP,bY,aB,bI,ak,GX,ak,ak] at hx;cases ht:(bF (kd l k)==10) with
  | false=>
   rw [ht,aA] at hx;cases hx;exact ⟨k,h,rfl,d,e⟩
  | true=>
   rw [ht,aB] at hx;have ho:bF (kd l k)=10:=eq_of_beq ht;have nO:kd l k≠99:=fun e=>by rw [e] at ho;exact absurd ho aH
   have Ru:kd l k≠62:=fun e=>by rw [e] at ho;exact absurd ho aH
   have hkl:k < l.length:=dz fun e=>by rw [e] at ho;exact absurd ho aH
   rw [ak,iw hk<|show l.length<=100000 by omega] at hx;obtain ⟨⟨⟨t2,yh⟩,j2,b2,n2⟩,hr,hx⟩:=dn.1 hx;rw [show vG (kd l k) (⟨⟨k0,o0,x0,y0,iy⟩,tg⟩:bQ) (⟨t2,yh⟩:bQ)=some ⟨⟨12,kd l k,[],[],[⟨k0,o0,x0,y0,iy⟩,t2]⟩,false⟩ from rfl,ak] at hx;cases b2 with
   | true=>
    exfalso;cases n with
    | zero=>cases hx
    | succ n=>rw [vP] at hx;cases hx
   | false=>
    obtain ⟨k2,h2,q1,q2,q3⟩:=S.un (k+1) ns a g hkl _ _ _ _ hr;subst q1;have hsd:=ZP ho;exact ih k2 12 (kd l k) [] [] _ false false n2 (NC (kd l k) ho aH nO (fun _=>Ru) rfl (.inr ⟨by rw [ho];decide,rfl⟩) (by rw [hsd];exact d)<|by rw [hsd];exact q2) rfl _ _ _ _ hx
theorem ate {M:Nat} (S:lu l M) (i:Nat) (ns:List (List UInt8)) (a g:Bool) (hi:i<=l.length):Sn l 10 a g i (MU M (aJ M) ⟨a,g⟩ l (i:Int) false ns):=by
 intro t tg j ns' h;unfold MU at h;obtain ⟨⟨⟨⟨k0,o0,x0,y0,iy⟩,nQ⟩,j1,b1,n1⟩,hr,h⟩:=dn.1 h;cases b1 with
 | true=>
  exfalso;cases M with
  | zero=>cases h
  | succ M=>rw [vP] at h;cases h
 | false=>
  obtain ⟨k,hh,q1,q2,q3⟩:=S.un i ns a g hi _ _ _ _ hr;subst q1;exact atd l hl S M a g i M k k0 o0 x0 y0 iy nQ hh n1 (q2.down aH aH) q3 _ _ _ _ h
theorem atf {M:Nat} (S:lu l M) (N:Nat) (a g:Bool) (i:Nat):∀ (n k:Nat) (k0 o0:Int) (x0 y0:List UInt8) (iy:List aD) (tg h:Bool) (ns:List (List UInt8)),bO l ⟨9,false,a,g,false⟩ i k ⟨k0,o0,x0,y0,iy⟩ h->tg=(!h&&dL k0)->Sn l 9 a g i (vQ N (aJ M) l n (⟨a,g⟩,(k:Int),false,k0,o0,x0,y0,iy,tg,ns)):=by
 intro n;induction n with
 | zero=>intro k k0 o0 x0 y0 iy tg h ns d e t GV j ns' hx;cases hx
 | succ n ih=>
  intro k k0 o0 x0 y0 iy tg h ns d e t GV j ns' hx;have hk:=d.lt.2;rw [vQ,bY,aB,bI,ak,GX,ak,ak] at hx;cases ht:(bF (kd l k)==9) with
  | false=>
   rw [ht,aA] at hx;cases hx;exact ⟨k,h,rfl,d,e⟩
  | true=>
   rw [ht,aB] at hx;have ho:bF (kd l k)=9:=eq_of_beq ht;have nO:kd l k≠99:=fun e=>by rw [e] at ho;exact absurd ho aH
   have Ru:kd l k≠62:=fun e=>by rw [e] at ho;exact absurd ho aH
   have hkl:k < l.length:=dz fun e=>by rw [e] at ho;exact absurd ho aH
   rw [ak,iw hk<|show l.length<=100000 by omega] at hx;obtain ⟨⟨⟨t2,yh⟩,j2,b2,n2⟩,hr,hx⟩:=dn.1 hx;rw [show vG (kd l k) (⟨⟨k0,o0,x0,y0,iy⟩,tg⟩:bQ) (⟨t2,yh⟩:bQ)=some ⟨⟨12,kd l k,[],[],[⟨k0,o0,x0,y0,iy⟩,t2]⟩,false⟩ from rfl,ak] at hx;cases b2 with
   | true=>
    exfalso;cases n with
    | zero=>cases hx
    | succ n=>rw [vQ] at hx;cases hx
   | false=>
    obtain ⟨k2,h2,q1,q2,q3⟩:=S.mu (k+1) ns a g hkl _ _ _ _ hr;subst q1;have hsd:=ZP ho;exact ih k2 12 (kd l k) [] [] _ false false n2 (NC (kd l k) ho aH nO (fun _=>Ru) rfl (.inr ⟨by rw [ho];decide,rfl⟩) (by rw [hsd];exact d)<|by rw [hsd];exact q2) rfl _ _ _ _ hx
theorem atg {M:Nat} (S:lu l M) (i:Nat) (ns:List (List UInt8)) (a g:Bool) (hi:i<=l.length):Sn l 9 a g i (MV M (aJ M) ⟨a,g⟩ l (i:Int) false ns):=by
 intro t tg j ns' h;unfold MV at h;obtain ⟨⟨⟨⟨k0,o0,x0,y0,iy⟩,nQ⟩,j1,b1,n1⟩,hr,h⟩:=dn.1 h;cases b1 with
 | true=>
  exfalso;cases M with
  | zero=>cases h
  | succ M=>rw [vQ] at h;cases h
 | false=>
  obtain ⟨k,hh,q1,q2,q3⟩:=S.mu i ns a g hi _ _ _ _ hr;subst q1;exact atf l hl S M a g i M k k0 o0 x0 y0 iy nQ hh n1 (q2.down aH aH) q3 _ _ _ _ h
theorem ath {M:Nat} (S:lu l M) (N:Nat) (a g:Bool) (i:Nat):∀ (n k:Nat) (k0 o0:Int) (x0 y0:List UInt8) (iy:List aD) (tg h:Bool) (ns:List (List UInt8)),bO l ⟨8,false,a,g,false⟩ i k ⟨k0,o0,x0,y0,iy⟩ h->tg=(!h&&dL k0)->Sn l 8 a g i (vR N (aJ M) l n (⟨a,g⟩,(k:Int),false,k0,o0,x0,y0,iy,tg,ns)):=by
 intro n;induction n with
 | zero=>intro k k0 o0 x0 y0 iy tg h ns d e t GV j ns' hx;cases hx
 | succ n ih=>
  intro k k0 o0 x0 y0 iy tg h ns d e t GV j ns' hx;have hk:=d.lt.2;rw [vR,bY,aB,bI,ak,VU,ak,ak] at hx;cases ht:lX (kd l k) with
  | false=>
   rw [ht,aA] at hx;cases hx;exact ⟨k,h,rfl,d,e⟩
  | true=>
   rw [ht,aB] at hx;have hkl:k < l.length:=dz fun e=>by rw [e] at ht;cases ht
   obtain ⟨⟨⟨t2,yh⟩,j2,b2,n2⟩,hr,hx⟩:=dn.1 hx;rw [show vG 99 (⟨⟨k0,o0,x0,y0,iy⟩,tg⟩:bQ) (⟨t2,yh⟩:bQ)=some ⟨⟨12,99,[],[],[⟨k0,o0,x0,y0,iy⟩,t2]⟩,false⟩ from rfl,ak] at hx;cases b2 with
   | true=>
    exfalso;cases n with
    | zero=>cases hx
    | succ n=>rw [vR] at hx;cases hx
   | false=>
    obtain ⟨k2,h2,q1,q2,q3⟩:=S.ad k ns a g hk _ _ _ _ hr;subst q1;have q2':=(ajp l (k2 - k) k k2 (dK _) ht).2 _ _ _ _ _ q2;have dl:=d.lt;have ql:=q2.lt;have h2e:((8:Int)==0)=false:=rfl;refine ih k2 12 99 [] [] _ false false n2 (.bare ?_ ah ql.2 (.cat dl.1 ql.1 d q2')) rfl _ _ _ _ hx;show fK 12 99 ⟨8,false,a,g,false⟩=true;cases a<;>cases g<;>rfl
theorem ati {M:Nat} (S:lu l M) (i:Nat) (ns:List (List UInt8)) (a g:Bool) (hi:i<=l.length):Sn l 8 a g i (MW M (aJ M) ⟨a,g⟩ l (i:Int) false ns):=by
 intro t tg j ns' h;unfold MW at h;obtain ⟨⟨⟨⟨k0,o0,x0,y0,iy⟩,nQ⟩,j1,b1,n1⟩,hr,h⟩:=dn.1 h;cases b1 with
 | true=>
  exfalso;cases M with
  | zero=>cases h
  | succ M=>rw [vR] at h;cases h
 | false=>
  obtain ⟨k,hh,q1,q2,q3⟩:=S.ad i ns a g hi _ _ _ _ hr;subst q1;exact ath l hl S M a g i M k k0 o0 x0 y0 iy nQ hh n1 (q2.down aH aH) q3 _ _ _ _ h
theorem atj (hc:∀ k,kd l k≠2) {M:Nat} (S:lu l M) (N:Nat) (a g:Bool) (i:Nat):∀ (n k:Nat) (k0 o0:Int) (x0 y0:List UInt8) (iy:List aD) (tg h:Bool) (ns:List (List UInt8)),bO l ⟨4,false,a,g,false⟩ i k ⟨k0,o0,x0,y0,iy⟩ h->tg=(!h&&dL k0)->Sn l 4 a g i (vT N (aJ M) l n (⟨a,g⟩,(k:Int),false,k0,o0,x0,y0,iy,tg,ns)):=by
 intro n;induction n with
 | zero=>intro k k0 o0 x0 y0 iy tg h ns d e t GV j ns' hx;cases hx
 | succ n ih=>
  intro k k0 o0 x0 y0 iy tg h ns d e t GV j ns' hx;have hk:=d.lt.2;rw [vT,bY,aB,bI,ak,ak] at hx;cases ht:(kd l k==45) with
  | false=>
   rw [ht,aA] at hx;cases hx;exact ⟨k,h,rfl,d,e⟩
  | true=>
   rw [ht,aB] at hx;have hkd:kd l k=45:=eq_of_beq ht;have hkl:k < l.length:=dz ah;have ho:bF 45=4:=rfl;rw [iw hk<|show l.length<=100000 by omega] at hx;obtain ⟨⟨f,n1⟩,hf,hx⟩:=dn.1 hx;obtain ⟨e1,f',e2,hln,hfl⟩:=adK l hl hc N ns N (k+1) f n1 hkl hf;subst e2;obtain ⟨⟨⟨t2,yh⟩,j2,b2,n2⟩,hr,hx⟩:=dn.1 hx;rw [show vG 45 (⟨⟨k0,o0,x0,y0,iy⟩,tg⟩:bQ) (⟨t2,yh⟩:bQ)=some ⟨⟨12,45,[],[],[⟨k0,o0,x0,y0,iy⟩,t2]⟩,false⟩ from rfl,ak] at hx;cases b2 with
   | true=>
    exfalso;cases n with
    | zero=>cases hx
    | succ n=>rw [vT] at hx;cases hx
   | false=>
    obtain ⟨k2,h2,q1,q2,q3⟩:=S.inn f' n1 a g hfl _ _ _ _ hr;subst q1;exact ih k2 12 45 [] [] _ false false n2 (NC 45 ho aH aH (fun _=>aH) hkd (.inl ⟨by rw [ho];decide,hln⟩) d q2) rfl _ _ _ _ hx
theorem atl (hc:∀ k,kd l k≠2) {M:Nat} (S:lu l M) (i:Nat) (ns:List (List UInt8)) (a g:Bool) (hi:i<=l.length):Sn l 4 a g i (Na M (aJ M) ⟨a,g⟩ l (i:Int) false ns):=by
 intro t tg j ns' h;unfold Na at h;obtain ⟨⟨⟨⟨k0,o0,x0,y0,iy⟩,nQ⟩,j1,b1,n1⟩,hr,h⟩:=dn.1 h;cases b1 with
 | true=>
  exfalso;cases M with
  | zero=>cases h
  | succ M=>rw [vT] at h;cases h
 | false=>
  obtain ⟨k,hh,q1,q2,q3⟩:=S.inn i ns a g hi _ _ _ _ hr;subst q1;exact atj l hl hc S M a g i M k k0 o0 x0 y0 iy nQ hh n1 (q2.down aH aH) q3 _ _ _ _ h
theorem atm (hc:∀ k,kd l k≠2) {M:Nat} (S:lu l M) (N:Nat) (a g:Bool) (i:Nat):∀ (n k:Nat) (k0 o0:Int) (x0 y0:List UInt8) (iy:List aD) (tg h:Bool) (ns:List (List UInt8)),bO l ⟨3,false,a,g,false⟩ i k ⟨k0,o0,x0,y0,iy⟩ h->tg=(!h&&dL k0)->Sn l 3 a g i (vU N (aJ M) l n (⟨a,g⟩,(k:Int),false,k0,o0,x0,y0,iy,tg,ns)):=by
 intro n;induction n with
 | zero=>intro k k0 o0 x0 y0 iy tg h ns d e t GV j ns' hx;cases hx
 | succ n ih=>
  intro k k0 o0 x0 y0 iy tg h ns d e t GV j ns' hx;have hk:=d.lt.2;rw [vU,bY,aB,bI,ak,ak] at hx;cases ht:(kd l k==44) with
  | false=>
   rw [ht,aA] at hx;cases hx;exact ⟨k,h,rfl,d,e⟩
  | true=>
   rw [ht,aB] at hx;have hkd:kd l k=44:=eq_of_beq ht;have hkl:k < l.length:=dz ah;have ho:bF 44=3:=rfl;rw [iw hk<|show l.length<=100000 by omega] at hx;obtain ⟨⟨f,n1⟩,hf,hx⟩:=dn.1 hx;obtain ⟨e1,f',e2,hln,hfl⟩:=adK l hl hc N ns N (k+1) f n1 hkl hf;subst e2;obtain ⟨⟨⟨t2,yh⟩,j2,b2,n2⟩,hr,hx⟩:=dn.1 hx;rw [show vG 44 (⟨⟨k0,o0,x0,y0,iy⟩,tg⟩:bQ) (⟨t2,yh⟩:bQ)=some ⟨⟨12,44,[],[],[⟨k0,o0,x0,y0,iy⟩,t2]⟩,false⟩ from rfl,ak] at hx;cases b2 with
   | true=>
    exfalso;cases n with
    | zero=>cases hx
    | succ n=>rw [vU] at hx;cases hx
   | false=>
    obtain ⟨k2,h2,q1,q2,q3⟩:=S.an f' n1 a g hfl _ _ _ _ hr;subst q1;exact ih k2 12 44 [] [] _ false false n2 (NC 44 ho aH aH (fun _=>aH) hkd (.inl ⟨by rw [ho];decide,hln⟩) d q2) rfl _ _ _ _ hx
theorem atn (hc:∀ k,kd l k≠2) {M:Nat} (S:lu l M) (i:Nat) (ns:List (List UInt8)) (a g:Bool) (hi:i<=l.length):Sn l 3 a g i (Nb M (aJ M) ⟨a,g⟩ l (i:Int) false ns):=by
 intro t tg j ns' h;unfold Nb at h;obtain ⟨⟨⟨⟨k0,o0,x0,y0,iy⟩,nQ⟩,j1,b1,n1⟩,hr,h⟩:=dn.1 h;cases b1 with
 | true=>
  exfalso;cases M with
  | zero=>cases h
  | succ M=>rw [vU] at h;cases h
 | false=>
  obtain ⟨k,hh,q1,q2,q3⟩:=S.an i ns a g hi _ _ _ _ hr;subst q1;exact atm l hl hc S M a g i M k k0 o0 x0 y0 iy nQ hh n1 (q2.down aH aH) q3 _ _ _ _ h
end
section
variable (l:List av) (hl:l.length<=3000)
include hl
theorem ato {M:Nat} (S:lu l M) (i:Nat) (ns:List (List UInt8)) (a g:Bool) (hi:i<=l.length):Sn l 7 a g i (GH M (aJ M) ⟨a,g⟩ l (i:Int) false ns):=by
 intro t tg j ns' h;unfold GH at h;obtain ⟨⟨⟨t1,nQ⟩,j1,b1,n1⟩,hr,h⟩:=dn.1 h;cases b1 with
 | true=>exfalso;rw [ZQ,aB] at h;cases h
 | false=>
  obtain ⟨k,hh,q1,q2,q3⟩:=S.ct i ns a g hi _ _ _ _ hr;have hq:=q2.lt;subst q1;dsimp only at h;rw [aA,bI,ak,GX,ak,ak] at h;have back:(some ((⟨t1,nQ⟩:bQ),((k:Nat):Int),false,n1):Option _)=some (⟨t,tg⟩,j,false,ns')->∃ (k:Nat) (h:Bool),j=(k:Int)/\bO l ⟨7,false,a,g,false⟩ i k t h/\tg=(!h&&dL t.kind):=fun h=>by
   cases h;exact ⟨k,hh,rfl,q2.down aH aH,q3⟩
  cases h7:(bF (kd l k) !=7) with
  | true=>
   rw [h7,aB,ak,aB] at h;exact back h
  | false=>
   have ho:bF (kd l k)=7:=by simpa using h7
   have nO:kd l k≠99:=fun e=>by rw [e] at ho;exact absurd ho aH
   have hkl:k < l.length:=dz fun e=>by rw [e] at ho;exact absurd ho aH
   rw [h7,aA] at h;have hb:(bif g then some (kd l k==62) else some false)=some (g&&kd l k==62):=by cases g<;>rfl
   rw [hb,ak] at h;cases hg:(g&&kd l k==62) with
   | true=>rw [hg,aB] at h;exact back h
   | false=>
    rw [hg,aA,ak,iw (nP hkl)<|show l.length<=100000 by omega] at h;obtain ⟨⟨⟨t2,yh⟩,j2,b2,n2⟩,hr2,h⟩:=dn.1 h;cases h;obtain ⟨k2,ND,w1,w2,w3⟩:=S.ct (k+1) n1 a g hkl _ _ _ _ hr2;have hsd:=ZP ho;refine ⟨k2,false,w1,NC (kd l k) ho aH nO (fun eg=>?_) rfl (.inr ⟨by rw [ho];decide,rfl⟩) (by rw [hsd];exact q2) (by rw [hsd];exact w2),rfl⟩;rw [eg,iF] at hg;simpa using hg
theorem atp {M:Nat} (S:lu l M) (i:Nat) (ns:List (List UInt8)) (a g:Bool) (hi:i<=l.length):Sn l 6 a g i (GI M (aJ M) ⟨a,g⟩ l (i:Int) false ns):=by
 intro t tg j ns' h;unfold GI at h;obtain ⟨⟨⟨t1,nQ⟩,j1,b1,n1⟩,hr,h⟩:=dn.1 h;cases b1 with
 | true=>exfalso;rw [ZQ,aB] at h;cases h
 | false=>
  obtain ⟨k,hh,q1,q2,q3⟩:=S.cm i ns a g hi _ _ _ _ hr;have hq:=q2.lt;subst q1;dsimp only at h;rw [aA,bI,ak,ak] at h;have hb:(bif (kd l k !=67) then some (kd l k !=46) else some false)=some (kd l k !=67&&kd l k !=46):=by cases (kd l k !=67)<;>rfl
  rw [hb,ak] at h;cases ho:(kd l k !=67&&kd l k !=46) with
  | true=>
   rw [ho,aB] at h;cases h;exact ⟨k,hh,rfl,q2.down aH aH,q3⟩
  | false=>
   have ho':kd l k=67\/kd l k=46:=by
    by_cases e:kd l k=67
    .exact .inl e
    .right;have e1:(kd l k !=67)=true:=by simpa using e
     rw [e1,iF] at ho;simpa using ho
   have hkl:k < l.length:=dz ah;have hol:bF (kd l k)=6:=by rcases ho' with e|e<;>rw [e]<;>rfl
   rw [ho,aA,ak,iw (nP hkl)<|show l.length<=100000 by omega] at h;obtain ⟨⟨⟨t2,yh⟩,j2,b2,n2⟩,hr2,h⟩:=dn.1 h;cases h;obtain ⟨k2,ND,w1,w2,w3⟩:=S.cm (k+1) n1 a g hkl _ _ _ _ hr2;have hsd:=ZP hol;exact ⟨k2,false,w1,NC (kd l k) hol aH ah (fun _=>ah) rfl (.inr ⟨by rw [hol];decide,rfl⟩) (by rw [hsd];exact q2) (by rw [hsd];exact w2),rfl⟩
theorem atq {M:Nat} (S:lu l M) (i:Nat) (ns:List (List UInt8)) (a g:Bool) (hi:i<=l.length):Sn l 2 a g i (Df M (aJ M) ⟨a,g⟩ l (i:Int) false ns):=by
 intro t tg j ns' h;unfold Df at h;obtain ⟨⟨⟨t1,nQ⟩,j1,b1,n1⟩,hr,h⟩:=dn.1 h;cases b1 with
 | true=>exfalso;rw [ZQ,aB] at h;cases h
 | false=>
  obtain ⟨k,hh,q1,q2,q3⟩:=S.orr i ns a g hi _ _ _ _ hr;have hq:=q2.lt;subst q1;dsimp only at h;rw [aA,bI,ak,ak] at h;cases dI:(kd l k !=65) with
  | true=>
   rw [dI,aB] at h;cases h;exact ⟨k,hh,rfl,q2.down aH aH,q3⟩
  | false=>
   have e65:kd l k=65:=by simpa using dI
   have hkl:k < l.length:=dz ah;rw [dI,aA,iw (nP hkl)<|show l.length<=100000 by omega] at h;obtain ⟨⟨⟨t2,yh⟩,j2,b2,n2⟩,hr2,h⟩:=dn.1 h;obtain ⟨⟨x,j3,b3⟩,ht,h⟩:=dn.1 h;dsimp only at ht h;cases b3 with
   | true=>exfalso;rw [aB] at h;cases h
   | false=>
    rw [aA] at h;cases b2 with
    | true=>
     exfalso;unfold uJ at ht;cases ht
    | false=>
     obtain ⟨k2,ND,w1,w2,w3⟩:=S.cd (k+1) n1 a g hkl _ _ _ _ hr2;have hw:=w2.lt;subst w1;obtain ⟨_,_,e1,e2⟩:=VX l hl hw.2 ht;have GY:k2 < l.length:=dz ah;subst e2;obtain ⟨⟨⟨t4,tg4⟩,j4,b4,n4⟩,hr4,h⟩:=dn.1 h;cases h;obtain ⟨k4,hh4,z1,z2,z3⟩:=S.cd (k2+1) n2 a g GY _ _ _ _ hr4;have hz:=z2.lt;refine ⟨k4,false,z1,.bare ?_ ah hz.2 (.cond hq.1 e65 hw.1 e1 hz.1 q2 w2 z2),rfl⟩;exact Ao (Dt 2) (show (2:Int)≠0 by decide) aH (show (14:Int)≠13/\(14:Int)≠12 by decide)
theorem atr {M:Nat} (S:lu l M) (i:Nat) (ns:List (List UInt8)) (a g:Bool) (hi:i<=l.length):Sn l 1 a g i (Dh M (aJ M) ⟨a,g⟩ l (i:Int) false ns):=by
 intro t tg j ns' h;unfold Dh at h;obtain ⟨⟨⟨t1,nQ⟩,j1,b1,n1⟩,hr,h⟩:=dn.1 h;cases b1 with
 | true=>exfalso;rw [ZQ,aB] at h;cases h
 | false=>
  obtain ⟨k,hh,q1,q2,q3⟩:=S.cd i ns a g hi _ _ _ _ hr;have hq:=q2.lt;subst q1;dsimp only at h;rw [aA] at h;have back:(some ((⟨t1,nQ⟩:bQ),((k:Nat):Int),false,n1):Option _)=some (⟨t,tg⟩,j,false,ns')->∃ (k:Nat) (h:Bool),j=(k:Int)/\bO l ⟨1,false,a,g,false⟩ i k t h/\tg=(!h&&dL t.kind):=fun h=>by
   cases h;exact ⟨k,hh,rfl,q2.down aH aH,q3⟩
  cases nQ with
  | false=>
   rw [show (bif (!false) then some true else _:Option Bool)=some true from rfl,ak,aB] at h;exact back h
  | true=>
   rw [fE,aA,bI,ak,adN,ak,ak] at h;cases ha:oQ (kd l k) with
   | false=>rw [ha,bY,aB] at h;exact back h
   | true=>
    have hal:=GK ha;have hkl:k < l.length:=dz ah;rw [ha,fE,aA,ak,iw (nP hkl)<|show l.length<=100000 by omega] at h;obtain ⟨⟨⟨t2,yh⟩,j2,b2,n2⟩,hr2,h⟩:=dn.1 h;cases h;obtain ⟨k2,ND,w1,w2,w3⟩:=S.ZN (k+1) n1 a g hkl _ _ _ _ hr2;have hw:=w2.lt;cases q2 with
    | par=>cases q3
    | bare g1 g2 g3 g4=>
     have hL:dL t1.kind=true:=by
      rw [bY,iF] at q3;exact q3.symm
     obtain ⟨_,zC⟩:=Km hL;refine ⟨k2,false,w1,.bare ?_ ah hw.2 (.assign (kd l k) ha rfl g2 hw.1 hL (g4.low zC rX) w2),rfl⟩;exact Ao (Dt 1) (show (1:Int)≠0 by decide) aH (show (15:Int)≠13/\(15:Int)≠12 by decide)
theorem att (hc:∀ k,kd l k≠2) {M:Nat} (S:lu l M) (N:Nat) (i:Nat):∀ (n f:Nat) (acc:List aD) (ns:List (List UInt8)),f<=l.length->acc.length<=5->(∀ j u us,lg l f j (u::us)->lg l i j (acc++u::us))->SnI l i (BO N (aJ M) l n (⟨false,false⟩,(f:Int),false,acc,ns)):=by
 intro n;induction n with
 | zero=>intro f acc ns hf ha hP ts j ns' h;cases h
 | succ n ih=>
  intro f acc ns hf ha hP ts j ns' h;rw [BO,bY,aB] at h;obtain ⟨⟨⟨t1,nQ⟩,j1,b1,n1⟩,hr,h⟩:=dn.1 h;rw [mH bZ,ak] at h;cases b1 with
  | true=>
   exfalso;rw [show (bif true then some true else _:Option Bool)=some true from rfl,ak,aB] at h;cases h
  | false=>
   obtain ⟨k,hh,q1,q2,q3⟩:=S.ZN f ns false false hf _ _ _ _ hr;have hq:=q2.lt;subst q1;dsimp only at h;rw [aA,bI,ak,ak] at h;cases zD:(kd l k !=36) with
   | true=>
    rw [zD,aB] at h;cases h;exact ⟨k,rfl,hP k t1 []<|.one hq.1 q2,bZ⟩
   | false=>
    have e36:kd l k=36:=by simpa using zD
    have hkl:k < l.length:=dz ah;rw [zD,aA] at h;cases h6:(((acc++[t1]).length:Int)==6) with
    | true=>
     exfalso;rw [h6,aB] at h;cases h
    | false=>
     have hlen:(acc++[t1]).length<=5:=by
      have: ¬(((acc++[t1]).length:Int)=6):=by simpa using h6
      simp only [ny,nu,Kn] at this ⊢;omega
     rw [h6,aA,iw (nP hkl)<|show l.length<=100000 by omega] at h;obtain ⟨⟨f2,n2⟩,hf2,h⟩:=dn.1 h;obtain ⟨e1,f',e2,hln,hfl⟩:=adK l hl hc N n1 N (k+1) f2 n2 hkl hf2;subst e2;refine ih f' (acc++[t1]) n2 hfl hlen (fun j u us hd=>?_) _ _ _ h;have:=hP j t1 (u::us) (.cons hq.1 e36 hln hd.lt.1 q2 hd);rw [lW];exact this
theorem atu (hc:∀ k,kd l k≠2) {M:Nat} (S:lu l M) (i:Nat) (ns:List (List UInt8)) (hi:i<=l.length):SnI l i (Zb M (aJ M) ⟨false,false⟩ l (i:Int) false ns):=
 att l hl hc S M i M i [] ns hi aF (fun j u us h=>h)
end
def atv (l:List av) (N N':Nat) (i:Int) (b:Bool) (ns:List (List UInt8)) (ts:List av):∀ (n n':Nat),n<=n'->∀ (d k:Int) (r:Bool),oL N l i b ns n (ts,d,k)=some r->oL N' l i b ns n' (ts,d,k)=some r:=by
 intro n;induction n with
 | zero=>intro n' _ d k r h;cases h
 | succ n ih=>
  intro n' hn d k r h;obtain ⟨n',rfl⟩:∃ m,n'=m+1:=⟨n' - 1,ah⟩
  have k3:∀ d':Int,xJ N l i b ns (oL N l i b ns n) (ts,k,d')=some r->xJ N' l i b ns (oL N' l i b ns n') (ts,k,d')=some r:=fun d' h=>by
   unfold xJ at h ⊢;dsimp only at h ⊢;cases hd:decide (d'<=0) with
   | true=>rw [hd] at h;exact h
   | false=>rw [hd] at h;exact ih n' ah _ _ _ h
  rw [oL] at h ⊢;cases hk:decide (k < (ts.length:Int)) with
  | false=>rw [hk] at h;exact h
  | true=>
   rw [hk,aB] at h;rw [aB];obtain ⟨e,he,h⟩:=dn.1 h;obtain ⟨o,ho,h⟩:=dn.1 h;rw [he,ak,ho,ak];cases o with
   | true=>exact k3 _ h
   | false=>
    rw [aA] at h ⊢;obtain ⟨s,hs,h⟩:=dn.1 h;rw [hs,ak];cases s with
    | true=>exact k3 _ h
    | false=>
     rw [aA] at h ⊢;obtain ⟨c,hcm,h⟩:=dn.1 h;rw [hcm,ak];cases c with
     | true=>exact h
     | false=>exact k3 _ h
def atw {l:List av} {M M':Nat} {i:Int} {ns:List (List UInt8)} {r:Bool} (h:Ab M l i false ns=some r) (hM:M<=M'):Ab M' l i false ns=some r:=by
 unfold Ab at h ⊢;obtain ⟨ts,ht,h⟩:=dn.1 h;rw [ht,ak];exact atv l M M' i false ns ts M M' hM 0 0 r h
def ZR {g:Bool} {x:List UInt8} {ks:List aD}:fK (⟨13,0,x,[],ks⟩:aD).kind (⟨13,0,x,[],ks⟩:aD).op ⟨5,false,false,g,false⟩=true:=by
 show fK 13 0 ⟨5,false,false,g,false⟩=true;cases g<;>rfl
section
variable (l:List av) (hl:l.length<=3000)
include hl
theorem ZT {i:Nat} {b:Bool} {ns:List (List UInt8)} {x:List UInt8} {j:Int} (hi:i<=l.length) (h:vH l (i:Int) b ns=some (x,j,false)):b=false/\kd l i=6/\x=jE l i/\j=((i+1:Nat):Int):=by
 unfold vH at h;cases b with
 | true=>
  rw [aB,ak,aB] at h;cases h
 | false=>
  rw [aA,bI,ak,ak] at h;cases h6:(kd l i !=6) with
  | true=>rw [h6,aB] at h;cases h
  | false=>
   have e6:kd l i=6:=by simpa using h6
   have hlt:i < l.length:=dz ah;unfold xL at h;rw [h6,aA,bJ hlt,ak,ak,iw hi<|show l.length<=100000 by omega] at h;cases h;exact ⟨rfl,e6,(uM hlt).symm,rfl⟩
theorem atx {M:Nat} (S:lu l M) (N:Nat) (a g:Bool) (i:Nat) (r:List aD×Int×Bool×List (List UInt8)):∀ (n k:Nat) (x:List UInt8) (ks:List aD),(∀ a',a=a'->a'=false)->bO l ⟨5,false,a,g,false⟩ i k ⟨13,0,x,[],ks⟩ false->Sn l 5 a g i (rQ N (aJ M) l n (⟨a,g⟩,r,(k:Int),false,x,ks)):=by
 intro n;induction n with
 | zero=>intro k x ks ha d t tg j ns' h;cases h
 | succ n ih=>
  intro k x ks ha d t tg j ns' h;have ha0:=ha a rfl;subst ha0;have hd:=d.lt;rw [rQ,bY,aB,bI,ak] at h;cases dN:(kd l k==24) with
  | false=>
   rw [dN,aA,ak,aA] at h;cases h;exact ⟨k,false,rfl,d,rfl⟩
  | true=>
   have e24:=eq_of_beq dN;have hkl:k < l.length:=dz ah;rw [dN,aB,ak,aB,iw hd.2<|show l.length<=100000 by omega] at h;obtain ⟨⟨x2,j2,b2⟩,hnm,h⟩:=dn.1 h;dsimp only at h;cases b2 with
   | true=>
    exfalso;cases n with
    | zero=>cases h
    | succ n=>rw [rQ] at h;cases h
   | false=>
    obtain ⟨_,e6,ex,ej⟩:=ZT l hl hkl hnm;have GY:k+1 < l.length:=dz (l:=l) (i:=k+1) (by rw [e6];decide);subst ej;refine ih (k+1+1) x2 _ ha ?_ _ _ _ _ h;rw [ex];exact .bare ZR ah GY (.one hd.1 e24 e6 d)
theorem aty {M:Nat} (S:lu l M) (N:Nat) (a g:Bool) (i:Nat) (r:bQ×Int×Bool×List (List UInt8)):∀ (n k:Nat) (x:List UInt8) (ks:List aD),(∀ a',a=a'->a'=false)->bO l ⟨5,false,a,g,false⟩ i k ⟨13,0,x,[],ks⟩ false->Sn l 5 a g i (tT N (aJ M) l n (⟨a,g⟩,r,(k:Int),false,x,ks)):=by
 intro n;induction n with
 | zero=>intro k x ks ha d t tg j ns' h;cases h
 | succ n ih=>
  intro k x ks ha d t tg j ns' h;have ha0:=ha a rfl;subst ha0;have hd:=d.lt;rw [tT,bY,aB,bI,ak] at h;cases dN:(kd l k==24) with
  | false=>
   rw [dN,aA,ak,aA] at h;cases h;exact ⟨k,false,rfl,d,rfl⟩
  | true=>
   have e24:=eq_of_beq dN;have hkl:k < l.length:=dz ah;rw [dN,aB,ak,aB,iw hd.2<|show l.length<=100000 by omega] at h;obtain ⟨⟨x2,j2,b2⟩,hnm,h⟩:=dn.1 h;dsimp only at h;cases b2 with
   | true=>
    exfalso;cases n with
    | zero=>cases h
    | succ n=>rw [tT] at h;cases h
   | false=>
    obtain ⟨_,e6,ex,ej⟩:=ZT l hl hkl hnm;have GY:k+1 < l.length:=dz (l:=l) (i:=k+1) (by rw [e6];decide);subst ej;refine ih (k+1+1) x2 _ ha ?_ _ _ _ _ h;rw [ex];exact .bare ZR ah GY (.one hd.1 e24 e6 d)
theorem atz {M:Nat} (S:lu l M) (i:Nat) (ns:List (List UInt8)) (a g:Bool) (hi:i<=l.length):Sn l 5 a g i (Ai M (aJ M) ⟨a,g⟩ l (i:Int) false ns):=by
 intro t tg j ns' h;unfold Ai at h;rw [bY,aB,bI,ak] at h;obtain ⟨y,hy,h⟩:=dn.1 h;cases y with
 | false=>
  rw [aA] at h;obtain ⟨⟨⟨t1,nQ⟩,j1,b1,n1⟩,hr,h⟩:=dn.1 h;cases b1 with
  | true=>
   exfalso;rw [show (bif (!true) then _ else some false:Option Bool)=some false from rfl,ak,aA] at h;cases h
  | false=>
   obtain ⟨k,hh,q1,q2,q3⟩:=S.ma i ns a g hi _ _ _ _ hr;have hq:=q2.lt;subst q1;dsimp only at h;rw [bY,aB,bI,ak] at h;cases dN:(kd l k==24&&!a) with
   | false=>
    have e:(bif kd l k==24 then some (!a) else some false)=some false:=by
     cases h':(kd l k==24) with
     | false=>rfl
     | true=>rw [h',iF] at dN;rw [dN];rfl
    rw [e,ak,aA] at h;cases h;exact ⟨k,hh,rfl,q2.down aH aH,q3⟩
   | true=>
    simp only [dA,kF] at dN;obtain ⟨dN,ha⟩:=dN;have e24:=eq_of_beq dN;subst ha;have hkl:k < l.length:=dz ah;rw [dN,aB,ak,bY,aB,iw hq.2<|show l.length<=100000 by omega] at h;obtain ⟨⟨x2,j2,b2⟩,hnm,h⟩:=dn.1 h;dsimp only at h;cases b2 with
    | true=>
     exfalso;cases M with
     | zero=>cases h
     | succ n=>rw [tT] at h;cases h
    | false=>
     obtain ⟨_,e6,ex,ej⟩:=ZT l hl hkl hnm;have GY:k+1 < l.length:=dz (l:=l) (i:=k+1) (by rw [e6];decide);subst ej;refine aty l hl S M false g i _ M (k+1+1) x2 _ (fun _ e=>e.symm) ?_ _ _ _ _ h;rw [ex];exact .bare ZR ah GY (.one hq.1 e24 e6<|q2.down aH aH)
 | true=>
  rw [aB] at h;cases h32:(kd l i==32) with
  | false=>rw [h32] at hy;cases hy
  | true=>
   have e32:=eq_of_beq h32;rw [h32,aB] at hy;cases a with
   | true=>cases hy
   | false=>
    rw [bY,aB] at hy;obtain ⟨y2,hla,hy⟩:=dn.1 hy;cases hy;have hlt:i < l.length:=dz ah;rw [iw hi<|show l.length<=100000 by omega] at h;obtain ⟨⟨ts,j1,b1,n1⟩,hr,h⟩:=dn.1 h;cases b1 with
    | true=>
     exfalso;rw [show (bif (!true) then _ else some false:Option Bool)=some false from rfl,ak,aA] at h;rw [show (bif (!true) then _ else some false:Option Bool)=some false from rfl,ak,aA] at h;cases h
    | false=>
     dsimp only at h;rcases S.ls (i+1) ns 33 (.inl rfl) hlt _ _ _ hr with ⟨q0,_,_,q2⟩|⟨k,q1,q2,q3,q4⟩
     .exfalso;subst q0 q2;rw [bY,aB,bI,ak,ak] at h;cases dN:(kd l (i+1+1) !=24) with
      | true=>
       rw [dN,aB] at h;cases h
      | false=>
       have e24:kd l (i+1+1)=24:=by simpa using dN
       have adO:(kd l (i+1+1)==24)=true:=by rw [e24];rfl
       rw [dN,aA,aB,ak,adO,aB,ak,aB] at h;cases h
     .have hd:=q3.lt;subst q1;rw [bY,aB,bI,ak,ak] at h;cases dN:(kd l (k+1) !=24) with
      | true=>
       exfalso;rw [dN,aB] at h;cases h
      | false=>
       have e24:kd l (k+1)=24:=by simpa using dN
       have adO:(kd l (k+1)==24)=true:=by rw [e24];rfl
       have hkl:k+1 < l.length:=dz (l:=l) (i:=k+1) (by rw [e24];decide);rw [dN,aA,aB,ak,adO,aB,ak,aB] at h;obtain ⟨_,_,h⟩:=dn.1 h;rw [iw (nP hkl)<|show l.length<=100000 by omega] at h;obtain ⟨⟨x2,j2,b2⟩,hnm,h⟩:=dn.1 h;dsimp only at h;cases b2 with
       | true=>
        exfalso;cases M with
        | zero=>cases h
        | succ n=>rw [rQ] at h;cases h
       | false=>
        obtain ⟨_,e6,ex,ej⟩:=ZT l hl hkl hnm;have GY:k+1+1 < l.length:=dz (l:=l) (i:=k+1+1) (by rw [e6];decide);subst ej;have h2:2<=ts.length:=by
         cases q3 with
         | cons=>simp
         | @one _ _ t1 h1 g1 g2=>
          exfalso;have dp:bO l oV i (k+1) t1 true:=.par e32 hd.1 ah g2 q2;have cm:=(adP l hl (k+1 - i) i (k+1)<|dK _).2 _ _ _ dp (.inl rfl);have:=cm (M+5000) ns ah;rw [h32,aB,atw hla<|Nat.le_add_right M 5000] at this;cases this
        refine atx l hl S M false g i _ M (k+1+1+1) x2 _ (fun _ e=>e.symm) ?_ _ _ _ _ h;rw [ex];exact .bare ZR ah GY (.many e32 hd.1 q2 e24 e6 h2 q4 q3)
theorem ajv (hc:∀ k,kd l k≠2):∀ M:Nat,lu l M
 | 0=>by
  constructor<;>(intros;intro t;intros;rename_i h;cases h)
 | M+1=>by
  have S:=ajv hc M;exact ⟨fun i ns a g hi=>atr l hl S i ns a g hi,fun i ns a g hi=>atq l hl S i ns a g hi,fun i ns a g hi=>atn l hl hc S i ns a g hi,fun i ns a g hi=>atl l hl hc S i ns a g hi,fun i ns a g hi=>atz l hl S i ns a g hi,fun i ns a g hi=>atp l hl S i ns a g hi,
   fun i ns a g hi=>ato l hl S i ns a g hi,fun i ns a g hi=>ati l hl S i ns a g hi,fun i ns a g hi=>atg l hl S i ns a g hi,fun i ns a g hi=>ate l hl S i ns a g hi,fun i ns a g hi=>atc l hl S i ns a g hi,fun i ns a g hi=>atb l hl S i ns a g hi,fun i ns a g hi=>ata l hl S i ns a g hi,
   fun i ns a g hi=>asX l hl S i ns a g hi,fun i ns a g hi=>asU l hl S i ns a g hi,fun i ns hk=>asZ l hl S i ns hk,fun i ns hi=>asY l hl S i ns,fun i ns hk=>asP l hl S i ns hk,fun i ns hk=>aju l hl S i ns hk,fun i ns hi=>atu l hl hc S i ns hi,fun i ns en hen hi=>asQ l hl S i ns en hen hi⟩
end
def atA {l:List av} {a g s:Bool} {i j:Nat} {t:aD} {h:Bool} (d:bO l ⟨14,false,a,g,s⟩ i j t h):bO l ⟨14,true,a,g,s⟩ i j t h:=by
 cases d with
 | par g1 g2 g3 g4 g5=>exact .par g1 g2 g3 g4 g5
 | bare g1 g2 g3 g4=>
  refine .bare ?_ g2 g3 ((adJ l (j - i) i j<|dK _).1 ⟨14,false,a,g,s⟩ ⟨14,true,a,g,s⟩ t g2 (fun h=>h) (fun h=>h) (fun h=>h) g4);unfold fK posB at g1 ⊢;simp only [dA] at g1 ⊢;obtain ⟨p1,p2,p3,p4,p5⟩:=g1;refine ⟨?_,p2,p3,p4,?_⟩
  .have e1:(decide ((14:Int)>=1)&&decide ((14:Int)<=15))=true:=rfl;have e2:((14:Int)==14)=true:=rfl;have e3:(!true||(14:Int)==14)=true:=rfl;have e4:(!false||(14:Int)==14)=true:=rfl;rw [e1,e4] at p1;rw [e1,e3];exact p1
  .rw [tY,Aj] at p5;rw [p5,Bool.or_true]
def atC (N:Nat) (l:List av) (hl:l.length<=3000) (hc:∀ k,kd l k≠2) (p:aI) (hp:posB p=true) (t:aD) (tg:Bool) (j:Int) (ns:List (List UInt8)) (h:zo N p l 0 false []=some (⟨t,tg⟩,j,false,ns)):∃ (k:Nat) (hh:Bool),j=(k:Int)/\bO l p 0 k t hh:=by
 have S:=ajv l hl hc N;obtain ⟨v,dl,a,g,s⟩:=p;have hv:1<=v/\v<=15/\(dl=true->v=14):=by
  unfold posB at hp;simp only [dA,jS,iX,kF,iG] at hp;refine ⟨hp.1.1,hp.1.2,fun e=>?_⟩;rcases hp.2 with g|g
  .rw [e] at g;cases g
  .exact g
 obtain ⟨hv1,hv2,hv3⟩:=hv;have ek:dS l ((0:Nat):Int) false []=some (kd l 0):=by rw [bI]
 have ek:dS l 0 false []=some (kd l 0):=ek;unfold zo at h;obtain ⟨y,hy,h⟩:=dn.1 h;cases y with
 | true=>
  exfalso;rw [aB] at h;cases h
 | false=>
  rw [aA] at h;have hs:s=true->lX (kd l 0)=true:=fun es=>by
   subst es;have hy:Option.bind (dS l 0 false []) (fun fM=>(Gu fM).bind fun dG=>some<|!dG)=some false:=hy;rw [ek,ak,VU,ak] at hy;have:=iV hy;simpa using this
  have sg:∀ (k:Nat) (hh:Bool),bO l ⟨v,false,a,g,false⟩ 0 k t hh->bO l ⟨v,false,a,g,s⟩ 0 k t hh:=fun k hh d=>by
   cases es:s with
   | false=>exact d
   | true=>exact (ajp l k 0 k ah<|hs es).2 _ _ _ _ _ d
  have fin:(∃ (k:Nat) (hh:Bool),j=(k:Int)/\bO l ⟨v,false,a,g,false⟩ 0 k t hh/\tg=(!hh&&dL t.kind))->∃ (k:Nat) (hh:Bool),j=(k:Int)/\bO l ⟨v,dl,a,g,s⟩ 0 k t hh:=fun ⟨k,hh,q1,q2,_⟩=>by
   refine ⟨k,hh,q1,?_⟩;have d:=sg k hh q2;cases ed:dl with
   | false=>exact d
   | true=>
    have:=hv3 ed;subst this;exact atA d
  have go:∀ (w:Int) (x:Option (bQ×Int×Bool×List (List UInt8))),v=w->Sn l w a g 0 x->Option.bind x (fun r=>some (r.1,r.2.1,r.2.2.1,r.2.2.2))=some (⟨t,tg⟩,j,false,ns)->∃ (k:Nat) (hh:Bool),j=(k:Int)/\bO l ⟨v,dl,a,g,s⟩ 0 k t hh:=fun w x ew hx hb=>by
   subst ew;rw [mK] at hb;exact fin (hx _ _ _ _ hb)
  have z:(0:Nat)<=l.length:=EW _;have hcv:v=1\/v=2\/v=3\/v=4\/v=5\/v=6\/v=7\/v=8\/v=9\/v=10\/v=11\/v=12\/v=13\/v=14\/v=15:=ah;rcases hcv with e|e|e|e|e|e|e|e|e|e|e|e|e|e|e<;>subst e
  .exact go 1 _ rfl (S.ZN 0 [] a g z) h
  .exact go 2 _ rfl (S.cd 0 [] a g z) h
  .exact go 3 _ rfl (S.orr 0 [] a g z) h
  .exact go 4 _ rfl (S.an 0 [] a g z) h
  .exact go 5 _ rfl (S.inn 0 [] a g z) h
  .exact go 6 _ rfl (S.ma 0 [] a g z) h
  .exact go 7 _ rfl (S.cm 0 [] a g z) h
  .exact go 8 _ rfl (S.ct 0 [] a g z) h
  .exact go 9 _ rfl (S.ad 0 [] a g z) h
  .exact go 10 _ rfl (S.mu 0 [] a g z) h
  .exact go 11 _ rfl (S.un 0 [] a g z) h
  .exact go 12 _ rfl (S.pw 0 [] a g z) h
  .exact go 13 _ rfl (S.ic 0 [] a g z) h
  .have h:Option.bind (bif dl then (dS l 0 false []).bind fun qN=>(xE qN).bind fun tC=>some tC else some false) (fun iN=>bif iN then (tQ N l 0 false []).bind fun xB=>some (xB.1,xB.2.1,xB.2.2.1,xB.2.2.2) else ((lV N l 0 false []).bind fun tF=>some (tF.1,tF.2.1,tF.2.2.1,tF.2.2.2)))=some (⟨t,tg⟩,j,false,ns):=h;cases ed:dl with
   | false=>
    subst ed;rw [aA,ak,aA] at h;exact go 14 _ rfl (S.fd 0 [] a g z) h
   | true=>
    subst ed;rw [aB,ek,ak,Dr,ak,ak] at h;cases hst:(kd l 0==51||kd l 0==52) with
    | false=>
     rw [hst,aA] at h;exact go 14 _ rfl (S.fd 0 [] a g z) h
    | true=>
     have hst':kd l 0=51\/kd l 0=52:=by simpa using hst
     rw [hst,aB,mK] at h;obtain ⟨k,q1,q2,q3,q4,q5,_⟩:=S.bf 0 [] hst' _ _ _ _ h;have ens:s=false:=by
      cases es:s with
      | false=>rfl
      | true=>
       have:=hs es;rcases hst' with e|e<;>rw [e] at this<;>cases this
     subst ens;refine ⟨k,false,q1,.bare ?_ q2 q3 (q4.low ah _)⟩;rw [q5];cases a<;>cases g<;>rfl
  .exact go 15 _ rfl (S.pr 0 [] a g z) h
def atE (l:List av):∀ (n i j:Nat),j - i<=n->(∀ p t,i < j->cO l p i j t->aU t+1<=2*(j - i))/\(∀ p t h,bO l p i j t h->aU t+1<=2*(j - i))/\(∀ ts,lg l i j ts->bq ts+1<=2*(j - i)):=by
 intro n;induction n with
 | zero=>exact fun i j hn=>⟨fun p t hij=>ah,fun p t h d=>by have:=d.lt;omega,fun ts d=>by have:=d.lt;omega⟩
 | succ n ih=>
  intro i j hn;have hN:∀ p t,i < j->cO l p i j t->aU t+1<=2*(j - i):=by
   intro p t hij d;cases d with
   | leaf k h1 h2=>rw [aU,bq];omega
   | name h1=>rw [aU,bq];omega
   | @index _ _ j ts h1 h2 h3 h4 h5 h6 h7=>
    have:=(ih (i+2) j ah).2.2 _ h7;rw [aU];omega
   | jU k h1 h2 h3 h4=>rw [aU,bq];omega
   | @call _ _ j ts k h1 h2 h3 h4 h5 h6 h7 h8=>
    have:=(ih (i+2) j ah).2.2 _ h8;rw [aU];omega
   | len h1 h2 h3=>rw [aU,bq];omega
   | field h1 h2 h3=>
    have:=(ih (i+1) j ah).2.1 _ _ _ h3;rw [aU,bq,bq];omega
   | pre o h1 h2 h3 h4 h5=>
    have:=(ih (i+1) j ah).1 _ _ h4 h5;rw [aU,bq,bq];omega
   | @post _ _ j t o h1 h2 h3 h4 h5=>
    have:=(ih i j ah).1 _ _ h4 h5;rw [aU,bq,bq];omega
   | unary o h1 h2 h3 h4=>
    have:=(ih (i+1) j ah).2.1 _ _ _ h4;rw [aU,bq,bq];omega
   | @bin _ _ m f _ a b _ _ o h1 h2 h3 h4 h5 h6 h7 h8=>
    have:=xV h6;have:=(ih i m ah).2.1 _ _ _ h7;have:=(ih f j ah).2.1 _ _ _ h8;rw [aU,bq,bq,bq];omega
   | @cat _ _ m _ a b _ _ h1 h2 h3 h4=>
    have:=(ih i m ah).2.1 _ _ _ h3;have:=(ih m j ah).2.1 _ _ _ h4;rw [aU,bq,bq,bq];omega
   | @one _ _ m t _ h1 h2 h3 h4=>
    have:=(ih i m ah).2.1 _ _ _ h4;rw [aU,bq,bq];omega
   | @many _ _ m ts h1 h2 h3 h4 h5 h6 h7 h8=>
    have:=(ih (i+1) m ah).2.2 _ h8;rw [aU];omega
   | @cond _ _ m k _ a b c _ _ _ h1 h2 h3 h4 h5 h6 h7 h8=>
    have:=(ih i m ah).2.1 _ _ _ h6;have:=(ih (m+1) k ah).2.1 _ _ _ h7;have:=(ih (k+1) j ah).2.1 _ _ _ h8;rw [aU,bq,bq,bq,bq];omega
   | @assign _ _ m _ a b _ o h1 h2 h3 h4 h5 h6 h7=>
    have:=(ih i m ah).1 _ _ h3 h6;have:=(ih (m+1) j ah).2.1 _ _ _ h7;rw [aU,bq,bq,bq];omega
  refine ⟨hN,fun p t h d=>?_,fun ts d=>?_⟩
  .cases d with
   | @par _ _ j _ h h1 h2 h3 h4 h5=>
    have:=(ih (i+1) j ah).2.1 _ _ _ h4;omega
   | bare h1 h2 h3 h4=>exact hN p t h2 h4
  .cases d with
   | @one _ _ t h h1 h2=>
    have e:bq [t]=aU t:=by rw [bq,bq];rfl
    rw [e];cases h2 with
    | @par _ _ j _ h g1 g2 g3 g4 g5=>
     have:=(ih (i+1) j ah).2.1 _ _ _ g4;omega
    | bare g1 g2 g3 g4=>exact hN _ t g2 g4
   | @cons _ k f _ t u us h h1 h2 h3 h4 h5 h6=>
    have:=h3.1;have:=(ih i k ah).2.1 _ _ _ h5;have:=(ih f j ah).2.2 _ h6;rw [bq];omega
def atF (N:Nat) (hN:2000000<=N) (l:List av) (hl:l.length<=3000) (hc:∀ k,kd l k≠2) (p:aI) (hp:posB p=true) (x:List aG) (h:BQ N l p=some (x,(l.length:Int),⟨0,0⟩)):∃ (t:aD) (hh:Bool),bO l p 0 l.length t hh/\x=dQ 0 t:=by
 unfold BQ at h;rw [adG,hp,ak,fE,aA] at h;obtain ⟨c,hck,h⟩:=dn.1 h;have ajw:∀ c:iU,(!((c.Kind==0)&&((c.At==0)&&true)))=true->c≠⟨0,0⟩:=fun c e ec=>by
  subst ec;cases e
 cases e0:(!((c.Kind==0)&&((c.At==0)&&true))) with
 | true=>
  rw [e0,aB] at h;exact absurd (congrArg (fun r:List aG×Int×iU=>r.2.2)<|iV h) (ajw _ e0)
 | false=>
  rw [e0,aA] at h;obtain ⟨⟨⟨t,tg⟩,j,b,ns⟩,hlv,h⟩:=dn.1 h;cases b with
  | true=>
   rw [aB] at h;obtain ⟨q,_,h⟩:=dn.1 h;exact absurd (congrArg (fun r:List aG×Int×iU=>r.2.2.Kind)<|iV h) (show (3:Int)≠0 by decide)
  | false=>
   rw [aA] at h;obtain ⟨f,hbd,h⟩:=dn.1 h;cases e1:(!((f.Kind==0)&&((f.At==0)&&true))) with
   | true=>
    rw [e1,aB] at h;exact absurd (congrArg (fun r:List aG×Int×iU=>r.2.2)<|iV h) (ajw _ e1)
   | false=>
    rw [e1,aA] at h;obtain ⟨y,hy,h⟩:=dn.1 h;obtain ⟨k,hh,q1,q2⟩:=atC N l hl hc p hp t tg j ns hlv;have hq:=q2.lt;have hs:=(atE l (k - 0) 0 k<|dK _).2.1 _ _ _ q2;have hy':=adI N t ah ah;have hy:Ni N t=some y:=hy;rw [hy'] at hy;cases hy;have ex:dQ 0 t=x:=congrArg (fun r:List aG×Int×iU=>r.1) (iV h);have ej:j=(l.length:Int):=congrArg (fun r:List aG×Int×iU=>r.2.1) (iV h);have ek:k=l.length:=ah;rw [ek] at q2;exact ⟨t,hh,q2,ex.symm⟩
inductive mM:List av->Prop
 | nil:mM []
 | tok {t:av} {x:List av}:dD t.Kind=false->dF t.Kind=false->mM x->mM (t::x)
 | br {o c:av} {x y:List av}:dD o.Kind=true->dF c.Kind=true->mM x->mM y->mM (o::(x++c::y))
def mM.app {x y:List av} (h:mM x) (g:mM y):mM (x++y):=by
 induction h with
 | nil=>exact g
 | tok h1 h2 _ ih=>exact .tok h1 h2 ih
 | @br o c a b h1 h2 h3 _ _ ih2=>
  have:=mM.br h1 h2 h3 ih2;simpa [lW] using this
def BU:Int->List av->Bool
 | d,[]=>d==0
 | d,t::ts=>decide (0<=(bif dF t.Kind then (bif dD t.Kind then d+1 else d) - 1 else (bif dD t.Kind then d+1 else d)))&&BU (bif dF t.Kind then (bif dD t.Kind then d+1 else d) - 1 else (bif dD t.Kind then d+1 else d)) ts
def Ko {k:Int} (h:dD k=true):dF k=false:=(Kg h).1
def ZU {k:Int} (h:dF k=true):dD k=false:=by
 cases e:dD k with
 | false=>rfl
 | true=>rw [Ko e] at h;cases h
def mM.ev {x:List av} (h:mM x):∀ (d:Int) (y:List av),0<=d->BU d (x++y)=BU d y:=by
 induction h with
 | nil=>intro d y _;rfl
 | @tok t x h1 h2 _ ih=>
  intro d y hd;show (decide _&&BU _ (x++y))=_;simp only [h1,h2,aA,gN hd,iF];exact ih d y hd
 | @br o c a b h1 h2 _ _ ih1 ih2=>
  intro d y hd;rw [show (o::(a++c::b))++y=o::(a++(c::(b++y))) by simp];show (decide _&&BU _ (a++(c::(b++y))))=_;simp only [h1,Ko h1,aB,aA,gN (by omega:0<=d+1),iF];rw [ih1 (d+1) _ ah];show (decide _&&BU _ (b++y))=_;simp only [h2,ZU h2,aB,aA,show d+1 - 1=d by omega,gN hd,iF];exact ih2 d y hd
def gY (k:Int):Int->List av->Bool
 | _,[]=>false
 | d,t::ts=>(t.Kind==k&&(bif dF t.Kind then d - 1 else d)==0)||gY k (bif dD t.Kind then (bif dF t.Kind then d - 1 else d)+1 else (bif dF t.Kind then d - 1 else d)) ts
def mM.in1 {k:Int} (hk:dD k=false/\dF k=false) {x:List av} (h:mM x):∀ (d:Int) (y:List av),1<=d->gY k d (x++y)=gY k d y:=by
 induction h with
 | nil=>intro d y _;rfl
 | @tok t x h1 h2 _ ih=>
  intro d y hd;show ((t.Kind==k&&_)||gY k _ (x++y))=_;rw [h1,h2];simp only [aA];rw [show (d==0)=false by rw [fF];omega,Kl,Aj];exact ih d y hd
 | @br o c a b h1 h2 _ _ ih1 ih2=>
  intro d y hd;rw [show (o::(a++c::b))++y=o::(a++(c::(b++y))) by simp];have ok:(o.Kind==k)=false:=by
   rw [fF];intro e;rw [e,hk.1] at h1;cases h1
  have ck:(c.Kind==k)=false:=by
   rw [fF];intro e;rw [e,hk.2] at h2;cases h2
  show ((o.Kind==k&&_)||gY k _ (a++(c::(b++y))))=_;rw [ok,h1,Ko h1,tY,Aj];simp only [aB,aA];rw [ih1 (d+1) _ ah];show ((c.Kind==k&&_)||gY k _ (b++y))=_;rw [ck,h2,ZU h2,tY,Aj];simp only [aB,aA];rw [show d+1 - 1=d by omega,ih2 d y hd]
def mM.br0 {k:Int} (hk:dD k=false/\dF k=false) {x:List av} (h:mM x):∀ y:List av,gY k 0 (x++y)=(gY k 0 x||gY k 0 y):=by
 induction h with
 | nil=>intro y;rfl
 | @tok t x h1 h2 _ ih=>
  intro y;show ((t.Kind==k&&_)||gY k _ (x++y))=(((t.Kind==k&&_)||gY k _ x)||_);rw [h1,h2];simp only [aA];rw [ih y,Bool.or_assoc]
 | @br o c a b h1 h2 h3 _ _ ih2=>
  intro y;have ok:(o.Kind==k)=false:=by
   rw [fF];intro e;rw [e,hk.1] at h1;cases h1
  have ck:(c.Kind==k)=false:=by
   rw [fF];intro e;rw [e,hk.2] at h2;cases h2
  have key:∀ z:List av,gY k 0 (o::(a++(c::z)))=gY k 0 z:=fun z=>by
   show ((o.Kind==k&&_)||gY k _ (a++(c::z)))=_;rw [ok,h1,Ko h1,tY,Aj];simp only [aB,aA];rw [h3.in1 hk (0+1) _ ah];show ((c.Kind==k&&_)||gY k _ z)=_;rw [ck,h2,ZU h2,tY,Aj];simp only [aB,aA];rfl
  rw [show (o::(a++c::b))++y=o::(a++(c::(b++y))) by simp,key,key,ih2 y]
def uO:Int->List av->Bool
 | _,[]=>true
 | d,t::ts=>!((bif dF t.Kind then (bif dD t.Kind then d+1 else d) - 1 else (bif dD t.Kind then d+1 else d))==0&&!ts.isEmpty)&&uO (bif dF t.Kind then (bif dD t.Kind then d+1 else d) - 1 else (bif dD t.Kind then d+1 else d)) ts
def mM.hd {x:List av} (h:mM x):∀ (d:Int) (y:List av),1<=d->uO d (x++y)=uO d y:=by
 induction h with
 | nil=>intro d y _;rfl
 | @tok t x h1 h2 _ ih=>
  intro d y hd;show (!((bif dF t.Kind then _ else _)==0&&_)&&uO _ (x++y))=_;rw [h1,h2];simp only [aA];rw [show (d==0)=false by rw [fF];omega,tY,bY,iF];exact ih d y hd
 | @br o c a b h1 h2 _ _ ih1 ih2=>
  intro d y hd;rw [show (o::(a++c::b))++y=o::(a++(c::(b++y))) by simp];show (!((bif dF o.Kind then _ else _)==0&&_)&&uO _ (a++(c::(b++y))))=_;rw [h1,Ko h1];simp only [aB,aA];rw [show (d+1==0)=false by rw [fF];omega,tY,bY,iF,ih1 (d+1) _ ah];show (!((bif dF c.Kind then _ else _)==0&&_)&&uO _ (b++y))=_;rw [h2,ZU h2];simp only [aB,aA];rw [show d+1 - 1=d by omega,show (d==0)=false by rw [fF];omega,tY,bY,iF,ih2 d y hd]
def opn (k:Int):Bool:=decide (k>=3)&&decide (k<=8)
def wh:List av->Nat
 | []=>0
 | t::ts=>(bif opn t.Kind then 1 else 0)+wh ts
def ajy (x y:List av):wh (x++y)=wh x+wh y:=by
 induction x with
 | nil=>simp [wh]
 | cons t x ih=>show _+wh (x++y)=_+wh x+wh y;rw [ih];omega
mutual
def yl:aD->Nat
 | ⟨k,_,_,_,ks⟩=>(bif (k==1||(k==2||(k==3||(k==4||(k==5||(k==7||(k==8||k==13))))))) then 1 else 0)+kG ks
def kG:List aD->Nat
 | []=>0
 | t::ts=>yl t+kG ts
end
structure dZ (l:List av) (i j:Nat) (y:Nat):Prop where
 b:mM (seg l i j)
 c:wh (seg l i j)=y
def dZ.app {l:List av} {i m j y z:Nat} (h1:i<=m) (h2:m<=j) (a:dZ l i m y) (b:dZ l m j z):dZ l i j (y+z):=by
 constructor
 .rw [uf h1 h2];exact a.b.app b.b
 .rw [uf h1 h2,ajy,a.c,b.c]
def dZ.nil (l:List av) (i:Nat):dZ l i i 0:=⟨by rw [NG];exact .nil,by rw [NG];rfl⟩
def dZ.tok {l:List av} {i:Nat} {k:Int} (h:kd l i=k) (h0:k≠0) (ho:dD k=false) (hc:dF k=false):dZ l i (i+1) (bif opn k then 1 else 0):=by
 have hi:=dz (l:=l) (i:=i) (by rw [h];exact h0);have hk:l[i].Kind=k:=by rw [<- iQ hi];exact h
 constructor
 .rw [rY hi];exact .tok (by rw [hk];exact ho) (by rw [hk];exact hc) .nil
 .rw [rY hi];show (bif opn l[i].Kind then 1 else 0)+0=_;rw [hk];omega
def dZ.wrap {l:List av} {i j y:Nat} {o c:Int} (hij:i < j) (ho:kd l i=o) (hc:kd l j=c) (h1:dD o=true) (h2:dF c=true) (h:dZ l (i+1) j y):dZ l i (j+1) y:=by
 have o0:o≠0:=fun e=>by subst e;cases h1
 have c0:c≠0:=fun e=>by subst e;cases h2
 have hi:=dz (l:=l) (i:=i) (by rw [ho];exact o0);have hj:=dz (l:=l) (i:=j) (by rw [hc];exact c0);have ok:l[i].Kind=o:=by rw [<- iQ hi];exact ho
 have ck:l[j].Kind=c:=by rw [<- iQ hj];exact hc
 have e:seg l i (j+1)=l[i]::(seg l (i+1) j++l[j]::[]):=by
  rw [uf (show i<=i+1 by omega) (show i+1<=j+1 by omega),uf (show i+1<=j by omega) (show j<=j+1 by omega),rY hi,rY hj];rfl
 have pY:opn o=false:=by
  unfold dD at h1;unfold opn;simp only [iX,iG] at h1;rw [NH];right;rw [decide_eq_false_iff_not];omega
 have cl0:opn c=false:=by
  unfold dF at h2;unfold opn;simp only [iX,iG] at h2;rw [NH];right;rw [decide_eq_false_iff_not];omega
 constructor
 .rw [e];exact .br (by rw [ok];exact h1) (by rw [ck];exact h2) h.b .nil
 .rw [e];show (bif opn l[i].Kind then 1 else 0)+wh (seg l (i+1) j++[l[j]])=y;rw [ajy,h.c];show (bif opn l[i].Kind then 1 else 0)+(y+((bif opn l[j].Kind then 1 else 0)+0))=y;rw [ok,ck,pY,cl0];simp
def dZ.ln {l:List av}:∀ (n a f:Nat),f - a<=n->a<=f->(∀ k,a<=k->k < f->kd l k=1)->dZ l a f 0
 | 0,a,f,h,h1,_=>by
  have:a=f:=ah;subst this;exact .nil l a
 | n+1,a,f,h,h1,hk=>by
  by_cases ha:a=f
  .subst ha;exact .nil l a
  .have:=(dZ.tok (hk a ah ah) aH rfl rfl).app ah ah (dZ.ln n (a+1) f ah ah fun k h3 h4=>hk k ah h4);exact this
def dZ.cast {l:List av} {i j y z:Nat} (h:dZ l i j y) (e:y=z):dZ l i j z:=by subst e;exact h
def atI {o:Int} (h:9<=o):opn o=false:=by
 unfold opn;rw [NH];right;rw [decide_eq_false_iff_not];omega
def adQ {o:Int} (h:bF o≠0):9<=o:=by
 have:=EN h;omega
def NI {l:List av} {m:Nat} {o:Int} (hk:kd l m=o) (h9:9<=o) (hb:dD o=false/\dF o=false):dZ l m (m+1) 0:=by
 have:=dZ.tok hk ah hb.1 hb.2;rw [atI h9] at this;exact this
def EX (t:aD):kG [t]=yl t:=by rw [kG,kG];rfl
def Kq (l:List av):∀ (n i j:Nat),j - i<=n->(∀ p t,i < j->cO l p i j t->dZ l i j (yl t))/\(∀ p t h,bO l p i j t h->dZ l i j (yl t))/\(∀ ts,lg l i j ts->dZ l i j (kG ts)):=by
 intro n;induction n with
 | zero=>exact fun i j hn=>⟨fun p t hij=>ah,fun p t h d=>by have:=d.lt;omega,fun ts d=>by have:=d.lt;omega⟩
 | succ n ih=>
  intro i j hn;have hN:∀ p t,i < j->cO l p i j t->dZ l i j (yl t):=by
   intro p t hij d;cases d with
   | leaf k h1 h2=>rcases h1 with rfl|rfl|rfl<;>exact (dZ.tok h2 aH rfl rfl).cast (by rw [yl,kG];rfl)
   | name h1=>exact (dZ.tok h1 aH rfl rfl).cast (by rw [yl,kG];rfl)
   | @index _ _ j ts h1 h2 h3 h4 h5 h6 h7=>
    have a:=(ih (i+2) j ah).2.2 _ h7;exact ((dZ.tok h1 aH rfl rfl).app ah ah<|dZ.wrap ah h2 h5 rfl rfl a).cast (by rw [yl];rfl)
   | jU k h1 h2 h3 h4=>
    have a:dZ l (i+1) (i+2+1) 0:=dZ.wrap ah h3 h4 rfl rfl (dZ.nil l<|i+1+1);rcases h1 with rfl|rfl<;>exact ((dZ.tok h2 aH rfl rfl).app ah ah a).cast (by rw [yl,kG];rfl)
   | @call _ _ j ts k h1 h2 h3 h4 h5 h6 h7 h8=>
    have a:=(ih (i+2) j ah).2.2 _ h8;have b:dZ l (i+1) (j+1) (kG ts):=dZ.wrap ah h3 h6 rfl rfl a;rcases h1 with rfl|rfl<;>exact ((dZ.tok h2 aH rfl rfl).app ah ah b).cast (by rw [yl];rfl)
   | len h1 h2 h3=>exact (dZ.tok h1 aH rfl rfl).cast (by rw [yl,kG];rfl)
   | field h1 h2 h3=>
    have a:=(ih (i+1) j ah).2.1 _ _ _ h3;exact ((dZ.tok h1 aH rfl rfl).app ah ah a).cast (by rw [yl,EX];rfl)
   | pre o h1 h2 h3 h4 h5=>
    have a:=(ih (i+1) j ah).1 _ _ h4 h5;rcases h1 with rfl|rfl<;>exact ((dZ.tok h2 aH rfl rfl).app ah ah a).cast (by rw [yl,EX];rfl)
   | @post _ _ j t o h1 h2 h3 h4 h5=>
    have a:=(ih i j ah).1 _ _ h4 h5;rcases h1 with rfl|rfl<;>exact (a.app ah ah<|dZ.tok h2 aH rfl rfl).cast (by rw [yl,EX];show yl t+0=0+yl t;omega)
   | unary o h1 h2 h3 h4=>
    have a:=(ih (i+1) j ah).2.1 _ _ _ h4;rcases h1 with rfl|rfl|rfl<;>exact ((dZ.tok h2 aH rfl rfl).app ah ah a).cast (by rw [yl,EX];rfl)
   | @bin _ _ m f _ a b _ _ o h1 h2 h3 h4 h5 h6 h7 h8=>
    have xW:m+1<=f:=xV h6;have l1:=h7.lt;have l2:=h8.lt;have x:=(ih i m ah).2.1 _ _ _ h7;have y:=(ih f j ah).2.1 _ _ _ h8;have ln:dZ l (m+1) f 0:=by
     rcases h6 with ⟨_,h6⟩|⟨_,h6⟩
     .exact .ln (f - (m+1)) _ _ ah xW h6.2.1
     .rw [h6];exact .nil l _
    exact (x.app ah ah<|(NI h3 (adQ h1)<|Rq h1).app ah ah<|ln.app xW ah y).cast (by rw [yl,kG,EX];show yl a+(0+(0+yl b))=0+(yl a+yl b);omega)
   | @cat _ _ m _ a b _ _ h1 h2 h3 h4=>
    have x:=(ih i m ah).2.1 _ _ _ h3;have y:=(ih m j ah).2.1 _ _ _ h4;exact (x.app ah ah y).cast (by rw [yl,kG,EX];show yl a+yl b=0+(yl a+yl b);omega)
   | @one _ _ m t _ h1 h2 h3 h4=>
    have x:=(ih i m ah).2.1 _ _ _ h4;have y:dZ l (m+1) (m+1+1) _:=dZ.tok h3 aH rfl rfl;exact (x.app ah ah<|(NI h2 aH ⟨rfl,rfl⟩).app ah ah y).cast (by rw [yl,EX];show yl t+(0+1)=1+yl t;omega)
   | @many _ _ m ts h1 h2 h3 h4 h5 h6 h7 h8=>
    have x:=(ih (i+1) m ah).2.2 _ h8;have y:dZ l (m+2) (m+2+1) _:=dZ.tok h5 aH rfl rfl;have z:dZ l (m+1) (m+1+1) 0:=NI h4 aH ⟨rfl,rfl⟩;exact ((dZ.wrap ah h1 h3 rfl rfl x).app ah ah<|z.app ah ah y).cast (by rw [yl];show kG ts+(0+1)=1+kG ts;omega)
   | @cond _ _ m k _ a b c _ _ _ h1 h2 h3 h4 h5 h6 h7 h8=>
    have x:=(ih i m ah).2.1 _ _ _ h6;have y:=(ih (m+1) k ah).2.1 _ _ _ h7;have z:=(ih (k+1) j ah).2.1 _ _ _ h8;exact (x.app ah ah<|(NI h2 aH ⟨rfl,rfl⟩).app ah ah<|y.app ah ah<|(NI h4 aH ⟨rfl,rfl⟩).app ah ah z).cast (by rw [yl,kG,kG,EX];show yl a+(0+(yl b+(0+yl c)))=0+(yl a+(yl b+yl c));omega)
   | @assign _ _ m _ a b _ o h1 h2 h3 h4 h5 h6 h7=>
    have x:=(ih i m ah).1 _ _ h3 h6;have y:=(ih (m+1) j ah).2.1 _ _ _ h7;have h9:9<=o:=by have:=GK h1;omega
    exact (x.app ah ah<|(NI h2 h9<|adu h1).app ah ah y).cast (by rw [yl,kG,EX];show yl a+(0+yl b)=0+(yl a+yl b);omega)
  refine ⟨hN,fun p t h d=>?_,fun ts d=>?_⟩
  .cases d with
   | @par _ _ j _ h h1 h2 h3 h4 h5=>exact dZ.wrap ah h1 h5 rfl rfl ((ih (i+1) j ah).2.1 _ _ _ h4)
   | bare h1 h2 h3 h4=>exact hN p t h2 h4
  .cases d with
   | @one _ _ t h h1 h2=>
    rw [EX];cases h2 with
    | @par _ _ j _ h g1 g2 g3 g4 g5=>exact dZ.wrap ah g1 g5 rfl rfl ((ih (i+1) j ah).2.1 _ _ _ g4)
    | bare g1 g2 g3 g4=>exact hN _ t g2 g4
   | @cons _ k f _ t u us h h1 h2 h3 h4 h5 h6=>
    have:=h3.1;have x:=(ih i k ah).2.1 _ _ _ h5;have y:=(ih f j ah).2.2 _ h6;exact (x.app ah ah<|(NI h2 aH ⟨rfl,rfl⟩).app ah ah<|(dZ.ln (f - (k+1)) _ _ ah ah h3.2.1).app ah ah y).cast (by have e:kG (t::u::us)=yl t+kG (u::us):=(by rw [kG]);rw [e];omega)
def bO.sg1 {l:List av} {p:aI} {i j:Nat} {t:aD} {h:Bool} (d:bO l p i j t h):dZ l i j (yl t):=(Kq l (j - i) i j<|dK _).2.1 p t h d
def cO.sg1 {l:List av} {p:aI} {i j:Nat} {t:aD} (d:cO l p i j t):dZ l i j (yl t):=(Kq l (j - i) i j<|dK _).1 p t d.lt d
def Kr {k:Int} (hk:dD k=false/\dF k=false) {l:List av} {i m j:Nat} (h1:i<=m) (h2:m<=j) (b:mM (seg l i m)):gY k 0 (seg l i j)=(gY k 0 (seg l i m)||gY k 0 (seg l m j)):=by
 rw [uf h1 h2,b.br0 hk]
def VY {k:Int} {l:List av} {i:Nat} (hi:i < l.length) (hb:dD (kd l i)=false/\dF (kd l i)=false):gY k 0 (seg l i<|i+1)=(kd l i==k):=by
 rw [rY hi];have e:l[i].Kind=kd l i:=(iQ hi).symm;show ((l[i].Kind==k&&_)||false)=_;rw [e,hb.2,Bool.or_false];simp
def Rv {k:Int} (hk:dD k=false/\dF k=false) {l:List av} {i j:Nat} (hij:i < j) (hj:j < l.length) (h1:dD (kd l i)=true) (h2:dF (kd l j)=true) (b:mM (seg l (i+1) j)):gY k 0 (seg l i<|j+1)=false:=by
 have hi:i < l.length:=ah;have e:seg l i (j+1)=l[i]::(seg l (i+1) j++l[j]::[]):=by
  rw [uf (show i<=i+1 by omega) (show i+1<=j+1 by omega),uf (show i+1<=j by omega) (show j<=j+1 by omega),rY hi,rY hj];rfl
 have e1:l[i].Kind=kd l i:=(iQ hi).symm;have e2:l[j].Kind=kd l j:=(iQ hj).symm;have ok:(l[i].Kind==k)=false:=by
  rw [fF,e1];intro e;rw [e,hk.1] at h1;cases h1
 have ck:(l[j].Kind==k)=false:=by
  rw [fF,e2];intro e;rw [e,hk.2] at h2;cases h2
 rw [e];show ((l[i].Kind==k&&_)||gY k _ (seg l (i+1) j++l[j]::[]))=_;rw [ok,e1,h1,Ko h1,tY,Aj];simp only [aB,aA];rw [b.in1 hk (0+1) _ ah];show ((l[j].Kind==k&&_)||false)=_;rw [ck];rfl
def ajz {k:Int} (hk:dD k=false/\dF k=false) (hk1:k≠1) {l:List av}:∀ (n a f:Nat),f - a<=n->a<=f->f<=l.length->(∀ k,a<=k->k < f->kd l k=1)->gY k 0 (seg l a f)=false
 | 0,a,f,h,h1,_,_=>by
  have:a=f:=ah;subst this;rw [NG];rfl
 | n+1,a,f,h,h1,hf,h2=>by
  by_cases ha:a=f
  .subst ha;rw [NG];rfl
  .have h3:=h2 a ah ah;have s:dZ l a (a+1) _:=dZ.tok h3 aH rfl rfl;rw [Kr hk (show a<=a+1 by omega) ah s.b,VY ah (by rw [h3];exact ⟨rfl,rfl⟩),h3,ajz hk hk1 n (a+1) f ah ah hf fun k h3 h4=>h2 k ah h4,Bool.or_false,fF];exact fun e=>hk1 e.symm
def atJ {l:List av} {i j:Nat} {t:aD} {h:Bool} (d:bO l ⟨14,true,false,false,false⟩ i j t h):h=true\/∃ p,cO l p i j t/\t.kind<=9/\i < j:=by
 cases d with
 | par=>exact .inl rfl
 | bare g1 g2 g3 g4=>
  refine .inr ⟨_,g4,?_,g2⟩;have hlv:t.kind=9\/14<=lv t.kind t.op:=by
   unfold fK at g1;simp only [dA,iX,iF,jS,iG] at g1;exact g1.2.2.2.2
  rcases hlv with e|hlv
  .omega
  cases g4 with
  | leaf k e1=>show k - 1<=9;omega
  | name=>show (1:Int)<=9;omega
  | index=>show (5:Int)<=9;omega
  | len=>show (8:Int)<=9;omega
  | field=>show (6:Int)<=9;omega
  | pre=>show (9:Int)<=9;omega
  | jU k e1|call k e1=>show k<=9;omega
  | post=>exact absurd hlv (by show¬(14:Int)<=13;omega)
  | unary=>exact absurd hlv (by show¬(14:Int)<=11;omega)
  | one|many=>exact absurd hlv (by show¬(14:Int)<=5;omega)
  | cond=>exact absurd hlv (by show¬(14:Int)<=2;omega)
  | assign=>exact absurd hlv (by show¬(14:Int)<=1;omega)
  | bin o=>exact absurd hlv (by show¬(14:Int)<=bF o;have:=NJ o;omega)
  | cat=>exact absurd hlv (by show¬(14:Int)<=8;decide)
def Fb (k:Int) (p:aI):Prop:=(k=24->p.aV=true)/\(k=62->p.aW=true)
def Exb (k:Int) (t:aD):Prop:=(k=24/\t.kind=13)\/(k=62/\t.kind=12/\t.op=62)
def ajA (l:List av) (k:Int) (hk:k=24\/k=62):∀ (n i j:Nat),j - i<=n->(∀ p t,i < j->j<=l.length->cO l p i j t->Fb k p-> ¬Exb k t->gY k 0 (seg l i j)=false)/\(∀ p t h,bO l p i j t h->Fb k p->gY k 0 (seg l i j)=false):=by
 have hb:dD k=false/\dF k=false:=by rcases hk with rfl|rfl<;>exact ⟨rfl,rfl⟩
 intro n;induction n with
 | zero=>exact fun i j hn=>⟨fun p t hij=>ah,fun p t h d=>by have:=d.lt;omega⟩
 | succ n ih=>
  intro i j hn;have tk:∀ (a:Nat) (o:Int),kd l a=o->o≠0->o≠k->dD o=false/\dF o=false->gY k 0 (seg l a<|a+1)=false:=fun a o ha h0 hok cB=>by
   have hi:=dz (l:=l) (i:=a) (by rw [ha];exact h0);rw [VY hi (by rw [ha];exact cB),ha,fF];exact hok
  have bt:∀ (a:Nat) (o:Int),kd l a=o->o≠0->dD o=false/\dF o=false->mM (seg l a<|a+1):=fun a o ha h0 cB=>(dZ.tok ha h0 cB.1 cB.2).b;have two:∀ {a m b:Nat},a<=m->m<=b->mM (seg l a m)->gY k 0 (seg l a m)=false->gY k 0 (seg l m b)=false->gY k 0 (seg l a b)=false:=fun h1 h2 hB e1 e2=>by
   rw [Kr hb h1 h2 hB,e1,e2];rfl
  have hN:∀ p t,i < j->j<=l.length->cO l p i j t->Fb k p-> ¬Exb k t->gY k 0 (seg l i j)=false:=by
   intro p t hij hj d hF hE;cases d with
   | leaf k0 h1 h2=>rcases h1 with rfl|rfl|rfl<;>exact tk i _ h2 aH ah ⟨rfl,rfl⟩
   | name h1=>exact tk i _ h1 aH ah ⟨rfl,rfl⟩
   | @index _ _ j ts h1 h2 h3 h4 h5 h6 h7=>
    have b:=((Kq l _ (i+2) j<|dK _).2.2 _ h7).b;exact two ah ah (bt i _ h1 aH ⟨rfl,rfl⟩) (tk i _ h1 aH ah ⟨rfl,rfl⟩) (Rv hb ah h4 (by rw [h2];rfl) (by rw [h5];rfl) b)
   | jU k0 h1 h2 h3 h4=>
    have hb0:dD k0=false/\dF k0=false:=by rcases h1 with rfl|rfl<;>exact ⟨rfl,rfl⟩
    have w:gY k 0 (seg l (i+1)<|i+2+1)=false:=Rv hb ah ah (by rw [h3];rfl) (by rw [h4];rfl) (by rw [NG];exact .nil);exact two ah ah (bt i _ h2 ah hb0) (tk i _ h2 ah ah hb0) w
   | @call _ _ j ts k0 h1 h2 h3 h4 h5 h6 h7 h8=>
    have hb0:dD k0=false/\dF k0=false:=by rcases h1 with rfl|rfl<;>exact ⟨rfl,rfl⟩
    have b:=((Kq l _ (i+2) j<|dK _).2.2 _ h8).b;exact two ah ah (bt i _ h2 ah hb0) (tk i _ h2 ah ah hb0) (Rv hb ah h5 (by rw [h3];rfl) (by rw [h6];rfl) b)
   | len h1 h2 h3=>exact tk i _ h1 aH ah ⟨rfl,rfl⟩
   | @field _ _ _ u h h1 h2 h3=>
    refine two ah ah (bt i _ h1 aH ⟨rfl,rfl⟩) (tk i _ h1 aH ah ⟨rfl,rfl⟩) ?_;rcases atJ h3 with e|⟨q,dq,hq,hlt⟩
    .subst e;cases h3 with
     | @par _ _ jj _ h' g1 g2 g3 g4 g5=>exact Rv hb ah g3 (by rw [g1];rfl) (by rw [g5];rfl) g4.sg1.b
    .exact (ih (i+1) j ah).1 p u hlt hj (dq.low hq p) hF (fun h=>by rcases h with ⟨_,h⟩|⟨_,h,_⟩<;>omega)
   | pre o h1 h2 h3 h4 h5=>
    obtain ⟨_,zC⟩:=Km h3;have ho:dD o=false/\dF o=false:=by rcases h1 with rfl|rfl<;>exact ⟨rfl,rfl⟩
    exact two ah ah (bt i _ h2 ah ho) (tk i _ h2 ah ah ho) ((ih (i+1) j ah).1 p _ h4 hj (h5.low zC p) hF fun h=>by rcases h with ⟨_,h⟩|⟨_,h,_⟩<;>omega)
   | @post _ _ j u o h1 h2 h3 h4 h5=>
    obtain ⟨_,zC⟩:=Km h3;have ho:dD o=false/\dF o=false:=by rcases h1 with rfl|rfl<;>exact ⟨rfl,rfl⟩
    exact two ah ah h5.sg1.b ((ih i j ah).1 p _ h4 ah (h5.low zC p) hF fun h=>by rcases h with ⟨_,h⟩|⟨_,h,_⟩<;>omega) (tk j _ h2 ah ah ho)
   | unary o h1 h2 h3 h4=>
    have ho:dD o=false/\dF o=false:=by rcases h1 with rfl|rfl|rfl<;>exact ⟨rfl,rfl⟩
    exact two ah ah (bt i _ h2 ah ho) (tk i _ h2 ah ah ho) ((ih (i+1) j ah).2 _ _ _ h4 hF)
   | @bin _ _ m f _ a b _ _ o h1 h2 h3 h4 h5 h6 h7 h8=>
    have xW:m+1<=f:=xV h6;have l1:=h7.lt;have l2:=h8.lt;have h9:=adQ h1;have hok:o≠k:=fun e=>by
     subst e;rcases hk with e|e
     .subst e;exact h1 rfl
     .exact hE (.inr ⟨e,rfl,e⟩)
    have ln:gY k 0 (seg l (m+1) f)=false/\mM (seg l (m+1) f):=by
     rcases h6 with ⟨_,h6⟩|⟨_,h6⟩
     .exact ⟨ajz hb ah (f - (m+1)) _ _ ah xW ah h6.2.1,(dZ.ln (f - (m+1)) _ _ ah xW h6.2.1).b⟩
     .rw [h6,NG];exact ⟨rfl,.nil⟩
    exact two ah ah h7.sg1.b ((ih i m ah).2 _ _ _ h7 hF) (two ah ah (bt m _ h3 ah<|Rq h1) (tk m _ h3 ah hok<|Rq h1)<|two xW ah ln.2 ln.1<|(ih f j ah).2 _ _ _ h8 hF)
   | @cat _ _ m _ a b _ _ h1 h2 h3 h4=>exact two ah ah h3.sg1.b ((ih i m ah).2 _ _ _ h3 hF) ((ih m j ah).2 _ _ _ h4 hF)
   | @one _ _ m u _ h1 h2 h3 h4=>
    have hk2:k≠24:=fun e=>hE (.inl ⟨e,rfl⟩);have w:gY k 0 (seg l (m+1)<|m+2)=false:=tk (m+1) _ h3 aH ah ⟨rfl,rfl⟩;exact two ah ah h4.sg1.b ((ih i m ah).2 _ _ _ h4 hF) (two ah ah (bt m _ h2 aH ⟨rfl,rfl⟩) (tk m _ h2 aH (fun e=>hk2 e.symm) ⟨rfl,rfl⟩) w)
   | @many _ _ m ts h1 h2 h3 h4 h5 h6 h7 h8=>
    have hk2:k≠24:=fun e=>hE (.inl ⟨e,rfl⟩);have b:=((Kq l _ (i+1) m<|dK _).2.2 _ h8).b;have w:gY k 0 (seg l (m+2)<|m+3)=false:=tk (m+2) _ h5 aH ah ⟨rfl,rfl⟩;have w2:gY k 0 (seg l (m+1)<|m+2)=false:=tk (m+1) _ h4 aH (fun e=>hk2 e.symm) ⟨rfl,rfl⟩;have b2:mM (seg l (m+1)<|m+2):=bt (m+1) _ h4 aH ⟨rfl,rfl⟩;have b1:dZ l i (m+1) _:=dZ.wrap ah h1 h3 rfl rfl ((Kq l _ (i+1) m<|dK _).2.2 _ h8);exact two ah ah b1.b (Rv hb ah ah (by rw [h1];rfl) (by rw [h3];rfl) b) (two ah ah b2 w2 w)
   | @cond _ _ m k2 _ a b c _ _ _ h1 h2 h3 h4 h5 h6 h7 h8=>
    have l3:=h8.lt;exact two ah ah h6.sg1.b ((ih i m ah).2 _ _ _ h6 hF) (two ah ah (bt m _ h2 aH ⟨rfl,rfl⟩) (tk m _ h2 aH ah ⟨rfl,rfl⟩)<|two ah ah h7.sg1.b ((ih (m+1) k2 ah).2 _ _ _ h7 hF)<|two ah ah (bt k2 _ h4 aH ⟨rfl,rfl⟩) (tk k2 _ h4 aH ah ⟨rfl,rfl⟩)<|(ih (k2+1) j ah).2 _ _ _ h8 hF)
   | @assign _ _ m _ a b _ o h1 h2 h3 h4 h5 h6 h7=>
    obtain ⟨_,zC⟩:=Km h5;have hal:=GK h1;exact two ah ah h6.sg1.b ((ih i m ah).1 p _ h3 ah (h6.low zC p) hF fun h=>by rcases h with ⟨_,h⟩|⟨_,h,_⟩<;>omega) (two ah ah (bt m _ h2 ah<|adu h1) (tk m _ h2 ah ah<|adu h1)<|(ih (m+1) j ah).2 _ _ _ h7 hF)
  refine ⟨hN,fun p t h d hF=>?_⟩;cases d with
  | @par _ _ jj _ h' g1 g2 g3 g4 g5=>exact Rv hb ah g3 (by rw [g1];rfl) (by rw [g5];rfl) g4.sg1.b
  | bare g1 g2 g3 g4=>
   refine hN p t g2 g3 g4 hF fun h=>?_;rcases h with ⟨e,e1⟩|⟨e,e1,e2⟩
   .have:=ajB g1 e1;rw [hF.1 e] at this;cases this
   .have:=ajC g1 e1 e2;rw [hF.2 e] at this;cases this
def ajD {l:List av} {p:aI} {i j:Nat} {t:aD} {k:Int} (hk:k=24\/k=62) (d:cO l p i j t) (hE:Exb k t):gY k 0 (seg l i j)=true:=by
 have hb:dD k=false/\dF k=false:=by rcases hk with rfl|rfl<;>exact ⟨rfl,rfl⟩
 cases d with
 | @one _ _ m u _ h1 h2 h3 h4=>
  have e:k=24:=by
   rcases hE with ⟨e,_⟩|⟨_,e,_⟩
   .exact e
   .exact absurd e (by show¬(13:Int)=12;decide)
  have hm:=dz (l:=l) (i:=m) (by rw [h2];decide);rw [Kr hb ah ah h4.sg1.b,Kr hb (show m<=m+1 by omega) ah (dZ.tok h2 aH rfl rfl).b,VY hm (by rw [h2];exact ⟨rfl,rfl⟩),h2,e];simp
 | @many _ _ m ts h1 h2 h3 h4 h5 h6 h7 h8=>
  have e:k=24:=by
   rcases hE with ⟨e,_⟩|⟨_,e,_⟩
   .exact e
   .exact absurd e (by show¬(13:Int)=12;decide)
  have hm:=dz (l:=l) (i:=m+1) (by rw [h4];decide);have b1:dZ l i (m+1) _:=dZ.wrap ah h1 h3 rfl rfl ((Kq l _ (i+1) m<|dK _).2.2 _ h8);have b2:dZ l (m+1) (m+1+1) _:=dZ.tok h4 aH rfl rfl;rw [Kr hb (show i<=m+1 by omega) ah b1.b,Kr hb (show m+1<=m+1+1 by omega) ah b2.b,VY hm (by rw [h4];exact ⟨rfl,rfl⟩),h4,e];simp
 | @bin _ _ m f _ a b _ _ o h1 h2 h3 h4 h5 h6 h7 h8=>
  have e:k=o:=by
   rcases hE with ⟨_,e⟩|⟨e,_,e2⟩
   .exact absurd e (by show¬(12:Int)=13;decide)
   .have e2:o=62:=e2;omega
  have xW:m+1<=f:=xV h6;have h9:=adQ h1;have hm:=dz (l:=l) (i:=m) (by rw [h3];omega);rw [Kr hb (show i<=m by omega) ah h7.sg1.b,Kr hb (show m<=m+1 by omega) ah (dZ.tok h3 ah (Rq h1).1 (Rq h1).2).b,VY hm (by rw [h3];exact Rq h1),h3,e];simp
 | cat=>
  exfalso;rcases hE with ⟨_,e⟩|⟨_,_,e⟩
  .exact absurd e (by show¬(12:Int)=13;decide)
  .exact absurd e (by show¬(99:Int)=62;decide)
 | leaf k0 e1=>
  exfalso;rcases hE with ⟨_,e⟩|⟨_,e,_⟩
  .have e:k0 - 1=13:=e;omega
  .have e:k0 - 1=12:=e;omega
 | jU k0 e1|call k0 e1=>
  exfalso;rcases hE with ⟨_,e⟩|⟨_,e,_⟩
  .have e:k0=13:=e;omega
  .have e:k0=12:=e;omega
 | name|index|len|field|pre|post|unary|cond|assign=>
  exfalso;rcases hE with ⟨_,e⟩|⟨_,e,_⟩<;>simp at e
def adS (k:Int):zX k=some (dD k):=by
 unfold zX dD;cases (k==32)<;>cases (k==34)<;>rfl
def VZ (k:Int):zW k=some (dF k):=by
 unfold zW dF;cases (k==33)<;>cases (k==35)<;>rfl
def atK (k:Int):TU k=some (opn k):=by
 unfold TU opn;rw [Ak];rfl
def atL (N:Nat) (a:List av) (ha:a.length<=3000) (hN:3000 < N):YA N a=some (wh a:Int):=by
 have l:∀ (n i c:Nat),a.length - i < n->i<=a.length->c<=i->Ep N n (a,(c:Int),(i:Int))=some ((c+wh (a.drop i):Nat):Int):=by
  intro n;induction n with
  | zero=>intro i c h;omega
  | succ n ih=>
   intro i c hn hi hc;rw [Ep];by_cases hlt:i < a.length
   .have k2:∀ c':Nat,c'<=i+1->Qn N (Ep N n) (a,(i:Int),(c':Int))=some ((c'+wh (a.drop<|i+1):Nat):Int):=fun c' hc'=>by
     unfold Qn;dsimp only;rw [wrap64 ah ah,show (i:Int)+1=((i+1:Nat):Int) by omega];exact ih (i+1) c' ah ah hc'
    rw [fO hlt,aB,bJ hlt,ak,atK,ak,xX hlt,wh];cases opn a[i].Kind with
    | true=>
     rw [aB,aB,wrap64 ah ah,show (c:Int)+1=((c+1:Nat):Int) by omega,k2 (c+1) ah];congr 1;omega
    | false=>rw [aA,aA,k2 c ah,wm]
   .rw [gP hlt,aA,xY ah];rfl
 have:=l N 0 0 ah ah ah;rw [zy,wm] at this;exact this
def atM (N:Nat) (a:List av) (ha:a.length<=3000) (hN:3000 < N):YB N a=some (BU 0 a):=by
 have l:∀ (n i:Nat) (d:Int),a.length - i < n->i<=a.length-> -(i:Int)<=d->d<=(i:Int)->CJ N n (a,d,(i:Int))=some (BU d<|a.drop i):=by
  intro n;induction n with
  | zero=>intro i d h;omega
  | succ n ih=>
   intro i d hn hi h1 h2;rw [CJ];by_cases hlt:i < a.length
   .have k3:∀ d':Int,-((i+1:Nat):Int)<=d'->d'<=((i+1:Nat):Int)->Qo N (CJ N n) (a,(i:Int),d')=some (decide (0<=d')&&BU d' (a.drop<|i+1)):=fun d' g1 g2=>by
     unfold Qo;dsimp only;by_cases h0:d' < 0
     .rw [gN h0,lG<|show¬0<=d' by omega];rfl
     .rw [lG h0,gN (show 0<=d' by omega),aA,wrap64 ah ah,show (i:Int)+1=((i+1:Nat):Int) by omega,iF];exact ih (i+1) d' ah ah g1 g2
    rw [fO hlt,aB,bJ hlt,ak,adS,ak,xX hlt,BU];cases ho:dD a[i].Kind with
    | true=>
     unfold Qp;simp only [aB];rw [bJ hlt,ak,VZ,ak,Ko ho,aA,wrap64 ah ah,k3 _ ah ah];rfl
    | false=>
     unfold Qp;simp only [aA];rw [bJ hlt,ak,VZ,ak];cases dF a[i].Kind with
     | true=>rw [aB,wrap64 ah ah,k3 _ ah ah];rfl
     | false=>rw [aA,k3 _ ah ah];rfl
   .rw [gP hlt,aA,xY ah];rfl
 exact l N 0 0 ah ah ah ah
def ajE (N:Nat) (a:List av) (k:Int) (ha:a.length<=3000) (hN:3000 < N):Gf N a k=some (gY k 0 a):=by
 have l:∀ (n i:Nat) (d:Int),a.length - i < n->i<=a.length-> -(i:Int)<=d->d<=(i:Int)->yX N n (a,k,d,(i:Int))=some (gY k d<|a.drop i):=by
  intro n;induction n with
  | zero=>intro i d h;omega
  | succ n ih=>
   intro i d hn hi h1 h2;rw [yX];by_cases hlt:i < a.length
   .have k2:∀ d':Int,-((i+1:Nat):Int)<=d'->d'<=((i+1:Nat):Int)->Jl N (yX N n) (a,k,(i:Int),d')=some (gY k d'<|a.drop<|i+1):=fun d' g1 g2=>by
     unfold Jl;dsimp only;rw [wrap64 ah ah,show (i:Int)+1=((i+1:Nat):Int) by omega];exact ih (i+1) d' ah ah g1 g2
    have k3:∀ d':Int,-((i+1:Nat):Int)<=d'->d'<=(i:Int)->Qq N (yX N n) (a,k,(i:Int),d')=some ((a[i].Kind==k&&d'==0)||gY k (bif dD a[i].Kind then d'+1 else d') (a.drop<|i+1)):=fun d' g1 g2=>by
     unfold Qq;simp only [bJ hlt,ak,adS];have go:(bif dD a[i].Kind then Jl N (yX N n) (a,k,(i:Int),IntKind.wrap .i64<|d'+1) else Jl N (yX N n) (a,k,(i:Int),d'))=some (gY k (bif dD a[i].Kind then d'+1 else d')<|a.drop<|i+1):=by
      cases dD a[i].Kind with
      | true=>rw [aB,aB,wrap64 ah ah,k2 _ ah ah]
      | false=>rw [aA,aA,k2 _ ah ah]
     rw [go];cases (a[i].Kind==k) with
     | true=>cases (d'==0)<;>rfl
     | false=>rfl
    rw [fO hlt,aB,bJ hlt,ak,VZ,ak,xX hlt,gY];cases hc:dF a[i].Kind with
    | true=>rw [aB,wrap64 ah ah,k3 _ ah ah];rfl
    | false=>rw [aA,k3 _ ah ah];rfl
   .rw [gP hlt,aA,xY ah];rfl
 exact l N 0 0 ah ah ah ah
def zF (x:List av):Bool:=decide (2<=x.length)&&(kd x 0==32&&(kd x (x.length - 1)==33&&uO 0 x))
def adT (N:Nat) (a:List av) (ha:a.length<=3000) (hN:3000 < N):Ml N a=some (zF a):=by
 have l:∀ (n i:Nat) (d:Int),a.length - i < n->i<=a.length-> -(i:Int)<=d->d<=(i:Int)->Bz N n (a,d,(i:Int))=some (uO d<|a.drop i):=by
  intro n;induction n with
  | zero=>intro i d h;omega
  | succ n ih=>
   intro i d hn hi h1 h2;rw [Bz];by_cases hlt:i < a.length
   .have k3:∀ d':Int,-((i+1:Nat):Int)<=d'->d'<=((i+1:Nat):Int)->Qr N (Bz N n) (a,(i:Int),d')=some (!(d'==0&&!(a.drop<|i+1).isEmpty)&&uO d' (a.drop<|i+1)):=fun d' g1 g2=>by
     unfold Qr;dsimp only;have he:decide ((i:Int) < IntKind.wrap .i64 ((a.length:Int) - 1))=!(a.drop<|i+1).isEmpty:=by
      rw [wrap64 ah ah];by_cases g:i+1 < a.length
      .rw [xX g,gN ah];rfl
      .rw [xY ah,lG ah];rfl
     rw [he,wrap64 ah ah,show (i:Int)+1=((i+1:Nat):Int) by omega];have hn:=ih (i+1) d' ah ah g1 g2;cases (d'==0) with
     | false=>rw [aA,ak,aA,hn];rfl
     | true=>
      rw [aB,ak];cases (!(a.drop<|i+1).isEmpty) with
      | true=>rfl
      | false=>rw [aA,hn];rfl
    rw [fO hlt,aB,bJ hlt,ak,adS,ak,xX hlt,uO];cases ho:dD a[i].Kind with
    | true=>
     unfold Qs;simp only [aB];rw [bJ hlt,ak,VZ,ak,Ko ho,aA,wrap64 ah ah,k3 _ ah ah];rfl
    | false=>
     unfold Qs;simp only [aA];rw [bJ hlt,ak,VZ,ak];cases dF a[i].Kind with
     | true=>rw [aB,wrap64 ah ah,k3 _ ah ah];rfl
     | false=>rw [aA,k3 _ ah ah];rfl
   .rw [gP hlt,aA,xY ah];rfl
 unfold Ml zF;by_cases h2:2<=a.length
 .have i0:ix a 0=some (a[0]' ah):=bJ (i:=0) ah;have e0:(a[0]' ah).Kind=kd a 0:=(iQ ah).symm;have i1:ix a (IntKind.wrap .i64<|(a.length:Int) - 1)=some (a[a.length - 1]' ah):=by
   rw [wrap64 ah ah,show (a.length:Int) - 1=((a.length - 1:Nat):Int) by omega,bJ ah]
  have e1:(a[a.length - 1]' ah).Kind=kd a (a.length - 1):=(iQ ah).symm;have:=l N 0 0 ah ah ah ah;rw [zy] at this;have this:Bz N N (a,0,0)=some (uO 0 a):=this;rw [lG (show¬(a.length:Int) < 2 by omega),gN h2,aA,i0,ak,e0,i1,ak,e1,this,iF];unfold bne;cases (kd a 0==32) with
  | false=>rfl
  | true=>cases (kd a (a.length - 1)==33)<;>rfl
 .rw [gN (show (a.length:Int) < 2 by omega),lG h2];rfl
def ajF (N:Nat) (D:dx) (hl:D.l.length<=3000) (hN:4000 < N) (a:Nat) (ha:a<=D.l.length):∃ f:Nat,Ms N D (a:Int)=some (f:Int)/\a<=f/\f<=D.l.length/\(∀ k,a<=k->k < f->kd D.l k=1)/\kd D.l f≠1:=by
 have l:∀ (n a:Nat),D.l.length - a < n->a<=D.l.length->∃ f:Nat,Mr N n (D,(a:Int))=some (f:Int)/\a<=f/\f<=D.l.length/\(∀ k,a<=k->k < f->kd D.l k=1)/\kd D.l f≠1:=by
  intro n;induction n with
  | zero=>intro a h;omega
  | succ n ih=>
   intro a hn ha;rw [Mr];by_cases hlt:a < D.l.length
   .have e:D.l[a].Kind=kd D.l a:=(iQ hlt).symm;rw [fO hlt,aB,bJ hlt,ak,e,ak];cases h1:(kd D.l a==1) with
    | true=>
     have h1:=eq_of_beq h1;rw [aB,wrap64 ah ah,show (a:Int)+1=((a+1:Nat):Int) by omega];obtain ⟨f,f1,f2,f3,f4,f5⟩:=ih (a+1) ah ah;refine ⟨f,f1,ah,f3,fun k g1 g2=>?_,f5⟩;by_cases ek:k=a
     .subst ek;exact h1
     .exact f4 k ah g2
    | false=>
     rw [aA];exact ⟨a,rfl,dK _,ha,fun k g1 g2=>ah,by simpa using h1⟩
   .rw [gP hlt,aA,ak,aA];refine ⟨a,rfl,dK _,ha,fun k g1 g2=>ah,?_⟩;unfold kd;rw [vW ah];decide
 exact l N a ah ha
mutual
def atN:∀ t:aD,yl t<=aU t
 | ⟨k,o,x,y,ks⟩=>by
  have:=adU ks;rw [yl,aU];cases (k==1||(k==2||(k==3||(k==4||(k==5||(k==7||(k==8||k==13)))))))<;>simp only [aB,aA]<;>omega
def adU:∀ ts:List aD,kG ts<=bq ts
 | []=>by rw [kG,bq];omega
 | t::ts=>by
  have:=atN t;have:=adU ts;rw [kG,bq];omega
end
def ajG (a:List aG):∀ (u:aD) (s i:Nat),TA a u s i->aU u<=400->∀ N,1000+aU u<=N->∃ L:List av,(Eo N).Bv a (i:Int)=some L/\L.length=yl u:=by
 intro u;induction u using EO with
 | h u ih=>
  intro s i hT hz N hN;obtain ⟨M,rfl⟩:∃ m,N=m+1:=⟨N - 1,ah⟩
  obtain ⟨n,hn,e1,e2,e3,e4,hka,hkl⟩:=hT.node;have hsz:=Ki u;have hyl:=adU u.kids;have hkb:=xZ u.kids;have loop:∀ (r4:av) (fuel j:Nat) (out:List av),u.kids.length - j < fuel->j<=u.kids.length->out.length+kG (u.kids.drop j)<=500->∃ L:List av,Bw M (Eo M) fuel (a,n,r4,(j:Int),out)=some L/\L.length=out.length+kG (u.kids.drop j)+(bif n.Kind==13 then 1 else 0)+(bif r4.Kind !=0 then 1 else 0):=by
   intro r4 fuel;induction fuel with
   | zero=>intro j out h;omega
   | succ fuel ihf=>
    intro j out hf hj hout;rw [Bw];by_cases hlt:j < u.kids.length
    .have hlt':j < n.Kids.length:=ah;have hv:u.kids[j]?=some (u.kids[j]'hlt):=fZ hlt;obtain ⟨k,s',g1,g2,g3⟩:=hka.get j _ hv;obtain ⟨L,l1,l2⟩:=ih _ (kE hlt) s' k g2 (by have:=Dq (kE hlt);omega) M (by have:=Dq (kE hlt);omega);have hd:kG (u.kids.drop j)=yl (u.kids[j]'hlt)+kG (u.kids.drop<|j+1):=by rw [xX hlt,kG]
     rw [fO hlt',aB,zA g1,ak,l1,ak,mH ah,ak,wrap64 ah ah,show (j:Int)+1=((j+1:Nat):Int) by omega];obtain ⟨L',q1,q2⟩:=ihf (j+1) (out++L) ah ah (by rw [ny];omega);exact ⟨L',q1,by rw [q2,ny];omega⟩
    .have hlt': ¬j < n.Kids.length:=ah;have hd:kG (u.kids.drop j)=0:=by rw [xY ah,kG]
     rw [gP hlt',aA,hd];have k3:∀ o2:List av,o2.length<=501->∃ L:List av,Qm M (Eo M) (Bw M (Eo M) fuel) (r4,o2)=some L/\L.length=o2.length+(bif r4.Kind !=0 then 1 else 0):=fun o2 ho=>by
      unfold Qm TS;dsimp only;cases (r4.Kind !=0) with
      | true=>rw [aB,mH (by first|omega|(simp;omega)),ak];exact ⟨_,rfl,aF⟩
      | false=>exact ⟨_,rfl,rfl⟩
     cases (n.Kind==13) with
     | true=>
      rw [aB,mH (by first|omega|(simp;omega)),ak];obtain ⟨L,q1,q2⟩:=k3 (out++[(⟨6,n.Text,0⟩:av)]) (by rw [ny];simp only [nu,Kn];omega);exact ⟨L,q1,by rw [q2,ny];simp only [nu,Kn,aB];try omega⟩
     | false=>
      rw [aA];obtain ⟨L,q1,q2⟩:=k3 out ah;exact ⟨L,q1,by rw [q2];simp⟩
  show ∃ L:List av,TT M (Eo M) a (i:Int)=some L/\L.length=yl u;unfold TT;rw [zA hn,ak];have atP:∃ r4,og n=some r4/\(r4.Kind !=0)=(n.Kind==1||(n.Kind==2||(n.Kind==3||n.Kind==4))):=by
   unfold og;cases (n.Kind==1) with
   | true=>exact ⟨_,rfl,rfl⟩
   | false=>
    cases (n.Kind==2) with
    | true=>exact ⟨_,rfl,rfl⟩
    | false=>
     cases (n.Kind==3) with
     | true=>exact ⟨_,rfl,rfl⟩
     | false=>cases (n.Kind==4)<;>exact ⟨_,rfl,rfl⟩
  obtain ⟨r4,h4,h4k⟩:=atP;have hyu:yl u=(bif (u.kind==1||(u.kind==2||(u.kind==3||(u.kind==4||(u.kind==5||(u.kind==7||(u.kind==8||u.kind==13))))))) then 1 else 0)+kG u.kids:=by
   obtain ⟨k,o,x,y,ks⟩:=u;rw [yl]
  rw [h4,ak];have app0:∀ t:av,app 32 ([]:List av) [t]=some [t]:=fun t=>by rw [mH aF];rfl
  rw [app0,app0,app0];simp only [ak];have go:∀ out:List av,out.length<=1->(out.length+(bif n.Kind==13 then 1 else 0)+(bif r4.Kind !=0 then 1 else 0)=(bif (u.kind==1||(u.kind==2||(u.kind==3||(u.kind==4||(u.kind==5||(u.kind==7||(u.kind==8||u.kind==13))))))) then 1 else 0))->∃ L:List av,Jk M (Eo M) (a,n,r4,out)=some L/\L.length=yl u:=fun out ho he=>by
   unfold Jk;dsimp only;obtain ⟨L,q1,q2⟩:=loop r4 M 0 out ah ah (by rw [zy];omega);refine ⟨L,q1,?_⟩;rw [q2,hyu,zy];omega
  have f:∀ {z:Int},n.Kind≠z->(n.Kind==z)=false:=fun h=>by simpa using h
  rw [h4k] at go;rw [e1] at go;by_cases h5:n.Kind=5
  .rw [h5] at go ⊢;exact go [_] aF aF
  by_cases h7:n.Kind=7
  .rw [h7] at go ⊢;exact go [_] aF aF
  by_cases h8:n.Kind=8
  .rw [h8] at go ⊢;exact go [_] aF aF
  .rw [f h5,f h7,f h8] at go ⊢;refine go [] aF ?_;by_cases zG:n.Kind=13
   .rw [zG];rfl
   .rw [f zG];cases (n.Kind==1)<;>cases (n.Kind==2)<;>cases (n.Kind==3)<;>cases (n.Kind==4)<;>rfl
end Go.Proofs.Tryz
