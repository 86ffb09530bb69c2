/-
 Plain lemmas on the models, part 8.
-/
import Derived.Test.YtpehbmgfhfpgbaaGreatDoorOnGP7
namespace Go.Proofs.Tryz
open Go.Av
set_option maxRecDepth 100000
set_option linter.all false
def qw (l:List aG) (i:Nat):List UInt8:=(l[i]?.map (·.Text)).getD []
def FI {l:List aG} {i:Nat} (h:i < l.length):qw l i=l[i].Text:=by unfold qw;rw [eZ h];rfl
def uo:aK:=⟨14,false,false,false,false⟩
mutual
inductive gy (l:List aG):aK->Nat->Nat->av->Bool->Prop
 | par {p:aK} {i j:Nat} {t:av} {h:Bool}:kd l i=32->i+1 < j->j < l.length->gy l iA (i+1) j t h->kd l j=33->gy l p i (j+1) t true
 | bare {p:aK} {i j:Nat} {t:av}:mo t.kind t.op p=true->i < j->j<=l.length->iP l p i j t->gy l p i j t false
inductive iP (l:List aG):aK->Nat->Nat->av->Prop
 | leaf {p:aK} {i:Nat} (k:Int):k=3\/k=4\/k=5->kd l i=k->iP l p i (i+1) ⟨k - 1,0,qw l i,[],[]⟩
 | name {p:aK} {i:Nat}:kd l i=6->iP l p i (i+1) ⟨1,0,qw l i,[],[]⟩
 | index {p:aK} {i j:Nat} {ts:List av}:kd l i=6->kd l (i+1)=34->i+2 < j->j < l.length->kd l j=35->ts.length<=6->xR l (i+2) j ts->iP l p i (j+1) ⟨5,0,qw l i,[],ts⟩
 | uT {p:aK} {i:Nat} (k:Int):k=7\/k=8->kd l i=k->kd l (i+1)=32->kd l (i+2)=33->iP l p i (i+3) ⟨k,0,qw l i,[],[]⟩
 | call {p:aK} {i j:Nat} {ts:List av} (k:Int):k=7\/k=8->kd l i=k->kd l (i+1)=32->i+2 < j->j < l.length->kd l j=33->ts.length<=6->xR l (i+2) j ts->iP l p i (j+1) ⟨k,0,qw l i,[],ts⟩
 | len {p:aK} {i:Nat}:kd l i=8->kd l (i+1)≠32->qw l i=[108,101,110,103,116,104]->iP l p i (i+1) ⟨8,0,qw l i,[],[]⟩
 | field {p:aK} {i j:Nat} {t:av} {h:Bool}:kd l i=68->i+1 < j->gy l ⟨14,true,false,false,false⟩ (i+1) j t h->iP l p i j ⟨6,0,[],[],[t]⟩
 | pre {p:aK} {i j:Nat} {t:av} (o:Int):o=51\/o=52->kd l i=o->iG t.kind=true->i+1 < j->iP l uo (i+1) j t->iP l p i j ⟨9,o,[],[],[t]⟩
 | post {p:aK} {i j:Nat} {t:av} (o:Int):o=51\/o=52->kd l j=o->iG t.kind=true->i < j->iP l uo i j t->iP l p i (j+1) ⟨10,o,[],[],[t]⟩
 | unary {p:aK} {i j:Nat} {t:av} {h:Bool} (o:Int):o=55\/o=56\/o=61->kd l i=o->i+1 < j->gy l ⟨11,false,p.aY,p.bg,false⟩ (i+1) j t h->iP l p i j ⟨11,o,[],[],[t]⟩
 | bin {p:aK} {i m f j:Nat} {a b:av} {h1 h2:Bool} (o:Int):bG o≠0->o≠99->kd l m=o->i < m->f < j->((bG o=3\/bG o=4)/\Ln l (m+1) f\/ ¬(bG o=3\/bG o=4)/\f=m+1)->gy l ⟨(ko o).1,false,p.aY,p.bg,p.jk⟩ i m a h1->gy l ⟨(ko o).2,false,p.aY,p.bg,false⟩ f j b h2->iP l p i j ⟨12,o,[],[],[a,b]⟩
 | cat {p:aK} {i m j:Nat} {a b:av} {h1 h2:Bool}:i < m->m < j->gy l ⟨8,false,p.aY,p.bg,p.jk⟩ i m a h1->gy l ⟨9,false,p.aY,p.bg,true⟩ m j b h2->iP l p i j ⟨12,99,[],[],[a,b]⟩
 | one {p:aK} {i m:Nat} {t:av} {h:Bool}:i < m->kd l m=24->kd l (m+1)=6->gy l ⟨5,false,p.aY,p.bg,p.jk⟩ i m t h->iP l p i (m+2) ⟨13,0,qw l<|m+1,[],[t]⟩
 | many {p:aK} {i m:Nat} {ts:List av}:kd l i=32->i+1 < m->kd l m=33->kd l (m+1)=24->kd l (m+2)=6->2<=ts.length->ts.length<=6->xR l (i+1) m ts->iP l p i (m+3) ⟨13,0,qw l<|m+2,[],ts⟩
 | cond {p:aK} {i m n j:Nat} {a b c:av} {h1 h2 h3:Bool}:i < m->kd l m=65->m+1 < n->kd l n=66->n+1 < j->gy l ⟨3,false,p.aY,p.bg,p.jk⟩ i m a h1->gy l ⟨2,false,p.aY,p.bg,false⟩ (m+1) n b h2->gy l ⟨2,false,p.aY,p.bg,false⟩ (n+1) j c h3->iP l p i j ⟨14,0,[],[],[a,b,c]⟩
 | assign {p:aK} {i m j:Nat} {a b:av} {h:Bool} (o:Int):qK o=true->kd l m=o->i < m->m+1 < j->iG a.kind=true->iP l uo i m a->gy l ⟨1,false,p.aY,p.bg,false⟩ (m+1) j b h->iP l p i j ⟨15,o,[],[],[a,b]⟩
inductive xR (l:List aG):Nat->Nat->List av->Prop
 | one {i j:Nat} {t:av} {h:Bool}:i < j->gy l iA i j t h->xR l i j [t]
 | cons {i k f j:Nat} {t u:av} {ts:List av} {h:Bool}:i < k->kd l k=36->Ln l (k+1) f->f < j->gy l iA i k t h->xR l f j (u::ts)->xR l i j (t::u::ts)
end
def gy.lt {l:List aG} {p:aK} {i j:Nat} {t:av} {h:Bool} (d:gy l p i j t h):i < j/\j<=l.length:=by
 cases d with
 | par=>omega
 | bare=>omega
def iP.low {l:List aG} {p:aK} {i j:Nat} {t:av} (d:iP l p i j t) (hk:t.kind<=9) (q:aK):iP l q i j t:=by
 cases d with
 | leaf k h1 h2=>exact .leaf k h1 h2
 | name h1=>exact .name h1
 | index h1 h2 h3 h4 h5 h6 h7=>exact .index h1 h2 h3 h4 h5 h6 h7
 | uT k h1 h2 h3 h4=>exact .uT k h1 h2 h3 h4
 | call k h1 h2 h3 h4 h5 h6 h7 h8=>exact .call k h1 h2 h3 h4 h5 h6 h7 h8
 | len h1 h2 h3=>exact .len h1 h2 h3
 | field h1 h2 h3=>exact .field h1 h2 h3
 | pre o h1 h2 h3 h4 h5=>exact .pre o h1 h2 h3 h4 h5
 | post=>exact absurd hk (by show¬(10:Int)<=9;omega)
 | unary=>exact absurd hk (by show¬(11:Int)<=9;omega)
 | bin=>exact absurd hk (by show¬(12:Int)<=9;omega)
 | cat=>exact absurd hk (by show¬(12:Int)<=9;omega)
 | one=>exact absurd hk (by show¬(13:Int)<=9;omega)
 | many=>exact absurd hk (by show¬(13:Int)<=9;omega)
 | cond=>exact absurd hk (by show¬(14:Int)<=9;omega)
 | assign=>exact absurd hk (by show¬(15:Int)<=9;omega)
def Ot {l:List aG} {m f:Nat} {P:Prop} (h:P/\Ln l (m+1) f\/ ¬P/\f=m+1):m+1<=f:=by
 rcases h with ⟨_,h⟩|⟨_,h⟩
 .exact h.1
 .omega
def rJ {k o:Int} {p:aK} (h:mo k o p=true) (hd:p.uV=false):p.Level<=lv k o:=by
 unfold mo at h;rw [hd] at h;simp only [dP,YV,Uf,lQ] at h;exact h.2.2.2.2
def gy.lvl {l:List aG} {p:aK} {i j:Nat} {t:av} {h:Bool} (d:gy l p i j t h) (hd:p.uV=false):h=true\/p.Level<=lv t.kind t.op:=by
 cases d with
 | par=>exact .inl rfl
 | bare hfit=>exact .inr (rJ hfit hd)
def aAA {k o:Int} {p:aK} (h:mo k o p=true) (hs:p.jk=true):k≠11/\k≠9/\k≠4:=by
 unfold mo at h;rw [hs] at h;simp only [dP,BF,lU,LM,acR] at h;exact h.2.2.2.1
def aAB {k o:Int} {p:aK} (h:mo k o p=true) (hk:k=13):p.aY=false:=by
 unfold mo at h;simp only [dP,lU,aiK] at h;rcases h.2.1 with h|h
 .exact h
 .rw [hk] at h;cases h
def aAC {k o:Int} {p:aK} (h:mo k o p=true) (hk:k=12) (ho:o=62):p.bg=false:=by
 unfold mo at h;simp only [dP,lU,aiK] at h;rcases h.2.2.1 with h|h
 .exact h
 .rw [hk,ho] at h;rcases h with h|h<;>cases h
def aAD {o:Int} (h:12<=bG o):ko o=(13,11):=by
 have:=KT o;have e:bG o=12:=ah;unfold ko;rw [e];rfl
def KW {l:List aG} {p:aK} {i j:Nat} {t:av} (d:iP l p i j t) (h:iG t.kind=true):kd l i=6\/kd l i=68:=by
 cases d with
 | leaf k h1 h2=>rcases h1 with rfl|rfl|rfl<;>cases h
 | name h1=>exact .inl h1
 | index h1=>exact .inl h1
 | uT k h1=>rcases h1 with rfl|rfl<;>cases h
 | call k h1=>rcases h1 with rfl|rfl<;>cases h
 | field h1=>exact .inr h1
 | len|pre|post|unary|bin|cat|one|many|cond|assign=>cases h
def abY (k:Int):Bool:=vM k||(k==5||(k==51||(k==52||(k==55||(k==56||k==61)))))
structure OM (p:aK) (t:av) (k:Int):Prop where
 o:abY k=true
 s:p.jk=true->t.kind≠11->t.kind≠9->t.kind≠4->vM k=true
 a:12<=lv t.kind t.op->k≠55/\k≠56/\k≠61
 b:14<=lv t.kind t.op->k≠51/\k≠52
 c:15<=lv t.kind t.op->k≠68
structure FsD (p:aK) (t:av) (h:Bool) (k:Int):Prop where
 o:abY k=true
 s:p.jk=true->vM k=true
 a:h=true\/12<=lv t.kind t.op->k≠55/\k≠56/\k≠61
 b:h=true\/14<=lv t.kind t.op->k≠51/\k≠52
 c:h=true\/15<=lv t.kind t.op->k≠68
def OM.beg {p:aK} {t:av} {k:Int} (h:vM k=true) (a:12<=lv t.kind t.op->k≠55/\k≠56/\k≠61) (b:14<=lv t.kind t.op->k≠51/\k≠52) (c:15<=lv t.kind t.op->k≠68):OM p t k:=⟨by unfold abY;rw [h];rfl,fun _ _ _ _=>h,a,b,c⟩
def OM.Ld {p:aK} {t:av} {k:Int} (h:k=3\/k=4\/k=6\/k=7\/k=8\/k=32):OM p t k:=by
 rcases h with rfl|rfl|rfl|rfl|rfl|rfl<;>exact .beg rfl (fun _=>aJ) (fun _=>aJ) (fun _=>aJ)
def aov (l:List aG):∀ (n i j:Nat),j - i<=n->(∀ p t,i < j->iP l p i j t->OM p t (kd l i))/\(∀ p t h,gy l p i j t h->FsD p t h (kd l i)):=by
 intro n;induction n with
 | zero=>exact fun i j hn=>⟨fun p t hij=>ah,fun p t h d=>by have:=d.lt;omega⟩
 | succ n ih=>
  intro i j hn;have hN:∀ p t,i < j->iP l p i j t->OM p t (kd l i):=by
   intro p t hij d;cases d with
   | leaf k h1 h2=>
    rw [h2];rcases h1 with rfl|rfl|rfl
    .exact .Ld ah
    .exact .Ld ah
    .exact ⟨rfl,fun _ _ _ h=>absurd rfl h,fun _=>aJ,fun _=>aJ,fun _=>aJ⟩
   | name h1=>exact .Ld ah
   | index h1=>exact .Ld ah
   | uT k h1 h2=>exact .Ld ah
   | call k h1 h2=>exact .Ld ah
   | len h1=>exact .Ld ah
   | field h1=>rw [h1];exact .beg rfl (fun _=>aJ) (fun _=>aJ) (fun h=>absurd h<|by show¬(15:Int)<=14;omega)
   | pre o h1 h2=>
    rw [h2];exact ⟨by rcases h1 with rfl|rfl<;>rfl,fun _ _ h=>absurd rfl h,fun _=>ah,fun h=>absurd h (by show¬(14:Int)<=13;omega),fun h=>absurd h<|by show¬(15:Int)<=13;omega⟩
   | post o h1 h2 h3 h4 h5=>rcases KW h5 h3 with e|e<;>rw [e]<;>exact .beg rfl (fun _=>aJ) (fun _=>aJ) (fun h=>absurd h<|by show¬(15:Int)<=13;omega)
   | unary o h1 h2=>
    rw [h2];exact ⟨by rcases h1 with rfl|rfl|rfl<;>rfl,fun _ h=>absurd rfl h,fun h=>absurd h (by show¬(12:Int)<=11;omega),fun h=>absurd h (by show¬(14:Int)<=11;omega),fun h=>absurd h<|by show¬(15:Int)<=11;omega⟩
   | bin o h1 h2 h3 h4 h5 h6 h7 h8=>
    have hlt:=h7.lt;have r:=(ih i _ (by have:=Ot h6;omega)).2 _ _ _ h7;have ho:=KT o;refine ⟨r.o,fun hs _ _ _=>r.s hs,fun h=>r.a ?_,fun h=>absurd h (by show¬(14:Int)<=bG o;omega),fun h=>absurd h<|by show¬(15:Int)<=bG o;omega⟩;have h:12<=bG o:=h;cases h7 with
    | par=>exact .inl rfl
    | bare hf=>
     have:=rJ hf rfl;rw [aAD h] at this;exact .inr (by have this:(13:Int)<=_:=this;omega)
   | cat h1 h2 h3 h4=>
    have r:=(ih i _ ah).2 _ _ _ h3;exact ⟨r.o,fun hs _ _ _=>r.s hs,fun h=>absurd h (by show¬(12:Int)<=8;omega),fun h=>absurd h (by show¬(14:Int)<=8;omega),fun h=>absurd h<|by show¬(15:Int)<=8;omega⟩
   | one h1 h2 h3 h4=>
    have r:=(ih i _ ah).2 _ _ _ h4;exact ⟨r.o,fun hs _ _ _=>r.s hs,fun h=>absurd h (by show¬(12:Int)<=5;omega),fun h=>absurd h (by show¬(14:Int)<=5;omega),fun h=>absurd h<|by show¬(15:Int)<=5;omega⟩
   | many h1=>exact .Ld ah
   | cond h1 h2 h3 h4 h5 h6=>
    have r:=(ih i _ ah).2 _ _ _ h6;exact ⟨r.o,fun hs _ _ _=>r.s hs,fun h=>absurd h (by show¬(12:Int)<=2;omega),fun h=>absurd h (by show¬(14:Int)<=2;omega),fun h=>absurd h<|by show¬(15:Int)<=2;omega⟩
   | assign o h1 h2 h3 h4 h5 h6=>rcases KW h6 h5 with e|e<;>rw [e]<;>exact .beg rfl (fun _=>aJ) (fun _=>aJ) (fun h=>absurd h<|by show¬(15:Int)<=1;omega)
  refine ⟨hN,fun p t h d=>?_⟩;cases d with
  | par h1=>rw [h1];exact ⟨rfl,fun _=>rfl,fun _=>aJ,fun _=>aJ,fun _=>aJ⟩
  | bare hf hij _ d=>
   have r:=hN p t hij d;refine ⟨r.o,fun hs=>?_,fun h=>r.a ?_,fun h=>r.b ?_,fun h=>r.c ?_⟩
   .obtain ⟨s1,s2,s3⟩:=aAA hf hs;exact r.s hs s1 s2 s3
   all_goals
    rcases h with h|h
    .cases h
    .exact h
def gy.first {l:List aG} {p:aK} {i j:Nat} {t:av} {h:Bool} (d:gy l p i j t h):FsD p t h (kd l i):=(aov l (j - i) i j<|eD _).2 p t h d
def iP.first {l:List aG} {p:aK} {i j:Nat} {t:av} (d:iP l p i j t) (h:i < j):OM p t (kd l i):=(aov l (j - i) i j<|eD _).1 p t h d
def seg (l:List aG) (i j:Nat):List aG:=(l.drop i).take (j - i)
def OO {l:List aG} {i m j:Nat} (h1:i<=m) (h2:m<=j):seg l i j=seg l i m++seg l m j:=by
 unfold seg;have e:j - i=(m - i)+(j - m):=ah;rw [e,List.take_add,Ud,show i+(m - i)=m by omega]
def Lf {l:List aG} {i:Nat} (h:i < l.length):seg l i (i+1)=[l[i]]:=by
 unfold seg;rw [show i+1 - i=1 by omega,Jj h];rfl
def aAE (l:List aG) (i:Nat):seg l i i=[]:=by
 unfold seg;rw [acV];rfl
def aow {l:List aG} {i j:Nat}:Sg l i (seg l i j):=⟨(l.drop i).drop<|j - i,by unfold seg;rw [List.take_append_drop]⟩
def Bl (l:List aG) (e i j:Nat):Prop:=∀ d y,inn (e+d) (seg l i j++y)=inn (e+d) y
def Bl.nil (l:List aG) (e i:Nat):Bl l e i i:=fun d y=>by rw [aAE,Gh]
def Bl.up {l:List aG} {i j:Nat} (h:Bl l 0 i j) (e:Nat):Bl l e i j:=fun d y=>by
 have:=h (e+d) y;rwa [qV] at this
def Bl.app {l:List aG} {e i m j:Nat} (h1:i<=m) (h2:m<=j) (a:Bl l e i m) (b:Bl l e m j):Bl l e i j:=fun d y=>by
 rw [OO h1 h2,nU,a d,b d]
def Bl.tok {l:List aG} {i:Nat} (hi:i < l.length) (h:OL (kd l i)=true) (e:Nat):Bl l e i (i+1):=fun d y=>by
 rw [Lf hi];exact aAx (by rw [<- Cq hi];exact h) _ _
def aAF {l:List aG} {i:Nat} (hi:i < l.length) (h:kd l i=36):Bl l 1 i (i+1):=fun d y=>by
 rw [Lf hi];have hk:l[i].Kind=36:=by rw [<- Cq hi];exact h
 show inn (1+d) (l[i]::y)=_;rw [inn,hk];have:(1+d==0)=false:=aA;rw [this];rfl
def Bl.wrap {l:List aG} {i j:Nat} (hij:i < j) (hj:j < l.length) (ho:mD (kd l i)=true) (hc:oz (kd l j)=true) (h:Bl l 1 (i+1) j):Bl l 0 i (j+1):=fun d y=>by
 have hi:i < l.length:=ah;rw [OO (show i<=i+1 by omega) (show i+1<=j+1 by omega),OO (show i+1<=j by omega) (show j<=j+1 by omega),Lf hi,Lf hj,nU,nU];show inn (0+d) (l[i]::(seg l (i+1) j++l[j]::y))=_;rw [aAy (by rw [<- Cq hi];exact ho),show 0+d+1=1+d by omega,h d,show 1+d=0+d+1 by omega,aAz<|by rw [<- Cq hj];exact hc]
def Bl.ln {l:List aG} {e:Nat}:∀ (n a f:Nat),f - a<=n->a<=f->f<=l.length->(∀ k,a<=k->k < f->kd l k=1)->Bl l e a f
 | 0,a,f,h,h1,_,_=>by
  have:a=f:=ah;subst this;exact .nil l e a
 | n+1,a,f,h,h1,h2,hk=>by
  by_cases ha:a=f
  .subst ha;exact .nil l e a
  .exact (Bl.tok ah (by rw [hk a ah ah];rfl) e).app ah ah (Bl.ln n (a+1) f ah ah h2 fun k h3 h4=>hk k ah h4)
def aox {k:Int} (h:k≠32/\k≠34/\k≠30/\k≠33/\k≠35/\k≠31/\k≠36):OL k=true:=by
 unfold OL mD oz;obtain ⟨h1,h2,h3,h4,h5,h6,h7⟩:=h;have f:∀ {z:Int},k≠z->(k==z)=false:=fun h=>by simpa using h
 rw [f h1,f h2,f h3,f h4,f h5,f h6,f h7];rfl
def aAG {o:Int} (h:bG o≠0):OL o=true:=by
 refine aox ?_;refine ⟨?_,?_,?_,?_,?_,?_,?_⟩<;>(intro e;subst e;exact h rfl)
def aAH {o:Int} (h:qK o=true):OL o=true:=by
 refine aox ?_;refine ⟨?_,?_,?_,?_,?_,?_,?_⟩<;>(intro e;subst e;cases h)
def ahc {l:List aG} {i:Nat} {k:Int} (h:kd l i=k) (hk:k≠0):i < l.length:=agT (by rw [h];exact hk)
def aAI (l:List aG):∀ (n i j:Nat),j - i<=n->(∀ p t,i < j->j<=l.length->iP l p i j t->Bl l 0 i j)/\(∀ p t h,gy l p i j t h->Bl l 0 i j)/\(∀ ts,j<=l.length->xR l i j ts->Bl l 1 i j):=by
 intro n;induction n with
 | zero=>
  refine fun i j hn=>⟨fun p t hij=>ah,fun p t h d=>by have:=d.lt;omega,fun ts hj d=>?_⟩
  cases d with
  | one h1 h2=>have:=h2.lt;omega
  | cons h1 h2 h3 h4=>have:=h3.1;omega
 | succ n ih=>
  intro i j hn;have hN:∀ p t,i < j->j<=l.length->iP l p i j t->Bl l 0 i j:=by
   intro p t hij hj d;cases d with
   | leaf k h1 h2=>exact .tok ah (by rw [h2];rcases h1 with rfl|rfl|rfl<;>rfl) 0
   | name h1=>exact .tok ah (by rw [h1];rfl) 0
   | index h1 h2 h3 h4 h5 h6 h7=>exact (Bl.tok ah (by rw [h1];rfl) 0).app ah ah (.wrap ah h4 (by rw [h2];rfl) (by rw [h5];rfl)<|(ih (i+2) _ ah).2.2 _ ah h7)
   | uT k h1 h2 h3 h4=>exact (Bl.tok ah (by rw [h2];rcases h1 with rfl|rfl<;>rfl) 0).app ah ah (Bl.wrap (i:=i+1) (j:=i+2) ah ah (by rw [h3];rfl) (by rw [h4];rfl)<|.nil l 1 _)
   | call k h1 h2 h3 h4 h5 h6 h7 h8=>exact (Bl.tok ah (by rw [h2];rcases h1 with rfl|rfl<;>rfl) 0).app ah ah (.wrap ah h5 (by rw [h3];rfl) (by rw [h6];rfl)<|(ih (i+2) _ ah).2.2 _ ah h8)
   | len h1=>exact .tok ah (by rw [h1];rfl) 0
   | field h1 h2 h3=>exact (Bl.tok ah (by rw [h1];rfl) 0).app ah ah ((ih (i+1) j ah).2.1 _ _ _ h3)
   | pre o h1 h2 h3 h4 h5=>exact (Bl.tok ah (by rw [h2];rcases h1 with rfl|rfl<;>rfl) 0).app ah ah ((ih (i+1) j ah).1 _ _ h4 hj h5)
   | post o h1 h2 h3 h4 h5=>exact ((ih i _ ah).1 _ _ h4 ah h5).app ah ah (.tok ah (by rw [h2];rcases h1 with rfl|rfl<;>rfl) 0)
   | unary o h1 h2 h3 h4=>exact (Bl.tok ah (by rw [h2];rcases h1 with rfl|rfl|rfl<;>rfl) 0).app ah ah ((ih (i+1) j ah).2.1 _ _ _ h4)
   | @bin _ _ m f _ a b _ _ o h1 h2 h3 h4 h5 h6 h7 h8=>
    have hl7:=h7.lt;have hl8:=h8.lt;have Ou:m+1<=f:=Ot h6;have ln:Bl l 0 (m+1) f:=by
     rcases h6 with ⟨_,h6⟩|⟨_,h6⟩
     .exact .ln (f - (m+1)) _ _ ah Ou ah h6.2.1
     .rw [h6];exact .nil l 0 _
    exact ((ih i m ah).2.1 _ _ _ h7).app ah ah ((Bl.tok ah (by rw [h3];exact aAG h1) 0).app ah ah<|ln.app Ou ah<|(ih f j ah).2.1 _ _ _ h8)
   | cat h1 h2 h3 h4=>exact ((ih i _ ah).2.1 _ _ _ h3).app ah ah ((ih _ j ah).2.1 _ _ _ h4)
   | @one _ _ m t h h1 h2 h3 h4=>exact ((ih i m ah).2.1 _ _ _ h4).app ah ah ((Bl.tok ah (by rw [h2];rfl) 0).app ah ah<|Bl.tok (i:=m+1) ah (by rw [h3];rfl) 0)
   | @many _ _ m ts h1 h2 h3 h4 h5 h6 h7 h8=>exact (Bl.wrap ah ah (by rw [h1];rfl) (by rw [h3];rfl)<|(ih (i+1) m ah).2.2 _ ah h8).app ah ah ((Bl.tok (i:=m+1) ah (by rw [h4];rfl) 0).app ah ah<|Bl.tok (i:=m+2) ah (by rw [h5];rfl) 0)
   | @cond _ _ m n2 _ a b c _ _ _ h1 h2 h3 h4 h5 h6 h7 h8=>exact ((ih i m ah).2.1 _ _ _ h6).app ah ah ((Bl.tok ah (by rw [h2];rfl) 0).app ah ah<|((ih (m+1) n2 ah).2.1 _ _ _ h7).app ah ah<|(Bl.tok ah (by rw [h4];rfl) 0).app ah ah<|(ih (n2+1) j ah).2.1 _ _ _ h8)
   | @assign _ _ m _ a b _ o h1 h2 h3 h4 h5 h6 h7=>exact ((ih i m ah).1 _ _ h3 ah h6).app ah ah ((Bl.tok ah (by rw [h2];exact aAH h1) 0).app ah ah<|(ih (m+1) j ah).2.1 _ _ _ h7)
  refine ⟨hN,fun p t h d=>?_,fun ts hj d=>?_⟩
  .cases d with
   | par h1 h2 h3 h4 h5=>exact .wrap ah h3 (by rw [h1];rfl) (by rw [h5];rfl) (((ih (i+1) _ ah).2.1 _ _ _ h4).up 1)
   | bare h1 h2 h3 h4=>exact hN p t h2 h3 h4
  .cases d with
   | one h1 h2=>
    cases h2 with
    | par g1 g2 g3 g4 g5=>exact (Bl.wrap ah g3 (by rw [g1];rfl) (by rw [g5];rfl)<|((ih (i+1) _ ah).2.1 _ _ _ g4).up 1).up 1
    | bare g1 g2 g3 g4=>exact (hN _ _ g2 g3 g4).up 1
   | @cons _ k f _ t u ts h h1 h2 h3 h4 h5 h6=>
    have:=h3.1;exact (((ih i k ah).2.1 _ _ _ h5).up 1).app ah ah ((aAF ah h2).app ah ah<|(Bl.ln (f - (k+1)) _ _ ah ah ah h3.2.1).app ah ah<|(ih f j ah).2.2 _ hj h6)
def gy.bal {l:List aG} {p:aK} {i j:Nat} {t:av} {h:Bool} (d:gy l p i j t h):Bl l 0 i j:=(aAI l (j - i) i j<|eD _).2.1 p t h d
def Bl.inn {l:List aG} {i j:Nat} (h:Bl l 0 i j):inn 0 (seg l i j)=true:=by
 have:=h 0 [];rw [qd] at this;rw [this];rfl
def aoz (l:List aG) (hl:l.length<=3000):∀ (n i j:Nat),j - i<=n->(∀ p t,i < j->j<=l.length->iP l p i j t->6<=lv t.kind t.op->qM l i false)/\(∀ p t h,gy l p i j t h->h=true\/6<=lv t.kind t.op->qM l i false):=by
 intro n;induction n with
 | zero=>exact fun i j hn=>⟨fun p t hij=>ah,fun p t h d=>by have:=d.lt;omega⟩
 | succ n ih=>
  intro i j hn;have no:∀ k:Int,kd l i=k->k≠32->qM l i false:=fun k h hk=>aAs l i (by rw [h];exact hk);have hN:∀ p t,i < j->j<=l.length->iP l p i j t->6<=lv t.kind t.op->qM l i false:=by
   intro p t hij hj d h6;cases d with
   | leaf k h1 h2=>exact no k h2 ah
   | name h1=>exact no 6 h1 aJ
   | index h1=>exact no 6 h1 aJ
   | uT k h1 h2=>exact no k h2 ah
   | call k h1 h2=>exact no k h2 ah
   | len h1=>exact no 8 h1 aJ
   | field h1=>exact no 68 h1 aJ
   | pre o h1 h2=>exact no o h2 ah
   | post o h1 h2 h3 h4 h5=>rcases KW h5 h3 with e|e<;>exact no _ e aJ
   | unary o h1 h2=>exact no o h2 ah
   | @bin _ _ m f _ a b _ _ o h1 h2 h3 h4 h5 h6' h7 h8=>
    have Ou:m+1<=f:=Ot h6';refine (ih i m ah).2 _ _ _ h7 ?_;have h6:6<=bG o:=h6;cases h7 with
    | par=>exact .inl rfl
    | bare hf=>
     have hs:7<=(ko o).1:=by
      have ho:=KT o;have:bG o=6\/bG o=7\/bG o=8\/bG o=9\/bG o=10\/bG o=11\/bG o=12:=ah;unfold ko;rcases this with e|e|e|e|e|e|e<;>rw [e]<;>decide
     exact .inr (by have:=rJ hf rfl;have this:(ko o).1<=_:=this;omega)
   | @cat _ _ m _ a b _ _ h1 h2 h3 h4=>
    refine (ih i m ah).2 _ _ _ h3 ?_;cases h3 with
    | par=>exact .inl rfl
    | bare hf=>exact .inr (by have:=rJ hf rfl;have this:(8:Int)<=_:=this;omega)
   | one=>exact absurd h6 (by show¬(6:Int)<=5;omega)
   | many=>exact absurd h6 (by show¬(6:Int)<=5;omega)
   | cond=>exact absurd h6 (by show¬(6:Int)<=2;omega)
   | assign=>exact absurd h6 (by show¬(6:Int)<=1;omega)
  refine ⟨hN,fun p t h d hh=>?_⟩;cases d with
  | @par _ _ j t h h1 h2 h3 h4 h5=>
   have hi:i < l.length:=ah;refine aAq l hl i l[i] l[j] (seg l (i+1) j) ?_ (by rw [<- Cq hi];exact h1) (by rw [<- Cq h3,h5];rfl) h4.bal.inn;have:=aow (l:=l) (i:=i) (j:=j+1);rwa [OO (show i<=i+1 by omega) (show i+1<=j+1 by omega),OO (show i+1<=j by omega) (show j<=j+1 by omega),Lf hi,Lf h3] at this
  | bare h1 h2 h3 h4=>
   rcases hh with h|h
   .cases h
   .exact hN p t h2 h3 h4 h
def gy.cm {l:List aG} (hl:l.length<=3000) {p:aK} {i j:Nat} {t:av} {h:Bool} (d:gy l p i j t h) (hh:h=true\/6<=lv t.kind t.op):qM l i false:=(aoz l hl (j - i) i j<|eD _).2 p t h d hh
def OP {lv:Int} {q:aK} {k:Int} (h1:lv=1->qK k=false) (h2:lv=2->k≠65) (h5:lv=5->k≠24) (h8:lv=8->vM k=false) (h12:lv=12->k≠60) (h13:lv=13->k≠51/\k≠52) (ho:bG k≠lv):cont lv q k=false:=by
 have f:∀ {a b:Int},a≠b->(a==b)=false:=fun h=>by simpa using h
 unfold cont;by_cases e1:lv=1
 .subst e1;exact h1 rfl
 by_cases e2:lv=2
 .subst e2;exact f (h2 rfl)
 by_cases e5:lv=5
 .subst e5;show (k==24&&!q.aY)=false;rw [f<|h5 rfl];rfl
 by_cases e8:lv=8
 .subst e8;exact h8 rfl
 by_cases e12:lv=12
 .subst e12;exact f (h12 rfl)
 by_cases e13:lv=13
 .subst e13;show (k==51||k==52)=false;rw [f (h13 rfl).1,f (h13 rfl).2];rfl
 rw [f e1,f e2,f e5,f e8,f e12,f e13,f ho];cases (lv==11)<;>cases (lv==14)<;>cases (lv==15)<;>simp
def SF {k:Int} (h:qK k=true):(38<=k/\k<=43)\/k=54:=by
 unfold qK Cc at h;rw [DU] at h;by_cases e:k=54
 .exact .inr e
 .have:(k==54)=false:=by simpa using e
  rw [this] at h;left;simpa using h
def Im {o:Int} (h:bG o≠0):o=44\/o=45\/o=67\/o=46\/o=63\/o=48\/o=47\/o=50\/o=62\/o=49\/o=99\/o=55\/o=56\/o=57\/o=58\/o=59\/o=60:=by
 apply Classical.byContradiction;intro hn;simp only [not_or] at hn;obtain ⟨a1,a2,a3,a4,a5,a6,a7,a8,a9,a10,a11,a12,a13,a14,a15,a16,a17⟩:=hn;apply h;have f:∀ {a b:Int},¬a=b->(a==b)=false:=fun h=>by simpa using h
 unfold bG Om Xd Ik Xc Sr;simp only [f a1,f a2,f a3,f a4,f a5,f a6,f a7,f a8,f a9,f a10,f a11,f a12,f a13,f a14,f a15,f a16,f a17,aI,YJ]
def abp {k:Int} (h:vM k=true):k=3\/k=4\/k=6\/k=7\/k=8\/k=32\/k=68:=by
 unfold vM at h;simp only [lS,oZ] at h;omega
def acd {k:Int} (h:k=33\/k=35\/k=36\/k=66) (q:aK) (b:Int) (hb:1<=b):jQ (bq q b) k:=by
 refine ⟨ah,fun lv hv=>?_⟩;have hv:b<=lv:=hv;rcases h with rfl|rfl|rfl|rfl<;>exact OP (fun _=>rfl) (fun _=>aJ) (fun _=>aJ) (fun _=>rfl) (fun _=>aJ) (fun _=>aJ) (by show (0:Int)≠lv;omega)
def aAO (q:aK) (b:Int) (hb:3<=b):jQ (bq q b) 65:=by
 refine ⟨ah,fun lv hv=>?_⟩;have hv:b<=lv:=hv;exact OP (fun _=>rfl) (fun _=>ah) (fun _=>aJ) (fun _=>rfl) (fun _=>aJ) (fun _=>aJ) (by show (0:Int)≠lv;omega)
def aAP (q:aK) (b:Int) (hb:6<=b):jQ (bq q b) 24:=by
 refine ⟨ah,fun lv hv=>?_⟩;have hv:b<=lv:=hv;exact OP (fun _=>rfl) (fun _=>ah) (fun _=>ah) (fun _=>rfl) (fun _=>aJ) (fun _=>aJ) (by show (0:Int)≠lv;omega)
def aAQ {k:Int} (h:k=51\/k=52) (q:aK) (b:Int) (hb:14<=b):jQ (bq q b) k:=by
 refine ⟨ah,fun lv hv=>?_⟩;have hv:b<=lv:=hv;rcases h with rfl|rfl<;>exact OP (fun _=>rfl) (fun _=>ah) (fun _=>ah) (fun _=>rfl) (fun _=>aJ) (fun _=>ah) (by show (0:Int)≠lv;omega)
def aAR {k:Int} (h:qK k=true) (q:aK) (b:Int) (hb:2<=b):jQ (bq q b) k:=by
 have hl:=SF h;refine ⟨ah,fun lv hv=>?_⟩;have hv:b<=lv:=hv;have h8:vM k=false:=by
  cases e:vM k with
  | false=>rfl
  | true=>have:=abp e;omega
 refine OP (fun _=>ah) (fun _=>ah) (fun _=>ah) (fun _=>h8) (fun _=>ah) (fun _=>ah) ?_;intro e;have:=Im (o:=k) ah;omega
def ahd {k:Int} (h:bG k≠0) (rG:k≠99) (q:aK) (b:Int) (hb:bG k < b):jQ (bq q b) k:=by
 have hl:=Im h;refine ⟨ah,fun lv hv=>?_⟩;have hv:b<=lv:=hv;have h8:vM k=false:=by
  cases e:vM k with
  | false=>rfl
  | true=>have:=abp e;omega
 have h1:qK k=false:=by
  cases e:qK k with
  | false=>rfl
  | true=>have:=SF e;omega
 refine OP (fun _=>h1) (fun _=>ah) (fun _=>ah) (fun _=>h8) (fun e=>?_) (fun _=>ah) ah;intro e60;subst e60;have:(12:Int) < b:=hb;omega
def aAS {k:Int} (h:vM k=true) (q:aK) (b:Int) (hb:9<=b):jQ (bq q b) k:=by
 have hl:=abp h;refine ⟨ah,fun lv hv=>?_⟩;have hv:b<=lv:=hv;have h1:qK k=false:=by
  cases e:qK k with
  | false=>rfl
  | true=>have:=SF e;omega
 refine OP (fun _=>h1) (fun _=>ah) (fun _=>ah) (fun _=>ah) (fun e=>ah) (fun _=>ah) ?_;intro e;have:=Im (o:=k) ah;omega
def jQ.to {q:aK} {a b:Int} {k:Int} (h:jQ (bq q a) k) (hab:a<=b):jQ (bq q b) k:=⟨h.1,fun lv hv=>h.2 lv (by have hv:b<=lv:=hv;show a<=lv;omega)⟩
def jQ.eleven {q:aK} {k:Int} (h:jQ (bq q 12) k):jQ (bq q 11) k:=⟨h.1,fun lv hv=>by
 have hv:11<=lv:=hv;by_cases e:lv=11
 .subst e;rfl
 .exact h.2 lv (by show 12<=lv;omega)⟩
def aoA {l:List aG} {q:aK} {i j:Nat} {t:av} {h:Bool} (hsz:aV t<=400):∀ (n:Nat) (b:Int),1<=b->b+n<=11->(6<=b+n->qM l i false)->Rd l (bq q<|b+n) i j t h->jQ (bq q b) (kd l j)->Rd l (bq q b) i j t h
 | 0,b,_,_,_,hr,_=>by
  have:b+((0:Nat):Int)=b:=ah;rw [this] at hr;exact hr
 | n+1,b,h1,h2,hcm,hr,hn=>by
  have e:b+((n+1:Nat):Int)=(b+1)+(n:Int):=ah;rw [e] at hr hcm;exact aot b h1 ah hsz (aoA hsz n (b+1) ah ah hcm hr<|hn.to ah) (hn.2 b<|YS b) fun e5 _=>hcm ah
def desc {l:List aG} {q:aK} {i j:Nat} {t:av} {h:Bool} (hsz:aV t<=400) (a b:Int) (hb:1<=b) (hab:b<=a) (ha:a<=11) (hcm:6<=a->qM l i false) (hr:Rd l (bq q a) i j t h) (hn:jQ (bq q b) (kd l j)):Rd l (bq q b) i j t h:=by
 have e:b+(((a - b).toNat:Nat):Int)=a:=ah;exact aoA hsz (a - b).toNat b hb ah (by rw [e];exact hcm) (by rw [e];exact hr) hn
def ahe {l:List aG} {q:aK} {i j:Nat} {t:av} {h:Bool} (hsz:aV t<=400) (b:Int) (hb:1<=b) (hb2:b<=13) (hcm:qM l i false) (hk:kd l i≠55/\kd l i≠56/\kd l i≠61) (hr:Rd l (bq q 13) i j t h) (hn:jQ (bq q b) (kd l j)):Rd l (bq q b) i j t h:=by
 have f:∀ {z:Int},kd l i≠z->(kd l i==z)=false:=fun h=>by simpa using h
 by_cases e13:b=13
 .subst e13;exact hr
 have c12:cont 12 q (kd l j)=false:=hn.2 12 (by show b<=12;omega);by_cases e12:b=12
 .subst e12;exact aAv hr c12
 have gq:=aAw hr c12 (by rw [f hk.1,f hk.2.1,f hk.2.2];rfl);exact desc hsz 11 b hb ah ah (fun _=>hcm) gq hn
def aoB {l:List aG} {q:aK} {i j:Nat} {t:av} {h:Bool} (hsz:aV t<=400) (b:Int) (hb:1<=b) (hb2:b<=14) (hcm:qM l i false) (hk:kd l i≠55/\kd l i≠56/\kd l i≠61) (hk2:kd l i≠51/\kd l i≠52) (hr:Rd l (bq q 14) i j t h) (hn:jQ (bq q b) (kd l j)):Rd l (bq q b) i j t h:=by
 have f:∀ {z:Int},kd l i≠z->(kd l i==z)=false:=fun h=>by simpa using h
 by_cases e14:b=14
 .subst e14;exact hr
 exact ahe hsz b hb ah hcm hk (aAu hr (by rw [f hk2.1,f hk2.2];rfl)<|hn.2 13<|by show b<=13;omega) hn
def OQ {l:List aG} {q:aK} {i j:Nat} {t:av} {h:Bool} (hsz:aV t<=400) (b:Int) (hb:1<=b) (hb2:b<=15) (hcm:qM l i false) (hk:kd l i≠55/\kd l i≠56/\kd l i≠61) (hk2:kd l i≠51/\kd l i≠52) (hk3:kd l i≠68) (hr:Rd l (bq q 15) i j t h) (hn:jQ (bq q b) (kd l j)):Rd l (bq q b) i j t h:=by
 by_cases e15:b=15
 .subst e15;exact hr
 exact aoB hsz b hb ah hcm hk hk2 (aAt hr hk3) hn
def Bj (k o:Int) (x y:List UInt8) (t:av):aV ⟨k,o,x,y,[t]⟩=aV t+1:=by simp only [aV,aS]
def IB (k o:Int) (x y:List UInt8) (t u:av):aV ⟨k,o,x,y,[t,u]⟩=aV t+aV u+1:=by simp only [aV,aS];omega
def aoC (k o:Int) (x y:List UInt8) (t u v:av):aV ⟨k,o,x,y,[t,u,v]⟩=aV t+aV u+aV v+1:=by simp only [aV,aS];omega
structure OT (l:List aG) (n:Nat):Prop where
 N:∀ i j,j - i<=n->∀ p t,i < j->j<=l.length->iP l p i j t->aV t<=400->∀ q,(t.kind<=9\/(q.aY=p.aY/\q.bg=p.bg))->(t.kind=13->q.aY=false)->(t.kind=12->t.op=62->q.bg=false)->∀ b,1<=b->b<=lv t.kind t.op->jQ (bq q b) (kd l j)->Rd l (bq q b) i j t false
 D:∀ i j,j - i<=n->∀ p t h,gy l p i j t h->aV t<=400->∀ q,q.aY=p.aY->q.bg=p.bg->∀ b,1<=b->b<=15->(h=true\/b<=lv t.kind t.op)->jQ (bq q b) (kd l j)->Rd l (bq q b) i j t h
 C:∀ i j,j - i<=n->∀ p t h,gy l p i j t h->aV t<=400->∀ q,q.aY=p.aY->q.bg=p.bg->∀ v sd,Ee v 3000 sd->(h=true\/v<=lv t.kind t.op)->jQ (bq q<|v+1) (kd l j)->∃ c,c < j - i/\Ch l v 3000 sd (bq q v) i j t h c
 I:∀ i j,j - i<=n->∀ p t h,gy l p i j t h->aV t<=400->∀ q,q.aY=p.aY->q.bg=p.bg->q.aY=false->(h=true\/5<=lv t.kind t.op)->jQ (bq q 6) (kd l j)->∃ c,c < j - i/\Bn l (bq q 5) i j t h c
 L:∀ i j,j - i<=n->∀ ts en,xR l i j ts->kd l j=en->(en=33\/en=35)->j < l.length->aS ts<=400->Lc l en i (j+1) ts
def afQ {l:List aG} {i j:Nat} {ts:List av} (d:xR l i j ts):abY (kd l i)=true:=by
 cases d with
 | one h1 h2=>exact h2.first.o
 | cons h1 h2 h3 h4 h5 h6=>exact h5.first.o
def ahf {o:Int} (h:bG o=3\/bG o=4\/bG o=9\/bG o=10):Ee (bG o) 3000 (ko o)/\(ko o).1=bG o:=by
 unfold ko;rcases h with e|e|e|e<;>rw [e]
 .exact ⟨.inl ⟨rfl,rfl,rfl⟩,rfl⟩
 .exact ⟨.inr<|.inl ⟨rfl,rfl,rfl⟩,rfl⟩
 .exact ⟨.inr<|.inr<|.inr<|.inr<|.inr<|.inl ⟨rfl,rfl,rfl⟩,rfl⟩
 .exact ⟨.inr<|.inr<|.inr<|.inr<|.inr<|.inr ⟨rfl,rfl,rfl⟩,rfl⟩
def aAT {o:Int} (h:bG o=6\/bG o=7):Ee (bG o) 1 (ko o)/\(ko o).1=bG o+1/\(ko o).2=bG o+1:=by
 unfold ko;rcases h with e|e<;>rw [e]
 .exact ⟨.inr<|.inr<|.inl ⟨rfl,rfl,rfl⟩,rfl,rfl⟩
 .exact ⟨.inr<|.inr<|.inr<|.inl ⟨rfl,rfl,rfl⟩,rfl,rfl⟩
def ahg {o:Int} (h:bG o≠0) (rG:o≠99):bG o=3\/bG o=4\/bG o=6\/bG o=7\/bG o=9\/bG o=10\/(bG o=12/\o=60):=by
 rcases Im h with e|e|e|e|e|e|e|e|e|e|e|e|e|e|e|e|e<;>subst e<;>first|(exact absurd rfl rG)|decide
def aoD {o:Int} (h:bG o≠0) (rG:o≠99) (q:aK) (hg:o=62->q.bg=false) (h12:o≠60):cont (bG o) q o=true:=by
 rcases Im h with e|e|e|e|e|e|e|e|e|e|e|e|e|e|e|e|e<;>subst e<;>first|rfl|(exact absurd rfl rG)|(exact absurd rfl h12)|(unfold cont;rw [hg rfl];rfl)
section
variable (l:List aG) (hl:l.length<=3000)
include hl
theorem aoE {n:Nat} (ih:OT l n) {p:aK} {i m f j:Nat} {a b:av} {h1 h2:Bool} (o:Int) (hn:j - i<=n+1) (ho:bG o=3\/bG o=4\/bG o=9\/bG o=10) (rG:o≠99) (hk:kd l m=o) (him:i < m) (hfj:f < j) (hln:(bG o=3\/bG o=4)/\Ln l (m+1) f\/ ¬(bG o=3\/bG o=4)/\f=m+1)
  (da:gy l ⟨(ko o).1,false,p.aY,p.bg,p.jk⟩ i m a h1) (db:gy l ⟨(ko o).2,false,p.aY,p.bg,false⟩ f j b h2) (hz:aV a+aV b<=400) (q:aK) (q1:q.aY=p.aY) (q2:q.bg=p.bg) (hf:jQ (bq q<|bG o+1) (kd l j)):
  ∃ c,c < j - i/\Ch l (bG o) 3000 (ko o) (bq q<|bG o) i j ⟨12,o,[],[],[a,b]⟩ false c:=by
 obtain ⟨hch,hs⟩:=ahf ho;have hlb:=db.lt;have Ou:m+1<=f:=Ot hln;have hb:=XK hch;have hml:m < l.length:=ah;obtain ⟨c,hc,hA⟩:=ih.C i m ah _ a h1 da ah q q1 q2 (bG o) (ko o) hch (by
  cases da with
  | par=>exact .inl rfl
  | bare hfit=>
   have:=rJ hfit rfl;have this:(ko o).1<=_:=this;exact .inr ah) (by rw [hk];exact ahd ah rG q _ ah)
 have hB:=ih.D f j ah _ b h2 db ah q q1 q2 (ko o).2 ah ah (by
  cases db with
  | par=>exact .inl rfl
  | bare hfit=>exact .inr<|rJ hfit rfl) (hf.to ah)
 have aAU:o≠60:=by
  intro e;rw [e] at ho;have:bG 60=12:=rfl;omega
 have aAV:o≠62:=by
  intro e;rw [e] at ho;have:bG 62=7:=rfl;omega
 refine ⟨c+1,ah,?_⟩;exact agX hl hch hA ah ah (by rw [hk];exact aoD ah rG (bq q<|bG o) (fun e=>absurd e aAV) aAU) (m+1) f o (.inr ⟨by
  intro e;rw [e] at ho;omega,rfl,hk.symm,hml⟩) ah hln ah ah hB
theorem aoF {n:Nat} (ih:OT l n) {p:aK} {i m j:Nat} {a b:av} {h1 h2:Bool} (hn:j - i<=n+1) (him:i < m) (hfj:m < j)
  (da:gy l ⟨8,false,p.aY,p.bg,p.jk⟩ i m a h1) (db:gy l ⟨9,false,p.aY,p.bg,true⟩ m j b h2) (hz:aV a+aV b<=400) (q:aK) (q1:q.aY=p.aY) (q2:q.bg=p.bg) (hf:jQ (bq q 9) (kd l j)):
  ∃ c,c < j - i/\Ch l 8 3000 (8,9) (bq q 8) i j ⟨12,99,[],[],[a,b]⟩ false c:=by
 have hch:Ee 8 3000 (8,9):=.inr (.inr<|.inr<|.inr<|.inl ⟨rfl,rfl,rfl⟩);have hlb:=db.lt;have hbg:vM (kd l m)=true:=db.first.s rfl
 obtain ⟨c,hc,hA⟩:=ih.C i m ah _ a h1 da ah q q1 q2 8 (8,9) hch (by
  cases da with
  | par=>exact .inl rfl
  | bare hfit=>exact .inr<|rJ hfit rfl) (aAS hbg q _ ah)
 have hB:=ih.D m j ah _ b h2 db ah q q1 q2 9 ah ah (by
  cases db with
  | par=>exact .inl rfl
  | bare hfit=>exact .inr<|rJ hfit rfl) hf
 refine ⟨c+1,ah,?_⟩;exact agX hl hch hA ah ah hbg m m 99 (.inl ⟨rfl,rfl,rfl⟩) ah (.inr ⟨ah,rfl⟩) ah ah hB
theorem aoG {n:Nat} (ih:OT l n) {p:aK} {i m:Nat} {t:av} {h:Bool} (hn:m+2 - i<=n+1) (him:i < m) (k1:kd l m=24) (k2:kd l (m+1)=6) (d:gy l ⟨5,false,p.aY,p.bg,p.jk⟩ i m t h) (hz:aV t<=400) (q:aK) (q1:q.aY=p.aY) (q2:q.bg=p.bg) (hq:q.aY=false):
  ∃ c,c < m+2 - i/\Bn l (bq q 5) i (m+2) ⟨13,0,qw l<|m+1,[],[t]⟩ false c:=by
 have hm1:m+1 < l.length:=ahc k2 aJ;obtain ⟨c,hc,hA⟩:=ih.I i m ah _ t h d hz q q1 q2 hq (by
  cases d with
  | par=>exact .inl rfl
  | bare hfit=>exact .inr<|rJ hfit rfl) (by rw [k1];exact aAP q 6 ah)
 rw [FI hm1];exact ⟨c+1,ah,aAp l hl (bq q 5) hq hA ah hm1 k1 k2 ah⟩
theorem aoH {n:Nat} (ih:OT l n) {i m:Nat} {ts:List av} (hn:m+3 - i<=n+1) (k1:kd l i=32) (him:i+1 < m) (k2:kd l m=33) (k3:kd l (m+1)=24) (k4:kd l (m+2)=6) (h2:2<=ts.length) (h6:ts.length<=6) (d:xR l (i+1) m ts) (hz:aS ts<=400) (q:aK) (hq:q.aY=false):Bn l (bq q 5) i (m+3) ⟨13,0,qw l<|m+2,[],ts⟩ false 0:=by
 have hm2:m+2 < l.length:=ahc k4 aJ;have hls:=ih.L (i+1) m ah ts 33 d k2 (.inl rfl) ah hz;have hcm:qM l i true:=by
  have hi:i < l.length:=ah;cases d with
  | one=>simp at h2
  | @cons _ k f _ t u ts h g1 g2 g3 g4 g5 g6=>
   have hk:=ahc g2 aJ;refine aAr l hl i l[i] l[k] (seg l (i+1) k) ?_ (by rw [<- Cq hi];exact k1) (by rw [<- Cq hk];exact g2) g5.bal.inn;have:=aow (l:=l) (i:=i) (j:=k+1);rwa [OO (show i<=i+1 by omega) (show i+1<=k+1 by omega),OO (show i+1<=k by omega) (show k<=k+1 by omega),Lf hi,Lf hk] at this
 have hne:kd l (i+1)≠33:=fun e=>by
  have:=afQ d;rw [e] at this;cases this
 rw [FI hm2];exact aAo l hl (bq q 5) hq (k:=m+1) ts hcm k1 ah hls h6 hne ah hm2 k3 k4 ah
end
def aAW {t:av} (h:iG t.kind=true):14<=lv t.kind t.op/\t.kind<=9:=by
 have hk:t.kind=1\/t.kind=5\/t.kind=6:=by
  unfold iG at h;simp only [lS,oZ] at h;exact h
 obtain ⟨k,o,x,y,ks⟩:=t;rcases hk with e|e|e<;>(have e:k=_:=e;subst e)
 .exact ⟨(by omega:(14:Int)<=15),(by omega:(1:Int)<=9)⟩
 .exact ⟨(by omega:(14:Int)<=15),(by omega:(5:Int)<=9)⟩
 .exact ⟨(by omega:(14:Int)<=14),(by omega:(6:Int)<=9)⟩
section
variable (l:List aG) (hl:l.length<=3000)
include hl
omit hl in
theorem XH {n:Nat} (ih:OT l n) {i j:Nat} {t:av} (hn:j - i<=n) (hij:i < j) (hj:j<=l.length) (d:iP l uo i j t) (hL:iG t.kind=true) (hz:aV t<=400) (q:aK) (b:Int) (hb:1<=b) (hb2:b<=14) (hf:jQ (bq q b) (kd l j)):Rd l (bq q b) i j t false:=by
 obtain ⟨h1,h2⟩:=aAW hL;exact ih.N i j hn uo t hij hj d hz q (.inl h2) (fun e=>ah) (fun e=>ah) b hb ah hf
set_option maxHeartbeats 4000000 in
theorem aAX {n:Nat} (ih:OT l n) {i j:Nat} (hn:j - i<=n+1) {p:aK} {t:av} (hij:i < j) (hj:j<=l.length) (d:iP l p i j t) (hz:aV t<=400) (q:aK) (hq:t.kind<=9\/(q.aY=p.aY/\q.bg=p.bg)) (hin:t.kind=13->q.aY=false) (hgt:t.kind=12->t.op=62->q.bg=false) (b:Int) (hb:1<=b) (hbl:b<=lv t.kind t.op) (hf:jQ (bq q b) (kd l j)):Rd l (bq q b) i j t false:=by
 have fs:=d.first hij
 have cm:6<=lv t.kind t.op->qM l i false:=fun h=>(aoz l hl (j - i) i j<|eD _).1 p t hij hj d h;have f:∀ {a b:Int},a≠b->(a==b)=false:=fun h=>by simpa using h
 cases d with
 | leaf k h1 h2=>
  have hv:lv (k - 1) 0=15:=by rcases h1 with rfl|rfl|rfl<;>rfl
  have hbl:b<=lv (k - 1) 0:=hbl;have fa:=fs.a (by show 12<=lv (k - 1) 0;omega);have fb:=fs.b (by show 14<=lv (k - 1) 0;omega);have fc:=fs.c (by show 15<=lv (k - 1) 0;omega);have cm:=cm (by show 6<=lv (k - 1) 0;omega);refine OQ hz b hb ah cm fa fb fc ?_ hf;rw [FI ah];exact aAf l hl (bq q 15) rfl k h1 h2 ah
 | name h1=>
  have fa:=fs.a (by show (12:Int)<=15;omega);have fb:=fs.b (by show (14:Int)<=15;omega);have fc:=fs.c (by show (15:Int)<=15;omega);have cm:=cm (by show (6:Int)<=15;omega);refine OQ hz b hb hbl cm fa fb fc ?_ hf;rw [FI ah];exact aAg l hl (bq q 15) rfl h1 ah hf.1
 | @index _ _ j ts h1 h2 h3 h4 h5 h6 h7=>
  have fa:=fs.a (by show (12:Int)<=15;omega);have fb:=fs.b (by show (14:Int)<=15;omega);have fc:=fs.c (by show (15:Int)<=15;omega);have cm:=cm (by show (6:Int)<=15;omega);have hz':aS ts<=400:=by simp only [aV] at hz;omega
  refine OQ hz b hb hbl cm fa fb fc ?_ hf;rw [FI ah];exact aAl l hl (bq q 15) rfl ts h1 h2 ah (ih.L (i+2) j ah ts 35 h7 h5 (.inr rfl) h4 hz') h6 ah
 | uT k h1 h2 h3 h4=>
  have hv:lv k 0=15:=by rcases h1 with rfl|rfl<;>rfl
  have hbl:b<=lv k 0:=hbl;have fa:=fs.a (by show 12<=lv k 0;omega);have fb:=fs.b (by show 14<=lv k 0;omega);have fc:=fs.c (by show 15<=lv k 0;omega);have cm:=cm (by show 6<=lv k 0;omega);refine OQ hz b hb ah cm fa fb fc ?_ hf;rw [FI ah];exact aoq l hl (bq q 15) rfl k h1 [] h2 h3 ah (.inl ⟨rfl,h4,rfl⟩) aA (by simp [aS])
 | @call _ _ j ts k h1 h2 h3 h4 h5 h6 h7 h8=>
  have hv:lv k 0=15:=by rcases h1 with rfl|rfl<;>rfl
  have hbl:b<=lv k 0:=hbl;have fa:=fs.a (by show 12<=lv k 0;omega);have fb:=fs.b (by show 14<=lv k 0;omega);have fc:=fs.c (by show 15<=lv k 0;omega);have cm:=cm (by show 6<=lv k 0;omega);have hz':aS ts<=400:=by simp only [aV] at hz;omega
  have jX:kd l (i+2)≠33:=fun e=>by
   have:=afQ h8;rw [e] at this;cases this
  refine OQ hz b hb ah cm fa fb fc ?_ hf;rw [FI ah];exact aoq l hl (bq q 15) rfl k h1 ts h2 h3 ah (.inr ⟨jX,ih.L (i+2) j ah ts 33 h8 h6 (.inl rfl) h5 hz'⟩) h7 ah
 | len h1 h2 h3=>
  have fa:=fs.a (by show (12:Int)<=15;omega);have fb:=fs.b (by show (14:Int)<=15;omega);have fc:=fs.c (by show (15:Int)<=15;omega);have cm:=cm (by show (6:Int)<=15;omega);refine OQ hz b hb hbl cm fa fb fc ?_ hf;rw [FI ah];exact aAm l hl (bq q 15) rfl h1 ah h2 (by rw [<- FI ah];exact h3)
 | @field _ _ _ u h h1 h2 h3=>
  have fa:=fs.a (by show (12:Int)<=14;omega);have fb:=fs.b (by show (14:Int)<=14;omega);have cm:=cm (by show (6:Int)<=14;omega);rw [Bj] at hz;refine aoB (by rw [Bj];omega) b hb hbl cm fa fb ?_ hf;have ahh:jQ (bq q 14) (kd l j):=hf.to hbl;have fsu:=h3.first
  by_cases hh:h=true\/14<=lv u.kind u.op
  .have hb1:=fsu.b hh;refine aAd l hl (bq q 14) rfl h1 ah (by rw [f hb1.1,f hb1.2];rfl) (h1:=h) ?_ ah;cases h3 with
   | @par _ _ jj _ h' g1 g2 g3 g4 g5=>
    exact ih.D (i+1) (jj+1) ah ⟨14,true,q.aY,q.bg,false⟩ u true (.par g1 g2 g3 g4 g5) ah q rfl rfl 14 ah ah (.inl rfl) ahh
   | bare g1 g2 g3 g4=>
    have hlv:14<=lv u.kind u.op:=by
     rcases hh with hh|hh
     .cases hh
     .exact hh
    have hk:jd u.kind=true->u.kind<=9:=fun he=>by
     have hs:agR ⟨14,true,false,false,false⟩ ⟨14,true,false,false,false⟩:=⟨rfl,rfl,rfl,rfl⟩
     exact (anZ he hs).2 g1
    have Tv:u.kind<=9:=by
     cases g4 with
     | leaf k e1=>show k - 1<=9;omega
     | name=>show (1:Int)<=9;omega
     | index=>show (5:Int)<=9;omega
     | len=>show (8:Int)<=9;omega
     | field=>show (6:Int)<=9;omega
     | pre=>show (9:Int)<=9;omega
     | uT k e1|call k e1=>show k<=9;omega
     | post=>exact absurd hlv (by show¬(14:Int)<=13;omega)
     | unary=>exact absurd hlv (by show¬(14:Int)<=11;omega)
     | one|many=>exact absurd hlv (by show¬(14:Int)<=5;omega)
     | cond=>exact absurd hlv (by show¬(14:Int)<=2;omega)
     | assign=>exact absurd hlv (by show¬(14:Int)<=1;omega)
     | bin o=>exact absurd hlv (by show¬(14:Int)<=bG o;have:=KT o;omega)
     | cat=>exact absurd hlv (by show¬(14:Int)<=8;decide)
    exact ih.N (i+1) j ah _ u g2 g3 g4 ah q (.inl Tv) (fun e=>ah) (fun e=>ah) 14 ah hlv ahh
  .cases h3 with
   | par=>exact absurd (.inl rfl) hh
   | bare g1 g2 g3 g4=>
    have hnl: ¬14<=lv u.kind u.op:=fun e=>hh (.inr e);have hp:u.kind=9:=by
     unfold mo at g1;simp only [dP,lS,BF,lQ,oZ] at g1;rcases g1.2.2.2.2 with e|e
     .exact e
     .exact absurd e hnl
    cases g4 with
    | @pre _ _ _ u o e1 e2 e3 e4 e5=>
     have hi2:i+1 < l.length:=ah;have hlf:=KW e5 e3;rw [Bj] at hz;have r:=XH l ih (i:=i+1+1) ah e4 g3 e5 e3 ah q 14 ah ah ahh;have:=aAe l hl (bq q 14) rfl h1 hi2 (by rw [e2];rcases e1 with rfl|rfl<;>rfl) (by rcases hlf with e|e<;>rw [e]<;>rfl) r ah;rw [e2] at this;exact this
    | leaf k e1=>have hp:k - 1=9:=hp;omega
    | uT k e1|call k e1=>have hp:k=9:=hp;omega
    | name=>have hp:(1:Int)=9:=hp;omega
    | index=>have hp:(5:Int)=9:=hp;omega
    | len=>have hp:(8:Int)=9:=hp;omega
    | field=>have hp:(6:Int)=9:=hp;omega
    | post=>have hp:(10:Int)=9:=hp;omega
    | unary=>have hp:(11:Int)=9:=hp;omega
    | bin|cat=>have hp:(12:Int)=9:=hp;omega
    | one|many=>have hp:(13:Int)=9:=hp;omega
    | cond=>have hp:(14:Int)=9:=hp;omega
    | assign=>have hp:(15:Int)=9:=hp;omega
 | @pre _ _ _ u o h1 h2 h3 h4 h5=>
  have fa:=fs.a (by show (12:Int)<=13;omega);have cm:=cm (by show (6:Int)<=13;omega);rw [Bj] at hz;refine ahe (by rw [Bj];omega) b hb hbl cm fa ?_ hf;have hlf:=KW h5 h3;have r:=XH l ih (i:=i+1) ah h4 hj h5 h3 ah q 14 ah ah (hf.to (by have:b<=13:=hbl;omega));have:=aAb l hl (bq q 13) rfl (i:=i) (by rw [h2];rcases h1 with rfl|rfl<;>rfl) ah (by rcases hlf with e|e<;>rw [e]<;>rfl) r ah;rw [h2] at this;exact this
 | @post _ _ j u o h1 h2 h3 h4 h5=>
  have fa:=fs.a (by show (12:Int)<=13;omega);have cm:=cm (by show (6:Int)<=13;omega);rw [Bj] at hz;refine ahe (by rw [Bj];omega) b hb hbl cm fa ?_ hf;have hlf:=KW h5 h3;have r:=XH l ih (i:=i) (j:=j) ah h4 ah h5 h3 ah q 14 ah ah (by rw [h2];exact aAQ h1 q 14 ah);have:=aAc l hl (bq q 13) rfl r h3 (by rcases hlf with e|e<;>rw [e]<;>rfl) (by rw [h2];rcases h1 with rfl|rfl<;>rfl) ah ah ah;rw [h2] at this;exact this
 | @unary _ _ _ u h o h1 h2 h3 h4=>
  have cm:=cm (by show (6:Int)<=11;omega);have hbl:b<=11:=hbl;rw [Bj] at hz;have lK:q.aY=p.aY/\q.bg=p.bg:=by
   rcases hq with e|e
   .exact absurd e (by show¬(11:Int)<=9;omega)
   .exact e
  refine desc (by rw [Bj];omega) 11 b hb hbl ah (fun _=>cm) ?_ hf;have r:=ih.D (i+1) j ah _ u h h4 ah q lK.1 lK.2 11 ah ah (by
   cases h4 with
   | par=>exact .inl rfl
   | bare hfit=>exact .inr<|rJ hfit rfl) (hf.to hbl)
  have:=azW l hl (bq q 11) rfl (i:=i) (by rw [h2];rcases h1 with rfl|rfl|rfl<;>rfl) ah r ah;rw [h2] at this;exact this
 | @bin _ _ m ff _ a c g1 g2 o h1 h2 h3 h4 h5 h6 h7 h8=>
  have lK:q.aY=p.aY/\q.bg=p.bg:=by
   rcases hq with e|e
   .exact absurd e (by show¬(12:Int)<=9;omega)
   .exact e
  have hg:o=62->q.bg=false:=fun e=>hgt rfl e;rw [IB] at hz;have hbl:b<=bG o:=hbl;have hlc:=h8.lt;have Ou:m+1<=ff:=Ot h6;rcases ahg h1 h2 with e|e|e|e|e|e|⟨e,e60⟩
  case inr.inr.inl|inr.inr.inr.inl=>
   obtain ⟨hch,s1,s2⟩:=aAT (o:=o) ah;have hA:=ih.D i m ah _ a g1 h7 ah q lK.1 lK.2 (bG o+1) ah ah (by
    cases h7 with
    | par=>exact .inl rfl
    | bare hfit=>exact .inr (by have:=rJ hfit rfl;have this:(ko o).1<=_:=this;omega)) (by rw [h3];exact ahd h1 h2 q _ ah)
   have hB:=ih.D ff j ah _ c g2 h8 ah q lK.1 lK.2 (ko o).2 ah ah (by
    cases h8 with
    | par=>exact .inl rfl
    | bare hfit=>exact .inr (by have:=rJ hfit rfl;have this:(ko o).2<=_:=this;omega)) (hf.to ah)
   have hst:=agX hl hch (q:=bq q (bG o)) (c:=0) (Ch.first hch hA) ah ah (by rw [h3];exact aoD h1 h2 (bq q<|bG o) hg (by intro e0;subst e0;have:(12:Int)=_:=e;omega)) (m+1) ff o (.inr ⟨ah,rfl,h3.symm,ah⟩) ah (.inr (by
    rcases h6 with ⟨h6,_⟩|h6
    .omega
    .exact h6)) ah ah hB
   have hd:=Ch.done hch (q:=bq q (bG o)) (c:=1) rfl hst aJ (.inr ⟨rfl,aJ⟩);exact desc (by rw [IB];omega) (bG o) b hb hbl ah (fun _=>cm<|by show 6<=bG o;omega) hd hf
  case inr.inr.inr.inr.inr.inr=>
   subst e60;have hbl:b<=12:=hbl;have fa:=fs.a (by show (12:Int)<=12;omega);have hcm:=cm (by show (6:Int)<=12;omega);have hA:=ih.D i m ah _ a g1 h7 ah q lK.1 lK.2 13 ah ah (by
    cases h7 with
    | par=>exact .inl rfl
    | bare hfit=>exact .inr<|rJ hfit rfl) (by rw [h3];exact ahd h1 h2 q _<|by show (12:Int) < 13;omega)
   have hff:ff=m+1:=by
    rcases h6 with ⟨h6,_⟩|h6
    .omega
    .exact h6.2
   subst hff;have aBa:jQ (bq q 12) (kd l j):=hf.to hbl;have hB:=ih.D (m+1) j ah _ c g2 h8 ah q lK.1 lK.2 11 ah ah (by
    cases h8 with
    | par=>exact .inl rfl
    | bare hfit=>exact .inr<|rJ hfit rfl) aBa.eleven
   by_cases e12:b=12
   .subst e12;exact aoo l hl (bq q 12) rfl hA h3 ah ah hB ah
   .have gq:=azY l hl (bq q 11) rfl (by rw [f fa.1,f fa.2.1,f fa.2.2];rfl) hA h3 ah ah hB ah;exact desc (by rw [IB];omega) 11 b hb ah ah (fun _=>hcm) gq hf
  all_goals
   obtain ⟨cc,hc,hch⟩:=aoE l hl ih o hn ah h2 h3 h4 h5 h6 h7 h8 ah q lK.1 lK.2 (hf.to ah);have hd:=Ch.done (ahf (o:=o) ah).1 (q:=bq q (bG o)) rfl hch ah (.inl<|hf.2 (bG o) hbl);exact desc (by rw [IB];omega) (bG o) b hb hbl ah (fun h=>cm<|by show 6<=bG o;omega) hd hf
 | @cat _ _ m _ a c g1 g2 h1 h2 h3 h4=>
  have lK:q.aY=p.aY/\q.bg=p.bg:=by
   rcases hq with e|e
   .exact absurd e (by show¬(12:Int)<=9;omega)
   .exact e
  rw [IB] at hz;have hbl:b<=8:=hbl;have hcm:=cm (by show (6:Int)<=8;omega);obtain ⟨cc,hc,hch⟩:=aoF l hl ih hn h1 h2 h3 h4 ah q lK.1 lK.2 (hf.to ah);have hd:=Ch.done (.inr<|.inr<|.inr<|.inr<|.inl ⟨rfl,rfl,rfl⟩) (q:=bq q 8) rfl hch ah (.inl<|hf.2 8 hbl);exact desc (by rw [IB];omega) 8 b hb hbl ah (fun h=>hcm) hd hf
 | @one _ _ m u h h1 h2 h3 h4=>
  have lK:q.aY=p.aY/\q.bg=p.bg:=by
   rcases hq with e|e
   .exact absurd e (by show¬(13:Int)<=9;omega)
   .exact e
  rw [Bj] at hz;have hbl:b<=5:=hbl;obtain ⟨cc,hc,hch⟩:=aoG l hl ih hn h1 h2 h3 h4 ah q lK.1 lK.2 (hin rfl);have hd:=Bn.done l (bq q 5) rfl hch ah (hf.2 5 hbl);exact desc (by rw [Bj];omega) 5 b hb hbl ah (fun h=>absurd h ah) hd hf
 | @many _ _ m ts h1 h2 h3 h4 h5 h6 h7 h8=>
  have hbl:b<=5:=hbl;have hz':aS ts<=400:=by simp only [aV] at hz;omega
  have hch:=aoH l hl ih hn h1 h2 h3 h4 h5 h6 h7 h8 hz' q (hin rfl);have hd:=Bn.done l (bq q 5) rfl hch ah (hf.2 5 hbl);exact desc hz 5 b hb hbl ah (fun h=>absurd h ah) hd hf
 | @cond _ _ m n2 _ a c e g1 g2 g3 h1 h2 h3 h4 h5 h6 h7 h8=>
  have lK:q.aY=p.aY/\q.bg=p.bg:=by
   rcases hq with e|e
   .exact absurd e (by show¬(14:Int)<=9;omega)
   .exact e
  rw [aoC] at hz;have hbl:b<=2:=hbl;have hA:=ih.D i m ah _ a g1 h6 ah q lK.1 lK.2 3 ah ah (by
   cases h6 with
   | par=>exact .inl rfl
   | bare hfit=>exact .inr<|rJ hfit rfl) (by rw [h2];exact aAO q 3 ah)
  have hB:=ih.D (m+1) n2 ah _ c g2 h7 ah q lK.1 lK.2 2 ah ah (by
   cases h7 with
   | par=>exact .inl rfl
   | bare hfit=>exact .inr<|rJ hfit rfl) (by rw [h4];exact acd ah q 2 ah)
  have hC:=ih.D (n2+1) j ah _ e g3 h8 ah q lK.1 lK.2 2 ah ah (by
   cases h8 with
   | par=>exact .inl rfl
   | bare hfit=>exact .inr<|rJ hfit rfl) (hf.to hbl)
  have hd:=azT l hl (bq q 2) rfl hA h2 ah ah hB h4 ah ah hC ah;exact desc (by rw [aoC];omega) 2 b hb hbl ah (fun h=>absurd h ah) hd hf
 | @assign _ _ m _ a c g o h1 h2 h3 h4 h5 h6 h7=>
  have lK:q.aY=p.aY/\q.bg=p.bg:=by
   rcases hq with e|e
   .exact absurd e (by show¬(15:Int)<=9;omega)
   .exact e
  rw [IB] at hz;have hbl:b<=1:=hbl;have e1:b=1:=ah;subst e1;have hA:=XH l ih (i:=i) (j:=m) ah h3 ah h6 h5 ah q 2 ah ah (by rw [h2];exact aAR h1 q 2 ah);have hB:=ih.D (m+1) j ah _ c g h7 ah q lK.1 lK.2 1 ah ah (by
   cases h7 with
   | par=>exact .inl rfl
   | bare hfit=>exact .inr<|rJ hfit rfl) hf
  have:=azS l hl (bq q 1) rfl hA h5 (by rw [h2];exact h1) ah ah hB ah;rw [h2] at this;exact this
end
section
variable (l:List aG) (hl:l.length<=3000)
include hl
theorem anr:∀ n,OT l n:=by
 intro n;induction n with
 | zero=>
  refine ⟨fun i j hn p t hij=>ah,fun i j hn p t h d=>by have:=d.lt;omega,fun i j hn p t h d=>by have:=d.lt;omega,fun i j hn p t h d=>by have:=d.lt;omega,fun i j hn ts en d=>?_⟩;cases d with
  | one h1=>omega
  | cons h1 h2 h3 h4=>have:=h3.1;omega
 | succ n ih=>
  have hN:∀ i j,j - i<=n+1->∀ p t,i < j->j<=l.length->iP l p i j t->aV t<=400->∀ q,(t.kind<=9\/(q.aY=p.aY/\q.bg=p.bg))->(t.kind=13->q.aY=false)->(t.kind=12->t.op=62->q.bg=false)->∀ b,1<=b->b<=lv t.kind t.op->jQ (bq q b) (kd l j)->Rd l (bq q b) i j t false:=
   fun i j hn p t hij hj d hz q hq hin hgt b hb hbl hf=>aAX l hl ih hn hij hj d hz q hq hin hgt b hb hbl hf
  have hD:∀ i j,j - i<=n+1->∀ p t h,gy l p i j t h->aV t<=400->∀ q,q.aY=p.aY->q.bg=p.bg->∀ b,1<=b->b<=15->(h=true\/b<=lv t.kind t.op)->jQ (bq q b) (kd l j)->Rd l (bq q b) i j t h:=by
   intro i j hn p t h d hz q q1 q2 b hb hb2 hh hf;have dd:=d;cases d with
   | @par _ _ j _ h' h1 h2 h3 h4 h5=>
    have hin:=ih.D (i+1) j ah iA t h' h4 hz iA rfl rfl 1 ah ah (by
     cases h4 with
     | par=>exact .inl rfl
     | bare hfit=>exact .inr<|rJ hfit rfl) (by rw [h5];exact acd ah iA 1 ah)
    have r:=azZ l hl (bq q 15) rfl h1 ah hin h5 h3;exact OQ hz b hb hb2 (dd.cm hl<|.inl rfl) (by rw [h1];decide) (by rw [h1];decide) (by rw [h1];decide) r hf
   | bare h1 h2 h3 h4=>
    have hbl:b<=lv t.kind t.op:=by
     rcases hh with e|e
     .cases e
     .exact e
    exact hN i j hn p t h2 h3 h4 hz q (.inr ⟨q1,q2⟩) (fun e=>by rw [q1];exact aAB h1 e) (fun e e'=>by rw [q2];exact aAC h1 e e') b hb hbl hf
  have hC:∀ i j,j - i<=n+1->∀ p t h,gy l p i j t h->aV t<=400->∀ q,q.aY=p.aY->q.bg=p.bg->∀ v sd,Ee v 3000 sd->(h=true\/v<=lv t.kind t.op)->jQ (bq q<|v+1) (kd l j)->∃ c,c < j - i/\Ch l v 3000 sd (bq q v) i j t h c:=by
   intro i j hn p t h d hz q q1 q2 v sd hch hh hf;have hv:=XK hch;have hlt:=d.lt;by_cases hx:h=true\/v+1<=lv t.kind t.op
   .exact ⟨0,ah,Ch.first hch (q:=bq q v)<|hD i j hn p t h d hz q q1 q2 (v+1) ah ah hx hf⟩
   .have hv3:v=3\/v=4\/v=8\/v=9\/v=10:=by
     rcases hch with ⟨e,_⟩|⟨e,_⟩|⟨_,e,_⟩|⟨_,e,_⟩|⟨e,_⟩|⟨e,_⟩|⟨e,_⟩<;>omega
    cases d with
    | par=>exact absurd (.inl rfl) hx
    | bare h1 h2 h3 h4=>
     have he:lv t.kind t.op=v:=by
      rcases hh with e|e
      .cases e
      .have: ¬v+1<=lv t.kind t.op:=fun e=>hx (.inr e);omega
     cases h4 with
     | leaf k e1=>rcases e1 with rfl|rfl|rfl<;>(have he:(15:Int)=v:=he;omega)
     | name|index|len=>have he:(15:Int)=v:=he;omega
     | uT k e1|call k e1=>rcases e1 with rfl|rfl<;>(have he:(15:Int)=v:=he;omega)
     | field=>have he:(14:Int)=v:=he;omega
     | pre|post=>have he:(13:Int)=v:=he;omega
     | unary=>have he:(11:Int)=v:=he;omega
     | one|many=>have he:(5:Int)=v:=he;omega
     | cond=>have he:(2:Int)=v:=he;omega
     | assign=>have he:(1:Int)=v:=he;omega
     | bin o g1 g2 g3 g4 g5 g6 g7 g8=>
      have he:bG o=v:=he;rw [IB] at hz;have hov:=ahg g1 g2;obtain ⟨aGY,_⟩:=ahf (o:=o) ah;have hsd:sd=ko o:=by
       subst he;rcases hch with ⟨e,_,rfl⟩|⟨e,_,rfl⟩|⟨_,e,_⟩|⟨_,e,_⟩|⟨e,_,rfl⟩|⟨e,_,rfl⟩|⟨e,_,rfl⟩<;>first|omega|(unfold ko;rw [e];rfl)
      subst he;subst hsd;exact aoE l hl ih o hn ah g2 g3 g4 g5 g6 g7 g8 ah q q1 q2 hf
     | cat g1 g2 g3 g4=>
      have he:(8:Int)=v:=he;subst he;rw [IB] at hz;have hsd:sd=(8,9):=by
       rcases hch with ⟨e,_,rfl⟩|⟨e,_,rfl⟩|⟨_,e,_⟩|⟨_,e,_⟩|⟨e,_,rfl⟩|⟨e,_,rfl⟩|⟨e,_,rfl⟩<;>first|omega|rfl
      subst hsd;exact aoF l hl ih hn g1 g2 g3 g4 ah q q1 q2 hf
  have hI:∀ i j,j - i<=n+1->∀ p t h,gy l p i j t h->aV t<=400->∀ q,q.aY=p.aY->q.bg=p.bg->q.aY=false->(h=true\/5<=lv t.kind t.op)->jQ (bq q 6) (kd l j)->∃ c,c < j - i/\Bn l (bq q 5) i j t h c:=by
   intro i j hn p t h d hz q q1 q2 q3 hh hf;have hlt:=d.lt;by_cases hx:h=true\/6<=lv t.kind t.op
   .exact ⟨0,ah,aor l (bq q 5) (fun _=>d.cm hl hx)<|hD i j hn p t h d hz q q1 q2 6 ah ah hx hf⟩
   .cases d with
    | par=>exact absurd (.inl rfl) hx
    | bare h1 h2 h3 h4=>
     have he:lv t.kind t.op=5:=by
      rcases hh with e|e
      .cases e
      .have: ¬6<=lv t.kind t.op:=fun e=>hx (.inr e);omega
     cases h4 with
     | leaf k e1=>rcases e1 with rfl|rfl|rfl<;>(have he:(15:Int)=5:=he;omega)
     | name|index|len=>have he:(15:Int)=5:=he;omega
     | uT k e1|call k e1=>rcases e1 with rfl|rfl<;>(have he:(15:Int)=5:=he;omega)
     | field=>have he:(14:Int)=5:=he;omega
     | pre|post=>have he:(13:Int)=5:=he;omega
     | unary=>have he:(11:Int)=5:=he;omega
     | cond=>have he:(2:Int)=5:=he;omega
     | assign=>have he:(1:Int)=5:=he;omega
     | bin o g1 g2=>
      have he:bG o=5:=he;have:=ahg g1 g2;omega
     | cat=>have he:(8:Int)=5:=he;omega
     | one g1 g2 g3 g4=>
      rw [Bj] at hz;exact aoG l hl ih hn g1 g2 g3 g4 ah q q1 q2 q3
     | @many _ _ _ ts g1 g2 g3 g4 g5 g6 g7 g8=>
      have hz':aS ts<=400:=by simp only [aV] at hz;omega
      exact ⟨0,ah,aoH l hl ih hn g1 g2 g3 g4 g5 g6 g7 g8 hz' q q3⟩
  have hL:∀ i j,j - i<=n+1->∀ ts en,xR l i j ts->kd l j=en->(en=33\/en=35)->j < l.length->aS ts<=400->Lc l en i (j+1) ts:=by
   intro i j hn ts en d hk hen hj hz;cases d with
   | @one _ _ t h h1 h2=>
    have hz':aV t<=400:=by simp only [aS] at hz;omega
    refine ⟨h,j,?_,h1,hj,hk,rfl⟩;exact hD i j hn iA t h h2 hz' iA rfl rfl 1 ah ah (by
     cases h2 with
     | par=>exact .inl rfl
     | bare hfit=>exact .inr<|rJ hfit rfl) (by rw [hk];exact acd ah iA 1 ah)
   | @cons _ k f _ t u ts h h1 h2 h3 h4 h5 h6=>
    have h3':=h3.1;have hz1:aV t<=400:=by simp only [aS] at hz;omega
    have hz2:aS (u::ts)<=400:=by simp only [aS] at hz ⊢;omega
    refine ⟨h,k,f,?_,h1,ah,h2,h3,ih.L f j ah _ en h6 hk hen hj hz2⟩;exact hD i k ah iA t h h5 hz1 iA rfl rfl 1 ah ah (by
     cases h5 with
     | par=>exact .inl rfl
     | bare hfit=>exact .inr<|rJ hfit rfl) (by rw [h2];exact acd ah iA 1 ah)
  exact ⟨hN,hD,hC,hI,hL⟩
theorem ayx {p:aK} {i j:Nat} {t:av} {h:Bool} (d:gy l p i j t h) (hz:aV t<=400) (q:aK) (q1:q.aY=p.aY) (q2:q.bg=p.bg) (b:Int) (hb:1<=b) (hb2:b<=15) (hh:h=true\/b<=lv t.kind t.op) (hf:jQ (bq q b) (kd l j)):Rd l (bq q b) i j t h:=
 (anr l hl<|j - i).D i j (eD _) p t h d hz q q1 q2 b hb hb2 hh hf
end
structure CN (t:av):Prop where
 rF:(t.kind==9||(t.kind==10||(t.kind==11||(t.kind==12||t.kind==15))))=false->t.op=0
 oth:t.other=[]
 Oq:t.kind=6\/t.kind=9\/t.kind=10\/t.kind=11\/t.kind=12\/t.kind=14\/t.kind=15->t.text=[]
 k9:t.kind=9\/t.kind=10->t.op=51\/t.op=52
 k11:t.kind=11->t.op=55\/t.op=56\/t.op=61
 k15:t.kind=15->qK t.op=true
 many:t.kind=5\/t.kind=7\/t.kind=8\/t.kind=13->t.kids.length<=6
def iP.lt {l:List aG} {p:aK} {i j:Nat} {t:av} (d:iP l p i j t):i < j:=by
 cases d with
 | bin o h1 h2 h3 h4 h5 h6=>have:=Ot h6;omega
 | _=>omega
def xR.lt {l:List aG} {i j:Nat} {ts:List av} (d:xR l i j ts):i < j/\j<=l.length:=by
 cases d with
 | one h1 h2=>exact h2.lt
 | cons h1 h2 h3 h4 h5 h6=>
  have:=h3.1;refine ⟨ah,?_⟩;clear h1 h2 h3 h5;have key:∀ (ts:List av) (i:Nat),xR l i j ts->j<=l.length:=by
   intro ts;induction ts with
   | nil=>intro i d;cases d
   | cons t ts ih=>
    intro i d;cases d with
    | one h1 h2=>exact h2.lt.2
    | cons h1 h2 h3 h4 h5 h6=>exact ih _ h6
  exact key _ _ h6
def Sg.pos {l:List aG} {i:Nat} {x:List aG} (h:Sg l i x) (hx:0 < x.length):i+x.length<=l.length:=by
 cases x with
 | nil=>simp at hx
 | cons t y=>
  obtain ⟨hi,_⟩:=h.hd;exact h.len ah
def ama {k o:Int} (h:lv k o≠0):mo k o iA=true:=by
 have h1:1<=lv k o:=by
  by_cases e:k=12
  .subst e;have h:bG o≠0:=h;show 1<=bG o;rcases Im h with e|e|e|e|e|e|e|e|e|e|e|e|e|e|e|e|e<;>subst e<;>decide
  .have key:∀ {c:Bool} {x y:Int},(x=0\/1<=x)->(y=0\/1<=y)->(bif c then x else y)=0\/1<=(bif c then x else y):=fun {c x y} hx hy=>by cases c<;>assumption
   have:lv k o=0\/1<=lv k o:=by
    unfold lv;have e12:(k==12)=false:=by simpa using e
    rw [e12];exact key (.inr ah) (key (.inr ah)<|key (.inr ah)<|by rw [aI];exact key (.inr ah)<|key (.inr ah)<|key (.inr ah)<|key (.inr ah)<|.inl rfl)
   omega
 have h0:(lv k o==0)=false:=by simpa using h
 unfold mo;rw [h0];show (true&&(true&&(true&&(true&&(false||decide (lv k o>=1))))))=true;simp only [BF,Uf,lQ];omega
def avG {k o:Int} {p:aK} (hp:posB p=true) (he:jd k=true) (hl:lv k o=15) (h4:k≠4):mo k o p=true:=by
 have ho:=KT o;have hpl:p.Level<=15:=by
  unfold posB at hp;simp only [dP,lQ] at hp;exact hp.1.2
 have hk:k=1\/k=2\/k=3\/k=5\/k=7\/k=8:=by
  rcases kinds he with e|e|e|e|e|e|e|e|e|e|e|e|e|e|e<;>subst e<;>first
   | omega
   | (exfalso;have hl:bG o=15:=hl;omega)
   | (exfalso;have hl:(14:Int)=15:=hl;omega)
   | (exfalso;have hl:(13:Int)=15:=hl;omega)
   | (exfalso;have hl:(11:Int)=15:=hl;omega)
   | (exfalso;have hl:(5:Int)=15:=hl;omega)
   | (exfalso;have hl:(2:Int)=15:=hl;omega)
   | (exfalso;have hl:(1:Int)=15:=hl;omega)
 unfold mo;rw [hp,hl];have hlv:decide ((15:Int)>=p.Level)=true:=by simpa using hpl
 rw [hlv];rcases hk with rfl|rfl|rfl|rfl|rfl|rfl<;>simp
def PrB (f:Bool) (t:av):Prop:=∀ (l:List aG) (p:aK) (i:Nat),posB p=true->Sg l i (dD f t p)->iP l p i (i+(dD f t p).length) t
def PrE (f:Bool) (t:av):Prop:=∀ (l:List aG) (p:aK) (i:Nat),posB p=true->Sg l i (bY f t p)->∃ h,gy l p i (i+(bY f t p).length) t h
def acJ {f:Bool} {t:av} (g:GN t) (hB:PrB f t):PrE f t:=by
 intro l p i hp hs;unfold bY at hs ⊢;have top:=ama g.lv;cases hpar:KU f t.kind t.op p with
 | true=>
  rw [hpar,yU,aM] at hs;rw [yU,aM];have h1:=hs.kd;have h2:Sg l (i+1) (dD f t iA++[sg 33]):=hs.tl;have d:=hB l iA (i+1) rfl h2.left;have hlt:=d.lt;have h3:Sg l (i+1+(dD f t iA).length) (sg 33::[]):=h2.right;obtain ⟨h4,_⟩:=h3.hd;have:=gy.par (p:=p) h1 ah h4 (.bare top hlt ah d) h3.kd;refine ⟨true,?_⟩;have e:i+(sg 32::(dD f t iA++[sg 33])).length=i+1+(dD f t iA).length+1:=bF;rw [e];exact this
 | false=>
  rw [hpar,yU,aI] at hs;rw [yU,aI];have d:=hB l p i hp hs;have hlt:=d.lt;have hfit:mo t.kind t.op p=true:=by
   unfold KU at hpar;cases f with
   | false=>simpa using hpar
   | true=>
    simp only [aM,LM,bne_eq_false_iff_eq,acR] at hpar;exact avG hp g.e hpar.1 hpar.2
  exact ⟨false,.bare hfit hlt (hs.pos ah) d⟩
def Xj (f:Bool) (k o:Int) (n:Nat) (p:aK) (hk:∀ j,gZ k o n j p=iA) (ht:∀ j,tgt k j=false):∀ (ts:List av) (j i:Nat) (l:List aG),(∀ t,t∈ts->PrE f t)->ts≠[]->Sg l i (dV false<|bC f k o n j p ts)->xR l i (i+(dV false<|bC f k o n j p ts).length) ts
 | [],_,_,_,_,h,_=>absurd rfl h
 | [t],j,i,l,hP,_,hs=>by
  have e:dV false (bC f k o n j p [t])=bY f t iA:=by
   rw [fH,bC];unfold bN;rw [ht j,aI,hk j];show []++(bY f t iA++[])=_;simp
  rw [e] at hs ⊢;obtain ⟨h,d⟩:=hP t aA l iA i rfl hs;exact .one d.lt.1 d
 | t::u::ts,j,i,l,hP,_,hs=>by
  have e:dV false (bC f k o n j p<|t::u::ts)=bY f t iA++sg 36::dV false (bC f k o n (j+1) p<|u::ts):=by
   rw [fH,fH];unfold bN;rw [ht j,aI,hk j];show []++(bY f t iA++([sg 36]++_))=_;simp [dV]
  rw [e] at hs ⊢;obtain ⟨h,d⟩:=hP t aA l iA i rfl hs.left;have h2:=hs.right;have dl:=Xj f k o n p hk ht (u::ts) (j+1) _ l (fun v hv=>hP v<|by simp [hv]) aA h2.tl;have hop:=afQ dl;have hd:=d.lt;have hdl:=dl.lt;have e2:i+(bY f t iA++sg 36::dV false (bC f k o n (j+1) p<|u::ts)).length=i+(bY f t iA).length+1+(dV false<|bC f k o n (j+1) p<|u::ts).length:=bF;rw [e2];exact .cons hd.1 h2.kd ⟨eD _,fun k h1 h2=>ah,(fun e=>by rw [e] at hop;cases hop),(fun e=>by rw [e] at hop;cases hop)⟩ hdl.1 d dl
def Sg.tx {l:List aG} {i:Nat} {t:aG} {y:List aG} (h:Sg l i (t::y)):qw l i=t.Text:=by
 obtain ⟨hi,e⟩:=h.hd;rw [FI hi,e]
def Io {t:av} (h:t.kids.length=1):∃ u,t.kids=[u]:=by
 match e:t.kids,h with
 | [a],_=>exact ⟨a,rfl⟩
def afR {f:Bool} {u:av} (g:allT GN u) (hL:iG u.kind=true) (p:aK):dD f u p=dD f u uo:=(amb f u g).1 p uo (.inr<|amc hL)
def aiu (f:Bool):∀ t:av,allT GN t->allT CN t->PrB f t:=by
 intro t;induction t using wY with
 | h t ih=>
  intro hg hc;have g:=vV hg;have c:=vV hc;have gk:=DV hg;have ck:=DV hc;have KV:∀ u,u∈t.kids->PrB f u:=fun u hu=>ih u hu (gk u hu) (ck u hu);have yV:∀ u,u∈t.kids->PrE f u:=fun u hu=>acJ (vV<|gk u hu) (KV u hu);obtain ⟨k,o,x,y,ks⟩:=t;have hy:y=[]:=c.oth;subst hy;intro l p i hp hs;rcases kinds g.e with e|e|e|e|e|e|e|e|e|e|e|e|e|e|e<;>(have e:k=_:=e;subst e)
  case inl=>
   have hk0:ks=[]:=Gc.1 (g.a0<|.inl rfl);have ho:o=0:=c.rF rfl;subst hk0 ho;have et:dD f ⟨1,0,x,[],[]⟩ p=[(⟨6,x,0⟩:aG)]:=by rw [fJ];rfl
   rw [et] at hs ⊢;have hx:qw l i=x:=hs.tx;rw [<- hx];exact .name hs.kd
  case inr.inl=>
   have hk0:ks=[]:=Gc.1 (g.a0<|.inr<|.inl rfl);have ho:o=0:=c.rF rfl;subst hk0 ho;have et:dD f ⟨2,0,x,[],[]⟩ p=[(⟨3,x,0⟩:aG)]:=by rw [fJ];rfl
   rw [et] at hs ⊢;have hx:qw l i=x:=hs.tx;rw [<- hx];exact .leaf 3 (.inl rfl) hs.kd
  case inr.inr.inl=>
   have hk0:ks=[]:=Gc.1 (g.a0<|.inr<|.inr<|.inl rfl);have ho:o=0:=c.rF rfl;subst hk0 ho;have et:dD f ⟨3,0,x,[],[]⟩ p=[(⟨4,x,0⟩:aG)]:=by rw [fJ];rfl
   rw [et] at hs ⊢;have hx:qw l i=x:=hs.tx;rw [<- hx];exact .leaf 4 (.inr<|.inl rfl) hs.kd
  case inr.inr.inr.inl=>
   have hk0:ks=[]:=Gc.1 (g.a0<|.inr<|.inr<|.inr rfl);have ho:o=0:=c.rF rfl;subst hk0 ho;have et:dD f ⟨4,0,x,[],[]⟩ p=[(⟨5,x,0⟩:aG)]:=by rw [fJ];rfl
   rw [et] at hs ⊢;have hx:qw l i=x:=hs.tx;rw [<- hx];exact .leaf 5 (.inr<|.inr rfl) hs.kd
  case inr.inr.inr.inr.inl=>
   have ho:o=0:=c.rF rfl;subst ho;have hm:ks.length<=6:=c.many (.inl rfl);have hn:ks≠[]:=by
    have:=g.ai (.inl rfl);intro e;subst e;simp at this
   have et:dD f ⟨5,0,x,[],ks⟩ p=⟨6,x,0⟩::sg 34::(dV false (bC f 5 0 ks.length 0 p ks)++[sg 35]):=by rw [fJ];rfl
   rw [et] at hs ⊢;have hx:qw l i=x:=hs.tx;have h2:=hs.tl;have h3:Sg l (i+1+1) (dV false (bC f 5 0 ks.length 0 p ks)++[sg 35]):=h2.tl;have dl:=Xj f 5 0 ks.length p (fun _=>rfl) (fun j=>by unfold tgt;simp) ks 0 _ l yV hn h3.left;have h4:=h3.right;have e2:i+((⟨6,x,0⟩:aG)::sg 34::(dV false (bC f 5 0 ks.length 0 p ks)++[sg 35])).length=i+1+1+(dV false<|bC f 5 0 ks.length 0 p ks).length+1:=bF;rw [e2,<- hx];have:=dl.lt;exact .index hs.kd h2.kd ah h4.hd.1 h4.kd hm dl
  case inr.inr.inr.inr.inr.inl=>
   have ho:o=0:=c.rF rfl;have hx:x=[]:=c.Oq (.inl rfl);subst ho hx;obtain ⟨u,e1⟩:=Io (g.a1<|.inl rfl);have e1:ks=[u]:=e1;subst e1;have et:dD f ⟨6,0,[],[],[u]⟩ p=sg 68::bY f u ⟨14,true,false,false,false⟩:=by
    rw [fJ];show sg 68::(bC f 6 0 1 0 p [u]).getD 0 []=_;rw [fH];have:bN f 6 0 1 0 p u=bY f u (gZ 6 0 1 0 p):=rfl;show sg 68::bN f 6 0 1 0 p u=_;rw [this,(amb f u<|gk u aA).2 (gZ 6 0 1 0 p) ⟨14,true,false,false,false⟩<|.inr ⟨rfl,rfl,rfl,rfl⟩]
   rw [et] at hs ⊢;obtain ⟨h,d⟩:=yV u aA l ⟨14,true,false,false,false⟩ (i+1) rfl hs.tl;have:=d.lt;have e2:i+(sg 68::bY f u ⟨14,true,false,false,false⟩).length=i+1+(bY f u ⟨14,true,false,false,false⟩).length:=bF;rw [e2];exact .field hs.kd ah d
  case inr.inr.inr.inr.inr.inr.inl=>
   have ho:o=0:=c.rF rfl;subst ho;have hm:ks.length<=6:=c.many (.inr<|.inl rfl);have et:dD f ⟨7,0,x,[],ks⟩ p=⟨7,x,0⟩::sg 32::(dV false (bC f 7 0 ks.length 0 p ks)++[sg 33]):=by rw [fJ];rfl
   rw [et] at hs ⊢;have hx:qw l i=x:=hs.tx;have h2:=hs.tl;have h3:Sg l (i+1+1) (dV false (bC f 7 0 ks.length 0 p ks)++[sg 33]):=h2.tl;by_cases hn:ks=[]
   .subst hn;have h3:Sg l (i+1+1) ([]++[sg 33]):=by rw [bC] at h3;exact h3
    rw [bC,<- hx];exact .uT 7 (.inl rfl) hs.kd h2.kd (Sg.kd h3)
   .have dl:=Xj f 7 0 ks.length p (fun _=>rfl) (fun j=>by unfold tgt;simp) ks 0 _ l yV hn h3.left;have h4:=h3.right;have e2:i+((⟨7,x,0⟩:aG)::sg 32::(dV false (bC f 7 0 ks.length 0 p ks)++[sg 33])).length=i+1+1+(dV false<|bC f 7 0 ks.length 0 p ks).length+1:=bF;rw [e2,<- hx];have:=dl.lt;exact .call 7 (.inl rfl) hs.kd h2.kd ah h4.hd.1 h4.kd hm dl
  case inr.inr.inr.inr.inr.inr.inr.inl=>
   have ho:o=0:=c.rF rfl;subst ho;have hm:ks.length<=6:=c.many (.inr<|.inr<|.inl rfl);have et:dD f ⟨8,0,x,[],ks⟩ p=⟨8,x,0⟩::sg 32::(dV false (bC f 8 0 ks.length 0 p ks)++[sg 33]):=by rw [fJ];rfl
   rw [et] at hs ⊢;have hx:qw l i=x:=hs.tx;have h2:=hs.tl;have h3:Sg l (i+1+1) (dV false (bC f 8 0 ks.length 0 p ks)++[sg 33]):=h2.tl;by_cases hn:ks=[]
   .subst hn;have h3:Sg l (i+1+1) ([]++[sg 33]):=by rw [bC] at h3;exact h3
    rw [bC,<- hx];exact .uT 8 (.inr rfl) hs.kd h2.kd (Sg.kd h3)
   .have dl:=Xj f 8 0 ks.length p (fun _=>rfl) (fun j=>by unfold tgt;simp) ks 0 _ l yV hn h3.left;have h4:=h3.right;have e2:i+((⟨8,x,0⟩:aG)::sg 32::(dV false (bC f 8 0 ks.length 0 p ks)++[sg 33])).length=i+1+1+(dV false<|bC f 8 0 ks.length 0 p ks).length+1:=bF;rw [e2,<- hx];have:=dl.lt;exact .call 8 (.inr rfl) hs.kd h2.kd ah h4.hd.1 h4.kd hm dl
  case inr.inr.inr.inr.inr.inr.inr.inr.inl=>
   have hx:x=[]:=c.Oq (.inr<|.inl rfl);subst hx;obtain ⟨u,e1⟩:=Io (g.a1<|.inr<|.inl rfl);have e1:ks=[u]:=e1;subst e1;have hL:iG u.kind=true:=g.kl u rfl (.inl rfl);have et:dD f ⟨9,o,[],[],[u]⟩ p=sg o::dD f u uo:=by
    rw [fJ];show sg o::(bC f 9 o 1 0 p [u]).getD 0 []=_;rw [fH];show sg o::bN f 9 o 1 0 p u=_;have:bN f 9 o 1 0 p u=dD f u (gZ 9 o 1 0 p):=rfl;rw [this,afR (gk u aA) hL]
   rw [et] at hs ⊢;have d:=KV u aA l uo (i+1) rfl hs.tl;have:=d.lt;have e2:i+(sg o::dD f u uo).length=i+1+(dD f u uo).length:=bF;rw [e2];exact .pre o (c.k9<|.inl rfl) hs.kd hL ah d
  case inr.inr.inr.inr.inr.inr.inr.inr.inr.inl=>
   have hx:x=[]:=c.Oq (.inr<|.inr<|.inl rfl);subst hx;obtain ⟨u,e1⟩:=Io (g.a1<|.inr<|.inr<|.inl rfl);have e1:ks=[u]:=e1;subst e1;have hL:iG u.kind=true:=g.kl u rfl (.inr<|.inl rfl);have et:dD f ⟨10,o,[],[],[u]⟩ p=dD f u uo++[sg o]:=by
    rw [fJ];show (bC f 10 o 1 0 p [u]).getD 0 []++[sg o]=_;rw [fH];show bN f 10 o 1 0 p u++[sg o]=_;have:bN f 10 o 1 0 p u=dD f u (gZ 10 o 1 0 p):=rfl;rw [this,afR (gk u aA) hL]
   rw [et] at hs ⊢;have d:=KV u aA l uo i rfl hs.left;have:=d.lt;have e2:i+(dD f u uo++[sg o]).length=i+(dD f u uo).length+1:=bF;rw [e2];exact .post o (c.k9<|.inr rfl) hs.right.kd hL ah d
  case inr.inr.inr.inr.inr.inr.inr.inr.inr.inr.inl=>
   have hx:x=[]:=c.Oq (.inr<|.inr<|.inr<|.inl rfl);subst hx;obtain ⟨u,e1⟩:=Io (g.a1<|.inr<|.inr<|.inr rfl);have e1:ks=[u]:=e1;subst e1;have et:dD f ⟨11,o,[],[],[u]⟩ p=sg o::bY f u ⟨11,false,p.aY,p.bg,false⟩:=by
    rw [fJ];show sg o::(bC f 11 o 1 0 p [u]).getD 0 []=_;rw [fH];rfl
   rw [et] at hs ⊢;obtain ⟨h,d⟩:=yV u aA l ⟨11,false,p.aY,p.bg,false⟩ (i+1) rfl hs.tl;have:=d.lt;have e2:i+(sg o::bY f u ⟨11,false,p.aY,p.bg,false⟩).length=i+1+(bY f u ⟨11,false,p.aY,p.bg,false⟩).length:=bF;rw [e2];exact .unary o (c.k11 rfl) hs.kd ah d
  case inr.inr.inr.inr.inr.inr.inr.inr.inr.inr.inr.inl=>
   have hx:x=[]:=c.Oq (.inr<|.inr<|.inr<|.inr<|.inl rfl);subst hx;obtain ⟨a,b,e1⟩:=SC (g.a2<|.inl rfl);have e1:ks=[a,b]:=e1;subst e1;have hlv:bG o≠0:=g.lv;have hpa:posB (gZ 12 o 2 0 p)=true:=afS rfl;have hpb:posB (gZ 12 o 2 1 p)=true:=afS rfl;have et0:dD f ⟨12,o,[],[],[a,b]⟩ p=bY f a (gZ 12 o 2 0 p)++((bif o==99 then [] else [sg o])++bY f b (gZ 12 o 2 1 p)):=by
    rw [fJ];show (bC f 12 o 2 0 p [a,b]).getD 0 []++((bif o==99 then [] else [sg o])++(bC f 12 o 2 0 p [a,b]).getD 1 [])=_;rw [fH,fH];rfl
   by_cases rG:o=99
   .subst rG;have et:dD f ⟨12,99,[],[],[a,b]⟩ p=bY f a (gZ 12 99 2 0 p)++bY f b (gZ 12 99 2 1 p):=et0;rw [et] at hs ⊢;obtain ⟨h1,da⟩:=yV a aA l _ i hpa hs.left;obtain ⟨h2,db⟩:=yV b aA l _ _ hpb hs.right;have ha:=da.lt;have hb:=db.lt;have e2:i+(bY f a (gZ 12 99 2 0 p)++bY f b (gZ 12 99 2 1 p)).length=i+(bY f a<|gZ 12 99 2 0 p).length+(bY f b<|gZ 12 99 2 1 p).length:=bF;rw [e2];exact .cat ha.1 hb.1 da db
   .have ame:(o==99)=false:=by simpa using rG
    have et:dD f ⟨12,o,[],[],[a,b]⟩ p=bY f a (gZ 12 o 2 0 p)++sg o::bY f b (gZ 12 o 2 1 p):=by rw [et0,ame];rfl
    rw [et] at hs ⊢;obtain ⟨h1,da⟩:=yV a aA l _ i hpa hs.left;have hr:=hs.right;obtain ⟨h2,db⟩:=yV b aA l _ _ hpb hr.tl;have ha:=da.lt;have hb:=db.lt;have hop:=db.first.o
    have e2:i+(bY f a (gZ 12 o 2 0 p)++sg o::bY f b (gZ 12 o 2 1 p)).length=i+(bY f a<|gZ 12 o 2 0 p).length+1+(bY f b<|gZ 12 o 2 1 p).length:=bF;rw [e2];have hpos:gZ 12 o 2 1 p=⟨(ko o).2,false,p.aY,p.bg,false⟩:=by
     show (⟨(ko o).2,false,p.aY,p.bg,o==99⟩:aK)=_;rw [ame]
    rw [hpos] at db hb ⊢;refine .bin o hlv rG hr.kd ha.1 hb.1 ?_ da db;by_cases DW:bG o=3\/bG o=4
    .exact .inl ⟨DW,eD _,fun k h1 h2=>ah,(fun e=>by rw [e] at hop;cases hop),(fun e=>by rw [e] at hop;cases hop)⟩
    .exact .inr ⟨DW,rfl⟩
  case inr.inr.inr.inr.inr.inr.inr.inr.inr.inr.inr.inr.inl=>
   have ho:o=0:=c.rF rfl;subst ho;have hm:ks.length<=6:=c.many (.inr<|.inr<|.inr rfl);have h1:1<=ks.length:=g.ai (.inr rfl);by_cases hn:ks.length=1
   .obtain ⟨u,e1⟩:=Io (t:=⟨13,0,x,[],ks⟩) hn;have e1:ks=[u]:=e1;subst e1;have et:dD f ⟨13,0,x,[],[u]⟩ p=bY f u ⟨5,false,p.aY,p.bg,p.jk⟩++[sg 24,⟨6,x,0⟩]:=by
     rw [fJ];show (bC f 13 0 1 0 p [u]).getD 0 []++[sg 24,⟨6,x,0⟩]=_;rw [fH];rfl
    rw [et] at hs ⊢;obtain ⟨h,d⟩:=yV u aA l ⟨5,false,p.aY,p.bg,p.jk⟩ i rfl hs.left;have hd:=d.lt;have hr:=hs.right;have hr2:=hr.tl;have e2:i+(bY f u ⟨5,false,p.aY,p.bg,p.jk⟩++[sg 24,⟨6,x,0⟩]).length=i+(bY f u ⟨5,false,p.aY,p.bg,p.jk⟩).length+2:=bF;have hx:qw l (i+(bY f u ⟨5,false,p.aY,p.bg,p.jk⟩).length+1)=x:=hr2.tx;rw [e2];have:=iP.one (p:=p) hd.1 hr.kd hr2.kd d;rw [hx] at this;exact this
   .have h2:decide (ks.length > 1)=true:=bF;have hlen:∀ j,(bC f 13 0 ks.length j p ks).length=ks.length:=fun j=>Xk f 13 0 ks.length p ks j;have et:dD f ⟨13,0,x,[],ks⟩ p=sg 32::(dV false (bC f 13 0 ks.length 0 p ks)++sg 33::[sg 24,⟨6,x,0⟩]):=by
     rw [fJ];show (bif decide ((bC f 13 0 ks.length 0 p ks).length > 1) then sg 32::(dV false (bC f 13 0 ks.length 0 p ks)++[sg 33]) else (bC f 13 0 ks.length 0 p ks).getD 0 [])++[sg 24,⟨6,x,0⟩]=_;rw [hlen,h2,aM];simp
    rw [et] at hs ⊢;have hkp:∀ j,gZ 13 0 ks.length j p=iA:=fun j=>by
     show (bif decide (ks.length > 1) then (⟨1,false,false,false,false⟩:aK) else _)=_;rw [h2];rfl
    have hnn:ks≠[]:=by intro e;subst e;simp at h1
    have h3:Sg l (i+1) (dV false (bC f 13 0 ks.length 0 p ks)++sg 33::[sg 24,⟨6,x,0⟩]):=hs.tl;have dl:=Xj f 13 0 ks.length p hkp (fun j=>by unfold tgt;simp) ks 0 _ l yV hnn h3.left;have hd:=dl.lt;have h4:=h3.right;have h5:=h4.tl;have h6:=h5.tl;have e2:i+(sg 32::(dV false (bC f 13 0 ks.length 0 p ks)++sg 33::[sg 24,⟨6,x,0⟩])).length=i+1+(dV false<|bC f 13 0 ks.length 0 p ks).length+3:=bF;have hx:qw l (i+1+(dV false<|bC f 13 0 ks.length 0 p ks).length+2)=x:=h6.tx;rw [e2];have:=iP.many (p:=p) hs.kd hd.1 h4.kd h5.kd h6.kd ah hm dl;rw [hx] at this;exact this
  case inr.inr.inr.inr.inr.inr.inr.inr.inr.inr.inr.inr.inr.inl=>
   have ho:o=0:=c.rF rfl;have hx:x=[]:=c.Oq (.inr<|.inr<|.inr<|.inr<|.inr<|.inl rfl);subst ho hx;obtain ⟨a,b,cc,e1⟩:=afT (g.a3 rfl);have e1:ks=[a,b,cc]:=e1;subst e1;have et:dD f ⟨14,0,[],[],[a,b,cc]⟩ p=bY f a ⟨3,false,p.aY,p.bg,p.jk⟩++sg 65::(bY f b ⟨2,false,p.aY,p.bg,false⟩++sg 66::bY f cc ⟨2,false,p.aY,p.bg,false⟩):=by
    rw [fJ];show (bC f 14 0 3 0 p [a,b,cc]).getD 0 []++(sg 65::((bC f 14 0 3 0 p [a,b,cc]).getD 1 []++(sg 66::(bC f 14 0 3 0 p [a,b,cc]).getD 2 [])))=_;rw [fH,fH,fH];rfl
   rw [et] at hs ⊢;obtain ⟨h1,da⟩:=yV a aA l _ i rfl hs.left;have hr:=hs.right;obtain ⟨h2,db⟩:=yV b aA l _ _ rfl hr.tl.left;have hr2:=hr.tl.right;obtain ⟨h3,dc⟩:=yV cc aA l _ _ rfl hr2.tl;have ha:=da.lt;have hb:=db.lt;have hcc:=dc.lt;have e2:i+(bY f a ⟨3,false,p.aY,p.bg,p.jk⟩++sg 65::(bY f b ⟨2,false,p.aY,p.bg,false⟩++sg 66::bY f cc ⟨2,false,p.aY,p.bg,false⟩)).length=i+(bY f a ⟨3,false,p.aY,p.bg,p.jk⟩).length+1+(bY f b ⟨2,false,p.aY,p.bg,false⟩).length+1+(bY f cc ⟨2,false,p.aY,p.bg,false⟩).length:=bF;rw [e2];exact .cond ha.1 hr.kd hb.1 hr2.kd hcc.1 da db dc
  case inr.inr.inr.inr.inr.inr.inr.inr.inr.inr.inr.inr.inr.inr=>
   have hx:x=[]:=c.Oq (.inr<|.inr<|.inr<|.inr<|.inr<|.inr rfl);subst hx;obtain ⟨a,b,e1⟩:=SC (g.a2<|.inr rfl);have e1:ks=[a,b]:=e1;subst e1;have hL:iG a.kind=true:=g.kl a rfl (.inr<|.inr rfl);have rG:(o==99)=false:=by
    have:=g.op rfl;simpa using this
   have et:dD f ⟨15,o,[],[],[a,b]⟩ p=dD f a uo++sg o::bY f b ⟨1,false,p.aY,p.bg,false⟩:=by
    rw [fJ];show (bC f 15 o 2 0 p [a,b]).getD 0 []++((bif o==99 then [] else [sg o])++(bC f 15 o 2 0 p [a,b]).getD 1 [])=_;rw [rG,fH,fH];show bN f 15 o 2 0 p a++([sg o]++bY f b ⟨1,false,p.aY,p.bg,false⟩)=_;have:bN f 15 o 2 0 p a=dD f a (gZ 15 o 2 0 p):=rfl;rw [this,afR (gk a aA) hL];rfl
   rw [et] at hs ⊢;have da:=KV a aA l uo i rfl hs.left;have hr:=hs.right;obtain ⟨h2,db⟩:=yV b aA l _ _ rfl hr.tl;have ha:=da.lt;have hb:=db.lt;have e2:i+(dD f a uo++sg o::bY f b ⟨1,false,p.aY,p.bg,false⟩).length=i+(dD f a uo).length+1+(bY f b ⟨1,false,p.aY,p.bg,false⟩).length:=bF;rw [e2];exact .assign o (c.k15 rfl) hr.kd ha hb.1 hL da db
def SE (t:aG):Prop:=t.Text.length<=1048576
def avH (k:Int):∃ b:Bool,yT k=some b/\NM k=some b:=by
 have e:NM k=yT k:=rfl;rw [e];have hk:∀ b:Bool,DR b=some b:=by intro b;cases b<;>rfl
 have hb:∀ (c d:Bool) (X:Option Bool),(∃ b,X=some b)->∃ b,(bif c then some d else X)=some b:=by
  intro c d X hX;cases c
  .exact hX
  .exact ⟨d,rfl⟩
 unfold yT;simp only [hk];obtain ⟨b,h⟩:=hb (k==3) (k==3) _ (hb (k==4) (k==4) _<|hb (k==5) (k==5) _<|hb (k==6) (k==6) _<|hb (k==8) (k==8) _<|hb (k==33) (k==33) _<|hb (k==35) (k==35) _<|hb (k==51) (k==51) _ ⟨(k==52),rfl⟩);exact ⟨b,h,h⟩
def avI (N M:Nat) (a:List aG) (ha:a.length<=3000) (hN:1048576+300 < N) (hs:∀ t,t∈a->SE t) (m i:Nat) (p:Int) (hm:0 < m) (h:i < a.length) (h0:a[i].Kind=0):yO N m (a,p,(i:Int))=some false:=by
 obtain ⟨m,rfl⟩:∃ k,m=k+1:=⟨m - 1,ah⟩
 have ht:=hs _ (nW h);unfold SE at ht;obtain ⟨b,_,b2,b3⟩:=SB N a[i] ht ah;have hb:=b3 h0;subst hb;have hk:∀ K,Ky N (yO N m) (a,p,(i:Int),a[i],K)=some false:=by
  intro K;simp only [Ky];rw [b2];rfl
 have hst:IntKind.wrap .i64 ((i:Int)+1)=((i+1:Nat):Int):=by rw [wrap64 ah ah];omega
 rw [yO,iT h,aM,dx h,aB,hst];by_cases h1:i+1 < a.length
 .rw [iT h1,aM,dx h1,aB,hk]
 .rw [jZ h1,aI,hk]
def avJ (N:Nat) (a:List aG) (ha:a.length<=3000) (hN:1048576+300 < N) (hs:∀ t,t∈a->SE t):∀ (n m i:Nat) (p:Int),a.length - i < n->a.length - i < m->i<=a.length->
  ∃ b:Bool,FD N n (a,p,(i:Int))=some b/\yO N m (a,p,(i:Int))=some b:=by
 intro n;induction n with
 | zero=>intro m i p h;omega
 | succ n ih=>
  intro m i p hn hm hi;obtain ⟨m,rfl⟩:∃ k,m=k+1:=⟨m - 1,ah⟩
  by_cases h:i < a.length
  .have hst:IntKind.wrap .i64 ((i:Int)+1)=((i+1:Nat):Int):=by rw [wrap64 ah ah];omega
   have ht:=hs _ (nW h);unfold SE at ht;obtain ⟨b,b1,b2,_⟩:=SB N a[i] ht ah;obtain ⟨e,e1,e2⟩:=avH p;obtain ⟨q,q1,q2⟩:=ih m (i+1) a[i].Kind ah ah ah;have main:∀ (K:Int),(K≠0/\i+1 < a.length)\/(K=0/\ ¬i+1 < a.length)\/(K=0/\i+1 < a.length/\q=false)->
     ∃ r:Bool,Sv N (FD N n) (a,p,(i:Int),K)=some r/\Ky N (yO N m) (a,p,(i:Int),a[i],K)=some r:=by
    intro K hK;simp only [Sv,Ky,WC,dx h,aB,b1,b2,e1,e2,hst,q1,q2];have hL:decide (((i+1:Nat):Int) < (a.length:Int))=true/\(i+1 < a.length)\/decide (((i+1:Nat):Int) < (a.length:Int))=false/\ ¬(i+1 < a.length):=by
     by_cases h1:i+1 < a.length
     .exact .inl ⟨iT h1,h1⟩
     .exact .inr ⟨jZ h1,h1⟩
    generalize (a[i].Kind==7)=c7;generalize hc2:(a[i].Kind==2)=c2;generalize hc5:(a[i].Kind==5)=c5;generalize amg:(a[i].Kind==58)=c58;generalize amh:(a[i].Kind==41)=c41;generalize (K !=32)=k32;generalize hk1:(K !=1)=k1;have h25:c2=true->c5=false/\c58=false/\c41=false:=by
     intro h;rw [h] at hc2;have:=eq_of_beq hc2;rw [this] at hc5 amg amh;exact ⟨hc5.symm,amg.symm,amh.symm⟩
    rcases hK with ⟨k0,hl⟩|⟨k0,hl⟩|⟨k0,hl,hq⟩
    .have hk0:(K !=0)=true:=by simpa using k0
     rcases hL with ⟨hL,_⟩|⟨_,hL⟩
     .rw [hL,hk0];cases b<;>cases c7<;>cases c2<;>cases c5<;>cases c58<;>cases c41<;>cases k32<;>cases k1<;>cases e<;>exact ⟨_,rfl,rfl⟩
     .exact absurd hl hL
    .have hk0:(K !=0)=false:=by rw [k0];rfl
     rcases hL with ⟨_,hL⟩|⟨hL,_⟩
     .exact absurd hL hl
     .rw [hL,hk0];cases b<;>cases c7<;>cases c2<;>cases c5<;>cases c58<;>cases c41<;>cases k32<;>cases k1<;>cases e<;>exact ⟨_,rfl,rfl⟩
    .have hk0:(K !=0)=false:=by rw [k0];rfl
     have avK:k1=true:=by rw [<- hk1,k0];rfl
     rcases hL with ⟨hL,_⟩|⟨_,hL⟩
     .subst avK;rw [hL,hk0,hq];cases b<;>cases c7<;>cases c2<;>cases c5<;>cases c58<;>cases c41<;>cases k32<;>cases e<;>first
       | exact ⟨_,rfl,rfl⟩
       | (exfalso;have:=h25 rfl;simp at this)
     .exact absurd hl hL
   rw [FD,yO,iT h,aM,aM,dx h,aB,hst];by_cases h1:i+1 < a.length
   .rw [iT h1,aM,aM,dx h1,aB,aB];refine main a[i+1].Kind ?_;by_cases hz:a[i+1].Kind=0
    .have:=avI N N a ha hN hs m (i+1) a[i].Kind ah h1 hz;rw [q2] at this;exact .inr (.inr ⟨hz,h1,by simpa using this⟩)
    .exact .inl ⟨hz,h1⟩
   .rw [jZ h1,aI,aI];exact main 0 (.inr<|.inl ⟨rfl,h1⟩)
  .rw [FD,yO,jZ h];exact ⟨true,rfl,rfl⟩
def aij (N:Nat) (a:List aG) (hN:1048576+300 < N) (hs:∀ t,t∈a->SE t):∃ b:Bool,abl N a=some b/\Ey N a=some b/\(b=true->a.length<=3000):=by
 unfold abl Ey;by_cases h:a.length<=3000
 .obtain ⟨b,h1,h2⟩:=avJ N a h hN hs N N 0 0 ah ah ah;rw [uL (by omega: ¬(a.length:Int) > 3000)];exact ⟨b,h1,h2,fun _=>h⟩
 .rw [mH (by omega:(a.length:Int) > 3000)];exact ⟨false,rfl,rfl,fun h=>by cases h⟩
def jU (k:Int):Bool:=k==3||(k==4||(k==5||(k==6||(k==8||(k==33||(k==35||(k==51||k==52)))))))
def avL (k:Int):yT k=some (jU k):=by
 have h1:∀ b,DR b=some b:=fun b=>by cases b<;>rfl
 unfold yT jU;simp only [h1];cases (k==3)<;>cases (k==4)<;>cases (k==5)<;>cases (k==6)<;>cases (k==8)<;>cases (k==33)<;>cases (k==35)<;>cases (k==51)<;>rfl
def avM (l:List aG) (i k:Nat):Prop:=kd l k≠2/\(kd l k=7->kd l (k+1)=32)/\(i < k->kd l k=5->jU (kd l<|k - 1)=false)/\(kd l k=58\/kd l k=41->i < k/\jU (kd l<|k - 1)=true)
def mV (l:List aG) (i j:Nat):Prop:=∀ k,i<=k->k < j->avM l i k
def mV.one {l:List aG} {i:Nat} (h:kd l i≠2/\kd l i≠58/\kd l i≠41) (h7:kd l i=7->kd l (i+1)=32):mV l i (i+1):=fun k h1 h2=>by
 have e:k=i:=ah;subst e;exact ⟨h.1,h7,fun h=>absurd h<|Ui _,fun e=>by rcases e with e|e<;>simp [e] at h⟩
def mV.snoc {l:List aG} {i m:Nat} (a:mV l i m) (him:i < m) (h:kd l m≠2/\kd l m≠7/\kd l m≠5) (hd:kd l m=58\/kd l m=41->jU (kd l<|m - 1)=true):mV l i (m+1):=fun k h1 h2=>by
 by_cases e:k=m
 .subst e;exact ⟨h.1,fun e=>absurd e h.2.1,fun _ e=>absurd e h.2.2,fun e=>⟨him,hd e⟩⟩
 .exact a k h1 ah
def mV.app {l:List aG} {i m j:Nat} (a:mV l i m) (b:mV l m j) (him:i < m) (hb:kd l m=5->jU (kd l<|m - 1)=false):mV l i j:=fun k h1 h2=>by
 by_cases e:k < m
 .exact a k h1 e
 .obtain ⟨b1,b2,b3,b4⟩:=b k ah h2;refine ⟨b1,b2,fun h e5=>?_,fun e4=>⟨ah,(b4 e4).2⟩⟩;by_cases ek:k=m
  .subst ek;exact hb e5
  .exact b3 ah e5
def afW {l:List aG} {i:Nat}:∀ (n m f:Nat),f - m<=n->mV l i m->i < m->m<=f->(∀ k,m<=k->k < f->kd l k=1)->mV l i f
 | 0,m,f,h,a,_,hm,_=>by
  have:m=f:=ah;subst this;exact a
 | n+1,m,f,h,a,him,hm,hk=>by
  by_cases e:m=f
  .subst e;exact a
  .have h1:=hk m (eD _) ah;exact afW n (m+1) f ah (a.snoc him (by rw [h1];decide) fun e=>by rw [h1] at e;omega) ah ah fun k g1 g2=>hk k ah g2
structure Xl (l:List aG) (i j:Nat):Prop where
 a:mV l i j
 e:jU (kd l<|j - 1)=true
def avN {o:Int} (h:bG o≠0):jU o=false/\o≠2/\o≠7/\o≠5:=by
 rcases Im h with e|e|e|e|e|e|e|e|e|e|e|e|e|e|e|e|e<;>subst e<;>decide
def avO {o:Int} (h:qK o=true):jU o=false/\o≠2/\o≠7/\o≠5:=by
 have h1:=SF h;refine ⟨?_,ah,ah,ah⟩;have f:∀ {z:Int},o≠z->(o==z)=false:=fun h=>by simpa using h
 unfold jU;rw [f ah,f ah,f ah,f ah,f ah,f ah,f ah,f ah,f ah];rfl
def ami {l:List aG} {m f:Nat} (h:Ln l (m+1) f) (he:jU (kd l m)=false):jU (kd l<|f - 1)=false:=by
 by_cases e:f=m+1
 .subst e;exact he
 .have:=h.1;rw [h.2.1 (f - 1) ah ah];rfl
def acE (l:List aG):∀ (n i j:Nat),j - i<=n->(∀ p t,i < j->iP l p i j t->Xl l i j)/\(∀ p t h,gy l p i j t h->Xl l i j)/\(∀ ts,xR l i j ts->Xl l i j):=by
 intro n;induction n with
 | zero=>exact fun i j hn=>⟨fun p t hij=>ah,fun p t h d=>by have:=d.lt;omega,fun ts d=>by have:=d.lt;omega⟩
 | succ n ih=>
  intro i j hn;have hN:∀ p t,i < j->iP l p i j t->Xl l i j:=by
   intro p t hij d;cases d with
   | leaf k h1 h2=>rcases h1 with rfl|rfl|rfl<;>exact ⟨.one (by rw [h2];decide) (fun e=>by rw [h2] at e;omega),by show jU (kd l i)=true;rw [h2];rfl⟩
   | name h1=>exact ⟨.one (by rw [h1];decide) (fun e=>by rw [h1] at e;omega),by show jU (kd l i)=true;rw [h1];rfl⟩
   | @index _ _ j ts h1 h2 h3 h4 h5 h6 h7=>
    have r:=(ih (i+2) j ah).2.2 _ h7;have a1:mV l i (i+1):=.one (by rw [h1];decide) (fun e=>by rw [h1] at e;omega);have a2:mV l i (i+1+1):=a1.snoc ah (by rw [h2];decide) (fun e=>by rw [h2] at e;omega);have a3:=a2.app r.a ah (fun _=>by show jU (kd l<|i+1)=false;rw [h2];rfl);exact ⟨a3.snoc ah (by rw [h5];decide) (fun e=>by rw [h5] at e;omega),by show jU (kd l j)=true;rw [h5];rfl⟩
   | uT k h1 h2 h3 h4=>
    have a1:mV l i (i+1):=.one (by rw [h2];rcases h1 with rfl|rfl<;>decide) (fun _=>h3);have a2:mV l i (i+1+1):=a1.snoc ah (by rw [h3];decide) (fun e=>by rw [h3] at e;omega);have a3:mV l i (i+2+1):=a2.snoc ah (by show kd l (i+2)≠2/\kd l (i+2)≠7/\kd l (i+2)≠5;rw [h4];decide) (fun e=>by have e:kd l (i+2)=58\/kd l (i+2)=41:=e;rw [h4] at e;omega);exact ⟨a3,by show jU (kd l<|i+2)=true;rw [h4];rfl⟩
   | @call _ _ j ts k h1 h2 h3 h4 h5 h6 h7 h8=>
    have r:=(ih (i+2) j ah).2.2 _ h8;have a1:mV l i (i+1):=.one (by rw [h2];rcases h1 with rfl|rfl<;>decide) (fun _=>h3);have a2:mV l i (i+1+1):=a1.snoc ah (by rw [h3];decide) (fun e=>by rw [h3] at e;omega);have a3:=a2.app r.a ah (fun _=>by show jU (kd l<|i+1)=false;rw [h3];rfl);exact ⟨a3.snoc ah (by rw [h6];decide) (fun e=>by rw [h6] at e;omega),by show jU (kd l j)=true;rw [h6];rfl⟩
   | len h1=>exact ⟨.one (by rw [h1];decide) (fun e=>by rw [h1] at e;omega),by show jU (kd l i)=true;rw [h1];rfl⟩
   | field h1 h2 h3=>
    have r:=(ih (i+1) j ah).2.1 _ _ _ h3;have a1:mV l i (i+1):=.one (by rw [h1];decide) (fun e=>by rw [h1] at e;omega);exact ⟨a1.app r.a ah (fun _=>by show jU (kd l i)=false;rw [h1];rfl),r.e⟩
   | pre o h1 h2 h3 h4 h5=>
    have r:=(ih (i+1) j ah).1 _ _ h4 h5;have a1:mV l i (i+1):=.one (by rw [h2];omega) (fun e=>by rw [h2] at e;omega);have hl:=KW h5 h3;exact ⟨a1.app r.a ah (fun e=>by rw [e] at hl;omega),r.e⟩
   | @post _ _ j t o h1 h2 h3 h4 h5=>
    have r:=(ih i j ah).1 _ _ h4 h5;exact ⟨r.a.snoc h4 (by rw [h2];omega) (fun e=>by rw [h2] at e;omega),by show jU (kd l j)=true;rw [h2];rcases h1 with rfl|rfl<;>rfl⟩
   | unary o h1 h2 h3 h4=>
    have r:=(ih (i+1) j ah).2.1 _ _ _ h4;have a1:mV l i (i+1):=.one (by rw [h2];omega) (fun e=>by rw [h2] at e;omega);exact ⟨a1.app r.a ah (fun _=>by show jU (kd l i)=false;rw [h2];rcases h1 with rfl|rfl|rfl<;>rfl),r.e⟩
   | @bin _ _ m f _ a b _ _ o h1 h2 h3 h4 h5 h6 h7 h8=>
    have Ou:=Ot h6;have ra:=(ih i m ah).2.1 _ _ _ h7;have rb:=(ih f j ah).2.1 _ _ _ h8;have ho:=avN h1;have a1:=ra.a.snoc h4 (by rw [h3];exact ho.2) (fun _=>ra.e);rcases h6 with ⟨_,h6⟩|⟨_,h6⟩
    .have a2:=afW (f - (m+1)) (m+1) f ah a1 ah Ou h6.2.1;exact ⟨a2.app rb.a ah (fun _=>ami h6<|by rw [h3];exact ho.1),rb.e⟩
    .subst h6;exact ⟨a1.app rb.a ah (fun _=>by show jU (kd l m)=false;rw [h3];exact ho.1),rb.e⟩
   | @cat _ _ m _ a b _ _ h1 h2 h3 h4=>
    have ra:=(ih i m ah).2.1 _ _ _ h3;have rb:=(ih m j ah).2.1 _ _ _ h4;have hbg:=abp (h4.first.s rfl);exact ⟨ra.a.app rb.a h1 (fun e=>by rw [e] at hbg;omega),rb.e⟩
   | @one _ _ m t h h1 h2 h3 h4=>
    have ra:=(ih i m ah).2.1 _ _ _ h4;have a1:=ra.a.snoc h1 (by rw [h2];decide) (fun e=>by rw [h2] at e;omega);have a2:mV l i (m+1+1):=a1.snoc ah (by rw [h3];decide) (fun e=>by rw [h3] at e;omega);exact ⟨a2,by show jU (kd l<|m+1)=true;rw [h3];rfl⟩
   | @many _ _ m ts h1 h2 h3 h4 h5 h6 h7 h8=>
    have r:=(ih (i+1) m ah).2.2 _ h8;have a1:mV l i (i+1):=.one (by rw [h1];decide) (fun e=>by rw [h1] at e;omega);have a2:=a1.app r.a ah (fun _=>by show jU (kd l i)=false;rw [h1];rfl);have a3:=a2.snoc ah (by rw [h3];decide) (fun e=>by rw [h3] at e;omega);have a4:mV l i (m+1+1):=a3.snoc ah (by rw [h4];decide) (fun e=>by rw [h4] at e;omega);have a5:mV l i (m+2+1):=a4.snoc ah (by show kd l (m+2)≠2/\kd l (m+2)≠7/\kd l (m+2)≠5;rw [h5];decide) (fun e=>by have e:kd l (m+2)=58\/kd l (m+2)=41:=e;rw [h5] at e;omega);exact ⟨a5,by show jU (kd l<|m+2)=true;rw [h5];rfl⟩
   | @cond _ _ m n2 _ a b c _ _ _ h1 h2 h3 h4 h5 h6 h7 h8=>
    have ra:=(ih i m ah).2.1 _ _ _ h6;have rb:=(ih (m+1) n2 ah).2.1 _ _ _ h7;have rc:=(ih (n2+1) j ah).2.1 _ _ _ h8;have a1:=ra.a.snoc h1 (by rw [h2];decide) (fun e=>by rw [h2] at e;omega);have a2:=a1.app rb.a ah (fun _=>by show jU (kd l m)=false;rw [h2];rfl);have a3:=a2.snoc ah (by rw [h4];decide) (fun e=>by rw [h4] at e;omega);exact ⟨a3.app rc.a ah (fun _=>by show jU (kd l n2)=false;rw [h4];rfl),rc.e⟩
   | @assign _ _ m _ a b _ o h1 h2 h3 h4 h5 h6 h7=>
    have ra:=(ih i m ah).1 _ _ h3 h6;have rb:=(ih (m+1) j ah).2.1 _ _ _ h7;have ho:=avO h1;have a1:=ra.a.snoc h3 (by rw [h2];exact ho.2) (fun _=>ra.e);exact ⟨a1.app rb.a ah (fun _=>by show jU (kd l m)=false;rw [h2];exact ho.1),rb.e⟩
  have hD:∀ p t h,gy l p i j t h->Xl l i j:=fun p t h d=>by
   cases d with
   | @par _ _ j _ h h1 h2 h3 h4 h5=>
    have r:=(ih (i+1) j ah).2.1 _ _ _ h4;have a1:mV l i (i+1):=.one (by rw [h1];decide) (fun e=>by rw [h1] at e;omega);have a2:=a1.app r.a ah (fun _=>by show jU (kd l i)=false;rw [h1];rfl);exact ⟨a2.snoc ah (by rw [h5];decide) (fun e=>by rw [h5] at e;omega),by show jU (kd l j)=true;rw [h5];rfl⟩
   | bare h1 h2 h3 h4=>exact hN p t h2 h4
  refine ⟨hN,hD,fun ts d=>?_⟩;cases d with
  | one h1 h2=>exact hD _ _ _ h2
  | @cons _ k f _ t u ts h h1 h2 h3 h4 h5 h6=>
   have h3':=h3.1;have ra:=(ih i k ah).2.1 _ _ _ h5;have rb:=(ih f j ah).2.2 _ h6;have a1:=ra.a.snoc h1 (by rw [h2];decide) (fun e=>by rw [h2] at e;omega);have a2:=afW (f - (k+1)) (k+1) f ah a1 ah h3' h3.2.1;exact ⟨a2.app rb.a ah (fun _=>ami h3<|by rw [h2];rfl),rb.e⟩
def avP (N:Nat) (a:List aG) (ha:a.length<=3000) (afX:mV a 0 a.length) (hok:∀ t,t∈a->uf N t=some true):∀ (n i:Nat) (last:Int),a.length - i < n->i<=a.length->(i=0->last=0)->(0 < i->last=kd a (i - 1))->FD N n (a,last,(i:Int))=some true:=by
 intro n;induction n with
 | zero=>intro i last h;omega
 | succ n ih=>
  intro i last hn hi h0 h1;rw [FD];by_cases hlt:i < a.length
  .obtain ⟨b1,b2,b3,b4⟩:=afX i (zy _) hlt;have hk:=Cq hlt;rw [hk] at b1 b2 b3 b4;have step:∀ nx:Int,nx=kd a (i+1)->Sv N (FD N n) (a,last,(i:Int),nx)=some true:=fun nx hnx=>by
    unfold Sv;dsimp only;simp only [dx hlt,aB,hok _<|nW hlt,mI,aI];have c2:(a[i].Kind==2)=false:=by simpa using b1
    have first:(bif a[i].Kind==7 then bif nx !=32 then some true else bif a[i].Kind==2 then bif nx !=1 then some (decide<|IntKind.wrap .i64 ((i:Int)+1) < (a.length:Int)) else some false else some false else bif a[i].Kind==2 then bif nx !=1 then some (decide<|IntKind.wrap .i64 ((i:Int)+1) < (a.length:Int)) else some false else some false)=some false:=by
     cases h7:(a[i].Kind==7) with
     | false=>rw [aI,c2,aI]
     | true=>
      have:nx=32:=by rw [hnx];exact b2 (by simpa using h7)
      rw [this,c2];rfl
    rw [first,aB,aI];have hend:jU last=true->0 < i/\last=kd a (i - 1):=fun h=>by
     by_cases e:i=0
     .rw [h0 e] at h;cases h
     .exact ⟨ah,h1 ah⟩
    have e5:a[i].Kind=5->jU last=false:=fun h=>by
     cases hb:jU last with
     | false=>rfl
     | true=>
      obtain ⟨g1,g2⟩:=hend hb;have:=b3 g1 h;rw [<- g2,hb] at this;cases this
    have ed:a[i].Kind=58\/a[i].Kind=41->jU last=true:=fun h=>by
     obtain ⟨g1,g2⟩:=b4 h;rw [h1 g1];exact g2
    have second:(bif a[i].Kind==5 then (yT last).bind fun afB=>bif afB then some true else (bif (a[i].Kind==58) then (yT last).bind fun afC=>some (!afC) else (bif (a[i].Kind==41) then (yT last).bind fun afD=>some (!afD) else (some false))) else (bif (a[i].Kind==58) then (yT last).bind fun afE=>some (!afE) else (bif (a[i].Kind==41) then (yT last).bind fun afF=>some (!afF) else (some false))))=some false:=by
     rw [avL];simp only [aB];cases h5:(a[i].Kind==5) with
     | true=>
      have h5':a[i].Kind=5:=by simpa using h5
      rw [e5 h5',h5'];rfl
     | false=>
      rw [aI];cases je:(a[i].Kind==58) with
      | true=>rw [ed<|.inl<|by simpa using je];rfl
      | false=>
       rw [aI];cases mq:(a[i].Kind==41) with
       | true=>rw [ed<|.inr<|by simpa using mq];rfl
       | false=>rfl
    rw [second,aB,aI,wrap64 ah ah,show (i:Int)+1=((i+1:Nat):Int) by omega];exact ih (i+1) _ ah ah (fun e=>ah) (fun _=>hk.symm)
   rw [iT hlt,aM,wrap64 ah ah,show (i:Int)+1=((i+1:Nat):Int) by omega];by_cases h2:i+1 < a.length
   .rw [iT h2,aM,dx h2,aB];exact step _ (by rw [Cq h2])
   .rw [jZ h2,aI];exact step _ (by unfold kd;rw [Bz ah];rfl)
  .rw [jZ hlt,aI]
def aif (N:Nat) (a:List aG) (ha:a.length<=3000) (hN:3000 < N) (afX:mV a 0 a.length) (hok:∀ t,t∈a->uf N t=some true):abl N a=some true:=by
 unfold abl;rw [uL (show¬(a.length:Int) > 3000 by omega),aI];exact avP N a ha afX hok N 0 0 ah ah (fun _=>rfl) (fun h=>ah)
def vH (d:Nat) (k:Int):Nat:=bif mD k then (bif oz k then d - 1 else d)+1 else (bif oz k then d - 1 else d)
def oW:Nat->List aG->Bool
 | _,[]=>true
 | d,t::ts=>decide (vH d t.Kind<=40)&&oW (vH d t.Kind) ts
def Dp (e:Nat) (x:List aG):Prop:=∀ d y,d+e<=40->oW d (x++y)=oW d y
def Dp.nil:Dp 0 []:=fun d y _=>rfl
def Dp.mono {e e':Nat} {x:List aG} (h:Dp e x) (he:e<=e'):Dp e' x:=fun d y hd=>h d y ah
def Dp.app {e:Nat} {x y:List aG} (hx:Dp e x) (hy:Dp e y):Dp e (x++y):=fun d z hd=>by rw [nU,hx d _ hd,hy d z hd]
def Dp.tok {e:Nat} {t:aG} (h:mD t.Kind=false/\oz t.Kind=false):Dp e [t]:=fun d y hd=>by
 show (decide (vH d t.Kind<=40)&&oW (vH d t.Kind) y)=oW d y;have:vH d t.Kind=d:=by unfold vH;rw [h.1,h.2];rfl
 rw [this,mH ah,BF]
def Dp.wrap {e:Nat} {o c:aG} {x:List aG} (ho:mD o.Kind=true) (hc:oz c.Kind=true) (h:Dp e x):Dp (e+1) (o::(x++[c])):=fun d y hd=>by
 have hco:=(Xm ho).1;have hoc:mD c.Kind=false:=by
  cases h:mD c.Kind with
  | false=>rfl
  | true=>rw [(Xm h).1] at hc;cases hc
 show (decide (vH d o.Kind<=40)&&oW (vH d o.Kind) ((x++[c])++y))=oW d y;have e1:vH d o.Kind=d+1:=by unfold vH;rw [ho,hco];rfl
 rw [e1,mH ah,BF,nU,h (d+1) _ ah];show (decide (vH (d+1) c.Kind<=40)&&oW (vH (d+1) c.Kind) y)=oW d y;have e2:vH (d+1) c.Kind=d:=by unfold vH;rw [hoc,hc];rfl
 rw [e2,mH ah,BF]
def Dp.cons {e:Nat} {t:aG} {x:List aG} (h:mD t.Kind=false/\oz t.Kind=false) (hx:Dp e x):Dp e (t::x):=Dp.app (x:=[t]) (.tok h) hx
def avQ {o:Int} (h:bG o≠0):mD o=false/\oz o=false:=by
 rcases Im h with e|e|e|e|e|e|e|e|e|e|e|e|e|e|e|e|e<;>subst e<;>exact ⟨rfl,rfl⟩
def avR {o:Int} (h:qK o=true):mD o=false/\oz o=false:=by
 have h1:=SF h;have f:∀ {z:Int},o≠z->(o==z)=false:=fun h=>by simpa using h
 unfold mD oz;rw [f ah,f ah,f ah,f ah,f ah,f ah];exact ⟨rfl,rfl⟩
def Dp.par {e:Nat} {b:Bool} {x y:List aG} (hx:b=false->Dp e x) (hy:b=true->Dp e y):Dp (e+1) (yU b x y):=by
 cases b with
 | false=>exact (hx rfl).mono ah
 | true=>exact Dp.wrap rfl rfl (hy rfl)
def amj:∀ (xs:List (List aG)) (b:Bool) (e:Nat),(∀ x,x∈xs->Dp e x)->Dp e (dV b xs)
 | [],b,e,_=>by rw [dV];exact Dp.nil.mono ah
 | x::xs,b,e,h=>by
  rw [dV];refine Dp.app ?_ (Dp.app (h x aA)<|amj xs true e fun y hy=>h y<|by simp [hy]);cases b with
  | false=>exact Dp.nil.mono ah
  | true=>exact Dp.tok ⟨rfl,rfl⟩
def Xn:∀ {ts:List av} {t:av},t∈ts->eB t<=ig ts
 | [],_,h=>by cases h
 | u::ts,t,h=>by
  rw [ig];rcases gQ.1 h with rfl|h
  .omega
  .have:=Xn h;omega
def DpB (t:av):Prop:=∀ p,Dp (eB t) (dD false t p)
def acK {t:av} (h:DpB t) (p:aK):Dp (eB t+1) (bY false t p):=by
 unfold bY;exact Dp.par (fun _=>h p) (fun _=>h iA)
def avS {t:av} (g:GN t) (h:DpB t):Dp (eB t) (bY false t iA):=by
 unfold bY KU;rw [ama g.lv];exact h iA
def aiv:∀ t:av,allT GN t->allT CN t->DpB t:=by
 intro t;induction t using wY with
 | h t ih=>
  intro hg hc p;have g:=vV hg;have c:=vV hc;have gk:=DV hg;have ck:=DV hc;have KV:∀ u,u∈t.kids->DpB u:=fun u hu=>ih u hu (gk u hu) (ck u hu);have hd:=Xo t;have kid:∀ (j:Nat) (u:av),u∈t.kids->Dp (eB t) (bN false t.kind t.op t.kids.length j p u):=fun j u hu=>by
   have h1:=Xn hu;unfold bN;cases tgt t.kind j with
   | true=>exact (KV u hu _).mono ah
   | false=>exact (acK (KV u hu) _).mono ah
  have avT:∀ (ts:List av) (j:Nat),(∀ u,u∈ts->u∈t.kids)->(∀ j,gZ t.kind t.op t.kids.length j p=iA)->(∀ j,tgt t.kind j=false)->∀ x,x∈bC false t.kind t.op t.kids.length j p ts->Dp (ig t.kids) x:=by
   intro ts;induction ts with
   | nil=>intro j _ _ _ x hx;rw [bC] at hx;cases hx
   | cons u ts ih2=>
    intro j hm hk ht x hx;rw [fH] at hx;rcases gQ.1 hx with rfl|hx
    .have hu:=hm u aA;unfold bN;rw [ht j,aI,hk j];exact (avS (vV<|gk u hu)<|KV u hu).mono (Xn hu)
    .exact ih2 (j+1) (fun v hv=>hm v<|by simp [hv]) hk ht x hx
  obtain ⟨k,o,x,y,ks⟩:=t;have one:∀ tk:aG,mD tk.Kind=false/\oz tk.Kind=false->Dp (eB ⟨k,o,x,y,ks⟩) [tk]:=fun tk h=>.tok h;have list:∀ a b:aG,mD a.Kind=true->oz b.Kind=true->(∀ j,gZ k o ks.length j p=iA)->(∀ j,tgt k j=false)->Dp (eB ⟨k,o,x,y,ks⟩) (a::(dV false (bC false k o ks.length 0 p ks)++[b])):=fun a b ha hb hk ht=>by
   rw [hd];exact Dp.wrap ha hb (amj _ false _<|avT ks 0 (fun u hu=>hu) hk ht)
  rcases kinds g.e with e|e|e|e|e|e|e|e|e|e|e|e|e|e|e<;>(have e:k=_:=e;subst e)
  case inl=>rw [fJ];exact one ⟨6,x,0⟩ ⟨rfl,rfl⟩
  case inr.inl=>rw [fJ];exact one ⟨3,x,0⟩ ⟨rfl,rfl⟩
  case inr.inr.inl=>rw [fJ];exact one ⟨4,x,0⟩ ⟨rfl,rfl⟩
  case inr.inr.inr.inl=>rw [fJ];exact one ⟨5,x,0⟩ ⟨rfl,rfl⟩
  case inr.inr.inr.inr.inl=>
   have et:dD false ⟨5,o,x,y,ks⟩ p=⟨6,x,0⟩::sg 34::(dV false (bC false 5 o ks.length 0 p ks)++[sg 35]):=by rw [fJ];rfl
   rw [et];exact Dp.cons ⟨rfl,rfl⟩ (list (sg 34) (sg 35) rfl rfl (fun _=>rfl) fun j=>by unfold tgt;simp)
  case inr.inr.inr.inr.inr.inl=>
   obtain ⟨u,e1⟩:=Io (g.a1<|.inl rfl);have e1:ks=[u]:=e1;subst e1;have et:dD false ⟨6,o,x,y,[u]⟩ p=sg 68::bN false 6 o 1 0 p u:=by rw [fJ];show sg 68::(bC false 6 o 1 0 p [u]).getD 0 []=_;rw [fH];rfl
   rw [et];exact Dp.cons ⟨rfl,rfl⟩ (kid 0 u aA)
  case inr.inr.inr.inr.inr.inr.inl=>
   have et:dD false ⟨7,o,x,y,ks⟩ p=⟨7,x,0⟩::sg 32::(dV false (bC false 7 o ks.length 0 p ks)++[sg 33]):=by rw [fJ];rfl
   rw [et];exact Dp.cons ⟨rfl,rfl⟩ (list (sg 32) (sg 33) rfl rfl (fun _=>rfl) fun j=>by unfold tgt;simp)
  case inr.inr.inr.inr.inr.inr.inr.inl=>
   have et:dD false ⟨8,o,x,y,ks⟩ p=⟨8,x,0⟩::sg 32::(dV false (bC false 8 o ks.length 0 p ks)++[sg 33]):=by rw [fJ];rfl
   rw [et];exact Dp.cons ⟨rfl,rfl⟩ (list (sg 32) (sg 33) rfl rfl (fun _=>rfl) fun j=>by unfold tgt;simp)
  case inr.inr.inr.inr.inr.inr.inr.inr.inl=>
   obtain ⟨u,e1⟩:=Io (g.a1<|.inr<|.inl rfl);have e1:ks=[u]:=e1;subst e1;have et:dD false ⟨9,o,x,y,[u]⟩ p=sg o::bN false 9 o 1 0 p u:=by rw [fJ];show sg o::(bC false 9 o 1 0 p [u]).getD 0 []=_;rw [fH];rfl
   rw [et];have ho:o=51\/o=52:=c.k9 (.inl rfl);exact Dp.cons (by rcases ho with rfl|rfl<;>exact ⟨rfl,rfl⟩) (kid 0 u aA)
  case inr.inr.inr.inr.inr.inr.inr.inr.inr.inl=>
   obtain ⟨u,e1⟩:=Io (g.a1<|.inr<|.inr<|.inl rfl);have e1:ks=[u]:=e1;subst e1;have et:dD false ⟨10,o,x,y,[u]⟩ p=bN false 10 o 1 0 p u++[sg o]:=by rw [fJ];show (bC false 10 o 1 0 p [u]).getD 0 []++[sg o]=_;rw [fH];rfl
   rw [et];have ho:o=51\/o=52:=c.k9 (.inr rfl);exact Dp.app (kid 0 u aA) (.tok<|by rcases ho with rfl|rfl<;>exact ⟨rfl,rfl⟩)
  case inr.inr.inr.inr.inr.inr.inr.inr.inr.inr.inl=>
   obtain ⟨u,e1⟩:=Io (g.a1<|.inr<|.inr<|.inr rfl);have e1:ks=[u]:=e1;subst e1;have et:dD false ⟨11,o,x,y,[u]⟩ p=sg o::bN false 11 o 1 0 p u:=by rw [fJ];show sg o::(bC false 11 o 1 0 p [u]).getD 0 []=_;rw [fH];rfl
   rw [et];have ho:o=55\/o=56\/o=61:=c.k11 rfl;exact Dp.cons (by rcases ho with rfl|rfl|rfl<;>exact ⟨rfl,rfl⟩) (kid 0 u aA)
  case inr.inr.inr.inr.inr.inr.inr.inr.inr.inr.inr.inl=>
   obtain ⟨a,b,e1⟩:=SC (g.a2<|.inl rfl);have e1:ks=[a,b]:=e1;subst e1;have et:dD false ⟨12,o,x,y,[a,b]⟩ p=bN false 12 o 2 0 p a++((bif o==99 then [] else [sg o])++bN false 12 o 2 1 p b):=by
    rw [fJ];show (bC false 12 o 2 0 p [a,b]).getD 0 []++((bif o==99 then [] else [sg o])++(bC false 12 o 2 0 p [a,b]).getD 1 [])=_;rw [fH,fH];rfl
   rw [et];have ho:bG o≠0:=g.lv;refine Dp.app (kid 0 a aA) (Dp.app ?_ (kid 1 b aA));cases o==99 with
   | true=>exact Dp.nil.mono ah
   | false=>exact .tok (avQ ho)
  case inr.inr.inr.inr.inr.inr.inr.inr.inr.inr.inr.inr.inl=>
   have hlen:=Xk false 13 o ks.length p ks 0;have et:dD false ⟨13,o,x,y,ks⟩ p=(bif decide (ks.length > 1) then sg 32::(dV false (bC false 13 o ks.length 0 p ks)++[sg 33]) else (bC false 13 o ks.length 0 p ks).getD 0 [])++[sg 24,⟨6,x,0⟩]:=by
    rw [fJ];show (bif decide ((bC false 13 o ks.length 0 p ks).length > 1) then _ else _)++_=_;rw [hlen]
   rw [et];refine Dp.app ?_ (Dp.app (x:=[sg 24]) (.tok ⟨rfl,rfl⟩)<|.tok ⟨rfl,rfl⟩);cases h2:decide (ks.length > 1) with
   | true=>exact list (sg 32) (sg 33) rfl rfl (fun j=>by show (bif decide (ks.length > 1) then (⟨1,false,false,false,false⟩:aK) else _)=_;rw [h2];rfl) (fun j=>by unfold tgt;simp)
   | false=>
    rw [aI];cases ks with
    | nil=>rw [bC];exact Dp.nil.mono ah
    | cons u ts=>
     rw [fH];exact kid 0 u aA
  case inr.inr.inr.inr.inr.inr.inr.inr.inr.inr.inr.inr.inr.inl=>
   obtain ⟨a,b,cc,e1⟩:=afT (g.a3 rfl);have e1:ks=[a,b,cc]:=e1;subst e1;have et:dD false ⟨14,o,x,y,[a,b,cc]⟩ p=bN false 14 o 3 0 p a++(sg 65::(bN false 14 o 3 1 p b++(sg 66::bN false 14 o 3 2 p cc))):=by
    rw [fJ];show (bC false 14 o 3 0 p [a,b,cc]).getD 0 []++(sg 65::((bC false 14 o 3 0 p [a,b,cc]).getD 1 []++(sg 66::(bC false 14 o 3 0 p [a,b,cc]).getD 2 [])))=_;rw [fH,fH,fH];rfl
   rw [et];exact Dp.app (kid 0 a aA) (Dp.cons ⟨rfl,rfl⟩<|Dp.app (kid 1 b aA)<|Dp.cons ⟨rfl,rfl⟩<|kid 2 cc aA)
  case inr.inr.inr.inr.inr.inr.inr.inr.inr.inr.inr.inr.inr.inr=>
   obtain ⟨a,b,e1⟩:=SC (g.a2<|.inr rfl);have e1:ks=[a,b]:=e1;subst e1;have et:dD false ⟨15,o,x,y,[a,b]⟩ p=bN false 15 o 2 0 p a++((bif o==99 then [] else [sg o])++bN false 15 o 2 1 p b):=by
    rw [fJ];show (bC false 15 o 2 0 p [a,b]).getD 0 []++((bif o==99 then [] else [sg o])++(bC false 15 o 2 0 p [a,b]).getD 1 [])=_;rw [fH,fH];rfl
   rw [et];have ho:qK o=true:=c.k15 rfl;refine Dp.app (kid 0 a aA) (Dp.app ?_ (kid 1 b aA));cases o==99 with
   | true=>exact Dp.nil.mono ah
   | false=>exact .tok (avR ho)
def Dp.nest {e:Nat} {x:List aG} (h:Dp e x) (he:e<=40):oW 0 x=true:=by
 have:=h 0 [] ah;rw [qd] at this;rw [this];rfl
def amk {P:av->Prop} {t:av} (h:P t) (hk:∀ k,k∈t.kids->allT P k):allT P t:=by
 have key:∀ ts:List av,(∀ k,k∈ts->allT P k)->Ac P ts:=by
  intro ts;induction ts with
  | nil=>intro _;rw [Ac];trivial
  | cons u ts ih=>
   intro h;rw [Ac];exact ⟨h u aA,ih fun k hk=>h k<|by simp [hk]⟩
 obtain ⟨k,o,x,y,ks⟩:=t;rw [allT];exact ⟨h,key ks hk⟩
def avU (N:Nat) (a:List aC) (hN:500 < N) (hsh:vG a=true) (hok:yh N a=some true):∀ (t:av) (s i:Nat),TA a t s i->jd t.kind=true->allT GN t:=by
 intro t;induction t using wY with
 | h t ih=>
  intro s i hT he;obtain ⟨n,hn,e1,e2,e3,e4,hka,hkl⟩:=hT.node;have hmem:=kX hn;obtain ⟨hf,avV⟩:=aml N a hN hsh hok n hmem;have hen:jd n.Kind=true:=by rw [<- e1];exact he
  obtain ⟨har,hlv⟩:=avW N n hf hen;have amm:=(afY hsh n hmem).1;have afZ:∀ (q:Nat) (k:av),t.kids[q]?=some k->∃ kk s':Nat,TA a k s' kk/\jd k.kind=true/\((n.Kind=9\/n.Kind=10\/(n.Kind=15/\q=0))->iG k.kind=true):=fun q k hq=>by
   obtain ⟨kk,s',g1,g2,_⟩:=hka.get q k hq;have hql:q < n.Kids.length:=(dw.1 g1).1;obtain ⟨y,y1,y2⟩:=avV q hql;have hkk:n.Kids[q]=(kk:Int):=(dw.1 g1).2;obtain ⟨m,m1,m2,_⟩:=g2.node;rw [hkk,aey m1] at y1;cases y1;have:=avY n q y.Kind y2 hen;rw [<- m2] at this;exact ⟨kk,s',g2,this⟩
  unfold Ar at har;obtain ⟨r0,r1,r2,r3,r4⟩:=har;rw [<- e1] at r0 r1 r2 r3 r4;rw [<- hkl] at r0 r1 r2 r3 r4;refine amk ⟨he,by rw [e1,e2];exact hlv,r0,fun h=>r2 ah,fun h=>r3 h,r4,fun h=>r1 h,ah,fun k hk=>?_,fun k hk h=>?_,fun h=>?_⟩ fun k hk=>?_
  .obtain ⟨q,hq⟩:=CV hk;obtain ⟨_,_,_,h2,_⟩:=afZ q k hq;exact h2
  .obtain ⟨_,_,_,_,h2⟩:=afZ 0 k hk;exact h2 (by rw [<- e1];rcases h with h|h|h<;>simp [h])
  .rw [e2];exact avZ N n hf (by rw [<- e1];exact h)
  .obtain ⟨q,hq⟩:=CV hk;obtain ⟨kk,s',g1,g2,_⟩:=afZ q k hq;exact ih k hk s' kk g1 g2
def awc (N:Nat) (n:aC) (h:zS N n=some true):Wx N n=some true:=by
 unfold zS at h;obtain ⟨⟨lo,hi⟩,h1,h⟩:=bind_some h;obtain ⟨y6,h2,h⟩:=bind_some h;obtain ⟨y13,h3,h⟩:=bind_some h;cases h;rcases Mv h3 with ⟨_,h3⟩|⟨_,h3⟩
 .obtain ⟨bM,ho,h3⟩:=bind_some h3;rcases Mv h3 with ⟨hc,h3⟩|⟨_,h3⟩
  .obtain ⟨fG,ht,h3⟩:=bind_some h3;rcases Mv h3 with ⟨hc2,h3⟩|⟨_,h3⟩
   .subst hc2;exact ht
   .cases h3
  .cases h3
 .cases h3
def Ad (N:Nat) (t:aG):Prop:=uf N t=some true
structure TN (N:Nat) (t:av):Prop where
 n6:t.kind=1\/t.kind=5\/t.kind=13->Ad N ⟨6,t.text,0⟩
 n7:t.kind=7->Ad N ⟨7,t.text,0⟩
 n8:t.kind=8->Ad N ⟨8,t.text,0⟩
 n2:t.kind=2->Ad N ⟨3,t.text,0⟩
 n3:t.kind=3->Ad N ⟨4,t.text,0⟩
 n4:t.kind=4->Ad N ⟨5,t.text,0⟩
def Xp {x:Option Bool} {c:Bool} (h:((Option.bind x fun r=>bif r then some c else some false).bind fun y=>some y)=some true):x=some true/\c=true:=by
 cases x with
 | none=>cases h
 | some r=>
  cases r with
  | false=>cases h
  | true=>exact ⟨rfl,lD h⟩
def Ov {x:List UInt8} (h:(x==[])=true):x=[]:=by simpa using h
def awd (N:Nat) (n:aC) (h:zS N n=some true) (he:jd n.Kind=true) (ts:List av) (hts:ts.length=n.Kids.length):CN ⟨n.Kind,n.Op,n.Text,n.Other,ts⟩/\TN N ⟨n.Kind,n.Op,n.Text,n.Other,ts⟩:=by
 have ht:=awc N n h;obtain ⟨lo,hi,h1,h2,h3,h4⟩:=aga N n h;obtain ⟨k,o,x,y,ks⟩:=n;have named:Fq N (⟨k,o,x,y,ks⟩,true)=some true->Dz N x=some true/\y=[]:=fun h=>by
  obtain ⟨a,b⟩:=Xp (x:=Dz N x) (c:=y==[]) h;exact ⟨a,Ov b⟩
 have plain:((bif (x==[]) then some (y==[]) else (some false)).bind fun wH=>some wH)=some true->x=[]/\y=[]:=fun h=>by
  cases hx:(x==[]) with
  | false=>rw [hx] at h;cases h
  | true=>
   rw [hx] at h;exact ⟨Ov hx,Ov<|lD h⟩
 have rF:(Option.some<|o==0)=some true->o=0:=fun h=>by simpa using lD h
 have nok:∀ kk:Int,kk=6\/kk=7->Dz N x=some true->Ad N ⟨kk,x,0⟩:=fun kk hkk h=>by
  unfold Ad;have e:uf N ⟨kk,x,0⟩=Ba N (⟨kk,x,0⟩,true):=by rcases hkk with rfl|rfl<;>rfl
  rw [e];unfold Ba;dsimp only;rw [aM,h];rfl
 rcases kinds he with e|e|e|e|e|e|e|e|e|e|e|e|e|e|e<;>(have e:k=_:=e;subst e)
 case inl=>
  obtain ⟨hn,hy⟩:=named ht;have ho:=rF h2;subst ho hy;exact ⟨⟨fun _=>rfl,rfl,aA,aA,aA,aA,aA⟩,⟨fun _=>nok 6 (.inl rfl) hn,aA,aA,aA,aA,aA⟩⟩
 case inr.inl=>
  obtain ⟨hn,hy⟩:=Xp (x:=uf N ⟨3,x,0⟩) (c:=y==[]) ht;have hy:=Ov hy;have ho:=rF h2;subst ho hy;exact ⟨⟨fun _=>rfl,rfl,aA,aA,aA,aA,aA⟩,⟨aA,aA,aA,fun _=>hn,aA,aA⟩⟩
 case inr.inr.inl=>
  obtain ⟨hn,hy⟩:=Xp (x:=uf N ⟨4,x,0⟩) (c:=y==[]) ht;have hy:=Ov hy;have ho:=rF h2;subst ho hy;exact ⟨⟨fun _=>rfl,rfl,aA,aA,aA,aA,aA⟩,⟨aA,aA,aA,aA,fun _=>hn,aA⟩⟩
 case inr.inr.inr.inl=>
  obtain ⟨hn,hy⟩:=Xp (x:=uf N ⟨5,x,0⟩) (c:=y==[]) ht;have hy:=Ov hy;have ho:=rF h2;subst ho hy;exact ⟨⟨fun _=>rfl,rfl,aA,aA,aA,aA,aA⟩,⟨aA,aA,aA,aA,aA,fun _=>hn⟩⟩
 case inr.inr.inr.inr.inl=>
  obtain ⟨hn,hy⟩:=named ht;have ho:=rF h2;subst ho hy;have hm:(ks.length:Int)<=6:=by
   have:some ((1:Int),(6:Int))=some (lo,hi):=h1;cases this;exact h4
  exact ⟨⟨fun _=>rfl,rfl,aA,aA,aA,aA,fun _=>by show ts.length<=6;have hts:ts.length=ks.length:=hts;omega⟩,⟨fun _=>nok 6 (.inl rfl) hn,aA,aA,aA,aA,aA⟩⟩
 case inr.inr.inr.inr.inr.inl=>
  obtain ⟨hx,hy⟩:=plain ht;have ho:=rF h2;subst ho hx hy;exact ⟨⟨fun _=>rfl,rfl,fun _=>rfl,aA,aA,aA,aA⟩,⟨aA,aA,aA,aA,aA,aA⟩⟩
 case inr.inr.inr.inr.inr.inr.inl=>
  obtain ⟨hn,hy⟩:=named ht;have ho:=rF h2;subst ho hy;have hm:(ks.length:Int)<=6:=by
   have:some ((0:Int),(6:Int))=some (lo,hi):=h1;cases this;exact h4
  exact ⟨⟨fun _=>rfl,rfl,aA,aA,aA,aA,fun _=>by show ts.length<=6;have hts:ts.length=ks.length:=hts;omega⟩,⟨aA,fun _=>nok 7 (.inr rfl) hn,aA,aA,aA,aA⟩⟩
 case inr.inr.inr.inr.inr.inr.inr.inl=>
  obtain ⟨hn,hy⟩:=Xp (x:=Hq N x) (c:=y==[]) ht;have hy:=Ov hy;have ho:=rF h2;subst ho hy;have hm:(ks.length:Int)<=6:=by
   have:some ((0:Int),(6:Int))=some (lo,hi):=h1;cases this;exact h4
  refine ⟨⟨fun _=>rfl,rfl,aA,aA,aA,aA,fun _=>by show ts.length<=6;have hts:ts.length=ks.length:=hts;omega⟩,⟨aA,aA,fun _=>?_,aA,aA,aA⟩⟩;unfold Ad;have e:uf N ⟨8,x,0⟩=Ba N (⟨8,x,0⟩,false):=rfl;rw [e];unfold Ba;dsimp only;show Option.bind (Hq N x) _=_;rw [hn];rfl
 case inr.inr.inr.inr.inr.inr.inr.inr.inl=>
  obtain ⟨hx,hy⟩:=plain ht;subst hx hy;have ho:o=51\/o=52:=by
   have e:Dy ⟨9,o,[],[],ks⟩=some (o==51||o==52):=by
    show ((bif (o==51) then some true else some (o==52)).bind fun y=>some y)=_;cases (o==51)<;>rfl
   rw [e] at h2;simpa using lD h2
  exact ⟨⟨aA,rfl,fun _=>rfl,fun _=>ho,aA,aA,aA⟩,⟨aA,aA,aA,aA,aA,aA⟩⟩
 case inr.inr.inr.inr.inr.inr.inr.inr.inr.inl=>
  obtain ⟨hx,hy⟩:=plain ht;subst hx hy;have ho:o=51\/o=52:=by
   have e:Dy ⟨10,o,[],[],ks⟩=some (o==51||o==52):=by
    show ((bif (o==51) then some true else some (o==52)).bind fun y=>some y)=_;cases (o==51)<;>rfl
   rw [e] at h2;simpa using lD h2
  exact ⟨⟨aA,rfl,fun _=>rfl,fun _=>ho,aA,aA,aA⟩,⟨aA,aA,aA,aA,aA,aA⟩⟩
 case inr.inr.inr.inr.inr.inr.inr.inr.inr.inr.inl=>
  obtain ⟨hx,hy⟩:=plain ht;subst hx hy;have ho:o=55\/o=56\/o=61:=by
   have e:Dy ⟨11,o,[],[],ks⟩=some (o==55||(o==56||o==61)):=by
    show ((bif (o==55) then some true else (bif (o==56) then some true else some (o==61))).bind fun y=>some y)=_;cases (o==55)<;>cases (o==56)<;>rfl
   rw [e] at h2;simpa using lD h2
  exact ⟨⟨aA,rfl,fun _=>rfl,aA,fun _=>ho,aA,aA⟩,⟨aA,aA,aA,aA,aA,aA⟩⟩
 case inr.inr.inr.inr.inr.inr.inr.inr.inr.inr.inr.inl=>
  obtain ⟨hx,hy⟩:=plain ht;subst hx hy;exact ⟨⟨aA,rfl,fun _=>rfl,aA,aA,aA,aA⟩,⟨aA,aA,aA,aA,aA,aA⟩⟩
 case inr.inr.inr.inr.inr.inr.inr.inr.inr.inr.inr.inr.inl=>
  obtain ⟨hn,hy⟩:=named ht;have ho:=rF h2;subst ho hy;have hm:(ks.length:Int)<=6:=by
   have:some ((1:Int),(6:Int))=some (lo,hi):=h1;cases this;exact h4
  exact ⟨⟨fun _=>rfl,rfl,aA,aA,aA,aA,fun _=>by show ts.length<=6;have hts:ts.length=ks.length:=hts;omega⟩,⟨fun _=>nok 6 (.inl rfl) hn,aA,aA,aA,aA,aA⟩⟩
 case inr.inr.inr.inr.inr.inr.inr.inr.inr.inr.inr.inr.inr.inl=>
  obtain ⟨hx,hy⟩:=plain ht;have ho:=rF h2;subst ho hx hy;exact ⟨⟨fun _=>rfl,rfl,fun _=>rfl,aA,aA,aA,aA⟩,⟨aA,aA,aA,aA,aA,aA⟩⟩
 case inr.inr.inr.inr.inr.inr.inr.inr.inr.inr.inr.inr.inr.inr=>
  obtain ⟨hx,hy⟩:=plain ht;subst hx hy;have ho:qK o=true:=by
   have e:Dy ⟨15,o,[],[],ks⟩=Option.bind (Cc o) (fun cZ=>some cZ):=rfl;rw [e,amn] at h2;exact lD h2
  exact ⟨⟨aA,rfl,fun _=>rfl,aA,aA,fun _=>ho,aA⟩,⟨aA,aA,aA,aA,aA,aA⟩⟩
def awe (N:Nat) (a:List aC) (hN:500 < N) (hsh:vG a=true) (hok:yh N a=some true) {t:av} {s i:Nat} (hT:TA a t s i) (hg:allT GN t):allT (fun u=>CN u/\TN N u) t:=by
 have key:∀ t:av,∀ s i,TA a t s i->allT GN t->allT (fun u=>CN u/\TN N u) t:=by
  intro t;induction t using wY with
  | h t ih=>
   intro s i hT hg;obtain ⟨n,hn,e1,e2,e3,e4,hka,hkl⟩:=hT.node;obtain ⟨hf,_⟩:=aml N a hN hsh hok n (kX hn);have g:=vV hg;have r:=awd N n hf (by rw [<- e1];exact g.e) t.kids hkl;have et:(⟨n.Kind,n.Op,n.Text,n.Other,t.kids⟩:av)=t:=by
    rw [<- e1,<- e2,<- e3,<- e4];cases t;rfl
   rw [et] at r;refine amk r fun k hk=>?_;obtain ⟨q,hq⟩:=CV hk;obtain ⟨kk,s',_,g2,_⟩:=hka.get q k hq;exact ih k hk s' kk g2 (DV hg k hk)
 exact key t s i hT hg
def qL (N:Nat) {k:Int} (h:k=24\/k=32\/k=33\/k=34\/k=35\/k=36\/k=51\/k=52\/k=61\/k=65\/k=66\/k=68\/bG k≠0/\k≠99\/qK k=true):Ad N (sg k):=by
 have hk:k=24\/k=32\/k=33\/k=34\/k=35\/k=36\/k=51\/k=52\/k=61\/k=65\/k=66\/k=68\/k=44\/k=45\/k=67\/k=46\/k=63\/k=48\/k=47\/k=50\/k=62\/k=49\/k=55\/k=56\/k=57\/k=58\/k=59\/k=60\/k=38\/k=39\/k=40\/k=41\/k=42\/k=43\/k=54:=by
  rcases h with h|h|h|h|h|h|h|h|h|h|h|h|⟨h,h2⟩|h
  case inr.inr.inr.inr.inr.inr.inr.inr.inr.inr.inr.inr.inl=>have:=Im h;omega
  case inr.inr.inr.inr.inr.inr.inr.inr.inr.inr.inr.inr.inr=>have:=SF h;omega
  all_goals omega
 unfold Ad;have key:∀ k:Int,(k==2)=false->(k==3)=false->(k==4)=false->(k==5)=false->(k==6)=false->(k==7)=false->(k==8)=false->(spl k==[])=false->uf N (sg k)=some true:=fun k a1 a2 a3 a4 a5 a6 a7 a8=>by
  unfold uf Ba sg;simp only [a1,a2,a3,a4,a5,a6,a7,a8,aI,amo,aB,lF,aM,Qe]
 rcases hk with rfl|rfl|rfl|rfl|rfl|rfl|rfl|rfl|rfl|rfl|rfl|rfl|rfl|rfl|rfl|rfl|rfl|rfl|rfl|rfl|rfl|rfl|rfl|rfl|rfl|rfl|rfl|rfl|rfl|rfl|rfl|rfl|rfl|rfl|rfl<;>exact key _ rfl rfl rfl rfl rfl rfl rfl rfl
def nE (N:Nat) (x:List aG):Prop:=∀ t,t∈x->Ad N t
def nE.nil {N:Nat}:nE N []:=fun t h=>by cases h
def nE.app {N:Nat} {x y:List aG} (hx:nE N x) (hy:nE N y):nE N (x++y):=fun t h=>by
 rcases kY.1 h with h|h
 .exact hx t h
 .exact hy t h
def nE.cons {N:Nat} {t:aG} {y:List aG} (hx:Ad N t) (hy:nE N y):nE N (t::y):=fun u h=>by
 rcases gQ.1 h with rfl|h
 .exact hx
 .exact hy u h
def nE.one {N:Nat} {t:aG} (hx:Ad N t):nE N [t]:=.cons hx .nil
def nE.getD {N:Nat} {l:List (List aG)} (h:∀ x,x∈l->nE N x) (j:Nat):nE N (l.getD j []):=by
 rw [Gg];cases e:l[j]? with
 | none=>exact .nil
 | some x=>exact h x (kX e)
def amq {N:Nat}:∀ (l:List (List aG)) (b:Bool),(∀ x,x∈l->nE N x)->nE N (dV b l)
 | [],b,_=>by rw [dV];exact .nil
 | x::l,b,h=>by
  rw [dV];refine .app ?_ (.app (h x aA)<|amq l true fun y hy=>h y<|by simp [hy]);cases b with
  | false=>exact .nil
  | true=>exact .one (qL N aA)
def nE.par {N:Nat} {b:Bool} {x y:List aG} (hx:nE N x) (hy:nE N y):nE N (yU b x y):=by
 cases b with
 | false=>exact hx
 | true=>exact .cons (qL N aA) (.app hy<|.one<|qL N aA)
def awf (N:Nat) (t:av) (g:GN t) (c:CN t) (n:TN N t) (l:List (List aG)) (hl:∀ x,x∈l->nE N x):nE N (jP t.kind t.op t.text l):=by
 obtain ⟨k,o,x,y,ks⟩:=t;have d:=nE.getD hl;have li:=amq l false hl;rcases kinds g.e with e|e|e|e|e|e|e|e|e|e|e|e|e|e|e<;>(have e:k=_:=e;subst e)
 .exact .one (n.n6<|.inl rfl)
 .exact .one (n.n2 rfl)
 .exact .one (n.n3 rfl)
 .exact .one (n.n4 rfl)
 .exact .cons (n.n6<|.inr<|.inl rfl) (.cons (qL N aA)<|.app li<|.one<|qL N aA)
 .exact .cons (qL N aA) (d 0)
 .exact .cons (n.n7 rfl) (.cons (qL N aA)<|.app li<|.one<|qL N aA)
 .exact .cons (n.n8 rfl) (.cons (qL N aA)<|.app li<|.one<|qL N aA)
 .exact .cons (qL N (by have:o=51\/o=52:=c.k9 (.inl rfl);rcases this with rfl|rfl<;>simp)) (d 0)
 .exact .app (d 0) (.one<|qL N (by have:o=51\/o=52:=c.k9 (.inr rfl);rcases this with rfl|rfl<;>simp))
 .refine .cons ?_ (d 0);have:o=55\/o=56\/o=61:=c.k11 rfl;rcases this with rfl|rfl|rfl
  .exact qL N (.inr<|.inr<|.inr<|.inr<|.inr<|.inr<|.inr<|.inr<|.inr<|.inr<|.inr<|.inr<|.inl ⟨by show bG 55≠0;decide,by show (55:Int)≠99;decide⟩)
  .exact qL N (.inr<|.inr<|.inr<|.inr<|.inr<|.inr<|.inr<|.inr<|.inr<|.inr<|.inr<|.inr<|.inl ⟨by show bG 56≠0;decide,by show (56:Int)≠99;decide⟩)
  .exact qL N aA
 .refine .app (d 0) (.app ?_ (d 1));cases rG:(o==99) with
  | true=>exact .nil
  | false=>exact .one (qL N<|.inr<|.inr<|.inr<|.inr<|.inr<|.inr<|.inr<|.inr<|.inr<|.inr<|.inr<|.inr<|.inl ⟨g.lv,by simpa using rG⟩)
 .refine .app (x:=bif decide (l.length > 1) then sg 32::(dV false l++[sg 33]) else l.getD 0 []) ?_ (.cons (qL N aA)<|.one<|n.n6<|.inr<|.inr rfl);cases decide (l.length > 1) with
  | true=>exact .cons (qL N aA) (.app li<|.one<|qL N aA)
  | false=>exact d 0
 .exact .app (d 0) (.cons (qL N aA)<|.app (d 1)<|.cons (qL N aA)<|d 2)
 .refine .app (d 0) (.app ?_ (d 1));cases rG:(o==99) with
  | true=>exact .nil
  | false=>exact .one (qL N<|.inr<|.inr<|.inr<|.inr<|.inr<|.inr<|.inr<|.inr<|.inr<|.inr<|.inr<|.inr<|.inr<|c.k15 rfl)
def amr (N:Nat) (f:Bool):∀ t:av,allT GN t->allT (fun u=>CN u/\TN N u) t->∀ p,nE N (dD f t p):=by
 intro t;induction t using wY with
 | h t ih=>
  intro hg hc p;obtain ⟨c,n⟩:=vV hc;rw [fJ];refine awf N t (vV hg) c n _ ?_;have key:∀ (ts:List av) (j:Nat),(∀ u,u∈ts->u∈t.kids)->∀ x,x∈bC f t.kind t.op t.kids.length j p ts->nE N x:=by
   intro ts;induction ts with
   | nil=>intro j _ x hx;rw [bC] at hx;cases hx
   | cons u ts ih2=>
    intro j hm x hx;rw [fH] at hx;rcases gQ.1 hx with rfl|hx
    .have hu:=hm u aA;have hB:=ih u hu (DV hg u hu) (DV hc u hu);unfold bN bY;cases tgt t.kind j with
     | true=>exact hB _
     | false=>exact nE.par (hB _) (hB _)
    .exact ih2 (j+1) (fun v hv=>hm v<|by simp [hv]) x hx
  exact key t.kids 0 fun u hu=>hu
def aii (N:Nat) (f:Bool) (t:av) (hg:allT GN t) (hc:allT (fun u=>CN u/\TN N u) t) (p:aK):nE N (bY f t p):=by
 unfold bY;exact nE.par (amr N f t hg hc p) (amr N f t hg hc iA)
mutual
def mW:av->List av
 | ⟨k,o,x,y,ks⟩=>eP ks++[⟨k,o,x,y,ks⟩]
def eP:List av->List av
 | []=>[]
 | t::ts=>mW t++eP ts
end
def SG (t:av):mW t=eP t.kids++[t]:=by cases t;rw [mW]
def Bd {α β:Type} (R:α->β->Prop):List α->List β->Prop
 | [],[]=>True
 | a::xs,b::ys=>R a b/\Bd R xs ys
 | _,_=>False
def Bd.app {α β:Type} {R:α->β->Prop}:∀ {a a':List α} {b b':List β},Bd R a b->Bd R a' b'->Bd R (a++a') (b++b')
 | [],_,[],_,_,h=>h
 | _::_,_,_::_,_,h,h'=>⟨h.1,h.2.app h'⟩
 | [],_,_::_,_,h,_=>h.elim
 | _::_,_,[],_,h,_=>h.elim
def Bd.imp {α β:Type} {R S:α->β->Prop} (hi:∀ a b,R a b->S a b):∀ {a:List α} {b:List β},Bd R a b->Bd S a b
 | [],[],_=>trivial
 | _::_,_::_,h=>⟨hi _ _ h.1,h.2.imp hi⟩
 | [],_::_,h=>h.elim
 | _::_,[],h=>h.elim
def Bd.len {α β:Type} {R:α->β->Prop}:∀ {a:List α} {b:List β},Bd R a b->a.length=b.length
 | [],[],_=>rfl
 | _::_,_::_,h=>by simp [h.2.len]
 | [],_::_,h=>h.elim
 | _::_,[],h=>h.elim
def Bd.get {α β:Type} {R:α->β->Prop}:∀ {a:List α} {b:List β},Bd R a b->∀ (i:Nat) (x:α) (y:β),a[i]?=some x->b[i]?=some y->R x y
 | _::_,_::_,h,0,x,y,hx,hy=>by
  simp at hx hy;rw [<- hx,<- hy];exact h.1
 | _::_,_::_,h,i+1,x,y,hx,hy=>h.2.get i x y (by simpa using hx) (by simpa using hy)
 | [],[],_,_,_,_,hx,_=>by simp at hx
 | [],_::_,h,_,_,_,_,_=>h.elim
 | _::_,[],h,_,_,_,_,_=>h.elim
def Ow (f:Bool) (l:List aG) (s:bT) (u:av):Prop:=∃ (a:Nat) (q:aK),posB q=true/\Sg l a (dD f u q)/\a+(dD f u q).length<=l.length/\s=⟨(a:Int),((a+(dD f u q).length:Nat):Int)⟩
def Sg.more {l:List aG} {i:Nat} {x:List aG} (h:Sg l i x) (hl:i+x.length<=l.length) (r:List aG):Sg (l++r) i x:=by
 obtain ⟨r',hr⟩:=h;exact ⟨r'++r,by rw [List.drop_append_of_le_length ah,hr,nU]⟩
def Ow.app {f:Bool} {l:List aG} {s:bT} {u:av} (h:Ow f l s u) (r:List aG):Ow f (l++r) s u:=by
 obtain ⟨a,q,h1,h2,h3,h4⟩:=h;exact ⟨a,q,h1,h2.more h3 r,by rw [jq];omega,h4⟩
def mX (f:Bool) (l:List aG) (bK sp:List bT) (us:List av):Prop:=∃ xC,sp=bK++xC/\Bd (Ow f l) xC us
def mX.nil {f:Bool} {l:List aG} {bK:List bT}:mX f l bK bK []:=⟨[],aA,trivial⟩
def mX.app {f:Bool} {l:List aG} {bK sp:List bT} {us:List av} (h:mX f l bK sp us) (r:List aG):mX f (l++r) bK sp us:=by
 obtain ⟨xC,h1,h2⟩:=h;exact ⟨xC,h1,h2.imp fun _ _ h=>h.app r⟩
def mX.cast {f:Bool} {l l':List aG} {bK sp:List bT} {us:List av} (h:mX f l bK sp us) (e:l=l'):mX f l' bK sp us:=e ▸ h
def mX.trans {f:Bool} {l:List aG} {bK sp sq:List bT} {us vs:List av} (h:mX f l bK sp us) (h':mX f l sp sq vs):mX f l bK sq (us++vs):=by
 obtain ⟨xC,h1,h2⟩:=h;obtain ⟨sqs,g1,g2⟩:=h';exact ⟨xC++sqs,by rw [g1,h1,nU],h2.app g2⟩
def mX.own {f:Bool} {l:List aG} {bK sp:List bT} {us:List av} (h:mX f l bK sp us) {s:bT} {t:av} (ho:Ow f l s t):mX f l bK (sp++[s]) (us++[t]):=h.trans ⟨[s],rfl,ho,trivial⟩
def agb {f:Bool} {t:av} {p:aK} {x:List aG} (hp:posB p=true) (he:dD f t p=x) (toks:List aG):Ow f (toks++x) ⟨(toks.length:Int),((toks++x).length:Int)⟩ t:=
 ⟨toks.length,p,hp,⟨[],by rw [List.drop_left' rfl,he,qd]⟩,by rw [he,jq];omega,by rw [he,jq]⟩
def Wr (f:Bool) (x:Option (List aG×List bT)) (l:List aG) (bK:List bT) (c:Nat) (us:List av):Prop:=∃ sp,x=some (l,sp)/\sp.length<=bK.length+c/\mX f l bK sp us
def awh (f:Bool) (M:Nat) (t kid:av) (j:Nat) (p:aK) (toks:List aG) (bK:List bT) (hM:1000 < M) (g:GN t) (hk:t.kids[j]?=some kid) (hp:posB p=true):
  (dB<|M+1).gP t (j:Int) p f toks bK=
   bif tgt t.kind j then (dB M).AY kid (gZ t.kind t.op t.kids.length j p) f toks bK
   else (dB M).Ao kid (gZ t.kind t.op t.kids.length j p) f toks bK:=by
 have hl:=g.le;have hj:j < t.kids.length:=(dw.1 hk).1;have hkp:RJ (KX t) (j:Int) p=some (gZ t.kind t.op t.kids.length j p):=by
  have:=awi (KX t) j p (by show j < (DX _).length;rw [Xq];exact hj) (by show (DX _).length<=_;rw [Xq];omega) hp g.e g.lv (fun e=>by show (DX _).length=2;rw [Xq];exact g.a2<|.inl e);rw [this];show some (gZ t.kind t.op (DX t.kids.length).length j p)=_;rw [Xq]
 have tJ:VY (KX t) (j:Int)=some (tgt t.kind j):=by
  unfold VY tgt;show Option.bind (bif ((j:Int)==0) then bif (t.kind==9) then some true else (bif (t.kind==10) then some true else (some<|t.kind==15)) else (some false)) (fun y1=>some y1)=_;simp only [abt,agc,aB]
 have Ip:∀ x:Option (List aG×List bT),(Option.bind x fun r=>some (r.1,r.2))=x:=fun x=>by cases x<;>rfl
 show Wh M (dB M) t (j:Int) p f toks bK=_;unfold Wh;rw [ams M t ah ah,aB,aey hk,aB,hkp,aB,tJ,aB];cases tgt t.kind j<;>simp only [aM,aI,Ip]
def SH (f:Bool) (t:av):Prop:=∀ (M:Nat) (p:aK) (toks:List aG) (bK:List bT),posB p=true->1000+8*aV t<=M->toks.length+8*aV t<=900000->bK.length+aV t<=900000->
 Wr f ((dB M).AY t p f toks bK) (toks++dD f t p) bK (aV t) (mW t)
def ImE (f:Bool) (t:av):Prop:=∀ (M:Nat) (p:aK) (toks:List aG) (bK:List bT),posB p=true->1001+8*aV t<=M->toks.length+8*aV t+1<=900000->bK.length+aV t<=900000->
 Wr f ((dB M).Ao t p f toks bK) (toks++bY f t p) bK (aV t) (mW t)
def acG {f:Bool} {t:av} (g:GN t) (h:SH f t):ImE f t:=by
 intro M p toks bK hp hM ht hs;obtain ⟨M,rfl⟩:∃ m,M=m+1:=⟨M - 1,ah⟩
 have hl:=g.le;have Ip:∀ x:Option (List aG×List bT),(Option.bind x fun r=>some (r.1,r.2))=x:=fun x=>by cases x<;>rfl
 have key:∀ b:Bool,Wr f (RN M (dB M) f (t,p,toks,bK,b)) (toks++yU b (dD f t p) (dD f t iA)) bK (aV t) (mW t):=fun b=>by
  unfold RN;cases b with
  | false=>
   simp only [lF,aM,Ip];exact h M p toks bK hp ah ah hs
  | true=>
   have hl2:=SI f t iA;obtain ⟨sp,r1,r2,r3⟩:=h M iA (toks++[sg 32]) bK rfl ah (by simp;have:=uK t;omega) hs;simp only [mI,aI,Ae,aB,VU];rw [wZ _ _ _ _ bF,aB];have r1':(dB M).AY t (⟨1,false,false,false,false⟩:aK) f (toks++[sg 32]) bK=some (toks++[sg 32]++dD f t iA,sp):=r1;rw [r1',aB];simp only [];rw [wZ _ _ _ _ bF,aB];refine ⟨sp,?_,r2,(r3.app [sg 33]).cast<|by simp [yU]⟩;simp [yU]
 show Wr f (Wj M (dB M) t p f toks bK) _ _ _ _;unfold Wj bY;rw [ams M t ah ah,aB,awk,aB];cases f with
 | false=>exact key (!mo t.kind t.op p)
 | true=>
  rw [agd,aB,aM];have e:(bif lv t.kind t.op !=15 then some true else some (t.kind==4))=some (lv t.kind t.op !=15||t.kind==4):=abt _ _;have e2:(bif lv (KX t).Kind (KX t).Op !=15 then some true else some ((KX t).Kind==4))=some (lv t.kind t.op !=15||t.kind==4):=e;rw [e2,aB];exact key _
def Bf {f:Bool} {t kid:av} {j:Nat} (g:GN t) (hk:t.kids[j]?=some kid) (hB:SH f kid) (gk:GN kid) (M:Nat) (p:aK) (toks:List aG) (bK:List bT) (hp:posB p=true) (hM:1003+8*aV kid<=M) (ht:toks.length+8*aV kid+1<=900000) (hs:bK.length+aV kid<=900000):
  Wr f ((dB M).gP t (j:Int) p f toks bK) (toks++bN f t.kind t.op t.kids.length j p kid) bK (aV kid) (mW kid):=by
 obtain ⟨M,rfl⟩:∃ m,M=m+1:=⟨M - 1,ah⟩
 have hkp:=afS (k:=t.kind) (o:=t.op) (n:=t.kids.length) (j:=j) (p:=p) g.e;rw [awh f M t kid j p toks bK ah g hk hp];unfold bN;cases tgt t.kind j with
 | true=>exact hB M _ toks bK hkp ah ah hs
 | false=>exact acG gk hB M _ toks bK hkp ah ht hs
def amt {f:Bool} {t:av} (g:GN t) (hB:∀ k,k∈t.kids->SH f k/\GN k) (M:Nat) (p:aK) (sh:Int) (hp:posB p=true) (hM:∀ k,k∈t.kids->1003+8*aV k<=M):∀ (ts:List av) (n j:Nat) (toks:List aG) (bK:List bT),t.kids.drop j=ts->ts.length < n->
  toks.length+8*aS ts+4<=900000->bK.length+aS ts<=900000->
  Wr f (Dx M (dB M) f n (sh,t,p,(j:Int),toks,bK)) (toks++(dV (decide<|j > 0) (bC f t.kind t.op t.kids.length j p ts)++[sg sh])) bK (aS ts) (eP ts)
 | [],n,j,toks,bK,hd,hn,ht,hs=>by
  obtain ⟨n,rfl⟩:∃ m,n=m+1:=⟨n - 1,by simp at hn;omega⟩
  have hlt: ¬j < t.kids.length:=by
   intro h;rw [drop_cons h] at hd;cases hd
  rw [Dx];simp only [jZ hlt,aI,Ae,aB];rw [wZ _ _ _ _ bF,aB,bC];refine ⟨bK,?_,ah,by rw [eP];exact .nil⟩;cases decide (j > 0)<;>simp [dV]
 | k::ts,n,j,toks,bK,hd,hn,ht,hs=>by
  simp only [kF] at hn;obtain ⟨n,rfl⟩:∃ m,n=m+1:=⟨n - 1,ah⟩
  have hlt:j < t.kids.length:=by
   cases vZ j t.kids.length with
   | inl h=>exact h
   | inr h=>rw [Gf h] at hd;cases hd
  rw [drop_cons hlt] at hd;injection hd with hd1 hd2;have hmem:k∈t.kids:=by rw [<- hd1];exact nW hlt
  have hget:t.kids[j]?=some k:=by rw [eZ hlt,hd1]
  have hle:=g.le;rw [aS] at ht hs;have hkt:=FJ f t.kind t.op t.kids.length j p k;have step:∀ (pW:List aG),pW.length<=toks.length+1->Wr f (RL M (dB M) f (Dx M (dB M) f n) (sh,(j:Int),t,p,bK,pW))
    (pW++(bN f t.kind t.op t.kids.length j p k++(dV true (bC f t.kind t.op t.kids.length (j+1) p ts)++[sg sh]))) bK (aS<|k::ts) (eP<|k::ts):=fun pW hl'=>by
   unfold RL;obtain ⟨sp,r1,r2,r3⟩:=Bf g hget (hB k hmem).1 (hB k hmem).2 M p pW bK hp (hM k hmem) (by have:=uK k;omega) ah;simp only [r1,aB];rw [wrap64 ah ah,show (j:Int)+1=((j+1:Nat):Int) by omega];obtain ⟨sp',q1,q2,q3⟩:=amt g hB M p sh hp hM ts n (j+1) (pW++bN f t.kind t.op t.kids.length j p k) sp hd2 ah (by rw [jq];omega) ah;refine ⟨sp',?_,by rw [aS];omega,by rw [eP];exact ((r3.app _).trans q3).cast<|by rw [show decide (j+1 > 0)=true by simp];simp⟩;rw [q1,show decide (j+1 > 0)=true by simp];simp
  rw [Dx];simp only [iT hlt,aM];rw [fH,dV];have hg:decide ((j:Int) > 0)=decide (j > 0):=by by_cases h:j > 0<;>simp [h]
  rw [hg];cases hj:decide (j > 0) with
  | true=>
   simp only [aM,Ae,aB];rw [wZ _ _ _ _ bF,aB];have:=step (toks++[sg 36]) aA;simpa using this
  | false=>
   simp only [aI];have:=step toks ah;simpa using this
def amu {f:Bool} {t:av} (g:GN t) (hB:∀ k,k∈t.kids->SH f k/\GN k) (M:Nat) (p:aK) (op sh:Int) (hp:posB p=true) (hM:1003+8*aS t.kids<=M) (toks:List aG) (bK:List bT) (ht:toks.length+8*aS t.kids+5<=900000) (hs:bK.length+aS t.kids<=900000):
  Wr f ((dB<|M+1).xM t op sh p f toks bK) (toks++(sg op::(dV false (bC f t.kind t.op t.kids.length 0 p t.kids)++[sg sh]))) bK (aS t.kids) (eP t.kids):=by
 have hl:=g.le;show Wr f (Wi M (dB M) t op sh p f toks bK) _ _ _ _;unfold Wi;rw [Ae,aB,wZ _ _ _ _ bF,aB];have:=amt g hB M p sh hp (fun k hk=>by have:=FL hk;omega) t.kids M 0 (toks++[sg op]) bK rfl (by have:=Af t.kids;omega) bF hs;rw [show decide (0 > 0)=false by simp] at this;simpa using this
def agf {f:Bool} {M:Nat} {R:sM} {toks l:List aG} {bK sp:List bT} {c:Nat} {us:List av} {t:av} (hs:sp.length<=bK.length+c) (hc:bK.length+c+1<=900000) (hx:mX f l bK sp us) (ho:Ow f l ⟨(toks.length:Int),(l.length:Int)⟩ t):
  Wr f (yL M R f (toks,l,sp)) l bK (c+1) (us++[t]):=by
 unfold yL;simp only [];rw [pG bF,aB];exact ⟨_,rfl,bF,hx.own ho⟩
def imB (f:Bool):∀ t:av,allT GN t->SH f t:=by
 intro t;induction t using wY with
 | h t ih=>
  intro hall M p toks bK hp hM ht hs;have g:=vV hall;have hk:∀ k,k∈t.kids->SH f k/\GN k:=fun k hk=>⟨ih k hk<|DV hall k hk,vV<|DV hall k hk⟩
  have hsz:=FM t;have hl:=g.le;obtain ⟨M,rfl⟩:∃ m,M=m+3:=⟨M - 3,ah⟩
  show Wr f (aaK (M+2) (dB<|M+2) t p f toks bK) _ _ _ _;have leaf:∀ tk:aG,t.kids=[]->dD f t p=[tk]->Wr f ((kg [tk] f toks bK).bind fun jT=>yL (M+2) (dB<|M+2) f (toks,jT,bK)) (toks++[tk]) bK (aV t) (mW t):=fun tk hk0 he=>by
   rw [wZ _ _ _ _ bF,aB,hsz,SG,hk0,eP,aS];exact agf ah (by have:=uK t;omega) .nil (agb hp he toks)
  have named:∀ (tk:aG) (op sh:Int),dD f t p=tk::sg op::(dV false (bC f t.kind t.op t.kids.length 0 p t.kids)++[sg sh])->Wr f ((kg [tk] f toks bK).bind fun rA=>((dB<|M+2).xM t op sh p f rA bK).bind fun iN=>yL (M+2) (dB<|M+2) f (toks,iN.1,iN.2))
    (toks++(tk::sg op::(dV false (bC f t.kind t.op t.kids.length 0 p t.kids)++[sg sh]))) bK (aV t) (mW t):=fun tk op sh he=>by
   rw [wZ _ _ _ _ bF,aB];obtain ⟨sp,r1,r2,r3⟩:=amu g hk (M+1) p op sh hp ah (toks++[tk]) bK bF ah;rw [r1,aB,hsz,SG];have el:toks++[tk]++(sg op::(dV false (bC f t.kind t.op t.kids.length 0 p t.kids)++[sg sh]))=toks++(tk::sg op::(dV false (bC f t.kind t.op t.kids.length 0 p t.kids)++[sg sh])):=aA;rw [el] at r3 ⊢;exact agf r2 ah r3 (agb hp he toks)
  have oper:∀ (l:List aG),dD f t p=l->∀ (x:Option (List aG×List bT)),Wr f x (toks++l) bK (aS t.kids) (eP t.kids)->(Wd (M+1) (dB<|M+1) t p f toks bK=x)->Wr f (((dB<|M+2).Kj t p f toks bK).bind fun xO=>yL (M+2) (dB<|M+2) f (toks,xO.1,xO.2)) (toks++l) bK (aV t) (mW t):=fun l ho x hx he=>by
   have e:(dB<|M+2).Kj t p f toks bK=Wd (M+1) (dB<|M+1) t p f toks bK:=rfl;obtain ⟨sp,r1,r2,r3⟩:=hx;rw [e,he,r1,aB,hsz,SG];exact agf r2 ah r3 (agb hp ho toks)
  have Ip:∀ x:Option (List aG×List bT),(Option.bind x fun r=>some (r.1,r.2))=x:=fun x=>by cases x<;>rfl
  rw [fJ];clear ih hall;obtain ⟨k,o,x,y,ks⟩:=t;simp only at hsz hl;have hc:=kinds g.e;simp only at hc;rcases hc with e|e|e|e|e|e|e|e|e|e|e|e|e|e|e<;>subst e
  .exact leaf ⟨6,x,0⟩ (Gc.1<|g.a0 aA) (by rw [fJ];rfl)
  .exact leaf ⟨3,x,0⟩ (Gc.1<|g.a0 aA) (by rw [fJ];rfl)
  .exact leaf ⟨4,x,0⟩ (Gc.1<|g.a0 aA) (by rw [fJ];rfl)
  .exact leaf ⟨5,x,0⟩ (Gc.1<|g.a0 aA) (by rw [fJ];rfl)
  .exact named ⟨6,x,0⟩ 34 35 (by rw [fJ];rfl)
  ·
   have h1:=g.a1 aA;obtain ⟨kid,rfl⟩:=TW.1 h1;have hm:kid∈(av.mk 6 o x y [kid]).kids:=aA;have yX:aS [kid]=aV kid:=by rw [aS,aS];omega
   have xg:∀ k' o' x' y',aS (av.mk k' o' x' y' [kid]).kids=aV kid:=fun _ _ _ _=>yX;obtain ⟨sp,r1,r2,r3⟩:=Bf (j:=0) g rfl (hk kid hm).1 (hk kid hm).2 (M+1) p (toks++[sg 68]) bK hp ah bF ah;have h0:=oper (sg 68::bN f 6 o 1 0 p kid) (by rw [fJ];show jP 6 o x (bC f 6 o 1 0 p [kid])=_;rw [fH,bC];rfl) (some (toks++[sg 68]++bN f 6 o 1 0 p kid,sp)) ⟨sp,aA,by rw [xg];omega,by show mX f _ bK sp (eP [kid]);rw [eP,eP,qd];exact (r3).cast aA⟩ (by
    show ((om 68).bind fun bE=>(kg [bE] f toks bK).bind fun gq=>((dB<|M+1).gP ⟨6,o,x,y,[kid]⟩ 0 p f gq bK).bind fun sJ=>some (sJ.1,sJ.2))=_;rw [Ae,aB,wZ _ _ _ _ bF,aB,Ip];exact r1)
   have e2:jP 6 o x (bC f 6 o 1 0 p [kid])=sg 68::bN f 6 o 1 0 p kid:=by
    rw [fH,bC];rfl
   show Wr _ _ (toks++jP 6 o x (bC f 6 o 1 0 p [kid])) _ _ _;rw [e2];exact h0
  .exact named ⟨7,x,0⟩ 32 33 (by rw [fJ];rfl)
  .exact named ⟨8,x,0⟩ 32 33 (by rw [fJ];rfl)
  ·
   have h1:=g.a1 aA;obtain ⟨kid,rfl⟩:=TW.1 h1;have hm:kid∈(av.mk 9 o x y [kid]).kids:=aA;have yX:aS [kid]=aV kid:=by rw [aS,aS];omega
   have xg:∀ k' o' x' y',aS (av.mk k' o' x' y' [kid]).kids=aV kid:=fun _ _ _ _=>yX;obtain ⟨sp,r1,r2,r3⟩:=Bf (j:=0) g rfl (hk kid hm).1 (hk kid hm).2 (M+1) p (toks++[sg o]) bK hp ah bF ah;have h0:=oper (sg o::bN f 9 o 1 0 p kid) (by rw [fJ];show jP 9 o x (bC f 9 o 1 0 p [kid])=_;rw [fH,bC];rfl) (some (toks++[sg o]++bN f 9 o 1 0 p kid,sp)) ⟨sp,aA,by rw [xg];omega,by show mX f _ bK sp (eP [kid]);rw [eP,eP,qd];exact (r3).cast aA⟩ (by
    show ((om o).bind fun bE=>(kg [bE] f toks bK).bind fun gq=>((dB<|M+1).gP ⟨9,o,x,y,[kid]⟩ 0 p f gq bK).bind fun sJ=>some (sJ.1,sJ.2))=_;rw [Ae,aB,wZ _ _ _ _ bF,aB,Ip];exact r1)
   have e2:jP 9 o x (bC f 9 o 1 0 p [kid])=sg o::bN f 9 o 1 0 p kid:=by
    rw [fH,bC];rfl
   show Wr _ _ (toks++jP 9 o x (bC f 9 o 1 0 p [kid])) _ _ _;rw [e2];exact h0
  ·
   have h1:=g.a1 aA;obtain ⟨kid,rfl⟩:=TW.1 h1;have hm:kid∈(av.mk 10 o x y [kid]).kids:=aA;have yX:aS [kid]=aV kid:=by rw [aS,aS];omega
   have xg:∀ k' o' x' y',aS (av.mk k' o' x' y' [kid]).kids=aV kid:=fun _ _ _ _=>yX;have hkt:=FJ f 10 o 1 0 p kid;obtain ⟨sp,r1,r2,r3⟩:=Bf (j:=0) g rfl (hk kid hm).1 (hk kid hm).2 (M+1) p toks bK hp ah ah ah;have r1':(dB<|M+1).gP ⟨10,o,x,y,[kid]⟩ 0 p f toks bK=some (toks++bN f 10 o 1 0 p kid,sp):=r1;have h0:=oper (bN f 10 o 1 0 p kid++[sg o]) (by rw [fJ];show jP 10 o x (bC f 10 o 1 0 p [kid])=_;rw [fH,bC];rfl) (some (toks++bN f 10 o 1 0 p kid++[sg o],sp)) ⟨sp,aA,by rw [xg];omega,by show mX f _ bK sp (eP [kid]);rw [eP,eP,qd];exact (r3.app [sg o]).cast aA⟩ (by
    show (((dB<|M+1).gP ⟨10,o,x,y,[kid]⟩ 0 p f toks bK).bind fun fG=>(om o).bind fun iC=>(kg [iC] f fG.1 fG.2).bind fun cZ=>some (cZ,fG.2))=_;rw [r1',aB,Ae,aB];simp only [];rw [wZ _ _ _ _ bF,aB])
   have e2:jP 10 o x (bC f 10 o 1 0 p [kid])=bN f 10 o 1 0 p kid++[sg o]:=by
    rw [fH,bC];rfl
   show Wr _ _ (toks++jP 10 o x (bC f 10 o 1 0 p [kid])) _ _ _;rw [e2];exact h0
  ·
   have h1:=g.a1 aA;obtain ⟨kid,rfl⟩:=TW.1 h1;have hm:kid∈(av.mk 11 o x y [kid]).kids:=aA;have yX:aS [kid]=aV kid:=by rw [aS,aS];omega
   have xg:∀ k' o' x' y',aS (av.mk k' o' x' y' [kid]).kids=aV kid:=fun _ _ _ _=>yX;obtain ⟨sp,r1,r2,r3⟩:=Bf (j:=0) g rfl (hk kid hm).1 (hk kid hm).2 (M+1) p (toks++[sg o]) bK hp ah bF ah;have h0:=oper (sg o::bN f 11 o 1 0 p kid) (by rw [fJ];show jP 11 o x (bC f 11 o 1 0 p [kid])=_;rw [fH,bC];rfl) (some (toks++[sg o]++bN f 11 o 1 0 p kid,sp)) ⟨sp,aA,by rw [xg];omega,by show mX f _ bK sp (eP [kid]);rw [eP,eP,qd];exact (r3).cast aA⟩ (by
    show ((om o).bind fun bE=>(kg [bE] f toks bK).bind fun gq=>((dB<|M+1).gP ⟨11,o,x,y,[kid]⟩ 0 p f gq bK).bind fun sJ=>some (sJ.1,sJ.2))=_;rw [Ae,aB,wZ _ _ _ _ bF,aB,Ip];exact r1)
   have e2:jP 11 o x (bC f 11 o 1 0 p [kid])=sg o::bN f 11 o 1 0 p kid:=by
    rw [fH,bC];rfl
   show Wr _ _ (toks++jP 11 o x (bC f 11 o 1 0 p [kid])) _ _ _;rw [e2];exact h0
  ·
   have h1:=g.a2 aA;obtain ⟨kx,ky,rfl⟩:=SC h1;have hmx:kx∈(av.mk 12 o x y [kx,ky]).kids:=aA;have KY:ky∈(av.mk 12 o x y [kx,ky]).kids:=aA;have yX:aS [kx,ky]=aV kx+aV ky:=by rw [aS,aS,aS];omega
   have xg:∀ k' o' x' y',aS (av.mk k' o' x' y' [kx,ky]).kids=aV kx+aV ky:=fun _ _ _ _=>yX;have hkt:=FJ f 12 o 2 0 p kx;have amv:=FJ f 12 o 2 1 p ky;have hpx:=uK kx;have hpy:=uK ky;obtain ⟨sp,r1,r2,r3⟩:=Bf (j:=0) g rfl (hk kx hmx).1 (hk kx hmx).2 (M+1) p toks bK hp ah ah ah;have r1':(dB<|M+1).gP ⟨12,o,x,y,[kx,ky]⟩ 0 p f toks bK=some (toks++bN f 12 o 2 0 p kx,sp):=r1;have e2:jP 12 o x (bC f 12 o 2 0 p [kx,ky])=bN f 12 o 2 0 p kx++((bif o==99 then [] else [sg o])++bN f 12 o 2 1 p ky):=by
    rw [fH,fH,bC];rfl
   show Wr _ _ (toks++jP 12 o x (bC f 12 o 2 0 p [kx,ky])) _ _ _;rw [e2];have second:∀ (r0 pW:List aG),pW=toks++bN f 12 o 2 0 p kx++r0->pW.length<=toks.length+(bN f 12 o 2 0 p kx).length+1->∃ sq,zR (M+1) (dB<|M+1) f (⟨12,o,x,y,[kx,ky]⟩,p,(toks++bN f 12 o 2 0 p kx,sp),pW)=some (pW++bN f 12 o 2 1 p ky,sq)/\sq.length<=bK.length+aS [kx,ky]/\mX f (pW++bN f 12 o 2 1 p ky) bK sq (mW kx++mW ky):=fun r0 pW ht' hl'=>by
    obtain ⟨sq,q1,q2,q3⟩:=Bf (j:=1) g rfl (hk ky KY).1 (hk ky KY).2 (M+1) p pW sp hp ah ah ah;refine ⟨sq,?_,ah,(((r3.app r0).app<|bN f 12 o 2 1 p ky).cast<|by subst ht';rfl).trans q3⟩;show (((dB<|M+1).gP ⟨12,o,x,y,[kx,ky]⟩ 1 p f pW sp).bind fun pQ=>some (pQ.1,pQ.2))=_;rw [Ip];exact q1
   cases ho:o==99 with
   | true=>
    obtain ⟨sq,q1,q2,q3⟩:=second [] (toks++bN f 12 o 2 0 p kx) (qd _).symm (by simp only [jq,kF,yt];omega);have h0:=oper (bN f 12 o 2 0 p kx++bN f 12 o 2 1 p ky) (by rw [fJ];show jP 12 o x (bC f 12 o 2 0 p [kx,ky])=_;rw [e2,ho];rfl) (some (toks++bN f 12 o 2 0 p kx++bN f 12 o 2 1 p ky,sq)) ⟨sq,aA,by rw [xg];omega,by show mX f _ bK sq (eP [kx,ky]);rw [eP,eP,eP,qd];exact q3.cast aA⟩ (by
     show (((dB<|M+1).gP ⟨12,o,x,y,[kx,ky]⟩ 0 p f toks bK).bind fun cB=>bif (o !=99) then (om o).bind fun iM=>(kg [iM] f cB.1 cB.2).bind fun kL=>zR (M+1) (dB<|M+1) f (⟨12,o,x,y,[kx,ky]⟩,p,cB,kL) else (zR (M+1) (dB<|M+1) f (⟨12,o,x,y,[kx,ky]⟩,p,cB,cB.1)))=_;rw [r1',aB];simp only [bne,ho,mI,aI];exact q1)
    exact h0
   | false=>
    obtain ⟨sq,q1,q2,q3⟩:=second [sg o] (toks++bN f 12 o 2 0 p kx++[sg o]) rfl (by simp only [jq,kF,yt];omega);have h0:=oper (bN f 12 o 2 0 p kx++([sg o]++bN f 12 o 2 1 p ky)) (by rw [fJ];show jP 12 o x (bC f 12 o 2 0 p [kx,ky])=_;rw [e2,ho];rfl) (some (toks++bN f 12 o 2 0 p kx++[sg o]++bN f 12 o 2 1 p ky,sq)) ⟨sq,aA,by rw [xg];omega,by show mX f _ bK sq (eP [kx,ky]);rw [eP,eP,eP,qd];exact q3.cast aA⟩ (by
     show (((dB<|M+1).gP ⟨12,o,x,y,[kx,ky]⟩ 0 p f toks bK).bind fun cB=>bif (o !=99) then (om o).bind fun iM=>(kg [iM] f cB.1 cB.2).bind fun kL=>zR (M+1) (dB<|M+1) f (⟨12,o,x,y,[kx,ky]⟩,p,cB,kL) else (zR (M+1) (dB<|M+1) f (⟨12,o,x,y,[kx,ky]⟩,p,cB,cB.1)))=_;rw [r1',aB];simp only [bne,ho,lF,aM,Ae,aB];rw [wZ _ _ _ _ bF,aB];exact q1)
    exact h0
  ·
   have h1:=g.ai aA;simp only at h1;cases hn:decide (ks.length > 1) with
   | true=>
    have hn2:1 < ks.length:=by simpa using hn
    obtain ⟨sp,r1,r2,r3⟩:=amu g hk M p 32 33 hp (by show 1003+8*aS ks<=M;omega) toks bK (by show toks.length+8*aS ks+5<=900000;omega) (by show bK.length+aS ks<=900000;omega);have r1':(dB<|M+1).xM ⟨13,o,x,y,ks⟩ 32 33 p f toks bK=some (toks++(sg 32::(dV false (bC f 13 o ks.length 0 p ks)++[sg 33])),sp):=r1;have hc:=agh (bC f 13 o ks.length 0 p ks) false;have hs3:=agi f 13 o ks.length p ks 0;have hl3:=Xk f 13 o ks.length p ks 0;have h0:=oper (sg 32::(dV false (bC f 13 o ks.length 0 p ks)++[sg 33])++[sg 24,⟨6,x,0⟩]) (by rw [fJ];show jP 13 o x (bC f 13 o ks.length 0 p ks)=_;show (bif decide ((bC f 13 o ks.length 0 p ks).length > 1) then _ else _)++_=_;rw [hl3,hn,aM]) (some (toks++(sg 32::(dV false (bC f 13 o ks.length 0 p ks)++[sg 33]))++[sg 24,⟨6,x,0⟩],sp)) ⟨sp,aA,r2,(r3.app [sg 24,⟨6,x,0⟩]).cast aA⟩ (by
     show (bif (decide<|(ks.length:Int) > 1) then ((dB<|M+1).xM ⟨13,o,x,y,ks⟩ 32 33 p f toks bK).bind fun yJ=>Hf (M+1) (dB<|M+1) f (⟨13,o,x,y,ks⟩,yJ.1,yJ.2) else (((dB<|M+1).gP ⟨13,o,x,y,ks⟩ 0 p f toks bK).bind fun fZ=>Hf (M+1) (dB<|M+1) f (⟨13,o,x,y,ks⟩,fZ.1,fZ.2)))=_;rw [mH ah,aM,r1',aB];unfold Hf;simp only [Ae,aB];rw [wZ _ _ _ _ bF,aB])
    have e2:jP 13 o x (bC f 13 o ks.length 0 p ks)=sg 32::(dV false (bC f 13 o ks.length 0 p ks)++[sg 33])++[sg 24,⟨6,x,0⟩]:=by
     show (bif decide ((bC f 13 o ks.length 0 p ks).length > 1) then _ else _)++_=_;rw [hl3,hn,aM]
    show Wr _ _ (toks++jP 13 o x (bC f 13 o ks.length 0 p ks)) _ _ _;rw [e2];exact h0
   | false=>
    have hn2: ¬1 < ks.length:=by simpa using hn
    obtain ⟨kid,rfl⟩:=TW.1 (by omega:ks.length=1);have hm:kid∈(av.mk 13 o x y [kid]).kids:=aA;have yX:aS [kid]=aV kid:=by rw [aS,aS];omega
    have xg:∀ k' o' x' y',aS (av.mk k' o' x' y' [kid]).kids=aV kid:=fun _ _ _ _=>yX;have hkt:=FJ f 13 o 1 0 p kid;obtain ⟨sp,r1,r2,r3⟩:=Bf (j:=0) g rfl (hk kid hm).1 (hk kid hm).2 (M+1) p toks bK hp ah ah ah;have r1':(dB<|M+1).gP ⟨13,o,x,y,[kid]⟩ 0 p f toks bK=some (toks++bN f 13 o 1 0 p kid,sp):=r1;have h0:=oper (bN f 13 o 1 0 p kid++[sg 24,⟨6,x,0⟩]) (by rw [fJ];show jP 13 o x (bC f 13 o 1 0 p [kid])=_;rw [fH,bC];rfl) (some (toks++bN f 13 o 1 0 p kid++[sg 24,⟨6,x,0⟩],sp)) ⟨sp,aA,by rw [xg];omega,by show mX f _ bK sp (eP [kid]);rw [eP,eP,qd];exact (r3.app [sg 24,⟨6,x,0⟩]).cast aA⟩ (by
     show (((dB<|M+1).gP ⟨13,o,x,y,[kid]⟩ 0 p f toks bK).bind fun fZ=>Hf (M+1) (dB<|M+1) f (⟨13,o,x,y,[kid]⟩,fZ.1,fZ.2))=_;rw [r1',aB];unfold Hf;simp only [Ae,aB];rw [wZ _ _ _ _ bF,aB])
    have e2:jP 13 o x (bC f 13 o 1 0 p [kid])=bN f 13 o 1 0 p kid++[sg 24,⟨6,x,0⟩]:=by
     rw [fH,bC];rfl
    show Wr _ _ (toks++jP 13 o x (bC f 13 o 1 0 p [kid])) _ _ _;rw [e2];exact h0
  ·
   have h1:=g.a3 rfl;obtain ⟨kx,ky,kz,rfl⟩:=afT h1;have hmx:kx∈(av.mk 14 o x y [kx,ky,kz]).kids:=aA;have KY:ky∈(av.mk 14 o x y [kx,ky,kz]).kids:=aA;have hmz:kz∈(av.mk 14 o x y [kx,ky,kz]).kids:=aA;have yX:aS [kx,ky,kz]=aV kx+aV ky+aV kz:=by rw [aS,aS,aS,aS];omega
   have xg:∀ k' o' x' y',aS (av.mk k' o' x' y' [kx,ky,kz]).kids=aV kx+aV ky+aV kz:=fun _ _ _ _=>yX;have hkt:=FJ f 14 o 3 0 p kx;have amv:=FJ f 14 o 3 1 p ky;have aGR:=FJ f 14 o 3 2 p kz;have hpx:=uK kx;have hpy:=uK ky;have hpz:=uK kz;obtain ⟨sp,r1,r2,r3⟩:=Bf (j:=0) g rfl (hk kx hmx).1 (hk kx hmx).2 (M+1) p toks bK hp ah ah ah;obtain ⟨sq,q1,q2,q3⟩:=Bf (j:=1) g rfl (hk ky KY).1 (hk ky KY).2 (M+1) p (toks++bN f 14 o 3 0 p kx++[sg 65]) sp hp ah bF ah;obtain ⟨sr,o1,o2,o3⟩:=Bf (j:=2) g rfl (hk kz hmz).1 (hk kz hmz).2 (M+1) p (toks++bN f 14 o 3 0 p kx++[sg 65]++bN f 14 o 3 1 p ky++[sg 66]) sq hp ah bF ah;have r1':(dB<|M+1).gP ⟨14,o,x,y,[kx,ky,kz]⟩ 0 p f toks bK=some (toks++bN f 14 o 3 0 p kx,sp):=r1;have q1':(dB<|M+1).gP ⟨14,o,x,y,[kx,ky,kz]⟩ 1 p f (toks++bN f 14 o 3 0 p kx++[sg 65]) sp=some (toks++bN f 14 o 3 0 p kx++[sg 65]++bN f 14 o 3 1 p ky,sq):=q1;have o1':(dB<|M+1).gP ⟨14,o,x,y,[kx,ky,kz]⟩ 2 p f (toks++bN f 14 o 3 0 p kx++[sg 65]++bN f 14 o 3 1 p ky++[sg 66]) sq=some (toks++bN f 14 o 3 0 p kx++[sg 65]++bN f 14 o 3 1 p ky++[sg 66]++bN f 14 o 3 2 p kz,sr):=o1;have h0:=oper (bN f 14 o 3 0 p kx++(sg 65::(bN f 14 o 3 1 p ky++(sg 66::bN f 14 o 3 2 p kz)))) (by rw [fJ];show jP 14 o x (bC f 14 o 3 0 p [kx,ky,kz])=_;rw [fH,fH,fH,bC];rfl) (some (toks++bN f 14 o 3 0 p kx++[sg 65]++bN f 14 o 3 1 p ky++[sg 66]++bN f 14 o 3 2 p kz,sr)) ⟨sr,aA,by rw [xg];omega,by show mX f (toks++(bN f 14 o 3 0 p kx++(sg 65::(bN f 14 o 3 1 p ky++(sg 66::bN f 14 o 3 2 p kz))))) bK sr (eP [kx,ky,kz]);rw [eP,eP,eP,eP,qd,<- nU (mW kx)];exact ((((((r3.app [sg 65]).app<|bN f 14 o 3 1 p ky).trans q3).app [sg 66]).app<|bN f 14 o 3 2 p kz).trans o3).cast aA⟩ (by
    show (((dB<|M+1).gP ⟨14,o,x,y,[kx,ky,kz]⟩ 0 p f toks bK).bind fun dh=>(om 65).bind fun iN=>(kg [iN] f dh.1 dh.2).bind fun Hg=>((dB<|M+1).gP ⟨14,o,x,y,[kx,ky,kz]⟩ 1 p f Hg dh.2).bind fun qj=>(om 66).bind fun oo=>(kg [oo] f qj.1 qj.2).bind fun Ka=>((dB<|M+1).gP ⟨14,o,x,y,[kx,ky,kz]⟩ 2 p f Ka qj.2).bind fun wP=>some (wP.1,wP.2))=_;rw [r1',aB,Ae,aB];simp only [];rw [wZ _ _ _ _ bF,aB,q1',aB,Ae,aB];simp only [];rw [wZ _ _ _ _ bF,aB,o1',aB])
   have e2:jP 14 o x (bC f 14 o 3 0 p [kx,ky,kz])=bN f 14 o 3 0 p kx++(sg 65::(bN f 14 o 3 1 p ky++(sg 66::bN f 14 o 3 2 p kz))):=by
    rw [fH,fH,fH,bC];rfl
   show Wr _ _ (toks++jP 14 o x (bC f 14 o 3 0 p [kx,ky,kz])) _ _ _;rw [e2];exact h0
  ·
   have h1:=g.a2 aA;obtain ⟨kx,ky,rfl⟩:=SC h1;have hmx:kx∈(av.mk 15 o x y [kx,ky]).kids:=aA;have KY:ky∈(av.mk 15 o x y [kx,ky]).kids:=aA;have yX:aS [kx,ky]=aV kx+aV ky:=by rw [aS,aS,aS];omega
   have xg:∀ k' o' x' y',aS (av.mk k' o' x' y' [kx,ky]).kids=aV kx+aV ky:=fun _ _ _ _=>yX;have hkt:=FJ f 15 o 2 0 p kx;have amv:=FJ f 15 o 2 1 p ky;have hpx:=uK kx;have hpy:=uK ky;obtain ⟨sp,r1,r2,r3⟩:=Bf (j:=0) g rfl (hk kx hmx).1 (hk kx hmx).2 (M+1) p toks bK hp ah ah ah;have r1':(dB<|M+1).gP ⟨15,o,x,y,[kx,ky]⟩ 0 p f toks bK=some (toks++bN f 15 o 2 0 p kx,sp):=r1;have e2:jP 15 o x (bC f 15 o 2 0 p [kx,ky])=bN f 15 o 2 0 p kx++((bif o==99 then [] else [sg o])++bN f 15 o 2 1 p ky):=by
    rw [fH,fH,bC];rfl
   show Wr _ _ (toks++jP 15 o x (bC f 15 o 2 0 p [kx,ky])) _ _ _;rw [e2];have second:∀ (r0 pW:List aG),pW=toks++bN f 15 o 2 0 p kx++r0->pW.length<=toks.length+(bN f 15 o 2 0 p kx).length+1->∃ sq,zR (M+1) (dB<|M+1) f (⟨15,o,x,y,[kx,ky]⟩,p,(toks++bN f 15 o 2 0 p kx,sp),pW)=some (pW++bN f 15 o 2 1 p ky,sq)/\sq.length<=bK.length+aS [kx,ky]/\mX f (pW++bN f 15 o 2 1 p ky) bK sq (mW kx++mW ky):=fun r0 pW ht' hl'=>by
    obtain ⟨sq,q1,q2,q3⟩:=Bf (j:=1) g rfl (hk ky KY).1 (hk ky KY).2 (M+1) p pW sp hp ah ah ah;refine ⟨sq,?_,ah,(((r3.app r0).app<|bN f 15 o 2 1 p ky).cast<|by subst ht';rfl).trans q3⟩;show (((dB<|M+1).gP ⟨15,o,x,y,[kx,ky]⟩ 1 p f pW sp).bind fun pQ=>some (pQ.1,pQ.2))=_;rw [Ip];exact q1
   cases ho:o==99 with
   | true=>
    obtain ⟨sq,q1,q2,q3⟩:=second [] (toks++bN f 15 o 2 0 p kx) (qd _).symm (by simp only [jq,kF,yt];omega);have h0:=oper (bN f 15 o 2 0 p kx++bN f 15 o 2 1 p ky) (by rw [fJ];show jP 15 o x (bC f 15 o 2 0 p [kx,ky])=_;rw [e2,ho];rfl) (some (toks++bN f 15 o 2 0 p kx++bN f 15 o 2 1 p ky,sq)) ⟨sq,aA,by rw [xg];omega,by show mX f _ bK sq (eP [kx,ky]);rw [eP,eP,eP,qd];exact q3.cast aA⟩ (by
     show (((dB<|M+1).gP ⟨15,o,x,y,[kx,ky]⟩ 0 p f toks bK).bind fun cB=>bif (o !=99) then (om o).bind fun iM=>(kg [iM] f cB.1 cB.2).bind fun kL=>zR (M+1) (dB<|M+1) f (⟨15,o,x,y,[kx,ky]⟩,p,cB,kL) else (zR (M+1) (dB<|M+1) f (⟨15,o,x,y,[kx,ky]⟩,p,cB,cB.1)))=_;rw [r1',aB];simp only [bne,ho,mI,aI];exact q1)
    exact h0
   | false=>
    obtain ⟨sq,q1,q2,q3⟩:=second [sg o] (toks++bN f 15 o 2 0 p kx++[sg o]) rfl (by simp only [jq,kF,yt];omega);have h0:=oper (bN f 15 o 2 0 p kx++([sg o]++bN f 15 o 2 1 p ky)) (by rw [fJ];show jP 15 o x (bC f 15 o 2 0 p [kx,ky])=_;rw [e2,ho];rfl) (some (toks++bN f 15 o 2 0 p kx++[sg o]++bN f 15 o 2 1 p ky,sq)) ⟨sq,aA,by rw [xg];omega,by show mX f _ bK sq (eP [kx,ky]);rw [eP,eP,eP,qd];exact q3.cast aA⟩ (by
     show (((dB<|M+1).gP ⟨15,o,x,y,[kx,ky]⟩ 0 p f toks bK).bind fun cB=>bif (o !=99) then (om o).bind fun iM=>(kg [iM] f cB.1 cB.2).bind fun kL=>zR (M+1) (dB<|M+1) f (⟨15,o,x,y,[kx,ky]⟩,p,cB,kL) else (zR (M+1) (dB<|M+1) f (⟨15,o,x,y,[kx,ky]⟩,p,cB,cB.1)))=_;rw [r1',aB];simp only [bne,ho,lF,aM,Ae,aB];rw [wZ _ _ _ _ bF,aB];exact q1)
    exact h0
structure ExR (N:Nat) (L:List aC) (t:av):Prop where
 eq:L=bU 0 t
 ta:TA L t 0 (L.length - 1)
 sz:aV t<=400
 dep:eB t<=40
 tx:TS t
 g:allT GN t
 c:allT (fun u=>CN u/\TN N u) t
 sh:vG L=true
 ok:yh N L=some true
def awn (N:Nat) (L:List aC) (hN:1048577 < N) (hs:∀ x,x∈L->yB x) (hsh:vG L=true) {t:av} (hT:TA L t 0 (L.length - 1)) (h:yh N L=some true):eB t<=40:=by
 unfold yh at h;obtain ⟨y,h1,h⟩:=qc.1 h;cases y with
 | true=>cases h
 | false=>
  rw [amw N L hN hs hsh hT] at h1;obtain ⟨r,_,h1⟩:=qc.1 h1;cases r with
  | false=>cases h1
  | true=>
   simp only [mI,aI,aB] at h1;have:=PX (lD h1);omega
def ais (N:Nat) (L:List aC) (hN:1048777 < N) (hS:∀ x,x∈L->yB x) (hok:yh N L=some true) (hsh:vG L=true) (hE:∀ t,TA L t 0 (L.length - 1)->jd t.kind=true):∃ t,ExR N L t:=by
 obtain ⟨l1,l2,_,_,_,_,_,t,ht⟩:=Ji hsh;have hp:=ht.part;have hg:=avU N L ah hsh hok t 0 _ ht (hE t ht);refine ⟨t,?_,ht,ah,awn N L ah hS hsh ht hok,awo hS ht,hg,awe N L ah hsh hok ht hg,hsh,hok⟩;have e:L.length - 1+1=L.length:=ah;rw [e] at hp;rw [<- hp.2.2,amx]
def SmS (L:List aC):Prop:=∀ x,x∈L->x.Kids.length<=20000/\x.Text.length<=20/\x.Other.length<=20
def YA {L:List aC} (h:SmS L):∀ x,x∈L->yB x:=fun x hx=>by
 obtain ⟨h1,h2,h3⟩:=h x hx;exact ⟨ah,ah,ah⟩
def awp (N:Nat) (a b:List Int) (hl:a.length=b.length) (hm:a.length<=1048576):∀ (n i:Nat),a.length - i < n->i<=a.length->FB N n (a,b,(i:Int))=some (decide<|a.drop i=b.drop i):=by
 intro n;induction n with
 | zero=>intro i h;omega
 | succ n ih=>
  intro i hn hi;rw [FB];by_cases h:i < a.length
  .have h':i < b.length:=ah;simp only [iT h,aM,dx h,dx h',aB];rw [drop_cons h,drop_cons h'];by_cases he:a[i]=b[i]
   .have hb:(a[i] !=b[i])=false:=by simpa using he
    rw [hb,aI,MB h (by simp only [maxLen];omega),ih (i+1) ah ah];simp only [List.cons.injEq,he,true_and]
   .have hb:(a[i] !=b[i])=true:=by simpa using he
    rw [hb,aM];simp only [List.cons.injEq,he,false_and,Gt]
  .have h': ¬i < b.length:=ah;simp only [jZ h,aI];rw [drop_nil h,drop_nil h'];simp
def awq (N:Nat) (a b:List Int) (hm:a.length<=1048576) (hN:1048577 < N):KO N a b=some (decide<|a=b):=by
 unfold KO;by_cases hl:a.length=b.length
 .have e:((a.length:Int) !=(b.length:Int))=false:=by simp [hl]
  rw [e,aI];exact awp N a b hl hm N 0 ah ah
 .have e:((a.length:Int) !=(b.length:Int))=true:=bF;rw [e,aM];have:a≠b:=fun h=>hl (by rw [h]);simp [this]
def awr (N:Nat) (a b:List aC) (hN:1048577 < N) (hl:a.length=b.length) (hm:a.length<=1048576) (hk:∀ x,x∈a->x.Kids.length<=1048576):∀ (n i:Nat),a.length - i < n->i<=a.length->FC N n (a,b,(i:Int))=some (decide<|a.drop i=b.drop i):=by
 intro n;induction n with
 | zero=>intro i h;omega
 | succ n ih=>
  intro i hn hi;rw [FC];by_cases h:i < a.length
  .have h':i < b.length:=ah;have hki:=hk _ (nW h);simp only [iT h,aM,dx h,dx h',aB];rw [drop_cons h,drop_cons h',MB h (by simp only [maxLen];omega),ih (i+1) ah ah];generalize a[i]=x at hki;generalize b[i]=y;obtain ⟨k,o,t,p,ks⟩:=x;obtain ⟨k',o',t',p',ks'⟩:=y;simp only at hki;simp only [awq N ks ks' hki hN,aB];by_cases e1:k=k'
   .subst e1;by_cases e2:o=o'
    .subst e2;by_cases e3:t=t'
     .subst e3;by_cases e4:p=p'
      .subst e4;by_cases e5:ks=ks'
       .subst e5;simp only [bne_self_eq_false,Qe,mI,aI,Aq,aB,List.cons.injEq,true_and]
       .simp only [bne_self_eq_false,Qe,mI,lF,aM,aI,e5,Gt,aB,List.cons.injEq,aC.mk.injEq,true_and,false_and]
      .have b4:(p==p')=false:=by simpa using e4
       simp only [bne_self_eq_false,Qe,mI,lF,b4,aM,aI,e4,Gt,aB,List.cons.injEq,aC.mk.injEq,true_and,false_and]
     .have b3:(t==t')=false:=by simpa using e3
      simp only [bne_self_eq_false,lF,b3,aM,aI,e3,Gt,aB,List.cons.injEq,aC.mk.injEq,true_and,false_and]
    .have b2:(o !=o')=true:=by simpa using e2
     simp only [bne_self_eq_false,b2,aM,aI,e2,Gt,aB,List.cons.injEq,aC.mk.injEq,true_and,false_and]
   .have b1:(k !=k')=true:=by simpa using e1
    simp only [b1,aM,e1,Gt,aB,List.cons.injEq,aC.mk.injEq,false_and]
  .have h': ¬i < b.length:=ah;simp only [jZ h,aI];rw [drop_nil h,drop_nil h'];simp
def PV (N:Nat) (a b:List aC) (hN:1048577 < N) (hm:a.length<=1048576) (hk:∀ x,x∈a->x.Kids.length<=1048576):KP N a b=some (decide<|a=b):=by
 unfold KP;by_cases hl:a.length=b.length
 .have e:((a.length:Int) !=(b.length:Int))=false:=by simp [hl]
  rw [e,aI];exact awr N a b hN hl hm hk N 0 ah ah
 .have e:((a.length:Int) !=(b.length:Int))=true:=bF;rw [e,aM];have:a≠b:=fun h=>hl (by rw [h]);simp [this]
def Dr {α:Type} (b:List UInt8) (P:α->Prop) (x:Option (α×Int×Int)):Prop:=∃ a i h,x=some (a,i,h)/\P a/\0<=i/\i<=(b.length:Int)
def Dr.bind {α β:Type} {b:List UInt8} {P:α->Prop} {Q:β->Prop} {x:Option (α×Int×Int)} {f:α×Int×Int->Option (β×Int×Int)} (hx:Dr b P x) (hf:∀ a i h,P a->0<=i->i<=(b.length:Int)->Dr b Q (f (a,i,h))):Dr b Q (Option.bind x f):=by
 obtain ⟨a,i,h,rfl,h1,h2,h3⟩:=hx;exact hf a i h h1 h2 h3
def Dr.some {α:Type} {b:List UInt8} {P:α->Prop} {a:α} {i h:Int} (ha:P a) (h0:0<=i) (h1:i<=(b.length:Int)):Dr b P (some (a,i,h)):=⟨a,i,h,rfl,ha,h0,h1⟩
def Dr.imp {α:Type} {b:List UInt8} {P Q:α->Prop} {x:Option (α×Int×Int)} (hx:Dr b P x) (h:∀ a,P a->Q a):Dr b Q x:=by
 obtain ⟨a,i,k,rfl,h1,h2,h3⟩:=hx;exact ⟨a,i,k,rfl,h a h1,h2,h3⟩
def Dr.cond {α:Type} {b:List UInt8} {P:α->Prop} {c:Bool} {x y:Option (α×Int×Int)} (hx:c=true->Dr b P x) (hy:c=false->Dr b P y):Dr b P (bif c then x else y):=by
 cases c
 .exact hy rfl
 .exact hx rfl
def Dr.cat {α:Type} {b:List UInt8} {P:α->Prop} {u v:List UInt8} {f:List UInt8->Option (α×Int×Int)} (h:u.length+v.length<=140737488355328) (hf:(u++v).length=u.length+v.length->Dr b P (f<|u++v)):Dr b P (Option.bind (cat u v) f):=by
 rw [asT<|by simp only [maxLen];omega];exact hf jq
def SK {α:Type} {b:List UInt8} {P:α->Prop} {x:Option (α×Int×Int)} (hx:Dr b P x):Dr b P (Option.bind x fun r=>Option.some (r.1,r.2.1,r.2.2)):=Dr.bind hx fun _ _ _ ha h0 h1=>Dr.some ha h0 h1
def abu (x:Int):0<=bits .and .i64 x 255/\bits .and .i64 x 255<=255:=by
 have e:bits .and .i64 x 255=IntKind.wrap .i64 (((BitVec.ofInt 64 x&&& BitVec.ofInt 64 255).toNat:Nat):Int):=rfl;have h:(BitVec.ofInt 64 x&&& BitVec.ofInt 64 255).toNat<=255:=by
  rw [BitVec.toNat_and];exact Nat.and_le_right
 rw [e,wrap64 ah ah];omega
section
set_option linter.unusedSectionVars false
variable (b:List UInt8) (hb:b.length<=1048576)
include hb
theorem Xr (i h:Int) (h0:0<=i) (h1:i<=(b.length:Int)):Dr b (fun x=>0<=x/\x<=255) (Dq b i h):=by
 unfold Dq QT;refine Dr.cond (fun hc=>?_) fun hc=>?_
 .have hc:=nX hc;obtain ⟨n,rfl⟩:=qU h0;have hn:n < b.length:=ah;rw [dx hn,aB];exact Dr.some (abu _) (by rw [wrap64 ah ah];omega) (by rw [wrap64 ah ah];omega)
 .exact Dr.some (abu _) h0 h1
theorem amy {P:Int->Prop} {x n i h:Int} (hx:0<=x) (hn:0 < n) (h0:0<=i) (h1:i<=(b.length:Int)) (hP:∀ r,0<=r->r < n->P r):Dr b P ((JG x n).bind fun y=>some (y,i,h)):=by
 unfold JG;have:(n==0)=false:=bF;rw [this,aI,aB];exact Dr.some (hP _ (adi _ hx)<|ada _ hn) h0 h1
theorem Cr (n i h:Int) (h0:0<=i) (h1:i<=(b.length:Int)):Dr b (fun r=>0<=r/\(r < n\/n<=0/\r=0)) (jD n b i h):=by
 unfold jD;refine Dr.cond (fun hc=>?_) fun hc=>Dr.cond (fun hc2=>?_) fun hc2=>?_
 .have hc:=nX hc;exact Dr.some ⟨ah,.inr ⟨hc,rfl⟩⟩ h0 h1
 .have hc:=PX hc;exact Dr.bind (Xr b hb i h h0 h1) fun x i h hx h0 h1=>amy b hb hx.1 ah h0 h1 fun r g1 g2=>⟨g1,.inl g2⟩
 .have hc:=PX hc;refine Dr.bind (Xr b hb i h h0 h1) fun x i h hx h0 h1=>Dr.bind (Xr b hb i h h0 h1) fun y i h hy h0 h1=>Dr.bind (Xr b hb i h h0 h1) fun z i h hz h0 h1=>Dr.bind (Xr b hb i h h0 h1) fun w i h hw h0 h1=>?_;refine amy b hb ?_ ah h0 h1 fun r g1 g2=>⟨g1,.inl g2⟩
  dsimp only;rw [wrap64 (n:=x*16777216) ah ah,wrap64 (n:=y*65536) ah ah,wrap64 (n:=x*16777216+y*65536) ah ah,wrap64 (n:=z*256) ah ah,wrap64 (n:=x*16777216+y*65536+z*256) ah ah,wrap64 ah ah];omega
theorem awt {P:List UInt8->Prop} (l:List (List UInt8)) (i h:Int) (h0:0<=i) (h1:i<=(b.length:Int)) (hl:0 < l.length) (hP:∀ x,x∈l->P x):Dr b P (uW l b i h):=by
 unfold uW;refine Dr.bind (Cr b hb _ i h h0 h1) fun r i h hr h0 h1=>?_;obtain ⟨n,rfl⟩:=qU hr.1;have hn:n < l.length:=by rcases hr.2 with h|h<;>omega
 dsimp only;have e:ix l (n:Int)=some l[n]:=dx hn;rw [e,aB];exact Dr.some (hP _<|nW hn) h0 h1
theorem abv (n i h:Int) (h0:0<=i) (h1:i<=(b.length:Int)):Dr b (fun _=>True) (wL n b i h):=Dr.bind (Cr b hb _ i h h0 h1) fun _ _ _ _ h0 h1=>Dr.some trivial h0 h1
theorem agk {P:Int->Prop} (l:List Int) (i h:Int) (h0:0<=i) (h1:i<=(b.length:Int)) (hl:0 < l.length) (hP:∀ x,x∈l->P x):Dr b P (zM l b i h):=by
 unfold zM;refine Dr.bind (Cr b hb _ i h h0 h1) fun r i h hr h0 h1=>?_;obtain ⟨n,rfl⟩:=qU hr.1;have hn:n < l.length:=by rcases hr.2 with h|h<;>omega
 dsimp only;have e:ix l (n:Int)=some l[n]:=dx hn;rw [e,aB];exact Dr.some (hP _<|nW hn) h0 h1
theorem amA (m:Nat) (l:List (List UInt8)) (i h:Int) (h0:0<=i) (h1:i<=(b.length:Int)) (hl:0 < l.length) (hP:(l.all fun x=>decide<|x.length<=m)=true):Dr b (fun x=>x.length<=m) (uW l b i h):=
 awt b hb l i h h0 h1 hl fun x hx=>nX (ku.1 hP x hx)
def pw:Nat->Nat
 | 0=>1
 | n+1=>4*pw n
omit hb in
theorem agl:∀ n,1<=pw n
 | 0=>by rw [pw];omega
 | n+1=>by have:=agl n;rw [pw];omega
end
def lcA:Int:=6364136223846793005
def lcC:Int:=1442695040888963407
def lc (x:Int):Int:=x*lcA+lcC
def qx:Nat->Int->Int
 | 0,x=>x
 | n+1,x=>qx n (lc x)
def Xt:∀ (m n:Nat) (x:Int),qx (m+n) x=qx n (qx m x)
 | 0,n,x=>by rw [qV];rfl
 | m+1,n,x=>by
  rw [show m+1+n=(m+n)+1 by omega];show qx (m+n) (lc x)=qx n (qx m<|lc x);exact Xt m n (lc x)
def amB (k:Nat):∃ p q u v:Int,(∀ x,qx (2 ^ k) x=p*x+q)/\p=1+2 ^ (k+2)*u/\q=2 ^ k*(1+2*v):=by
 induction k with
 | zero=>
  refine ⟨lcA,lcC,1591034055961698251,721347520444481703,fun x=>?_,aJ,aJ⟩;show qx 1 x=_;show x*lcA+lcC=_;rw [Uh]
 | succ k ih=>
  obtain ⟨p,q,u,v,h1,h2,h3⟩:=ih;refine ⟨p*p,p*q+q,u+2 ^ (k+1)*u*u,v+2 ^ k*u*(1+2*v),fun x=>?_,?_,?_⟩
  .rw [show (2:Nat) ^ (k+1)=2 ^ k+2 ^ k by rw [Nat.pow_succ];omega,Xt,h1,h1,Int.mul_add,Int.mul_assoc,Int.add_assoc]
  .have e2:(2:Int) ^ (k+1+2)=2*2 ^ (k+2):=by rw [show k+1+2=(k+2)+1 by omega,Ju,Uh]
   have e3:(2:Int) ^ (k+2)=2*2 ^ (k+1):=by rw [Ju,Uh]
   rw [h2,e2];generalize (2:Int) ^ (k+2)=t at e3 ⊢;generalize (2:Int) ^ (k+1)=s at e3 ⊢;subst e3
   grind
  .have e1:(2:Int) ^ (k+1)=2*2 ^ k:=by rw [Ju,Uh]
   have e2:(2:Int) ^ (k+2)=4*2 ^ k:=by rw [Ju,Ju];omega
   rw [h2,h3,e1,e2];generalize (2:Int) ^ k=t
   grind
def awu (k:Nat) (x y:Int):∃ n d,qx n x=y+2 ^ k*d:=by
 induction k with
 | zero=>exact ⟨0,x - y,by show x=_;simp;omega⟩
 | succ k ih=>
  obtain ⟨n,d,h⟩:=ih;have e1:(2:Int) ^ (k+1)=2*2 ^ k:=by rw [Ju,Uh]
  by_cases hd:d % 2=0
  .refine ⟨n,d / 2,?_⟩;rw [h,e1,show d=2*(d / 2) by omega];rw [Int.mul_left_comm,<- Int.mul_assoc,show 2*(d / 2) / 2=d / 2 by omega]
  .obtain ⟨p,q,u,v,h1,h2,h3⟩:=amB k;refine ⟨n+2 ^ k,(1+d) / 2+v+2*u*(y+2 ^ k*d),?_⟩;have e2:(2:Int) ^ (k+2)=4*2 ^ k:=by rw [Ju,Ju];omega
   have hd2:d=2*((1+d) / 2) - 1:=ah;rw [Xt,h,h1,h2,h3,e1,e2];generalize (1+d) / 2=g at hd2 ⊢;subst hd2;generalize (2:Int) ^ k=t
   grind
def mY (h:Int):Int:=IntKind.wrap .i64 (IntKind.wrap .i64 (h*6364136223846793005)+1442695040888963407)
def jV:Nat->Int->Int
 | 0,h=>h
 | n+1,h=>jV n (mY h)
def abx:∀ (m n:Nat) (x:Int),jV (m+n) x=jV n (jV m x)
 | 0,n,x=>by rw [qV];rfl
 | m+1,n,x=>by
  rw [show m+1+n=(m+n)+1 by omega];show jV (m+n) (mY x)=jV n (jV m<|mY x);exact abx m n (mY x)
def awv (h:Int): -9223372036854775808<=mY h/\mY h<=9223372036854775807:=by
 unfold mY;rw [adg];omega
def amC (x:Int):∃ d,IntKind.wrap .i64 x=x+18446744073709551616*d:=by
 rw [adg];exact ⟨-((x+9223372036854775808) / 18446744073709551616),ah⟩
def aww (h:Int):∃ d,mY h=lc h+18446744073709551616*d:=by
 unfold mY lc;obtain ⟨d1,h1⟩:=amC (h*6364136223846793005);obtain ⟨d2,h2⟩:=amC (IntKind.wrap .i64 (h*6364136223846793005)+1442695040888963407);refine ⟨d1+d2,?_⟩;rw [h2,h1];show _=h*6364136223846793005+1442695040888963407+_;generalize h*6364136223846793005=z;omega
def agn:∀ (n:Nat) (x d:Int),∃ e,qx n (x+18446744073709551616*d)=qx n x+18446744073709551616*e
 | 0,x,d=>⟨d,rfl⟩
 | n+1,x,d=>by
  have e:lc (x+18446744073709551616*d)=lc x+18446744073709551616*(d*lcA):=by
   unfold lc
   grind
  show ∃ e,qx n (lc<|x+18446744073709551616*d)=qx n (lc x)+18446744073709551616*e;rw [e];exact agn n (lc x) _
def amD:∀ (n:Nat) (h:Int),∃ d,jV n h=qx n h+18446744073709551616*d
 | 0,h=>⟨0,by show h=h+_;omega⟩
 | n+1,h=>by
  obtain ⟨d,hd⟩:=amD n (mY h);obtain ⟨d2,h2⟩:=aww h;obtain ⟨e,he⟩:=agn n (lc h) d2;refine ⟨e+d,?_⟩;show jV n (mY h)=qx n (lc h)+_;rw [hd,h2,he];omega
def amE (M:Nat) (hM:M=2 ^ 64) (x:Int):∃ d,qx M x=x+18446744073709551616*d:=by
 obtain ⟨p,q,u,v,h1,h2,h3⟩:=amB 64;have e2:(2:Int) ^ (64+2)=73786976294838206464:=aJ;have e3:(2:Int) ^ 64=18446744073709551616:=aJ;rw [<- hM] at h1;rw [e2] at h2;rw [e3] at h3;refine ⟨4*u*x+(1+2*v),?_⟩;rw [h1,h2,h3]
 grind
def awx (M:Nat) (hM:M=2 ^ 64) (k:Nat) (x:Int):∃ d,qx (M*k) x=x+18446744073709551616*d:=by
 induction k with
 | zero=>exact ⟨0,by rw [YQ];show x=_;omega⟩
 | succ k ih=>
  obtain ⟨d,hd⟩:=ih;obtain ⟨d2,h2⟩:=amE M hM (x+18446744073709551616*d);refine ⟨d+d2,?_⟩;rw [Nat.mul_succ,Xt,hd,h2];omega
def awy (M:Nat) (hM:M=2 ^ 64) (hM0:0 < M) (h y:Int) (h1: -9223372036854775808<=y) (h2:y<=9223372036854775807):∃ n,1<=n/\n<=M/\jV n h=y:=by
 obtain ⟨n,d,hn⟩:=awu 64 h y;have e3:(2:Int) ^ 64=18446744073709551616:=aJ;rw [e3] at hn;have key:∀ m,(∃ d,qx m h=y+18446744073709551616*d)->1<=m->jV m h=y:=fun m ⟨d,hm⟩ h1m=>by
  obtain ⟨d2,hd2⟩:=amD m h;obtain ⟨m,rfl⟩:∃ k,m=k+1:=⟨m - 1,ah⟩
  have hr: -9223372036854775808<=jV (m+1) h/\jV (m+1) h<=9223372036854775807:=by
   rw [abx m 1 h];exact awv _
  rw [hm] at hd2;omega
 obtain ⟨d2,hq⟩:=awx M hM (n / M) h;have hsplit:qx n h=qx (n % M) (qx (M*(n / M)) h):=by
  rw [<- Xt,YL]
 obtain ⟨e,he⟩:=agn (n % M) h d2;rw [hsplit,hq,he] at hn;have hm:qx (n % M) h=y+18446744073709551616*(d - e):=ah;rcases Ua (n % M) with h0|h0
 .rw [h0] at hm;obtain ⟨d3,h3⟩:=amE M hM h;refine ⟨M,hM0,eD _,key _ ⟨d - e+d3,?_⟩ hM0⟩;rw [h3];have:h=y+18446744073709551616*(d - e):=hm;omega
 .exact ⟨n % M,h0,Au<|Qd _ hM0,key _ ⟨_,hm⟩ h0⟩
def awz (h y:Int) (h1: -9223372036854775808<=y) (h2:y<=9223372036854775807):∃ n,1<=n/\n<=2 ^ 64/\jV n h=y:=
 awy (2 ^ 64) rfl aJ h y h1 h2
inductive Pg (α:Type):Type
 | ret (a:α):Pg α
 | rd (k:Int->Pg α):Pg α
namespace Pg
def bind {α β:Type}:Pg α->(α->Pg β)->Pg β
 | ret a,f=>f a
 | rd k,f=>rd fun x=>(k x).bind f
def map {α β:Type} (g:α->β) (p:Pg α):Pg β:=p.bind fun a=>ret (g a)
inductive Post {α:Type} (P:α->Prop):Pg α->Prop
 | ret {a:α} (h:P a):Post P (.ret a)
 | rd {k:Int->Pg α} (h:∀ x,0<=x->x<=255->Post P (k x)):Post P (.rd k)
inductive Le {α:Type}:Pg α->Nat->Prop
 | ret {a:α} {n:Nat}:Le (.ret a) n
 | rd {k:Int->Pg α} {n:Nat} (h:∀ x,0<=x->x<=255->Le (k x) n):Le (.rd k) (n+1)
def One {α:Type}:Pg α->Prop
 | ret _=>False
 | rd _=>True
def Le.mono {α:Type} {p:Pg α} {n m:Nat} (h:Le p n) (hm:n<=m):Le p m:=by
 induction h generalizing m with
 | ret=>exact .ret
 | rd h ih=>
  obtain ⟨m,rfl⟩:∃ k,m=k+1:=⟨m - 1,ah⟩
  exact .rd fun x a b=>ih x a b ah
def Post.imp {α:Type} {P Q:α->Prop} {p:Pg α} (h:Post P p) (hi:∀ a,P a->Q a):Post Q p:=by
 induction h with
 | ret h=>exact .ret (hi _ h)
 | rd h ih=>exact .rd ih
def Post.bind {α β:Type} {P:α->Prop} {Q:β->Prop} {p:Pg α} {f:α->Pg β} (h:Post P p) (hf:∀ a,P a->Post Q (f a)):Post Q (p.bind f):=by
 induction h with
 | ret h=>exact hf _ h
 | rd h ih=>exact .rd ih
def eu.bind {α β:Type} {P:α->Prop} {p:Pg α} {f:α->Pg β} {n m k:Nat} (hp:Post P p) (h:Le p n) (hf:∀ a,P a->Le (f a) m) (hk:n+m<=k):Le (p.bind f) k:=by
 induction h generalizing k with
 | ret=>
  cases hp with
  | ret hp=>exact (hf _ hp).mono ah
 | rd h ih=>
  cases hp with
  | rd hp=>
   obtain ⟨k,rfl⟩:∃ j,k=j+1:=⟨k - 1,ah⟩
   exact .rd fun x a b=>ih x a b (hp x a b) ah
def One.bind {α β:Type} {p:Pg α} {f:α->Pg β} (h:One p):One (p.bind f):=by
 cases p with
 | ret=>cases h
 | rd=>trivial
def gen (h:Int):Int:=bits .and .i64 (bits .xor .i64 (Int.fdiv (mY h)<|2 ^ (min 33 64))<|Int.fdiv (mY h)<|2 ^ (min 45 64)) 255
def cb (b:List UInt8) (i:Nat) (h:Int):Int:=match b[i]? with
 | some e=>bits .and .i64 (IntKind.wrap .i64<|gen h+IntKind.wrap .i64 (e.toNat:Int)) 255
 | none=>gen h
def nx (b:List UInt8) (i:Nat):Nat:=if i < b.length then i+1 else i
def run {α:Type} (b:List UInt8):Pg α->Nat->Int->α×Nat×Int
 | ret a,i,h=>(a,i,h)
 | rd k,i,h=>run b (k<|cb b i h) (nx b i) (mY h)
def Ct {α:Type}:Pg α->Int->α×Int
 | ret a,h=>(a,h)
 | rd k,h=>Ct (k<|gen h) (mY h)
def run_bind {α β:Type} (b:List UInt8):∀ (p:Pg α) (f:α->Pg β) (i:Nat) (h:Int),run b (p.bind f) i h=run b (f (run b p i h).1) (run b p i h).2.1 (run b p i h).2.2
 | ret _,_,_,_=>rfl
 | rd k,f,i,h=>run_bind b (k<|cb b i h) f (nx b i) (mY h)
def awC {b:List UInt8} {i:Nat} (h:i<=b.length):nx b i<=b.length:=by unfold nx;split<;>omega
def FN {α:Type} (b:List UInt8):∀ (p:Pg α) (i:Nat) (h:Int),i<=b.length->(run b p i h).2.1<=b.length
 | ret _,_,_,hi=>hi
 | rd k,i,h,hi=>FN b (k<|cb b i h) (nx b i) (mY h) (awC hi)
def awD (b:List UInt8):nx b b.length=b.length:=by unfold nx;split<;>omega
def run_end {α:Type} (b:List UInt8):∀ (p:Pg α) (h:Int),run b p b.length h=((Ct p h).1,b.length,(Ct p h).2)
 | ret _,_=>rfl
 | rd k,h=>by
  have e:cb b b.length h=gen h:=by unfold cb;rw [Bz ah]
  show run b (k<|cb b b.length h) (nx b b.length) (mY h)=_;rw [e,awD,run_end b (k<|gen h)<|mY h];rfl
def Xu (h:Int):0<=gen h/\gen h<=255:=abu _
def amF (b:List UInt8) (i:Nat) (h:Int):0<=cb b i h/\cb b i h<=255:=by
 unfold cb;split
 .exact abu _
 .exact Xu h
def Xv {α:Type} {P:α->Prop} (b:List UInt8) {p:Pg α} (hp:Post P p):∀ (i:Nat) (h:Int),P (run b p i h).1:=by
 induction hp with
 | ret h=>intro i h';exact h
 | rd h ih=>intro i h';exact ih (cb b i h') (amF b i h').1 (amF b i h').2 (nx b i) (mY h')
def awE {α:Type} {p:Pg α} {n:Nat} (hp:Le p n):∀ h:Int,∃ k,k<=n/\(Ct p h).2=jV k h:=by
 induction hp with
 | ret=>intro h;exact ⟨0,ah,rfl⟩
 | rd h ih=>
  intro h';obtain ⟨k,h1,h2⟩:=ih (gen h') (Xu h').1 (Xu h').2 (mY h');exact ⟨k+1,ah,h2⟩
def awF {α:Type} {p:Pg α} {n:Nat} (hp:Le p n) (ho:One p) (h:Int):∃ k,1<=k/\k<=n/\(Ct p h).2=jV k h:=by
 cases hp with
 | ret=>cases ho
 | rd hk=>
  obtain ⟨k,h1,h2⟩:=awE (hk (gen h) (Xu h).1 (Xu h).2) (mY h);exact ⟨k+1,ah,ah,h2⟩
def amG {α:Type} (b:List UInt8):∀ (p:Pg α) (i:Nat) (h:Int),i<=(run b p i h).2.1
 | ret _,_,_=>eD _
 | rd k,i,h=>by
  have:=amG b (k<|cb b i h) (nx b i) (mY h);have h2:i<=nx b i:=by unfold nx;split<;>omega
  exact zx h2 this
def awG {α:Type} (b:List UInt8) {p:Pg α} (ho:One p) (i:Nat) (h:Int) (hi:i < b.length):i < (run b p i h).2.1:=by
 cases p with
 | ret=>cases ho
 | rd k=>
  have:=amG b (k<|cb b i h) (nx b i) (mY h);have h2:nx b i=i+1:=by unfold nx;rw [bQ hi]
  rw [h2] at this;show i < (run b (k<|cb b i h) (nx b i)<|mY h).2.1;rw [h2];exact this
def FP {α:Type} (p:Pg α) (ok:α->Bool):Nat->Int->Option (α×Int)
 | 0,_=>none
 | n+1,h=>bif ok (Ct p h).1 then some (Ct p h) else FP p ok n (Ct p h).2
def loop {α:Type} (b:List UInt8) (p:Pg α) (ok:α->Bool):Nat->Nat->Int->Option (α×Nat×Int)
 | 0,_,_=>none
 | n+1,i,h=>bif ok (run b p i h).1 then some (run b p i h) else loop b p ok n (run b p i h).2.1 (run b p i h).2.2
def amH {α:Type} (b:List UInt8) (p:Pg α) (ok:α->Bool):∀ (n:Nat) (h:Int),(FP p ok n h).isSome=true->(loop b p ok n b.length h).isSome=true
 | 0,_,hs=>by cases hs
 | n+1,h,hs=>by
  rw [FP] at hs;rw [loop,run_end];dsimp only;cases hc:ok (Ct p h).1 with
  | true=>rfl
  | false=>rw [hc,aI] at hs;rw [aI];exact amH b p ok n (Ct p h).2 hs
def aby {α:Type} (p:Pg α) (ok:α->Bool):∀ (n m:Nat) (h:Int),n<=m->(FP p ok n h).isSome=true->(FP p ok m h).isSome=true
 | 0,_,_,_,hs=>by cases hs
 | n+1,0,_,hm,_=>by omega
 | n+1,m+1,h,hm,hs=>by
  rw [FP] at hs ⊢;cases hc:ok (Ct p h).1 with
  | true=>rfl
  | false=>rw [hc,aI] at hs;rw [aI];exact aby p ok n m _ ah hs
def jy {α:Type} (p:Pg α) (ok:α->Bool) (F:Nat):Nat->Int->Bool
 | 0,_=>true
 | n+1,h=>(FP p ok F h).isSome&&jy p ok F n (mY h)
def amI {α:Type} (p:Pg α) (ok:α->Bool) (F:Nat):∀ (n:Nat) (h:Int) (k:Nat),jy p ok F n h=true->k < n->(FP p ok F<|jV k h).isSome=true
 | 0,_,_,_,hk=>by omega
 | n+1,h,0,ha,_=>by
  rw [jy,dP] at ha;exact ha.1
 | n+1,h,k+1,ha,hk=>by
  rw [jy,dP] at ha;exact amI p ok F n (mY h) k ha.2 ah
def Bg {α:Type} (p:Pg α) (ok:α->Bool) (F:Nat):∀ (n m:Nat) (h:Int),jy p ok F n h=true->jy p ok F m (jV n h)=true->jy p ok F (n+m) h=true
 | 0,m,h,_,h2=>by rw [qV];exact h2
 | n+1,m,h,h1,h2=>by
  rw [show n+1+m=(n+m)+1 by omega,jy,dP];rw [jy,dP] at h1;exact ⟨h1.1,Bg p ok F n m (mY h) h1.2 h2⟩
def awH {α:Type} {p:Pg α} {ok:α->Bool} {B F:Nat} {h0:Int} (hB:Le p B) (ho:One p) (ha:jy p ok F (B+1) h0=true):∀ (n:Nat) (h:Int),jV n h=h0->(FP p ok (n+F+1) h).isSome=true:=by
 intro n;induction n using Nat.strongRecOn with
 | _ n ih=>
  intro h hn;rw [FP];cases ok (Ct p h).1 with
  | true=>rfl
  | false=>
   rw [aI];obtain ⟨k,k1,k2,k3⟩:=awF hB ho h;rw [k3];by_cases hk:k<=n
   .have e:jV (n - k) (jV k h)=h0:=by rw [<- abx,show k+(n - k)=n by omega];exact hn
    exact aby p ok _ _ _ ah (ih (n - k) ah (jV k h) e)
   .have e:jV k h=jV (k - n) h0:=by rw [<- hn,<- abx,show n+(k - n)=k by omega]
    rw [e];exact aby p ok F _ _ ah (amI p ok F (B+1) h0 (k - n) ha ah)
def amJ {α:Type} {p:Pg α} {ok:α->Bool} {B F:Nat} {h0:Int} (hB:Le p B) (ho:One p) (ha:jy p ok F (B+1) h0=true) (h1: -9223372036854775808<=h0) (h2:h0<=9223372036854775807) (b:List UInt8) (M:Nat) (hM:18446744073709551616+F+1<=M):∀ (d i n:Nat) (h:Int),b.length - i=d->i<=b.length->M+d<=n->(loop b p ok n i h).isSome=true:=by
 intro d;induction d using Nat.strongRecOn with
 | _ d ih=>
  intro i n h hd hi hn;by_cases hlt:i < b.length
  .obtain ⟨n,rfl⟩:∃ k,n=k+1:=⟨n - 1,ah⟩
   rw [loop];cases ok (run b p i h).1 with
   | true=>rfl
   | false=>
    rw [aI];have g1:=awG b ho i h hlt;have g2:=FN b p i h hi;exact ih (b.length - (run b p i h).2.1) ah _ n _ rfl g2 ah
  .have e:i=b.length:=ah;subst e;obtain ⟨k,_,k2,k3⟩:=awz h h0 h1 h2;have e3:(2:Nat) ^ 64=18446744073709551616:=aJ;rw [e3] at k2;exact amH b p ok n h (aby p ok _ _ _ ah<|awH hB ho ha k h k3)
def agp {α:Type} (b:List UInt8) {P:α->Prop} {p:Pg α} (hp:Post P p) (ok:α->Bool):∀ (n i:Nat) (h:Int) (r:α×Nat×Int),i<=b.length->loop b p ok n i h=some r->P r.1/\ok r.1=true/\r.2.1<=b.length
 | 0,_,_,_,_,e=>by cases e
 | n+1,i,h,r,hi,e=>by
  rw [loop] at e;cases ho:ok (run b p i h).1 with
  | true=>
   rw [ho,aM] at e;cases e;exact ⟨Xv b hp i h,ho,FN b p i h hi⟩
  | false=>
   rw [ho,aI] at e;exact agp b hp ok n _ _ r (FN b p i h hi) e
end Pg
def Sm {α β:Type} (b:List UInt8) (p:Pg α) (f:α->β) (i:Nat) (h:Int) (x:Option (β×Int×Int)):Prop:=x=some (f (Pg.run b p i h).1,((Pg.run b p i h).2.1:Int),(Pg.run b p i h).2.2)
def Sm.ret {α β:Type} {b:List UInt8} {a:α} {f:α->β} {i:Nat} {h:Int}:Sm b (.ret a) f i h (some (f a,(i:Int),h)):=rfl
def Sm.bind {α β γ δ:Type} {b:List UInt8} {p:Pg α} {f:α->β} {q:α->Pg γ} {g:γ->δ} {P:α->Prop} {i:Nat} {h:Int} {x:Option (β×Int×Int)} {y:β×Int×Int->Option (δ×Int×Int)} (hi:i<=b.length) (hp:Pg.Post P p) (hx:Sm b p f i h x) (hy:∀ a (i:Nat) h,P a->i<=b.length->Sm b (q a) g i h (y (f a,(i:Int),h))):Sm b (p.bind q) g i h (Option.bind x y):=by
 unfold Sm at hx hy ⊢;rw [hx,aB,Pg.run_bind];exact hy _ _ _ (Pg.Xv b hp i h) (Pg.FN b p i h hi)
def Cu {α β:Type} {b:List UInt8} {p:Pg α} {f:α->β} {i:Nat} {h:Int} {x:Option (β×Int×Int)} (hx:Sm b p f i h x):Sm b p f i h (Option.bind x fun r=>some (r.1,r.2.1,r.2.2)):=by
 unfold Sm at hx ⊢;rw [hx];rfl
def Sm.cond {α β:Type} {b:List UInt8} {p q:Pg α} {f:α->β} {i:Nat} {h:Int} {c:Bool} {x y:Option (β×Int×Int)} (hx:c=true->Sm b p f i h x) (hy:c=false->Sm b q f i h y):Sm b (bif c then p else q) f i h (bif c then x else y):=by
 cases c
 .exact hy rfl
 .exact hx rfl
def awI {α β:Type} {b:List UInt8} {p:Pg α} {f:α->β} {P:α->Prop} {Q:β->Prop} {i:Nat} {h:Int} {x:Option (β×Int×Int)} (hi:i<=b.length) (hx:Sm b p f i h x) (hp:Pg.Post P p) (hq:∀ a,P a->Q (f a)):Dr b Q x:=
 ⟨_,_,_,hx,hq _<|Pg.Xv b hp i h,ah,by have:=Pg.FN b p i h hi;omega⟩
def kQ (n:Int):Pg Int:=bif decide (n<=0) then .ret 0 else bif decide (n<=256) then .rd fun x=>.ret (Int.tmod x n) else .rd fun x=>.rd fun y=>.rd fun z=>.rd fun w=>.ret (Int.tmod (IntKind.wrap .i64<|(IntKind.wrap .i64<|(IntKind.wrap .i64<|(IntKind.wrap .i64<|x*16777216)+(IntKind.wrap .i64<|y*65536))+(IntKind.wrap .i64<|z*256))+w) n)
def Bh (n:Int):Pg Bool:=(kQ n).bind fun r=>.ret (r==0)
def uq (l:List (List UInt8)):Pg (List UInt8):=(kQ (l.length:Int)).bind fun r=>.ret (l[r.toNat]?.getD [])
def Cv (l:List Int):Pg Int:=(kQ (l.length:Int)).bind fun r=>.ret (l[r.toNat]?.getD 0)
def abz:Pg (List UInt8):=uq [[48],[49],[52,50],[51,46,53],[46,53],[55,46],[49,101,51],[50,69,45,52],[49,48,46,50,53,101,43,49]]
def abA:Pg (List UInt8):=uq [[34,34],[34,97,34],[34,120,32,121,34],[34,113,92,34,113,34],[34,92,110,34],[34,35,110,111,34],[34,47,34]]
def abB:Pg (List UInt8):=uq [[47,97,47],[47,94,120,43,36,47],[47,97,92,47,98,47],[47,61,47],[47,32,47],[47,91,48,45,57,93,47]]
def FQ:Pg (List UInt8):=uq [[120],[121],[110],[105],[97,114,114],[78,82],[70,83],[116,111,116,97,108],[97,49],[95,116],[99,111,117,110,116]]
def abC:Pg Int:=Cv [60,57,58,59,55,56,56,99,99,99,63,48,47,50,62,62,49,67,46,45,44]
def eX (n:Int):Pg.Post (fun r=>0<=r/\(r < n\/n<=0/\r=0)) (kQ n):=by
 unfold kQ;cases h1:decide (n<=0) with
 | true=>exact .ret ⟨ah,.inr ⟨nX h1,rfl⟩⟩
 | false=>
  have h1:=PX h1;cases decide (n<=256) with
  | true=>exact .rd fun x hx _=>.ret ⟨adi _ hx,.inl<|ada _ ah⟩
  | false=>
   refine .rd fun x hx hx2=>.rd fun y hy hy2=>.rd fun z hz hz2=>.rd fun w hw hw2=>.ret ⟨adi _ ?_,.inl<|ada _ ah⟩;rw [wrap64 (n:=x*16777216) ah ah,wrap64 (n:=y*65536) ah ah,wrap64 (n:=x*16777216+y*65536) ah ah,wrap64 (n:=z*256) ah ah,wrap64 (n:=x*16777216+y*65536+z*256) ah ah,wrap64 ah ah];omega
def below_le (n:Int) (h:n<=256):Pg.Le (kQ n) 1:=by
 unfold kQ;cases decide (n<=0) with
 | true=>exact .ret
 | false=>rw [mH h];exact .rd fun _ _ _=>.ret
def sV (n:Int):Pg.Post (fun _=>True) (Bh n):=(eX n).bind fun _ _=>.ret trivial
def SL (n:Int) (h:n<=256):Pg.Le (Bh n) 1:=Pg.eu.bind (eX n) (below_le n h) (m:=0) (fun _ _=>.ret) ah
def awJ {P:List UInt8->Prop} (l:List (List UInt8)) (hl:0 < l.length) (h:∀ x,x∈l->P x):Pg.Post P (uq l):=(eX _).bind fun r hr=>.ret (by
 have hn:r.toNat < l.length:=ah;rw [eZ hn];exact h _<|nW hn)
def Iq (l:List (List UInt8)) (h:l.length<=256):Pg.Le (uq l) 1:=Pg.eu.bind (eX _) (below_le _ ah) (m:=0) (fun _ _=>.ret) ah
def SN {P:Int->Prop} (l:List Int) (hl:0 < l.length) (h:∀ x,x∈l->P x):Pg.Post P (Cv l):=(eX _).bind fun r hr=>.ret (by
 have hn:r.toNat < l.length:=ah;rw [eZ hn];exact h _<|nW hn)
def Xw (l:List Int) (h:l.length<=256):Pg.Le (Cv l) 1:=Pg.eu.bind (eX _) (below_le _ ah) (m:=0) (fun _ _=>.ret) ah
abbrev Sh (x:List UInt8):Prop:=x.length<=20
def uw (l:List (List UInt8)) (hl:0 < l.length) (h:(l.all fun x=>decide<|x.length<=20)=true):Pg.Post Sh (uq l):=awJ l hl fun x hx=>nX (ku.1 h x hx)
def agq:Pg.Post Sh abz:=uw _ aJ aJ
def agr:Pg.Post Sh abA:=uw _ aJ aJ
def ags:Pg.Post Sh abB:=uw _ aJ aJ
def pX:Pg.Post Sh FQ:=uw _ aJ aJ
def agt:Pg.Post (fun _=>True) abC:=SN _ aJ fun _ _=>trivial
def awK:Pg.Le abz 1:=Iq _ aJ
def awL:Pg.Le abA 1:=Iq _ aJ
def awM:Pg.Le abB 1:=Iq _ aJ
def Ox:Pg.Le FQ 1:=Iq _ aJ
def awN:Pg.Le abC 1:=Xw _ aJ
section
variable (b:List UInt8) (hb:b.length<=1048576)
include hb
theorem Xx (i:Nat) (h:Int) (hi:i<=b.length):Sm b (.rd .ret) (fun x=>x) i h (Dq b (i:Int) h):=by
 unfold Dq QT Sm;show _=some (Pg.cb b i h,((Pg.nx b i:Nat):Int),mY h);unfold Pg.cb Pg.nx;by_cases hlt:i < b.length
 .simp only [iT hlt,aM,dx hlt,aB,eZ hlt,bQ hlt];rw [wrap64 (n:=(i:Int)+1) ah ah];rfl
 .simp only [jZ hlt,aI,Bz (show b.length<=i by omega),bA hlt];rfl
theorem vI (n:Int) (i:Nat) (h:Int) (hi:i<=b.length):Sm b (kQ n) (fun x=>x) i h (jD n b (i:Int) h):=by
 unfold jD kQ;have hp:Pg.Post (fun x:Int=>0<=x/\x<=255) (.rd .ret):=.rd fun x h1 h2=>.ret ⟨h1,h2⟩;refine Sm.cond (fun _=>Sm.ret) fun hc=>Sm.cond (fun _=>?_) fun _=>?_
 .have hc:=PX hc;have hn:(n==0)=false:=bF;refine Sm.bind (p:=.rd .ret) (q:=fun x=>.ret<|Int.tmod x n) hi hp (Xx b hb i h hi) fun x i h _ _=>?_;unfold JG;simp only [hn,aI,aB];exact Sm.ret
 .have hc:=PX hc;have hn:(n==0)=false:=bF;refine Sm.bind (p:=.rd .ret) (q:=fun x=>.rd fun y=>.rd fun z=>.rd fun w=>.ret<|Int.tmod (IntKind.wrap .i64<|(IntKind.wrap .i64<|(IntKind.wrap .i64<|(IntKind.wrap .i64<|x*16777216)+(IntKind.wrap .i64<|y*65536))+(IntKind.wrap .i64<|z*256))+w) n) hi hp (Xx b hb i h hi) fun x i h _ hi=>?_;dsimp only;refine Sm.bind (p:=.rd .ret) (q:=fun y=>.rd fun z=>.rd fun w=>.ret<|Int.tmod (IntKind.wrap .i64<|(IntKind.wrap .i64<|(IntKind.wrap .i64<|(IntKind.wrap .i64<|x*16777216)+(IntKind.wrap .i64<|y*65536))+(IntKind.wrap .i64<|z*256))+w) n) hi hp (Xx b hb i h hi) fun y i h _ hi=>?_;dsimp only;refine Sm.bind (p:=.rd .ret) (q:=fun z=>.rd fun w=>.ret<|Int.tmod (IntKind.wrap .i64<|(IntKind.wrap .i64<|(IntKind.wrap .i64<|(IntKind.wrap .i64<|x*16777216)+(IntKind.wrap .i64<|y*65536))+(IntKind.wrap .i64<|z*256))+w) n) hi hp (Xx b hb i h hi) fun z i h _ hi=>?_;dsimp only;refine Sm.bind (p:=.rd .ret) (q:=fun w=>.ret<|Int.tmod (IntKind.wrap .i64<|(IntKind.wrap .i64<|(IntKind.wrap .i64<|(IntKind.wrap .i64<|x*16777216)+(IntKind.wrap .i64<|y*65536))+(IntKind.wrap .i64<|z*256))+w) n) hi hp (Xx b hb i h hi) fun w i h _ hi=>?_;dsimp only;unfold JG;simp only [hn,aI,aB];exact Sm.ret
theorem SQ (n:Int) (i:Nat) (h:Int) (hi:i<=b.length):Sm b (Bh n) (fun x=>x) i h (wL n b (i:Int) h):=by
 unfold wL Bh;exact Sm.bind hi (eX n) (vI b hb n i h hi) fun r i h _ hi=>Sm.ret
theorem Ir (l:List (List UInt8)) (hl:0 < l.length) (i:Nat) (h:Int) (hi:i<=b.length):Sm b (uq l) (fun x=>x) i h (uW l b (i:Int) h):=by
 unfold uW uq;refine Sm.bind hi (eX _) (vI b hb _ i h hi) fun r i h hr hi=>?_;obtain ⟨n,rfl⟩:=qU hr.1;have hn:n < l.length:=by rcases hr.2 with h|h<;>omega
 have e:ix l (n:Int)=some l[n]:=dx hn;dsimp only;rw [e,aB,show Int.toNat ((n:Nat):Int)=n from rfl,eZ hn];exact Sm.ret
theorem Xy (l:List Int) (hl:0 < l.length) (i:Nat) (h:Int) (hi:i<=b.length):Sm b (Cv l) (fun x=>x) i h (zM l b (i:Int) h):=by
 unfold zM Cv;refine Sm.bind hi (eX _) (vI b hb _ i h hi) fun r i h hr hi=>?_;obtain ⟨n,rfl⟩:=qU hr.1;have hn:n < l.length:=by rcases hr.2 with h|h<;>omega
 have e:ix l (n:Int)=some l[n]:=dx hn;dsimp only;rw [e,aB,show Int.toNat ((n:Nat):Int)=n from rfl,eZ hn];exact Sm.ret
theorem awO (i:Nat) (h:Int) (hi:i<=b.length):Sm b abz (fun x=>x) i h (aaf b (i:Int) h):=Cu (Ir b hb _ aJ i h hi)
theorem awP (i:Nat) (h:Int) (hi:i<=b.length):Sm b abA (fun x=>x) i h (aag b (i:Int) h):=Cu (Ir b hb _ aJ i h hi)
theorem awQ (i:Nat) (h:Int) (hi:i<=b.length):Sm b abB (fun x=>x) i h (aah b (i:Int) h):=Cu (Ir b hb _ aJ i h hi)
theorem Iu (i:Nat) (h:Int) (hi:i<=b.length):Sm b FQ (fun x=>x) i h (zK b (i:Int) h):=Cu (Ir b hb _ aJ i h hi)
theorem awR (i:Nat) (h:Int) (hi:i<=b.length):Sm b abC (fun x=>x) i h (aal b (i:Int) h):=Cu (Xy b hb _ aJ i h hi)
end
def ShN (x:aC):Prop:=x.Text.length<=20/\x.Other.length<=20
def Oy (t:av):Prop:=∀ x,x∈bU 0 t->ShN x
def awS {t:av} (h:Oy t) (b:Nat):∀ x,x∈bU b t->ShN x:=fun x hx=>by
 have e:=abD t 0 b;rw [qV] at e;rw [e] at hx;obtain ⟨y,hy,rfl⟩:=rT.1 hx;exact h y hy
def awT {ts:List av} (h:∀ t,t∈ts->Oy t):∀ (b:Nat) x,x∈jW b ts->ShN x:=by
 induction ts with
 | nil=>intro b x hx;rw [jW] at hx;cases hx
 | cons t ts ih=>
  intro b x hx;rw [jW] at hx;rcases kY.1 hx with hx|hx
  .exact awS (h t aA) b x hx
  .exact ih (fun t' h'=>h t'<|by simp [h']) _ x hx
def Gd (m d:Nat) (t:av):Prop:=aV t<=m/\eB t<=d/\Oy t
def Gd.mono {m d m' d':Nat} {t:av} (h:Gd m d t) (hm:m<=m') (hd:d<=d'):Gd m' d' t:=⟨zx h.1 hm,zx h.2.1 hd,h.2.2⟩
def Gd.mk {m d:Nat} {k o:Int} {x y:List UInt8} {ts:List av} (hx:Sh x) (hy:Sh y) (hs:aS ts+1<=m) (hd:ig ts+1<=d) (h:∀ t,t∈ts->Oy t):Gd m d ⟨k,o,x,y,ts⟩:=by
 refine ⟨by rw [aV];exact hs,by rw [eB];exact hd,fun n hn=>?_⟩;rw [bU] at hn;rcases kY.1 hn with hn|hn
 .exact awT h 0 n hn
 .rw [tu.1 hn];exact ⟨hx,hy⟩
def Xz {m d:Nat}:∀ {ts:List av},(∀ t,t∈ts->Gd m d t)->aS ts<=ts.length*m/\ig ts<=d/\∀ t,t∈ts->Oy t
 | [],_=>⟨by simp [aS],by simp [ig],fun t ht=>by cases ht⟩
 | t::ts,h=>by
  obtain ⟨h1,h2,h3⟩:=Xz (ts:=ts) fun t' ht'=>h t' (by simp [ht']);obtain ⟨g1,g2,g3⟩:=h t aA;refine ⟨by simp only [aS,kF,wh];omega,by simp only [ig];omega,fun t' ht'=>?_⟩;rcases gQ.1 ht' with rfl|ht'
  .exact g3
  .exact h3 t' ht'
def pY {α:Type} (p:Pg α):Nat->Pg (List α)
 | 0=>.ret []
 | n+1=>p.bind fun a=>(pY p n).bind fun zs=>.ret (a::zs)
def DY {α:Type} {P:α->Prop} {p:Pg α} (h:Pg.Post P p):∀ n,Pg.Post (fun zs=>zs.length=n/\∀ a,a∈zs->P a) (pY p n)
 | 0=>.ret ⟨rfl,fun a h=>by cases h⟩
 | n+1=>h.bind fun a ha=>(DY h n).bind fun zs has=>.ret ⟨by simp [has.1],fun x hx=>by
  rcases gQ.1 hx with rfl|hx
  .exact ha
  .exact has.2 x hx⟩
def XA {α:Type} {P:α->Prop} {p:Pg α} (h:Pg.Post P p) {B:Nat} (hB:Pg.Le p B):∀ n,Pg.Le (pY p n) (n*B)
 | 0=>.ret
 | n+1=>Pg.eu.bind h hB (m:=n*B) (fun a _=>Pg.eu.bind (DY h n) (XA h hB n) (m:=0) (fun _ _=>.ret) ah) (by rw [wh];omega)
def FR:Pg av:=FQ.bind fun x=>.ret ⟨1,0,x,[],[]⟩
def KZ:Pg av:=(kQ 7).bind fun r=>bif r==0 then abz.bind fun x=>.ret ⟨2,0,x,[],[]⟩ else bif r==1 then abA.bind fun x=>.ret ⟨3,0,x,[],[]⟩ else bif r==2 then (Bh 2).bind fun o=>bif o then abB.bind fun x=>.ret ⟨4,0,x,[],[]⟩ else FR else FR
def Ag (e1 e2:Pg av):Pg av:=(kQ 4).bind fun r=>bif r==0 then FQ.bind fun x=>e1.bind fun t=>.ret ⟨5,0,x,[],[t]⟩ else bif r==1 then e2.bind fun t=>.ret ⟨6,0,[],[],[t]⟩ else FR
def Ah (lo hi:Int) (e:Pg av):Pg (List av):=(kQ<|hi - lo+1).bind fun r=>pY e (lo+r).toNat
def SV (e1 e2 e3:Pg av) (r:Int) (y:Bool):Pg av:=bif y then (Cv [56,55,61]).bind fun o=>e1.bind fun t=>.ret ⟨11,o,[],[],[t]⟩ else bif r==9 then FQ.bind fun x=>(Ah 1 2 e1).bind fun ts=>.ret ⟨13,0,x,[],ts⟩ else bif r==10 then e1.bind fun t=>e1.bind fun u=>e1.bind fun v=>.ret ⟨14,0,[],[],[t,u,v]⟩ else bif r==11 then (Cv [54,38,43]).bind fun o=>(Ag e2 e3).bind fun t=>e1.bind fun u=>.ret ⟨15,o,[],[],[t,u]⟩ else abC.bind fun o=>e1.bind fun t=>e1.bind fun u=>.ret ⟨12,o,[],[],[t,u]⟩
def XB (e1 e2 e3:Pg av):Pg av:=(kQ 2).bind fun a=>(kQ 16).bind fun r=>bif r==0 then KZ else bif r==1 then Ag e1 e2 else bif r==2 then e1.bind fun t=>.ret ⟨6,0,[],[],[t]⟩ else bif r==3 then FQ.bind fun x=>(Ah 0 3 e1).bind fun ts=>.ret ⟨7,0,x,[],ts⟩ else bif r==4 then (uq [[108,101,110,103,116,104],[115,117,98,115,116,114],[105,110,100,101,120],[105,110,116],[116,111,117,112,112,101,114]]).bind fun x=>(Ah 0 3 e2).bind fun ts=>.ret ⟨8,0,x,[],ts⟩ else bif r==5 then (Ag e2 e3).bind fun t=>.ret ⟨9,51+a,[],[],[t]⟩ else bif r==6 then (Ag e2 e3).bind fun t=>.ret ⟨10,51+a,[],[],[t]⟩ else bif r==7 then SV e1 e2 e3 r (r==7) else SV e1 e2 e3 r (r==8)
def La:Nat->Pg av×Pg av×Pg av
 | 0=>(KZ,KZ,KZ)
 | d+1=>(XB (La d).1 (La d).2.1 (La d).2.2,(La d).1,(La d).2.1)
def gu (d:Nat):Pg av:=(La d).1
def awU:∀ d,(La d).2.1=gu (d - 1)
 | 0=>rfl
 | d+1=>rfl
def awV:∀ d,(La d).2.2=gu (d - 2)
 | 0=>rfl
 | 1=>rfl
 | d+2=>rfl
def agu (d:Nat):gu (d+1)=XB (gu d) (gu<|d - 1) (gu<|d - 2):=by
 rw [<- awU,<- awV];rfl
def yY (d:Nat):Nat:=if d=0 then 1 else d+2
def eb:Nat->Nat
 | 0=>3
 | d+1=>3*eb d+4
def SX {a c:Nat} (h:a<=c):eb a<=eb c:=by
 induction c with
 | zero=>rw [show a=0 by omega];exact eD _
 | succ c ih=>
  by_cases e:a=c+1
  .rw [e];exact eD _
  .have:=ih ah;rw [eb];omega
def DZ {a c:Nat} (h:a<=c):pw a<=pw c:=by
 induction c with
 | zero=>rw [show a=0 by omega];exact eD _
 | succ c ih=>
  by_cases e:a=c+1
  .rw [e];exact eD _
  .have:=ih ah;rw [pw];omega
def jo:Sh ([]:List UInt8):=aA
def Oz:Pg.Post (Gd 1 1) FR:=pX.bind fun x hx=>.ret (Gd.mk hx jo (by simp [aS]) (by simp [ig]) fun t ht=>by cases ht)
def abE:Pg.Le FR 1:=Pg.eu.bind pX Ox (m:=0) (fun _ _=>.ret) ah
def iH {α:Type} {P:α->Prop} {c:Bool} {p q:Pg α} (hp:Pg.Post P p) (hq:Pg.Post P q):Pg.Post P (bif c then p else q):=by cases c<;>assumption
def leB {α:Type} {n:Nat} {c:Bool} {p q:Pg α} (hp:Pg.Le p n) (hq:Pg.Le q n):Pg.Le (bif c then p else q) n:=by cases c<;>assumption
def agv {p:Pg (List UInt8)} (h:Pg.Post Sh p) (k:Int):Pg.Post (Gd 1 1) (p.bind fun x=>.ret ⟨k,0,x,[],[]⟩):=h.bind fun x hx=>.ret (Gd.mk hx jo (by simp [aS]) (by simp [ig]) fun t ht=>by cases ht)
def amK:Pg.Post (Gd 1 1) KZ:=(eX 7).bind fun r _=>iH (agv agq 2) (iH (agv agr 3)<|iH ((sV 2).bind fun o _=>iH (agv ags 4) Oz) Oz)
def jH {α β:Type} {P:α->Prop} {p:Pg α} {f:α->β} {n:Nat} (hp:Pg.Post P p) (h:Pg.Le p n):Pg.Le (p.bind fun a=>.ret<|f a) n:=Pg.eu.bind hp h (m:=0) (fun _ _=>.ret) ah
def amL:Pg.Le KZ 3:=Pg.eu.bind (eX 7) (below_le 7 ah) (m:=2) (fun r _=>leB ((jH agq awK).mono ah)<|leB ((jH agr awL).mono ah)<|leB (Pg.eu.bind (sV 2) (SL 2 ah) (m:=1) (fun o _=>leB (jH ags awM) abE) ah)<|abE.mono ah) ah
def agw {e1 e2:Pg av} {m d:Nat} (h1:Pg.Post (Gd m d) e1) (h2:Pg.Post (Gd m d) e2) (hm:1<=m):Pg.Post (Gd (m+1)<|d+1) (Ag e1 e2):=by
 refine (eX 4).bind fun r _=>iH (pX.bind fun x hx=>h1.bind fun t ht=>.ret ?_) (iH (h2.bind fun t ht=>.ret ?_)<|Oz.imp fun t ht=>ht.mono ah ah)
 .exact Gd.mk hx jo (by have:=ht.1;simp only [aS];omega) (by have:=ht.2.1;simp only [ig];omega) fun t' ht'=>by rw [tu.1 ht'];exact ht.2.2
 .exact Gd.mk jo jo (by have:=ht.1;simp only [aS];omega) (by have:=ht.2.1;simp only [ig];omega) fun t' ht'=>by rw [tu.1 ht'];exact ht.2.2
def abF {e1 e2:Pg av} {P Q:av->Prop} {n:Nat} (h1:Pg.Post P e1) (h2:Pg.Post Q e2) (g1:Pg.Le e1 n) (g2:Pg.Le e2 n):Pg.Le (Ag e1 e2) (n+2):=
 Pg.eu.bind (eX 4) (below_le 4 ah) (m:=n+1) (fun r _=>leB (Pg.eu.bind pX Ox (m:=n) (fun x _=>jH h1 g1) ah)<|leB ((jH h2 g2).mono ah)<|abE.mono ah) ah
def Cw {e:Pg av} {m d:Nat} (h:Pg.Post (Gd m d) e) (lo hi:Nat) (hl:lo<=hi):Pg.Post (fun ts=>lo<=ts.length/\ts.length<=hi/\aS ts<=hi*m/\ig ts<=d/\∀ t,t∈ts->Oy t) (Ah (lo:Int) (hi:Int) e):=by
 refine (eX _).bind fun r hr=>(DY h _).imp fun ts hts=>?_;obtain ⟨g1,g2,g3⟩:=Xz hts.2;have hlen:ts.length<=hi:=by rw [hts.1];omega
 exact ⟨by rw [hts.1];omega,hlen,zx g1<|vW m hlen,g2,g3⟩
def SY {e:Pg av} {P:av->Prop} {n:Nat} (h:Pg.Post P e) (g:Pg.Le e n) (lo hi:Nat) (hl:lo<=hi) (hh:hi<=250):Pg.Le (Ah (lo:Int) (hi:Int) e) (hi*n+1):=
 Pg.eu.bind (eX _) (below_le _ ah) (m:=hi*n) (fun r hr=>(XA h g _).mono<|vW n ah) ah
def mk1 {m d m' d':Nat} {k o:Int} {x:List UInt8} (hx:Sh x) {t:av} (ht:Gd m d t) (hm:m+1<=m') (hd:d+1<=d'):Gd m' d' ⟨k,o,x,[],[t]⟩:=
 Gd.mk hx jo (by have:=ht.1;simp only [aS];omega) (by have:=ht.2.1;simp only [ig];omega) fun t' ht'=>by rw [tu.1 ht'];exact ht.2.2
def mk2 {m d m2 d2 m' d':Nat} {k o:Int} {x:List UInt8} (hx:Sh x) {t u:av} (ht:Gd m d t) (hu:Gd m2 d2 u) (hm:m+m2+1<=m') (hd:d+1<=d'/\d2+1<=d'):Gd m' d' ⟨k,o,x,[],[t,u]⟩:=
 Gd.mk hx jo (by have:=ht.1;have:=hu.1;simp only [aS];omega) (by have:=ht.2.1;have:=hu.2.1;simp only [ig];omega) fun t' ht'=>by
  simp only [gQ,LX,Md] at ht';rcases ht' with rfl|rfl
  .exact ht.2.2
  .exact hu.2.2
def mk3 {m d m2 d2 m3 d3 m' d':Nat} {k o:Int} {x:List UInt8} (hx:Sh x) {t u v:av} (ht:Gd m d t) (hu:Gd m2 d2 u) (hv:Gd m3 d3 v) (hm:m+m2+m3+1<=m') (hd:d+1<=d'/\d2+1<=d'/\d3+1<=d'):Gd m' d' ⟨k,o,x,[],[t,u,v]⟩:=
 Gd.mk hx jo (by have:=ht.1;have:=hu.1;have:=hv.1;simp only [aS];omega) (by have:=ht.2.1;have:=hu.2.1;have:=hv.2.1;simp only [ig];omega) fun t' ht'=>by
  simp only [gQ,LX,Md] at ht';rcases ht' with rfl|rfl|rfl
  .exact ht.2.2
  .exact hu.2.2
  .exact hv.2.2
def Ta {m d m' d' n lo:Nat} {k o:Int} {x:List UInt8} (hx:Sh x) {ts:List av} (h:lo<=ts.length/\ts.length<=n/\aS ts<=n*m/\ig ts<=d/\∀ t,t∈ts->Oy t) (hm:n*m+1<=m') (hd:d+1<=d'):Gd m' d' ⟨k,o,x,[],ts⟩:=
 Gd.mk hx jo (by have:=h.2.2.1;omega) (by have:=h.2.2.2.1;omega) h.2.2.2.2
def amM {e1 e2 e3:Pg av} {m d d2 D:Nat} (h1:Pg.Post (Gd m d) e1) (h2:Pg.Post (Gd m d2) e2) (h3:Pg.Post (Gd m d2) e3) (hm:1<=m) (w1:d+1<=D) (w2:d2+2<=D):Pg.Post (Gd (4*m) D) (XB e1 e2 e3):=by
 have hlv:Pg.Post (Gd (m+1)<|d2+1) (Ag e2 e3):=agw h2 h3 hm;have hlv1:Pg.Post (Gd (m+1) D) (Ag e1 e2):=by
  obtain ⟨k,rfl⟩:∃ k,D=k+1:=⟨D - 1,ah⟩
  exact agw (h1.imp fun t ht=>ht.mono ah ah) (h2.imp fun t ht=>ht.mono ah ah) hm
 have hK:∀ r y,Pg.Post (Gd (4*m) D) (SV e1 e2 e3 r y):=fun r y=>by
  refine iH ?_ (iH ?_ (iH ?_ (iH ?_ ?_)))
  .exact (SN (P:=fun _=>True) _ aJ fun _ _=>trivial).bind fun o _=>h1.bind fun t ht=>.ret (mk1 jo ht ah ah)
  .exact pX.bind fun x hx=>(Cw h1 1 2 ah).bind fun ts hts=>.ret (Ta hx hts ah ah)
  .exact h1.bind fun t ht=>h1.bind fun u hu=>h1.bind fun v hv=>.ret (mk3 jo ht hu hv ah ah)
  .exact (SN (P:=fun _=>True) _ aJ fun _ _=>trivial).bind fun o _=>hlv.bind fun t ht=>h1.bind fun u hu=>.ret (mk2 jo ht hu ah ah)
  .exact agt.bind fun o _=>h1.bind fun t ht=>h1.bind fun u hu=>.ret (mk2 jo ht hu ah ah)
 refine (eX 2).bind fun a _=>(eX 16).bind fun r _=>iH (amK.imp fun t ht=>ht.mono ah ah) (iH (hlv1.imp fun t ht=>ht.mono ah ah)<|iH ?_ (iH ?_ (iH ?_ (iH ?_ (iH ?_ (iH (hK _ _)<|hK _ _))))))
 .exact h1.bind fun t ht=>.ret (mk1 jo ht ah ah)
 .exact pX.bind fun x hx=>(Cw h1 0 3 ah).bind fun ts hts=>.ret (Ta hx hts ah ah)
 .exact (uw _ aJ aJ).bind fun x hx=>(Cw h2 0 3 ah).bind fun ts hts=>.ret (Ta hx hts ah ah)
 .exact hlv.bind fun t ht=>.ret (mk1 jo ht ah ah)
 .exact hlv.bind fun t ht=>.ret (mk1 jo ht ah ah)
def awW {e1 e2 e3:Pg av} {P Q R:av->Prop} {n:Nat} (h1:Pg.Post P e1) (h2:Pg.Post Q e2) (h3:Pg.Post R e3) (g1:Pg.Le e1 n) (g2:Pg.Le e2 n) (g3:Pg.Le e3 n) (hn:3<=n):Pg.Le (XB e1 e2 e3) (3*n+4):=by
 have tr:∀ {α:Type} {p:Pg α} {P:α->Prop},Pg.Post P p->Pg.Post (fun _=>True) p:=fun h=>h.imp fun _ _=>trivial;have lvT:Pg.Post (fun _=>True) (Ag e2 e3):=(eX 4).bind fun r _=>iH (pX.bind fun x _=>h2.bind fun t _=>.ret trivial) (iH (h3.bind fun t _=>.ret trivial)<|tr Oz);have lT:∀ lo hi:Int,∀ e:Pg av,Pg.Post (fun _=>True) e->Pg.Post (fun _=>True) (Ah lo hi e):=fun lo hi e he=>(eX _).bind fun r _=>tr (DY he _);have pI:∀ l:List Int,0 < l.length->Pg.Post (fun _=>True) (Cv l):=fun l hl=>SN l hl fun _ _=>trivial;have hK:∀ r y,Pg.Le (SV e1 e2 e3 r y) (3*n+2):=fun r y=>by
  refine leB ?_ (leB ?_ (leB ?_ (leB ?_ ?_)))
  .exact Pg.eu.bind (pI _ aJ) (Xw _ aJ) (m:=n) (fun o _=>jH h1 g1) ah
  .exact Pg.eu.bind pX Ox (m:=2*n+1) (fun x _=>jH (lT 1 2 e1<|tr h1)<|SY h1 g1 1 2 ah ah) ah
  .exact Pg.eu.bind h1 g1 (m:=2*n) (fun t _=>Pg.eu.bind h1 g1 (m:=n) (fun u _=>jH h1 g1) ah) ah
  .exact Pg.eu.bind (pI _ aJ) (Xw _ aJ) (m:=2*n+2) (fun o _=>Pg.eu.bind lvT (abF h2 h3 g2 g3) (m:=n) (fun t _=>jH h1 g1) ah) ah
  .exact Pg.eu.bind agt awN (m:=2*n) (fun o _=>Pg.eu.bind h1 g1 (m:=n) (fun t _=>jH h1 g1) ah) ah
 refine Pg.eu.bind (eX 2) (below_le 2 ah) (m:=3*n+3) (fun a _=>Pg.eu.bind (eX 16) (below_le 16 ah) (m:=3*n+2) (fun r _=>leB (amL.mono ah)<|leB ((abF h1 h2 g1 g2).mono ah)<|leB ((jH h1 g1).mono ah)<|leB ?_ (leB ?_ (leB ((jH lvT<|abF h2 h3 g2 g3).mono ah)<|leB ((jH lvT<|abF h2 h3 g2 g3).mono ah)<|leB (hK _ _)<|hK _ _))) ah) ah
 .exact Pg.eu.bind pX Ox (m:=3*n+1) (fun x _=>jH (lT 0 3 e1<|tr h1)<|SY h1 g1 0 3 ah ah) ah
 .exact Pg.eu.bind (uw _ aJ aJ) (Iq _ aJ) (m:=3*n+1) (fun x _=>jH (lT 0 3 e2<|tr h2)<|SY h2 g2 0 3 ah ah) ah
def kR:∀ d,Pg.Post (Gd (pw d)<|yY d) (gu d):=by
 intro d;induction d using Nat.strongRecOn with
 | _ d ih=>
  cases d with
  | zero=>exact amK
  | succ d=>
   rw [agu];have hp:=agl d;have a:=ih d ah;have b:=ih (d - 1) ah;have c:=ih (d - 2) ah;have b':Pg.Post (Gd (pw d)<|yY<|d - 1) (gu<|d - 1):=b.imp fun t ht=>ht.mono (DZ ah) ah;have c':Pg.Post (Gd (pw d)<|yY<|d - 2) (gu<|d - 2):=c.imp fun t ht=>ht.mono (DZ ah) ah;have e4:pw (d+1)=4*pw d:=by rw [pw]
   rw [e4];by_cases h0:d=0
   .subst h0;exact amM (d:=1) (d2:=1) a b c ah aJ aJ
   .have hd:yY d=d+2:=by unfold yY;rw [bA h0]
    have hd1:yY (d+1)=d+3:=by unfold yY;rw [bA ah]
    have hd2:yY (d - 1)<=d+1:=by unfold yY;split<;>omega
    have hd3:yY (d - 2)<=d+1:=by unfold yY;split<;>omega
    rw [hd] at a;rw [hd1];exact amM (d2:=d+1) a (b'.imp fun t ht=>ht.mono ah ah) (c'.imp fun t ht=>ht.mono ah ah) ah ah ah
def OA:∀ d,Pg.Le (gu d) (eb d):=by
 intro d;induction d using Nat.strongRecOn with
 | _ d ih=>
  cases d with
  | zero=>exact amL
  | succ d=>
   rw [agu];have h3:3<=eb d:=by have:=SX (a:=0) (c:=d) ah;rw [eb] at this;exact this
   exact awW (kR d) (kR<|d - 1) (kR<|d - 2) (ih d ah) ((ih (d - 1) ah).mono<|SX ah) ((ih (d - 2) ah).mono<|SX ah) h3
section
set_option linter.unusedSectionVars false
variable (b:List UInt8) (hb:b.length<=1048576)
include hb
theorem amN (i:Nat) (h:Int) (hi:i<=b.length):Sm b FR (bU 0) i h (UQ b ((i:Int),h)):=Sm.bind hi pX (Iu b hb i h hi) fun x i h _ hi=>Sm.ret
theorem amO (i:Nat) (h:Int) (hi:i<=b.length):Sm b KZ (bU 0) i h (QU b (i:Int) h):=by
 unfold QU KZ;refine Sm.bind hi (eX 7) (vI b hb 7 i h hi) fun r i h _ hi=>?_;dsimp only;refine Sm.cond (fun _=>Sm.bind hi agq (awO b hb i h hi) fun x i h _ hi=>Sm.ret) fun _=>Sm.cond (fun _=>Sm.bind hi agr (awP b hb i h hi) fun x i h _ hi=>Sm.ret) fun _=>Sm.cond (fun _=>?_) fun _=>amN b hb i h hi;refine Sm.bind hi (sV 2) (SQ b hb 2 i h hi) fun o i h _ hi=>?_;dsimp only;exact Sm.cond (fun _=>Sm.bind hi ags (awQ b hb i h hi) fun x i h _ hi=>Sm.ret) fun _=>amN b hb i h hi
theorem lI {α:Type} {N:Nat} (hN:1048577 < N) (k o:Int) (x y:List UInt8) (ts:List av) (hs:aS ts<=900000) (i:Nat) (h:Int):Sm b (.ret (⟨k,o,x,y,ts⟩:av)) (bU 0) i h ((iZ N ⟨k,o,x,y,[]⟩<|ts.map<|bU 0).bind fun r=>some (r,(i:Int),h)):=by
 rw [amP N ⟨k,o,x,y,[]⟩ ts hN hs,aB];exact Sm.ret
def XS (N d:Nat):Prop:=∀ (deep:Int) (i:Nat) (h:Int),deep.toNat=d-> -1000<=deep->deep<=1000->i<=b.length->Sm b (gu d) (bU 0) i h ((qI N).fA deep b (i:Int) h)
theorem amQ {N d:Nat} (hN:1048577 < N) (hd:d<=6) (h1:XS b N (d - 1)) (h2:XS b N (d - 2)) (deep:Int) (i:Nat) (h:Int) (hdp:deep.toNat=d) (g1: -900<=deep) (hi:i<=b.length):Sm b (Ag (gu<|d - 1)<|gu<|d - 2) (bU 0) i h ((qI<|N+1).yE deep b (i:Int) h):=by
 have z1:pw (d - 1)<=4096:=DZ (a:=d - 1) (c:=6) ah;have z2:pw (d - 2)<=4096:=DZ (a:=d - 2) (c:=6) ah;show Sm b _ _ i h (UY N (qI N) deep b (i:Int) h);unfold UY Ag;refine Sm.bind hi (eX 4) (vI b hb 4 i h hi) fun r i h _ hi=>?_;dsimp only;refine Sm.cond (fun _=>?_) fun _=>Sm.cond (fun _=>?_) fun _=>Sm.bind hi pX (Iu b hb i h hi) fun x i h _ hi=>Sm.ret
 .refine Sm.bind hi pX (Iu b hb i h hi) fun x i h _ hi=>?_;dsimp only;rw [wrap64 (n:=deep - 1) ah ah];refine Sm.bind hi (kR<|d - 1) (h1 (deep - 1) i h ah ah ah hi) fun t i h ht hi=>?_;exact lI (α:=Unit) b hb hN 5 0 x [] [t] (by have:=ht.1;simp only [aS];omega) i h
 .rw [wrap64 (n:=deep - 2) ah ah];refine Sm.bind hi (kR<|d - 2) (h2 (deep - 2) i h ah ah ah hi) fun t i h ht hi=>?_;exact lI (α:=Unit) b hb hN 6 0 [] [] [t] (by have:=ht.1;simp only [aS];omega) i h
theorem awX {N d:Nat} (hX:XS b N d) (deep:Int) (hdp:deep.toNat=d) (g1: -900<=deep) (g2:deep<=900):∀ (n c:Nat) (i:Nat) (h:Int) (acc:List (List aC)),c < n->acc.length+c<=100->i<=b.length->
  Sm b (pY (gu d) c) (fun ts=>acc++ts.map (bU 0)) i h (MI N (qI N) b n (deep,(c:Int),(i:Int),h,acc)):=by
 intro n;induction n with
 | zero=>intro c i h acc hc;omega
 | succ n ih=>
  intro c i h acc hc ha hi;rw [MI];cases c with
  | zero=>
   have:decide (((0:Nat):Int) > 0)=false:=rfl;rw [this,aI];show _=some (acc++[].map (bU 0),_,_);rw [tC,qd];rfl
  | succ c=>
   have:decide (((c+1:Nat):Int) > 0)=true:=mH ah;rw [this,aM,pY];refine Sm.bind hi (kR d) (hX deep i h hdp ah ah hi) fun t i h ht hi=>?_;dsimp only;rw [pG bF,aB,wrap64 ah ah,show ((c+1:Nat):Int) - 1=(c:Int) by omega];have:=ih c i h (acc++[bU 0 t]) ah bF hi;unfold Sm at this ⊢;rw [this,Pg.run_bind];simp [Pg.run]
theorem abG {N d:Nat} (hN:200 < N) (hX:XS b N d) (lo hi':Nat) (hl:lo<=hi') (hh:hi'<=90) (deep:Int) (hdp:deep.toNat=d) (g1: -900<=deep) (g2:deep<=900) (i:Nat) (h:Int) (hi:i<=b.length):
  Sm b (Ah (lo:Int) (hi':Int)<|gu d) (fun ts=>ts.map<|bU 0) i h ((qI<|N+1).wM (lo:Int) (hi':Int) deep b (i:Int) h):=by
 show Sm b _ _ i h (UW N (qI N) (lo:Int) (hi':Int) deep b (i:Int) h);unfold UW Ah;rw [wrap64 (n:=(hi':Int) - lo) ah ah,wrap64 (n:=(hi':Int) - lo+1) ah ah];refine Sm.bind hi (eX _) (vI b hb _ i h hi) fun r i h hr hi=>?_;dsimp only;obtain ⟨c,rfl⟩:=qU hr.1;have hc:c<=hi' - lo:=by rcases hr.2 with h|h<;>omega
 rw [wrap64 ah ah,show (lo:Int)+(c:Int)=((lo+c:Nat):Int) by omega,BA];have:=awX b hb hX deep hdp g1 g2 N (lo+c) i h [] ah bF hi;exact this
theorem awY {N:Nat} (hN:1<=N):XS b N 0:=by
 intro deep i h hd h1 h2 hi;obtain ⟨N,rfl⟩:∃ m,N=m+1:=⟨N - 1,ah⟩
 show Sm b _ _ i h (MJ N (qI N) deep b (i:Int) h);unfold MJ;have:decide (deep<=0)=true:=mH ah;rw [this,aM];exact Cu (amO b hb i h hi)
theorem awZ {N d:Nat} (hN:1048577 < N) (hdd:d<=5) (hA:∀ e,e<=d->XS b (N+1) e) (hB:∀ e,e<=d->XS b N e):XS b (N+1+1) (d+1):=by
 intro deep i h hd g1 g2 hi;have hp:=agl d;have hpb:pw d<=4096:=DZ (a:=d) (c:=6) ah;have aGT:pw (d - 1)<=4096:=DZ (a:=d - 1) (c:=6) ah;have aGU:pw (d - 2)<=4096:=DZ (a:=d - 2) (c:=6) ah;have w1:IntKind.wrap .i64 (deep - 1)=deep - 1:=wrap64 ah ah;have w2:IntKind.wrap .i64 (deep - 2)=deep - 2:=wrap64 ah ah;show Sm b _ _ i h (MJ (N+1) (qI<|N+1) deep b (i:Int) h);rw [agu];unfold MJ XB;have:decide (deep<=0)=false:=uL ah;rw [this,aI];have e1:∀ (i:Nat) h,i<=b.length->Sm b (gu d) (bU 0) i h ((qI<|N+1).fA (deep - 1) b (i:Int) h):=fun i h hi=>hA d ah (deep - 1) i h ah ah ah hi;have lv0:∀ (i:Nat) h,i<=b.length->Sm b (Ag (gu d)<|gu<|d - 1) (bU 0) i h ((qI<|N+1).yE deep b (i:Int) h):=fun i h hi=>by
  have:=amQ b hb (d:=d+1) hN ah (by rw [aiE];exact hB d ah) (hB (d+1 - 2) ah) deep i h hd ah hi;rw [aiE,show d+1 - 2=d - 1 by omega] at this;exact this
 have lv1:∀ (i:Nat) h,i<=b.length->Sm b (Ag (gu<|d - 1)<|gu<|d - 2) (bU 0) i h ((qI<|N+1).yE (deep - 1) b (i:Int) h):=fun i h hi=>
  amQ b hb (d:=d) hN ah (hB (d - 1) ah) (hB (d - 2) ah) (deep - 1) i h ah ah hi
 have XC:∃ m D,m<=5000/\Pg.Post (Gd m D) (Ag (gu<|d - 1)<|gu<|d - 2):=⟨pw d+1,yY (d - 1)+yY (d - 2)+1,ah,agw ((kR<|d - 1).imp fun t ht=>ht.mono (DZ ah) ah) ((kR<|d - 2).imp fun t ht=>ht.mono (DZ ah) ah) ah⟩
 obtain ⟨ml,dl,hml,XC⟩:=XC;have pI:∀ l:List Int,0 < l.length->Pg.Post (fun _=>True) (Cv l):=fun l hl=>SN l hl fun _ _=>trivial;refine Sm.bind hi (eX 2) (vI b hb 2 i h hi) fun a i h ha hi=>?_;dsimp only;refine Sm.bind hi (eX 16) (vI b hb 16 i h hi) fun r i h hr hi=>?_;dsimp only;have wa:IntKind.wrap .i64 (51+a)=51+a:=wrap64 ah ah;rw [wa];have hK:∀ y:Bool,Sm b (SV (gu d) (gu<|d - 1) (gu<|d - 2) r y) (bU 0) i h (QW (N+1) (qI<|N+1) b (deep,(r,(i:Int),h),y)):=fun y=>by
  unfold QW SV;dsimp only;rw [w1];refine Sm.cond (fun _=>?_) fun _=>Sm.cond (fun _=>?_) fun _=>Sm.cond (fun _=>?_) fun _=>Sm.cond (fun _=>?_) fun _=>?_
  .refine Sm.bind hi (pI _ aJ) (Xy b hb _ aJ i h hi) fun o i h _ hi=>?_;dsimp only;refine Sm.bind hi (kR d) (e1 i h hi) fun t i h ht hi=>?_;exact lI (α:=Unit) b hb ah 11 o [] [] [t] (by have:=ht.1;simp only [aS];omega) i h
  .refine Sm.bind hi pX (Iu b hb i h hi) fun x i h _ hi=>?_;dsimp only;refine Sm.bind hi (Cw (kR d) 1 2 ah) (abG b hb (N:=N) ah (hB d ah) 1 2 ah ah (deep - 1) ah ah ah i h hi) fun ts i h hts hi=>?_;exact lI (α:=Unit) b hb ah 13 0 x [] ts (by have:=hts.2.2.1;omega) i h
  .refine Sm.bind hi (kR d) (e1 i h hi) fun t i h ht hi=>?_;dsimp only;refine Sm.bind hi (kR d) (e1 i h hi) fun u i h hu hi=>?_;dsimp only;refine Sm.bind hi (kR d) (e1 i h hi) fun v i h hv hi=>?_;exact lI (α:=Unit) b hb ah 14 0 [] [] [t,u,v] (by have:=ht.1;have:=hu.1;have:=hv.1;simp only [aS];omega) i h
  .refine Sm.bind hi (pI _ aJ) (Xy b hb _ aJ i h hi) fun o i h _ hi=>?_;dsimp only;refine Sm.bind hi XC (lv1 i h hi) fun t i h ht hi=>?_;dsimp only;refine Sm.bind hi (kR d) (e1 i h hi) fun u i h hu hi=>?_;exact lI (α:=Unit) b hb ah 15 o [] [] [t,u] (by have:=ht.1;have:=hu.1;simp only [aS];omega) i h
  .refine Sm.bind hi agt (awR b hb i h hi) fun o i h _ hi=>?_;dsimp only;refine Sm.bind hi (kR d) (e1 i h hi) fun t i h ht hi=>?_;dsimp only;refine Sm.bind hi (kR d) (e1 i h hi) fun u i h hu hi=>?_;exact lI (α:=Unit) b hb ah 12 o [] [] [t,u] (by have:=ht.1;have:=hu.1;simp only [aS];omega) i h
 refine Sm.cond (fun _=>Cu<|amO b hb i h hi) fun _=>Sm.cond (fun _=>Cu<|lv0 i h hi) fun _=>Sm.cond (fun _=>?_) fun _=>Sm.cond (fun _=>?_) fun _=>Sm.cond (fun _=>?_) fun _=>Sm.cond (fun _=>?_) fun _=>Sm.cond (fun _=>?_) fun _=>Sm.cond (fun _=>hK _) fun _=>hK _
 .rw [w1];refine Sm.bind hi (kR d) (e1 i h hi) fun t i h ht hi=>?_;exact lI (α:=Unit) b hb ah 6 0 [] [] [t] (by have:=ht.1;simp only [aS];omega) i h
 .refine Sm.bind hi pX (Iu b hb i h hi) fun x i h _ hi=>?_;dsimp only;rw [w1];refine Sm.bind hi (Cw (kR d) 0 3 ah) (abG b hb (N:=N) ah (hB d ah) 0 3 ah ah (deep - 1) ah ah ah i h hi) fun ts i h hts hi=>?_;exact lI (α:=Unit) b hb ah 7 0 x [] ts (by have:=hts.2.2.1;omega) i h
 .refine Sm.bind hi (uw _ aJ aJ) (Ir b hb _ aJ i h hi) fun x i h _ hi=>?_;dsimp only;rw [w2];refine Sm.bind hi (Cw (kR<|d - 1) 0 3 ah) (abG b hb (N:=N) ah (hB (d - 1) ah) 0 3 ah ah (deep - 2) ah ah ah i h hi) fun ts i h hts hi=>?_;exact lI (α:=Unit) b hb ah 8 0 x [] ts (by have:=hts.2.2.1;omega) i h
 .rw [w1];refine Sm.bind hi XC (lv1 i h hi) fun t i h ht hi=>?_;exact lI (α:=Unit) b hb ah 9 (51+a) [] [] [t] (by have:=ht.1;simp only [aS];omega) i h
 .rw [w1];refine Sm.bind hi XC (lv1 i h hi) fun t i h ht hi=>?_;exact lI (α:=Unit) b hb ah 10 (51+a) [] [] [t] (by have:=ht.1;simp only [aS];omega) i h
theorem xs_all:∀ (d N:Nat),d<=6->1048580+3*d<=N->XS b N d:=by
 intro d;induction d using Nat.strongRecOn with
 | _ d ih=>
  intro N hd hN;cases d with
  | zero=>exact awY b hb ah
  | succ d=>
   obtain ⟨N,rfl⟩:∃ m,N=m+1+1:=⟨N - 2,ah⟩
   exact awZ b hb ah ah (fun e he=>ih e ah (N+1) ah ah) (fun e he=>ih e ah N ah ah)
theorem amR (N d:Nat) (hd:d<=6) (hN:1048700<=N) (deep:Int) (hdp:deep.toNat=d) (g1: -1000<=deep) (g2:deep<=1000) (i:Nat) (h:Int) (hi:i<=b.length):Sm b (gu d) (bU 0) i h (fA N deep b (i:Int) h):=xs_all b hb d N hd ah deep i h hdp g1 g2 hi
theorem agz (N d:Nat) (hd:d<=6) (hN:1048700<=N) (lo hi':Nat) (hl:lo<=hi') (hh:hi'<=90) (deep:Int) (hdp:deep.toNat=d) (g1: -900<=deep) (g2:deep<=900) (i:Nat) (h:Int) (hi:i<=b.length):
  Sm b (Ah (lo:Int) (hi':Int)<|gu d) (fun ts=>ts.map<|bU 0) i h (wM N (lo:Int) (hi':Int) deep b (i:Int) h):=by
 obtain ⟨N,rfl⟩:∃ m,N=m+1:=⟨N - 1,ah⟩
 exact abG b hb ah (xs_all b hb d N hd ah) lo hi' hl hh deep hdp g1 g2 i h hi
def vJ:Pg av:=(kQ 4).bind fun r=>gu (1+r).toNat
def fits (m:Nat) (t:av):Bool:=Nat.ble (aV t) m
omit hb in
theorem axb:Pg.Post (Gd 256 6) vJ:=(eX 4).bind fun r hr=>(kR _).imp fun t ht=>ht.mono (DZ (a:=(1+r).toNat) (c:=4) ah) (by unfold yY;split<;>omega)
omit hb in
theorem axc:Pg.Le vJ 404:=Pg.eu.bind (eX 4) (below_le 4 ah) (m:=403) (fun r hr=>(OA _).mono<|SX (a:=(1+r).toNat) (c:=4) ah) ah
theorem axd {N:Nat} (hN:1048700<=N):∀ (n i:Nat) (h:Int),i<=b.length->MN N b n ((i:Int),h)=(Pg.loop b vJ (fits 60) n i h).map fun r=>(bU 0 r.1,(r.2.1:Int),r.2.2):=by
 intro n;induction n with
 | zero=>intro i h hi;rfl
 | succ n ih=>
  intro i h hi;have hs:Sm b vJ (bU 0) i h ((jD 4 b (i:Int) h).bind fun r9=>fA N (IntKind.wrap .i64<|1+r9.1) b r9.2.1 r9.2.2):=by
   refine Sm.bind hi (eX 4) (vI b hb 4 i h hi) fun r i h hr hi=>?_;dsimp only;rw [wrap64 ah ah];exact amR b hb N _ ah hN (1+r) rfl ah ah i h hi
  rw [MN,Pg.loop];unfold Sm at hs;have e:∀ g:(List aC×Int×Int)->Option (List aC×Int×Int),((jD 4 b (i:Int) h).bind fun r9=>Option.bind (fA N (IntKind.wrap .i64<|1+r9.1) b r9.2.1 r9.2.2) g)=Option.bind ((jD 4 b (i:Int) h).bind fun r9=>fA N (IntKind.wrap .i64<|1+r9.1) b r9.2.1 r9.2.2) g:=fun g=>by
   cases jD 4 b (i:Int) h<;>rfl
  rw [e,hs,aB];dsimp only;have hf:decide (((bU 0 (Pg.run b vJ i h).1).length:Int)<=60)=fits 60 (Pg.run b vJ i h).1:=by
   rw [vU];unfold fits;cases hc:Nat.ble (aV (Pg.run b vJ i h).1) 60 with
   | true=>have:=EC hc;exact mH ah
   | false=>refine uL fun hh=>?_;rw [aiL ah] at hc;cases hc
  rw [hf];cases fits 60 (Pg.run b vJ i h).1 with
  | true=>rfl
  | false=>rw [aI,aI];exact ih _ _ (Pg.FN b vJ i h hi)
end
end Go.Proofs.Tryz
