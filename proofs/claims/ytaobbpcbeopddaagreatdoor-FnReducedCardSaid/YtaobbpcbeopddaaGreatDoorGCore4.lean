/-
 Abstract values, states, walks, part 4.
-/
import Derived.Test.YtaobbpcbeopddaaGreatDoorGCore3
import Derived.LoopN
import Derived.KernelRfl
import Derived.Below
import Derived.ChangeSame
import Derived.ChangeReads
import Derived.ChangeArms
import Derived.ReadAgain
import Derived.WideShapes
import Derived.Lib.Bytealg
import Derived.Laws.Externs
set_option linter.all false
namespace Go.Av
def ix {α:Type} (l:List α) (i:Int):Option α:=if 0<=i then l[i.toNat]? else none
def upd {α:Type} (l:List α) (i:Int) (x:α):Option (List α):=if 0<=i/\i.toNat < l.length then some (l.set i.toNat x) else none
def cut {α:Type} (l:List α) (lo hi:Int):Option (List α):=if 0<=lo/\lo<=hi/\hi<=l.length then some ((l.drop lo.toNat).take<|hi.toNat - lo.toNat) else none
def cat (a b:List UInt8):Option (List UInt8):=if a.length+b.length<=maxLen then some (a++b) else none
def app {α:Type} (n:Nat) (l l2:List α):Option (List α):=if (l.length+l2.length)*n<=140737488355328 then some (l++l2) else none
def mk {α:Type} (n:Nat) (z:α) (i:Int):Option (List α):=if 0<=i/\n*i.toNat<=281474976710656/\i.toNat<=maxLen then some (List.replicate i.toNat z) else none
def Ic {α:Type} {l:List α} {i:Int} {x:α} (h:ix l i=some x):i=(i.toNat:Int)/\l[i.toNat]?=some x:=by
 unfold ix at h;split at h
 .exact ⟨ah,h⟩
 .cases h
section
variable {P:Program} {G:Nat->Option (List V)}
def oD (ops:Array Oper) (i:Nat) (T:List V):Option Op:=
 match ops[i]? with
 | some o=>match wu ops T o.guard with
  | some true=>some o.op
  | _=>none
 | none=>none
def jf (ops:Array Oper) (i:Nat):Option Tmp:=(ops[i]?).bind (·.dst)
theorem Vy (H:Hp):bU [] H=H:=by
 unfold bU;exact List.filter_eq_self.2 fun _ _=>rfl
theorem En {ops:Array Oper} {draw:Bool} {T0:List V} {H0:Hp} {i:Nat} {T:List V} {H:Hp} {Es:List (Bool×Eff)} {Q:St->Prop} (E:Eff) {op:Op} (h:oD ops i T=some op) (hop:∀ o:Oper,o.op=op->uW P G o (ev G T) E H)
  (k:W P G ops draw T0 H0 (i+1) (fB T (jf ops i) E.v) (E.new++bU E.C H) (Es++[(true,E)]) Q):W P G ops draw T0 H0 i T H Es Q:=by
 unfold oD at h;split at h
 .rename_i o ho;split at h
  .rename_i hw;cases h;refine W.one E ho hw (hop o rfl) ?_;have:jf ops i=o.dst:=by unfold jf;rw [ho];rfl
   rw [this] at k;exact k
  .cases h
 .cases h
theorem AY {ops:Array Oper} {draw:Bool} {T0:List V} {H0:Hp} {i:Nat} {T:List V} {H:Hp} {Es:List (Bool×Eff)} {Q:St->Prop} (v:V) (R:List Nat) {op:Op} (h:oD ops i T=some op)
  (hop:∀ o:Oper,o.op=op->∀ e' H',(∀ x,x∈op.operands->e' x=ev G T x)->(∀ x,x∈R->look H' x=look H x)->gH P G o e' H' v H' [])
  (k:W P G ops draw T0 H0 (i+1) (fB T (jf ops i) v) H (Es++[(true,{v:=v,R:=R})]) Q):W P G ops draw T0 H0 i T H Es Q:=by
 refine En {v:=v,R:=R} h (fun o ho e' H' he hH _=>?_) (by simpa [Vy] using k);exact (hop o ho e' H' (by rw [<- ho];exact he) fun x hx=>hH x<|.inl hx).congr fun y=>by rw [FL];simp [Eff.touch,look]
def Nb (D:Tab) (G:Nat->Option (List V)) (ops:Array Oper) (i:Nat) (T:List V):Option (List (List V)×Int×Nat):=
 match oD ops i T with
 | some (.indexAddr t x ix)=>match D.at t,ev G T x,ev G T ix with
  | some it,.sl _ _ rows,.c (.int _ n)=>match it.d with
   | .slice el=>match D.at el with
    | some ie=>some (rows,n,ie.size)
    | none=>none
   | _=>none
  | _,_,_=>none
 | _=>none
theorem W.Nb {D:Tab} (hD:dQ P D) {ops:Array Oper} {draw:Bool} {T0:List V} {H0:Hp} {i:Nat} {T:List V} {H:Hp} {Es:List (Bool×Eff)} {Q:St->Prop} {α:Type} (enc:α->List V) {l:List α} {n:Int} {x:α} (hx:ix l n=some x)
  (sz:Nat) (h:Nb D G ops i T=some (l.map enc,n,sz)) (hs:(enc x).length=sz)
  (k:W P G ops draw T0 H0 (i+1) (fB T (jf ops i)<|.el<|enc x) H (Es++[(true,{v:=.el (enc x)})]) Q):W P G ops draw T0 H0 i T H Es Q:=by
 obtain ⟨h1,h2⟩:=Ic hx;unfold Av.Nb at h;split at h
 .rename_i t xo io hop;split at h
  .rename_i it nn b rows kk n' ht hxv hiv;split at h
   .rename_i el hit;split at h
    .rename_i ie hel;cases h;refine AY (.el<|enc x) [] hop (fun o ho e' H' he _=>?_) k;exact atN hD n.toNat ho ht hit hel ((he xo gy).trans hxv) ((he io gy).trans hiv) h1 (by rw [gD,h2];rfl) hs
    .cases h
   .cases h
  .cases h
 .cases h
def uY (D:Tab) (G:Nat->Option (List V)) (ops:Array Oper) (i:Nat) (T:List V) (H:Hp):Option (Nat×List (List V)×Int×Nat):=
 match oD ops i T with
 | some (.indexAddr t x ix)=>match D.at t,ev G T x,ev G T ix with
  | some it,.own j,.c (.int _ n)=>match it.d,look H j with
   | .slice el,some (.vec _ _ k rows)=>match D.at el with
    | some ie=>if k=ie.size then some (j,rows,n,ie.size) else none
    | none=>none
   | _,_=>none
  | _,_,_=>none
 | _=>none
theorem W.uY {D:Tab} (hD:dQ P D) {ops:Array Oper} {draw:Bool} {T0:List V} {H0:Hp} {i:Nat} {T:List V} {H:Hp} {Es:List (Bool×Eff)} {Q:St->Prop} {α:Type} (enc:α->List V) {l:List α} {n:Int} {x:α} (hx:ix l n=some x)
  (j sz:Nat) (h:uY D G ops i T H=some (j,l.map enc,n,sz))
  (k:W P G ops draw T0 H0 (i+1) (fB T (jf ops i)<|.vp j sz n.toNat 0) H (Es++[(true,{v:=.vp j sz n.toNat 0,R:=[j]})]) Q):W P G ops draw T0 H0 i T H Es Q:=by
 obtain ⟨h1,h2⟩:=Ic hx;unfold Av.uY at h;split at h
 .rename_i t xo io hop;split at h
  .rename_i it j' kk n' ht hxv hiv;split at h
   .rename_i el nn FI k' rows hit hl;split at h
    .rename_i ie hel;split at h
     .rename_i hc;subst hc;cases h;refine AY (.vp j ie.size n.toNat 0) [j] hop (fun o ho e' H' he iA=>?_) k;refine atO hD n.toNat ho ht hit hel ((he xo gy).trans hxv) (by rw [iA j aF];exact hl) ((he io gy).trans hiv) h1 ?_;have:=(dK.1 h2).1;simpa using this
     .cases h
    .cases h
   .cases h
  .cases h
 .cases h
def Eo (G:Nat->Option (List V)) (ops:Array Oper) (i:Nat) (T:List V) (H:Hp):Option (TypeId×Nat×Nat×Nat×List (List V)):=
 match oD ops i T with
 | some (.load t a)=>match ev G T a with
  | .vp j k m b=>match look H j with
   | some (.vec _ _ k' rows)=>if k=k' then some (t,j,m,b,rows) else none
   | _=>none
  | _=>none
 | _=>none
theorem W.Eo {D:Tab} (hD:dQ P D) {ops:Array Oper} {draw:Bool} {T0:List V} {H0:Hp} {i:Nat} {T:List V} {H:Hp} {Es:List (Bool×Eff)} {Q:St->Prop} {α:Type} (enc:α->List V) {l:List α} {n:Int} {x:α} (hx:ix l n=some x)
  (t j b:Nat) (v:V) (h:Eo G ops i T H=some (t,j,n.toNat,b,l.map enc)) (hv:Ee D t (((enc x).drop b).map V.clean)=some v)
  (k:W P G ops draw T0 H0 (i+1) (fB T (jf ops i) v) H (Es++[(true,{v:=v,R:=[j]})]) Q):W P G ops draw T0 H0 i T H Es Q:=by
 obtain ⟨h1,h2⟩:=Ic hx;unfold Av.Eo at h;split at h
 .rename_i t' a hop;split at h
  .rename_i j' k' m b' ha;split at h
   .rename_i nn ety k'' rows hl;split at h
    .subst_vars;simp only [iG,pR] at h;obtain ⟨rfl,rfl,rfl,rfl,rfl⟩:=h;refine AY v [j'] hop (fun o ho e' H' he iA=>?_) k;exact akO hD ho ((he a gy).trans ha) (by rw [iA j' aF];exact hl) (by rw [gD,h2];rfl) hv
    .cases h
   .cases h
  .cases h
 .cases h
def Ie (D:Tab) (G:Nat->Option (List V)) (ops:Array Oper) (i:Nat) (T:List V) (H:Hp):Option (Nat×Bool×Tg×Nat×Nat×Nat×List (List V)×List V×List Nat×List Nat):=
 match oD ops i T with
 | some (.store t a x)=>match D.at t,ev G T a,uU H (ev G T x) with
  | some it,.vp j k m b,some cs=>match look H j,wB H cs with
   | some (.vec nn ety k' rows),some (ys,C)=>if k=k'/\C.Nodup/\j∉C/\cs.length=it.size/\b+cs.length<=k then some (j,nn,ety,k,m,b,rows,ys,C,(ev G T x).ids) else none
   | _,_=>none
  | _,_,_=>none
 | _=>none
theorem W.Ie {D:Tab} (hD:dQ P D) {ops:Array Oper} {draw:Bool} {T0:List V} {H0:Hp} {i:Nat} {T:List V} {H:Hp} {Es:List (Bool×Eff)} {Q:St->Prop} {α:Type} (enc:α->List V) {l l':List α} {n:Int} {x x':α} (hx:ix l n=some x) (hu:upd l n x'=some l')
  {j:Nat} {nn:Bool} {ety:Tg} {sz b:Nat} {ys:List V} {C R:List Nat} (h:Ie D G ops i T H=some (j,nn,ety,sz,n.toNat,b,l.map enc,ys,C,R)) (hp:putAt (enc x) ys b=enc x')
  (k:W P G ops draw T0 H0 (i+1) (fB T (jf ops i) .junk) ((j,.vec nn ety sz<|l'.map enc)::bU (j::C) H) (Es++[(true,{v:=.junk,R:=R,C:=j::C,new:=[(j,.vec nn ety sz<|l'.map enc)]})]) Q):W P G ops draw T0 H0 i T H Es Q:=by
 obtain ⟨h1,h2⟩:=Ic hx;have hl':l'=l.set n.toNat x':=by
  unfold upd at hu;split at hu
  .exact (kD hu).symm
  .cases hu
 subst hl';unfold Av.Ie at h;split at h
 .rename_i t a xo hop;split at h
  .rename_i it j' k' m b' cs ht ha hcs;split at h
   .rename_i mG akQ k'' rows ys' C' hl hab;split at h
    .rename_i hc;obtain ⟨rfl,hC,hj,hsz,hfit⟩:=hc;simp only [iG,pR] at h;obtain ⟨rfl,rfl,rfl,rfl,rfl,rfl,rfl,rfl,rfl,rfl⟩:=h;refine En {v:=.junk,R:=(ev G T xo).ids,C:=j'::C',new:=[(j',.vec mG akQ k'<|(l.set n.toNat x').map enc)]} hop (fun o ho e' H' he iA _=>?_) k;have hop':∀ y,y∈o.op.operands->e' y=ev G T y:=he;have ha':=(hop' a<|by simp [ho,Op.operands]).trans ha;have hcs':uU H' (e' xo)=some cs:=by
      rw [hop' xo (by simp [ho,Op.operands]),aal fun q hq=>iA q<|.inl hq];exact hcs
     have hlk:look H' j'=some (.vec mG akQ k'<|l.map enc):=by
      rw [iA j'<|.inr<|by simp [Eff.touch]];exact hl
     have hab':wB H' cs=some (ys',C'):=by
      have key:∀ (cs ys:List V) (C2:List Nat),wB H cs=some (ys,C2)->(∀ c,c∈C2->c∈C')->wB H' cs=some (ys,C2):=by
       intro cs;induction cs with
       | nil=>intro ys C2 h _;exact h
       | cons y l ih=>
        intro ys C2 h hsub;simp only [wB,dB,eD] at h ⊢;obtain ⟨⟨z,C1⟩,h1,⟨zs,C3⟩,h2,h3⟩:=h;cases h3;refine ⟨(z,C1),?_,(zs,C3),ih zs C3 h2 fun c hc=>hsub c<|jo.2<|.inr hc,rfl⟩;cases y with
        | own q=>
         simp only [Eh] at h1 ⊢;split at h1
         .rename_i _ _ _ _ hlq;split at h1
          .rename_i hh;cases h1;have hj:look H' q=look H q:=iA q (.inr<|by simp [Eff.touch];exact .inl<|.inr<|hsub q aF);rw [hj,hlq];simp only [hh,kF]
          .cases h1
         .cases h1
        | c u=>rw [akG H H'];exact h1
        | _=>exact h1
      exact key cs ys' C' hab fun c hc=>hc
     have hrow:(l.map enc)[n.toNat]?=some (enc x):=by rw [gD,h2];rfl
     have:=auu (G:=G) hD ho ht ha' hlk hrow hcs' hab' hC hj hsz hfit;rw [hp,<- ZP] at this;exact this
    .cases h
   .cases h
  .cases h
 .cases h
def wG (D:Tab) (G:Nat->Option (List V)) (ops:Array Oper) (i:Nat) (T:List V):Option (V×Int):=
 match oD ops i T with
 | some (.index t x ix)=>match D.at t,ev G T ix with
  | some it,.c (.int _ n)=>match it.d with
   | .str=>some (ev G T x,n)
   | _=>none
  | _,_=>none
 | _=>none
theorem W.wG {D:Tab} (hD:dQ P D) {ops:Array Oper} {draw:Bool} {T0:List V} {H0:Hp} {i:Nat} {T:List V} {H:Hp} {Es:List (Bool×Eff)} {Q:St->Prop} {s:List UInt8} {n:Int} {c:UInt8} (hx:ix s n=some c) (h:wG D G ops i T=some (V.s s,n))
  (k:W P G ops draw T0 H0 (i+1) (fB T (jf ops i)<|.c<|.int .u8 c.toNat) H (Es++[(true,{v:=.c (.int .u8 c.toNat)})]) Q):W P G ops draw T0 H0 i T H Es Q:=by
 obtain ⟨h1,h2⟩:=Ic hx;unfold Av.wG at h;split at h
 .rename_i t xo io hop;split at h
  .rename_i it kk n' ht hiv;split at h
   .rename_i hit;simp only [iG,pR] at h;obtain ⟨hxv,rfl⟩:=h;refine AY (.c<|.int .u8 c.toNat) [] hop (fun o ho e' H' he _=>?_) k;exact atQ hD n'.toNat ho ht hit ((he xo gy).trans hxv) ((he io gy).trans hiv) h1 h2
   .cases h
  .cases h
 .cases h
def KE (G:Nat->Option (List V)) (T:List V) (d:Int):Option Operand->Option Int
 | none=>some d
 | some x=>match ev G T x with
  | .c (.int _ n)=>some n
  | _=>none
theorem auA {G:Nat->Option (List V)} {T:List V} {e':Operand->V} {len:Nat} {l h:Option Operand} {lo hi:Int} (hl:KE G T 0 l=some lo) (hh:KE G T len h=some hi) (h1:0<=lo/\lo<=hi/\hi<=len)
  (he:∀ x,l=some x\/h=some x->e' x=ev G T x):aaf e' len lo.toNat hi.toNat l h:=by
 refine ⟨ah,ah,?_,?_⟩
 .cases l with
  | none=>simp only [KE,iG] at hl;simp only;omega
  | some x=>
   simp only [KE] at hl;split at hl
   .rename_i k n hx;cases hl;exact ⟨k,by rw [he x<|.inl rfl,hx,show ((lo.toNat:Nat):Int)=lo by omega]⟩
   .cases hl
 .cases h with
  | none=>simp only [KE,iG] at hh;simp only;omega
  | some x=>
   simp only [KE] at hh;split at hh
   .rename_i k n hx;cases hh;exact ⟨k,by rw [he x<|.inr rfl,hx,show ((hi.toNat:Nat):Int)=hi by omega]⟩
   .cases hh
def aap (D:Tab) (G:Nat->Option (List V)) (ops:Array Oper) (i:Nat) (T:List V) (len:Nat):Option (V×Int×Int×Nat):=
 match oD ops i T with
 | some (.slice t x l h none)=>match D.at t,KE G T 0 l,KE G T len h with
  | some it,some lo,some hi=>match it.d with
   | .slice el=>match D.at el with
    | some ie=>some (ev G T x,lo,hi,ie.size)
    | none=>none
   | _=>none
  | _,_,_=>none
 | _=>none
theorem W.aap {D:Tab} (hD:dQ P D) {ops:Array Oper} {draw:Bool} {T0:List V} {H0:Hp} {i:Nat} {T:List V} {H:Hp} {Es:List (Bool×Eff)} {Q:St->Prop} {α:Type} (enc:α->List V) {s r:List α} {lo hi:Int} (hx:cut s lo hi=some r) (b:Bool) (sz:Nat) (henc:∀ x,(enc x).length=sz)
  (h:aap D G ops i T s.length=some (.sl b false<|s.map enc,lo,hi,sz))
  (k:W P G ops draw T0 H0 (i+1) (fB T (jf ops i)<|.sl b false<|r.map enc) H (Es++[(true,{v:=.sl b false (r.map enc)})]) Q):W P G ops draw T0 H0 i T H Es Q:=by
 unfold cut at hx;split at hx
 .rename_i hb;cases hx;unfold Av.aap at h;split at h
  .rename_i t xo l hh hop;split at h
   .rename_i it lo' hi' ht hlo hhi;split at h
    .rename_i el hit;split at h
     .rename_i ie hel;simp only [iG,pR] at h;obtain ⟨hxv,rfl,rfl,rfl⟩:=h;refine AY (.sl b false _) [] hop (fun o ho e' H' he _=>?_) k;have:=atS (G:=G) (P:=P) (H:=H') hD lo'.toNat hi'.toNat ho ht hit hel ((he xo gy).trans hxv) (fun r hr=>by obtain ⟨x,_,rfl⟩:=jW.1 hr;exact henc x)
       (auA hlo (by simpa using hhi) (by simpa using hb) fun x hx=>he x<|by rcases hx with rfl|rfl<;>simp [Op.operands])
      rw [List.map_take,List.map_drop];exact this
     .cases h
    .cases h
   .cases h
  .cases h
 .cases hx
def aaq (D:Tab) (G:Nat->Option (List V)) (ops:Array Oper) (i:Nat) (T:List V) (H:Hp):Option (Nat×TypeId×Nat×List (List V)×Int):=
 match oD ops i T with
 | some (.slice t x none (some h) none)=>match D.at t,ev G T x,ev G T h with
  | some it,.own j,.c (.int _ n)=>match it.d,look H j with
   | .slice el,some (.vec _ tg k rows)=>match D.at el with
    | some ie=>if tg.elt=some el/\k=ie.size then some (j,el,ie.size,rows,n) else none
    | none=>none
   | _,_=>none
  | _,_,_=>none
 | _=>none
theorem W.aaq {D:Tab} (hD:dQ P D) {ops:Array Oper} {draw:Bool} {T0:List V} {H0:Hp} {i:Nat} {T:List V} {H:Hp} {Es:List (Bool×Eff)} {Q:St->Prop} {α:Type} (enc:α->List V) {s r:List α} {n:Int} (hx:cut s 0 n=some r) (q:Nat) {j el sz:Nat}
  (h:aaq D G ops i T H=some (j,el,sz,s.map enc,n))
  (k:W P G ops draw T0 H0 (i+1) (fB T (jf ops i)<|.own q) ((q,.vec false (Tg.cut el sz) sz<|r.map enc)::bU [j] H) (Es++[(true,{v:=.own q,C:=[j],new:=[(q,.vec false (Tg.cut el sz) sz<|r.map enc)],N:=[q]})]) Q):W P G ops draw T0 H0 i T H Es Q:=by
 unfold cut at hx;split at hx
 .rename_i hb;cases hx;unfold Av.aaq at h;split at h
  .rename_i t xo hh hop;split at h
   .rename_i it j' kk n' ht hxv hhv;split at h
    .rename_i el0 nn tg k' rows hit hl;split at h
     .rename_i ie hel;split at h
      .rename_i hc;obtain ⟨aeP,rfl⟩:=hc;simp only [iG,pR] at h;obtain ⟨rfl,rfl,rfl,rfl,rfl⟩:=h;refine En {v:=.own q,C:=[j'],new:=[(q,.vec false (Tg.cut el0 ie.size) ie.size _)],N:=[q]} hop (fun o ho e' H' he iA hN=>?_) k;simp only [FE,Kq,FC,kX] at hN;have:=auy (G:=G) hD q n'.toNat aeP ho ht hit hel ((he xo<|by simp [ho,Op.operands]).trans hxv) (by rw [iA j'<|.inr<|by simp [Eff.touch]];exact hl) ((he hh<|by simp [ho,Op.operands]).trans hhv) ah bT hN;simpa using this
      .cases h
     .cases h
    .cases h
   .cases h
  .cases h
 .cases hx
end
end Go.Av
namespace Go.Av
section
variable {P:Program} {G:Nat->Option (List V)}
def gX (D:Tab) (G:Nat->Option (List V)) (ops:Array Oper) (i:Nat) (T:List V) (H:Hp):Option (Nat×Nat×TypeId×Nat×Nat×List (List V)×List (List V)):=
 match oD ops i T with
 | some (.call c)=>match c.callee,c.args,c.argTypes with
  | .builtin .append,⟨[s,x]⟩,⟨[t,t']⟩=>match D.at t,ev G T s,ev G T x with
   | some it,.own a,.own b=>match it.d,look H a,look H b with
    | .slice el,some<|.vec _ (.ty el1) k1 rows,some (.vec _ (.ty el2) k2 fC)=>match D.at el with
     | some ie=>if t=t'/\a≠b/\el1=el/\el2=el/\k1=ie.size/\k2=ie.size then some (a,b,el,ie.size,ie.bytes,rows,fC) else none
     | none=>none
    | _,_,_=>none
   | _,_,_=>none
  | _,_,_=>none
 | _=>none
theorem aar {α:Type} {b:Nat} {l l2 r:List α} (hb:1<=b) (h:app b l l2=some r):r=l++l2/\(l.length+l2.length)*b<=140737488355328/\l.length+l2.length<=maxLen:=by
 unfold app at h;split at h
 .rename_i hc;refine ⟨(kD h).symm,hc,?_⟩;have:(l.length+l2.length)*1<=(l.length+l2.length)*b:=Nat.mul_le_mul_left _ hb;simp only [maxLen];omega
 .cases h
theorem W.gX {D:Tab} (hD:dQ P D) {ops:Array Oper} {draw:Bool} {T0:List V} {H0:Hp} {i:Nat} {T:List V} {H:Hp} {Es:List (Bool×Eff)} {Q:St->Prop} {α:Type} (enc:α->List V) {l l2 r:List α} (b:Nat) (hx:app b l l2=some r) (hb:Nat.ble 1 b=true) (q:Nat) {a c el sz:Nat}
  (h:gX D G ops i T H=some (a,c,el,sz,b,l.map enc,l2.map enc))
  (k:W P G ops draw T0 H0 (i+1) (fB T (jf ops i)<|.own q) ((q,.vec false el sz<|r.map enc)::bU [a,c] H) (Es++[(true,{v:=.own q,C:=[a,c],new:=[(q,.vec false el sz<|r.map enc)],N:=[q]})]) Q):W P G ops draw T0 H0 i T H Es Q:=by
 obtain ⟨rfl,h1,h2⟩:=aar (Fy hb) hx;unfold Av.gX at h;split at h
 .rename_i cl hop;obtain ⟨callee,args,ats⟩:=cl;simp only at h;split at h
  .rename_i s x t t' ;split at h
   .rename_i it a' c' ht hs hxv;split at h
    .rename_i FI nn1 el1 k1 rows kH el2 k2 fC hit hl1 hl2;split at h
     .rename_i ie hel;split at h
      .rename_i hc;obtain ⟨rfl,hne,rfl,rfl,rfl,rfl⟩:=hc;simp only [iG,pR] at h;obtain ⟨rfl,rfl,rfl,rfl,rfl,rfl,rfl⟩:=h;refine En {v:=.own q,C:=[a',c'],new:=[(q,.vec false _ ie.size<|(l++l2).map enc)],N:=[q]} hop (fun o ho e' H' he iA hN=>?_) k;simp only [FE,Kq,FC,kX] at hN;have:=atJ (G:=G) hD q false ho ht hit hel ((he s<|by simp [ho,Op.operands,Call.operands]).trans hs) ((he x<|by simp [ho,Op.operands,Call.operands]).trans hxv) hne
        (by rw [iA a'<|.inr<|by simp [Eff.touch]];exact hl1) (by rw [iA c'<|.inr<|by simp [Eff.touch]];exact hl2) (by simpa using h2) (by simpa using h1) hN aF
       rw [vZ];exact this
      .cases h
     .cases h
    .cases h
   .cases h
  .cases h
 .cases h
def aas (D:Tab) (G:Nat->Option (List V)) (ops:Array Oper) (i:Nat) (T:List V) (H:Hp):Option (Nat×TypeId×Nat×Nat×List (List V)×List (List V)):=
 match oD ops i T with
 | some (.call c)=>match c.callee,c.args,c.argTypes with
  | .builtin .append,⟨[s,x]⟩,⟨[t,t']⟩=>match D.at t,D.at t',ev G T s,ev G T x with
   | some it,some it',.own a,.sl _ _ fC=>match it.d,it'.d,look H a with
    | .slice el,.slice _,some (.vec _ (.ty el1) k1 rows)=>match D.at el with
     | some ie=>if el1=el/\k1=ie.size then some (a,el,ie.size,ie.bytes,rows,fC) else none
     | none=>none
    | _,_,_=>none
   | _,_,_,_=>none
  | _,_,_=>none
 | _=>none
theorem W.aas {D:Tab} (hD:dQ P D) {ops:Array Oper} {draw:Bool} {T0:List V} {H0:Hp} {i:Nat} {T:List V} {H:Hp} {Es:List (Bool×Eff)} {Q:St->Prop} {α:Type} (enc:α->List V) {l l2 r:List α} (b:Nat) (hx:app b l l2=some r) (hb:Nat.ble 1 b=true) (q:Nat) {a el:Nat} (sz:Nat) (henc:∀ x,(enc x).length=sz)
  (h:aas D G ops i T H=some (a,el,sz,b,l.map enc,l2.map enc))
  (k:W P G ops draw T0 H0 (i+1) (fB T (jf ops i)<|.own q) ((q,.vec false el sz<|r.map enc)::bU [a] H) (Es++[(true,{v:=.own q,C:=[a],new:=[(q,.vec false el sz<|r.map enc)],N:=[q]})]) Q):W P G ops draw T0 H0 i T H Es Q:=by
 obtain ⟨rfl,h1,h2⟩:=aar (Fy hb) hx;unfold Av.aas at h;split at h
 .rename_i cl hop;obtain ⟨callee,args,ats⟩:=cl;simp only at h;split at h
  .rename_i s x t t' ;split at h
   .rename_i it it' a' kH b2 fC ht ht' hs hxv;split at h
    .rename_i FI elx nn1 el1 k1 rows hit hit' hl1;split at h
     .rename_i ie hel;split at h
      .rename_i hc;obtain ⟨rfl,rfl⟩:=hc;simp only [iG,pR] at h;obtain ⟨rfl,rfl,rfl,rfl,rfl,rfl⟩:=h;refine En {v:=.own q,C:=[a'],new:=[(q,.vec false _ ie.size<|(l++l2).map enc)],N:=[q]} hop (fun o ho e' H' he iA hN=>?_) k;simp only [FE,Kq,FC,kX] at hN;have:=atK (G:=G) hD q false ho ht hit ht' hit' hel ((he s<|by simp [ho,Op.operands,Call.operands]).trans hs) ((he x<|by simp [ho,Op.operands,Call.operands]).trans hxv)
        (by rw [iA a'<|.inr<|by simp [Eff.touch]];exact hl1) (fun r hr=>by obtain ⟨y,_,rfl⟩:=jW.1 hr;exact henc y) (by simpa using h2) (by simpa using h1) hN aF
       rw [vZ];exact this
      .cases h
     .cases h
    .cases h
   .cases h
  .cases h
 .cases h
def Ig (G:Nat->Option (List V)) (ops:Array Oper) (q:Ren) (Z:List (Nat×List (List V))) (i:Nat) (T:List V) (H:Hp):Option (FuncId×List V×Hp):=
 match oD ops i T with
 | some (.call {callee:=.value f,args:=as,argTypes:=_})=>match ev G T f,wE q H q with
  | .fn fid caps,some Hc=>some (fid,xB q<|(as.toList.map (ev G T)++caps).map<|sM<|qO Z,Hc)
  | _,_=>none
 | _=>none
theorem W.call {ops:Array Oper} {draw:Bool} {T0:List V} {H0:Hp} {i:Nat} {T:List V} {H:Hp} {Es:List (Bool×Eff)} {Q:St->Prop} {fid:FuncId} {vs:List V} {Hc dU:Hp} {rc:V} (h:AC P G fid vs Hc rc dU) (hcf:yE P fid) (q m:Ren) {Z:List (Nat×List (List V))} (N:List Nat) (hZ:bO H Z) (hn:(Ej q m (Z.map (·.1)) N&&AX dU)=true)
  (hc:Ig G ops q Z i T H=some (fid,vs,Hc))
  (k:W P G ops draw T0 H0 (i+1) (fB T (jf ops i)<|rc.rn m) (je m dU++bU (Z.map (·.1)++q.map (·.1)) H) (Es++[(true,{v:=rc.rn m,C:=Z.map (·.1)++q.map (·.1),new:=je m dU,N:=N})]) Q):W P G ops draw T0 H0 i T H Es Q:=by
 simp only [dL] at hn;unfold Ig at hc;split at hc
 .rename_i f as ats hop;split at hc
  .rename_i aat caps Hc2 hf hh;simp only [iG,pR] at hc;obtain ⟨rfl,hvs,rfl⟩:=hc;refine En {v:=rc.rn m,C:=Z.map (·.1)++q.map (·.1),new:=je m dU,N:=N} hop (fun o ho=>?_) k;exact uW.call ho hf hcf h q m Z N hn.1 hn.2 hZ hh hvs
  .cases hc
 .cases hc
theorem W.nI {ops:Array Oper} {draw:Bool} {T0:List V} {H0:Hp} {i:Nat} {T:List V} {H:Hp} {Es:List (Bool×Eff)} {Q:St->Prop} {fid:FuncId} {vs:List V} {rc:V} (h:AC P G fid vs [] rc []) (hcf:yE P fid) (hr:rc.rn []=rc)
  (hc:Ig G ops [] [] i T H=some (fid,vs,[]))
  (k:W P G ops draw T0 H0 (i+1) (fB T (jf ops i) rc) H (Es++[(true,{v:=rc})]) Q):W P G ops draw T0 H0 i T H Es Q:=by
 refine W.call h hcf [] [] (Z:=[]) [] trivial rfl hc ?_;rw [hr];simpa [Vy,je] using k
end
end Go.Av
namespace Go.Av
section
variable {P:Program} {G:Nat->Option (List V)} {L:Option Nat} {B:Nat}
def aeR (L:Option Nat) (P:Program) (G:Nat->Option (List V)) (c:Code) (Q:Exit->St->Prop):Exit->St->Prop
 | .normal,st=>CO L P G c st Q
 | e,st=>Q e st
def auD (id:Nat) (Q:Exit->St->Prop):Exit->St->Prop
 | .exit i,st=>if i=id then Q .normal st else Q (.exit i) st
 | e,st=>Q e st
theorem aQ {x y:Code} {st:St} {Q:Exit->St->Prop} (h:CO L P G x st (aeR L P G y Q)):CO L P G (.seq x y) st Q:=
 ajM (h.mono fun e st' hq=>by cases e<;>exact hq)
theorem bq {id:Nat} {c:Code} {st:St} {Q:Exit->St->Prop} (h:CO L P G c st (auD id Q)):CO L P G (.block id c) st Q:=
 CO.block (h.mono fun e st' hq=>by cases e<;>exact hq)
def LoopN (L:Option Nat) (P:Program) (G:Nat->Option (List V)) (c:Code) (Q:Exit->St->Prop):Nat->St->Prop
 | 0,_=>False
 | n+1,st=>CO L P G c st fun e st'=>match e with
  | .normal=>LoopN L P G c Q n st'
  | e=>Q e st'
def Vz (L:Option Nat) (P:Program) (G:Nat->Option (List V)) (c:Code) (Q:Exit->St->Prop) (n:Nat):Exit->St->Prop
 | .normal,st=>LoopN L P G c Q n st
 | e,st=>Q e st
theorem aau {c:Code} {Q:Exit->St->Prop} {n:Nat} {st:St} (h:CO L P G c st (Vz L P G c Q n)):LoopN L P G c Q (n+1) st:=
 h.mono fun e st' hq=>by cases e<;>exact hq
theorem Rh {c:Code} {Q:Exit->St->Prop} {n:Nat} {st st':St} (hw:Weak st st') (h:LoopN L P G c Q n st'):LoopN L P G c Q n st:=by
 cases n with
 | zero=>exact h.elim
 | succ n=>exact jR hw h
theorem aeS {c:Code} {st:St} {Q:Exit->St->Prop} {n:Nat} (h:LoopN L P G c Q n st):CO L P G (.loop c) st Q:=by
 intro B ρ S F a w R hst hn;refine wpIn_loop_rounds n ?_;have key:∀ n st ρ' S' F' a' w',LoopN L P G c Q n st->nH B G ρ' S' F' st a' w'->(∀ e st',Q e st'->Onto B G ρ' S' F' st.H w' st' (R e))->Code.roundsIn (MR L) 0 P c R n a' w':=by
  intro n;induction n with
  | zero=>intro st ρ' S' F' a' w' h;exact h.elim
  | succ n ih=>
   intro st ρ' S' F' a' w' h hst hn;refine h B ρ' S' F' a' w' _ hst fun e st' hq=>?_;intro iK S1 F1 a1 w1 AO hE hA;cases e<;>first
    | exact hn _ st' hq iK S1 F1 a1 w1 AO hE hA
    | exact ih st' iK S1 F1 a1 w1 hq AO fun e2 st2 h2 sJ S2 F2 a2 w2 yC hE2 hA2=>hn e2 st2 h2 sJ S2 F2 a2 w2 yC (hE.trans hE2) (hA.trans hA2)
 exact key n st ρ S F a w h hst hn
theorem Ri {x:Operand} {c1 c2:Code} {T:List V} {H:Hp} {Q:Exit->St->Prop} {c:Bool} (hc:c=true) (hb:ev G T x=.c (.bool c)) (k:CO L P G c1 ⟨T,H⟩ Q):CO L P G (.cond x c1 c2) ⟨T,H⟩ Q:=by
 subst hc;exact ajN hb (fun _=>k) (fun h=>by cases h)
theorem aeT {x:Operand} {c1 c2:Code} {T:List V} {H:Hp} {Q:Exit->St->Prop} {c:Bool} (hc:c=false) (hb:ev G T x=.c (.bool c)) (k:CO L P G c2 ⟨T,H⟩ Q):CO L P G (.cond x c1 c2) ⟨T,H⟩ Q:=by
 subst hc;exact ajN hb (fun h=>by cases h) (fun _=>k)
theorem bD (T':List V) (H':Hp) {id:Nat} {l:List Oper} {draw:Bool} {c:Code} {T:List V} {H:Hp} {Q:Exit->St->Prop} (hm:P.follows .mixedOrders=true)
  (h:W P G l.toArray draw T H 0 T H [] fun st=>Weak st ⟨T',H'⟩) (k:CO L P G c ⟨T',H'⟩ Q):CO L P G (.seq (.region id l.toArray draw) c) ⟨T,H⟩ Q:=by
 refine aJ hm ?_;obtain ⟨tail,T1,H1,h1,h2,h3⟩:=h;exact ⟨tail,T1,H1,h1,h2,jR h3 k⟩
theorem pX (T':List V) (H':Hp) {id:Nat} {l:List Oper} {draw:Bool} {T:List V} {H:Hp} {Q:Exit->St->Prop} (hm:P.follows .mixedOrders=true)
  (h:W P G l.toArray draw T H 0 T H [] fun st=>Weak st ⟨T',H'⟩) (hQ:∀ st,Weak st ⟨T',H'⟩->Q .normal st):CO L P G (.region id l.toArray draw) ⟨T,H⟩ Q:=by
 refine oO hm ?_;obtain ⟨tail,T1,H1,h1,h2,h3⟩:=h;exact ⟨tail,T1,H1,h1,h2,hQ _ h3⟩
theorem W.is {ops:Array Oper} {draw:Bool} {T0:List V} {H0:Hp} {i:Nat} {T:List V} {H:Hp} {Es:List (Bool×Eff)} {Q:St->Prop} (d:Nat) {c b:Bool} (hc:c=b) (hd:T[d]?=some (.c<|.bool c))
  (k:W P G ops draw T0 H0 i (T.set d<|.c<|.bool b) H Es Q):W P G ops draw T0 H0 i T H Es Q:=by
 subst hc;rwa [set_self hd] at k
theorem Nc {α:Type} {c:Bool} {a b:Option α} {r:α} (h:(bif c then a else b)=some r):(c=true/\a=some r)\/(c=false/\b=some r):=by
 cases c
 .exact .inr ⟨rfl,h⟩
 .exact .inl ⟨rfl,h⟩
theorem bind_some {α β:Type} {x:Option α} {f:α->Option β} {r:β} (h:x.bind f=some r):∃ y,x=some y/\f y=some r:=dB.1 h
theorem Ends.two {fn:Func} {a b:Tmp} {r s:V} {T:List V} {H:Hp} {e:Exit} (he:e=.normal\/e=.ret) (h:fn.results=#[.tmp a,.tmp b]) (ha:T[a]?=some r) (hb:T[b]?=some s) {m:Ren} {r':V} {H':Hp} (hm:(m.ok&&m.keep&&AX H)=true) (hr:(V.jX [r,s]).rn m=r') (hH:je m H=H'):Ends P fn r' H' e ⟨T,H⟩:=by
 subst hr hH;simp only [dL] at hm;exact ⟨he,.jX [r,s],aO.two h (ZV ha)<|ZV hb,Weak.rn m hm.1.1 hm.1.2 (Ia m [V.jX [r,s]])<|Na (nU hm.2) H fun p hp=>hp⟩
theorem Ends.one {fn:Func} {a:Tmp} {r:V} {T:List V} {H:Hp} {e:Exit} (he:e=.normal\/e=.ret) (h:fn.results=#[.tmp a]) (ha:T[a]?=some r) {m:Ren} {r':V} {H':Hp} (hm:(m.ok&&m.keep&&AX H)=true) (hr:r.rn m=r') (hH:je m H=H'):Ends P fn r' H' e ⟨T,H⟩:=by
 subst hr hH;simp only [dL] at hm;exact ⟨he,r,aO.tmp h ha,Weak.rn m hm.1.1 hm.1.2 (Ia m [r])<|Na (nU hm.2) H fun p hp=>hp⟩
theorem bX.cell {D:Tab} (hD:dQ P D) {st:St} {a:Tmp} {t:TypeId} {r:V} {i:Nat} {ety:TypeId} {cs:List V} (ha:st.T[a]?=some (.loc i 0)) (hi:look st.H i=some (.cells ety cs)) (hr:Ee D t cs=some r):bX P st (.cell a t) r:=by
 intro B G ρ S F act w hst;have h1:=hst.tmps a _ ha;obtain ⟨r0,hr0,bY⟩:=hst.heap.obj i _ hi;obtain ⟨g,e1,e2⟩:=h1.aem r0 hr0;obtain ⟨u,hu,hv⟩:=akd hD (H:=st.H) (t:=t) (x:=.loc i 0) (v:=r) (by simp [MW,hi,hr]) hst.heap h1;refine ⟨u,?_,hv⟩;rw [e2] at hu;simp only [Instr.loadAt,Instr.sureAddr,gU,kY,gN] at hu;simp only [one,e2,asAddr,gU,kY,gN];exact hu
theorem Ends.cell {D:Tab} (hD:dQ P D) {fn:Func} {a:Tmp} {t:TypeId} {r:V} {i:Nat} {ety:TypeId} {cs:List V} {T:List V} {H:Hp} {e:Exit} (he:e=.normal\/e=.ret) (h:fn.results=#[.cell a t]) (ha:T[a]?=some (.loc i 0)) (hi:look H i=some (.cells ety cs)) (hr:Ee D t cs=some r)
  {m:Ren} {r':V} {H':Hp} (hm:(m.ok&&m.keep&&AX H)=true) (hr':r.rn m=r') (hH:je m H=H'):Ends P fn r' H' e ⟨T,H⟩:=by
 subst hr' hH;simp only [dL] at hm;exact ⟨he,r,aO.one h<|bX.cell hD ha hi hr,Weak.rn m hm.1.1 hm.1.2 (Ia m [r])<|Na (nU hm.2) H fun p hp=>hp⟩
end
end Go.Av
namespace Go.Av
section
variable {P:Program} {G:Nat->Option (List V)} {L:Option Nat} {B:Nat}
def akS (Z:List (Nat×List (List V))):Ob->Ob
 | .cells e cs=>.cells e (cs.map<|CB<|qO Z)
 | o=>o
def Rj (Z:List (Nat×List (List V))) (H:Hp):Hp:=(bU (Z.map (·.1)) H).map fun p=>(p.1,akS Z p.2)
theorem akT (f:Ob->Ob) (H:Hp) (j:Nat):look (H.map fun p=>(p.1,f p.2)) j=(look H j).map f:=by
 induction H with
 | nil=>rfl
 | cons p H ih=>
  obtain ⟨i,o⟩:=p;simp only [jV,look];split
  .rfl
  .exact ih
theorem Weak.lay {Z:List (Nat×List (List V))} {T:List V} {H:Hp} (hz:bO H Z) (hn:decide (Z.map (·.1)).Nodup=true):Weak ⟨T,H⟩ ⟨T.map<|sM<|qO Z,Rj Z H⟩:=by
 have hZ:∀ j,j∈Z.map (·.1)->∃ nn t k rows,look H j=some (.vec nn t k rows):=fun j hj=>by
  obtain ⟨p,hp,rfl⟩:=jW.1 hj;obtain ⟨nn,t,k,rows,h1,_⟩:=hz.get hp;exact ⟨nn,t,k,rows,h1⟩
 intro B G ρ S F a w hst;obtain ⟨iK,S1,hH1,a1,b1,c1,e1⟩:=hst.heap.lays (Z.map (·.1)) (nU hn) hZ;have hk:Keeps S w S1 w:=hst.heap.keeps e1;have Rf:∀ v x,RV ρ S w v x->RV iK S1 w v (CB (qO Z) x):=fun v x hv=>by
  unfold CB;split
  .rename_i j;split
   .rename_i p hp;have hpm:=adK hp;have El:=adX hp;simp only [mR] at El;unfold qO at hpm;rw [jW] at hpm;obtain ⟨p',hp',rfl⟩:=hpm;simp only at El;obtain ⟨nn,t,k,rows,hl,hsh⟩:=hz.get hp';subst El;obtain ⟨r,hr,hd⟩:=c1 p'.1 (Cr hp') nn t k rows hl;rw [hv.Cv r hr];rw [hsh] at hd;exact .sl _ _ _ _ hd.low
   .exact hv.mono (fun i r hi _=>a1 i r hi) hk
  .rw [hv.iX];exact .sl _ _ _ _ (.mF false)
  .exact hv.mono (fun i r hi _=>a1 i r hi) hk
 have lay:∀ v x,RV ρ S w v x->RV iK S1 w v (sM (qO Z) x):=fun v x hv=>by
  unfold sM;split
  .rename_i cs;obtain ⟨arr,ha,hsz,h1c,hr⟩:=hv.Kw;rw [ha];refine .agg arr _ (by simpa using hsz) h1c fun j x c hx hc=>?_;rw [gD,eD] at hx;obtain ⟨y,hy,rfl⟩:=hx;obtain ⟨c',hc',xC⟩:=hr j y hy;rw [hc] at hc';cases hc';exact Rf c y xC
  .exact Rf v x hv
 have hl:∀ i o',look (Rj Z H) i=some o'->∃ o,look (bU (Z.map (·.1)) H) i=some o/\o'=akS Z o:=fun i o' h=>by
  unfold Rj at h;rw [akT,eD] at h;obtain ⟨o,ho,rfl⟩:=h;exact ⟨o,ho,rfl⟩
 have hHn:dY iK S1 F (Rj Z H) w:=by
  refine ⟨fun i hi=>?_,fun i o' hi=>?_,fun i o' hi=>?_,fun i j o' p' b hi hj hne hb hb'=>?_,fun i o' b hi hb=>?_,fun i o' b hi hb=>?_,hH1.slt⟩
  .refine hH1.dom i ?_;unfold Rj at hi;rw [akT,Option.map_eq_none_iff] at hi;exact hi
  .obtain ⟨o,ho,rfl⟩:=hl i o' hi;obtain ⟨r1,hr1,auE⟩:=hH1.obj i o ho;refine ⟨r1,hr1,?_⟩;cases o with
   | vec nn e k rows=>exact auE
   | cells e cs=>
    have ho2:look H i=some (.cells e cs):=by
     rw [lI] at ho;split at ho
     .cases ho
     .exact ho
    obtain ⟨r,hr,bY⟩:=hst.heap.obj i _ ho2;have:r=r1:=kD (hr.symm.trans<|a1 i r1 hr1);subst this;generalize F i=Fi at bY ⊢;cases bY with
    | cells g arr _ _ hh hsz hr=>
     refine .cells g arr e _ hh (by simpa using hsz) fun j x hx=>?_;rw [gD,eD] at hx;obtain ⟨y,hy,rfl⟩:=hx;obtain ⟨c,h1,h2,h3⟩:=hr j y hy;exact ⟨c,h1,h2,Rf c y h3⟩
  .obtain ⟨o,ho,_⟩:=hl i o' hi;exact hH1.nodup i o ho
  .obtain ⟨o,ho,_⟩:=hl i o' hi;obtain ⟨p,hp,_⟩:=hl j p' hj;exact hH1.gW i j o p b ho hp hne hb hb'
  .obtain ⟨o,ho,_⟩:=hl i o' hi;exact hH1.sep i o b ho hb
  .obtain ⟨o,ho,_⟩:=hl i o' hi;exact hH1.lt i o b ho hb
 refine ⟨iK,S1,F,⟨hst.defers.ZU hst.heap e1,by simpa using hst.size,fun i x hx=>?_,hHn,hst.glob.mono hk⟩,⟨e1.os,e1.tape,e1.output,e1.size,e1.keep,e1.sub,e1.newS,fun b ⟨i,o',hi,hb⟩=>?_⟩,fun i r _ hi=>a1 i r hi⟩
 .rw [gD,eD] at hx;obtain ⟨y,hy,rfl⟩:=hx;exact lay _ _ (hst.tmps i y hy)
 .obtain ⟨o,ho,_⟩:=hl i o' hi;exact e1.uT b ⟨i,o,ho,hb⟩
theorem CO.lay {Z:List (Nat×List (List V))} {c:Code} {T:List V} {H:Hp} {Q:Exit->St->Prop} (T':List V) (H':Hp) (hz:bO H Z) (hn:decide (Z.map (·.1)).Nodup=true) (hT:T.map (sM<|qO Z)=T') (hH:Rj Z H=H') (k:CO L P G c ⟨T',H'⟩ Q):CO L P G c ⟨T,H⟩ Q:=by
 subst hT hH;exact jR (Weak.lay hz hn) k
theorem akU {T T':List V} {H H':Hp} (hT:T=T') (hH:H=H'):Weak ⟨T,H⟩ ⟨T',H'⟩:=by
 subst hT hH;exact Weak.refl _
end
end Go.Av
namespace Go.Av
def bM (n:Int):List V:=[aj n]
def auF (b:Bool):List V:=[V.b b]
def fD (s:List UInt8):List V:=[V.s s]
def cB {α:Type} (x:Bool) (enc:α->List V) (l:List α):List V:=[.sl false x<|l.map enc]
section
variable {P:Program} {G:Nat->Option (List V)} {L:Option Nat} {B:Nat}
theorem dM {ι:Type} (J:ι->St) (R:ι->Prop) {x y:Code} {st:St} {Q:Exit->St->Prop} (hrest:∀ i,R i->CO L P G y (J i) Q)
  (h:(∀ i,R i->∀ st',Weak st' (J i)->aeR L P G y Q .normal st')->CO L P G x st (aeR L P G y Q)):CO L P G (.seq x y) st Q:=
 aQ (h fun i hi _ hw=>jR hw<|hrest i hi)
theorem fM {ι:Type} (J:ι->St) (R:Nat->ι->Prop) {c:Code} {st:St} {Q:Exit->St->Prop} {n0:Nat} {i0:ι} (h0:Weak st (J i0)) (hR:R n0 i0) (hz:∀ i,¬R 0 i)
  (round:∀ n i,R (n+1) i->(∀ j,R n j->∀ st',Weak st' (J j)->Vz L P G c Q n .normal st')->CO L P G c (J i) (Vz L P G c Q n)):CO L P G (.loop c) st Q:=by
 have key:∀ n i,R n i->LoopN L P G c Q n (J i):=by
  intro n;induction n with
  | zero=>intro i hi;exact (hz i hi).elim
  | succ n ih=>intro i hi;exact aau (round n i hi fun j hj _ hw=>Rh hw<|ih j hj)
 exact aeS (Rh h0<|key n0 i0 hR)
def aeV (G:Nat->Option (List V)) (ops:Array Oper) (i:Nat) (T:List V) (H:Hp):Option (List (List V)×List Nat):=
 match oD ops i T with
 | some (.call c)=>match c.callee,c.args,c.argTypes with
  | .builtin .len,⟨[x]⟩,⟨[_]⟩=>match ev G T x with
   | .sl _ _ rows=>some (rows,[])
   | .own j=>match look H j with
    | some (.vec _ _ _ rows)=>some (rows,[j])
    | _=>none
   | _=>none
  | _,_,_=>none
 | _=>none
theorem W.len {D:Tab} (hD:dQ P D) {ops:Array Oper} {draw:Bool} {T0:List V} {H0:Hp} {i:Nat} {T:List V} {H:Hp} {Es:List (Bool×Eff)} {Q:St->Prop} {α:Type} (enc:α->List V) (l:List α) (R:List Nat) (h:aeV G ops i T H=some (l.map enc,R))
  (hs:((oD ops i T).bind<|iy D H<|ev G T).isSome=true)
  (k:W P G ops draw T0 H0 (i+1) (fB T (jf ops i)<|aj l.length) H (Es++[(true,{v:=aj l.length,R:=R})]) Q):W P G ops draw T0 H0 i T H Es Q:=by
 unfold aeV at h;split at h
 .rename_i cl hop;rw [hop] at hs;obtain ⟨callee,args,ats⟩:=cl;simp only at h;split at h
  .rename_i x t;obtain ⟨v,hv⟩:=MC.1 hs;simp only [av] at hv;have hloc:=fun e' H' he hH=>(akF (D:=D) (H:=H) (H':=H') (e:=ev G T) (e':=e') (op:=.call {callee:=.builtin .len,args:=#[x],argTypes:=#[t]}) he hH).trans hv;have hvl:v=aj l.length:=by
    have hlen:Kz H (ev G T x)=some l.length:=by
     split at h
     .rename_i nn b rows hx;cases h;rw [hx];simp [Kz]
     .rename_i j hx;split at h
      .rename_i _ _ _ rows hl;cases h;rw [hx];simp [Kz,hl]
      .cases h
     .cases h
    simp only [iy] at hv;split at hv
    .rename_i it ht;split at hv
     .rw [hlen] at hv;exact (kD hv).symm
     .split at hv
      .rename_i s hx;rw [hx] at h;cases h
      .cases hv
     .cases hv
    .cases hv
   subst hvl;refine AY (aj l.length) R hop (fun o ho e' H' he iA=>?_) k;refine aae hD ?_;rw [ho];refine hloc e' H' he fun y hy i hi=>iA i ?_;simp only [Op.operands,Call.operands] at hy;have hyx:y=x:=by simpa using hy
   subst hyx;split at h
   .rename_i hx;rw [hx] at hi;cases hi
   .rename_i j hx;rw [hx] at hi;split at h
    .cases h;exact hi
    .cases h
   .cases h
  .cases h
 .cases h
def Ih (m:Ren):Bool:=m.all fun p=>dZ m p.1==some p.2
theorem akV {m:Ren} (h:Ih m=true):∀ p,p∈m->dZ m p.1=some p.2:=fun p hp=>by
 have:=kW.1 h p hp;simpa using this
theorem aav (m:Ren) (ks:List Nat) {T:List V} {H:Hp} {T':List V} {H':Hp} (hm:(m.ok&&m.keep&&Ih m)=true) (hT:Cz m ks 0 T=T') (hH:wE m H m=some H'):Weak ⟨T,H⟩ ⟨T',H'⟩:=by
 subst hT;simp only [dL] at hm;exact Weak.rn m hm.1.1 hm.1.2 (aeJ m ks 0 T) (Vt hH (akV hm.2) fun p _=>rfl)
end
end Go.Av
namespace Go.Av
open Go.RowKit Go.WideShapes Go.ChangeShapes
section
variable {P:Program}
section
variable {H:Type} {enc:TypeId×Value->H}
def asJ {f:Func} {s:ChangeSpec} {apart fresh handsOn again:Bool} {W W':World} {args:Array Value} {v:Value} {ds gs:List (DataW H)} {before pa pv:List MemPlace}
  (hW:DataW.Whole enc P f.params.toList s.vars apart W args.toList ds gs before)
  (hres:∀ (b:Nat) (sp:Nat->Bool) (hd:Bool),DataW.TrodAll enc P W' b sp hd f.resultTypes.toList (v.resultList f.resultTypes.size) (s.fn H<|ds++gs).results [])
  (hargs:∀ sp:Nat->Bool,(∀ p∈before,sp p.block=true)->DataW.TrodAll enc P W' 0 sp true f.params.toList args.toList (s.fn H<|ds++gs).args pa)
  (hvars:∀ sp:Nat->Bool,(∀ p∈before,sp p.block=true)->DataW.TrodVars enc P W' sp s.vars (s.fn H<|ds++gs).vars pv)
  (hps:before=pa++pv) (hb:Below W.heap.size W W')
  (hok:∀ (j:Nat) (t:TypeId) (r:Value),f.resultTypes[j]?=some t->(v.resultList f.resultTypes.size)[j]?=some r->Value.okWide P W' .any 0 t r):
  s.post enc P f apart fresh handsOn again W args v W':=by
 have hlt:∀ p∈before,p.block < W.heap.size:=fun p hp=>hW.lt p hp;have hold:∀ p∈before,(fun b=>decide<|b < W.heap.size) p.block=true:=fun p hp=>by simpa using hlt p hp
 refine ⟨ds,gs,before,[],pa,pv,hW,hres _ _ _,hargs _ hold,hvars _ hold,World.keptBut_mono (fun p hp=>⟨hp,?_⟩) (hb.frame (·∈before)),fun _=>?_⟩
 .rw [hps,jo] at hp;exact Or.inr hp
 .obtain ⟨_,_,_,_,_,hz,hn⟩:=hW;refine ⟨hok,_,_,([]++pa)++pv,⟨[]++pa,pv,trodAll_append (hargs _ fun _ _=>rfl)<|hres _ _ _,hvars _ fun _ _=>rfl,rfl,?_,?_⟩,?_⟩
  .intro b off hp;have hin:MemPlace.cell b off∈before:=by rw [hps];simpa using hp
   rw [hb.frozen<|hlt _ hin];exact hz b off hin
  .intro ha;have:=hn ha;rw [hps] at this;simpa using this
  .intro p hp _;rw [hps];simpa using hp
end
end
end Go.Av
namespace Go.Av
open Go.RowKit Go.WideShapes Go.ChangeShapes
def uZ (S:Nat->Prop) (w:World) (cs:List Value) (vs:List V):Prop:=
 cs.length=vs.length/\∀ (j:Nat) (v:V),vs[j]?=some v->∃ c,cs[j]?=some c/\RD S w c v []
def uZ.append {S:Nat->Prop} {w:World} {a b:List Value} {va vb:List V} (h:uZ S w a va) (k:uZ S w b vb):uZ S w (a++b) (va++vb):=by
 refine ⟨by simp [h.1,k.1],fun j v hj=>?_⟩;have hl:=h.1;by_cases hlt:j < va.length
 .rw [uR hlt] at hj;rw [uR ah];exact h.2 j v hj
 .rw [uQ ah] at hj;rw [uQ ah,hl];exact k.2 _ v hj
def uZ.nil {S:Nat->Prop} {w:World}:uZ S w [] []:=⟨rfl,fun j v h=>by simp at h⟩
section
variable {P:Program}
def Reader (P:Program) (t:TypeId) {α:Type} (enc:α->List V) (ok:α->Prop):Prop:=
 ∀ {H:Type} (e:TypeId×Value->H) (w:World) (fuel:Nat) (cs:List Value) (x:DataW H×List MemPlace),DataW.trod e P w 0 (fun _=>true) true fuel t cs=some x->
  ∃ a:α,ok a/\∀ S:Nat->Prop,(∀ p,p∈x.2->S p.block)->uZ S w cs (enc a)
def uZ.one {S:Nat->Prop} {w:World} {c:Value} {v:V} (h:RD S w c v []):uZ S w [c] [v]:=by
 refine ⟨rfl,fun j u hj=>?_⟩;cases j with
 | zero=>simp at hj;subst hj;exact ⟨c,rfl,h⟩
 | succ j=>simp at hj
def Reader.int {t:TypeId} {k:IntKind} (ht:P.underlying t=some (.int k)):Reader P t (fun n:Int=>[V.c<|.int k n]) (fun n=>(Lit.int k n).wf=true):=by
 intro H e w fuel cs x h;obtain ⟨n,rfl,rfl,hw⟩:=DataW.trod_int ht h;exact ⟨n,hw,fun S _=>uZ.one<|.c _ rfl⟩
def Reader.i64 {t:TypeId} (ht:P.underlying t=some (.int .i64)):Reader P t bM (fun n=>(Lit.int .i64 n).wf=true):=Reader.int ht
def Reader.bool {t:TypeId} (ht:P.underlying t=some .bool):Reader P t auF (fun _=>True):=by
 intro H e w fuel cs x h;obtain ⟨b,rfl,rfl⟩:=DataW.trod_bool ht h;exact ⟨b,trivial,fun S _=>uZ.one<|.c _ rfl⟩
def Reader.str {t:TypeId} (ht:P.underlying t=some .string):Reader P t fD (fun s=>s.length<=maxLen):=by
 intro H e w fuel cs x h;obtain ⟨s,rfl,rfl,hl⟩:=DataW.trod_string ht h;refine ⟨s.data.toList,?_,fun S _=>uZ.one ?_⟩
 .simpa using hl
 .exact .c _ rfl
def auG {w:World} {base:Nat} {a:Addr} {n:Nat} {cs:List Value} (h:w.cells? base a n=some cs):cs.length=n/\∀ j,j < n->w.cell? (a.add j)=cs[j]?:=by
 unfold World.cells? at h;split at h
 .refine ⟨by simpa using mapM_some_length h,fun j hj=>?_⟩;have:=mapM_some_get h j j (by simp [hj]);exact this
 .cases h
def Reader.slice {t el:TypeId} {α:Type} {enc:α->List V} {ok:α->Prop} (ht:P.underlying t=some (.slice el)) (he:Reader P el enc ok) (sz:Nat) (hsz:P.cellsOf el=sz) (hpos:0 < sz) (henc:∀ x,(enc x).length=sz):
  Reader P t (fun l:List α=>[V.sl false false<|l.map enc]) (fun l=>(∀ x,x∈l->ok x)/\l.length<=maxLen):=by
 intro H e w fuel cs x h;rcases DataW.trod_slice ht h with ⟨rfl,rfl⟩|⟨a,len,cap,elems,rest,n,rfl,rfl,rfl,_,hcap,hmax,hlen,hel,_,_⟩
 .exact ⟨[],⟨fun x hx=>(by cases hx),Ct _⟩,fun S _=>uZ.one<|.mF false⟩
 .rw [hsz] at hel;have each:∀ i,i < len->∃ (y:α) (cc:List Value) (z:DataW H×List MemPlace),elems[i]?=some z/\w.cells? 0 (a.add<|i*sz) sz=some cc/\ok y/\∀ S:Nat->Prop,(∀ p,p∈z.2->S p.block)->uZ S w cc (enc y):=by
   intro i hi;have hz:elems[i]?=some elems[i]:=fQ ah;have h1:=hel i hi;rw [hz,dB] at h1;obtain ⟨cc,h2,h3⟩:=h1;obtain ⟨y,hy,hc⟩:=he e w n cc _ h3;exact ⟨y,cc,_,hz,h2,hy,hc⟩
  have pick:∃ l:List α,l.length=len/\∀ i y,l[i]?=some y->∃ (cc:List Value) (z:DataW H×List MemPlace),elems[i]?=some z/\w.cells? 0 (a.add<|i*sz) sz=some cc/\ok y/\∀ S:Nat->Prop,(∀ p,p∈z.2->S p.block)->uZ S w cc (enc y):=by
   clear hcap h;have:∀ m,m<=len->∃ l:List α,l.length=m/\∀ i y,l[i]?=some y->∃ (cc:List Value) (z:DataW H×List MemPlace),elems[i]?=some z/\w.cells? 0 (a.add<|i*sz) sz=some cc/\ok y/\∀ S:Nat->Prop,(∀ p,p∈z.2->S p.block)->uZ S w cc (enc y):=by
    intro m;induction m with
    | zero=>intro _;exact ⟨[],rfl,fun i y h=>by simp at h⟩
    | succ m ih=>
     intro hm;obtain ⟨l,hl,hall⟩:=ih ah;obtain ⟨y,cc,z,h1,h2,h3,h4⟩:=each m ah;refine ⟨l++[y],by simp [hl],fun i y' hi=>?_⟩;by_cases hlt:i < l.length
     .rw [uR hlt] at hi;exact hall i y' hi
     .rw [uQ ah] at hi;have:i=m:=by
       have:=(dK.1 hi).1;simp at this;omega
      subst this;rw [hl] at hi;simp at hi;subst hi;exact ⟨cc,z,h1,h2,h3,h4⟩
   exact this len (cZ _)
  obtain ⟨l,hl,hall⟩:=pick;refine ⟨l,⟨fun x hx=>?_,ah⟩,fun S hS=>uZ.one ?_⟩
  .obtain ⟨i,hi⟩:=Hg hx;obtain ⟨_,_,_,_,hok,_⟩:=hall i x hi;exact hok
  .have hlr:(l.map enc).length=len:=by simp [hl]
   rw [show Value.slice (some a) len cap=Value.slice (some a) (l.map enc).length cap by rw [hlr]];have akW:∀ (i:Nat) (r:List V),(l.map enc)[i]?=some r->∃ y,l[i]?=some y/\r=enc y:=fun i r hi=>by
    rw [gD,eD] at hi;obtain ⟨y,hy,rfl⟩:=hi;exact ⟨y,hy,rfl⟩
   have cell:∀ (i j:Nat) (r:List V) (v:V),(l.map enc)[i]?=some r->r[j]?=some v->∃ c,w.cell? (a.add<|i*sz+j)=some c/\RD S w c v []:=fun i j r v hi hj=>by
    obtain ⟨y,hy,rfl⟩:=akW i r hi;obtain ⟨cc,z,h1,h2,_,h4⟩:=hall i y hy;obtain ⟨hcl,hcell⟩:=auG h2;have hcr:=h4 S fun p hp=>hS p (jo.2<|.inr<|vY.2 ⟨z,jo.2<|.inl<|nT h1,hp⟩);obtain ⟨c,hc1,hc2⟩:=hcr.2 j v hj;refine ⟨c,?_,hc2⟩;have hjs:j < sz:=by rw [<- hcl];exact (dK.1 hc1).1
    rw [<- aad,hcell j hjs,hc1]
   refine .shr a cap false (l.map enc) sz (fun i j=>(w.cell?<|a.add<|i*sz+j).getD undef) ah ah (fun i r hi=>?_) (fun i j r v hi hj=>?_) (fun i j r v hi hj=>?_)
   .obtain ⟨y,_,rfl⟩:=akW i r hi;exact henc y
   .obtain ⟨c,hc,_⟩:=cell i j r v hi hj;refine ⟨?_,by rw [hc];rfl⟩;have hi':i < len:=by have:=(dK.1 hi).1;omega
    have hp:=hS (.cell a.block<|a.off+0) (jo.2<|.inl<|jW.2 ⟨0,ZM.2 ?_,rfl⟩)
    .exact hp
    .rw [hsz];exact Nat.mul_pos ah hpos
   .obtain ⟨c,hc,hd⟩:=cell i j r v hi hj;simp only [hc,ZJ];exact hd
def asK {H:Type} {enc:TypeId×Value->H} {T:TypeId->Prop} (K:Kids P T) (hz:∀ t e,T t->P.underlying t=some (.slice e)->0 < P.cellsOf e) {W W':World} (hb:Below W.heap.size W W') {sp:Nat->Bool}:
  ∀ {ts:List TypeId} {vs:List Value} {ds:List (DataW H)} {ps:List MemPlace},(∀ t,t∈ts->T t)->DataW.TrodAll enc P W 0 (fun _=>true) true ts vs ds ps->(∀ p,p∈ps->sp p.block=true)->DataW.TrodAll enc P W' 0 sp true ts vs ds ps:=by
 intro ts vs ds ps hT h hs;have h1:=DataW.TrodAll.respare K hz (fun t ht=>hT t ht) h (spare':=sp) (fun p hp=>hs p hp);clear h;induction ts generalizing vs ds ps with
 | nil=>cases vs<;>cases ds<;>exact h1
 | cons t ts ih=>
  cases vs with
  | nil=>cases ds<;>exact h1
  | cons v vs=>
   cases ds with
   | nil=>exact h1
   | cons d ds=>
    obtain ⟨p,q,⟨n,h1⟩,h2,rfl⟩:=h1;have hlt:=DataW.trod_lt n _ _ _ h1;refine ⟨p,q,⟨n,DataW.trod_carry n _ _ _ h1 fun m hm=>?_⟩,ih (fun t ht=>hT t<|sG _ ht) (fun m hm=>hs m<|jo.2<|.inr hm) h2,rfl⟩;have hlt':=hlt m hm;cases m with
    | cell b off=>
     simp only [World.sameAt,World.cell?] ;have:W'.heap[b]?=W.heap[b]?:=hb.block b hlt';simp only [this]
    | map b=>
     simp only [World.sameAt];have:W'.heap[b]?=W.heap[b]?:=hb.block b hlt';rw [this]
end
end Go.Av
namespace Go.Av
open Go.RowKit Go.WideShapes Go.ChangeShapes
def asI {ρ:Nat->Option Value} {S:Nat->Prop} {w:World} {v:Value} {x:V} (hv:v.cells=#[v]) (h:uZ S w v.cells.toList [x]):RV ρ S w v x:=by
 obtain ⟨c,hc,hd⟩:=h.2 0 x rfl;rw [hv] at hc;simp at hc;subst hc;exact hd.ajI
def aju (ps:List MemPlace):Nat->Prop:=fun b=>∃ p,p∈ps/\p.block=b
end Go.Av
namespace Go.Av
section
variable {P:Program} {G:Nat->Option (List V)} {L:Option Nat} {B:Nat}
theorem RV.aeW {ρ:Nat->Option Value} {S:Nat->Prop} {w:World} {v:Value} {x:V} (h:RV ρ S w v x):RV ρ S w v (CB [] x):=by
 unfold CB;split
 .simpa using h
 .rw [h.iX];exact .sl _ _ _ _ (.mF false)
 .exact h
theorem RV.auH {ρ:Nat->Option Value} {S:Nat->Prop} {w:World} {v:Value} {x:V} (h:RV ρ S w v x):RV ρ S w v (sM [] x):=by
 unfold sM;split
 .rename_i cs;obtain ⟨arr,ha,hsz,h1c,hr⟩:=h.Kw;rw [ha];refine .agg arr _ (by simpa using hsz) h1c fun j x c hx hc=>?_;rw [gD,eD] at hx;obtain ⟨y,hy,rfl⟩:=hx;obtain ⟨c',hc',xC⟩:=hr j y hy;rw [hc] at hc';cases hc';exact xC.aeW
 .exact h.aeW
theorem dY.akX {ρ:Nat->Option Value} {S:Nat->Prop} {F:Nat->List Nat} {H:Hp} {w:World} (h:dY ρ S F H w) {i:Nat} {o o':Ob} (hl:look H i=some o)
  (hr:∀ r,ρ i=some r->jd ρ S w r o (F i)->jd ρ S w r o' (F i)):dY ρ S F (hput H i o') w:=by
 have key:∀ j p,look (hput H i o') j=some p->∃ p',look H j=some p':=fun j p hp=>by
  rw [MQ] at hp;split at hp
  .subst_vars;exact ⟨o,hl⟩
  .exact ⟨p,hp⟩
 refine ⟨fun j hj=>?_,fun j p hp=>?_,fun j p hp=>?_,fun j k p p' b hj hk hne hb hb'=>?_,fun j p b hp hb=>?_,fun j p b hp hb=>?_,h.slt⟩
 .rw [MQ] at hj;split at hj
  .cases hj
  .exact h.dom j hj
 .rw [MQ] at hp;split at hp
  .cases hp;subst_vars;obtain ⟨r,h1,h2⟩:=h.obj _ o hl;exact ⟨r,h1,hr r h1 h2⟩
  .exact h.obj j p hp
 .obtain ⟨q,hq⟩:=key j p hp;exact h.nodup j q hq
 .obtain ⟨q,hq⟩:=key j p hj;obtain ⟨q',hq'⟩:=key k p' hk;exact h.gW j k q q' b hq hq' hne hb hb'
 .obtain ⟨q,hq⟩:=key j p hp;exact h.sep j q b hq hb
 .obtain ⟨q,hq⟩:=key j p hp;exact h.lt j q b hq hb
theorem akY {F:Nat->List Nat} {H:Hp} {i:Nat} {o o':Ob} (hl:look H i=some o) {b:Nat} (h:Ub (hput H i o') F b):Ub H F b:=by
 obtain ⟨j,p,hp,hb⟩:=h;rw [MQ] at hp;split at hp
 .subst_vars;exact ⟨_,o,hl,hb⟩
 .exact ⟨j,p,hp,hb⟩
def Ii (f:V->V) (ks:List Nat):Nat->List V->List V
 | _,[]=>[]
 | i,x::T=>(if ks.contains i then f x else x)::Ii f ks (i+1) T
theorem aeX (f:V->V) (ks:List Nat):∀ (i:Nat) (T:List V) (j:Nat) (y:V),(Ii f ks i T)[j]?=some y->∃ x,T[j]?=some x/\(y=f x\/y=x)
 | _,[],j,y,h=>by simp [Ii] at h
 | i,x::T,0,y,h=>by
  simp only [Ii,Fz,iG] at h;refine ⟨x,aF,?_⟩;subst h;split
  .exact .inl rfl
  .exact .inr rfl
 | i,x::T,j+1,y,h=>by
  simp only [Ii,MG] at h;obtain ⟨z,h1,h2⟩:=aeX f ks (i+1) T j y h;exact ⟨z,by simpa using h1,h2⟩
theorem aeY (f:V->V) (ks:List Nat):∀ (i:Nat) (T:List V),(Ii f ks i T).length=T.length
 | _,[]=>rfl
 | i,x::T=>by simp [Ii,aeY f ks (i+1) T]
theorem Weak.mF (ks:List Nat) {T:List V} {H:Hp}:Weak ⟨T,H⟩ ⟨Ii (sM []) ks 0 T,H⟩:=by
 intro B G ρ S F a w h;refine ⟨ρ,S,F,⟨h.defers,by simpa [aeY] using h.size,fun i y hy=>?_,h.heap,h.glob⟩,jI.refl _ _ _,qz.refl _⟩;obtain ⟨x,hx,rfl|rfl⟩:=aeX _ ks 0 T i y hy
 .exact (h.tmps i x hx).auH
 .exact h.tmps i _ hx
theorem akZ (i:Nat) (ks:List Nat) {T:List V} {H:Hp} {e:TypeId} {cs:List V} (hl:look H i=some (.cells e cs)):Weak ⟨T,H⟩ ⟨T,hput H i<|.cells e<|Ii (CB []) ks 0 cs⟩:=by
 intro B G ρ S F a w h;refine ⟨ρ,S,F,⟨h.defers,h.size,h.tmps,h.heap.akX hl fun r hr bY=>?_,h.glob⟩,⟨rfl,rfl,rfl,cZ _,fun _ _ _=>rfl,fun _ hb=>hb,fun _ hb=>.inl hb,fun b hb=>.inl<|akY hl hb⟩,qz.refl _⟩;generalize F i=Fi at bY ⊢;cases bY with
 | cells g arr _ _ hh hsz hr=>
  refine .cells g arr e _ hh (by simpa [aeY] using hsz) fun j y hy=>?_;obtain ⟨x,hx,rfl|rfl⟩:=aeX _ ks 0 cs j y hy
  .obtain ⟨c,h1,h2,h3⟩:=hr j x hx;exact ⟨c,h1,h2,h3.aeW⟩
  .exact hr j _ hx
theorem dY.Nf {ρ:Nat->Option Value} {S:Nat->Prop} {F:Nat->List Nat} {H:Hp} {w:World} (h:dY ρ S F H w) {i e k:Nat} (hi:gG i H=false):
  dY (fun j=>if j=i then some (.slice none 0 0) else ρ j) S (fun j=>if j=i then [] else F j) ((i,.vec false e k [])::H) w:=by
 obtain ⟨hl,hO⟩:=yB hi;refine ⟨fun j hj=>?_,fun j o ho=>?_,fun j o ho=>?_,fun j j' o o' b hj hj' hne hb hb'=>?_,fun j o b ho hb=>?_,fun j o b ho hb=>?_,h.slt⟩
 .simp only [look] at hj;split at hj
  .cases hj
  .rename_i hne;simp only [bI hne];exact h.dom j hj
 .simp only [look] at ho;split at ho
  .cases ho;subst_vars;exact ⟨.slice none 0 0,aF,by simpa using jd.kZ e k⟩
  .rename_i hne;obtain ⟨r,hr,bY⟩:=h.obj j o ho;refine ⟨r,by simp only [bI hne];exact hr,?_⟩;simp only [bI hne];refine bY.mono (fun q r hq hh=>?_) (fun b hb=>⟨hb,rfl⟩) (fun _ _=>rfl);split at hq
   .subst_vars;rw [hO j o ho] at hh;cases hh
   .exact hq
 .simp only [look] at ho;split at ho
  .simp_all
  .rename_i hne;simp only [bI hne];exact h.nodup j o ho
 .simp only [look] at hj hj';split at hj
  .simp_all
  .split at hj'
   .simp_all
   .simp_all;exact h.gW j j' o o' b hj hj' hne hb hb'
 .simp only [look] at ho;split at ho
  .simp_all
  .simp_all;exact h.sep j o b ho hb
 .simp only [look] at ho;split at ho
  .simp_all
  .simp_all;exact h.lt j o b ho hb
theorem Ub.Nf {F:Nat->List Nat} {H:Hp} {e:Tg} {i k b:Nat} (h:Ub ((i,.vec false e k [])::H) (fun j=>if j=i then [] else F j) b):Ub H F b:=by
 obtain ⟨j,o,ho,hb⟩:=h;simp only [look] at ho;split at ho
 .simp_all
 .rename_i hne;simp only [bI hne] at hb;exact ⟨j,o,ho,hb⟩
theorem aaw (i j q e k:Nat) {T:List V} {H:Hp} {ety:TypeId} {cs:List V} (hl:look H i=some (.cells ety cs)) (hj:cs[j]?=some (.c<|.slice none 0 0)) (hf:fresh [q] ⟨T,H⟩=true):
  Weak ⟨T,H⟩ ⟨T,(q,.vec false e k [])::hput H i (.cells ety<|cs.set j<|.own q)⟩:=by
 intro B G ρ S F a w h;obtain ⟨ajQ,hT,hH⟩:=QM hf (by simp:q∈[q]);obtain ⟨hlq,hO⟩:=yB hH;have hqi:q≠i:=fun e=>by subst e;rw [hl] at hlq;cases hlq
 have hadd:=h.heap.Nf (e:=e) (k:=k) hH;have hl1:look ((q,.vec false e k [])::H) i=some (.cells ety cs):=by simp only [look,bI<|tO hqi];exact hl
 have hre:=hadd.akX (o':=.cells ety (cs.set j<|.own q)) hl1 fun r hr bY=>by
  simp only [bI<|tO hqi] at bY ⊢;generalize F i=Fi at bY ⊢;cases bY with
  | cells g arr _ _ hh hsz hr=>
   refine .cells g arr ety _ hh (by simpa using hsz) fun p y hy=>?_;rw [FH] at hy;split at hy
   .subst_vars;split at hy
    .cases hy;obtain ⟨c,h1,h2,h3⟩:=hr _ _ hj;have:=h3.iX;refine ⟨c,h1,h2,?_⟩;rw [this];exact .own _ q fun r hr=>by simp only [kF] at hr;cases hr;rfl
    .cases hy
   .exact hr p y hy
 have ala:hput ((q,.vec false e k [])::H) i (.cells ety<|cs.set j<|.own q)=(q,.vec false e k [])::hput H i (.cells ety<|cs.set j<|.own q):=by
  simp only [hput,bI<|tO hqi]
 rw [ala] at hre;refine ⟨_,S,_,⟨h.defers,h.size,fun p x hx=>?_,hre,h.glob⟩,⟨rfl,rfl,rfl,cZ _,fun _ _ _=>rfl,fun _ hb=>hb,fun _ hb=>.inl hb,fun b hb=>.inl ?_⟩,fun p r hp hr=>?_⟩
 .refine (h.tmps p x hx).mono (fun p' r hq hh=>?_) (fun b hb=>⟨hb,rfl⟩);split at hq
  .subst_vars;rw [UY hT<|nT hx] at hh;cases hh
  .exact hq
 .have:=(ala ▸ hb:Ub (hput ((q,.vec false e k [])::H) i<|.cells ety<|cs.set j<|.own q) _ b)
  exact Ub.Nf (akY hl1 this)
 .simp only at hr;split at hr
  .omega
  .exact hr
theorem alb {fn:Func} {r0:V} {T:List V} {H:Hp} {e:Exit} (m:Ren) (he:e=.normal\/e=.ret) (h:aO P fn ⟨T,H⟩ r0) {r':V} {H':Hp} (hm:(m.ok&&m.keep&&Ih m)=true) (hr:r0.rn m=r') (hH:wE m H m=some H'):Ends P fn r' H' e ⟨T,H⟩:=by
 subst hr;simp only [dL] at hm;exact ⟨he,r0,h,Weak.rn m hm.1.1 hm.1.2 (Ia m [r0])<|Vt hH (akV hm.2) fun p _=>rfl⟩
mutual
inductive Deep:V->Prop
 | c (v:Value):Deep (.c v)
 | junk:Deep .junk
 | own (i:Nat):Deep (.own i)
 | loc (i o:Nat):Deep (.loc i o)
 | sl (nn:Bool) (rows:List (List V)) (h:∀ r,r∈rows->AZ r):Deep (.sl nn true rows)
 | agg (cs:List V) (h:AZ cs):Deep (.agg cs)
 | jX (cs:List V) (h:AZ cs):Deep (.jX cs)
inductive AZ:List V->Prop
 | nil:AZ []
 | cons {x:V} {l:List V} (h:Deep x) (k:AZ l):AZ (x::l)
end
def AZ.mem {l:List V}:AZ l->∀ x,x∈l->Deep x
 | .nil,x,hx=>by cases hx
 | .cons h k,x,hx=>by
  rcases fF.1 hx with rfl|hx
  .exact h
  .exact k.mem x hx
def dO.map {α:Type} {enc:α->List V} (h:∀ a,AZ<|enc a) (l:List α):∀ r,r∈l.map enc->AZ r:=fun r hr=>by
 obtain ⟨a,_,rfl⟩:=jW.1 hr;exact h a
def RD.deep {S S':Nat->Prop} {w:World} {v:Value} {x:V} {F:List Nat} (h:RD S w v x F) (hx:Deep x):RD S' w v x F:=by
 induction h with
 | c v h=>exact .c v h
 | mF x=>exact .mF x
 | shr a cap nn rows k cs hlen hcap hk hc hr ih=>cases hx
 | exc g cap arr ety nn rows k cs Fs hh hcap hmax hsz hk hc hr ht ih=>
  cases hx with
  | sl _ _ hd=>exact .exc g cap arr ety nn rows k cs Fs hh hcap hmax hsz hk hc fun i j r x h1 h2=>ih i j r x h1 h2 ((hd r<|nT h1).mem x<|nT h2)
def RV.deep {ρ:Nat->Option Value} {S S':Nat->Prop} {w:World} {v:Value} {x:V} (h:RV ρ S w v x) (hx:Deep x):RV ρ S' w v x:=by
 induction h with
 | junk v=>exact .junk v
 | c v=>exact .c v
 | sl v nn x rows h=>exact .sl v nn x rows (h.deep hx)
 | own v i h=>exact .own v i h
 | loc v i off h=>exact .loc v i off h
 | vp v i k a b h=>exact .vp v i k a b h
 | vw v i k a b h=>exact .vw v i k a b h
 | el=>cases hx
 | fn=>cases hx
 | agg arr cells hsz h1 hr ih=>
  cases hx with
  | agg _ hd=>exact .agg arr cells hsz h1 fun j x c hx hc=>ih j x c hx hc (hd.mem x<|nT hx)
 | jX arr cells hsz hr ih=>
  cases hx with
  | jX _ hd=>exact .jX arr cells hsz fun j x c hx hc=>ih j x c hx hc (hd.mem x<|nT hx)
inductive Ng:Hp->Prop
 | nil:Ng []
 | cons {i:Nat} {nn:Bool} {e k:Nat} {rows:List (List V)} {H:Hp} (h:∀ r,r∈rows->AZ r) (t:Ng H):Ng ((i,.vec nn e k rows)::H)
def Ng.get {H:Hp}:Ng H->∀ {i:Nat} {o:Ob},look H i=some o->∃ nn e k rows,o=.vec nn e k rows/\∀ r,r∈rows->AZ r
 | .nil,i,o,h=>by simp [look] at h
 | .cons h t,i,o,ho=>by
  simp only [look] at ho;split at ho
  .cases ho;exact ⟨_,_,_,_,rfl,h⟩
  .exact t.get ho
def jd.deep {ρ ρ':Nat->Option Value} {S S':Nat->Prop} {w:World} {r:Value} {nn:Bool} {e:Tg} {k:Nat} {rows:List (List V)} {F:List Nat} (h:jd ρ S w r (.vec nn e k rows) F) (hd:∀ r,r∈rows->AZ r):jd ρ' S' w r (.vec nn e k rows) F:=by
 cases h with
 | kZ=>exact .kZ _ _
 | vec g cap arr _ _ _ _ cs Fs hh hcap hmax hsz hk hc hr=>
  exact .vec g cap arr nn e k rows cs Fs hh hcap hmax hsz hk hc fun i j r x h1 h2=>(hr i j r x h1 h2).deep ((hd r<|nT h1).mem x<|nT h2)
end
end Go.Av
namespace Go.Av
section
variable {P:Program} {G:Nat->Option (List V)}
theorem alc {H Hi:Hp} {Zr:List (Nat×List (List V))} (uX:bO Hi Zr) {ρ iK:Nat->Option Value} {S S1:Nat->Prop} {w:World}
  (touched:∀ j,j∈Zr.map (·.1)->look H j=look Hi j) (a1:∀ i r,iK i=some r->ρ i=some r) (hk:Keeps S w S1 w)
  (c1:∀ j,j∈Zr.map (·.1)->∀ nn t k rows,look H j=some (.vec nn t k rows)->∃ r,ρ j=some r/\RD S1 w r (.sl nn false<|qN rows) [])
  {v:Value} {x:V} (hv:RV ρ S w v x):RV iK S1 w v (CB (qO Zr) x):=by
 unfold CB;split
 .rename_i j;split
  .rename_i p hp;have hpm:=adK hp;have El:=adX hp;simp only [mR] at El;unfold qO at hpm;rw [jW] at hpm;obtain ⟨p',hp',rfl⟩:=hpm;simp only at El;obtain ⟨nn,t,k,rows,hl,hsh⟩:=uX.get hp';have Vu:p'.1∈Zr.map (·.1):=Cr hp';subst El;obtain ⟨r,hr,hd⟩:=c1 p'.1 Vu nn t k rows (by rw [touched p'.1 Vu];exact hl);rw [hv.Cv r hr];rw [hsh] at hd;exact .sl _ _ _ _ hd.low
  .exact hv.mono (fun i r hi _=>a1 i r hi) hk
 .rw [hv.iX];exact .sl _ _ _ _ (.mF false)
 .exact hv.mono (fun i r hi _=>a1 i r hi) hk
theorem aeZ {H Hi:Hp} {Zr:List (Nat×List (List V))} (uX:bO Hi Zr) {ρ iK:Nat->Option Value} {S S1:Nat->Prop} {w:World}
  (touched:∀ j,j∈Zr.map (·.1)->look H j=look Hi j) (a1:∀ i r,iK i=some r->ρ i=some r) (hk:Keeps S w S1 w)
  (c1:∀ j,j∈Zr.map (·.1)->∀ nn t k rows,look H j=some (.vec nn t k rows)->∃ r,ρ j=some r/\RD S1 w r (.sl nn false<|qN rows) [])
  {v:Value} {x:V} (hv:RV ρ S w v x):RV iK S1 w v (sM (qO Zr) x):=by
 unfold sM;split
 .rename_i cs;obtain ⟨arr,ha,hsz,h1c,hr⟩:=hv.Kw;rw [ha];refine .agg arr _ (by simpa using hsz) h1c fun j x c hx hc=>?_;rw [gD,eD] at hx;obtain ⟨y,hy,rfl⟩:=hx;obtain ⟨c',hc',xC⟩:=hr j y hy;rw [hc] at hc';cases hc';exact alc uX touched a1 hk c1 xC
 .exact alc uX touched a1 hk c1 hv
theorem uW.lay {D:Tab} (hD:dQ P D) {o:Oper} {q:Nat} {e:Operand->V} {Hi:Hp} {E:Eff} {Zr:List (Nat×List (List V))} (uX:bO Hi Zr) (hn:decide (Zr.map (·.1)).Nodup=true)
  (h:QZ D q (bU (Zr.map (·.1)) Hi) (fun x=>sM (qO Zr)<|e x) o.op=some E):uW P G o e {v:=E.v,R:=E.R,C:=Zr.map (·.1)++E.C,new:=E.new,N:=E.N} Hi:=by
 have hE:=aeI (P:=P) (G:=G) hD h;intro e' H he hH hN ρ S F η w bQ pW hG;have touched:∀ j,j∈Zr.map (·.1)->look H j=look Hi j:=fun j hj=>hH j (.inr<|by unfold Eff.touch;simp only [lH,Hq,jo];exact .inl<|.inl hj);have hZ:∀ j,j∈Zr.map (·.1)->∃ nn t k rows,look H j=some (.vec nn t k rows):=fun j hj=>by
  rw [touched j hj];obtain ⟨p,hp,rfl⟩:=jW.1 hj;obtain ⟨nn,t,k,rows,h1,_⟩:=uX.get hp;exact ⟨nn,t,k,rows,h1⟩
 obtain ⟨iK,S1,hH1,a1,b1,c1,e1⟩:=pW.lays (Zr.map (·.1)) (nU hn) hZ;have hk:Keeps S w S1 w:=pW.keeps e1;have hop:=hE (fun x=>sM (qO Zr)<|e' x) (bU (Zr.map (·.1)) H) (fun x hx=>by rw [he x hx]) (fun x hx=>?_) ?_ iK S1 F η w (fun x hx=>aeZ uX touched a1 hk c1<|bQ x hx) hH1 (hG.mono hk)
 .refine hop.mono fun x w' hp=>?_;obtain ⟨ρ',S',F',hv,iA,hE',hA'⟩:=hp;have hlk:∀ y,look (E.new++bU (Zr.map (·.1)++E.C) H) y=look (E.new++bU E.C (bU (Zr.map (·.1)) H)) y:=fun y=>by
   simp only [FJ,aeL]
  have:=e1.trans hE';exact ⟨ρ',S',F',hv,iA.congr hlk,⟨this.os,this.tape,this.output,this.size,this.keep,this.sub,this.newS,fun b hb=>this.uT b<|Ub.congr hlk hb⟩,fun j r hj hN=>a1 j r<|hA' j r hj hN⟩
 .rw [lI,lI];split
  .rfl
  .refine hH x (hx.imp id fun ht=>?_);unfold Eff.touch at ht ⊢;simp only [lH,Hq,jo] at ht ⊢;exact ht.imp .inr id
 .refine kW.2 fun i hi=>?_;have:=kW.1 hN i hi;simp only [kX] at this ⊢;cases hh:gG i (bU (Zr.map (·.1)) H) with
  | false=>rfl
  | true=>rw [aeC hh] at this;cases this
theorem Ba {D:Tab} (hD:dQ P D) {ops:Array Oper} {draw:Bool} {T0:List V} {H0:Hp} {i:Nat} {T:List V} {H:Hp} {Es:List (Bool×Eff)} {Q:St->Prop} {Zr:List (Nat×List (List V))} (uX:bO H Zr) (hn:decide (Zr.map (·.1)).Nodup=true) (q:Nat) (E:Eff)
  (hE:(oD ops i T).bind (QZ D q (bU (Zr.map (·.1)) H) fun x=>sM (qO Zr)<|ev G T x)=some E)
  (k:W P G ops draw T0 H0 (i+1) (fB T (jf ops i) E.v) (E.new++bU (Zr.map (·.1)++E.C) H) (Es++[(true,{v:=E.v,R:=E.R,C:=Zr.map (·.1)++E.C,new:=E.new,N:=E.N})]) Q):W P G ops draw T0 H0 i T H Es Q:=by
 obtain ⟨op,h1,h2⟩:=dB.1 hE;exact En {v:=E.v,R:=E.R,C:=Zr.map (·.1)++E.C,new:=E.new,N:=E.N} h1 (fun o ho=>uW.lay hD uX hn<|by rw [ho];exact h2) k
def FP (Z:List (Nat×V)) (K:List Nat):Nat->List V->List V
 | _,[]=>[]
 | i,x::l=>(if K.contains i then x else sM Z x)::FP Z K (i+1) l
theorem ald (Z:List (Nat×V)) (K:List Nat):∀ (n:Nat) (l:List V) (i:Nat) (y:V),(FP Z K n l)[i]?=some y->∃ x,l[i]?=some x/\(y=x\/y=sM Z x)
 | _,[],i,y,h=>by simp [FP] at h
 | n,x::l,0,y,h=>by
  simp only [FP,Fz,iG] at h;refine ⟨x,aF,?_⟩;subst h;split
  .exact .inl rfl
  .exact .inr rfl
 | n,x::l,i+1,y,h=>by
  simp only [FP,MG] at h;obtain ⟨z,h1,h2⟩:=ald Z K (n+1) l i y h;exact ⟨z,by simpa using h1,h2⟩
theorem ale (Z:List (Nat×V)) (K:List Nat):∀ (n:Nat) (l:List V),(FP Z K n l).length=l.length
 | _,[]=>rfl
 | n,x::l=>by simp [FP,ale Z K (n+1) l]
theorem afa {as:Array Operand} {η:Operand->Value} {e':Operand->V} {ρ:Nat->Option Value} {S:Nat->Prop} {w:World} {arr:Array Value} {caps:List V} (bQ:∀ x,x∈as.toList->RV ρ S w (η x) (e' x)) (hsz:arr.size=caps.length)
  (hcap:∀ (j:Nat) (x:V) (c:Value),caps[j]?=some x->arr[j]?=some c->RV ρ S w c x) {i:Nat} {x0:V} (hx0:(as.toList.map e'++caps)[i]?=some x0):RV ρ S w ((as.map η++arr).getD i undef) x0:=by
 by_cases hi:i < as.size
 .rw [uR (by simpa using hi),gD,eD] at hx0;obtain ⟨y,hy,rfl⟩:=hx0;have hy':as[i]?=some y:=by simpa using hy
  have:(as.map η++arr).getD i undef=η y:=by
   rw [nS,QE (by simpa using hi),QF,hy'];rfl
  rw [this];exact bQ y (nT hy)
 .rw [uQ<|by simpa using hi] at hx0;simp only [mE,Co] at hx0;have hlt:i - as.size < arr.size:=by rw [hsz];exact (dK.1 hx0).1
  have:(as.map η++arr).getD i undef=arr[i - as.size]:=by
   rw [nS,adJ<|by simpa using hi];simp [mP hlt]
  rw [this];exact hcap _ x0 _ hx0 (mP hlt)
theorem uW.Rk {o:Oper} {e:Operand->V} {Hi:Hp} {f:Operand} {as:Array Operand} {ats:Array TypeId} {fid:FuncId} {caps:List V} (ho:o.op=.call {callee:=.value f,args:=as,argTypes:=ats}) (hf:e f=.fn fid caps) (hcf:yE P fid)
  {vs:List V} {Hc dU:Hp} {rc:V} (h:AC P G fid vs Hc rc dU) (q m:Ren) (Zr:List (Nat×List (List V))) (K:List Nat) (N:List Nat) (hn:Ej q m (Zr.map (·.1)) N=true) (Rc:AX dU=true)
  (uX:bO Hi Zr) (hh:wE q Hi q=some Hc) (ha:xB q (FP (qO Zr) K 0<|as.toList.map e++caps)=vs):
  uW P G o e {v:=rc.rn m,C:=Zr.map (·.1)++q.map (·.1),new:=je m dU,N:=N} Hi:=by
 have hZ:∀ j,j∈Zr.map (·.1)->∃ nn t k rows,look Hi j=some (.vec nn t k rows):=fun j hj=>by
  obtain ⟨p,hp,rfl⟩:=jW.1 hj;obtain ⟨nn,t,k,rows,h1,_⟩:=uX.get hp;exact ⟨nn,t,k,rows,h1⟩
 unfold Ej at hn;simp only [dL,kW,lG,lH,kX] at hn;obtain ⟨⟨⟨⟨n1,n2⟩,n3⟩,n4⟩,n5⟩:=hn;intro e' H he hH hN ρ S F η w bQ pW hG;have touched:∀ j,j∈Zr.map (·.1)++q.map (·.1)->look H j=look Hi j:=fun j hj=>hH j (.inr<|by unfold Eff.touch;simp only [lH,Hq];exact .inl hj);have VA:∀ j,j∈Zr.map (·.1)->look H j=look Hi j:=fun j hj=>touched j (jo.2<|.inl hj);have FM:f∈o.op.operands:=by simp [ho,Op.operands,Call.operands]
 have FN:∀ x,x∈as.toList->x∈o.op.operands:=fun x hx=>by
  simp only [ho,Op.operands,Call.operands];exact Ko.2 (.inr<|by simpa using hx)
 have hfe:e' f=.fn fid caps:=(he f FM).trans hf;have hmap:as.toList.map e'=as.toList.map e:=qx fun x hx=>he x (FN x hx);obtain ⟨iK,S1,hH1,a1,b1,c1,e1⟩:=pW.lays (Zr.map (·.1)) n4 fun j hj=>by
  obtain ⟨nn,t,k,rows,hl⟩:=hZ j hj;exact ⟨nn,t,k,rows,by rw [VA j hj];exact hl⟩
 have hk:Keeps S w S1 w:=pW.keeps e1;have zF:=bQ f FM;rw [hfe] at zF;obtain ⟨arr,harr,hsz,hcap⟩:=zF.Vg;have fits:Vd q m (FP (qO Zr) K 0<|as.toList.map e'++caps) (bU (Zr.map (·.1)) H) vs Hc rc dU (rc.rn m) (je m dU++bU (q.map (·.1)) (bU (Zr.map (·.1)) H)) N:=by
  have Vv:∀ p,p∈q->p.1∉Zr.map (·.1)/\dZ q p.1=some p.2:=fun p hp=>by
   have:=n5 p hp;simp only [mR] at this;exact ⟨fun hm=>(by have h2:=this.1;rw [Hq.2 hm] at h2;cases h2),this.2⟩
  refine ⟨n1,n2,?_,Vt hh (fun p hp=>(Vv p hp).2) fun p hp=>?_,rfl,fun j o' hj=>?_,fun i j hij hi=>?_,fun i j hij hi=>?_,fun j hj=>?_⟩
  .rw [hmap];have key:∀ (l:List V),AP q l (xB q l):=Ia q;rw [<- ha];exact key _
  .rw [lI,bI (Vv p hp).1];exact touched p.1 (jo.2<|.inr<|Cr hp)
  .rw [FJ] at hj;cases hkj:look (je m dU) j with
   | some o2=>
    rw [hkj] at hj;cases hj;obtain ⟨i,o2,h1,h2,h3⟩:=aam (nU Rc) hkj;exact .inr ⟨i,o2,h1,h2,h3 ▸ aeK m o2⟩
   | none=>
    rw [hkj] at hj;simp only at hj;rw [lI] at hj;split at hj
    .cases hj
    .rename_i hnq;refine .inl ⟨?_,hj,fun i hij=>?_⟩
     .cases hq:dZ q j with
      | none=>rfl
      | some i=>exact absurd (Cr (f:=(·.1))<|yD hq) hnq
     .have h3:=n3 _ (yD hij);rcases xA i 100 with hlt|hge
      .have:=h3.1;rcases this with h|h
       .rw [AL] at h;simp only at h;omega
       .simp only [mR] at h;exact hnq (Cr (f:=(·.1))<|yD h)
      .have:=h3.2;rcases this with h|h
       .rw [MN] at h;simp only at h;omega
       .simp only [Hq] at h;have Em:=kW.1 hN j h;simp only [kX] at Em;have:=(yB Em).1;rw [lI] at hj;split at hj
        .cases hj
        .rw [this] at hj;cases hj
  .have h3:=(n3 _<|yD hij).1;rcases h3 with h|h
   .rw [AL] at h;simp only at h;omega
   .simpa using h
  .have h3:=(n3 _<|yD hij).2;rcases h3 with h|h
   .rw [MN] at h;simp only at h;omega
   .simpa using h
  .have Em:=kW.1 hN j hj;simp only [kX] at Em;rw [lI];split
   .rfl
   .exact (yB Em).1
 unfold oC execOp;simp only [ho,resolve,harr,Deferred.ofValue,gU,kY,gN,invoke,UO];have Vi:=hcf (as.map η++arr) w;simp only [Vi];have hcall:=aef h fits (ρ:=iK) (S:=S1) (F:=F) (xs:=as.map η++arr) (w:=w) (by simp [hsz,ale]) (fun i x hx=>?_) hH1 (hG.mono hk) (fun j o' hj i hi=>?_)
 .refine hcall.mono ?_;rintro en w' ⟨x,rfl,hp⟩;refine ⟨x,rfl,?_⟩;obtain ⟨ρ',S',F',hv,iA,hE',hA'⟩:=hp;have hlk:∀ y,look (je m dU++bU (Zr.map (·.1)++q.map (·.1)) H) y=look (je m dU++bU (q.map (·.1)) (bU (Zr.map (·.1)) H)) y:=fun y=>by
   simp only [FJ,aeL]
  have:=e1.trans hE';exact ⟨ρ',S',F',hv,iA.congr hlk,⟨this.os,this.tape,this.output,this.size,this.keep,this.sub,this.newS,fun b hb=>this.uT b<|Ub.congr hlk hb⟩,fun j r hj hN=>a1 j r<|hA' j r hj hN⟩
 .obtain ⟨x0,hx0,hy⟩:=ald _ _ _ _ _ _ hx;have xC:=afa (fun y hy=>bQ y<|FN y hy) hsz hcap hx0;rcases hy with rfl|rfl
  .exact xC.mono (fun i r hi _=>a1 i r hi) hk
  .exact aeZ uX VA a1 hk c1 xC
 .rw [lI] at hj;split at hj
  .cases hj
  .have Vw:=kW.1 hN i hi;simp only [kX] at Vw;exact (yB Vw).2 j o' hj
def Rk (G:Nat->Option (List V)) (ops:Array Oper) (q:Ren) (Z:List (Nat×List (List V))) (K:List Nat) (i:Nat) (T:List V) (H:Hp):Option (FuncId×List V×Hp):=
 match oD ops i T with
 | some (.call {callee:=.value f,args:=as,argTypes:=_})=>match ev G T f,wE q H q with
  | .fn fid caps,some Hc=>some (fid,xB q<|FP (qO Z) K 0<|as.toList.map (ev G T)++caps,Hc)
  | _,_=>none
 | _=>none
theorem W.Rk {ops:Array Oper} {draw:Bool} {T0:List V} {H0:Hp} {i:Nat} {T:List V} {H:Hp} {Es:List (Bool×Eff)} {Q:St->Prop} {fid:FuncId} {vs:List V} {Hc dU:Hp} {rc:V} (h:AC P G fid vs Hc rc dU) (hcf:yE P fid) (q m:Ren) (K:List Nat) {Z:List (Nat×List (List V))} (N:List Nat) (hZ:bO H Z) (hn:(Ej q m (Z.map (·.1)) N&&AX dU)=true)
  (hc:Av.Rk G ops q Z K i T H=some (fid,vs,Hc))
  (k:W P G ops draw T0 H0 (i+1) (fB T (jf ops i)<|rc.rn m) (je m dU++bU (Z.map (·.1)++q.map (·.1)) H) (Es++[(true,{v:=rc.rn m,C:=Z.map (·.1)++q.map (·.1),new:=je m dU,N:=N})]) Q):W P G ops draw T0 H0 i T H Es Q:=by
 simp only [dL] at hn;unfold Av.Rk at hc;split at hc
 .rename_i f as ats hop;split at hc
  .rename_i aat caps Hc2 hf hh;cases hc;exact En _ hop (fun o ho=>uW.Rk ho hf hcf h q m Z K N hn.1 hn.2 hZ hh rfl) k
  .cases hc
 .cases hc
theorem uW.lend {o:Oper} {e:Operand->V} {Hi:Hp} {f:Operand} {as:Array Operand} {ats:Array TypeId} {fid:FuncId} {caps:List V} (ho:o.op=.call {callee:=.value f,args:=as,argTypes:=ats}) (hf:e f=.fn fid caps) (hcf:yE P fid)
  {vs:List V} {dU:Hp} {rc:V} (h:AC P G fid vs [] rc dU) (m:Ren) (Zr:List (Nat×List (List V))) (N:List Nat) (hn:Ej [] m (Zr.map (·.1)) N=true) (Rc:AX dU=true)
  (uX:bO Hi Zr) (hd:Deep rc) (hdH:Ng dU) (ha:xB [] ((as.toList.map e++caps).map<|sM<|qO Zr)=vs):
  uW P G o e {v:=rc.rn m,R:=Zr.map (·.1),new:=je m dU,N:=N} Hi:=by
 unfold Ej at hn;simp only [dL,kW,lG,lH,kX] at hn;obtain ⟨⟨⟨⟨n1,n2⟩,n3⟩,n4⟩,n5⟩:=hn;intro e' H he hH hN ρ S F η w bQ pW hG;have VA:∀ j,j∈Zr.map (·.1)->look H j=look Hi j:=fun j hj=>hH j (.inl hj);have hZ:∀ j,j∈Zr.map (·.1)->∃ nn t k rows,look H j=some (.vec nn t k rows):=fun j hj=>by
  rw [VA j hj];obtain ⟨p,hp,rfl⟩:=jW.1 hj;obtain ⟨nn,t,k,rows,h1,_⟩:=uX.get hp;exact ⟨nn,t,k,rows,h1⟩
 have FM:f∈o.op.operands:=by simp [ho,Op.operands,Call.operands]
 have FN:∀ x,x∈as.toList->x∈o.op.operands:=fun x hx=>by
  simp only [ho,Op.operands,Call.operands];exact Ko.2 (.inr<|by simpa using hx)
 have hfe:e' f=.fn fid caps:=(he f FM).trans hf;have hmap:as.toList.map e'=as.toList.map e:=qx fun x hx=>he x (FN x hx);obtain ⟨iK,S1,hH1,a1,b1,c1,e1⟩:=pW.lays (Zr.map (·.1)) n4 hZ;have hk:Keeps S w S1 w:=pW.keeps e1;have zF:=bQ f FM;rw [hfe] at zF;obtain ⟨arr,harr,hsz,hcap⟩:=zF.Vg;unfold oC execOp;simp only [ho,resolve,harr,Deferred.ofValue,gU,kY,gN,invoke,UO];simp only [hcf (as.map η++arr) w];have hH0:dY (fun _=>none) S1 (fun _=>[]) [] w:=⟨fun _ _=>rfl,fun i o h=>by simp [look] at h,fun i o h=>by simp [look] at h,fun i j o p b h=>by simp [look] at h,fun i o b h=>by simp [look] at h,fun i o b h=>by simp [look] at h,hH1.slt⟩
 refine (h (fun _=>none) S1 (fun _=>[]) (as.map η++arr) w ?_ (fun i x hx=>?_) hH0 (hG.mono hk)).mono ?_
 .rw [<- ha,UZ];simp [hsz]
 .rw [<- ha,UZ,gD,eD] at hx;obtain ⟨y,hy,rfl⟩:=hx;rw [gD,eD] at hy;obtain ⟨x0,hx0,rfl⟩:=hy;rw [<- hmap] at hx0;exact (aeZ uX VA a1 hk c1<|afa (fun y hy=>bQ y<|FN y hy) hsz hcap hx0).rn (fun i j r hi _=>by simp [dZ] at hi)
 .rintro en w' ⟨x,ρ',S',F',rfl,hx,hHn,hE,hA⟩;have hUn:∀ b,¬Ub ([]:Hp) (fun _=>[]) b:=fun b ⟨i,o,h1,_⟩=>by simp [look] at h1
  have hold:∀ b,b < w.heap.size->w'.heap[b]?=w.heap[b]?:=fun b hb=>hE.keep b hb (hUn b);have hks:Keeps S w S w':=fun b hb=>⟨hb,hold b<|pW.slt b hb⟩
  have hsub:Hz m dU (je m dU):=Na (nU Rc) dU fun _ hp=>hp;obtain ⟨sJ,F2,hH2,k2,k3,k4⟩:=hHn.rn n2 hsub;have hfresh:∀ i j,dZ m i=some j->gG j H=false:=fun i j hij=>by
   have h3:=n3 _ (yD hij);have hj:j∈N:=by
    rcases h3.2 with h|h
    .rcases h3.1 with h'|h'
     .rw [MN] at h;rw [AL] at h';simp only at h h';omega
     .simp [dZ] at h'
    .simpa using h
   simpa using kW.1 hN j hj
  have hKm:∀ j o',look (je m dU) j=some o'->∃ i o,dZ m i=some j/\look dU i=some o/\F2 j=F' i/\sJ j=ρ' i:=k4;let K:=je m dU
  let Ij:Nat->Option Value:=fun j=>if (look K j).isSome then sJ j else ρ j
  let F3:Nat->List Nat:=fun j=>if (look K j).isSome then F2 j else F j
  have hKH:∀ j o',look K j=some o'->look H j=none/\∀ p o,look H p=some o->o.has j=false:=fun j o' hj=>by
   obtain ⟨i,o,hi,_⟩:=hKm j o' hj;exact yB (hfresh i j hi)
  have hnew:∀ j o' b,look K j=some o'->b∈F2 j->w.heap.size<=b:=fun j o' b hj hb=>by
   obtain ⟨i,o,hi,hl,hF,_⟩:=hKm j o' hj;rw [hF] at hb;rcases hE.uT b ⟨i,o,hl,hb⟩ with h|h
   .exact absurd h (hUn b)
   .exact h
  have lk:∀ j o',look (K++bU [] H) j=some o'->(look K j=some o')\/(look K j=none/\look H j=some o'):=fun j o' hj=>by
   rw [FJ,Vy] at hj;split at hj
   .rename_i o2 h2;cases hj;exact .inl h2
   .rename_i h2;exact .inr ⟨h2,hj⟩
  have ZW:QL ρ Ij N:=fun j r hr hj=>by
   simp only [Ij] at hr;split at hr
   .rename_i hs;obtain ⟨o',ho'⟩:=MC.1 hs;obtain ⟨i,o,hi,_⟩:=hKm j o' ho';have h3:=n3 _ (yD hi);rcases h3.2 with h|h
    .rcases h3.1 with h'|h'
     .rw [MN] at h;rw [AL] at h';simp only at h h';omega
     .simp [dZ] at h'
    .exact absurd (by simpa using h) hj
   .exact hr
  refine ⟨x,rfl,Ij,S,F3,?_,⟨fun j hj=>?_,fun j o' hj=>?_,fun j o' hj=>?_,fun j j' o' p' b hj hj' hne hb hb'=>?_,fun j o' b hj hb=>?_,fun j o' b hj hb=>?_,fun b hb=>Az (pW.slt b hb) hE.size⟩,
   ⟨hE.os,hE.tape,hE.output,hE.size,fun b hb _=>hold b hb,fun _ hb=>hb,fun _ hb=>.inl hb,fun b hb=>?_⟩,ZW⟩
  .refine ((hx.deep (S':=S) hd).rn (m:=m) (ρ':=Ij) fun i j r hi hr=>?_);simp only [Ij] at hr;split at hr
   .exact k2 i j r hi hr
   .have:=(yB<|hfresh i j hi).1;rw [pW.dom j this] at hr;cases hr
  .rw [FJ,Vy] at hj;split at hj
   .cases hj
   .rename_i h2;simp only [Ij];rw [show look K j=none from h2];exact pW.dom j hj
  .rcases lk j o' hj with h1|⟨h1,h2⟩
   .obtain ⟨r,hr,bY⟩:=hH2.obj j o' h1;obtain ⟨i,o,hi,hl,hF,hρ⟩:=hKm j o' h1;refine ⟨r,by simp only [Ij,h1];exact hr,?_⟩;simp only [F3,h1,Kl,kF];obtain ⟨i2,o2,hi2,hl2,hoo⟩:=aam (nU Rc) h1;obtain ⟨nn,e0,k0,rows,rfl,hdr⟩:=hdH.get hl2;subst hoo;exact bY.deep hdr
   .obtain ⟨r,hr,bY⟩:=pW.obj j o' h2;refine ⟨r,by simp only [Ij,h1];exact hr,?_⟩;simp only [F3,h1,Km];refine bY.mono (fun i r' hi hh=>?_) hks (fun b hb=>hold b<|pW.lt j o' b h2 hb);simp only [Ij] at hi;split at hi
    .rename_i hs;obtain ⟨o2,ho2⟩:=MC.1 hs;rw [(hKH i o2 ho2).2 j o' h2] at hh;cases hh
    .exact hi
  .rcases lk j o' hj with h1|⟨h1,h2⟩
   .simp only [F3,h1,Kl,kF];exact hH2.nodup j o' h1
   .simp only [F3,h1,Km];exact pW.nodup j o' h2
  .rcases lk j o' hj with h1|⟨h1,h2⟩<;>rcases lk j' p' hj' with h1'|⟨h1',h2'⟩
   .simp only [F3,h1,h1',Kl,kF] at hb hb';exact hH2.gW j j' o' p' b h1 h1' hne hb hb'
   .simp only [F3,h1,h1',Kl,kF,Km] at hb hb';have:=hnew j o' b h1 hb;have:=pW.lt j' p' b h2' hb';omega
   .simp only [F3,h1,h1',Kl,kF,Km] at hb hb';have:=hnew j' p' b h1' hb';have:=pW.lt j o' b h2 hb;omega
   .simp only [F3,h1,h1',Km] at hb hb';exact pW.gW j j' o' p' b h2 h2' hne hb hb'
  .rcases lk j o' hj with h1|⟨h1,h2⟩
   .simp only [F3,h1,Kl,kF] at hb;intro hs;have:=hnew j o' b h1 hb;have:=pW.slt b hs;omega
   .simp only [F3,h1,Km] at hb;exact pW.sep j o' b h2 hb
  .rcases lk j o' hj with h1|⟨h1,h2⟩
   .simp only [F3,h1,Kl,kF] at hb;exact hH2.lt j o' b h1 hb
   .simp only [F3,h1,Km] at hb;exact Az (pW.lt j o' b h2 hb) hE.size
  .obtain ⟨j,o',hj,hb⟩:=hb;rcases lk j o' hj with h1|⟨h1,h2⟩
   .simp only [F3,h1,Kl,kF] at hb;exact .inr (hnew j o' b h1 hb)
   .simp only [F3,h1,Km] at hb;exact .inl ⟨j,o',h2,hb⟩
theorem W.lend {ops:Array Oper} {draw:Bool} {T0:List V} {H0:Hp} {i:Nat} {T:List V} {H:Hp} {Es:List (Bool×Eff)} {Q:St->Prop} {fid:FuncId} {vs:List V} {dU:Hp} {rc:V} (h:AC P G fid vs [] rc dU) (hcf:yE P fid) (m:Ren) {Z:List (Nat×List (List V))} (N:List Nat) (hZ:bO H Z) (hd:Deep rc) (hdH:Ng dU) (hn:(Ej [] m (Z.map (·.1)) N&&AX dU)=true)
  (hc:Ig G ops [] Z i T H=some (fid,vs,[]))
  (k:W P G ops draw T0 H0 (i+1) (fB T (jf ops i)<|rc.rn m) (je m dU++H) (Es++[(true,{v:=rc.rn m,R:=Z.map (·.1),new:=je m dU,N:=N})]) Q):W P G ops draw T0 H0 i T H Es Q:=by
 simp only [dL] at hn;unfold Ig at hc;split at hc
 .rename_i f as ats hop;split at hc
  .rename_i aat caps Hc2 hf hh;cases hc;refine En {v:=rc.rn m,R:=Z.map (·.1),new:=je m dU,N:=N} hop (fun o ho=>uW.lend ho hf hcf h m Z N hn.1 hn.2 hZ hd hdH rfl) ?_;rw [Vy];exact k
  .cases hc
 .cases hc
theorem auK {f:FuncId} {vs:List V} {H H':Hp} {r:V} (p i e k:Nat) (h:AC P G f vs ((i,.vec false e k [])::H) r H') (hi:gG i H=false) (iA:look H' i=none)
  (hp:(vs[p]?).isSome=true) (hh:V.nX i (vs.set p .junk)=false) (hv:vs=vs.set p (.own i)):AC P G f (vs.set p<|.c<|.slice none 0 0) H r H':=by
 intro ρ S F xs w hsz hxs hH hG;refine (h _ S _ xs w (by simpa using hsz) (fun j x hx=>?_) (hH.Nf (e:=e) (k:=k) hi) hG).mono ?_
 .by_cases hj:j=p
  .subst hj;have hx2:=hxs j (.c<|.slice none 0 0) (by rw [FH];rw [dA rfl];rw [dA];exact (dK.1 hx).1);rw [hv,FH,dA rfl] at hx;split at hx
   .cases hx;rw [hx2.iX];exact .own _ i fun r hr=>by simp only [kF] at hr;cases hr;rfl
   .cases hx
  .have hx2:=hxs j x (by rw [FH,bI<|tO hj];exact hx);refine hx2.mono (fun q r hq hh'=>?_) fun b hb=>⟨hb,rfl⟩
   split at hq
   .subst_vars;have hm:x∈vs.set p .junk:=nT (i:=j) (by rw [FH,bI<|tO hj];exact hx);rw [UY hh hm] at hh';cases hh'
   .exact hq
 .rintro en w' ⟨x,ρ',S',F',he,hx,hH2,hE,hA⟩;refine ⟨x,ρ',S',F',he,hx,hH2,⟨hE.os,hE.tape,hE.output,hE.size,fun b hb hu=>hE.keep b hb fun h=>hu<|Ub.Nf h,hE.sub,fun b hb=>(hE.newS b hb).imp id<|Or.imp Ub.Nf id,fun b hb=>(hE.uT b hb).imp Ub.Nf id⟩,fun j r hj hr=>?_⟩;have:=hA j r hj hr;simp only at this;split at this
  .subst_vars;rw [hH2.dom _ iA] at hr;cases hr
  .exact this
theorem afc {D:Tab} (hD:dQ P D) {ops:Array Oper} {draw:Bool} {T0:List V} {H0:Hp} {i:Nat} {T:List V} {H:Hp} {Es:List (Bool×Eff)} {Q:St->Prop} {α:Type} (enc:α->List V) {l:List α} {n:Int} {x:α} (hx:ix l n=some x)
  (sz:Nat) (h:Av.Nb D G ops i T=some (l.map enc,n,sz)) {row:List V} (hr:enc x=row) (hs:row.length=sz)
  (k:W P G ops draw T0 H0 (i+1) (fB T (jf ops i)<|.el row) H (Es++[(true,{v:=.el row})]) Q):W P G ops draw T0 H0 i T H Es Q:=by
 subst hr;exact W.Nb hD enc hx sz h hs k
theorem auL {H:Hp} {i:Nat} {o:Ob} (h:look H i=some o):hput H i o=H:=by
 induction H with
 | nil=>cases h
 | cons p H ih=>
  obtain ⟨j,p⟩:=p;simp only [look] at h;simp only [hput];split
  .subst_vars;rw [dA rfl] at h;cases h;rfl
  .rename_i hne;rw [bI hne] at h;rw [ih h]
theorem zG {ops:Array Oper} {draw:Bool} {T0:List V} {H0:Hp} {i:Nat} {T:List V} {H:Hp} {Es:List (Bool×Eff)} {Q:St->Prop} (j:Nat) {nn:Bool} {e:Tg} {k:Nat} {rows rows':List (List V)} (h:look H j=some (.vec nn e k rows)) (he:rows=rows')
  (k':W P G ops draw T0 H0 i T (hput H j<|.vec nn e k rows') Es Q):W P G ops draw T0 H0 i T H Es Q:=by
 subst he;rw [auL h] at k';exact k'
end
end Go.Av
namespace Go.Av
section
variable {P:Program} {G:Nat->Option (List V)}
def alg (G:Nat->Option (List V)) (ops:Array Oper) (i:Nat) (T:List V):Option (FuncId×List V):=
 match oD ops i T with
 | some (.call {callee:=.value f,args:=as,argTypes:=_})=>match ev G T f with
  | .fn fid caps=>some (fid,as.toList.map (ev G T)++caps)
  | _=>none
 | _=>none
theorem W.ext {ops:Array Oper} {draw:Bool} {T0:List V} {H0:Hp} {i:Nat} {T:List V} {H:Hp} {Es:List (Bool×Eff)} {Q:St->Prop} {fid:FuncId} {vs:List Value} {v:Value}
  (h:∀ w,(callFunc fid vs.toArray).run P w=.ok (.value v) w) (hc:alg G ops i T=some (fid,vs.map .c))
  (k:W P G ops draw T0 H0 (i+1) (fB T (jf ops i)<|.c v) H (Es++[(true,{v:=.c v})]) Q):W P G ops draw T0 H0 i T H Es Q:=by
 unfold alg at hc;split at hc
 .rename_i f as ats hop;split at hc
  .rename_i aat caps hf;simp only [iG,pR] at hc;obtain ⟨rfl,hvs⟩:=hc;refine AY (.c v) [] hop (fun o ho e' H' he _=>?_) k;refine Ed fun ρ S F η w bQ hH=>?_;have FM:f∈o.op.operands:=by simp [ho,Op.operands,Call.operands]
   have FN:∀ x,x∈as.toList->x∈o.op.operands:=fun x hx=>by
    simp only [ho,Op.operands,Call.operands];exact Ko.2 (.inr<|by simpa using hx)
   have hop':∀ x,x∈(Op.call {callee:=Callee.value f,args:=as,argTypes:=ats}).operands->e' x=ev G T x:=he;have hfe:e' f=.fn aat caps:=(hop' f<|by simp [Op.operands,Call.operands]).trans hf;have hmap:as.toList.map e'=as.toList.map (ev G T):=qx fun x hx=>hop' x (by simp only [Op.operands,Call.operands];exact Ko.2<|.inr<|by simpa using hx);have zF:=bQ f FM;rw [hfe] at zF;obtain ⟨arr,harr,hsz,hcap⟩:=zF.Vg;have hargs:as.map η++arr=vs.toArray:=by
    apply Array.ext';simp only [Array.toList_append,Array.toList_map];have hlen:(as.toList.map η++arr.toList).length=vs.length:=by
     have:=congrArg List.length hvs;simp only [mE,jQ,Co] at this ⊢;omega
    refine List.ext_getElem hlen fun j h1 h2=>?_;have hj:(vs.map V.c)[j]?=some (.c vs[j]):=by rw [gD,fQ h2];rfl
    rw [<- hvs,<- hmap] at hj;have xC:=afa (fun y hy=>bQ y<|FN y hy) hsz hcap hj;have hcv:=xC.iX;have hg:(as.map η++arr).getD j undef=(as.toList.map η++arr.toList)[j]:=by
     rw [nS];have:(as.map η++arr)[j]?=(as.toList.map η++arr.toList)[j]?:=by
      rw [<- ZC];simp
     rw [this,fQ h1];rfl
    rw [<- hg];exact hcv
   refine ⟨v,?_,.c v⟩;simp only [execOp,ho,resolve,harr,Deferred.ofValue,gU,kY,gN,invoke,UO];rw [hargs];exact h w
  .cases hc
 .cases hc
theorem afd {α:Type} {enc enc':α->List V} (h:∀ a,tQ (enc a)=enc' a) (l:List α):qN (l.map enc)=l.map enc':=by
 rw [MV,nW];exact qx fun a _=>h a
theorem lJ {α:Type} (x:Bool) {enc enc':α->List V} (h:∀ a,tQ (enc a)=enc' a) (l:List α):tQ (cB x enc l)=cB false enc' l:=by
 simp only [cB,tQ,V.share,afd h]
end
end Go.Av
