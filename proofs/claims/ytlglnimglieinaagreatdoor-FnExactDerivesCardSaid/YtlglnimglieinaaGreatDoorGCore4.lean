/-
 Abstract values, states, walks, part 4.
-/
import Derived.Test.YtlglnimglieinaaGreatDoorGCore3
import Derived.LoopN
import Derived.KernelRfl
import Derived.Below
import Derived.ChangeSame
import Derived.ChangeReads
import Derived.ChangeArms
import Derived.ReadAgain
import Derived.WideShapes
import Derived.Lib.Bytealg
import Derived.Laws.Externs
set_option linter.all false
namespace Go.Av
def ix {α:Type} (l:List α) (i:Int):Option α:=if 0<=i then l[i.toNat]? else none
def upd {α:Type} (l:List α) (i:Int) (x:α):Option (List α):=if 0<=i/\i.toNat < l.length then some (l.set i.toNat x) else none
def cut {α:Type} (l:List α) (lo hi:Int):Option (List α):=if 0<=lo/\lo<=hi/\hi<=l.length then some ((l.drop lo.toNat).take<|hi.toNat - lo.toNat) else none
def cat (a b:List UInt8):Option (List UInt8):=if a.length+b.length<=maxLen then some (a++b) else none
def app {α:Type} (n:Nat) (l l2:List α):Option (List α):=if (l.length+l2.length)*n<=140737488355328 then some (l++l2) else none
def mk {α:Type} (n:Nat) (z:α) (i:Int):Option (List α):=if 0<=i/\n*i.toNat<=281474976710656/\i.toNat<=maxLen then some (List.replicate i.toNat z) else none
def Pq {α:Type} {l:List α} {i:Int} {x:α} (h:ix l i=some x):i=(i.toNat:Int)/\l[i.toNat]?=some x:=by
 unfold ix at h;split at h
 .exact ⟨ah,h⟩
 .cases h
section
variable {P:Program} {G:Nat->Option (List V)}
def oH (ops:Array Oper) (i:Nat) (T:List V):Option Op:=
 match ops[i]? with
 | some o=>match wQ ops T o.guard with
  | some true=>some o.op
  | _=>none
 | none=>none
def ku (ops:Array Oper) (i:Nat):Option Tmp:=(ops[i]?).bind (·.dst)
theorem Pt (H:Hp):dB [] H=H:=by
 unfold dB;exact List.filter_eq_self.2 fun _ _=>rfl
theorem IG {ops:Array Oper} {draw:Bool} {T0:List V} {H0:Hp} {i:Nat} {T:List V} {H:Hp} {Es:List (Bool×Eff)} {Q:St->Prop} (E:Eff) {op:Op} (h:oH ops i T=some op) (hop:∀ o:Oper,o.op=op->uz P G o (ev G T) E H)
  (k:W P G ops draw T0 H0 (i+1) (fQ T (ku ops i) E.v) (E.new++dB E.C H) (Es++[(true,E)]) Q):W P G ops draw T0 H0 i T H Es Q:=by
 unfold oH at h;split at h
 .rename_i o ho;split at h
  .rename_i hw;cases h;refine W.one E ho hw (hop o rfl) ?_;have:ku ops i=o.dst:=by unfold ku;rw [ho];rfl
   rw [this] at k;exact k
  .cases h
 .cases h
theorem Cv {ops:Array Oper} {draw:Bool} {T0:List V} {H0:Hp} {i:Nat} {T:List V} {H:Hp} {Es:List (Bool×Eff)} {Q:St->Prop} (v:V) (R:List Nat) {op:Op} (h:oH ops i T=some op)
  (hop:∀ o:Oper,o.op=op->∀ e' H',(∀ x,x∈op.operands->e' x=ev G T x)->(∀ x,x∈R->look H' x=look H x)->gH P G o e' H' v H' [])
  (k:W P G ops draw T0 H0 (i+1) (fQ T (ku ops i) v) H (Es++[(true,{v:=v,R:=R})]) Q):W P G ops draw T0 H0 i T H Es Q:=by
 refine IG {v:=v,R:=R} h (fun o ho e' H' he hH _=>?_) (by simpa [Pt] using k);exact (hop o ho e' H' (by rw [<- ho];exact he) fun x hx=>hH x<|.inl hx).congr fun y=>by rw [FH];simp [Eff.touch,look]
def LM (D:Tab) (G:Nat->Option (List V)) (ops:Array Oper) (i:Nat) (T:List V):Option (List (List V)×Int×Nat):=
 match oH ops i T with
 | some (.indexAddr t x ix)=>match D.at t,ev G T x,ev G T ix with
  | some it,.sl _ _ rows,.c (.int _ n)=>match it.d with
   | .slice el=>match D.at el with
    | some ie=>some (rows,n,ie.size)
    | none=>none
   | _=>none
  | _,_,_=>none
 | _=>none
theorem W.LM {D:Tab} (hD:dX P D) {ops:Array Oper} {draw:Bool} {T0:List V} {H0:Hp} {i:Nat} {T:List V} {H:Hp} {Es:List (Bool×Eff)} {Q:St->Prop} {α:Type} (enc:α->List V) {l:List α} {n:Int} {x:α} (hx:ix l n=some x)
  (sz:Nat) (h:LM D G ops i T=some (l.map enc,n,sz)) (hs:(enc x).length=sz)
  (k:W P G ops draw T0 H0 (i+1) (fQ T (ku ops i)<|.el<|enc x) H (Es++[(true,{v:=.el (enc x)})]) Q):W P G ops draw T0 H0 i T H Es Q:=by
 obtain ⟨h1,h2⟩:=Pq hx;unfold Av.LM at h;split at h
 .rename_i t xo io hop;split at h
  .rename_i it nn b rows kk n' ht hxv hiv;split at h
   .rename_i el hit;split at h
    .rename_i ie hel;cases h;refine Cv (.el<|enc x) [] hop (fun o ho e' H' he _=>?_) k;exact aEH hD n.toNat ho ht hit hel ((he xo gG).trans hxv) ((he io gG).trans hiv) h1 (by rw [gy,h2];rfl) hs
    .cases h
   .cases h
  .cases h
 .cases h
def yu (D:Tab) (G:Nat->Option (List V)) (ops:Array Oper) (i:Nat) (T:List V) (H:Hp):Option (Nat×List (List V)×Int×Nat):=
 match oH ops i T with
 | some (.indexAddr t x ix)=>match D.at t,ev G T x,ev G T ix with
  | some it,.own j,.c (.int _ n)=>match it.d,look H j with
   | .slice el,some (.vec _ _ k rows)=>match D.at el with
    | some ie=>if k=ie.size then some (j,rows,n,ie.size) else none
    | none=>none
   | _,_=>none
  | _,_,_=>none
 | _=>none
theorem W.yu {D:Tab} (hD:dX P D) {ops:Array Oper} {draw:Bool} {T0:List V} {H0:Hp} {i:Nat} {T:List V} {H:Hp} {Es:List (Bool×Eff)} {Q:St->Prop} {α:Type} (enc:α->List V) {l:List α} {n:Int} {x:α} (hx:ix l n=some x)
  (j sz:Nat) (h:yu D G ops i T H=some (j,l.map enc,n,sz))
  (k:W P G ops draw T0 H0 (i+1) (fQ T (ku ops i)<|.vp j sz n.toNat 0) H (Es++[(true,{v:=.vp j sz n.toNat 0,R:=[j]})]) Q):W P G ops draw T0 H0 i T H Es Q:=by
 obtain ⟨h1,h2⟩:=Pq hx;unfold Av.yu at h;split at h
 .rename_i t xo io hop;split at h
  .rename_i it j' kk n' ht hxv hiv;split at h
   .rename_i el nn Lh k' rows hit hl;split at h
    .rename_i ie hel;split at h
     .rename_i hc;subst hc;cases h;refine Cv (.vp j ie.size n.toNat 0) [j] hop (fun o ho e' H' he oG=>?_) k;refine aEI hD n.toNat ho ht hit hel ((he xo gG).trans hxv) (by rw [oG j aF];exact hl) ((he io gG).trans hiv) h1 ?_;have:=(dV.1 h2).1;simpa using this
     .cases h
    .cases h
   .cases h
  .cases h
 .cases h
def DI (G:Nat->Option (List V)) (ops:Array Oper) (i:Nat) (T:List V) (H:Hp):Option (TypeId×Nat×Nat×Nat×List (List V)):=
 match oH ops i T with
 | some (.load t a)=>match ev G T a with
  | .vp j k m b=>match look H j with
   | some (.vec _ _ k' rows)=>if k=k' then some (t,j,m,b,rows) else none
   | _=>none
  | _=>none
 | _=>none
theorem W.DI {D:Tab} (hD:dX P D) {ops:Array Oper} {draw:Bool} {T0:List V} {H0:Hp} {i:Nat} {T:List V} {H:Hp} {Es:List (Bool×Eff)} {Q:St->Prop} {α:Type} (enc:α->List V) {l:List α} {n:Int} {x:α} (hx:ix l n=some x)
  (t j b:Nat) (v:V) (h:DI G ops i T H=some (t,j,n.toNat,b,l.map enc)) (hv:FD D t (((enc x).drop b).map V.clean)=some v)
  (k:W P G ops draw T0 H0 (i+1) (fQ T (ku ops i) v) H (Es++[(true,{v:=v,R:=[j]})]) Q):W P G ops draw T0 H0 i T H Es Q:=by
 obtain ⟨h1,h2⟩:=Pq hx;unfold Av.DI at h;split at h
 .rename_i t' a hop;split at h
  .rename_i j' k' m b' ha;split at h
   .rename_i nn ety k'' rows hl;split at h
    .subst_vars;simp only [iI,nC] at h;obtain ⟨rfl,rfl,rfl,rfl,rfl⟩:=h;refine Cv v [j'] hop (fun o ho e' H' he oG=>?_) k;exact aFu hD ho ((he a gG).trans ha) (by rw [oG j' aF];exact hl) (by rw [gy,h2];rfl) hv
    .cases h
   .cases h
  .cases h
 .cases h
def Oq (D:Tab) (G:Nat->Option (List V)) (ops:Array Oper) (i:Nat) (T:List V) (H:Hp):Option (Nat×Bool×Tg×Nat×Nat×Nat×List (List V)×List V×List Nat×List Nat):=
 match oH ops i T with
 | some (.store t a x)=>match D.at t,ev G T a,uy H (ev G T x) with
  | some it,.vp j k m b,some cs=>match look H j,vk H cs with
   | some (.vec nn ety k' rows),some (ys,C)=>if k=k'/\C.Nodup/\j∉C/\cs.length=it.size/\b+cs.length<=k then some (j,nn,ety,k,m,b,rows,ys,C,(ev G T x).ids) else none
   | _,_=>none
  | _,_,_=>none
 | _=>none
theorem W.Oq {D:Tab} (hD:dX P D) {ops:Array Oper} {draw:Bool} {T0:List V} {H0:Hp} {i:Nat} {T:List V} {H:Hp} {Es:List (Bool×Eff)} {Q:St->Prop} {α:Type} (enc:α->List V) {l l':List α} {n:Int} {x x':α} (hx:ix l n=some x) (hu:upd l n x'=some l')
  {j:Nat} {nn:Bool} {ety:Tg} {sz b:Nat} {ys:List V} {C R:List Nat} (h:Oq D G ops i T H=some (j,nn,ety,sz,n.toNat,b,l.map enc,ys,C,R)) (hp:putAt (enc x) ys b=enc x')
  (k:W P G ops draw T0 H0 (i+1) (fQ T (ku ops i) .junk) ((j,.vec nn ety sz<|l'.map enc)::dB (j::C) H) (Es++[(true,{v:=.junk,R:=R,C:=j::C,new:=[(j,.vec nn ety sz<|l'.map enc)]})]) Q):W P G ops draw T0 H0 i T H Es Q:=by
 obtain ⟨h1,h2⟩:=Pq hx;have hl':l'=l.set n.toNat x':=by
  unfold upd at hu;split at hu
  .exact (iV hu).symm
  .cases hu
 subst hl';unfold Av.Oq at h;split at h
 .rename_i t a xo hop;split at h
  .rename_i it j' k' m b' cs ht ha hcs;split at h
   .rename_i oD aoX k'' rows ys' C' hl hab;split at h
    .rename_i hc;obtain ⟨rfl,hC,hj,hsz,hfit⟩:=hc;simp only [iI,nC] at h;obtain ⟨rfl,rfl,rfl,rfl,rfl,rfl,rfl,rfl,rfl,rfl⟩:=h;refine IG {v:=.junk,R:=(ev G T xo).ids,C:=j'::C',new:=[(j',.vec oD aoX k'<|(l.set n.toNat x').map enc)]} hop (fun o ho e' H' he oG _=>?_) k;have hop':∀ y,y∈o.op.operands->e' y=ev G T y:=he;have ha':=(hop' a<|by simp [ho,Op.operands]).trans ha;have hcs':uy H' (e' xo)=some cs:=by
      rw [hop' xo (by simp [ho,Op.operands]),abu fun q hq=>oG q<|.inl hq];exact hcs
     have hlk:look H' j'=some (.vec oD aoX k'<|l.map enc):=by
      rw [oG j'<|.inr<|by simp [Eff.touch]];exact hl
     have hab':vk H' cs=some (ys',C'):=by
      have key:∀ (cs ys:List V) (C2:List Nat),vk H cs=some (ys,C2)->(∀ c,c∈C2->c∈C')->vk H' cs=some (ys,C2):=by
       intro cs;induction cs with
       | nil=>intro ys C2 h _;exact h
       | cons y l ih=>
        intro ys C2 h hsub;simp only [vk,dn,eY] at h ⊢;obtain ⟨⟨z,C1⟩,h1,⟨zs,C3⟩,h2,h3⟩:=h;cases h3;refine ⟨(z,C1),?_,(zs,C3),ih zs C3 h2 fun c hc=>hsub c<|mJ.2<|.inr hc,rfl⟩;cases y with
        | own q=>
         simp only [DY] at h1 ⊢;split at h1
         .rename_i _ _ _ _ hlq;split at h1
          .rename_i hh;cases h1;have hj:look H' q=look H q:=oG q (.inr<|by simp [Eff.touch];exact .inl<|.inr<|hsub q aF);rw [hj,hlq];simp only [hh,nI]
          .cases h1
         .cases h1
        | c u=>rw [aoO H H'];exact h1
        | _=>exact h1
      exact key cs ys' C' hab fun c hc=>hc
     have hrow:(l.map enc)[n.toNat]?=some (enc x):=by rw [gy,h2];rfl
     have:=aFr (G:=G) hD ho ht ha' hlk hrow hcs' hab' hC hj hsz hfit;rw [hp,<- aDW] at this;exact this
    .cases h
   .cases h
  .cases h
 .cases h
def uR (D:Tab) (G:Nat->Option (List V)) (ops:Array Oper) (i:Nat) (T:List V):Option (V×Int):=
 match oH ops i T with
 | some (.index t x ix)=>match D.at t,ev G T ix with
  | some it,.c (.int _ n)=>match it.d with
   | .str=>some (ev G T x,n)
   | _=>none
  | _,_=>none
 | _=>none
theorem W.uR {D:Tab} (hD:dX P D) {ops:Array Oper} {draw:Bool} {T0:List V} {H0:Hp} {i:Nat} {T:List V} {H:Hp} {Es:List (Bool×Eff)} {Q:St->Prop} {s:List UInt8} {n:Int} {c:UInt8} (hx:ix s n=some c) (h:uR D G ops i T=some (V.s s,n))
  (k:W P G ops draw T0 H0 (i+1) (fQ T (ku ops i)<|.c<|.int .u8 c.toNat) H (Es++[(true,{v:=.c (.int .u8 c.toNat)})]) Q):W P G ops draw T0 H0 i T H Es Q:=by
 obtain ⟨h1,h2⟩:=Pq hx;unfold Av.uR at h;split at h
 .rename_i t xo io hop;split at h
  .rename_i it kk n' ht hiv;split at h
   .rename_i hit;simp only [iI,nC] at h;obtain ⟨hxv,rfl⟩:=h;refine Cv (.c<|.int .u8 c.toNat) [] hop (fun o ho e' H' he _=>?_) k;exact aEK hD n'.toNat ho ht hit ((he xo gG).trans hxv) ((he io gG).trans hiv) h1 h2
   .cases h
  .cases h
 .cases h
def ixA (D:Tab) (G:Nat->Option (List V)) (ops:Array Oper) (i:Nat) (T:List V):Option (List V×Int×Nat):=
 match oH ops i T with
 | some (.index t x ix)=>match D.at t,ev G T x,ev G T ix with
  | some it,.agg cs,.c (.int _ n)=>match it.d with
   | .arr len el=>match D.at el with
    | some ie=>if ie.d.agg=false/\ie.size=1 then some (cs,n,len) else none
    | none=>none
   | _=>none
  | _,_,_=>none
 | _=>none
theorem W.ixA {D:Tab} (hD:dX P D) {ops:Array Oper} {draw:Bool} {T0:List V} {H0:Hp} {i:Nat} {T:List V} {H:Hp} {Es:List (Bool×Eff)} {Q:St->Prop} {α:Type} (enc:α->V) {l:List α} {n:Int} {x:α} (hx:ix l n=some x) (h:ixA D G ops i T=some (l.map enc,n,l.length))
  (k:W P G ops draw T0 H0 (i+1) (fQ T (ku ops i)<|enc x) H (Es++[(true,{v:=enc x})]) Q):W P G ops draw T0 H0 i T H Es Q:=by
 obtain ⟨h1,h2⟩:=Pq hx;unfold Av.ixA at h;split at h
 .rename_i t xo io hop;split at h
  .rename_i it cs kk n' ht hxv hiv;split at h
   .rename_i len el hit;split at h
    .rename_i ie hel;split at h
     .rename_i hc;simp only [iI,nC] at h;obtain ⟨rfl,rfl,rfl⟩:=h;refine Cv (enc x) [] hop (fun o ho e' H' he _=>?_) k;exact aEL hD n'.toNat ho ht hit hel hc.1 hc.2 ((he xo gG).trans hxv) ((he io gG).trans hiv) h1 (dV.1 h2).1 (by rw [gy,h2];rfl)
     .cases h
    .cases h
   .cases h
  .cases h
 .cases h
def Lm (G:Nat->Option (List V)) (T:List V) (d:Int):Option Operand->Option Int
 | none=>some d
 | some x=>match ev G T x with
  | .c (.int _ n)=>some n
  | _=>none
theorem aFv {G:Nat->Option (List V)} {T:List V} {e':Operand->V} {len:Nat} {l h:Option Operand} {lo hi:Int} (hl:Lm G T 0 l=some lo) (hh:Lm G T len h=some hi) (h1:0<=lo/\lo<=hi/\hi<=len)
  (he:∀ x,l=some x\/h=some x->e' x=ev G T x):agK e' len lo.toNat hi.toNat l h:=by
 refine ⟨ah,ah,?_,?_⟩
 .cases l with
  | none=>simp only [Lm,iI] at hl;simp only;omega
  | some x=>
   simp only [Lm] at hl;split at hl
   .rename_i k n hx;cases hl;exact ⟨k,by rw [he x<|.inl rfl,hx,show ((lo.toNat:Nat):Int)=lo by omega]⟩
   .cases hl
 .cases h with
  | none=>simp only [Lm,iI] at hh;simp only;omega
  | some x=>
   simp only [Lm] at hh;split at hh
   .rename_i k n hx;cases hh;exact ⟨k,by rw [he x<|.inr rfl,hx,show ((hi.toNat:Nat):Int)=hi by omega]⟩
   .cases hh
def KQ (D:Tab) (G:Nat->Option (List V)) (ops:Array Oper) (i:Nat) (T:List V) (len:Nat):Option (V×Int×Int×Nat):=
 match oH ops i T with
 | some (.slice t x l h none)=>match D.at t,Lm G T 0 l,Lm G T len h with
  | some it,some lo,some hi=>match it.d with
   | .slice el=>match D.at el with
    | some ie=>some (ev G T x,lo,hi,ie.size)
    | none=>none
   | _=>none
  | _,_,_=>none
 | _=>none
theorem W.KQ {D:Tab} (hD:dX P D) {ops:Array Oper} {draw:Bool} {T0:List V} {H0:Hp} {i:Nat} {T:List V} {H:Hp} {Es:List (Bool×Eff)} {Q:St->Prop} {α:Type} (enc:α->List V) {s r:List α} {lo hi:Int} (hx:cut s lo hi=some r) (b:Bool) (sz:Nat) (henc:∀ x,(enc x).length=sz)
  (h:KQ D G ops i T s.length=some (.sl b false<|s.map enc,lo,hi,sz))
  (k:W P G ops draw T0 H0 (i+1) (fQ T (ku ops i)<|.sl b false<|r.map enc) H (Es++[(true,{v:=.sl b false (r.map enc)})]) Q):W P G ops draw T0 H0 i T H Es Q:=by
 unfold cut at hx;split at hx
 .rename_i hb;cases hx;unfold Av.KQ at h;split at h
  .rename_i t xo l hh hop;split at h
   .rename_i it lo' hi' ht hlo hhi;split at h
    .rename_i el hit;split at h
     .rename_i ie hel;simp only [iI,nC] at h;obtain ⟨hxv,rfl,rfl,rfl⟩:=h;refine Cv (.sl b false _) [] hop (fun o ho e' H' he _=>?_) k;have:=aEM (G:=G) (P:=P) (H:=H') hD lo'.toNat hi'.toNat ho ht hit hel ((he xo gG).trans hxv) (fun r hr=>by obtain ⟨x,_,rfl⟩:=zH.1 hr;exact henc x)
       (aFv hlo (by simpa using hhi) (by simpa using hb) fun x hx=>he x<|by rcases hx with rfl|rfl<;>simp [Op.operands])
      rw [List.map_take,List.map_drop];exact this
     .cases h
    .cases h
   .cases h
  .cases h
 .cases hx
end
end Go.Av
namespace Go.Av
section
variable {P:Program} {G:Nat->Option (List V)}
def mkW (D:Tab) (G:Nat->Option (List V)) (ops:Array Oper) (i:Nat) (T:List V):Option (TypeId×Nat×Nat×List Value×Int×Int):=
 match oH ops i T with
 | some (.makeSlice t l c)=>match D.at t,ev G T l,ev G T c with
  | some it,.c<|.int _ n,.c (.int _ n')=>match it.d with
   | .slice el=>match D.at el with
    | some ie=>if ie.size≠0 then some (el,ie.size,ie.bytes,ie.zero,n,n') else none
    | none=>none
   | _=>none
  | _,_,_=>none
 | _=>none
theorem W.mk {D:Tab} (hD:dX P D) {ops:Array Oper} {draw:Bool} {T0:List V} {H0:Hp} {i:Nat} {T:List V} {H:Hp} {Es:List (Bool×Eff)} {Q:St->Prop} {α:Type} (enc:α->List V) {n:Int} {z:α} {r:List α} (b:Nat) (hx:mk b z n=some r) (q:Nat) (el sz:Nat) (zs:List Value)
  (h:mkW D G ops i T=some (el,sz,b,zs,n,n)) (hz:enc z=zs.map .c)
  (k:W P G ops draw T0 H0 (i+1) (fQ T (ku ops i)<|.own q) ((q,.vec false el sz<|r.map enc)::H) (Es++[(true,{v:=.own q,new:=[(q,.vec false el sz<|r.map enc)],N:=[q]})]) Q):W P G ops draw T0 H0 i T H Es Q:=by
 unfold Av.mk at hx;split at hx
 .rename_i hb;cases hx;unfold mkW at h;split at h
  .rename_i t l c hop;split at h
   .rename_i it kl n' kc nc ht hl hc;split at h
    .rename_i Lh hit;split at h
     .rename_i ie hel;split at h
      .rename_i hs;simp only [iI,nC] at h;obtain ⟨rfl,rfl,rfl,rfl,rfl,rfl⟩:=h;refine IG {v:=.own q,new:=[(q,.vec false Lh ie.size _)],N:=[q]} hop (fun o ho e' H' he _ hN=>?_) (by simpa [Pt] using k);simp only [Lb,Sw,EU,kF] at hN;have hlv:=(he l<|by simp [ho,Op.operands]).trans hl;have hcv:=(he c<|by simp [ho,Op.operands]).trans hc;have:=gH.makeSlice (G:=G) hD q nc.toNat ho ht hit hel hs hlv hcv ah ah hb.2.1 hb.2.2 hN;rw [<- hz] at this;exact this
      .cases h
     .cases h
    .cases h
   .cases h
  .cases h
 .cases hx
def uU (D:Tab) (G:Nat->Option (List V)) (ops:Array Oper) (i:Nat) (T:List V) (H:Hp):Option (Nat×Nat×TypeId×Nat×Nat×List (List V)×List (List V)):=
 match oH ops i T with
 | some (.call c)=>match c.callee,c.args,c.argTypes with
  | .builtin .append,⟨[s,x]⟩,⟨[t,t']⟩=>match D.at t,ev G T s,ev G T x with
   | some it,.own a,.own b=>match it.d,look H a,look H b with
    | .slice el,some<|.vec _ (.ty el1) k1 rows,some (.vec _ (.ty el2) k2 jy)=>match D.at el with
     | some ie=>if t=t'/\a≠b/\el1=el/\el2=el/\k1=ie.size/\k2=ie.size then some (a,b,el,ie.size,ie.bytes,rows,jy) else none
     | none=>none
    | _,_,_=>none
   | _,_,_=>none
  | _,_,_=>none
 | _=>none
theorem aFw {α:Type} {b:Nat} {l l2 r:List α} (hb:1<=b) (h:app b l l2=some r):r=l++l2/\(l.length+l2.length)*b<=140737488355328/\l.length+l2.length<=maxLen:=by
 unfold app at h;split at h
 .rename_i hc;refine ⟨(iV h).symm,hc,?_⟩;have:(l.length+l2.length)*1<=(l.length+l2.length)*b:=Nat.mul_le_mul_left _ hb;simp only [maxLen];omega
 .cases h
theorem W.uU {D:Tab} (hD:dX P D) {ops:Array Oper} {draw:Bool} {T0:List V} {H0:Hp} {i:Nat} {T:List V} {H:Hp} {Es:List (Bool×Eff)} {Q:St->Prop} {α:Type} (enc:α->List V) {l l2 r:List α} (b:Nat) (hx:app b l l2=some r) (hb:Nat.ble 1 b=true) (q:Nat) {a c el sz:Nat}
  (h:uU D G ops i T H=some (a,c,el,sz,b,l.map enc,l2.map enc))
  (k:W P G ops draw T0 H0 (i+1) (fQ T (ku ops i)<|.own q) ((q,.vec false el sz<|r.map enc)::dB [a,c] H) (Es++[(true,{v:=.own q,C:=[a,c],new:=[(q,.vec false el sz<|r.map enc)],N:=[q]})]) Q):W P G ops draw T0 H0 i T H Es Q:=by
 obtain ⟨rfl,h1,h2⟩:=aFw (afV hb) hx;unfold Av.uU at h;split at h
 .rename_i cl hop;obtain ⟨callee,args,ats⟩:=cl;simp only at h;split at h
  .rename_i s x t t' ;split at h
   .rename_i it a' c' ht hs hxv;split at h
    .rename_i Lh nn1 el1 k1 rows Iz el2 k2 jy hit hl1 hl2;split at h
     .rename_i ie hel;split at h
      .rename_i hc;obtain ⟨rfl,hne,rfl,rfl,rfl,rfl⟩:=hc;simp only [iI,nC] at h;obtain ⟨rfl,rfl,rfl,rfl,rfl,rfl,rfl⟩:=h;refine IG {v:=.own q,C:=[a',c'],new:=[(q,.vec false _ ie.size<|(l++l2).map enc)],N:=[q]} hop (fun o ho e' H' he oG hN=>?_) k;simp only [Lb,Sw,EU,kF] at hN;have:=aEF (G:=G) hD q false ho ht hit hel ((he s<|by simp [ho,Op.operands,Call.operands]).trans hs) ((he x<|by simp [ho,Op.operands,Call.operands]).trans hxv) hne
        (by rw [oG a'<|.inr<|by simp [Eff.touch]];exact hl1) (by rw [oG c'<|.inr<|by simp [Eff.touch]];exact hl2) (by simpa using h2) (by simpa using h1) hN aF
       rw [Ww];exact this
      .cases h
     .cases h
    .cases h
   .cases h
  .cases h
 .cases h
def IU (G:Nat->Option (List V)) (ops:Array Oper) (q:Ren) (Z:List (Nat×List (List V))) (i:Nat) (T:List V) (H:Hp):Option (FuncId×List V×Hp):=
 match oH ops i T with
 | some (.call {callee:=.value f,args:=as,argTypes:=_})=>match ev G T f,sU q H q with
  | .fn fid caps,some Hc=>some (fid,wO q<|(as.toList.map (ev G T)++caps).map<|rJ<|qj Z,Hc)
  | _,_=>none
 | _=>none
theorem W.call {ops:Array Oper} {draw:Bool} {T0:List V} {H0:Hp} {i:Nat} {T:List V} {H:Hp} {Es:List (Bool×Eff)} {Q:St->Prop} {fid:FuncId} {vs:List V} {Hc eF:Hp} {rc:V} (h:AC P G fid vs Hc rc eF) (hcf:vo P fid) (q m:Ren) {Z:List (Nat×List (List V))} (N:List Nat) (hZ:gD H Z) (hn:(Eh q m (Z.map (·.1)) N&&Bj eF)=true)
  (hc:IU G ops q Z i T H=some (fid,vs,Hc))
  (k:W P G ops draw T0 H0 (i+1) (fQ T (ku ops i)<|rc.rn m) (jm m eF++dB (Z.map (·.1)++q.map (·.1)) H) (Es++[(true,{v:=rc.rn m,C:=Z.map (·.1)++q.map (·.1),new:=jm m eF,N:=N})]) Q):W P G ops draw T0 H0 i T H Es Q:=by
 simp only [dA] at hn;unfold IU at hc;split at hc
 .rename_i f as ats hop;split at hc
  .rename_i abz caps Hc2 hf hh;simp only [iI,nC] at hc;obtain ⟨rfl,hvs,rfl⟩:=hc;refine IG {v:=rc.rn m,C:=Z.map (·.1)++q.map (·.1),new:=jm m eF,N:=N} hop (fun o ho=>?_) k;exact uz.call ho hf hcf h q m Z N hn.1 hn.2 hZ hh hvs
  .cases hc
 .cases hc
theorem W.jU {ops:Array Oper} {draw:Bool} {T0:List V} {H0:Hp} {i:Nat} {T:List V} {H:Hp} {Es:List (Bool×Eff)} {Q:St->Prop} {fid:FuncId} {vs:List V} {rc:V} (h:AC P G fid vs [] rc []) (hcf:vo P fid) (hr:rc.rn []=rc)
  (hc:IU G ops [] [] i T H=some (fid,vs,[]))
  (k:W P G ops draw T0 H0 (i+1) (fQ T (ku ops i) rc) H (Es++[(true,{v:=rc})]) Q):W P G ops draw T0 H0 i T H Es Q:=by
 refine W.call h hcf [] [] (Z:=[]) [] trivial rfl hc ?_;rw [hr];simpa [Pt,jm] using k
end
end Go.Av
namespace Go.Av
section
variable {P:Program} {G:Nat->Option (List V)} {L:Option Nat} {B:Nat}
def agY (L:Option Nat) (P:Program) (G:Nat->Option (List V)) (c:Code) (Q:Exit->St->Prop):Exit->St->Prop
 | .normal,st=>CO L P G c st Q
 | e,st=>Q e st
def aFx (id:Nat) (Q:Exit->St->Prop):Exit->St->Prop
 | .exit i,st=>if i=id then Q .normal st else Q (.exit i) st
 | e,st=>Q e st
theorem aK {x y:Code} {st:St} {Q:Exit->St->Prop} (h:CO L P G x st (agY L P G y Q)):CO L P G (.seq x y) st Q:=
 aoa (h.mono fun e st' hq=>by cases e<;>exact hq)
theorem bA {id:Nat} {c:Code} {st:St} {Q:Exit->St->Prop} (h:CO L P G c st (aFx id Q)):CO L P G (.block id c) st Q:=
 CO.block (h.mono fun e st' hq=>by cases e<;>exact hq)
def LoopN (L:Option Nat) (P:Program) (G:Nat->Option (List V)) (c:Code) (Q:Exit->St->Prop):Nat->St->Prop
 | 0,_=>False
 | n+1,st=>CO L P G c st fun e st'=>match e with
  | .normal=>LoopN L P G c Q n st'
  | e=>Q e st'
def Yj (L:Option Nat) (P:Program) (G:Nat->Option (List V)) (c:Code) (Q:Exit->St->Prop) (n:Nat):Exit->St->Prop
 | .normal,st=>LoopN L P G c Q n st
 | e,st=>Q e st
theorem aaM {c:Code} {Q:Exit->St->Prop} {n:Nat} {st:St} (h:CO L P G c st (Yj L P G c Q n)):LoopN L P G c Q (n+1) st:=
 h.mono fun e st' hq=>by cases e<;>exact hq
theorem Sm {c:Code} {Q:Exit->St->Prop} {n:Nat} {st st':St} (hw:Weak st st') (h:LoopN L P G c Q n st'):LoopN L P G c Q n st:=by
 cases n with
 | zero=>exact h.elim
 | succ n=>exact kI hw h
theorem afP {c:Code} {st:St} {Q:Exit->St->Prop} {n:Nat} (h:LoopN L P G c Q n st):CO L P G (.loop c) st Q:=by
 intro B ρ S F a w R hst hn;refine wpIn_loop_rounds n ?_;have key:∀ n st ρ' S' F' a' w',LoopN L P G c Q n st->mq B G ρ' S' F' st a' w'->(∀ e st',Q e st'->Onto B G ρ' S' F' st.H w' st' (R e))->Code.roundsIn (Aw L) 0 P c R n a' w':=by
  intro n;induction n with
  | zero=>intro st ρ' S' F' a' w' h;exact h.elim
  | succ n ih=>
   intro st ρ' S' F' a' w' h hst hn;refine h B ρ' S' F' a' w' _ hst fun e st' hq=>?_;intro dO S1 F1 a1 w1 Bd hE hA;cases e<;>first
    | exact hn _ st' hq dO S1 F1 a1 w1 Bd hE hA
    | exact ih st' dO S1 F1 a1 w1 hq Bd fun e2 st2 h2 oC S2 F2 a2 w2 rW hE2 hA2=>hn e2 st2 h2 oC S2 F2 a2 w2 rW (hE.trans hE2) (hA.trans hA2)
 exact key n st ρ S F a w h hst hn
theorem Xv {x:Operand} {c1 c2:Code} {T:List V} {H:Hp} {Q:Exit->St->Prop} {c:Bool} (hc:c=true) (hb:ev G T x=.c (.bool c)) (k:CO L P G c1 ⟨T,H⟩ Q):CO L P G (.cond x c1 c2) ⟨T,H⟩ Q:=by
 subst hc;exact aob hb (fun _=>k) (fun h=>by cases h)
theorem anv {x:Operand} {c1 c2:Code} {T:List V} {H:Hp} {Q:Exit->St->Prop} {c:Bool} (hc:c=false) (hb:ev G T x=.c (.bool c)) (k:CO L P G c2 ⟨T,H⟩ Q):CO L P G (.cond x c1 c2) ⟨T,H⟩ Q:=by
 subst hc;exact aob hb (fun h=>by cases h) (fun _=>k)
theorem bC (T':List V) (H':Hp) {id:Nat} {l:List Oper} {draw:Bool} {c:Code} {T:List V} {H:Hp} {Q:Exit->St->Prop} (hm:P.follows .mixedOrders=true)
  (h:W P G l.toArray draw T H 0 T H [] fun st=>Weak st ⟨T',H'⟩) (k:CO L P G c ⟨T',H'⟩ Q):CO L P G (.seq (.region id l.toArray draw) c) ⟨T,H⟩ Q:=by
 refine aN hm ?_;obtain ⟨tail,T1,H1,h1,h2,h3⟩:=h;exact ⟨tail,T1,H1,h1,h2,kI h3 k⟩
theorem oW (T':List V) (H':Hp) {id:Nat} {l:List Oper} {draw:Bool} {T:List V} {H:Hp} {Q:Exit->St->Prop} (hm:P.follows .mixedOrders=true)
  (h:W P G l.toArray draw T H 0 T H [] fun st=>Weak st ⟨T',H'⟩) (hQ:∀ st,Weak st ⟨T',H'⟩->Q .normal st):CO L P G (.region id l.toArray draw) ⟨T,H⟩ Q:=by
 refine lZ hm ?_;obtain ⟨tail,T1,H1,h1,h2,h3⟩:=h;exact ⟨tail,T1,H1,h1,h2,hQ _ h3⟩
theorem W.is {ops:Array Oper} {draw:Bool} {T0:List V} {H0:Hp} {i:Nat} {T:List V} {H:Hp} {Es:List (Bool×Eff)} {Q:St->Prop} (d:Nat) {c b:Bool} (hc:c=b) (hd:T[d]?=some (.c<|.bool c))
  (k:W P G ops draw T0 H0 i (T.set d<|.c<|.bool b) H Es Q):W P G ops draw T0 H0 i T H Es Q:=by
 subst hc;rwa [set_self hd] at k
theorem Ny {α:Type} {c:Bool} {a b:Option α} {r:α} (h:(bif c then a else b)=some r):(c=true/\a=some r)\/(c=false/\b=some r):=by
 cases c
 .exact .inr ⟨rfl,h⟩
 .exact .inl ⟨rfl,h⟩
theorem bind_some {α β:Type} {x:Option α} {f:α->Option β} {r:β} (h:x.bind f=some r):∃ y,x=some y/\f y=some r:=dn.1 h
theorem Ends.two {fn:Func} {a b:Tmp} {r s:V} {T:List V} {H:Hp} {e:Exit} (he:e=.normal\/e=.ret) (h:fn.results=#[.tmp a,.tmp b]) (ha:T[a]?=some r) (hb:T[b]?=some s) {m:Ren} {r':V} {H':Hp} (hm:(m.ok&&m.keep&&Bj H)=true) (hr:(V.jP [r,s]).rn m=r') (hH:jm m H=H'):Ends P fn r' H' e ⟨T,H⟩:=by
 subst hr hH;simp only [dA] at hm;exact ⟨he,.jP [r,s],aZ.two h (abh ha)<|abh hb,Weak.rn m hm.1.1 hm.1.2 (IE m [V.jP [r,s]])<|Po (qb hm.2) H fun p hp=>hp⟩
theorem Ends.one {fn:Func} {a:Tmp} {r:V} {T:List V} {H:Hp} {e:Exit} (he:e=.normal\/e=.ret) (h:fn.results=#[.tmp a]) (ha:T[a]?=some r) {m:Ren} {r':V} {H':Hp} (hm:(m.ok&&m.keep&&Bj H)=true) (hr:r.rn m=r') (hH:jm m H=H'):Ends P fn r' H' e ⟨T,H⟩:=by
 subst hr hH;simp only [dA] at hm;exact ⟨he,r,aZ.tmp h ha,Weak.rn m hm.1.1 hm.1.2 (IE m [r])<|Po (qb hm.2) H fun p hp=>hp⟩
theorem bN.cell {D:Tab} (hD:dX P D) {st:St} {a:Tmp} {t:TypeId} {r:V} {i:Nat} {ety:TypeId} {cs:List V} (ha:st.T[a]?=some (.loc i 0)) (hi:look st.H i=some (.cells ety cs)) (hr:FD D t cs=some r):bN P st (.cell a t) r:=by
 intro B G ρ S F act w hst;have h1:=hst.tmps a _ ha;obtain ⟨r0,hr0,cB⟩:=hst.heap.obj i _ hi;obtain ⟨g,e1,e2⟩:=h1.abl r0 hr0;obtain ⟨u,hu,hv⟩:=aon hD (H:=st.H) (t:=t) (x:=.loc i 0) (v:=r) (by simp [Pk,hi,hr]) hst.heap h1;refine ⟨u,?_,hv⟩;rw [e2] at hu;simp only [Instr.loadAt,Instr.sureAddr,gq,jT,gJ] at hu;simp only [one,e2,asAddr,gq,jT,gJ];exact hu
theorem Ends.cell {D:Tab} (hD:dX P D) {fn:Func} {a:Tmp} {t:TypeId} {r:V} {i:Nat} {ety:TypeId} {cs:List V} {T:List V} {H:Hp} {e:Exit} (he:e=.normal\/e=.ret) (h:fn.results=#[.cell a t]) (ha:T[a]?=some (.loc i 0)) (hi:look H i=some (.cells ety cs)) (hr:FD D t cs=some r)
  {m:Ren} {r':V} {H':Hp} (hm:(m.ok&&m.keep&&Bj H)=true) (hr':r.rn m=r') (hH:jm m H=H'):Ends P fn r' H' e ⟨T,H⟩:=by
 subst hr' hH;simp only [dA] at hm;exact ⟨he,r,aZ.one h<|bN.cell hD ha hi hr,Weak.rn m hm.1.1 hm.1.2 (IE m [r])<|Po (qb hm.2) H fun p hp=>hp⟩
end
end Go.Av
namespace Go.Av
section
variable {P:Program} {G:Nat->Option (List V)} {L:Option Nat} {B:Nat}
def aoZ (Z:List (Nat×List (List V))):Ob->Ob
 | .cells e cs=>.cells e (cs.map<|Cu<|qj Z)
 | o=>o
def Ta (Z:List (Nat×List (List V))) (H:Hp):Hp:=(dB (Z.map (·.1)) H).map fun p=>(p.1,aoZ Z p.2)
theorem apa (f:Ob->Ob) (H:Hp) (j:Nat):look (H.map fun p=>(p.1,f p.2)) j=(look H j).map f:=by
 induction H with
 | nil=>rfl
 | cons p H ih=>
  obtain ⟨i,o⟩:=p;simp only [lH,look];split
  .rfl
  .exact ih
theorem Weak.lay {Z:List (Nat×List (List V))} {T:List V} {H:Hp} (hz:gD H Z) (hn:decide (Z.map (·.1)).Nodup=true):Weak ⟨T,H⟩ ⟨T.map<|rJ<|qj Z,Ta Z H⟩:=by
 have hZ:∀ j,j∈Z.map (·.1)->∃ nn t k rows,look H j=some (.vec nn t k rows):=fun j hj=>by
  obtain ⟨p,hp,rfl⟩:=zH.1 hj;obtain ⟨nn,t,k,rows,h1,_⟩:=hz.get hp;exact ⟨nn,t,k,rows,h1⟩
 intro B G ρ S F a w hst;obtain ⟨dO,S1,hH1,a1,b1,c1,e1⟩:=hst.heap.lays (Z.map (·.1)) (qb hn) hZ;have hk:Keeps S w S1 w:=hst.heap.keeps e1;have SX:∀ v x,RV ρ S w v x->RV dO S1 w v (Cu (qj Z) x):=fun v x hv=>by
  unfold Cu;split
  .rename_i j;split
   .rename_i p hp;have hpm:=aga hp;have Ea:=agd hp;simp only [iG] at Ea;unfold qj at hpm;rw [zH] at hpm;obtain ⟨p',hp',rfl⟩:=hpm;simp only at Ea;obtain ⟨nn,t,k,rows,hl,hsh⟩:=hz.get hp';subst Ea;obtain ⟨r,hr,hd⟩:=c1 p'.1 (Cq hp') nn t k rows hl;rw [hv.FE r hr];rw [hsh] at hd;exact .sl _ _ _ _ hd.low
   .exact hv.mono (fun i r hi _=>a1 i r hi) hk
  .rw [hv.iK];exact .sl _ _ _ _ (.lQ false)
  .exact hv.mono (fun i r hi _=>a1 i r hi) hk
 have lay:∀ v x,RV ρ S w v x->RV dO S1 w v (rJ (qj Z) x):=fun v x hv=>by
  unfold rJ;split
  .rename_i cs;obtain ⟨arr,ha,hsz,h1c,hr⟩:=hv.Iu;rw [ha];refine .agg arr _ (by simpa using hsz) h1c fun j x c hx hc=>?_;rw [gy,eY] at hx;obtain ⟨y,hy,rfl⟩:=hx;obtain ⟨c',hc',uw⟩:=hr j y hy;rw [hc] at hc';cases hc';exact SX c y uw
  .exact SX v x hv
 have hl:∀ i o',look (Ta Z H) i=some o'->∃ o,look (dB (Z.map (·.1)) H) i=some o/\o'=aoZ Z o:=fun i o' h=>by
  unfold Ta at h;rw [apa,eY] at h;obtain ⟨o,ho,rfl⟩:=h;exact ⟨o,ho,rfl⟩
 have hHn:eu dO S1 F (Ta Z H) w:=by
  refine ⟨fun i hi=>?_,fun i o' hi=>?_,fun i o' hi=>?_,fun i j o' p' b hi hj hne hb hb'=>?_,fun i o' b hi hb=>?_,fun i o' b hi hb=>?_,hH1.slt⟩
  .refine hH1.dom i ?_;unfold Ta at hi;rw [apa,Option.map_eq_none_iff] at hi;exact hi
  .obtain ⟨o,ho,rfl⟩:=hl i o' hi;obtain ⟨r1,hr1,aFy⟩:=hH1.obj i o ho;refine ⟨r1,hr1,?_⟩;cases o with
   | vec nn e k rows=>exact aFy
   | cells e cs=>
    have ho2:look H i=some (.cells e cs):=by
     rw [mV] at ho;split at ho
     .cases ho
     .exact ho
    obtain ⟨r,hr,cB⟩:=hst.heap.obj i _ ho2;have:r=r1:=iV (hr.symm.trans<|a1 i r1 hr1);subst this;generalize F i=Fi at cB ⊢;cases cB with
    | cells g arr _ _ hh hsz hr=>
     refine .cells g arr e _ hh (by simpa using hsz) fun j x hx=>?_;rw [gy,eY] at hx;obtain ⟨y,hy,rfl⟩:=hx;obtain ⟨c,h1,h2,h3⟩:=hr j y hy;exact ⟨c,h1,h2,SX c y h3⟩
  .obtain ⟨o,ho,_⟩:=hl i o' hi;exact hH1.nodup i o ho
  .obtain ⟨o,ho,_⟩:=hl i o' hi;obtain ⟨p,hp,_⟩:=hl j p' hj;exact hH1.jI i j o p b ho hp hne hb hb'
  .obtain ⟨o,ho,_⟩:=hl i o' hi;exact hH1.sep i o b ho hb
  .obtain ⟨o,ho,_⟩:=hl i o' hi;exact hH1.lt i o b ho hb
 refine ⟨dO,S1,F,⟨hst.defers.Ld hst.heap e1,by simpa using hst.size,fun i x hx=>?_,hHn,hst.glob.mono hk⟩,⟨e1.os,e1.tape,e1.output,e1.size,e1.keep,e1.sub,e1.newS,fun b ⟨i,o',hi,hb⟩=>?_⟩,fun i r _ hi=>a1 i r hi⟩
 .rw [gy,eY] at hx;obtain ⟨y,hy,rfl⟩:=hx;exact lay _ _ (hst.tmps i y hy)
 .obtain ⟨o,ho,_⟩:=hl i o' hi;exact e1.rH b ⟨i,o,ho,hb⟩
theorem CO.lay {Z:List (Nat×List (List V))} {c:Code} {T:List V} {H:Hp} {Q:Exit->St->Prop} (T':List V) (H':Hp) (hz:gD H Z) (hn:decide (Z.map (·.1)).Nodup=true) (hT:T.map (rJ<|qj Z)=T') (hH:Ta Z H=H') (k:CO L P G c ⟨T',H'⟩ Q):CO L P G c ⟨T,H⟩ Q:=by
 subst hT hH;exact kI (Weak.lay hz hn) k
theorem Weak.eq {T T':List V} {H H':Hp} (hT:T=T') (hH:H=H'):Weak ⟨T,H⟩ ⟨T',H'⟩:=by
 subst hT hH;exact Weak.refl _
end
end Go.Av
namespace Go.Av
def aX (n:Int):List V:=[aj n]
def aFz (b:Bool):List V:=[V.b b]
def kK (s:List UInt8):List V:=[V.s s]
section
variable {P:Program} {G:Nat->Option (List V)} {L:Option Nat} {B:Nat}
theorem dw {ι:Type} (J:ι->St) (R:ι->Prop) {x y:Code} {st:St} {Q:Exit->St->Prop} (hrest:∀ i,R i->CO L P G y (J i) Q)
  (h:(∀ i,R i->∀ st',Weak st' (J i)->agY L P G y Q .normal st')->CO L P G x st (agY L P G y Q)):CO L P G (.seq x y) st Q:=
 aK (h fun i hi _ hw=>kI hw<|hrest i hi)
theorem fG {ι:Type} (J:ι->St) (R:Nat->ι->Prop) {c:Code} {st:St} {Q:Exit->St->Prop} {n0:Nat} {i0:ι} (h0:Weak st (J i0)) (hR:R n0 i0) (hz:∀ i,¬R 0 i)
  (round:∀ n i,R (n+1) i->(∀ j,R n j->∀ st',Weak st' (J j)->Yj L P G c Q n .normal st')->CO L P G c (J i) (Yj L P G c Q n)):CO L P G (.loop c) st Q:=by
 have key:∀ n i,R n i->LoopN L P G c Q n (J i):=by
  intro n;induction n with
  | zero=>intro i hi;exact (hz i hi).elim
  | succ n ih=>intro i hi;exact aaM (round n i hi fun j hj _ hw=>Sm hw<|ih j hj)
 exact afP (Sm h0<|key n0 i0 hR)
def abN (G:Nat->Option (List V)) (ops:Array Oper) (i:Nat) (T:List V) (H:Hp):Option (List (List V)×List Nat):=
 match oH ops i T with
 | some (.call c)=>match c.callee,c.args,c.argTypes with
  | .builtin .len,⟨[x]⟩,⟨[_]⟩=>match ev G T x with
   | .sl _ _ rows=>some (rows,[])
   | .own j=>match look H j with
    | some (.vec _ _ _ rows)=>some (rows,[j])
    | _=>none
   | _=>none
  | _,_,_=>none
 | _=>none
theorem W.len {D:Tab} (hD:dX P D) {ops:Array Oper} {draw:Bool} {T0:List V} {H0:Hp} {i:Nat} {T:List V} {H:Hp} {Es:List (Bool×Eff)} {Q:St->Prop} {α:Type} (enc:α->List V) (l:List α) (R:List Nat) (h:abN G ops i T H=some (l.map enc,R))
  (hs:((oH ops i T).bind<|iD D H<|ev G T).isSome=true)
  (k:W P G ops draw T0 H0 (i+1) (fQ T (ku ops i)<|aj l.length) H (Es++[(true,{v:=aj l.length,R:=R})]) Q):W P G ops draw T0 H0 i T H Es Q:=by
 unfold abN at h;split at h
 .rename_i cl hop;rw [hop] at hs;obtain ⟨callee,args,ats⟩:=cl;simp only at h;split at h
  .rename_i x t;obtain ⟨v,hv⟩:=Sr.1 hs;simp only [ak] at hv;have hloc:=fun e' H' he hH=>(aoN (D:=D) (H:=H) (H':=H') (e:=ev G T) (e':=e') (op:=.call {callee:=.builtin .len,args:=#[x],argTypes:=#[t]}) he hH).trans hv;have hvl:v=aj l.length:=by
    have hlen:Lg H (ev G T x)=some l.length:=by
     split at h
     .rename_i nn b rows hx;cases h;rw [hx];simp [Lg]
     .rename_i j hx;split at h
      .rename_i _ _ _ rows hl;cases h;rw [hx];simp [Lg,hl]
      .cases h
     .cases h
    simp only [iD] at hv;split at hv
    .rename_i it ht;split at hv
     .rw [hlen] at hv;exact (iV hv).symm
     .split at hv
      .rename_i s hx;rw [hx] at h;cases h
      .cases hv
     .cases hv
    .cases hv
   subst hvl;refine Cv (aj l.length) R hop (fun o ho e' H' he oG=>?_) k;refine agB hD ?_;rw [ho];refine hloc e' H' he fun y hy i hi=>oG i ?_;simp only [Op.operands,Call.operands] at hy;have hyx:y=x:=by simpa using hy
   subst hyx;split at h
   .rename_i hx;rw [hx] at hi;cases hi
   .rename_i j hx;rw [hx] at hi;split at h
    .cases h;exact hi
    .cases h
   .cases h
  .cases h
 .cases h
def Ec (m:Ren):Bool:=m.all fun p=>dP m p.1==some p.2
theorem abA {m:Ren} (h:Ec m=true):∀ p,p∈m->dP m p.1=some p.2:=fun p hp=>by
 have:=kJ.1 h p hp;simpa using this
theorem abB (m:Ren) (ks:List Nat) {T:List V} {H:Hp} {T':List V} {H':Hp} (hm:(m.ok&&m.keep&&Ec m)=true) (hT:zT m ks 0 T=T') (hH:sU m H m=some H'):Weak ⟨T,H⟩ ⟨T',H'⟩:=by
 subst hT;simp only [dA] at hm;exact Weak.rn m hm.1.1 hm.1.2 (Ye m ks 0 T) (Pp hH (abA hm.2) fun p _=>rfl)
end
end Go.Av
namespace Go.Av
open Go.RowKit Go.WideShapes Go.ChangeShapes
section
variable {P:Program}
section
variable {H:Type} {enc:TypeId×Value->H}
def aDS {f:Func} {s:ChangeSpec} {apart fresh handsOn again:Bool} {W W':World} {args:Array Value} {v:Value} {ds gs:List (DataW H)} {before pa pv:List MemPlace}
  (hW:DataW.Whole enc P f.params.toList s.vars apart W args.toList ds gs before)
  (hres:∀ (b:Nat) (sp:Nat->Bool) (hd:Bool),DataW.TrodAll enc P W' b sp hd f.resultTypes.toList (v.resultList f.resultTypes.size) (s.fn H<|ds++gs).results [])
  (hargs:∀ sp:Nat->Bool,(∀ p∈before,sp p.block=true)->DataW.TrodAll enc P W' 0 sp true f.params.toList args.toList (s.fn H<|ds++gs).args pa)
  (hvars:∀ sp:Nat->Bool,(∀ p∈before,sp p.block=true)->DataW.TrodVars enc P W' sp s.vars (s.fn H<|ds++gs).vars pv)
  (hps:before=pa++pv) (hb:Below W.heap.size W W')
  (hok:∀ (j:Nat) (t:TypeId) (r:Value),f.resultTypes[j]?=some t->(v.resultList f.resultTypes.size)[j]?=some r->Value.okWide P W' .any 0 t r):
  s.post enc P f apart fresh handsOn again W args v W':=by
 have hlt:∀ p∈before,p.block < W.heap.size:=fun p hp=>hW.lt p hp;have hold:∀ p∈before,(fun b=>decide<|b < W.heap.size) p.block=true:=fun p hp=>by simpa using hlt p hp
 refine ⟨ds,gs,before,[],pa,pv,hW,hres _ _ _,hargs _ hold,hvars _ hold,World.keptBut_mono (fun p hp=>⟨hp,?_⟩) (hb.frame (·∈before)),fun _=>?_⟩
 .rw [hps,mJ] at hp;exact Or.inr hp
 .obtain ⟨_,_,_,_,_,hz,hn⟩:=hW;refine ⟨hok,_,_,([]++pa)++pv,⟨[]++pa,pv,trodAll_append (hargs _ fun _ _=>rfl)<|hres _ _ _,hvars _ fun _ _=>rfl,rfl,?_,?_⟩,?_⟩
  .intro b off hp;have hin:MemPlace.cell b off∈before:=by rw [hps];simpa using hp
   rw [hb.frozen<|hlt _ hin];exact hz b off hin
  .intro ha;have:=hn ha;rw [hps] at this;simpa using this
  .intro p hp _;rw [hps];simpa using hp
end
end
end Go.Av
namespace Go.Av
open Go.RowKit Go.WideShapes Go.ChangeShapes
def jQ (S:Nat->Prop) (w:World) (cs:List Value) (vs:List V):Prop:=
 cs.length=vs.length/\∀ (j:Nat) (v:V),vs[j]?=some v->∃ c,cs[j]?=some c/\RD S w c v []
def jQ.append {S:Nat->Prop} {w:World} {a b:List Value} {va vb:List V} (h:jQ S w a va) (k:jQ S w b vb):jQ S w (a++b) (va++vb):=by
 refine ⟨by simp [h.1,k.1],fun j v hj=>?_⟩;have hl:=h.1;by_cases hlt:j < va.length
 .rw [sw hlt] at hj;rw [sw ah];exact h.2 j v hj
 .rw [qB ah] at hj;rw [qB ah,hl];exact k.2 _ v hj
def jQ.nil {S:Nat->Prop} {w:World}:jQ S w [] []:=⟨rfl,fun j v h=>by simp at h⟩
section
variable {P:Program}
def Reader (P:Program) (t:TypeId) {α:Type} (enc:α->List V) (ok:α->Prop):Prop:=
 ∀ {H:Type} (e:TypeId×Value->H) (w:World) (fuel:Nat) (cs:List Value) (x:DataW H×List MemPlace),DataW.trod e P w 0 (fun _=>true) true fuel t cs=some x->
  ∃ a:α,ok a/\∀ S:Nat->Prop,(∀ p,p∈x.2->S p.block)->jQ S w cs (enc a)
def jQ.one {S:Nat->Prop} {w:World} {c:Value} {v:V} (h:RD S w c v []):jQ S w [c] [v]:=by
 refine ⟨rfl,fun j u hj=>?_⟩;cases j with
 | zero=>simp at hj;subst hj;exact ⟨c,rfl,h⟩
 | succ j=>simp at hj
def Reader.int {t:TypeId} {k:IntKind} (ht:P.underlying t=some (.int k)):Reader P t (fun n:Int=>[V.c<|.int k n]) (fun n=>(Lit.int k n).wf=true):=by
 intro H e w fuel cs x h;obtain ⟨n,rfl,rfl,hw⟩:=DataW.trod_int ht h;exact ⟨n,hw,fun S _=>jQ.one<|.c _ rfl⟩
def Reader.i64 {t:TypeId} (ht:P.underlying t=some (.int .i64)):Reader P t aX (fun n=>(Lit.int .i64 n).wf=true):=Reader.int ht
def Reader.bool {t:TypeId} (ht:P.underlying t=some .bool):Reader P t aFz (fun _=>True):=by
 intro H e w fuel cs x h;obtain ⟨b,rfl,rfl⟩:=DataW.trod_bool ht h;exact ⟨b,trivial,fun S _=>jQ.one<|.c _ rfl⟩
def Reader.str {t:TypeId} (ht:P.underlying t=some .string):Reader P t kK (fun s=>s.length<=maxLen):=by
 intro H e w fuel cs x h;obtain ⟨s,rfl,rfl,hl⟩:=DataW.trod_string ht h;refine ⟨s.data.toList,?_,fun S _=>jQ.one ?_⟩
 .simpa using hl
 .exact .c _ rfl
def aFA {w:World} {base:Nat} {a:Addr} {n:Nat} {cs:List Value} (h:w.cells? base a n=some cs):cs.length=n/\∀ j,j < n->w.cell? (a.add j)=cs[j]?:=by
 unfold World.cells? at h;split at h
 .refine ⟨by simpa using mapM_some_length h,fun j hj=>?_⟩;have:=mapM_some_get h j j (by simp [hj]);exact this
 .cases h
def Reader.slice {t el:TypeId} {α:Type} {enc:α->List V} {ok:α->Prop} (ht:P.underlying t=some (.slice el)) (he:Reader P el enc ok) (sz:Nat) (hsz:P.cellsOf el=sz) (hpos:0 < sz) (henc:∀ x,(enc x).length=sz):
  Reader P t (fun l:List α=>[V.sl false false<|l.map enc]) (fun l=>(∀ x,x∈l->ok x)/\l.length<=maxLen):=by
 intro H e w fuel cs x h;rcases DataW.trod_slice ht h with ⟨rfl,rfl⟩|⟨a,len,cap,elems,rest,n,rfl,rfl,rfl,_,hcap,hmax,hlen,hel,_,_⟩
 .exact ⟨[],⟨fun x hx=>(by cases hx),EW _⟩,fun S _=>jQ.one<|.lQ false⟩
 .rw [hsz] at hel;have each:∀ i,i < len->∃ (y:α) (cc:List Value) (z:DataW H×List MemPlace),elems[i]?=some z/\w.cells? 0 (a.add<|i*sz) sz=some cc/\ok y/\∀ S:Nat->Prop,(∀ p,p∈z.2->S p.block)->jQ S w cc (enc y):=by
   intro i hi;have hz:elems[i]?=some elems[i]:=fZ ah;have h1:=hel i hi;rw [hz,dn] at h1;obtain ⟨cc,h2,h3⟩:=h1;obtain ⟨y,hy,hc⟩:=he e w n cc _ h3;exact ⟨y,cc,_,hz,h2,hy,hc⟩
  have pick:∃ l:List α,l.length=len/\∀ i y,l[i]?=some y->∃ (cc:List Value) (z:DataW H×List MemPlace),elems[i]?=some z/\w.cells? 0 (a.add<|i*sz) sz=some cc/\ok y/\∀ S:Nat->Prop,(∀ p,p∈z.2->S p.block)->jQ S w cc (enc y):=by
   clear hcap h;have:∀ m,m<=len->∃ l:List α,l.length=m/\∀ i y,l[i]?=some y->∃ (cc:List Value) (z:DataW H×List MemPlace),elems[i]?=some z/\w.cells? 0 (a.add<|i*sz) sz=some cc/\ok y/\∀ S:Nat->Prop,(∀ p,p∈z.2->S p.block)->jQ S w cc (enc y):=by
    intro m;induction m with
    | zero=>intro _;exact ⟨[],rfl,fun i y h=>by simp at h⟩
    | succ m ih=>
     intro hm;obtain ⟨l,hl,hall⟩:=ih ah;obtain ⟨y,cc,z,h1,h2,h3,h4⟩:=each m ah;refine ⟨l++[y],by simp [hl],fun i y' hi=>?_⟩;by_cases hlt:i < l.length
     .rw [sw hlt] at hi;exact hall i y' hi
     .rw [qB ah] at hi;have:i=m:=by
       have:=(dV.1 hi).1;simp at this;omega
      subst this;rw [hl] at hi;simp at hi;subst hi;exact ⟨cc,z,h1,h2,h3,h4⟩
   exact this len (dK _)
  obtain ⟨l,hl,hall⟩:=pick;refine ⟨l,⟨fun x hx=>?_,ah⟩,fun S hS=>jQ.one ?_⟩
  .obtain ⟨i,hi⟩:=Kh hx;obtain ⟨_,_,_,_,hok,_⟩:=hall i x hi;exact hok
  .have hlr:(l.map enc).length=len:=by simp [hl]
   rw [show Value.slice (some a) len cap=Value.slice (some a) (l.map enc).length cap by rw [hlr]];have apb:∀ (i:Nat) (r:List V),(l.map enc)[i]?=some r->∃ y,l[i]?=some y/\r=enc y:=fun i r hi=>by
    rw [gy,eY] at hi;obtain ⟨y,hy,rfl⟩:=hi;exact ⟨y,hy,rfl⟩
   have cell:∀ (i j:Nat) (r:List V) (v:V),(l.map enc)[i]?=some r->r[j]?=some v->∃ c,w.cell? (a.add<|i*sz+j)=some c/\RD S w c v []:=fun i j r v hi hj=>by
    obtain ⟨y,hy,rfl⟩:=apb i r hi;obtain ⟨cc,z,h1,h2,_,h4⟩:=hall i y hy;obtain ⟨hcl,hcell⟩:=aFA h2;have hcr:=h4 S fun p hp=>hS p (mJ.2<|.inr<|uY.2 ⟨z,mJ.2<|.inl<|nk h1,hp⟩);obtain ⟨c,hc1,hc2⟩:=hcr.2 j v hj;refine ⟨c,?_,hc2⟩;have hjs:j < sz:=by rw [<- hcl];exact (dV.1 hc1).1
    rw [<- abm,hcell j hjs,hc1]
   refine .shr a cap false (l.map enc) sz (fun i j=>(w.cell?<|a.add<|i*sz+j).getD undef) ah ah (fun i r hi=>?_) (fun i j r v hi hj=>?_) (fun i j r v hi hj=>?_)
   .obtain ⟨y,_,rfl⟩:=apb i r hi;exact henc y
   .obtain ⟨c,hc,_⟩:=cell i j r v hi hj;refine ⟨?_,by rw [hc];rfl⟩;have hi':i < len:=by have:=(dV.1 hi).1;omega
    have hp:=hS (.cell a.block<|a.off+0) (mJ.2<|.inl<|zH.2 ⟨0,aaW.2 ?_,rfl⟩)
    .exact hp
    .rw [hsz];exact Nat.mul_pos ah hpos
   .obtain ⟨c,hc,hd⟩:=cell i j r v hi hj;simp only [hc,aeI];exact hd
def aDT {H:Type} {enc:TypeId×Value->H} {T:TypeId->Prop} (K:Kids P T) (hz:∀ t e,T t->P.underlying t=some (.slice e)->0 < P.cellsOf e) {W W':World} (hb:Below W.heap.size W W') {sp:Nat->Bool}:
  ∀ {ts:List TypeId} {vs:List Value} {ds:List (DataW H)} {ps:List MemPlace},(∀ t,t∈ts->T t)->DataW.TrodAll enc P W 0 (fun _=>true) true ts vs ds ps->(∀ p,p∈ps->sp p.block=true)->DataW.TrodAll enc P W' 0 sp true ts vs ds ps:=by
 intro ts vs ds ps hT h hs;have h1:=DataW.TrodAll.respare K hz (fun t ht=>hT t ht) h (spare':=sp) (fun p hp=>hs p hp);clear h;induction ts generalizing vs ds ps with
 | nil=>cases vs<;>cases ds<;>exact h1
 | cons t ts ih=>
  cases vs with
  | nil=>cases ds<;>exact h1
  | cons v vs=>
   cases ds with
   | nil=>exact h1
   | cons d ds=>
    obtain ⟨p,q,⟨n,h1⟩,h2,rfl⟩:=h1;have hlt:=DataW.trod_lt n _ _ _ h1;refine ⟨p,q,⟨n,DataW.trod_carry n _ _ _ h1 fun m hm=>?_⟩,ih (fun t ht=>hT t<|yJ _ ht) (fun m hm=>hs m<|mJ.2<|.inr hm) h2,rfl⟩;have hlt':=hlt m hm;cases m with
    | cell b off=>
     simp only [World.sameAt,World.cell?] ;have:W'.heap[b]?=W.heap[b]?:=hb.block b hlt';simp only [this]
    | map b=>
     simp only [World.sameAt];have:W'.heap[b]?=W.heap[b]?:=hb.block b hlt';rw [this]
end
end Go.Av
namespace Go.Av
open Go.RowKit Go.WideShapes Go.ChangeShapes
def anL {ρ:Nat->Option Value} {S:Nat->Prop} {w:World} {v:Value} {x:V} (hv:v.cells=#[v]) (h:jQ S w v.cells.toList [x]):RV ρ S w v x:=by
 obtain ⟨c,hc,hd⟩:=h.2 0 x rfl;rw [hv] at hc;simp at hc;subst hc;exact hd.abd
def aDR {ρ:Nat->Option Value} {S:Nat->Prop} {w:World} {cs:Array Value} {vs:List V} (h:jQ S w (Value.agg cs).cells.toList vs):RV ρ S w (.agg cs) (.agg vs):=by
 have hl:cs.size=vs.length:=by simpa [Value.cells] using h.1
 refine .agg cs vs hl (fun j c hj=>?_) (fun j x c hx hj=>?_)
 .have hlt:j < vs.length:=by rw [<- hl];exact (qh.1 hj).1
  obtain ⟨c',hc',hd⟩:=h.2 j vs[j] (fZ hlt);simp only [Value.cells,Sy] at hc';rw [hj] at hc';cases hc';exact hd.one
 .obtain ⟨c',hc',hd⟩:=h.2 j x hx;simp only [Value.cells,Sy] at hc';rw [hj] at hc';cases hc';exact hd.abd
def anK (ps:List MemPlace):Nat->Prop:=fun b=>∃ p,p∈ps/\p.block=b
end Go.Av
namespace Go.Av
section
variable {P:Program} {G:Nat->Option (List V)} {L:Option Nat} {B:Nat}
theorem RV.aha {ρ:Nat->Option Value} {S:Nat->Prop} {w:World} {v:Value} {x:V} (h:RV ρ S w v x):RV ρ S w v (Cu [] x):=by
 unfold Cu;split
 .simpa using h
 .rw [h.iK];exact .sl _ _ _ _ (.lQ false)
 .exact h
theorem RV.aFB {ρ:Nat->Option Value} {S:Nat->Prop} {w:World} {v:Value} {x:V} (h:RV ρ S w v x):RV ρ S w v (rJ [] x):=by
 unfold rJ;split
 .rename_i cs;obtain ⟨arr,ha,hsz,h1c,hr⟩:=h.Iu;rw [ha];refine .agg arr _ (by simpa using hsz) h1c fun j x c hx hc=>?_;rw [gy,eY] at hx;obtain ⟨y,hy,rfl⟩:=hx;obtain ⟨c',hc',uw⟩:=hr j y hy;rw [hc] at hc';cases hc';exact uw.aha
 .exact h.aha
theorem eu.ahb {ρ:Nat->Option Value} {S:Nat->Prop} {F:Nat->List Nat} {H:Hp} {w:World} (h:eu ρ S F H w) {i:Nat} {o o':Ob} (hl:look H i=some o)
  (hr:∀ r,ρ i=some r->jf ρ S w r o (F i)->jf ρ S w r o' (F i)):eu ρ S F (hput H i o') w:=by
 have key:∀ j p,look (hput H i o') j=some p->∃ p',look H j=some p':=fun j p hp=>by
  rw [Pg] at hp;split at hp
  .subst_vars;exact ⟨o,hl⟩
  .exact ⟨p,hp⟩
 refine ⟨fun j hj=>?_,fun j p hp=>?_,fun j p hp=>?_,fun j k p p' b hj hk hne hb hb'=>?_,fun j p b hp hb=>?_,fun j p b hp hb=>?_,h.slt⟩
 .rw [Pg] at hj;split at hj
  .cases hj
  .exact h.dom j hj
 .rw [Pg] at hp;split at hp
  .cases hp;subst_vars;obtain ⟨r,h1,h2⟩:=h.obj _ o hl;exact ⟨r,h1,hr r h1 h2⟩
  .exact h.obj j p hp
 .obtain ⟨q,hq⟩:=key j p hp;exact h.nodup j q hq
 .obtain ⟨q,hq⟩:=key j p hj;obtain ⟨q',hq'⟩:=key k p' hk;exact h.jI j k q q' b hq hq' hne hb hb'
 .obtain ⟨q,hq⟩:=key j p hp;exact h.sep j q b hq hb
 .obtain ⟨q,hq⟩:=key j p hp;exact h.lt j q b hq hb
theorem ahc {F:Nat->List Nat} {H:Hp} {i:Nat} {o o':Ob} (hl:look H i=some o) {b:Nat} (h:Ub (hput H i o') F b):Ub H F b:=by
 obtain ⟨j,p,hp,hb⟩:=h;rw [Pg] at hp;split at hp
 .subst_vars;exact ⟨_,o,hl,hb⟩
 .exact ⟨j,p,hp,hb⟩
def II (f:V->V) (ks:List Nat):Nat->List V->List V
 | _,[]=>[]
 | i,x::T=>(if ks.contains i then f x else x)::II f ks (i+1) T
theorem ahd (f:V->V) (ks:List Nat):∀ (i:Nat) (T:List V) (j:Nat) (y:V),(II f ks i T)[j]?=some y->∃ x,T[j]?=some x/\(y=f x\/y=x)
 | _,[],j,y,h=>by simp [II] at h
 | i,x::T,0,y,h=>by
  simp only [II,KC,iI] at h;refine ⟨x,aF,?_⟩;subst h;split
  .exact .inl rfl
  .exact .inr rfl
 | i,x::T,j+1,y,h=>by
  simp only [II,NY] at h;obtain ⟨z,h1,h2⟩:=ahd f ks (i+1) T j y h;exact ⟨z,by simpa using h1,h2⟩
theorem ahe (f:V->V) (ks:List Nat):∀ (i:Nat) (T:List V),(II f ks i T).length=T.length
 | _,[]=>rfl
 | i,x::T=>by simp [II,ahe f ks (i+1) T]
theorem Weak.lQ (ks:List Nat) {T:List V} {H:Hp}:Weak ⟨T,H⟩ ⟨II (rJ []) ks 0 T,H⟩:=by
 intro B G ρ S F a w h;refine ⟨ρ,S,F,⟨h.defers,by simpa [ahe] using h.size,fun i y hy=>?_,h.heap,h.glob⟩,iT.refl _ _ _,mo.refl _⟩;obtain ⟨x,hx,rfl|rfl⟩:=ahd _ ks 0 T i y hy
 .exact (h.tmps i x hx).aFB
 .exact h.tmps i _ hx
theorem anx (i:Nat) (ks:List Nat) {T:List V} {H:Hp} {e:TypeId} {cs:List V} (hl:look H i=some (.cells e cs)):Weak ⟨T,H⟩ ⟨T,hput H i<|.cells e<|II (Cu []) ks 0 cs⟩:=by
 intro B G ρ S F a w h;refine ⟨ρ,S,F,⟨h.defers,h.size,h.tmps,h.heap.ahb hl fun r hr cB=>?_,h.glob⟩,⟨rfl,rfl,rfl,dK _,fun _ _ _=>rfl,fun _ hb=>hb,fun _ hb=>.inl hb,fun b hb=>.inl<|ahc hl hb⟩,mo.refl _⟩;generalize F i=Fi at cB ⊢;cases cB with
 | cells g arr _ _ hh hsz hr=>
  refine .cells g arr e _ hh (by simpa [ahe] using hsz) fun j y hy=>?_;obtain ⟨x,hx,rfl|rfl⟩:=ahd _ ks 0 cs j y hy
  .obtain ⟨c,h1,h2,h3⟩:=hr j x hx;exact ⟨c,h1,h2,h3.aha⟩
  .exact hr j _ hx
theorem eu.Pv {ρ:Nat->Option Value} {S:Nat->Prop} {F:Nat->List Nat} {H:Hp} {w:World} (h:eu ρ S F H w) {i e k:Nat} (hi:gV i H=false):
  eu (fun j=>if j=i then some (.slice none 0 0) else ρ j) S (fun j=>if j=i then [] else F j) ((i,.vec false e k [])::H) w:=by
 obtain ⟨hl,hO⟩:=yK hi;refine ⟨fun j hj=>?_,fun j o ho=>?_,fun j o ho=>?_,fun j j' o o' b hj hj' hne hb hb'=>?_,fun j o b ho hb=>?_,fun j o b ho hb=>?_,h.slt⟩
 .simp only [look] at hj;split at hj
  .cases hj
  .rename_i hne;simp only [bL hne];exact h.dom j hj
 .simp only [look] at ho;split at ho
  .cases ho;subst_vars;exact ⟨.slice none 0 0,aF,by simpa using jf.mU e k⟩
  .rename_i hne;obtain ⟨r,hr,cB⟩:=h.obj j o ho;refine ⟨r,by simp only [bL hne];exact hr,?_⟩;simp only [bL hne];refine cB.mono (fun q r hq hh=>?_) (fun b hb=>⟨hb,rfl⟩) (fun _ _=>rfl);split at hq
   .subst_vars;rw [hO j o ho] at hh;cases hh
   .exact hq
 .simp only [look] at ho;split at ho
  .simp_all
  .rename_i hne;simp only [bL hne];exact h.nodup j o ho
 .simp only [look] at hj hj';split at hj
  .simp_all
  .split at hj'
   .simp_all
   .simp_all;exact h.jI j j' o o' b hj hj' hne hb hb'
 .simp only [look] at ho;split at ho
  .simp_all
  .simp_all;exact h.sep j o b ho hb
 .simp only [look] at ho;split at ho
  .simp_all
  .simp_all;exact h.lt j o b ho hb
theorem Ub.Pv {F:Nat->List Nat} {H:Hp} {e:Tg} {i k b:Nat} (h:Ub ((i,.vec false e k [])::H) (fun j=>if j=i then [] else F j) b):Ub H F b:=by
 obtain ⟨j,o,ho,hb⟩:=h;simp only [look] at ho;split at ho
 .simp_all
 .rename_i hne;simp only [bL hne] at hb;exact ⟨j,o,ho,hb⟩
theorem KR (i j q e k:Nat) {T:List V} {H:Hp} {ety:TypeId} {cs:List V} (hl:look H i=some (.cells ety cs)) (hj:cs[j]?=some (.c<|.slice none 0 0)) (hf:fresh [q] ⟨T,H⟩=true):
  Weak ⟨T,H⟩ ⟨T,(q,.vec false e k [])::hput H i (.cells ety<|cs.set j<|.own q)⟩:=by
 intro B G ρ S F a w h;obtain ⟨aod,hT,hH⟩:=SC hf (by simp:q∈[q]);obtain ⟨hlq,hO⟩:=yK hH;have hqi:q≠i:=fun e=>by subst e;rw [hl] at hlq;cases hlq
 have hadd:=h.heap.Pv (e:=e) (k:=k) hH;have hl1:look ((q,.vec false e k [])::H) i=some (.cells ety cs):=by simp only [look,bL<|zR hqi];exact hl
 have hre:=hadd.ahb (o':=.cells ety (cs.set j<|.own q)) hl1 fun r hr cB=>by
  simp only [bL<|zR hqi] at cB ⊢;generalize F i=Fi at cB ⊢;cases cB with
  | cells g arr _ _ hh hsz hr=>
   refine .cells g arr ety _ hh (by simpa using hsz) fun p y hy=>?_;rw [FB] at hy;split at hy
   .subst_vars;split at hy
    .cases hy;obtain ⟨c,h1,h2,h3⟩:=hr _ _ hj;have:=h3.iK;refine ⟨c,h1,h2,?_⟩;rw [this];exact .own _ q fun r hr=>by simp only [nI] at hr;cases hr;rfl
    .cases hy
   .exact hr p y hy
 have apc:hput ((q,.vec false e k [])::H) i (.cells ety<|cs.set j<|.own q)=(q,.vec false e k [])::hput H i (.cells ety<|cs.set j<|.own q):=by
  simp only [hput,bL<|zR hqi]
 rw [apc] at hre;refine ⟨_,S,_,⟨h.defers,h.size,fun p x hx=>?_,hre,h.glob⟩,⟨rfl,rfl,rfl,dK _,fun _ _ _=>rfl,fun _ hb=>hb,fun _ hb=>.inl hb,fun b hb=>.inl ?_⟩,fun p r hp hr=>?_⟩
 .refine (h.tmps p x hx).mono (fun p' r hq hh=>?_) (fun b hb=>⟨hb,rfl⟩);split at hq
  .subst_vars;rw [XM hT<|nk hx] at hh;cases hh
  .exact hq
 .have:=(apc ▸ hb:Ub (hput ((q,.vec false e k [])::H) i<|.cells ety<|cs.set j<|.own q) _ b)
  exact Ub.Pv (ahc hl1 this)
 .simp only at hr;split at hr
  .omega
  .exact hr
theorem apd {fn:Func} {r0:V} {T:List V} {H:Hp} {e:Exit} (m:Ren) (he:e=.normal\/e=.ret) (h:aZ P fn ⟨T,H⟩ r0) {r':V} {H':Hp} (hm:(m.ok&&m.keep&&Ec m)=true) (hr:r0.rn m=r') (hH:sU m H m=some H'):Ends P fn r' H' e ⟨T,H⟩:=by
 subst hr;simp only [dA] at hm;exact ⟨he,r0,h,Weak.rn m hm.1.1 hm.1.2 (IE m [r0])<|Pp hH (abA hm.2) fun p _=>rfl⟩
mutual
inductive Deep:V->Prop
 | c (v:Value):Deep (.c v)
 | junk:Deep .junk
 | own (i:Nat):Deep (.own i)
 | loc (i o:Nat):Deep (.loc i o)
 | sl (nn:Bool) (rows:List (List V)) (h:∀ r,r∈rows->Bg r):Deep (.sl nn true rows)
 | agg (cs:List V) (h:Bg cs):Deep (.agg cs)
 | jP (cs:List V) (h:Bg cs):Deep (.jP cs)
inductive Bg:List V->Prop
 | nil:Bg []
 | cons {x:V} {l:List V} (h:Deep x) (k:Bg l):Bg (x::l)
end
def Bg.mem {l:List V}:Bg l->∀ x,x∈l->Deep x
 | .nil,x,hx=>by cases hx
 | .cons h k,x,hx=>by
  rcases jW.1 hx with rfl|hx
  .exact h
  .exact k.mem x hx
def aHF.map {α:Type} {enc:α->List V} (h:∀ a,Bg<|enc a) (l:List α):∀ r,r∈l.map enc->Bg r:=fun r hr=>by
 obtain ⟨a,_,rfl⟩:=zH.1 hr;exact h a
def RD.deep {S S':Nat->Prop} {w:World} {v:Value} {x:V} {F:List Nat} (h:RD S w v x F) (hx:Deep x):RD S' w v x F:=by
 induction h with
 | c v h=>exact .c v h
 | lQ x=>exact .lQ x
 | shr a cap nn rows k cs hlen hcap hk hc hr ih=>cases hx
 | exc g cap arr ety nn rows k cs Fs hh hcap hmax hsz hk hc hr ht ih=>
  cases hx with
  | sl _ _ hd=>exact .exc g cap arr ety nn rows k cs Fs hh hcap hmax hsz hk hc fun i j r x h1 h2=>ih i j r x h1 h2 ((hd r<|nk h1).mem x<|nk h2)
def RV.deep {ρ:Nat->Option Value} {S S':Nat->Prop} {w:World} {v:Value} {x:V} (h:RV ρ S w v x) (hx:Deep x):RV ρ S' w v x:=by
 induction h with
 | junk v=>exact .junk v
 | c v=>exact .c v
 | sl v nn x rows h=>exact .sl v nn x rows (h.deep hx)
 | own v i h=>exact .own v i h
 | loc v i off h=>exact .loc v i off h
 | vp v i k a b h=>exact .vp v i k a b h
 | vw v i k a b h=>exact .vw v i k a b h
 | el=>cases hx
 | fn=>cases hx
 | agg arr cells hsz h1 hr ih=>
  cases hx with
  | agg _ hd=>exact .agg arr cells hsz h1 fun j x c hx hc=>ih j x c hx hc (hd.mem x<|nk hx)
 | jP arr cells hsz hr ih=>
  cases hx with
  | jP _ hd=>exact .jP arr cells hsz fun j x c hx hc=>ih j x c hx hc (hd.mem x<|nk hx)
inductive Pw:Hp->Prop
 | nil:Pw []
 | cons {i:Nat} {nn:Bool} {e k:Nat} {rows:List (List V)} {H:Hp} (h:∀ r,r∈rows->Bg r) (t:Pw H):Pw ((i,.vec nn e k rows)::H)
def Pw.get {H:Hp}:Pw H->∀ {i:Nat} {o:Ob},look H i=some o->∃ nn e k rows,o=.vec nn e k rows/\∀ r,r∈rows->Bg r
 | .nil,i,o,h=>by simp [look] at h
 | .cons h t,i,o,ho=>by
  simp only [look] at ho;split at ho
  .cases ho;exact ⟨_,_,_,_,rfl,h⟩
  .exact t.get ho
def jf.deep {ρ ρ':Nat->Option Value} {S S':Nat->Prop} {w:World} {r:Value} {nn:Bool} {e:Tg} {k:Nat} {rows:List (List V)} {F:List Nat} (h:jf ρ S w r (.vec nn e k rows) F) (hd:∀ r,r∈rows->Bg r):jf ρ' S' w r (.vec nn e k rows) F:=by
 cases h with
 | mU=>exact .mU _ _
 | vec g cap arr _ _ _ _ cs Fs hh hcap hmax hsz hk hc hr=>
  exact .vec g cap arr nn e k rows cs Fs hh hcap hmax hsz hk hc fun i j r x h1 h2=>(hr i j r x h1 h2).deep ((hd r<|nk h1).mem x<|nk h2)
end
end Go.Av
namespace Go.Av
section
variable {P:Program} {G:Nat->Option (List V)}
theorem ape {H Hi:Hp} {Zr:List (Nat×List (List V))} (uD:gD Hi Zr) {ρ dO:Nat->Option Value} {S S1:Nat->Prop} {w:World}
  (touched:∀ j,j∈Zr.map (·.1)->look H j=look Hi j) (a1:∀ i r,dO i=some r->ρ i=some r) (hk:Keeps S w S1 w)
  (c1:∀ j,j∈Zr.map (·.1)->∀ nn t k rows,look H j=some (.vec nn t k rows)->∃ r,ρ j=some r/\RD S1 w r (.sl nn false<|Cr rows) [])
  {v:Value} {x:V} (hv:RV ρ S w v x):RV dO S1 w v (Cu (qj Zr) x):=by
 unfold Cu;split
 .rename_i j;split
  .rename_i p hp;have hpm:=aga hp;have Ea:=agd hp;simp only [iG] at Ea;unfold qj at hpm;rw [zH] at hpm;obtain ⟨p',hp',rfl⟩:=hpm;simp only at Ea;obtain ⟨nn,t,k,rows,hl,hsh⟩:=uD.get hp';have Yf:p'.1∈Zr.map (·.1):=Cq hp';subst Ea;obtain ⟨r,hr,hd⟩:=c1 p'.1 Yf nn t k rows (by rw [touched p'.1 Yf];exact hl);rw [hv.FE r hr];rw [hsh] at hd;exact .sl _ _ _ _ hd.low
  .exact hv.mono (fun i r hi _=>a1 i r hi) hk
 .rw [hv.iK];exact .sl _ _ _ _ (.lQ false)
 .exact hv.mono (fun i r hi _=>a1 i r hi) hk
theorem ahf {H Hi:Hp} {Zr:List (Nat×List (List V))} (uD:gD Hi Zr) {ρ dO:Nat->Option Value} {S S1:Nat->Prop} {w:World}
  (touched:∀ j,j∈Zr.map (·.1)->look H j=look Hi j) (a1:∀ i r,dO i=some r->ρ i=some r) (hk:Keeps S w S1 w)
  (c1:∀ j,j∈Zr.map (·.1)->∀ nn t k rows,look H j=some (.vec nn t k rows)->∃ r,ρ j=some r/\RD S1 w r (.sl nn false<|Cr rows) [])
  {v:Value} {x:V} (hv:RV ρ S w v x):RV dO S1 w v (rJ (qj Zr) x):=by
 unfold rJ;split
 .rename_i cs;obtain ⟨arr,ha,hsz,h1c,hr⟩:=hv.Iu;rw [ha];refine .agg arr _ (by simpa using hsz) h1c fun j x c hx hc=>?_;rw [gy,eY] at hx;obtain ⟨y,hy,rfl⟩:=hx;obtain ⟨c',hc',uw⟩:=hr j y hy;rw [hc] at hc';cases hc';exact ape uD touched a1 hk c1 uw
 .exact ape uD touched a1 hk c1 hv
theorem uz.lay {D:Tab} (hD:dX P D) {o:Oper} {q:Nat} {e:Operand->V} {Hi:Hp} {E:Eff} {Zr:List (Nat×List (List V))} (uD:gD Hi Zr) (hn:decide (Zr.map (·.1)).Nodup=true)
  (h:Yd D q (dB (Zr.map (·.1)) Hi) (fun x=>rJ (qj Zr)<|e x) o.op=some E):uz P G o e {v:=E.v,R:=E.R,C:=Zr.map (·.1)++E.C,new:=E.new,N:=E.N} Hi:=by
 have hE:=aoP (P:=P) (G:=G) hD h;intro e' H he hH hN ρ S F η w bV oF hG;have touched:∀ j,j∈Zr.map (·.1)->look H j=look Hi j:=fun j hj=>hH j (.inr<|by unfold Eff.touch;simp only [iX,FR,mJ];exact .inl<|.inl hj);have hZ:∀ j,j∈Zr.map (·.1)->∃ nn t k rows,look H j=some (.vec nn t k rows):=fun j hj=>by
  rw [touched j hj];obtain ⟨p,hp,rfl⟩:=zH.1 hj;obtain ⟨nn,t,k,rows,h1,_⟩:=uD.get hp;exact ⟨nn,t,k,rows,h1⟩
 obtain ⟨dO,S1,hH1,a1,b1,c1,e1⟩:=oF.lays (Zr.map (·.1)) (qb hn) hZ;have hk:Keeps S w S1 w:=oF.keeps e1;have hop:=hE (fun x=>rJ (qj Zr)<|e' x) (dB (Zr.map (·.1)) H) (fun x hx=>by rw [he x hx]) (fun x hx=>?_) ?_ dO S1 F η w (fun x hx=>ahf uD touched a1 hk c1<|bV x hx) hH1 (hG.mono hk)
 .refine hop.mono fun x w' hp=>?_;obtain ⟨ρ',S',F',hv,oG,hE',hA'⟩:=hp;have hlk:∀ y,look (E.new++dB (Zr.map (·.1)++E.C) H) y=look (E.new++dB E.C (dB (Zr.map (·.1)) H)) y:=fun y=>by
   simp only [Lj,agU]
  have:=e1.trans hE';exact ⟨ρ',S',F',hv,oG.congr hlk,⟨this.os,this.tape,this.output,this.size,this.keep,this.sub,this.newS,fun b hb=>this.rH b<|Ub.congr hlk hb⟩,fun j r hj hN=>a1 j r<|hA' j r hj hN⟩
 .rw [mV,mV];split
  .rfl
  .refine hH x (hx.imp id fun ht=>?_);unfold Eff.touch at ht ⊢;simp only [iX,FR,mJ] at ht ⊢;exact ht.imp .inr id
 .refine kJ.2 fun i hi=>?_;have:=kJ.1 hN i hi;simp only [kF] at this ⊢;cases hh:gV i (dB (Zr.map (·.1)) H) with
  | false=>rfl
  | true=>rw [agN hh] at this;cases this
theorem zM {D:Tab} (hD:dX P D) {ops:Array Oper} {draw:Bool} {T0:List V} {H0:Hp} {i:Nat} {T:List V} {H:Hp} {Es:List (Bool×Eff)} {Q:St->Prop} {Zr:List (Nat×List (List V))} (uD:gD H Zr) (hn:decide (Zr.map (·.1)).Nodup=true) (q:Nat) (E:Eff)
  (hE:(oH ops i T).bind (Yd D q (dB (Zr.map (·.1)) H) fun x=>rJ (qj Zr)<|ev G T x)=some E)
  (k:W P G ops draw T0 H0 (i+1) (fQ T (ku ops i) E.v) (E.new++dB (Zr.map (·.1)++E.C) H) (Es++[(true,{v:=E.v,R:=E.R,C:=Zr.map (·.1)++E.C,new:=E.new,N:=E.N})]) Q):W P G ops draw T0 H0 i T H Es Q:=by
 obtain ⟨op,h1,h2⟩:=dn.1 hE;exact IG {v:=E.v,R:=E.R,C:=Zr.map (·.1)++E.C,new:=E.new,N:=E.N} h1 (fun o ho=>uz.lay hD uD hn<|by rw [ho];exact h2) k
def FL (Z:List (Nat×V)) (K:List Nat):Nat->List V->List V
 | _,[]=>[]
 | i,x::l=>(if K.contains i then x else rJ Z x)::FL Z K (i+1) l
theorem apf (Z:List (Nat×V)) (K:List Nat):∀ (n:Nat) (l:List V) (i:Nat) (y:V),(FL Z K n l)[i]?=some y->∃ x,l[i]?=some x/\(y=x\/y=rJ Z x)
 | _,[],i,y,h=>by simp [FL] at h
 | n,x::l,0,y,h=>by
  simp only [FL,KC,iI] at h;refine ⟨x,aF,?_⟩;subst h;split
  .exact .inl rfl
  .exact .inr rfl
 | n,x::l,i+1,y,h=>by
  simp only [FL,NY] at h;obtain ⟨z,h1,h2⟩:=apf Z K (n+1) l i y h;exact ⟨z,by simpa using h1,h2⟩
theorem apg (Z:List (Nat×V)) (K:List Nat):∀ (n:Nat) (l:List V),(FL Z K n l).length=l.length
 | _,[]=>rfl
 | n,x::l=>by simp [FL,apg Z K (n+1) l]
theorem ahg {as:Array Operand} {η:Operand->Value} {e':Operand->V} {ρ:Nat->Option Value} {S:Nat->Prop} {w:World} {arr:Array Value} {caps:List V} (bV:∀ x,x∈as.toList->RV ρ S w (η x) (e' x)) (hsz:arr.size=caps.length)
  (hcap:∀ (j:Nat) (x:V) (c:Value),caps[j]?=some x->arr[j]?=some c->RV ρ S w c x) {i:Nat} {x0:V} (hx0:(as.toList.map e'++caps)[i]?=some x0):RV ρ S w ((as.map η++arr).getD i undef) x0:=by
 by_cases hi:i < as.size
 .rw [sw (by simpa using hi),gy,eY] at hx0;obtain ⟨y,hy,rfl⟩:=hx0;have hy':as[i]?=some y:=by simpa using hy
  have:(as.map η++arr).getD i undef=η y:=by
   rw [lM,Sv (by simpa using hi),Pb,hy'];rfl
  rw [this];exact bV y (nk hy)
 .rw [qB<|by simpa using hi] at hx0;simp only [Fg,Bc] at hx0;have hlt:i - as.size < arr.size:=by rw [hsz];exact (dV.1 hx0).1
  have:(as.map η++arr).getD i undef=arr[i - as.size]:=by
   rw [lM,afZ<|by simpa using hi];simp [lN hlt]
  rw [this];exact hcap _ x0 _ hx0 (lN hlt)
theorem uz.Sq {o:Oper} {e:Operand->V} {Hi:Hp} {f:Operand} {as:Array Operand} {ats:Array TypeId} {fid:FuncId} {caps:List V} (ho:o.op=.call {callee:=.value f,args:=as,argTypes:=ats}) (hf:e f=.fn fid caps) (hcf:vo P fid)
  {vs:List V} {Hc eF:Hp} {rc:V} (h:AC P G fid vs Hc rc eF) (q m:Ren) (Zr:List (Nat×List (List V))) (K:List Nat) (N:List Nat) (hn:Eh q m (Zr.map (·.1)) N=true) (SV:Bj eF=true)
  (uD:gD Hi Zr) (hh:sU q Hi q=some Hc) (ha:wO q (FL (qj Zr) K 0<|as.toList.map e++caps)=vs):
  uz P G o e {v:=rc.rn m,C:=Zr.map (·.1)++q.map (·.1),new:=jm m eF,N:=N} Hi:=by
 have hZ:∀ j,j∈Zr.map (·.1)->∃ nn t k rows,look Hi j=some (.vec nn t k rows):=fun j hj=>by
  obtain ⟨p,hp,rfl⟩:=zH.1 hj;obtain ⟨nn,t,k,rows,h1,_⟩:=uD.get hp;exact ⟨nn,t,k,rows,h1⟩
 unfold Eh at hn;simp only [dA,kJ,jS,iX,kF] at hn;obtain ⟨⟨⟨⟨n1,n2⟩,n3⟩,n4⟩,n5⟩:=hn;intro e' H he hH hN ρ S F η w bV oF hG;have touched:∀ j,j∈Zr.map (·.1)++q.map (·.1)->look H j=look Hi j:=fun j hj=>hH j (.inr<|by unfold Eff.touch;simp only [iX,FR];exact .inl hj);have Yk:∀ j,j∈Zr.map (·.1)->look H j=look Hi j:=fun j hj=>touched j (mJ.2<|.inl hj);have FI:f∈o.op.operands:=by simp [ho,Op.operands,Call.operands]
 have FJ:∀ x,x∈as.toList->x∈o.op.operands:=fun x hx=>by
  simp only [ho,Op.operands,Call.operands];exact Lc.2 (.inr<|by simpa using hx)
 have hfe:e' f=.fn fid caps:=(he f FI).trans hf;have hmap:as.toList.map e'=as.toList.map e:=yP fun x hx=>he x (FJ x hx);obtain ⟨dO,S1,hH1,a1,b1,c1,e1⟩:=oF.lays (Zr.map (·.1)) n4 fun j hj=>by
  obtain ⟨nn,t,k,rows,hl⟩:=hZ j hj;exact ⟨nn,t,k,rows,by rw [Yk j hj];exact hl⟩
 have hk:Keeps S w S1 w:=oF.keeps e1;have zS:=bV f FI;rw [hfe] at zS;obtain ⟨arr,harr,hsz,hcap⟩:=zS.SK;have fits:XP q m (FL (qj Zr) K 0<|as.toList.map e'++caps) (dB (Zr.map (·.1)) H) vs Hc rc eF (rc.rn m) (jm m eF++dB (q.map (·.1)) (dB (Zr.map (·.1)) H)) N:=by
  have Yg:∀ p,p∈q->p.1∉Zr.map (·.1)/\dP q p.1=some p.2:=fun p hp=>by
   have:=n5 p hp;simp only [iG] at this;exact ⟨fun hm=>(by have h2:=this.1;rw [FR.2 hm] at h2;cases h2),this.2⟩
  refine ⟨n1,n2,?_,Pp hh (fun p hp=>(Yg p hp).2) fun p hp=>?_,rfl,fun j o' hj=>?_,fun i j hij hi=>?_,fun i j hij hi=>?_,fun j hj=>?_⟩
  .rw [hmap];have key:∀ (l:List V),yL q l (wO q l):=IE q;rw [<- ha];exact key _
  .rw [mV,bL (Yg p hp).1];exact touched p.1 (mJ.2<|.inr<|Cq hp)
  .rw [Lj] at hj;cases hkj:look (jm m eF) j with
   | some o2=>
    rw [hkj] at hj;cases hj;obtain ⟨i,o2,h1,h2,h3⟩:=abv (qb SV) hkj;exact .inr ⟨i,o2,h1,h2,h3 ▸ agT m o2⟩
   | none=>
    rw [hkj] at hj;simp only at hj;rw [mV] at hj;split at hj
    .cases hj
    .rename_i hnq;refine .inl ⟨?_,hj,fun i hij=>?_⟩
     .cases hq:dP q j with
      | none=>rfl
      | some i=>exact absurd (Cq (f:=(·.1))<|wP hq) hnq
     .have h3:=n3 _ (wP hij);rcases vY i 100 with hlt|hge
      .have:=h3.1;rcases this with h|h
       .rw [zQ] at h;simp only at h;omega
       .simp only [iG] at h;exact hnq (Cq (f:=(·.1))<|wP h)
      .have:=h3.2;rcases this with h|h
       .rw [Iq] at h;simp only at h;omega
       .simp only [FR] at h;have Eb:=kJ.1 hN j h;simp only [kF] at Eb;have:=(yK Eb).1;rw [mV] at hj;split at hj
        .cases hj
        .rw [this] at hj;cases hj
  .have h3:=(n3 _<|wP hij).1;rcases h3 with h|h
   .rw [zQ] at h;simp only at h;omega
   .simpa using h
  .have h3:=(n3 _<|wP hij).2;rcases h3 with h|h
   .rw [Iq] at h;simp only at h;omega
   .simpa using h
  .have Eb:=kJ.1 hN j hj;simp only [kF] at Eb;rw [mV];split
   .rfl
   .exact (yK Eb).1
 unfold pK execOp;simp only [ho,resolve,harr,Deferred.ofValue,gq,jT,gJ,invoke,XJ];have XU:=hcf (as.map η++arr) w;simp only [XU];have hcall:=agn h fits (ρ:=dO) (S:=S1) (F:=F) (xs:=as.map η++arr) (w:=w) (by simp [hsz,apg]) (fun i x hx=>?_) hH1 (hG.mono hk) (fun j o' hj i hi=>?_)
 .refine hcall.mono ?_;rintro en w' ⟨x,rfl,hp⟩;refine ⟨x,rfl,?_⟩;obtain ⟨ρ',S',F',hv,oG,hE',hA'⟩:=hp;have hlk:∀ y,look (jm m eF++dB (Zr.map (·.1)++q.map (·.1)) H) y=look (jm m eF++dB (q.map (·.1)) (dB (Zr.map (·.1)) H)) y:=fun y=>by
   simp only [Lj,agU]
  have:=e1.trans hE';exact ⟨ρ',S',F',hv,oG.congr hlk,⟨this.os,this.tape,this.output,this.size,this.keep,this.sub,this.newS,fun b hb=>this.rH b<|Ub.congr hlk hb⟩,fun j r hj hN=>a1 j r<|hA' j r hj hN⟩
 .obtain ⟨x0,hx0,hy⟩:=apf _ _ _ _ _ _ hx;have uw:=ahg (fun y hy=>bV y<|FJ y hy) hsz hcap hx0;rcases hy with rfl|rfl
  .exact uw.mono (fun i r hi _=>a1 i r hi) hk
  .exact ahf uD Yk a1 hk c1 uw
 .rw [mV] at hj;split at hj
  .cases hj
  .have Yh:=kJ.1 hN i hi;simp only [kF] at Yh;exact (yK Yh).2 j o' hj
def Sq (G:Nat->Option (List V)) (ops:Array Oper) (q:Ren) (Z:List (Nat×List (List V))) (K:List Nat) (i:Nat) (T:List V) (H:Hp):Option (FuncId×List V×Hp):=
 match oH ops i T with
 | some (.call {callee:=.value f,args:=as,argTypes:=_})=>match ev G T f,sU q H q with
  | .fn fid caps,some Hc=>some (fid,wO q<|FL (qj Z) K 0<|as.toList.map (ev G T)++caps,Hc)
  | _,_=>none
 | _=>none
theorem W.Sq {ops:Array Oper} {draw:Bool} {T0:List V} {H0:Hp} {i:Nat} {T:List V} {H:Hp} {Es:List (Bool×Eff)} {Q:St->Prop} {fid:FuncId} {vs:List V} {Hc eF:Hp} {rc:V} (h:AC P G fid vs Hc rc eF) (hcf:vo P fid) (q m:Ren) (K:List Nat) {Z:List (Nat×List (List V))} (N:List Nat) (hZ:gD H Z) (hn:(Eh q m (Z.map (·.1)) N&&Bj eF)=true)
  (hc:Av.Sq G ops q Z K i T H=some (fid,vs,Hc))
  (k:W P G ops draw T0 H0 (i+1) (fQ T (ku ops i)<|rc.rn m) (jm m eF++dB (Z.map (·.1)++q.map (·.1)) H) (Es++[(true,{v:=rc.rn m,C:=Z.map (·.1)++q.map (·.1),new:=jm m eF,N:=N})]) Q):W P G ops draw T0 H0 i T H Es Q:=by
 simp only [dA] at hn;unfold Av.Sq at hc;split at hc
 .rename_i f as ats hop;split at hc
  .rename_i abz caps Hc2 hf hh;cases hc;exact IG _ hop (fun o ho=>uz.Sq ho hf hcf h q m Z K N hn.1 hn.2 hZ hh rfl) k
  .cases hc
 .cases hc
theorem uz.lend {o:Oper} {e:Operand->V} {Hi:Hp} {f:Operand} {as:Array Operand} {ats:Array TypeId} {fid:FuncId} {caps:List V} (ho:o.op=.call {callee:=.value f,args:=as,argTypes:=ats}) (hf:e f=.fn fid caps) (hcf:vo P fid)
  {vs:List V} {eF:Hp} {rc:V} (h:AC P G fid vs [] rc eF) (m:Ren) (Zr:List (Nat×List (List V))) (N:List Nat) (hn:Eh [] m (Zr.map (·.1)) N=true) (SV:Bj eF=true)
  (uD:gD Hi Zr) (hd:Deep rc) (hdH:Pw eF) (ha:wO [] ((as.toList.map e++caps).map<|rJ<|qj Zr)=vs):
  uz P G o e {v:=rc.rn m,R:=Zr.map (·.1),new:=jm m eF,N:=N} Hi:=by
 unfold Eh at hn;simp only [dA,kJ,jS,iX,kF] at hn;obtain ⟨⟨⟨⟨n1,n2⟩,n3⟩,n4⟩,n5⟩:=hn;intro e' H he hH hN ρ S F η w bV oF hG;have Yk:∀ j,j∈Zr.map (·.1)->look H j=look Hi j:=fun j hj=>hH j (.inl hj);have hZ:∀ j,j∈Zr.map (·.1)->∃ nn t k rows,look H j=some (.vec nn t k rows):=fun j hj=>by
  rw [Yk j hj];obtain ⟨p,hp,rfl⟩:=zH.1 hj;obtain ⟨nn,t,k,rows,h1,_⟩:=uD.get hp;exact ⟨nn,t,k,rows,h1⟩
 have FI:f∈o.op.operands:=by simp [ho,Op.operands,Call.operands]
 have FJ:∀ x,x∈as.toList->x∈o.op.operands:=fun x hx=>by
  simp only [ho,Op.operands,Call.operands];exact Lc.2 (.inr<|by simpa using hx)
 have hfe:e' f=.fn fid caps:=(he f FI).trans hf;have hmap:as.toList.map e'=as.toList.map e:=yP fun x hx=>he x (FJ x hx);obtain ⟨dO,S1,hH1,a1,b1,c1,e1⟩:=oF.lays (Zr.map (·.1)) n4 hZ;have hk:Keeps S w S1 w:=oF.keeps e1;have zS:=bV f FI;rw [hfe] at zS;obtain ⟨arr,harr,hsz,hcap⟩:=zS.SK;unfold pK execOp;simp only [ho,resolve,harr,Deferred.ofValue,gq,jT,gJ,invoke,XJ];simp only [hcf (as.map η++arr) w];have hH0:eu (fun _=>none) S1 (fun _=>[]) [] w:=⟨fun _ _=>rfl,fun i o h=>by simp [look] at h,fun i o h=>by simp [look] at h,fun i j o p b h=>by simp [look] at h,fun i o b h=>by simp [look] at h,fun i o b h=>by simp [look] at h,hH1.slt⟩
 refine (h (fun _=>none) S1 (fun _=>[]) (as.map η++arr) w ?_ (fun i x hx=>?_) hH0 (hG.mono hk)).mono ?_
 .rw [<- ha,XO];simp [hsz]
 .rw [<- ha,XO,gy,eY] at hx;obtain ⟨y,hy,rfl⟩:=hx;rw [gy,eY] at hy;obtain ⟨x0,hx0,rfl⟩:=hy;rw [<- hmap] at hx0;exact (ahf uD Yk a1 hk c1<|ahg (fun y hy=>bV y<|FJ y hy) hsz hcap hx0).rn (fun i j r hi _=>by simp [dP] at hi)
 .rintro en w' ⟨x,ρ',S',F',rfl,hx,hHn,hE,hA⟩;have hUn:∀ b,¬Ub ([]:Hp) (fun _=>[]) b:=fun b ⟨i,o,h1,_⟩=>by simp [look] at h1
  have hold:∀ b,b < w.heap.size->w'.heap[b]?=w.heap[b]?:=fun b hb=>hE.keep b hb (hUn b);have hks:Keeps S w S w':=fun b hb=>⟨hb,hold b<|oF.slt b hb⟩
  have hsub:DW m eF (jm m eF):=Po (qb SV) eF fun _ hp=>hp;obtain ⟨oC,F2,hH2,k2,k3,k4⟩:=hHn.rn n2 hsub;have hfresh:∀ i j,dP m i=some j->gV j H=false:=fun i j hij=>by
   have h3:=n3 _ (wP hij);have hj:j∈N:=by
    rcases h3.2 with h|h
    .rcases h3.1 with h'|h'
     .rw [Iq] at h;rw [zQ] at h';simp only at h h';omega
     .simp [dP] at h'
    .simpa using h
   simpa using kJ.1 hN j hj
  have hKm:∀ j o',look (jm m eF) j=some o'->∃ i o,dP m i=some j/\look eF i=some o/\F2 j=F' i/\oC j=ρ' i:=k4;let K:=jm m eF
  let Ed:Nat->Option Value:=fun j=>if (look K j).isSome then oC j else ρ j
  let F3:Nat->List Nat:=fun j=>if (look K j).isSome then F2 j else F j
  have hKH:∀ j o',look K j=some o'->look H j=none/\∀ p o,look H p=some o->o.has j=false:=fun j o' hj=>by
   obtain ⟨i,o,hi,_⟩:=hKm j o' hj;exact yK (hfresh i j hi)
  have hnew:∀ j o' b,look K j=some o'->b∈F2 j->w.heap.size<=b:=fun j o' b hj hb=>by
   obtain ⟨i,o,hi,hl,hF,_⟩:=hKm j o' hj;rw [hF] at hb;rcases hE.rH b ⟨i,o,hl,hb⟩ with h|h
   .exact absurd h (hUn b)
   .exact h
  have lk:∀ j o',look (K++dB [] H) j=some o'->(look K j=some o')\/(look K j=none/\look H j=some o'):=fun j o' hj=>by
   rw [Lj,Pt] at hj;split at hj
   .rename_i o2 h2;cases hj;exact .inl h2
   .rename_i h2;exact .inr ⟨h2,hj⟩
  have hAN:SB ρ Ed N:=fun j r hr hj=>by
   simp only [Ed] at hr;split at hr
   .rename_i hs;obtain ⟨o',ho'⟩:=Sr.1 hs;obtain ⟨i,o,hi,_⟩:=hKm j o' ho';have h3:=n3 _ (wP hi);rcases h3.2 with h|h
    .rcases h3.1 with h'|h'
     .rw [Iq] at h;rw [zQ] at h';simp only at h h';omega
     .simp [dP] at h'
    .exact absurd (by simpa using h) hj
   .exact hr
  refine ⟨x,rfl,Ed,S,F3,?_,⟨fun j hj=>?_,fun j o' hj=>?_,fun j o' hj=>?_,fun j j' o' p' b hj hj' hne hb hb'=>?_,fun j o' b hj hb=>?_,fun j o' b hj hb=>?_,fun b hb=>Bb (oF.slt b hb) hE.size⟩,
   ⟨hE.os,hE.tape,hE.output,hE.size,fun b hb _=>hold b hb,fun _ hb=>hb,fun _ hb=>.inl hb,fun b hb=>?_⟩,hAN⟩
  .refine ((hx.deep (S':=S) hd).rn (m:=m) (ρ':=Ed) fun i j r hi hr=>?_);simp only [Ed] at hr;split at hr
   .exact k2 i j r hi hr
   .have:=(yK<|hfresh i j hi).1;rw [oF.dom j this] at hr;cases hr
  .rw [Lj,Pt] at hj;split at hj
   .cases hj
   .rename_i h2;simp only [Ed];rw [show look K j=none from h2];exact oF.dom j hj
  .rcases lk j o' hj with h1|⟨h1,h2⟩
   .obtain ⟨r,hr,cB⟩:=hH2.obj j o' h1;obtain ⟨i,o,hi,hl,hF,hρ⟩:=hKm j o' h1;refine ⟨r,by simp only [Ed,h1];exact hr,?_⟩;simp only [F3,h1,KY,nI];obtain ⟨i2,o2,hi2,hl2,hoo⟩:=abv (qb SV) h1;obtain ⟨nn,e0,k0,rows,rfl,hdr⟩:=hdH.get hl2;subst hoo;exact cB.deep hdr
   .obtain ⟨r,hr,cB⟩:=oF.obj j o' h2;refine ⟨r,by simp only [Ed,h1];exact hr,?_⟩;simp only [F3,h1,KZ];refine cB.mono (fun i r' hi hh=>?_) hks (fun b hb=>hold b<|oF.lt j o' b h2 hb);simp only [Ed] at hi;split at hi
    .rename_i hs;obtain ⟨o2,ho2⟩:=Sr.1 hs;rw [(hKH i o2 ho2).2 j o' h2] at hh;cases hh
    .exact hi
  .rcases lk j o' hj with h1|⟨h1,h2⟩
   .simp only [F3,h1,KY,nI];exact hH2.nodup j o' h1
   .simp only [F3,h1,KZ];exact oF.nodup j o' h2
  .rcases lk j o' hj with h1|⟨h1,h2⟩<;>rcases lk j' p' hj' with h1'|⟨h1',h2'⟩
   .simp only [F3,h1,h1',KY,nI] at hb hb';exact hH2.jI j j' o' p' b h1 h1' hne hb hb'
   .simp only [F3,h1,h1',KY,nI,KZ] at hb hb';have:=hnew j o' b h1 hb;have:=oF.lt j' p' b h2' hb';omega
   .simp only [F3,h1,h1',KY,nI,KZ] at hb hb';have:=hnew j' p' b h1' hb';have:=oF.lt j o' b h2 hb;omega
   .simp only [F3,h1,h1',KZ] at hb hb';exact oF.jI j j' o' p' b h2 h2' hne hb hb'
  .rcases lk j o' hj with h1|⟨h1,h2⟩
   .simp only [F3,h1,KY,nI] at hb;intro hs;have:=hnew j o' b h1 hb;have:=oF.slt b hs;omega
   .simp only [F3,h1,KZ] at hb;exact oF.sep j o' b h2 hb
  .rcases lk j o' hj with h1|⟨h1,h2⟩
   .simp only [F3,h1,KY,nI] at hb;exact hH2.lt j o' b h1 hb
   .simp only [F3,h1,KZ] at hb;exact Bb (oF.lt j o' b h2 hb) hE.size
  .obtain ⟨j,o',hj,hb⟩:=hb;rcases lk j o' hj with h1|⟨h1,h2⟩
   .simp only [F3,h1,KY,nI] at hb;exact .inr (hnew j o' b h1 hb)
   .simp only [F3,h1,KZ] at hb;exact .inl ⟨j,o',h2,hb⟩
theorem W.lend {ops:Array Oper} {draw:Bool} {T0:List V} {H0:Hp} {i:Nat} {T:List V} {H:Hp} {Es:List (Bool×Eff)} {Q:St->Prop} {fid:FuncId} {vs:List V} {eF:Hp} {rc:V} (h:AC P G fid vs [] rc eF) (hcf:vo P fid) (m:Ren) {Z:List (Nat×List (List V))} (N:List Nat) (hZ:gD H Z) (hd:Deep rc) (hdH:Pw eF) (hn:(Eh [] m (Z.map (·.1)) N&&Bj eF)=true)
  (hc:IU G ops [] Z i T H=some (fid,vs,[]))
  (k:W P G ops draw T0 H0 (i+1) (fQ T (ku ops i)<|rc.rn m) (jm m eF++H) (Es++[(true,{v:=rc.rn m,R:=Z.map (·.1),new:=jm m eF,N:=N})]) Q):W P G ops draw T0 H0 i T H Es Q:=by
 simp only [dA] at hn;unfold IU at hc;split at hc
 .rename_i f as ats hop;split at hc
  .rename_i abz caps Hc2 hf hh;cases hc;refine IG {v:=rc.rn m,R:=Z.map (·.1),new:=jm m eF,N:=N} hop (fun o ho=>uz.lend ho hf hcf h m Z N hn.1 hn.2 hZ hd hdH rfl) ?_;rw [Pt];exact k
  .cases hc
 .cases hc
theorem aDt {f:FuncId} {vs:List V} {H H':Hp} {r:V} (p i e k:Nat) (h:AC P G f vs ((i,.vec false e k [])::H) r H') (hi:gV i H=false) (oG:look H' i=none)
  (hp:(vs[p]?).isSome=true) (hh:V.lC i (vs.set p .junk)=false) (hv:vs=vs.set p (.own i)):AC P G f (vs.set p<|.c<|.slice none 0 0) H r H':=by
 intro ρ S F xs w hsz hxs hH hG;refine (h _ S _ xs w (by simpa using hsz) (fun j x hx=>?_) (hH.Pv (e:=e) (k:=k) hi) hG).mono ?_
 .by_cases hj:j=p
  .subst hj;have hx2:=hxs j (.c<|.slice none 0 0) (by rw [FB];rw [bU rfl];rw [bU];exact (dV.1 hx).1);rw [hv,FB,bU rfl] at hx;split at hx
   .cases hx;rw [hx2.iK];exact .own _ i fun r hr=>by simp only [nI] at hr;cases hr;rfl
   .cases hx
  .have hx2:=hxs j x (by rw [FB,bL<|zR hj];exact hx);refine hx2.mono (fun q r hq hh'=>?_) fun b hb=>⟨hb,rfl⟩
   split at hq
   .subst_vars;have hm:x∈vs.set p .junk:=nk (i:=j) (by rw [FB,bL<|zR hj];exact hx);rw [XM hh hm] at hh';cases hh'
   .exact hq
 .rintro en w' ⟨x,ρ',S',F',he,hx,hH2,hE,hA⟩;refine ⟨x,ρ',S',F',he,hx,hH2,⟨hE.os,hE.tape,hE.output,hE.size,fun b hb hu=>hE.keep b hb fun h=>hu<|Ub.Pv h,hE.sub,fun b hb=>(hE.newS b hb).imp id<|Or.imp Ub.Pv id,fun b hb=>(hE.rH b hb).imp Ub.Pv id⟩,fun j r hj hr=>?_⟩;have:=hA j r hj hr;simp only at this;split at this
  .subst_vars;rw [hH2.dom _ oG] at hr;cases hr
  .exact this
theorem afD {D:Tab} (hD:dX P D) {ops:Array Oper} {draw:Bool} {T0:List V} {H0:Hp} {i:Nat} {T:List V} {H:Hp} {Es:List (Bool×Eff)} {Q:St->Prop} {α:Type} (enc:α->List V) {l:List α} {n:Int} {x:α} (hx:ix l n=some x)
  (sz:Nat) (h:Av.LM D G ops i T=some (l.map enc,n,sz)) {row:List V} (hr:enc x=row) (hs:row.length=sz)
  (k:W P G ops draw T0 H0 (i+1) (fQ T (ku ops i)<|.el row) H (Es++[(true,{v:=.el row})]) Q):W P G ops draw T0 H0 i T H Es Q:=by
 subst hr;exact W.LM hD enc hx sz h hs k
theorem aFE {H:Hp} {i:Nat} {o:Ob} (h:look H i=some o):hput H i o=H:=by
 induction H with
 | nil=>cases h
 | cons p H ih=>
  obtain ⟨j,p⟩:=p;simp only [look] at h;simp only [hput];split
  .subst_vars;rw [bU rfl] at h;cases h;rfl
  .rename_i hne;rw [bL hne] at h;rw [ih h]
theorem zN {ops:Array Oper} {draw:Bool} {T0:List V} {H0:Hp} {i:Nat} {T:List V} {H:Hp} {Es:List (Bool×Eff)} {Q:St->Prop} (j:Nat) {nn:Bool} {e:Tg} {k:Nat} {rows rows':List (List V)} (h:look H j=some (.vec nn e k rows)) (he:rows=rows')
  (k':W P G ops draw T0 H0 i T (hput H j<|.vec nn e k rows') Es Q):W P G ops draw T0 H0 i T H Es Q:=by
 subst he;rw [aFE h] at k';exact k'
end
end Go.Av
namespace Go.Av
section
variable {P:Program} {G:Nat->Option (List V)}
def apj (G:Nat->Option (List V)) (ops:Array Oper) (i:Nat) (T:List V):Option (FuncId×List V):=
 match oH ops i T with
 | some (.call {callee:=.value f,args:=as,argTypes:=_})=>match ev G T f with
  | .fn fid caps=>some (fid,as.toList.map (ev G T)++caps)
  | _=>none
 | _=>none
theorem W.ext {ops:Array Oper} {draw:Bool} {T0:List V} {H0:Hp} {i:Nat} {T:List V} {H:Hp} {Es:List (Bool×Eff)} {Q:St->Prop} {fid:FuncId} {vs:List Value} {v:Value}
  (h:∀ w,(callFunc fid vs.toArray).run P w=.ok (.value v) w) (hc:apj G ops i T=some (fid,vs.map .c))
  (k:W P G ops draw T0 H0 (i+1) (fQ T (ku ops i)<|.c v) H (Es++[(true,{v:=.c v})]) Q):W P G ops draw T0 H0 i T H Es Q:=by
 unfold apj at hc;split at hc
 .rename_i f as ats hop;split at hc
  .rename_i abz caps hf;simp only [iI,nC] at hc;obtain ⟨rfl,hvs⟩:=hc;refine Cv (.c v) [] hop (fun o ho e' H' he _=>?_) k;refine Ct fun ρ S F η w bV hH=>?_;have FI:f∈o.op.operands:=by simp [ho,Op.operands,Call.operands]
   have FJ:∀ x,x∈as.toList->x∈o.op.operands:=fun x hx=>by
    simp only [ho,Op.operands,Call.operands];exact Lc.2 (.inr<|by simpa using hx)
   have hop':∀ x,x∈(Op.call {callee:=Callee.value f,args:=as,argTypes:=ats}).operands->e' x=ev G T x:=he;have hfe:e' f=.fn abz caps:=(hop' f<|by simp [Op.operands,Call.operands]).trans hf;have hmap:as.toList.map e'=as.toList.map (ev G T):=yP fun x hx=>hop' x (by simp only [Op.operands,Call.operands];exact Lc.2<|.inr<|by simpa using hx);have zS:=bV f FI;rw [hfe] at zS;obtain ⟨arr,harr,hsz,hcap⟩:=zS.SK;have hargs:as.map η++arr=vs.toArray:=by
    apply Array.ext';simp only [Array.toList_append,Array.toList_map];have hlen:(as.toList.map η++arr.toList).length=vs.length:=by
     have:=congrArg List.length hvs;simp only [Fg,ny,Bc] at this ⊢;omega
    refine List.ext_getElem hlen fun j h1 h2=>?_;have hj:(vs.map V.c)[j]?=some (.c vs[j]):=by rw [gy,fZ h2];rfl
    rw [<- hvs,<- hmap] at hj;have uw:=ahg (fun y hy=>bV y<|FJ y hy) hsz hcap hj;have hcv:=uw.iK;have hg:(as.map η++arr).getD j undef=(as.toList.map η++arr.toList)[j]:=by
     rw [lM];have:(as.map η++arr)[j]?=(as.toList.map η++arr.toList)[j]?:=by
      rw [<- Sy];simp
     rw [this,fZ h1];rfl
    rw [<- hg];exact hcv
   refine ⟨v,?_,.c v⟩;simp only [execOp,ho,resolve,harr,Deferred.ofValue,gq,jT,gJ,invoke,XJ];rw [hargs];exact h w
  .cases hc
 .cases hc
theorem gH.head {o:Oper} {e:Operand->V} {H H1:Hp} {v:V} {q:Nat} {o1 o2:Ob} {N:List Nat} (h:gH P G o e H v ((q,o1)::H1) N)
  (ho:∀ (ρ:Nat->Option Value) S w r F,jf ρ S w r o1 F->jf ρ S w r o2 F):gH P G o e H v ((q,o2)::H1) N:=by
 intro ρ S F η w bV hH hG;refine (h ρ S F η w bV hH hG).mono fun x w' hp=>?_;obtain ⟨ρ',S',F',hv,oG,hE,hA⟩:=hp;have hl:look ((q,o1)::H1) q=some o1:=by simp [look]
 have hq:hput ((q,o1)::H1) q o2=(q,o2)::H1:=by simp [hput]
 have:=oG.ahb hl (o':=o2) fun r _ cB=>ho _ _ _ _ _ cB;rw [hq] at this;exact ⟨ρ',S',F',hv,this,⟨hE.os,hE.tape,hE.output,hE.size,hE.keep,hE.sub,hE.newS,fun b hb=>hE.rH b<|ahc hl (hq ▸ hb:Ub (hput ((q,o1)::H1) q o2) F' b)⟩,hA⟩
theorem RD.aFF {S:Nat->Prop} {w:World} {v u:Value} {F:List Nat} (h:RD S w v (.c u) F):v=u/\F=[]:=by
 cases h;exact ⟨rfl,rfl⟩
def FM:V->V
 | .c (.slice none 0 0)=>.sl false true []
 | x=>x
theorem RD.FM {S:Nat->Prop} {w:World} {v:Value} {x:V} {F:List Nat} (h:RD S w v x F):RD S w v (Av.FM x) F:=by
 by_cases hx:x=.c (.slice none 0 0)
 .subst hx;obtain ⟨h1,h2⟩:=h.aFF;rw [h1,h2];exact .lQ true
 .have:Av.FM x=x:=by
   unfold Av.FM;split
   .exact absurd rfl hx
   .rfl
  rw [this];exact h
theorem jf.FM {ρ:Nat->Option Value} {S:Nat->Prop} {w:World} {r:Value} {nn:Bool} {e:Tg} {k:Nat} {rows:List (List V)} {F:List Nat} (h:jf ρ S w r (.vec nn e k rows) F):jf ρ S w r (.vec nn e k<|rows.map fun r=>r.map Av.FM) F:=by
 cases h with
 | mU=>exact .mU _ _
 | vec g cap arr _ _ _ _ cs Fs hh hcap hmax hsz hk hc hr ht=>
  have e1:rows.length=(rows.map fun r=>r.map Av.FM).length:=aF;rw [e1] at ht ⊢;refine .vec g cap arr nn e k _ cs Fs hh (by simpa using hcap) hmax hsz (fun i r hi=>?_) (fun i j r x hi hj=>?_) (fun i j r x hi hj=>?_) ht
  .rw [gy,eY] at hi;obtain ⟨r0,hr0,rfl⟩:=hi;rw [Fg];exact hk i r0 hr0
  all_goals
   rw [gy,eY] at hi;obtain ⟨r0,hr0,rfl⟩:=hi;rw [gy,eY] at hj;obtain ⟨x0,hx0,rfl⟩:=hj
  .exact hc i j r0 x0 hr0 hx0
  .exact (hr i j r0 x0 hr0 hx0).FM
theorem ayl {D:Tab} (hD:dX P D) {ops:Array Oper} {draw:Bool} {T0:List V} {H0:Hp} {i:Nat} {T:List V} {H:Hp} {Es:List (Bool×Eff)} {Q:St->Prop} {α:Type} (enc:α->List V) {n:Int} {z:α} {r:List α} (b:Nat) (hx:Av.mk b z n=some r) (q:Nat) (el sz:Nat) (zs:List Value)
  (h:mkW D G ops i T=some (el,sz,b,zs,n,n)) (hz:enc z=(zs.map .c).map FM)
  (k:W P G ops draw T0 H0 (i+1) (fQ T (ku ops i)<|.own q) ((q,.vec false el sz<|r.map enc)::H) (Es++[(true,{v:=.own q,new:=[(q,.vec false el sz<|r.map enc)],N:=[q]})]) Q):W P G ops draw T0 H0 i T H Es Q:=by
 unfold Av.mk at hx;split at hx
 .rename_i hb;cases hx;unfold mkW at h;split at h
  .rename_i t l c hop;split at h
   .rename_i it kl n' kc nc ht hl hc;split at h
    .rename_i Lh hit;split at h
     .rename_i ie hel;split at h
      .rename_i hs;simp only [iI,nC] at h;obtain ⟨rfl,rfl,rfl,rfl,rfl,rfl⟩:=h;refine IG {v:=.own q,new:=[(q,.vec false Lh ie.size _)],N:=[q]} hop (fun o ho e' H' he _ hN=>?_) (by simpa [Pt] using k);simp only [Lb,Sw,EU,kF] at hN;have hlv:=(he l<|by simp [ho,Op.operands]).trans hl;have hcv:=(he c<|by simp [ho,Op.operands]).trans hc;have:=(gH.makeSlice (G:=G) hD q nc.toNat ho ht hit hel hs hlv hcv ah ah hb.2.1 hb.2.2 hN).head fun ρ S w r F h=>h.FM;rw [List.map_replicate,<- hz] at this;exact this
      .cases h
     .cases h
    .cases h
   .cases h
  .cases h
 .cases hx
theorem aqk {α:Type} {enc enc':α->List V} (h:∀ a,vv (enc a)=enc' a) (l:List α):Cr (l.map enc)=l.map enc':=by
 rw [Tt,IV];exact yP fun a _=>h a
end
end Go.Av
