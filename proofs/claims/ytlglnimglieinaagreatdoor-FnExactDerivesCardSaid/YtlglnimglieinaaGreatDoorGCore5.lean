/-
 Abstract values, states, walks, part 5.
-/
import Derived.Test.YtlglnimglieinaaGreatDoorGCore4
import Derived.OpenShut
import Derived.OpenVars
import Derived.ChangeArms
import Derived.Below
import Derived.Sort.OwnSortedInts
import Derived.Lib.LaidTab
import Derived.Lib.ItoaNum
import Derived.Deep.Draws
import Derived.Sort.OwnSorted
import Derived.Lib.RowBridge
import Derived.Lib.SlicesCompact
import Derived.Lib.Join
set_option linter.all false
namespace Go.Av
section
variable {P:Program} {G:Nat->Option (List V)} {L:Option Nat} {B:Nat}
theorem oz.imp {ops:Array Oper}:∀ {l:List Oper} {st:St} {K K':St->Prop},oz P G ops l st K->(∀ st,K st->K' st)->oz P G ops l st K'
 | [],_,_,_,h,hk=>hk _ h
 | o::l,st,K,K',h,hk=>by
  unfold oz at h ⊢;cases hg:o.guard with
  | none=>
   rw [hg] at h;obtain ⟨v,H',N,h1,h2,h3⟩:=h;exact ⟨v,H',N,h1,h2,oz.imp h3 hk⟩
  | some jb=>
   obtain ⟨j,b⟩:=jb;rw [hg] at h;obtain ⟨b',hb,h⟩:=h;refine ⟨b',hb,h.imp ?_ ?_⟩
   .rintro ⟨he,v,H',N,h1,h2,h3⟩;exact ⟨he,v,H',N,h1,h2,oz.imp h3 hk⟩
   .rintro ⟨he,h3⟩;exact ⟨he,oz.imp h3 hk⟩
theorem Px {α:Type} {l:List α} {m p:Nat} {y r:α} (h:(l.set m y)[p]?=some r):(p=m/\r=y)\/(p≠m/\l[p]?=some r):=by
 rw [FB] at h;split at h
 .split at h
  .cases h;exact .inl ⟨(by subst_vars;rfl),rfl⟩
  .cases h
 .exact .inr ⟨fun e=>(by subst_vars;contradiction),h⟩
theorem abD {n k:Nat} {Fs:Nat->Nat->List Nat} {i j b:Nat} (hi:i < n) (hj:j < k) (hb:b∈Fs i j):b∈flat n k Fs:=wM.2 ⟨i,j,hi,hj,hb⟩
end
end Go.Av
namespace Go.Av
def wrap64 {n:Int} (h1: -9223372036854775808<=n) (h2:n<=9223372036854775807):IntKind.wrap .i64 n=n:=by
 rw [aDX];omega
def bJ {α:Type} {l:List α} {i:Nat} (h:i < l.length):ix l (i:Int)=some l[i]:=by
 unfold ix;rw [bU<|La i,Hg,fZ h]
def zA {α:Type} {l:List α} {i:Nat} {x:α} (h:l[i]?=some x):ix l (i:Int)=some x:=by
 unfold ix;rw [bU<|La i,Hg,h]
def aiT {α:Type} {l:List α} {i:Nat} {x:α} (h:i < l.length):upd l (i:Int) x=some (l.set i x):=by
 unfold upd;rw [bU ⟨La i,by simpa using h⟩,Hg]
def EM {i n:Nat} (h:i < n) (hn:n<=maxLen):IntKind.wrap .i64 ((i:Int)+1)=((i+1:Nat):Int):=by
 simp only [maxLen] at hn;rw [wrap64 ah ah];omega
def ZV {α:Type} {l:List α} {a b:Nat} (h:a<=b) (hb:b<=l.length):cut l (a:Int) (b:Int)=some ((l.drop a).take<|b - a):=by
 unfold cut;rw [bU ⟨La a,ah,ah⟩];simp
def mH {α:Type} {n:Nat} {l l2:List α} (h:(l.length+l2.length)*n<=140737488355328):app n l l2=some (l++l2):=by
 unfold app;rw [bU h]
def Ym {α:Type} {n:Nat} {z:α} {i:Nat} (h:n*i<=281474976710656) (h2:i<=maxLen):mk n z (i:Int)=some (List.replicate i z):=by
 unfold mk;rw [bU ⟨La i,by simpa using h,by simpa using h2⟩,Hg]
def fO {i n:Nat} (h:i < n):decide ((i:Int) < (n:Int))=true:=by simp [h]
def gP {i n:Nat} (h: ¬i < n):decide ((i:Int) < (n:Int))=false:=bZ
def drop_cons {α:Type} {l:List α} {i:Nat} (h:i < l.length):l.drop i=l[i]::l.drop (i+1):=xX h
def drop_nil {α:Type} {l:List α} {i:Nat} (h: ¬i < l.length):l.drop i=[]:=xY ah
def FP {α:Type} (f:α->Option α):Nat->(List α×Int×List α)->Option (List α)
 | 0,_=>none
 | n+1,(a,i,y)=>bif decide (i < (a.length:Int)) then Option.bind (ix a i) fun e=>Option.bind (f e) fun r=>Option.bind (ix y i) fun _=>Option.bind (upd y i r) fun x=>FP f n (a,IntKind.wrap .i64<|i+1,x) else some y
def abK {α:Type} (f:α->Option α) (a:List α) (hf:∀ x,x∈a->f x=some x) (hl:a.length<=maxLen):∀ (n i:Nat) (y:List α),a.length - i < n->i<=a.length->y.length=a.length->y.take i=a.take i->FP f n (a,(i:Int),y)=some a:=by
 intro n;induction n with
 | zero=>intro i y h;omega
 | succ n ih=>
  intro i y hn hi hy ht;rw [FP];by_cases h:i < a.length
  .have hy':i < y.length:=ah;simp only [fO h,aB,bJ h,ak,hf _<|kE h,bJ hy',aiT hy',EM h hl];refine ih (i+1) _ ah ah (by simpa using hy) ?_;rw [Rp,Rp,List.take_set_of_le<|dK i,ht,aiU hy',fZ h]
  .simp only [gP h,aA];have hi':i=a.length:=ah;subst hi';rw [VQ ah,VQ ah] at ht;rw [ht]
def FQ {α:Type} (f:α->α->Option Bool):Nat->(List α×List α×Int)->Option Bool
 | 0,_=>none
 | n+1,(a,b,i)=>bif decide (i < (a.length:Int)) then Option.bind (ix a i) fun x=>Option.bind (ix b i) fun y=>Option.bind (f x y) fun r=>bif !r then some false else FQ f n (a,b,IntKind.wrap .i64<|i+1) else some true
def abL {α:Type} (f:α->α->Option Bool) (a:List α) (hf:∀ x,x∈a->f x x=some true) (hl:a.length<=maxLen):∀ (n i:Nat),a.length - i < n->i<=a.length->FQ f n (a,a,(i:Int))=some true:=by
 intro n;induction n with
 | zero=>intro i h;omega
 | succ n ih=>
  intro i hn hi;rw [FQ];by_cases h:i < a.length
  .simp only [fO h,aB,bJ h,ak,hf _<|kE h,fE,aA,EM h hl];exact ih (i+1) ah ah
  .simp only [gP h,aA]
def Ef {α:Type} (f:α->Int->Option Int):Nat->(List α×Int×Int)->Option Int
 | 0,_=>none
 | n+1,(a,b,i)=>bif decide (i < (a.length:Int)) then Option.bind (ix a i) fun e=>Option.bind (f e b) fun r=>bif decide (r < 0) then some (-1) else Ef f n (a,r,IntKind.wrap .i64<|i+1) else some b
def Sz (f:Int->Option Int) (s:Nat):Prop:=∀ b:Int,0<=b->b<=1048576->∃ r,f b=some r/\((r < 0/\b < s)\/r=b - s/\0<=r)
def yM {α:Type} (sz:α->Nat) (l:List α):Nat:=(l.map sz).sum
def aFG {α:Type} (f:α->Int->Option Int) (sz:α->Nat) (a:List α) (hf:∀ x,x∈a->Sz (f x) (sz x)) (hl:a.length<=maxLen):∀ (n i:Nat) (b:Int),a.length - i < n->i<=a.length->0<=b->b<=1048576->
  ∃ r,Ef f n (a,b,(i:Int))=some r/\((r < 0/\b < yM sz (a.drop i))\/r=b - yM sz (a.drop i)/\0<=r):=by
 intro n;induction n with
 | zero=>intro i b h;omega
 | succ n ih=>
  intro i b hn hi h0 h1;rw [Ef];by_cases h:i < a.length
  .obtain ⟨r,hr,hc⟩:=hf _ (kE h) b h0 h1;have hs:yM sz (a.drop i)=sz a[i]+yM sz (a.drop<|i+1):=by rw [drop_cons h];simp only [yM,lH,anQ]
   simp only [fO h,aB,bJ h,ak,hr,EM h hl];rcases hc with ⟨hc,hb⟩|⟨hc,hr0⟩
   .exact ⟨-1,by simp [hc],.inl ⟨ah,ah⟩⟩
   .obtain ⟨r',hr',hc'⟩:=ih (i+1) r ah ah hr0 ah;have hd:decide (r < 0)=false:=bZ;refine ⟨r',by rw [hd];exact hr',?_⟩;rcases hc' with ⟨h2,h3⟩|⟨h2,h3⟩
    .exact .inl ⟨h2,ah⟩
    .exact .inr ⟨ah,h3⟩
  .simp only [gP h,aA];exact ⟨b,rfl,.inr ⟨by rw [drop_nil h];simp [yM],h0⟩⟩
def ahv {α:Type} {sz:α->Nat} {l:List α} {x:α} (h:x∈l):sz x<=yM sz l:=by
 induction l with
 | nil=>cases h
 | cons y l ih=>
  simp only [yM,lH,anQ];rcases jW.1 h with rfl|h
  .omega
  .have:=ih h;simp only [yM] at this;omega
def ahu {α:Type} {f:α->Int->Option Int} {sz:α->Nat} {a:List α} (hf:∀ x,x∈a->Sz (f x) (sz x)) (hl:a.length<=maxLen) {g:Nat->Int->Option Int} {n:Nat} (hn:a.length < n)
  (hg:∀ b,g n b=bif decide (IntKind.wrap .i64 (b - (a.length:Int)) < 0) then some (-1) else Ef f n (a,IntKind.wrap .i64<|b - (a.length:Int),0)):Sz (g n) (a.length+yM sz a):=by
 intro b h0 h1;have hl':=hl;simp only [maxLen] at hl';rw [hg,wrap64 ah ah];by_cases h:b - (a.length:Int) < 0
 .exact ⟨-1,by simp [h],.inl ⟨ah,ah⟩⟩
 .obtain ⟨r,hr,hc⟩:=aFG f sz a hf hl n 0 (b - a.length) ah ah ah ah;refine ⟨r,by simp only [h,GR,aA];exact hr,?_⟩;rw [zy] at hc;rcases hc with ⟨h2,h3⟩|⟨h2,h3⟩
  .exact .inl ⟨h2,ah⟩
  .exact .inr ⟨ah,h3⟩
end Go.Av
namespace Go.Av
def arA {α:Type} {l:List α} {j:Nat} (h:j < l.length):(l.take<|j+1).reverse=l[j]::(l.take j).reverse:=by
 rw [Rp,fZ h];simp
def arB (j:Nat):decide ((j:Int)>=0)=true:=aF
def arC (j:Nat):((j+1:Nat):Int) - 1=(j:Int):=ah
def walk (out:List Int):Int->List Int->Option Int
 | a,[]=>some a
 | a,k::ks=>if a=0\/k≠a - 1 then none else match out[(a - 1).toNat]? with
  | some b=>walk out b ks
  | none=>none
def starts:List (List Int)->List Int->Option (List Int)
 | [],out=>some out
 | ks::l,out=>(walk out (out.length:Int) ks.reverse).bind fun s=>starts l (out++[s])
def Kids (out:List Int):Int->Int->List Int->Prop
 | a,b,[]=>a=b
 | a,b,k::ks=>0<=a/\a<=k/\k < b/\out[k.toNat]?=some a/\Kids out (k+1) b ks
def Low (out:List Int):Prop:=∀ (j:Nat) (s:Int),out[j]?=some s->0<=s/\s<=j
def Low.snoc {out:List Int} (h:Low out) {s:Int} (h0:0<=s) (h1:s<=out.length):Low (out++[s]):=by
 intro j x hx;rw [List.getElem?_append] at hx;split at hx
 .exact h j x hx
 .rename_i hj;have:j - out.length=0:=by
   have:=(dV.1 hx).1;simp at this;omega
  rw [this] at hx;cases hx;omega
def Kids.snoc {out:List Int}:∀ {ks:List Int} {a m:Int},Kids out a m ks->∀ {k b:Int},0<=m->m<=k->k < b->k+1=b->out[k.toNat]?=some m->Kids out a b (ks++[k])
 | [],a,m,h,k,b,h0,h1,h2,h3,h4=>by
  simp only [Kids] at h;subst h;exact ⟨h0,h1,h2,h4,h3⟩
 | k'::ks,a,m,h,k,b,h0,h1,h2,h3,h4=>by
  obtain ⟨g0,g1,g2,g3,g4⟩:=h;exact ⟨g0,g1,ah,g3,Kids.snoc g4 h0 h1 h2 h3 h4⟩
def ZF {out:List Int} (hl:Low out):∀ (ks:List Int) {b a:Int},0<=b->walk out b ks=some a->0<=a/\a<=b
 | [],b,a,h0,h=>by cases h;omega
 | k::ks,b,a,h0,h=>by
  unfold walk at h;split at h
  .cases h
  .rename_i hc;split at h
   .rename_i m hm;have:=hl _ _ hm;have:=ZF hl ks this.1 h;omega
   .cases h
def apk {out:List Int} (hl:Low out):∀ (r:List Int) {b a:Int},0<=b->walk out b r=some a->Kids out a b r.reverse
 | [],b,a,h0,h=>by cases h;rfl
 | k::r,b,a,h0,h=>by
  unfold walk at h;split at h
  .cases h
  .rename_i hc;split at h
   .rename_i m hm;have h1:=hl _ _ hm;have h2:k=b - 1:=by
     cases Classical.em (k=b - 1) with
     | inl h=>exact h
     | inr h=>exact absurd (.inr h) hc
    have h3:b≠0:=fun h=>hc (.inl h);rw [List.reverse_cons];have hm':out[k.toNat]?=some m:=by rw [h2];exact hm
    exact (apk hl r h1.1 h).snoc h1.1 ah ah ah hm'
   .cases h
def Kids.more {out:List Int} (apl:List Int):∀ {ks:List Int} {a b:Int},Kids out a b ks->Kids (out++apl) a b ks
 | [],_,_,h=>h
 | k::ks,a,b,⟨h0,h1,h2,h3,h4⟩=>⟨h0,h1,h2,by rw [sw (dV.1 h3).1];exact h3,h4.more apl⟩
def adq:∀ (l:List (List Int)) {out r:List Int},Low out->starts l out=some r->(∃ m,r=out++m/\m.length=l.length)/\Low r/\
  ∀ (j:Nat) (ks:List Int),l[j]?=some ks->∃ s,r[out.length+j]?=some s/\Kids r s ((out.length+j:Nat):Int) ks
 | [],out,r,hl,h=>by
  cases h;exact ⟨⟨[],aF,rfl⟩,hl,fun j ks h=>by simp at h⟩
 | ks::l,out,r,hl,h=>by
  unfold starts at h;obtain ⟨s,hs,h⟩:=dn.1 h;have h1:=ZF hl _ (La _) hs;have hl2:=hl.snoc h1.1 h1.2;obtain ⟨⟨m,hm,hml⟩,hlr,hk⟩:=adq l hl2 h;refine ⟨⟨s::m,by rw [hm];simp,by simp [hml]⟩,hlr,fun j ks' hj=>?_⟩;cases j with
  | zero=>
   simp only [KC,iI] at hj;subst hj;refine ⟨s,by rw [hm];simp,?_⟩;have:=apk hl _ (La _) hs;rw [List.reverse_reverse] at this;rw [hm,lW,EP];exact this.more _
  | succ j=>
   simp only [NY] at hj;obtain ⟨s',hs',hk'⟩:=hk j ks' hj;have e:(out++[s]).length+j=out.length+(j+1):=bZ;rw [e] at hs' hk';exact ⟨s',hs',hk'⟩
def Kids.lt {out:List Int}:∀ {ks:List Int} {a b:Int},Kids out a b ks->∀ k,k∈ks->a<=k/\0<=k/\k < b
 | [],_,_,_,k,hk=>by cases hk
 | k'::ks,a,b,⟨h0,h1,h2,_,h4⟩,k,hk=>by
  rcases jW.1 hk with rfl|hk
  .omega
  .have:=h4.lt k hk;omega
def Kids.le {out:List Int}:∀ {ks:List Int} {a b:Int},Kids out a b ks->a<=b
 | [],_,_,h=>by simp only [Kids] at h;omega
 | k'::ks,a,b,⟨h0,h1,h2,_,h4⟩=>by have:=h4.le;omega
end Go.Av
namespace Go.Av
open Go
variable {P:Program} {G:Nat->Option (List V)}
theorem gH.imp {o:Oper} {e:Operand->V} {H:Hp} {v v':V} (h:gH P G o e H v H []) (hv:∀ ρ S w x,RV ρ S w x v->RV ρ S w x v'):gH P G o e H v' H []:=by
 intro ρ S F η w bV hH hG;refine (h ρ S F η w bV hH hG).mono ?_;rintro x w' ⟨ρ',S',F',h1,h2,h3,h4⟩;exact ⟨ρ',S',F',hv _ _ _ _ h1,h2,h3,h4⟩
theorem RV.aFH {ρ:Nat->Option Value} {S:Nat->Prop} {w:World} {v:Value} {cells:List V} {x:V} (h:RV ρ S w v (.el cells)) (hx:cells[0]?=some x):RV ρ S w v (.el [x]):=by
 obtain ⟨a,cs,rfl,h1,h2⟩:=h.aol;refine .el a [x] cs (fun j y hy=>?_) (fun j y hy=>?_);all_goals
  cases j with
  | zero=>
   simp only [KC,iI] at hy;subst hy;first
    | exact h1 0 x hx
    | exact h2 0 x hx
  | succ j=>simp at hy
theorem RV.aFI {ρ:Nat->Option Value} {S:Nat->Prop} {w:World} {v:Value} {nn x:Bool} {rows:List (List V)} (h:RV ρ S w v (.sl nn x rows)):RV ρ S w v (.sl false x rows):=by
 cases h with
 | sl _ _ _ _ h=>
  refine .sl _ _ _ _ ?_;generalize hF:([]:List Nat)=F at h;cases h with
  | lQ=>exact .lQ _
  | shr a cap nn rows k cs h1 h2 h3 h4 h5=>exact .shr a cap _ rows k cs h1 h2 h3 h4 h5
  | exc=>cases hF
theorem AC.mono {G G':Nat->Option (List V)} {f:FuncId} {vs:List V} {H:Hp} {r:V} {H1:Hp} (h:AC P G f vs H r H1) (hs:∀ g cs,G g=some cs->G' g=some cs):AC P G' f vs H r H1:=
 fun ρ S F xs w a b c d=>h ρ S F xs w a b c fun g cs hg=>d g cs (hs g cs hg)
def Xz (D:Tab) (G:Nat->Option (List V)) (ops:Array Oper) (i:Nat) (T:List V):Option (List V×Int×Nat):=
 match oH ops i T with
 | some (.indexAddr t x ix)=>match D.at t,ev G T x,ev G T ix with
  | some it,.el cs,.c (.int _ n)=>match it.d with
   | .arr len el=>match D.at el with
    | some ie=>if ie.size=1 then some (cs,n,len) else none
    | none=>none
   | _=>none
  | _,_,_=>none
 | _=>none
theorem W.Xz {D:Tab} (hD:dX P D) {ops:Array Oper} {draw:Bool} {T0:List V} {H0:Hp} {i:Nat} {T:List V} {H:Hp} {Es:List (Bool×Eff)} {Q:St->Prop} {α:Type} (enc:α->V) {l:List α} {n:Int} {x:α} (hx:ix l n=some x)
  (h:Xz D G ops i T=some (l.map enc,n,l.length))
  (k:W P G ops draw T0 H0 (i+1) (fQ T (ku ops i)<|.el [enc x]) H (Es++[(true,{v:=.el [enc x]})]) Q):W P G ops draw T0 H0 i T H Es Q:=by
 obtain ⟨h1,h2⟩:=Pq hx;unfold Av.Xz at h;split at h
 .rename_i t xo io hop;split at h
  .rename_i it cs kk n' ht hxv hiv;split at h
   .rename_i len el hit;split at h
    .rename_i ie hel;split at h
     .rename_i hs;simp only [iI,nC] at h;obtain ⟨rfl,rfl,rfl⟩:=h;refine Cv (.el [enc x]) [] hop (fun o ho e' H' he _=>?_) k;have hev:=(he xo gG).trans hxv;refine gH.imp (aEJ (v:=.el ((l.map enc).drop n'.toNat)) hD n'.toNat ho ht hit hel ?_ ((he io gG).trans hiv) h1 (dV.1 h2).1) fun ρ S w y hy=>hy.aFH ?_
      .rw [hev,hs,aaY];rfl
      .rw [BX,EP,gy,h2];rfl
     .cases h
    .cases h
   .cases h
  .cases h
 .cases h
def Xu (D:Tab) (G:Nat->Option (List V)) (ops:Array Oper) (i:Nat) (T:List V):Option (List V):=
 match oH ops i T with
 | some (.slice t x none none none)=>match D.at t,ev G T x with
  | some it,.el cs=>match it.d with
   | .arr len el=>match D.at el with
    | some ie=>if ie.size=1/\cs.length=len/\len<=maxLen then some cs else none
    | none=>none
   | _=>none
  | _,_=>none
 | _=>none
theorem W.Xu {D:Tab} (hD:dX P D) {ops:Array Oper} {draw:Bool} {T0:List V} {H0:Hp} {i:Nat} {T:List V} {H:Hp} {Es:List (Bool×Eff)} {Q:St->Prop} {α:Type} (enc:α->V) (l:List α)
  (h:Xu D G ops i T=some (l.map enc))
  (k:W P G ops draw T0 H0 (i+1) (fQ T (ku ops i)<|.sl false false<|l.map fun x=>[enc x]) H (Es++[(true,{v:=.sl false false (l.map fun x=>[enc x])})]) Q):W P G ops draw T0 H0 i T H Es Q:=by
 unfold Av.Xu at h;split at h
 .rename_i t xo hop;split at h
  .rename_i it cs ht hxv;split at h
   .rename_i len el hit;split at h
    .rename_i ie hel;split at h
     .rename_i hs;simp only [iI] at h;subst h;refine Cv (.sl false false _) [] hop (fun o ho e' H' he _=>?_) k;have hev:=(he xo gG).trans hxv;have:=aEO (G:=G) (P:=P) (H:=H') hD ho ht hit hel hs.1 hev hs.2.1 hs.2.2;rw [IV] at this;exact gH.imp this fun ρ S w y hy=>hy.aFI
     .cases h
    .cases h
   .cases h
  .cases h
 .cases h
end Go.Av
namespace Go.Av
open Go.RowKit Go.WideShapes Go.ChangeShapes
variable {P:Program} {G:Nat->Option (List V)}
theorem aDQ {f:FuncId} {vs:List V} {r:V} (h:AC P G f vs [] r []) (S:Nat->Prop) {xs:Array Value} {w:World} (hS:∀ b,S b->b < w.heap.size) (hG:Im G S w) (hsz:xs.size=vs.length)
  (hxs:∀ i x,vs[i]?=some x->RV (fun _=>none) S w (xs.getD i undef) x):
  Calls P f xs w fun e w'=>∃ x S',e=.returned x/\RV (fun _=>none) S' w' x r/\Below w.heap.size w w':=by
 refine (h (fun _=>none) S (fun _=>[]) xs w hsz hxs ⟨fun _ _=>rfl,fun _ _ h=>(by cases h),fun _ _ h=>(by cases h),fun _ _ _ _ _ h=>(by cases h),fun _ _ _ h=>(by cases h),fun _ _ _ h=>(by cases h),hS⟩ hG).mono ?_;rintro e w' ⟨x,ρ',S',F',rfl,hx,_,hE,_⟩;refine ⟨x,S',rfl,hx.mono (fun _ _ h _=>(by cases h)) fun b hb=>⟨hb,rfl⟩,hE.os,hE.tape,hE.output,hE.size,fun k hk=>hE.keep k hk ?_⟩;rintro ⟨i,o,hi,_⟩;cases hi
def strCells (l:List (List UInt8)):Array Value:=(l.map fun s=>Value.string ⟨⟨s⟩⟩).toArray
theorem afS {H:Type} {enc:TypeId×Value->H} {w:World} {base:Nat} {sp:Nat->Bool} {held:Bool} {fuel:Nat} {t el:TypeId} {n:Nat} {cs:Array Value} {l:List (List UInt8)} {p:List MemPlace}
  (h:DataW.trod enc P w base sp held fuel t cs.toList=some (.agg<|l.map fun s=>.lit<|.string s,p)) (ht:P.underlying t=some (.array n el)) (hel:P.underlying el=some .string) (h1:P.cellsOf el=1) (hn:P.cellsOf t=n):cs=strCells l:=by
 obtain ⟨xs,m,_,ex,hlen,hl,he⟩:=DataW.trod_array ht h;rw [hn] at hlen;simp only [nC,DataW.agg.injEq] at ex;obtain ⟨e1,_⟩:=ex;have hll:l.length=n:=by
  have:=congrArg List.length e1;simp only [Fg] at this;omega
 unfold strCells;have hcs:cs.size=n:=by simpa using hlen
 apply Array.ext
 .simp [hcs,hll]
 .intro i hi _;have hin:i < n:=ah;have hx:=he i hin;rw [h1,aaY] at hx;have hdrop:(cs.toList.drop i).take 1=[cs[i]]:=by
   rw [xX<|by simpa using hi];simp
  rw [hdrop] at hx;have hxs:xs[i]?=some xs[i]:=fZ ah;rw [hxs] at hx;obtain ⟨s,hs,hxi,_⟩:=DataW.trod_string hel hx;simp only [List.cons.injEq,and_true] at hs;have e2:(l.map fun s=>(DataW.lit (.string s):DataW H))[i]?=(xs.map (·.1))[i]?:=by rw [e1]
  rw [gy,gy,hxs,aaP,hxi,fZ ah,aaP] at e2;simp only [iI,DataW.lit.injEq,Lit.string.injEq] at e2;rw [hs];simp only [List.getElem_toArray,List.getElem_map,e2]
theorem aFJ {w:World} {S:Nat->Prop} {name:String} {g:Nat} {l:List (List UInt8)} (hg:P.globalNamed name=some g) (hv:w.var? P name=some (strCells l)) (hS:S g):RV (fun _=>none) S w (.pointer<|some ⟨g,0,none⟩) (.el<|l.map V.s):=by
 refine .el ⟨g,0,none⟩ _ (fun j=>(strCells l).getD j undef) (fun j x hx=>⟨hS,?_⟩) (fun j x hx=>?_);all_goals
  rw [gy,eY] at hx;obtain ⟨s,hs,rfl⟩:=hx;have hj:j < l.length:=(dV.1 hs).1;have hc:(strCells l)[j]?=some (Value.string ⟨⟨s⟩⟩):=by
   unfold strCells;rw [KW,gy,hs];rfl
  have hd:(strCells l).getD j undef=Value.string ⟨⟨s⟩⟩:=by
   rw [lM,hc];rfl
  rw [hd]
 .have:=World.var?_cell hg hv j;rw [hc] at this;have e:Addr.add ⟨g,0,none⟩ j=⟨g,j,none⟩:=by
   unfold Addr.add;split<;>simp_all
  rw [e];exact this
 .exact .c _ rfl
theorem aaN {w:World} {name:String} {g:Nat} {cs:Array Value} (hg:P.globalNamed name=some g) (hv:w.var? P name=some cs):g < w.heap.size:=by
 unfold World.var? at hv;rw [hg] at hv;simp only [ak] at hv;cases hh:w.heap[g]? with
 | none=>rw [hh] at hv;cases hv
 | some o=>exact (qh.1 hh).1
theorem anM {H:Type} {enc:TypeId×Value->H} (hl:laidOutB P=true) {W W':World} (hb:Below W.heap.size W W') {sp:Nat->Bool}:
  ∀ {ns:List String} {gs:List (DataW H)} {ps:List MemPlace},varsRowed P ns=true->DataW.TrodVars enc P W (fun _=>true) ns gs ps->(∀ p,p∈ps->sp p.block=true)->DataW.TrodVars enc P W' sp ns gs ps
 | [],[],_,_,h,_=>h
 | [],_::_,_,_,h,_=>h.elim
 | _::_,[],_,_,h,_=>h.elim
 | n::ns,d::ds,ps,hv,h,hs=>by
  have hlt:=h.lt;obtain ⟨g,t,cs,fuel,p,q,h1,h2,h3,h4,h5,e⟩:=h;have hg:=aaN h1 h3;have ht:P.readableRec t=true/\t < P.types.size:=by
   simp only [varsRowed,Lb,dA] at hv;obtain ⟨gl,hgl,rfl⟩:=eY.1 h2;have:=hv.1;simpa [h1,hgl] using this
  have hp:∀ x,x∈p->x∈ps:=fun x hx=>by rw [e];simp [hx]
  have h3':W'.var? P n=some cs:=by
   unfold World.var? at h3 ⊢;rw [h1] at h3 ⊢;simp only [ak] at h3 ⊢;rw [hb.block g hg];exact h3
  refine ⟨g,t,cs,fuel,p,q,h1,h2,h3',DataW.trod_stays (kids_book hl ht.1) (book_sized ht.1) (fun h=>by cases h) ⟨ht.2,book_self t⟩ h4 (fun x hx=>hb.same<|hlt x<|hp x hx) fun x hx=>hs x<|hp x hx,?_,e⟩;exact anM hl hb (by simp only [varsRowed,Lb,dA] at hv;exact hv.2) h5 fun x hx=>hs x (by rw [e];simp [hx])
theorem anG {H:Type} {enc:TypeId×Value->H} {W:World} {sp:Nat->Bool}:∀ {ns:List String} {gs:List (DataW H)} {ps:List MemPlace},DataW.TrodVars enc P W sp ns gs ps->gs.length=ns.length
 | [],[],_,_=>rfl
 | [],_::_,_,h=>h.elim
 | _::_,[],_,h=>h.elim
 | n::ns,d::ds,ps,⟨_,_,_,_,_,_,_,_,_,_,h,_⟩=>congrArg (·+1) (anG h)
theorem aFK {w:World} {name:String} {g:Nat} {arr:Array Value} (hg:P.globalNamed name=some g) (hv:w.var? P name=some arr):∃ ety fr,w.heap[g]?=some (.cells arr ety fr):=by
 unfold World.var? at hv;rw [hg,ak] at hv;split at hv
 .rename_i cs ety fr h;cases hv;exact ⟨ety,fr,h⟩
 .cases hv
theorem afT {w:World} {S:Nat->Prop} {name:String} {g:Nat} {l:List (List UInt8)} (hg:P.globalNamed name=some g) (hv:w.var? P name=some (strCells l)) (hS:S g):
  RV (fun _=>none) S w (.pointer<|some ⟨g,0,none⟩) (.el<|l.map V.s)/\∃ arr ety fr,w.heap[g]?=some (.cells arr ety fr)/\arr.size=(l.map V.s).length/\S g:=by
 obtain ⟨ety,fr,h⟩:=aFK hg hv;exact ⟨aFJ hg hv hS,_,ety,fr,h,by simp [strCells],hS⟩
end Go.Av
namespace Go.Av
open Go
variable {P:Program} {G:Nat->Option (List V)}
theorem eqGuard_at_slice (P:Program) (w:World) (op:BinOp) (t:TypeId) (x y:Operand) (a b:Option Addr) (n c n' c':Nat):(eqGuard op t x y (.slice a n c)<|.slice b n' c').run P w=.ok () w:=by
 unfold eqGuard;cases op<;>rfl
theorem aFL {P:Program} {t el:TypeId} (hu:P.underlying t=some (.slice el)) (w:World) (a:Option Addr) (n c:Nat):(Op.equal t (.slice a n c)<|.slice none 0 0).run P w=.ok a.isNone w:=by
 unfold Op.equal;obtain ⟨k,hk⟩:∃ k,Op.maxDepth=k+1:=⟨_,rfl⟩
 rw [hk,Op.equalIn];simp only [gq,nD hu,gJ];cases a<;>rfl
theorem ahi {P:Program} {t el:TypeId} (hu:P.underlying t=some (.slice el)) (w:World) (a:Option Addr) (n c:Nat):(binOp .eql t (.slice a n c)<|.slice none 0 0).run P w=.ok (.bool a.isNone) w:=by
 show (Op.equal t (.slice a n c) (.slice none 0 0) >>=fun b=>pure<|Value.bool b).run P w=_;simp only [gq,aFL hu,gJ,jT]
theorem aFM {D:Tab} (hD:dX P D) {o:Oper} {e:Operand->V} {H:Hp} {t t' el:TypeId} {it:Ty} {x y:Operand} (q:Bool) (ho:o.op=.binOp .eql t x y t') (ht:D.at t=some it) (hit:it.d=.slice el) (hy:e y=.c (.slice none 0 0))
  (hx:(e x=.c (.slice none 0 0)/\q=true)\/∃ b rows,e x=.sl true b rows/\q=false):gH P G o e H (.c<|.bool q) H []:=by
 refine Ct fun ρ S F η w bV hH=>?_;have h1:=bV x (by simp [ho,Op.operands]);have h2:=bV y (by simp [ho,Op.operands]);rw [hy] at h2;have hu:=IB hD ht hit;refine ⟨_,?_,.c _⟩;unfold execOp;rcases hx with ⟨hx,rfl⟩|⟨b,rows,hx,rfl⟩
 .rw [hx] at h1;simp only [ho,h1.iK,h2.iK,gq,eqGuard_at_slice,gJ,ahi hu,jT,Option.isNone_none]
 .rw [hx] at h1;have hv:∃ a n c,η x=.slice (some a) n c:=by
   generalize η x=v at h1;cases h1 with
   | sl _ _ _ _ h=>cases h with
    | shr a cap nn rows k cs=>exact ⟨_,_,_,rfl⟩
  obtain ⟨a,n,c,hv⟩:=hv;simp only [ho,hv,h2.iK,gq,eqGuard_at_slice,gJ,ahi hu,jT,Option.isNone_some]
def nlW (D:Tab) (G:Nat->Option (List V)) (ops:Array Oper) (i:Nat) (T:List V):Option Bool:=
 match oH ops i T with
 | some (.binOp .eql t x y _)=>match D.at t,ev G T y with
  | some it,.c (.slice none 0 0)=>match it.d with
   | .slice _=>match ev G T x with
    | .c (.slice none 0 0)=>some true
    | .sl true _ _=>some false
    | _=>none
   | _=>none
  | _,_=>none
 | _=>none
theorem afR {D:Tab} (hD:dX P D) {ops:Array Oper} {draw:Bool} {T0:List V} {H0:Hp} {i:Nat} {T:List V} {H:Hp} {Es:List (Bool×Eff)} {Q:St->Prop} (q:Bool) (h:nlW D G ops i T=some q)
  (k:W P G ops draw T0 H0 (i+1) (fQ T (ku ops i)<|.c<|.bool q) H (Es++[(true,{v:=.c (.bool q)})]) Q):W P G ops draw T0 H0 i T H Es Q:=by
 unfold nlW at h;split at h
 .rename_i t x y t' hop;split at h
  .rename_i it ht hy;split at h
   .rename_i el hit;refine Cv (.c<|.bool q) [] hop (fun o ho e' H' he _=>?_) k;refine aFM hD q ho ht hit ((he y gG).trans hy) ?_;rw [he x gG];split at h
    .rename_i hx;cases h;exact .inl ⟨hx,rfl⟩
    .rename_i b rows hx;cases h;exact .inr ⟨b,rows,hx,rfl⟩
    .cases h
   .cases h
  .cases h
 .cases h
end Go.Av
namespace Go.Av
def aeO (P:Program) (gf:FuncId):Prop:=
 ∀ (l g n:Nat) (Inv:Nat->World->Prop) (Stop:World->Prop) (w:World),n<=maxLen->
  (∀ W,Inv n W->∃ a cap,W.cell? ⟨g,0,none⟩=some (.slice a n cap))->(∀ k W d,Inv k W->Inv k {W with drawn:=d})->
  (∀ k W,Inv (k+1) W->k < n/\∃ a cap v,W.cell? ⟨g,0,none⟩=some (.slice (some a) n cap)/\n<=cap/\W.cell? (a.add k)=some v/\v.oneCell'=true/\
   ∃ f tmps wD body,(Instr.yield l #[.int .i64 k,v]).run P W=.ok (.round l f tmps wD body) W/\
    RoundIn Fence.wide 0 P l f tmps wD body W fun e W'=>(e=.returned (.bool true)/\Inv k W')\/(e=.returned (.bool false)/\Stop W'))->
  Inv n w->Calls P gf #[.func (.yield l) #[] #[],.pointer<|some ⟨g,0,none⟩] w fun e W'=>(∃ v,e=.returned v)/\(Inv 0 W'\/Stop W')
mutual
def V.sm:V->Bool
 | .own j=>Nat.blt j 100
 | .loc j _=>Nat.blt j 100
 | .vp j _ _ _=>Nat.blt j 100
 | .vw j _ _ _=>Nat.blt j 100
 | .fn _ cs=>FN cs
 | .agg cs=>FN cs
 | .jP cs=>FN cs
 | _=>true
def FN:List V->Bool
 | []=>true
 | x::r=>V.sm x&&FN r
end
mutual
def apn:∀ {x:V} {i:Nat},x.sm=true->x.has i=true->i < 100
 | .own j,i,h,hh=>by simp [V.sm,V.has] at h hh;omega
 | .loc j _,i,h,hh=>by simp [V.sm,V.has] at h hh;omega
 | .vp j _ _ _,i,h,hh=>by simp [V.sm,V.has] at h hh;omega
 | .vw j _ _ _,i,h,hh=>by simp [V.sm,V.has] at h hh;omega
 | .fn _ cs,i,h,hh=>abE (by simpa [V.sm] using h) (by simpa [V.has] using hh)
 | .agg cs,i,h,hh=>abE (by simpa [V.sm] using h) (by simpa [V.has] using hh)
 | .jP cs,i,h,hh=>abE (by simpa [V.sm] using h) (by simpa [V.has] using hh)
 | .junk,i,h,hh=>by simp [V.has] at hh
 | .c _,i,h,hh=>by simp [V.has] at hh
 | .sl _ _ _,i,h,hh=>by simp [V.has] at hh
 | .el _,i,h,hh=>by simp [V.has] at hh
def abE:∀ {l:List V} {i:Nat},FN l=true->V.lC i l=true->i < 100
 | [],i,h,hh=>by simp [V.lC] at hh
 | x::r,i,h,hh=>by
  simp only [FN,dA] at h;simp only [V.lC,iX] at hh;rcases hh with hh|hh
  .exact apn h.1 hh
  .exact abE h.2 hh
end
def aFN {l:List V} (h:FN l=true) {x:V} (hx:x∈l):x.sm=true:=by
 induction l with
 | nil=>cases hx
 | cons y l ih=>
  simp only [FN,dA] at h;rcases jW.1 hx with rfl|hx
  .exact h.1
  .exact ih h.2 hx
def ahj (m m':Ren):Bool:=m'.all fun p=>Nat.ble 100 p.2||(Nat.blt p.1 100&&dP m p.2==some p.1)
def aFO {m m':Ren} (h:ahj m m'=true) {i j:Nat} (hm:dP m' i=some j) (hj:j < 100):i < 100/\dP m j=some i:=by
 have:=kJ.1 h _ (wP hm);simp only [iX,zQ,dA,Iq,iG] at this;rcases this with h|h
 .omega
 .exact h
def ahk:Exit->Option Code
 | .ret=>some .ret
 | .exit id=>some (.exit id)
 | _=>none
def Fin (m:Ren) (Tc:List V) (Q:Exit->St->Prop) (e:Exit) (H1:Hp):Prop:=
 ∃ m' T2 H2,m'.ok=true/\ahj m m'=true/\yL m' Tc T2/\DW m' H1 H2/\Q e ⟨T2,H2⟩
def apo (m:Ren) (Tc:List V) (Q:Exit->St->Prop) (N:Hp->Prop):Exit->St->Prop
 | .normal,st=>∃ T1 H1,Weak st ⟨T1,H1⟩/\N H1
 | .ret,st=>Fin m Tc Q .ret st.H
 | .exit id,st=>Fin m Tc Q (.exit id) st.H
 | _,_=>False
section
variable {P:Program} {G:Nat->Option (List V)} {L:Option Nat} {B:Nat}
theorem Keeps.putObj {S:Nat->Prop} {W:World} {l:Nat} {o:Obj} (hl: ¬S l):Keeps S W S (W.putObj l o):=
 fun b hb=>⟨hb,Fz fun e=>hl<|e ▸ hb⟩
theorem eu.putObj {ρ:Nat->Option Value} {S:Nat->Prop} {F:Nat->List Nat} {H:Hp} {W:World} {l:Nat} {o o':Obj} (h:eu ρ S F H W) (hl: ¬S l) (ho:W.heap[l]?=some o) (hc:∀ arr e m,o≠.cells arr e m):eu ρ S F H (W.putObj l o'):=by
 have hU:∀ b,Ub H F b->(W.putObj l o').heap[b]?=W.heap[b]?:=fun b hb=>Fz fun e=>by
  obtain ⟨arr,t,m,hh⟩:=h.blocks hb;rw [e,ho] at hh;cases hh;exact hc _ _ _ rfl
 refine ⟨h.dom,fun i p hp=>?_,h.nodup,h.jI,h.sep,fun i p b hp hb=>by rw [Pf];exact h.lt i p b hp hb,fun b hb=>by rw [Pf];exact h.slt b hb⟩;obtain ⟨r,hr,cB⟩:=h.obj i p hp;exact ⟨r,hr,cB.mono (fun _ _ h _=>h) (Keeps.putObj hl) fun b hb=>hU b ⟨i,p,hp,hb⟩⟩
theorem iT.putObj {S U S' U':Nat->Prop} {w W:World} {l:Nat} {o:Obj} (h:iT S U w S' U' W) (hl:w.heap.size<=l):iT S U w S' U' (W.putObj l o):=
 ⟨h.os,h.tape,h.output,by rw [Pf];exact h.size,fun b hb hu=>(Fz ah).trans<|h.keep b hb hu,h.sub,h.newS,h.rH⟩
theorem iT.alloc {S U S' U':Nat->Prop} {w W:World} {o:Obj} (h:iT S U w S' U' W):iT S U w S' U' (W.alloc o):=
 ⟨h.os,h.tape,h.output,Io h.size aF,fun b hb hu=>(Go.RowKit.Below.heap_alloc _ _ _<|Bb hb h.size).trans<|h.keep b hb hu,h.sub,h.newS,h.rH⟩
theorem eu.alloc {ρ:Nat->Option Value} {S:Nat->Prop} {F:Nat->List Nat} {H:Hp} {W:World} {o:Obj} (h:eu ρ S F H W):eu ρ S F H (W.alloc o):=by
 have hk:Keeps S W S (W.alloc o):=fun b hb=>⟨hb,Go.RowKit.Below.heap_alloc _ _ _<|h.slt b hb⟩
 refine ⟨h.dom,fun i p hp=>?_,h.nodup,h.jI,h.sep,fun i p b hp hb=>by have:=h.lt i p b hp hb;simp;omega,fun b hb=>by have:=h.slt b hb;simp;omega⟩;obtain ⟨r,hr,cB⟩:=h.obj i p hp;exact ⟨r,hr,cB.mono (fun _ _ h _=>h) hk fun b hb=>Go.RowKit.Below.heap_alloc _ _ _<|h.lt i p b hp hb⟩
structure Aside (S:Nat->Prop) (l D:Nat) (rec:Loop) (W:World):Prop where
 sl: ¬S l
 sD: ¬S D
 hl:W.heap[l]?=some (.loop rec)
 hD:W.heap[D]?=some (.deferred<|some [])
theorem Aside.Ld {ρ:Nat->Option Value} {S S' U':Nat->Prop} {F:Nat->List Nat} {H:Hp} {w w':World} {l D:Nat} {rec:Loop} (h:Aside S l D rec w) (hH:eu ρ S F H w) (e:iT S (Ub H F) w S' U' w'):Aside S' l D rec w':=by
 have hUl: ¬Ub H F l:=fun hU=>by obtain ⟨arr,t,m,hc⟩:=hH.blocks hU;rw [h.hl] at hc;cases hc
 have hUD: ¬Ub H F D:=fun hU=>by obtain ⟨arr,t,m,hc⟩:=hH.blocks hU;rw [h.hD] at hc;cases hc
 have hll:l < w.heap.size:=(qh.1 h.hl).1;have hlD:D < w.heap.size:=(qh.1 h.hD).1;refine ⟨fun hs=>?_,fun hs=>?_,(e.keep l hll hUl).trans h.hl,(e.keep D hlD hUD).trans h.hD⟩
 .rcases e.newS l hs with h1|h1|h1
  .exact h.sl h1
  .exact hUl h1
  .omega
 .rcases e.newS D hs with h1|h1|h1
  .exact h.sD h1
  .exact hUD h1
  .omega
theorem Aside.put {S:Nat->Prop} {l D:Nat} {rec rec':Loop} {W:World} (h:Aside S l D rec W) (hne:D≠l):Aside S l D rec' (W.putObj l<|.loop rec'):=
 ⟨h.sl,h.sD,World.putObj_heap_same (qh.1 h.hl).1,(Fz hne).trans h.hD⟩
theorem Marks.putObj {S:Nat->Prop} {ds:List Deferred} {W:World} {l:Nat} {o o':Obj} (h:Marks B S ds W) (ho:W.heap[l]?=some o) (hc:∀ x,o≠.deferred x):Marks B S ds (W.putObj l o'):=by
 obtain ⟨hB,Ds,hn,hd,hD⟩:=h;refine ⟨by rw [Pf];exact hB,Ds,hn,hd,fun D hm=>?_⟩;obtain ⟨h1,h2,h3⟩:=hD D hm;refine ⟨h1,h2,(Fz fun e=>?_).trans h3⟩;rw [e,ho] at h3;exact hc _ (iV h3)
theorem mq.putObj {ρ:Nat->Option Value} {S:Nat->Prop} {F:Nat->List Nat} {st:St} {a:Act} {W:World} {l:Nat} {rc:Loop} {o':Obj} (h:mq B G ρ S F st a W) (hl: ¬S l) (ho:W.heap[l]?=some (.loop rc)):mq B G ρ S F st a (W.putObj l o'):=
 ⟨h.defers.putObj ho (fun _ h=>by cases h),h.size,fun i x hx=>(h.tmps i x hx).mono (fun _ _ h _=>h)<|Keeps.putObj hl,h.heap.putObj hl ho (fun _ _ _ h=>by cases h),h.glob.mono<|Keeps.putObj hl⟩
theorem eu.drawn {ρ:Nat->Option Value} {S:Nat->Prop} {F:Nat->List Nat} {H:Hp} {W:World} (h:eu ρ S F H W) (d:Nat):eu ρ S F H {W with drawn:=d}:=by
 refine ⟨h.dom,fun i p hp=>?_,h.nodup,h.jI,h.sep,h.lt,h.slt⟩;obtain ⟨r,hr,cB⟩:=h.obj i p hp;exact ⟨r,hr,cB.mono (fun _ _ h _=>h) (fun b hb=>⟨hb,rfl⟩) fun _ _=>rfl⟩
theorem ahl {dO:Nat->Option Value} {S1:Nat->Prop} {F1:Nat->List Nat} {H1:Hp} {W:World} {j gb:Nat} {ety:TypeId} {nn:Bool} {α:Type} {enc:α->V} {la:List α} (hH1:eu dO S1 F1 H1 W)
  (hl:look H1 j=some (.cells ety [.sl nn false<|la.map fun x=>[enc x]])) (hr:∀ r,dO j=some r->r=.pointer (some ⟨gb,0,none⟩)):
  ∃ a0 cap,W.cell? ⟨gb,0,none⟩=some (.slice a0 la.length cap)/\la.length<=maxLen/\∀ k x,la[k]?=some x->∃ b v,a0=some b/\la.length<=cap/\W.cell? (b.add k)=some v/\v.oneCell'=true/\RD S1 W v (enc x) []:=by
 obtain ⟨r,hr',cB⟩:=hH1.obj j _ hl;have e:=hr r hr';subst e;generalize F1 j=Fj at cB;cases cB with
 | cells g arr _ _ hh hsz hcs=>
  obtain ⟨c,h1,h2,h3⟩:=hcs 0 _ rfl;have hcell:W.cell? ⟨gb,0,none⟩=some c:=(SA W gb 0 arr _ (0,0) hh).trans h1;have hd:=h3.XR;have key:∀ rows,(la.map fun x=>[enc x])=rows->RD S1 W c (.sl nn false rows) []->∃ a0 cap,c=.slice a0 la.length cap/\la.length<=maxLen/\∀ k x,la[k]?=some x->∃ b v,a0=some b/\la.length<=cap/\W.cell? (b.add k)=some v/\v.oneCell'=true/\RD S1 W v (enc x) []:=by
   intro rows hrows hd;cases hd with
   | lQ=>
    have:la=[]:=by simpa using hrows
    subst this;exact ⟨none,0,rfl,EW _,fun k x hx=>by simp at hx⟩
   | shr a cap _ _ k cs hlen hcap hk hc hr=>
    have hl:rows.length=la.length:=by rw [<- hrows];simp
    refine ⟨some a,cap,by rw [hl],ah,fun k' x hx=>?_⟩;have hrow:rows[k']?=some [enc x]:=by rw [<- hrows,gy,hx];rfl
    have hk1:1=k:=hk k' _ hrow;obtain ⟨_,hcl⟩:=hc k' 0 _ (enc x) hrow rfl;have hrd:=hr k' 0 _ (enc x) hrow rfl;subst hk1;exact ⟨a,cs k' 0,rfl,ah,by simpa using hcl,hrd.one,hrd⟩
  obtain ⟨a0,cap,rfl,h5,h6⟩:=key _ rfl hd;exact ⟨a0,cap,hcell,h5,h6⟩
theorem aFQ {g:Operand} {wD body:Code} {T0:List V} {H0:Hp} {Q:Exit->St->Prop} {gf:FuncId} (hit:aeO P gf) (hcf:vo P gf) {α ι:Type} (enc:α->V) (la:List α)
  (m:Ren) (Tc:List V) (i0:ι) (J:ι->Hp) (R:List α->ι->Prop) (j:Nat) (ety:TypeId) (nn:Bool) (p0 p1:Tmp)
  (hm:m.ok=true) (hT:yL m T0 Tc) (hH:DW m H0 (J i0)) (hsm:FN Tc=true) (hg:ev G Tc g=.fn gf [.loc j 0]) (hj:j < 100) (hp:p0≠p1)
  (Td:∀ i,look (J i) j=some (.cells ety [.sl nn false<|la.map fun x=>[enc x]])) (hR:R la.reverse i0)
  (round:∀ x xs i,R (x::xs) i->∀ L,∃ T1 H1,CO (some L) P G wD ⟨(Tc.set p0 .junk).set p1<|enc x,J i⟩ (fun e st=>e=.normal/\Weak st ⟨T1,H1⟩)/\
   CO (some L) P G body ⟨T1,H1⟩ (apo m Tc Q fun H=>∃ i',R xs i'/\H=J i'))
  (done:∀ i,R [] i->Fin m Tc Q .normal (J i)):CO none P G (.rangeFunc g #[p0,p1] wD body) ⟨T0,H0⟩ Q:=by
 intro B ρ S F a w RR hst hn;obtain ⟨FC,Fc,hHc,k2,k3,k4⟩:=hst.heap.rn hm hH;have hTc:∀ i y,Tc[i]?=some y->RV FC S w (a.tmps.getD i undef) y:=fun i y hy=>by
  rcases hT.get hy with rfl|⟨x,hx,rfl⟩
  .exact .junk _
  .exact (hst.tmps i x hx).rn k2
 have hsz:a.tmps.size=Tc.length:=hst.size.trans hT.length;have hE0:iT S (Ub H0 F) w S (Ub (J i0) Fc) w:=⟨rfl,rfl,rfl,dK _,fun _ _ _=>rfl,fun _ h=>h,fun _ h=>.inl h,fun b ⟨i,o,ho,hb⟩=>by
  obtain ⟨i',o',_,hl,e,_⟩:=k4 i o ho;exact .inl ⟨i',o',hl,e ▸ hb⟩⟩
 have hgv:∃ gb,a.eval g=.func (.func gf) #[] #[.pointer<|some ⟨gb,0,none⟩]/\FC j=some (.pointer<|some ⟨gb,0,none⟩):=by
  have h1:RV FC S w (a.eval g) (.fn gf [.loc j 0]):=by
   rw [<- hg];cases g with
   | tmp t=>
    simp only [Act.eval,ev,OZ];cases ht:Tc[t]? with
    | none=>exact .junk _
    | some y=>exact hTc t y ht
   | const v=>exact .c v
   | global q=>
    simp only [ev] at hg;split at hg<;>cases hg
   | func f=>simp [ev] at hg
  obtain ⟨arr,e1,e2,e3⟩:=h1.SK;obtain ⟨r,hr,_⟩:=hHc.obj j _ (Td i0);obtain ⟨arr⟩:=arr
  match arr,e2 with
  | [v0],_=>
   obtain ⟨gb,r1,r2⟩:=(e3 0 (.loc j 0) v0 rfl rfl).abl r hr;exact ⟨gb,by rw [e1,r2],by rw [hr,r1]⟩
 obtain ⟨gb,hgv,hgr⟩:=hgv;refine wpIn_rangeFunc ?_;intro fn _;obtain ⟨rec,hrec⟩:∃ rec:LoopState->Option Code->Loop,rec=fun st pe=>{state:=st,pending:=pe,fn,tmps:=a.tmps,params:=#[p0,p1],assign:=wD,body,defers:=w.heap.size}:=⟨_,rfl⟩
 obtain ⟨W1,hW1⟩:∃ W1,(w.alloc<|.deferred<|some []).alloc (.loop<|rec .ready none)=W1:=⟨_,rfl⟩
 have hL1:W1.heap[w.heap.size+1]?=some (.loop<|rec .ready none):=by
  rw [<- hW1];have:=World.alloc_heap_new (w.alloc<|.deferred<|some []) (.loop<|rec .ready none);rwa [World.size_alloc] at this
 have hK1:W1.heap[w.heap.size]?=some (.deferred<|some []):=by
  rw [<- hW1];exact (Go.RowKit.Below.heap_alloc _ _ _ aF).trans (World.alloc_heap_new w _)
 have hnS:∀ b,w.heap.size<=b-> ¬S b:=fun b hb hs=>by have:=hst.heap.slt b hs;omega
 let In:(Hp->Prop)->Loop->World->Prop:=fun N rc W=>∃ H1 dO S1 F1,N H1/\eu dO S1 F1 H1 W/\iT S (Ub H0 F) w S1 (Ub H1 F1) W/\mo FC dO/\Aside S1 (w.heap.size+1) w.heap.size rc W
 let Inv:Nat->World->Prop:=fun k W=>k<=la.length/\In (fun H=>∃ i,R (la.take k).reverse i/\H=J i) (rec .ready none) W
 let Stop:World->Prop:=fun W=>∃ e:Exit,(e=.ret\/∃ id,e=.exit id)/\In (Fin m Tc Q e) (rec .done<|ahk e) W
 have aFR:Inv la.length W1:=by
  refine ⟨dK _,J i0,FC,S,Fc,⟨i0,by simpa using hR,rfl⟩,?_,?_,mo.refl _,hnS _ ah,hnS _ ah,hL1,hK1⟩
  .rw [<- hW1];exact hHc.alloc.alloc
  .rw [<- hW1];exact hE0.alloc.alloc
 have apu:∀ {dO:Nat->Option Value} {S1 U1:Nat->Prop} {W:World},iT S (Ub H0 F) w S1 U1 W->mo FC dO->∀ i y,Tc[i]?=some y->RV dO S1 W (a.tmps.getD i undef) y:=fun hE hA i y hy=>
  (hTc i y hy).mono (fun q r hq hh=>hA q r (apn (aFN hsm<|nk hy) hh) hq) (hst.heap.keeps hE)
 have apv:∀ {dO:Nat->Option Value},mo FC dO->∀ r,dO j=some r->r=.pointer (some ⟨gb,0,none⟩):=fun hA r hr=>by
  have:=hA j r hj hr;rw [hgr] at this;exact (iV this).symm
 have hmax:la.length<=maxLen:=by
  obtain ⟨_,_,_,h,_⟩:=ahl hHc (Td i0) (fun r hr=>by rw [hgr] at hr;exact (iV hr).symm);exact h
 have hfin:∀ (e:Exit) (H1:Hp) (dO:Nat->Option Value) (S1:Nat->Prop) (F1:Nat->List Nat) (W:World) (rc:Loop) (o:Obj),Fin m Tc Q e H1->eu dO S1 F1 H1 W->iT S (Ub H0 F) w S1 (Ub H1 F1) W->mo FC dO->
   Aside S1 (w.heap.size+1) w.heap.size rc W->RR e {a with defers:=mark w.heap.size::a.defers} (W.putObj (w.heap.size+1) o):=by
  rintro e H1 dO S1 F1 W rc o ⟨m',T2,H2,hm',hb,hT2,hH2,hQ⟩ hH1 hE hA has;obtain ⟨oC,F2,hH3,q2,q3,q4⟩:=hH1.rn hm' hH2;have hkp:Keeps S1 W S1 (W.putObj (w.heap.size+1) o):=Keeps.putObj has.sl;refine hn e _ hQ oC S1 F2 _ _ ⟨?_,hsz.trans hT2.length,fun i y hy=>?_,hH3.putObj has.sl has.hl (fun _ _ _ h=>by cases h),(hst.glob.mono<|hst.heap.keeps hE).mono hkp⟩ ⟨hE.os,hE.tape,hE.output,?_,?_,hE.sub,hE.newS,?_⟩ ?_
  .obtain ⟨hB,Ds,hnd,hds,hD⟩:=hst.defers;obtain ⟨hB1,_⟩:=hst.defers.Ld hst.heap hE;refine ⟨by rw [Pf];exact hB1,w.heap.size::Ds,rG.2 ⟨fun hm=>?_,hnd⟩,by rw [lH,hds],fun D hm=>?_⟩
   .have:=(qh.1 (hD _ hm).2.2).1;omega
   .rcases jW.1 hm with rfl|hm
    .exact ⟨hB,has.sD,(Fz ah).trans has.hD⟩
    .obtain ⟨d1,d2,d3⟩:=hD D hm;have dlt:=(qh.1 d3).1;have dU: ¬Ub H0 F D:=fun hU=>by
      obtain ⟨arr,t,q,hc⟩:=hst.heap.blocks hU;rw [d3] at hc;cases hc
     refine ⟨d1,fun hs=>?_,(Fz ah).trans<|(hE.keep D dlt dU).trans d3⟩;rcases hE.newS D hs with h|h|h
     .exact d2 h
     .exact dU h
     .omega
  .rcases hT2.get hy with rfl|⟨x,hx,rfl⟩
   .exact .junk _
   .exact ((apu hE hA i x hx).rn q2).mono (fun _ _ h _=>h) hkp
  .rw [Pf];exact hE.size
  .exact fun b hb hu=>(Fz ah).trans (hE.keep b hb hu)
  .rintro b ⟨i,o',ho,hb'⟩;obtain ⟨i',o2,_,hl,e2,_⟩:=q4 i o' ho;exact hE.rH b ⟨i',o2,hl,e2 ▸ hb'⟩
  .intro i r hi hr;obtain ⟨i',hi',hr'⟩:=q3 i r hr;obtain ⟨h1,h2⟩:=aFO hb hi' hi;exact k2 i i' r h2 (hA i' r h1 hr')
 refine ⟨w.heap.size+1,[mark w.heap.size],W1,{target:=.fn (.func gf) #[.pointer<|some ⟨gb,0,none⟩],args:=#[.func (.yield<|w.heap.size+1) #[] #[]]},W1,gf,
  #[.func (.yield<|w.heap.size+1) #[] #[],.pointer<|some ⟨gb,0,none⟩],W1,?_,?_,fun _ _=>trivial,?_,fun h=>(by cases h),?_⟩
 .rw [<- hW1,hrec];exact run_enterLoop_outer _ _ _ _ _
 .simp only [resolve,hgv];simp [go_sem]
 .simp only [invoke];simp [go_sem];exact hcf _ _
 .refine anV (aaA.2 (hit (w.heap.size+1) gb la.length Inv Stop W1 hmax ?_ ?_ ?_ aFR):CallsIn Fence.wide (0 - 1) P gf _ _ _) ?_
  .rintro W ⟨_,H1,dO,S1,F1,⟨i,_,rfl⟩,hH1,hE,hA,has⟩;obtain ⟨a0,cap,h1,_,_⟩:=ahl hH1 (Td i) (apv hA);exact ⟨a0,cap,h1⟩
  .rintro k W d ⟨hk,H1,dO,S1,F1,hN,hH1,hE,hA,has⟩;exact ⟨hk,H1,dO,S1,F1,hN,hH1.drawn d,⟨hE.os,hE.tape,hE.output,hE.size,hE.keep,hE.sub,hE.newS,hE.rH⟩,hA,⟨has.sl,has.sD,has.hl,has.hD⟩⟩
  .rintro k W ⟨hk,H1,dO,S1,F1,⟨i,hRi,rfl⟩,hH1,hE,hA,has⟩;obtain ⟨x,hx⟩:∃ x,la[k]?=some x:=⟨_,fZ ah⟩
   have hxs:(la.take<|k+1).reverse=x::(la.take k).reverse:=by rw [Rp,hx];simp
   rw [hxs] at hRi;obtain ⟨a0,cap,h1,_,h3⟩:=ahl hH1 (Td i) (apv hA);obtain ⟨b,v,rfl,h4,h5,h6,h7⟩:=h3 k x hx;refine ⟨ah,b,cap,v,h1,h4,h5,h6,fn,_,wD,body,by rw [run_yield has.hl (by rw [hrec];rfl),hrec],roundIn_of_wpIn trivial ?_⟩;obtain ⟨T1,H2,aFT,hbody⟩:=round x _ i hRi (w.heap.size+1);refine aFT 0 dO S1 F1 _ W _ ⟨Marks.nil _<|EW _,?_,fun q y hy=>?_,hH1,hst.glob.mono<|hst.heap.keeps hE⟩ ?_
   .simp [hsz]
   .have hq:q < Tc.length:=by have:=(dV.1 hy).1;simpa using this
    simp only [List.zip_toArray,List.zip_cons_cons,List.zip_nil_right,List.foldl_toArray,aaU,List.foldl_nil];rw [abe<|by simp [hsz,hq]];rcases Px hy with ⟨rfl,rfl⟩|⟨hne,hy⟩
    .rw [bU rfl];exact h7.abd
    .rw [bL hne,abe<|by rw [hsz];exact hq];rcases Px hy with ⟨rfl,rfl⟩|⟨hne,hy⟩
     .rw [bU rfl];exact .junk _
     .rw [bL hne];exact apu hE hA q y hy
   .rintro e st' ⟨rfl,hw⟩;intro oC S2 F2 a2 w2 rW hE2 hA2;obtain ⟨Ed,S3,F3,aFU,hE3,hA3⟩:=hw _ G oC S2 F2 a2 w2 rW;have apx:=hE2.trans hE3;have abG:=has.Ld hH1 apx;refine ⟨_,run_beginRound abG.hl (by rw [hrec]),?_⟩;have hrb:({rec .ready none with state:=.busy}:Loop)=rec .busy none:=by rw [hrec]
    rw [hrb];have aFV:=abG.put (rec':=rec .busy none) ah;have hE4:iT S (Ub H0 F) w S3 (Ub H2 F3) (w2.putObj (w.heap.size+1)<|.loop<|rec .busy none):=(hE.trans apx).putObj ah;have apy:=aFU.putObj (o':=.loop (rec .busy none)) abG.sl abG.hl;refine hbody 0 Ed S3 F3 a2 _ _ apy ?_;intro e st4 hq;intro ρ5 S5 F5 a5 w5 abH hE5 hA5;have ahn:=((hA.trans hA2).trans hA3).trans hA5;have IJ:=aFV.Ld apy.heap hE5;have aho:=hE4.trans hE5;cases e with
    | normal=>
     obtain ⟨T6,H6,hw6,i',hR',rfl⟩:=hq;obtain ⟨ρ6,S6,F6,aGa,hE6,hA6⟩:=hw6 _ G ρ5 S5 F5 a5 w5 abH;have abI:=IJ.Ld abH.heap hE6;refine ⟨_,_,agf none abI.hl,.inl ⟨rfl,ah,_,ρ6,S6,F6,⟨i',hR',rfl⟩,aGa.heap.putObj abI.sl abI.hl (fun _ _ _ h=>by cases h),(aho.trans hE6).putObj ah,ahn.trans hA6,?_⟩⟩;have:({rec .busy none with state:=if (none:Option Code).isNone then .ready else .done,pending:=none}:Loop)=rec .ready none:=by rw [hrec];rfl
     rw [this];exact abI.put ah
    | ret=>
     refine ⟨_,_,agf (some .ret) IJ.hl,.inr ⟨rfl,.ret,.inl rfl,_,ρ5,S5,F5,hq,abH.heap.putObj IJ.sl IJ.hl (fun _ _ _ h=>by cases h),aho.putObj ah,ahn,?_⟩⟩;have:({rec .busy none with state:=if (some Code.ret).isNone then .ready else .done,pending:=some .ret}:Loop)=rec .done (ahk .ret):=by rw [hrec];rfl
     rw [this];exact IJ.put ah
    | exit id=>
     refine ⟨_,_,agf (some<|.exit id) IJ.hl,.inr ⟨rfl,.exit id,.inr ⟨id,rfl⟩,_,ρ5,S5,F5,hq,abH.heap.putObj IJ.sl IJ.hl (fun _ _ _ h=>by cases h),aho.putObj ah,ahn,?_⟩⟩;have:({rec .busy none with state:=if (some<|Code.exit id).isNone then .ready else .done,pending:=some (.exit id)}:Loop)=rec .done (ahk<|.exit id):=by rw [hrec];rfl
     rw [this];exact IJ.put ah
    | goto t=>exact hq.elim
    | panic ch=>exact hq.elim
    | outgrown=>exact hq.elim
  .rintro e W2 ⟨⟨v,rfl⟩,⟨_,H1,dO,S1,F1,⟨i,hRi,rfl⟩,hH1,hE,hA,has⟩|⟨e,he,H1,dO,S1,F1,hf,hH1,hE,hA,has⟩⟩
   .refine ⟨none,_,by have:=run_endLoop (P:=P) has.hl (by rw [hrec];simp);rw [hrec] at this;exact this,?_⟩;exact hfin .normal _ dO S1 F1 W2 _ _ (done i<|by simpa using hRi) hH1 hE hA has
   .rcases he with rfl|⟨id,rfl⟩
    .refine ⟨some .ret,_,by have:=run_endLoop (P:=P) has.hl (by rw [hrec];simp);rw [hrec] at this;exact this,?_⟩;exact wpIn_ret (hfin .ret _ dO S1 F1 W2 _ _ hf hH1 hE hA has)
    .refine ⟨some<|.exit id,_,by have:=run_endLoop (P:=P) has.hl (by rw [hrec];simp);rw [hrec] at this;exact this,?_⟩;exact wpIn_exit (hfin (.exit id) _ dO S1 F1 W2 _ _ hf hH1 hE hA has)
theorem amE (m':Ren) (ks:List Nat) (T2:List V) (H2:Hp) {m:Ren} {Tc:List V} {Q:Exit->St->Prop} {e:Exit} {H1:Hp} (h1:(m'.ok&&ahj m m'&&Ec m')=true) (hT:zT m' ks 0 Tc=T2) (hH:sU m' H1 m'=some H2) (hQ:Q e ⟨T2,H2⟩):Fin m Tc Q e H1:=by
 simp only [dA] at h1;subst hT;exact ⟨m',_,H2,h1.1.1,h1.1.2,Ye m' ks 0 Tc,Pp hH (abA h1.2) fun p _=>rfl,hQ⟩
theorem aBa {g:Operand} {wD body:Code} {T0:List V} {H0:Hp} {Q:Exit->St->Prop} {gf:FuncId} (hit:aeO P gf) (hcf:vo P gf) {α ι:Type} (enc:α->V) (la:List α)
  (m:Ren) (ks:List Nat) (Tc:List V) (i0:ι) (J:ι->Hp) (R:List α->ι->Prop) (j:Nat) (ety:TypeId) (nn:Bool) (p0 p1:Tmp)
  (h1:(m.ok&&Ec m&&FN Tc&&Nat.blt j 100&&p0 !=p1)=true) (hT:zT m ks 0 T0=Tc) (hH:sU m H0 m=some (J i0)) (hg:ev G Tc g=.fn gf [.loc j 0])
  (Td:∀ i,look (J i) j=some (.cells ety [.sl nn false<|la.map fun x=>[enc x]])) (hR:R la.reverse i0)
  (round:∀ x xs i,R (x::xs) i->∀ L,∃ T1 H1,CO (some L) P G wD ⟨(Tc.set p0 .junk).set p1<|enc x,J i⟩ (fun e st=>e=.normal/\Weak st ⟨T1,H1⟩)/\
   CO (some L) P G body ⟨T1,H1⟩ (apo m Tc Q fun H=>∃ i',R xs i'/\H=J i'))
  (done:∀ i,R [] i->Fin m Tc Q .normal (J i)):CO none P G (.rangeFunc g #[p0,p1] wD body) ⟨T0,H0⟩ Q:=by
 simp only [dA,Iq,bne_iff_ne] at h1;subst hT;exact aFQ hit hcf enc la m _ i0 J R j ety nn p0 p1 h1.1.1.1.1 (Ye m ks 0 T0) (Pp hH (abA h1.1.1.1.2) fun p _=>rfl) h1.1.1.2 hg h1.1.2 h1.2 Td hR round done
theorem sF {ops:Array Oper} {Q:Exit->Act->World->Prop} {o:Oper} {rest:List Oper} {a:Act} {w w':World} {v:Value} (hg:o.guard=none) (hd:∀ c,o.op≠.defer c) (hr:(execOp a.eval o).run P w=.ok (.value v) w')
  (k:wpListIn (Aw L) 0 P ops Q rest (a.put o.dst v) w'):wpListIn (Aw L) 0 P ops Q (o::rest) a w:=by
 unfold wpListIn;rw [bU<|by simp [Region.wanted,hg]];refine ⟨fun _ _=>trivial,?_⟩;rw [afX _ _ _ hd,hr,aDV];exact k
theorem aya {ops:Array Oper} {Q:Exit->Act->World->Prop} {o:Oper} {rest:List Oper} {a:Act} {w:World} {l:Nat} {f:FuncId} {tmps:Array Value} {wD body:Code} {K:Ending->World->Prop} (hg:o.guard=none) (hd:∀ c,o.op≠.defer c)
  (hr:(execOp a.eval o).run P w=.ok (.round l f tmps wD body) w) (hR:RoundIn Fence.wide 0 P l f tmps wD body w K)
  (k:∀ e w',K e w'->∃ v,e=.returned v/\wpListIn (Aw L) 0 P ops Q rest (a.put o.dst v) w'):wpListIn (Aw L) 0 P ops Q (o::rest) a w:=by
 unfold wpListIn;rw [bU<|by simp [Region.wanted,hg]];refine ⟨fun _ _=>trivial,?_⟩;rw [afX _ _ _ hd,hr,Oper.uponIn_round];refine ⟨fun h=>(by cases h),?_⟩;refine RoundIn.mono (F:=Aw L) (n:=0 - 1) hR fun e w' h=>?_;obtain ⟨v,rfl,h2⟩:=k e w' h;exact h2
theorem alQ {F:Fence} {m:Nat} {c:Code} {Q:Exit->Act->World->Prop} (I:Nat->Act->World->Prop) (hz:∀ a W,I 0 a W->c.wpIn F m P (Exit.then (fun _ _=>False) Q) a W) (hs:∀ k a W,I (k+1) a W->c.wpIn F m P (Exit.then (I k) Q) a W):
  ∀ (n:Nat) (a:Act) (w:World),I n a w->Code.roundsIn F m P c Q (n+1) a w
 | 0,a,w,h=>hz a w h
 | n+1,a,w,h=>wpIn_mono (hs n a w h) fun e a' w' hq=>by
  cases e<;>first
   | exact hq
   | exact alQ I hz hs n a' w' hq
def slot (a:Act) (t:Nat):Value:=a.tmps.getD t undef
theorem rA (a:Act) (t:Tmp):a.eval (.tmp t)=slot a t:=rfl
theorem qE {a:Act} {d t:Nat} {v:Value} (h:t < a.tmps.size):slot (a.put (some d) v) t=if t=d then v else slot a t:=abe h
theorem rC {a:Act} {d:Option Tmp} {v:Value}:(a.put d v).tmps.size=a.tmps.size:=by cases d<;>simp [Act.put]
theorem aeR {a:Act} {d:Option Tmp} {v:Value}:(a.put d v).defers=a.defers:=by cases d<;>rfl
theorem aeP {D:Tab} (hD:dX P D) {t:TypeId} {it:Ty} (ht:D.at t=some it) (hag:it.d.agg=false) {b:Addr} {c v:Value} {w:World} (hv:v=.pointer (some b)) (hc:w.cell? b=some c):(Instr.loadAt t v).run P w=.ok c w:=by
 subst hv;have hpart:(loadVar t b).run P w=.ok c w:=by
  simp only [loadVar,gq,(hD _ _ ht).isAgg w,gJ,hag];simp [hc]
 simp [Instr.loadAt,Instr.sureAddr,hpart]
end
end Go.Av
namespace Go.Av
def Cw (H:Hp):Ren:=H.map fun p=>(p.1,p.1)
def Yl:List V->Nat->List Nat
 | [],_=>[]
 | .junk::r,n=>Yl r (n+1)
 | _::r,n=>n::Yl r (n+1)
def mOk (H:Hp):Bool:=(Cw H).ok&&(Cw H).keep&&Ec (Cw H)
section
variable {P:Program} {G:Nat->Option (List V)} {L:Option Nat}
theorem apB {ops:Array Oper} {draw:Bool} {T0:List V} {H0:Hp} {i:Nat} {T:List V} {H:Hp} {Es:List (Bool×Eff)} {T':List V} {H':Hp}
  (h:(Nat.ble ops.size i&&(DZ draw ops T0 H0 Es&&mOk H'),zT (Cw H') (Yl T' 0) 0 T,sU (Cw H') H<|Cw H')=(true,T',some H')):W P G ops draw T0 H0 i T H Es fun st=>Weak st ⟨T',H'⟩:=by
 simp only [nC,dA,zQ] at h;obtain ⟨⟨h1,h2,h3⟩,h4,h5⟩:=h;exact Ol h1 h2 (abB _ _ h3 h4 h5)
theorem aGc (m:Ren) (ks:List Nat) {ops:Array Oper} {draw:Bool} {T0:List V} {H0:Hp} {i:Nat} {T:List V} {H:Hp} {Es:List (Bool×Eff)} {T':List V} {H':Hp}
  (h:(Nat.ble ops.size i&&(DZ draw ops T0 H0 Es&&(m.ok&&m.keep&&Ec m)),zT m ks 0 T,sU m H m)=(true,T',some H')):W P G ops draw T0 H0 i T H Es fun st=>Weak st ⟨T',H'⟩:=by
 simp only [nC] at h;obtain ⟨h1,h4,h5⟩:=h;rw [dA,dA,zQ] at h1;exact Ol h1.1 h1.2.1 (abB _ _ h1.2.2 h4 h5)
def PL (D:Tab) (G:Nat->Option (List V)) (ops:Array Oper) (draw:Bool) (n q:Nat) (T:List V) (H:Hp) (T':List V) (H':Hp):Bool×List V×Option Hp:=
 match Bh D G ops n q 0 T H with
 | some r=>(Nat.ble ops.size n&&(DZ draw ops T H r.Es&&mOk H'),zT (Cw H') (Yl T' 0) 0 r.T,sU (Cw H') r.H<|Cw H')
 | none=>(false,[],none)
theorem cuW {D:Tab} (hD:dX P D) (n q:Nat) {ops:Array Oper} {draw:Bool} {T:List V} {H:Hp} {T':List V} {H':Hp} (h:PL D G ops draw n q T H T' H'=(true,T',some H')):W P G ops draw T H 0 T H [] fun st=>Weak st ⟨T',H'⟩:=by
 unfold PL at h;split at h
 .rename_i r hr;refine SS hD n hr ?_;rw [wm,Fh];exact apB h
 .cases h
theorem cu {D:Tab} (hD:dX P D) (hm:P.follows .mixedOrders=true) (n q:Nat) (T':List V) (H':Hp) {id:Nat} {l:List Oper} {draw:Bool} {c:Code} {T:List V} {H:Hp} {Q:Exit->St->Prop}
  (h:PL D G l.toArray draw n q T H T' H'=(true,T',some H')) (k:CO L P G c ⟨T',H'⟩ Q):CO L P G (.seq (.region id l.toArray draw) c) ⟨T,H⟩ Q:=
 bC T' H' hm (cuW hD n q h) k
theorem ce {D:Tab} (hD:dX P D) (hm:P.follows .mixedOrders=true) (n q:Nat) (T':List V) (H':Hp) {id:Nat} {l:List Oper} {draw:Bool} {T:List V} {H:Hp} {Q:Exit->St->Prop}
  (h:PL D G l.toArray draw n q T H T' H'=(true,T',some H')) (hQ:∀ st,Weak st ⟨T',H'⟩->Q .normal st):CO L P G (.region id l.toArray draw) ⟨T,H⟩ Q:=
 oW T' H' hm (cuW hD n q h) hQ
end
end Go.Av
namespace Go.Av
def bR {α β:Type} {x:Option α} {f:α->Option β} {r:β} {P:Prop} (k:∀ a,x=some a->f a=some r->P) (h:Option.bind x f=some r):P:=
 match bind_some h with
 | ⟨a,h1,h2⟩=>k a h1 h2
def cR {β:Type} {c:Bool} {x y:Option β} {r:β} {P:Prop} (k:c=true->x=some r->P) (k':c=false->y=some r->P) (h:(bif c then x else y)=some r):P:=
 match Ny h with
 | .inl ⟨h1,h2⟩=>k h1 h2
 | .inr ⟨h1,h2⟩=>k' h1 h2
section
variable {P:Program} {G:Nat->Option (List V)}
theorem Reader.u8 {t:TypeId} (ht:P.underlying t=some (.int .u8)):Reader P t aot (fun _=>True):=by
 intro H e w fuel cs x h;obtain ⟨n,hn,hr⟩:=Reader.int ht e w fuel cs x h;have h1:0<=n/\n<=255:=by simpa [Lit.wf,IntKind.min,IntKind.max,IntKind.signed,IntKind.bits] using hn
 have h2:((UInt8.ofNat n.toNat).toNat:Int)=n:=by
  rw [UInt8.toNat_ofNat'];omega
 refine ⟨UInt8.ofNat n.toNat,trivial,fun S hS=>?_⟩;have:=hr S hS;unfold aot;rw [h2];exact this
def Zc {α:Type}:List α->Option Bool
 | []=>none
 | _::_=>some false
theorem aGd {D:Tab} (hD:dX P D) {o:Oper} {e:Operand->V} {H:Hp} {t t' el:TypeId} {it:Ty} {x y:Operand} {j:Nat} {nn:Bool} {ety:Tg} {k:Nat} {rows:List (List V)} (ho:o.op=.binOp .eql t x y t') (ht:D.at t=some it) (hit:it.d=.slice el) (hy:e y=.c (.slice none 0 0))
  (hx:e x=.own j) (hl:look H j=some (.vec nn ety k rows)) (hr:rows≠[]):gH P G o e H (.c<|.bool false) H []:=by
 refine Ct fun ρ S F η w bV hH=>?_;have h1:=bV x (by simp [ho,Op.operands]);have h2:=bV y (by simp [ho,Op.operands]);rw [hy] at h2;rw [hx] at h1;have hu:=IB hD ht hit;obtain ⟨r,hr',cB⟩:=hH.obj j _ hl;have hxr:=h1.FE r hr';refine ⟨_,?_,.c _⟩;unfold execOp;generalize F j=Fj at cB;cases cB with
 | mU=>exact absurd rfl hr
 | vec g cap arr _ _ _ _ cs Fs hh hcap=>
  simp only [ho,hxr,h2.iK,gq,eqGuard_at_slice,gJ,ahi hu,jT,Option.isNone_some]
def nlO (D:Tab) (G:Nat->Option (List V)) (ops:Array Oper) (i:Nat) (T:List V) (H:Hp):Option (Nat×List (List V)):=
 match oH ops i T with
 | some (.binOp .eql t x y _)=>match D.at t,ev G T y,ev G T x with
  | some it,.c<|.slice none 0 0,.own j=>match it.d,look H j with
   | .slice _,some (.vec _ _ _ rows)=>some (j,rows)
   | _,_=>none
  | _,_,_=>none
 | _=>none
theorem aCJ {D:Tab} (hD:dX P D) {ops:Array Oper} {draw:Bool} {T0:List V} {H0:Hp} {i:Nat} {T:List V} {H:Hp} {Es:List (Bool×Eff)} {Q:St->Prop} {α:Type} (enc:α->List V) {l:List α} {b:Bool} (hx:Zc l=some b) (j:Nat) (h:nlO D G ops i T H=some (j,l.map enc))
  (k:W P G ops draw T0 H0 (i+1) (fQ T (ku ops i)<|.c<|.bool false) H (Es++[(true,{v:=.c (.bool false),R:=[j]})]) Q):W P G ops draw T0 H0 i T H Es Q:=by
 have hne:l.map enc≠[]:=by
  cases l with
  | nil=>cases hx
  | cons=>simp
 unfold nlO at h;split at h
 .rename_i t x y t' hop;split at h
  .rename_i it j' ht hy hxv;split at h
   .rename_i el nn ety kk rows hit hl;simp only [iI,nC] at h;obtain ⟨rfl,rfl⟩:=h;refine Cv (.c<|.bool false) [j'] hop (fun o ho e' H' he oG=>?_) k;exact aGd hD ho ht hit ((he y gG).trans hy) ((he x gG).trans hxv) (by rw [oG j' aF];exact hl) hne
   .cases h
  .cases h
 .cases h
theorem anw {L:Option Nat} {ι:Type} (J:ι->St) (R:Nat->ι->Prop) {c:Code} {st:St} {Q:Exit->St->Prop} {n0:Nat} {i0:ι} (h0:Weak st (J i0)) (hR:R n0 i0) (hz:∀ i,¬R 0 i)
  (round:∀ n i,R (n+1) i->(∀ j,R n j->∀ st',Weak st' (J j)->Yj L P G c Q n .normal st')->CO L P G c (J i) (Yj L P G c Q n)):LoopN L P G c Q n0 st:=by
 have key:∀ n i,R n i->LoopN L P G c Q n (J i):=by
  intro n;induction n with
  | zero=>intro i hi;exact (hz i hi).elim
  | succ n ih=>intro i hi;exact aaM (round n i hi fun j hj _ hw=>Sm hw<|ih j hj)
 exact Sm h0 (key n0 i0 hR)
end
end Go.Av
namespace Go.Av
section
variable {P:Program} {G:Nat->Option (List V)} {L:Option Nat}
theorem bB {α β:Type} {x:Option α} {f:α->Option β} {r:β} {P:Prop} (h:Option.bind x f=some r) (k:∀ a,x=some a->f a=some r->P):P:=bR k h
theorem wS (m:Ren) (ks:List Nat) {T:List V} {H:Hp} {T':List V} {H':Hp} (hm:(m.ok&&m.keep&&Ec m)=true:=by kernel_rfl) (hT:zT m ks 0 T=T':=by kernel_rfl) (hH:sU m H m=some H':=by kernel_rfl):Weak ⟨T,H⟩ ⟨T',H'⟩:=abB m ks hm hT hH
theorem oT {st:St} {t:Tmp} {r:V} (ht:st.T[t]?=some r:=by kernel_rfl):bN P st (.tmp t) r:=abh ht
theorem eG {fn:Func} {r0:V} {T:List V} {H:Hp} {e:Exit} (m:Ren) (he:e=.normal\/e=.ret) (h:aZ P fn ⟨T,H⟩ r0) {r':V} {H':Hp} (hm:(m.ok&&m.keep&&Ec m)=true:=by kernel_rfl) (hr:r0.rn m=r':=by kernel_rfl) (hH:sU m H m=some H':=by kernel_rfl):Ends P fn r' H' e ⟨T,H⟩:=apd m he h hm hr hH
theorem fI {ops:Array Oper} {draw:Bool} {T0:List V} {H0:Hp} {i:Nat} {T:List V} {H:Hp} {Es:List (Bool×Eff)} {T':List V} {H':Hp}
  (h:(Nat.ble ops.size i&&(DZ draw ops T0 H0 Es&&mOk H'),zT (Cw H') (Yl T' 0) 0 T,sU (Cw H') H<|Cw H')=(true,T',some H'):=by kernel_rfl):W P G ops draw T0 H0 i T H Es fun st=>Weak st ⟨T',H'⟩:=apB h
theorem fS (m:Ren) (ks:List Nat) {ops:Array Oper} {draw:Bool} {T0:List V} {H0:Hp} {i:Nat} {T:List V} {H:Hp} {Es:List (Bool×Eff)} {T':List V} {H':Hp}
  (h:(Nat.ble ops.size i&&(DZ draw ops T0 H0 Es&&(m.ok&&m.keep&&Ec m)),zT m ks 0 T,sU m H m)=(true,T',some H'):=by kernel_rfl):W P G ops draw T0 H0 i T H Es fun st=>Weak st ⟨T',H'⟩:=aGc m ks h
theorem sI {α:Type} {a b:α} (h:some a=some b):a=b:=iV h
end
end Go.Av
namespace Go.Av
def OwnAt (te:TypeId) (K:Nat) (w:World) (s:Value) (n:Nat) (olds:List Value):Prop:=
 (s=.slice none 0 0/\n=0/\olds=[])\/∃ g c cur,s=.slice (some ⟨g,0,none⟩) n c/\w.heap[g]?=some (.cells cur te (0,0))/\n<=c/\c<=maxLen/\cur.size=c*K/\olds=cur.toList.take (n*K)
def jf.at {ρ:Nat->Option Value} {S:Nat->Prop} {w:World} {r:Value} {nn:Bool} {te:TypeId} {K:Nat} {rows:List (List V)} {F:List Nat} (h:jf ρ S w r (.vec nn te K rows) F) (hnd:F.Nodup):
  ∃ (olds:List Value) (cs:Nat->Nat->Value) (Fs:Nat->Nat->List Nat),OwnAt te K w r rows.length olds/\olds.length=rows.length*K/\(∀ (i:Nat) (x:List V),rows[i]?=some x->x.length=K)/\
   (∀ (i j:Nat) (x:List V) (y:V),rows[i]?=some x->x[j]?=some y->olds[i*K+j]?=some (cs i j)/\RD S w (cs i j) y (Fs i j))/\
   (∀ v,v∈olds->v.oneCell'=true)/\(flat rows.length K Fs).Nodup/\(∀ b,b∈flat rows.length K Fs->b∈F/\r.ownBlock≠some b)/\(∀ g,r.ownBlock=some g->g∈F):=by
 cases h with
 | mU=>
  exact ⟨[],fun _ _=>undef,fun _ _=>[],.inl ⟨rfl,rfl,rfl⟩,aF,fun i x h=>by simp at h,fun i j x y h=>by simp at h,fun v h=>(by cases h),by simp [flat],fun b h=>(by simp [flat] at h),fun g h=>by simp [Value.ownBlock] at h⟩
 | vec g cap arr _ _ _ _ cs Fs hh hcap hmax hsz hk hc hr qA=>
  have htt:=qA.2;cases qA.1;have hl:(arr.toList.take<|rows.length*K).length=rows.length*K:=by
   rw [EY];exact Nat.min_eq_left (Io (Fy K hcap)<|Nat.le_of_eq hsz.symm)
  have hget:∀ (i j:Nat) (x:List V) (y:V),rows[i]?=some x->x[j]?=some y->(arr.toList.take<|rows.length*K)[i*K+j]?=some (cs i j):=fun i j x y h1 h2=>by
   have hi:i < rows.length:=(dV.1 h1).1;have hj:j < K:=by have:=(dV.1 h2).1;rw [hk i x h1] at this;exact this
   rw [zw,bU<|XW hi hj];simpa using hc i j x y h1 h2
  refine ⟨arr.toList.take<|rows.length*K,cs,Fs,.inr ⟨g,cap,arr,rfl,hh,hcap,hmax,hsz,rfl⟩,hl,hk,fun i j x y h1 h2=>⟨hget i j x y h1 h2,hr i j x y h1 h2⟩,fun v hv=>?_,(rG.1 hnd).2,fun b hb=>⟨yJ _ hb,fun h=>?_⟩,fun g' h=>?_⟩
  .obtain ⟨p,hp⟩:=Kh hv;have hlt:p < rows.length*K:=by rw [<- hl];exact (dV.1 hp).1
   have hk0:0 < K:=by
    rcases ado K with h0|h0
    .rw [h0,anR] at hlt;omega
    .exact h0
   have hi:p / K < rows.length:=anP (by rwa [XK]);have hj:p % K < K:=aaV _ hk0;have h1:rows[p / K]?=some rows[p / K]:=fZ hi;have hj':p % K < rows[p / K].length:=by rw [hk _ _ h1];exact hj
   have h2:rows[p / K][p % K]?=some rows[p / K][p % K]:=fZ hj';have h3:=hget _ _ _ _ h1 h2;rw [show p / K*K+p % K=p by rw [XK];exact anO p K,hp] at h3;cases h3;exact (hr _ _ _ _ h1 h2).one
  .simp only [Value.ownBlock,iI] at h;subst h;exact (rG.1 hnd).1 hb
  .simp only [Value.ownBlock,iI] at h;subst h;simp
section
variable {P:Program} {G:Nat->Option (List V)}
end
end Go.Av
namespace Go.Av
section
variable {P:Program} {G:Nat->Option (List V)}
end
end Go.Av
namespace Go.Av
section
variable {P:Program} {G:Nat->Option (List V)} {L:Option Nat}
def PN (D:Tab) (G:Nat->Option (List V)) (ops:Array Oper) (draw:Bool) (q:Nat) (T:List V) (H:Hp):Bool:=
 match Bh D G ops ops.size q 0 T H with
 | some r=>DZ draw ops T H r.Es
 | none=>false
theorem lzW {D:Tab} (hD:dX P D) {q:Nat} {ops:Array Oper} {draw:Bool} {T:List V} {H:Hp} {Q:St->Prop} (h:PN D G ops draw q T H=true) (k:Q ⟨(nU D G ops ops.size q 0 T H).T,(nU D G ops ops.size q 0 T H).H⟩):W P G ops draw T H 0 T H [] Q:=by
 unfold PN at h;unfold nU at k;split at h
 .rename_i r hr;rw [hr] at k;exact SS hD _ hr (Ol ah h k)
 .cases h
theorem cv {D:Tab} (hD:dX P D) (hm:P.follows .mixedOrders=true) (q:Nat) {id:Nat} {l:List Oper} {draw:Bool} {c:Code} {T:List V} {H:Hp} {Q:Exit->St->Prop}
  (k:CO L P G c ⟨(nU D G l.toArray l.toArray.size q 0 T H).T,(nU D G l.toArray l.toArray.size q 0 T H).H⟩ Q) (h:PN D G l.toArray draw q T H=true):CO L P G (.seq (.region id l.toArray draw) c) ⟨T,H⟩ Q:=
 aN hm (lzW hD h k)
def PO (m:Ren) (ks:List Nat) (b:Bool) (T:List V) (H:Hp):Bool×List V×Option Hp:=(b&&(m.ok&&m.keep&&Ec m),zT m ks 0 T,sU m H m)
theorem jnW {m:Ren} {ks:List Nat} {b:Bool} {T:List V} {H:Hp} {s:St} (h:PO m ks b T H=(true,s.T,some s.H)):b=true/\Weak ⟨T,H⟩ s:=by
 unfold PO at h;simp only [nC] at h;obtain ⟨h1,h2,h3⟩:=h;rw [dA] at h1;exact ⟨h1.1,abB m ks h1.2 h2 h3⟩
theorem ck {D:Tab} (hD:dX P D) (hm:P.follows .mixedOrders=true) (q:Nat) {ι:Type} {J:ι->St} {R:ι->Prop} {id:Nat} {l:List Oper} {draw:Bool} {T:List V} {H:Hp} {Q:Exit->St->Prop} (hk:∀ i,R i->∀ st,Weak st (J i)->Q .normal st) (i:ι) (hi:R i) (m:Ren) (ks:List Nat)
  (h:PO m ks (PN D G l.toArray draw q T H) (nU D G l.toArray l.toArray.size q 0 T H).T (nU D G l.toArray l.toArray.size q 0 T H).H=(true,(J i).T,some (J i).H)):CO L P G (.region id l.toArray draw) ⟨T,H⟩ Q:=by
 obtain ⟨h1,h2⟩:=jnW h;exact lZ hm (lzW hD h1<|hk i hi _ h2)
theorem sK {ι:Type} {J:ι->St} {R:ι->Prop} {T:List V} {H:Hp} {Q:Exit->St->Prop} (hk:∀ i,R i->∀ st,Weak st (J i)->Q .normal st) (i:ι) (hi:R i) (m:Ren) (ks:List Nat)
  (h:PO m ks true T H=(true,(J i).T,some (J i).H):=by kernel_rfl):CO L P G .skip ⟨T,H⟩ Q:=
 aR (hk i hi _ (jnW h).2)
theorem wF {ops:Array Oper} {draw:Bool} {T0:List V} {H0:Hp} {i:Nat} {T:List V} {H:Hp} {Es:List (Bool×Eff)} {Q:St->Prop} (k:Q ⟨T,H⟩) (h:(Nat.ble ops.size i&&DZ draw ops T0 H0 Es)=true:=by kernel_rfl):W P G ops draw T0 H0 i T H Es Q:=by
 simp only [dA,zQ] at h;exact Ol h.1 h.2 k
theorem wK {ops:Array Oper} {draw:Bool} {T0:List V} {H0:Hp} {i:Nat} {T:List V} {H:Hp} {Es:List (Bool×Eff)} {ι:Type} {J:ι->St} {R:ι->Prop} {Q:St->Prop} (hk:∀ i,R i->∀ st,Weak st (J i)->Q st) (x:ι) (hi:R x) (m:Ren) (ks:List Nat)
  (h:PO m ks (Nat.ble ops.size i&&DZ draw ops T0 H0 Es) T H=(true,(J x).T,some (J x).H):=by kernel_rfl):W P G ops draw T0 H0 i T H Es Q:=by
 obtain ⟨h1,h2⟩:=jnW h;exact wF (hk x hi _ h2) h1
theorem cI {β:Type} {b:Bool} {X Y:Option β} {r:β} {x:Operand} {c1 c2:Code} {T:List V} {H:Hp} {Q:Exit->St->Prop} (h:(bif b then X else Y)=some r)
  (k:b=true->X=some r->CO L P G c1 ⟨T,H⟩ Q) (k':b=false->Y=some r->CO L P G c2 ⟨T,H⟩ Q) (hb:ev G T x=.c (.bool b):=by kernel_rfl):CO L P G (.cond x c1 c2) ⟨T,H⟩ Q:=
 cR (fun hc h=>Xv hc (hc ▸ hb)<|k hc h) (fun hc h=>anv hc (hc ▸ hb)<|k' hc h) h
theorem wJ {β:Type} {b:Bool} {X Y:Option β} {r:β} {ops:Array Oper} {draw:Bool} {T0:List V} {H0:Hp} {i:Nat} {T:List V} {H:Hp} {Es:List (Bool×Eff)} {Q:St->Prop} (d:Nat) (h:(bif b then X else Y)=some r)
  (k:X=some r->W P G ops draw T0 H0 i (T.set d<|.c<|.bool true) H Es Q) (k':Y=some r->W P G ops draw T0 H0 i (T.set d<|.c<|.bool false) H Es Q) (hd:T[d]?=some (.c<|.bool b):=by kernel_rfl):W P G ops draw T0 H0 i T H Es Q:=
 cR (fun hc h=>W.is d hc hd<|k h) (fun hc h=>W.is d hc hd<|k' h) h
def Yp (D:Tab) (G:Nat->Option (List V)) (ops:Array Oper) (draw:Bool) (n q:Nat) (rc:V) (T:List V) (H:Hp):Bool×Option (FuncId×List V×Hp)×V:=
 let r1:=nU D G ops n q 0 T H
 let T1:=fQ r1.T (ku ops n) rc
 ((Bh D G ops n q 0 T H).isSome&&match Bh D G ops (ops.size - (n+1)) q (n+1) T1 r1.H with
  | some r=>DZ draw ops T H (r1.Es++[(true,{v:=rc})]++r.Es)
  | none=>false,IU G ops [] [] n r1.T r1.H,rc.rn [])
def LK (D:Tab) (G:Nat->Option (List V)) (ops:Array Oper) (n q:Nat) (rc:V) (T:List V) (H:Hp):Run:=
 nU D G ops (ops.size - (n+1)) q (n+1) (fQ (nU D G ops n q 0 T H).T (ku ops n) rc) (nU D G ops n q 0 T H).H
theorem ccW {D:Tab} (hD:dX P D) (n q:Nat) {ops:Array Oper} {draw:Bool} {T:List V} {H:Hp} {Q:St->Prop} {fid:FuncId} {vs:List V} {rc:V} (hA:AC P G fid vs [] rc []) (hcf:vo P fid)
  (h:Yp D G ops draw n q rc T H=(true,some (fid,vs,[]),rc)) (k:Q ⟨(LK D G ops n q rc T H).T,(LK D G ops n q rc T H).H⟩):W P G ops draw T H 0 T H [] Q:=by
 unfold Yp at h;simp only [nC,dA] at h;obtain ⟨⟨h1,h2⟩,h3,h4⟩:=h;refine W.run hD n q h1 (W.jU hA hcf h4 ?_ ?_)
 .rw [wm];exact h3
 .rw [wm];unfold LK at k;unfold nU at k;unfold nU at h2 ⊢;split at h2
  .rename_i r hr;rw [hr] at k;exact SS hD _ hr (Ol ah (by simpa using h2) k)
  .cases h2
theorem cc {D:Tab} (hD:dX P D) (hm:P.follows .mixedOrders=true) (n q:Nat) {id:Nat} {l:List Oper} {draw:Bool} {c:Code} {T:List V} {H:Hp} {Q:Exit->St->Prop} {fid:FuncId} {vs:List V} {rc:V} (hA:AC P G fid vs [] rc []) (hcf:vo P fid)
  (k:CO L P G c ⟨(LK D G l.toArray n q rc T H).T,(LK D G l.toArray n q rc T H).H⟩ Q) (h:Yp D G l.toArray draw n q rc T H=(true,some (fid,vs,[]),rc)):CO L P G (.seq (.region id l.toArray draw) c) ⟨T,H⟩ Q:=
 aN hm (ccW hD n q hA hcf h k)
theorem e1 (t:Tmp) {fn:Func} {T:List V} {H:Hp} {r:V} {Q:Exit->St->Prop} (hQ:Ends P fn r [] .ret ⟨T,H⟩->Q .ret ⟨T,H⟩) (hf:fn.results=#[.tmp t]:=by rfl) (h:(T[t]?,r.rn [])=(some r,r):=by kernel_rfl):CO L P G .ret ⟨T,H⟩ Q:=by
 simp only [nC] at h;exact bE (hQ<|apd [] (.inr rfl) (aZ.one hf<|abh h.1) rfl h.2 rfl)
end
end Go.Av
namespace Go.Av
end Go.Av
namespace Go.Av
end Go.Av
namespace Go.Av
end Go.Av
namespace Go.Av
end Go.Av
namespace Go.Av
open Go.RowKit
def aGg (P:Program) (f:FuncId):Prop:=
 (∀ (bk c:Nat) (xs:List ByteArray) (sep:ByteArray) (w:World),(∀ (j:Nat) x,xs[j]?=some x->w.cell? ⟨bk,0+j,none⟩=some (.string x))->bk < w.heap.size->xs.length<=140737488355328->xs.length<=c->
  (Lib.join (xs.map (·.data.toList)) sep.data.toList).length<=140737488355328->
  Calls P f #[.slice (some ⟨bk,0,none⟩) xs.length c,.string sep] w fun e w'=>e=.returned (.string ⟨(Lib.join (xs.map (·.data.toList)) sep.data.toList).toArray⟩)/\Below w.heap.size w w')/\
 ∀ (sep:ByteArray) (w:World),Calls P f #[.slice none 0 0,.string sep] w fun e w'=>e=.returned (.string ⟨#[]⟩)/\w'=w
def aHH {P:Program} {G:Nat->Option (List V)} {f:FuncId} {te:TypeId} (h:aGg P f) (nn:Bool) (l:List (List UInt8)) (sep:List UInt8) (hlen:l.length<=1048576) (hj:(Lib.join l sep).length<=140737488355328):
  AC P G f [.own 0,V.s sep] [(0,.vec nn te 1<|l.map kK)] (V.s<|Lib.join l sep) [(0,.vec nn te 1<|l.map kK)]:=by
 intro ρ S F xs w hsz hxs hH hG;have l0:look [(0,Ob.vec nn te 1<|l.map kK)] 0=some (.vec nn te 1<|l.map kK):=rfl;obtain ⟨r0,hr0,ob0⟩:=hH.obj 0 _ l0;have hnd:=hH.nodup 0 _ l0;have x0:xs.getD 0 undef=r0:=by
  have h:RV ρ S w (xs.getD 0 undef) (.own 0):=hxs 0 _ rfl;exact h.FE _ hr0
 have x1:xs.getD 1 undef=.string ⟨⟨sep⟩⟩:=(hxs 1 _ rfl).iK;have hx:xs=#[r0,.string ⟨⟨sep⟩⟩]:=by
  have h3:xs.size=2:=hsz;apply Array.ext
  .exact h3
  .intro j h1 h2;have:j=0\/j=1:=ah;rcases this with rfl|rfl
   .simpa [Array.getD,h1] using x0
   .simpa [Array.getD,h1] using x1
 subst hx;have fin:∀ w',Below w.heap.size w w'->∃ x ρ' S' F',Ending.returned (.string ⟨⟨Lib.join l sep⟩⟩)=.returned x/\RV ρ' S' w' x (V.s<|Lib.join l sep)/\eu ρ' S' F' [(0,Ob.vec nn te 1<|l.map kK)] w'/\iT S (Ub [(0,Ob.vec nn te 1<|l.map kK)] F) w S' (Ub [(0,Ob.vec nn te 1<|l.map kK)] F') w'/\mo ρ ρ':=fun w' hb=>by
  have hP:=aoR hH [0] (i:=0) hr0 (Fi:=F 0) hb.os hb.tape hb.output hb.size (fun b hb' _=>hb.block b hb') (fun ρ'=>ob0.mono (fun _ _ _ h=>by cases h) (fun b hb'=>⟨hb',hb.block b<|hH.slt b hb'⟩) fun b hb'=>hb.block b<|hH.lt 0 _ b l0 hb') hnd (fun b hb'=>.inl ⟨0,_,aF,l0,hb'⟩) (x:=.string ⟨⟨Lib.join l sep⟩⟩) (v:=V.s (Lib.join l sep)) (.c _);obtain ⟨ρ',S',F',h1,h2,h3,h4⟩:=hP;exact ⟨_,ρ',S',F',rfl,h1,h2,h3,fun j r hj hr=>h4 j r hr aF⟩
 have hcase:(r0=.slice none 0 0/\l=[])\/∃ (g cap:Nat) (arr:Array Value),r0=.slice (some ⟨g,0,none⟩) l.length cap/\w.heap[g]?=some (.cells arr te (0,0))/\l.length<=cap/\
   (∀ (i:Nat) (x:List UInt8),l[i]?=some x->arr[i]?=some (Go.Proofs.encStr x)):=by
  generalize F 0=Fi at ob0;generalize hrows:l.map kK=rows at ob0;cases ob0 with
  | mU=>exact .inl ⟨rfl,List.map_eq_nil_iff.1 hrows⟩
  | vec g cap arr _ _ _ _ cc Fs hh hcap hmax Yi hk hc hr qA=>
   have htt:=qA.2;cases qA.1;have hlen:rows.length=l.length:=by rw [<- hrows];simp
   refine .inr ⟨g,cap,arr,by rw [hlen],hh,ah,fun i x hx=>?_⟩;have h1:rows[i]?=some (kK x):=by rw [<- hrows,gy,hx];rfl
   have h2:=hc i 0 _ (V.s x) h1 rfl;have h3:=hr i 0 _ (V.s x) h1 rfl;rw [aaY,EP] at h2;unfold V.s at h3;generalize cc i 0=v at h2 h3;generalize Fs i 0=fs at h3;cases h3;exact h2
 rcases hcase with ⟨rfl,rfl⟩|⟨g,cap,arr,rfl,hh,hcap,hval⟩
 .refine Calls.mono (h.2 ⟨⟨sep⟩⟩ w) fun e w' hq=>?_;obtain ⟨rfl,rfl⟩:=hq;exact fin w' (Below.refl _ _)
 .have hg:g < w.heap.size:=(qh.1 hh).1;have hm:((l.map fun b=>(⟨⟨b⟩⟩:ByteArray)).map (·.data.toList))=l:=by
   rw [IV];exact (yP fun _ _=>rfl).trans (akF l)
  have:=h.1 g cap (l.map fun b=>(⟨⟨b⟩⟩:ByteArray)) ⟨⟨sep⟩⟩ w (fun j x hx=>by
   rw [gy] at hx;obtain ⟨b,hb,rfl⟩:=eY.1 hx;unfold World.cell?;simp only [hh];simpa using hval j b hb) hg bZ (by simpa using hcap) (by rw [hm];exact hj)
  rw [hm,Fg] at this;refine Calls.mono this fun e w' hq=>?_;obtain ⟨rfl,hb⟩:=hq;exact fin w' hb
end Go.Av
namespace Go.Av
variable {P:Program}
end Go.Av
