/-
 Abstract values, states, walks, part 5.
-/
import Derived.Test.YtaobbpcbeopddaaGreatDoorGCore4
import Derived.OpenShut
import Derived.OpenVars
import Derived.ChangeArms
import Derived.Below
import Derived.Sort.OwnSortedInts
import Derived.Lib.LaidTab
import Derived.Lib.ItoaNum
import Derived.Deep.Draws
import Derived.Sort.OwnSorted
import Derived.Lib.RowBridge
import Derived.Lib.SlicesCompact
import Derived.Lib.Join
set_option linter.all false
namespace Go.Av
section
variable {P:Program} {G:Nat->Option (List V)} {L:Option Nat} {B:Nat}
theorem pU.imp {ops:Array Oper}:∀ {l:List Oper} {st:St} {K K':St->Prop},pU P G ops l st K->(∀ st,K st->K' st)->pU P G ops l st K'
 | [],_,_,_,h,hk=>hk _ h
 | o::l,st,K,K',h,hk=>by
  unfold pU at h ⊢;cases hg:o.guard with
  | none=>
   rw [hg] at h;obtain ⟨v,H',N,h1,h2,h3⟩:=h;exact ⟨v,H',N,h1,h2,pU.imp h3 hk⟩
  | some jb=>
   obtain ⟨j,b⟩:=jb;rw [hg] at h;obtain ⟨b',hb,h⟩:=h;refine ⟨b',hb,h.imp ?_ ?_⟩
   .rintro ⟨he,v,H',N,h1,h2,h3⟩;exact ⟨he,v,H',N,h1,h2,pU.imp h3 hk⟩
   .rintro ⟨he,h3⟩;exact ⟨he,pU.imp h3 hk⟩
theorem FQ {α:Type} {l:List α} {m p:Nat} {y r:α} (h:(l.set m y)[p]?=some r):(p=m/\r=y)\/(p≠m/\l[p]?=some r):=by
 rw [FH] at h;split at h
 .split at h
  .cases h;exact .inl ⟨(by subst_vars;rfl),rfl⟩
  .cases h
 .exact .inr ⟨fun e=>(by subst_vars;contradiction),h⟩
theorem FR {n k:Nat} {Fs:Nat->Nat->List Nat} {i j b:Nat} (hi:i < n) (hj:j < k) (hb:b∈Fs i j):b∈flat n k Fs:=qy.2 ⟨i,j,hi,hj,hb⟩
end
end Go.Av
namespace Go.Av
def wrap64 {n:Int} (h1: -9223372036854775808<=n) (h2:n<=9223372036854775807):IntKind.wrap .i64 n=n:=by
 rw [adV];omega
def bS {α:Type} {l:List α} {i:Nat} (h:i < l.length):ix l (i:Int)=some l[i]:=by
 unfold ix;rw [dA<|MF i,Ho,fQ h]
def QC {α:Type} {l:List α} {i:Nat} {x:α} (h:l[i]?=some x):ix l (i:Int)=some x:=by
 unfold ix;rw [dA<|MF i,Ho,h]
def alh {α:Type} {l:List α} {i:Nat} {x:α} (h:i < l.length):upd l (i:Int) x=some (l.set i x):=by
 unfold upd;rw [dA ⟨MF i,by simpa using h⟩,Ho]
def Nh {i n:Nat} (h:i < n) (hn:n<=maxLen):IntKind.wrap .i64 ((i:Int)+1)=((i+1:Nat):Int):=by
 simp only [maxLen] at hn;rw [wrap64 ah ah];omega
def afe {α:Type} {l:List α} {a b:Nat} (h:a<=b) (hb:b<=l.length):cut l (a:Int) (b:Int)=some ((l.drop a).take<|b - a):=by
 unfold cut;rw [dA ⟨MF a,ah,ah⟩];simp
def gL {α:Type} {n:Nat} {l l2:List α} (h:(l.length+l2.length)*n<=140737488355328):app n l l2=some (l++l2):=by
 unfold app;rw [dA h]
def gJ {i n:Nat} (h:i < n):decide ((i:Int) < (n:Int))=true:=by simp [h]
def iW {i n:Nat} (h: ¬i < n):decide ((i:Int) < (n:Int))=false:=bT
def drop_cons {α:Type} {l:List α} {i:Nat} (h:i < l.length):l.drop i=l[i]::l.drop (i+1):=zB h
def drop_nil {α:Type} {l:List α} {i:Nat} (h: ¬i < l.length):l.drop i=[]:=AJ ah
def szL {α:Type} (f:α->Int->Option Int):Nat->(List α×Int×Int)->Option Int
 | 0,_=>none
 | n+1,(a,b,i)=>bif decide (i < (a.length:Int)) then Option.bind (ix a i) fun e=>Option.bind (f e b) fun r=>bif decide (r < 0) then some (-1) else szL f n (a,r,IntKind.wrap .i64<|i+1) else some b
def Sz (f:Int->Option Int) (s:Nat):Prop:=∀ b:Int,0<=b->b<=1048576->∃ r,f b=some r/\((r < 0/\b < s)\/r=b - s/\0<=r)
def Ni {α:Type} (sz:α->Nat) (l:List α):Nat:=(l.map sz).sum
def auM {α:Type} (f:α->Int->Option Int) (sz:α->Nat) (a:List α) (hf:∀ x,x∈a->Sz (f x) (sz x)) (hl:a.length<=maxLen):∀ (n i:Nat) (b:Int),a.length - i < n->i<=a.length->0<=b->b<=1048576->
  ∃ r,szL f n (a,b,(i:Int))=some r/\((r < 0/\b < Ni sz (a.drop i))\/r=b - Ni sz (a.drop i)/\0<=r):=by
 intro n;induction n with
 | zero=>intro i b h;omega
 | succ n ih=>
  intro i b hn hi h0 h1;rw [szL];by_cases h:i < a.length
  .obtain ⟨r,hr,hc⟩:=hf _ (mQ h) b h0 h1;have hs:Ni sz (a.drop i)=sz a[i]+Ni sz (a.drop<|i+1):=by rw [drop_cons h];simp only [Ni,jV,MO]
   simp only [gJ h,aH,bS h,av,hr,Nh h hl];rcases hc with ⟨hc,hb⟩|⟨hc,hr0⟩
   .exact ⟨-1,by simp [hc],.inl ⟨ah,ah⟩⟩
   .obtain ⟨r',hr',hc'⟩:=ih (i+1) r ah ah hr0 ah;have hd:decide (r < 0)=false:=bT;refine ⟨r',by rw [hd];exact hr',?_⟩;rcases hc' with ⟨h2,h3⟩|⟨h2,h3⟩
    .exact .inl ⟨h2,ah⟩
    .exact .inr ⟨ah,h3⟩
  .simp only [iW h,aG];exact ⟨b,rfl,.inr ⟨by rw [drop_nil h];simp [Ni],h0⟩⟩
def aJH {α:Type} {f:α->Int->Option Int} {sz:α->Nat} {a:List α} (hf:∀ x,x∈a->Sz (f x) (sz x)) (hl:a.length<=maxLen) {g:Nat->Int->Option Int} {n:Nat} (hn:a.length < n)
  (hg:∀ b,g n b=bif decide (IntKind.wrap .i64 (b - (a.length:Int)) < 0) then some (-1) else szL f n (a,IntKind.wrap .i64<|b - (a.length:Int),0)):Sz (g n) (a.length+Ni sz a):=by
 intro b h0 h1;have hl':=hl;simp only [maxLen] at hl';rw [hg,wrap64 ah ah];by_cases h:b - (a.length:Int) < 0
 .exact ⟨-1,by simp [h],.inl ⟨ah,ah⟩⟩
 .obtain ⟨r,hr,hc⟩:=auM f sz a hf hl n 0 (b - a.length) ah ah ah ah;refine ⟨r,by simp only [h,Ku,aG];exact hr,?_⟩;rw [zC] at hc;rcases hc with ⟨h2,h3⟩|⟨h2,h3⟩
  .exact .inl ⟨h2,ah⟩
  .exact .inr ⟨ah,h3⟩
end Go.Av
namespace Go.Av
def auN {α:Type} {l:List α} {j:Nat} (h:j < l.length):(l.take<|j+1).reverse=l[j]::(l.take j).reverse:=by
 rw [ajy,fQ h];simp
def auO (j:Nat):decide ((j:Int)>=0)=true:=aF
def auP (j:Nat):((j+1:Nat):Int) - 1=(j:Int):=ah
def walk (out:List Int):Int->List Int->Option Int
 | a,[]=>some a
 | a,k::ks=>if a=0\/k≠a - 1 then none else match out[(a - 1).toNat]? with
  | some b=>walk out b ks
  | none=>none
def starts:List (List Int)->List Int->Option (List Int)
 | [],out=>some out
 | ks::l,out=>(walk out (out.length:Int) ks.reverse).bind fun s=>starts l (out++[s])
def Kids (out:List Int):Int->Int->List Int->Prop
 | a,b,[]=>a=b
 | a,b,k::ks=>0<=a/\a<=k/\k < b/\out[k.toNat]?=some a/\Kids out (k+1) b ks
def Low (out:List Int):Prop:=∀ (j:Nat) (s:Int),out[j]?=some s->0<=s/\s<=j
def Low.snoc {out:List Int} (h:Low out) {s:Int} (h0:0<=s) (h1:s<=out.length):Low (out++[s]):=by
 intro j x hx;rw [List.getElem?_append] at hx;split at hx
 .exact h j x hx
 .rename_i hj;have:j - out.length=0:=by
   have:=(dK.1 hx).1;simp at this;omega
  rw [this] at hx;cases hx;omega
def Kids.snoc {out:List Int}:∀ {ks:List Int} {a m:Int},Kids out a m ks->∀ {k b:Int},0<=m->m<=k->k < b->k+1=b->out[k.toNat]?=some m->Kids out a b (ks++[k])
 | [],a,m,h,k,b,h0,h1,h2,h3,h4=>by
  simp only [Kids] at h;subst h;exact ⟨h0,h1,h2,h4,h3⟩
 | k'::ks,a,m,h,k,b,h0,h1,h2,h3,h4=>by
  obtain ⟨g0,g1,g2,g3,g4⟩:=h;exact ⟨g0,g1,ah,g3,Kids.snoc g4 h0 h1 h2 h3 h4⟩
def aff {out:List Int} (hl:Low out):∀ (ks:List Int) {b a:Int},0<=b->walk out b ks=some a->0<=a/\a<=b
 | [],b,a,h0,h=>by cases h;omega
 | k::ks,b,a,h0,h=>by
  unfold walk at h;split at h
  .cases h
  .rename_i hc;split at h
   .rename_i m hm;have:=hl _ _ hm;have:=aff hl ks this.1 h;omega
   .cases h
def ali {out:List Int} (hl:Low out):∀ (r:List Int) {b a:Int},0<=b->walk out b r=some a->Kids out a b r.reverse
 | [],b,a,h0,h=>by cases h;rfl
 | k::r,b,a,h0,h=>by
  unfold walk at h;split at h
  .cases h
  .rename_i hc;split at h
   .rename_i m hm;have h1:=hl _ _ hm;have h2:k=b - 1:=by
     cases Classical.em (k=b - 1) with
     | inl h=>exact h
     | inr h=>exact absurd (.inr h) hc
    have h3:b≠0:=fun h=>hc (.inl h);rw [List.reverse_cons];have hm':out[k.toNat]?=some m:=by rw [h2];exact hm
    exact (ali hl r h1.1 h).snoc h1.1 ah ah ah hm'
   .cases h
def Kids.more {out:List Int} (alj:List Int):∀ {ks:List Int} {a b:Int},Kids out a b ks->Kids (out++alj) a b ks
 | [],_,_,h=>h
 | k::ks,a,b,⟨h0,h1,h2,h3,h4⟩=>⟨h0,h1,h2,by rw [uR (dK.1 h3).1];exact h3,h4.more alj⟩
def afg:∀ (l:List (List Int)) {out r:List Int},Low out->starts l out=some r->(∃ m,r=out++m/\m.length=l.length)/\Low r/\
  ∀ (j:Nat) (ks:List Int),l[j]?=some ks->∃ s,r[out.length+j]?=some s/\Kids r s ((out.length+j:Nat):Int) ks
 | [],out,r,hl,h=>by
  cases h;exact ⟨⟨[],aF,rfl⟩,hl,fun j ks h=>by simp at h⟩
 | ks::l,out,r,hl,h=>by
  unfold starts at h;obtain ⟨s,hs,h⟩:=dB.1 h;have h1:=aff hl _ (MF _) hs;have hl2:=hl.snoc h1.1 h1.2;obtain ⟨⟨m,hm,hml⟩,hlr,hk⟩:=afg l hl2 h;refine ⟨⟨s::m,by rw [hm];simp,by simp [hml]⟩,hlr,fun j ks' hj=>?_⟩;cases j with
  | zero=>
   simp only [Fz,iG] at hj;subst hj;refine ⟨s,by rw [hm];simp,?_⟩;have:=ali hl _ (MF _) hs;rw [List.reverse_reverse] at this;rw [hm,kC,Ht];exact this.more _
  | succ j=>
   simp only [MG] at hj;obtain ⟨s',hs',hk'⟩:=hk j ks' hj;have e:(out++[s]).length+j=out.length+(j+1):=bT;rw [e] at hs' hk';exact ⟨s',hs',hk'⟩
def Kids.lt {out:List Int}:∀ {ks:List Int} {a b:Int},Kids out a b ks->∀ k,k∈ks->a<=k/\0<=k/\k < b
 | [],_,_,_,k,hk=>by cases hk
 | k'::ks,a,b,⟨h0,h1,h2,_,h4⟩,k,hk=>by
  rcases fF.1 hk with rfl|hk
  .omega
  .have:=h4.lt k hk;omega
def Kids.le {out:List Int}:∀ {ks:List Int} {a b:Int},Kids out a b ks->a<=b
 | [],_,_,h=>by simp only [Kids] at h;omega
 | k'::ks,a,b,⟨h0,h1,h2,_,h4⟩=>by have:=h4.le;omega
end Go.Av
namespace Go.Av
open Go
variable {P:Program} {G:Nat->Option (List V)}
theorem gH.imp {o:Oper} {e:Operand->V} {H:Hp} {v v':V} (h:gH P G o e H v H []) (hv:∀ ρ S w x,RV ρ S w x v->RV ρ S w x v'):gH P G o e H v' H []:=by
 intro ρ S F η w bQ hH hG;refine (h ρ S F η w bQ hH hG).mono ?_;rintro x w' ⟨ρ',S',F',h1,h2,h3,h4⟩;exact ⟨ρ',S',F',hv _ _ _ _ h1,h2,h3,h4⟩
theorem RV.auQ {ρ:Nat->Option Value} {S:Nat->Prop} {w:World} {v:Value} {cells:List V} {x:V} (h:RV ρ S w v (.el cells)) (hx:cells[0]?=some x):RV ρ S w v (.el [x]):=by
 obtain ⟨a,cs,rfl,h1,h2⟩:=h.akb;refine .el a [x] cs (fun j y hy=>?_) (fun j y hy=>?_);all_goals
  cases j with
  | zero=>
   simp only [Fz,iG] at hy;subst hy;first
    | exact h1 0 x hx
    | exact h2 0 x hx
  | succ j=>simp at hy
theorem RV.auR {ρ:Nat->Option Value} {S:Nat->Prop} {w:World} {v:Value} {nn x:Bool} {rows:List (List V)} (h:RV ρ S w v (.sl nn x rows)):RV ρ S w v (.sl false x rows):=by
 cases h with
 | sl _ _ _ _ h=>
  refine .sl _ _ _ _ ?_;generalize hF:([]:List Nat)=F at h;cases h with
  | mF=>exact .mF _
  | shr a cap nn rows k cs h1 h2 h3 h4 h5=>exact .shr a cap _ rows k cs h1 h2 h3 h4 h5
  | exc=>cases hF
theorem AC.mono {G G':Nat->Option (List V)} {f:FuncId} {vs:List V} {H:Hp} {r:V} {H1:Hp} (h:AC P G f vs H r H1) (hs:∀ g cs,G g=some cs->G' g=some cs):AC P G' f vs H r H1:=
 fun ρ S F xs w a b c d=>h ρ S F xs w a b c fun g cs hg=>d g cs (hs g cs hg)
def VB (D:Tab) (G:Nat->Option (List V)) (ops:Array Oper) (i:Nat) (T:List V):Option (List V×Int×Nat):=
 match oD ops i T with
 | some (.indexAddr t x ix)=>match D.at t,ev G T x,ev G T ix with
  | some it,.el cs,.c (.int _ n)=>match it.d with
   | .arr len el=>match D.at el with
    | some ie=>if ie.size=1 then some (cs,n,len) else none
    | none=>none
   | _=>none
  | _,_,_=>none
 | _=>none
theorem W.VB {D:Tab} (hD:dQ P D) {ops:Array Oper} {draw:Bool} {T0:List V} {H0:Hp} {i:Nat} {T:List V} {H:Hp} {Es:List (Bool×Eff)} {Q:St->Prop} {α:Type} (enc:α->V) {l:List α} {n:Int} {x:α} (hx:ix l n=some x)
  (h:VB D G ops i T=some (l.map enc,n,l.length))
  (k:W P G ops draw T0 H0 (i+1) (fB T (jf ops i)<|.el [enc x]) H (Es++[(true,{v:=.el [enc x]})]) Q):W P G ops draw T0 H0 i T H Es Q:=by
 obtain ⟨h1,h2⟩:=Ic hx;unfold Av.VB at h;split at h
 .rename_i t xo io hop;split at h
  .rename_i it cs kk n' ht hxv hiv;split at h
   .rename_i len el hit;split at h
    .rename_i ie hel;split at h
     .rename_i hs;simp only [iG,pR] at h;obtain ⟨rfl,rfl,rfl⟩:=h;refine AY (.el [enc x]) [] hop (fun o ho e' H' he _=>?_) k;have hev:=(he xo gy).trans hxv;refine gH.imp (atP (v:=.el ((l.map enc).drop n'.toNat)) hD n'.toNat ho ht hit hel ?_ ((he io gy).trans hiv) h1 (dK.1 h2).1) fun ρ S w y hy=>hy.auQ ?_
      .rw [hev,hs,adY];rfl
      .rw [Eb,Ht,gD,h2];rfl
     .cases h
    .cases h
   .cases h
  .cases h
 .cases h
def VD (D:Tab) (G:Nat->Option (List V)) (ops:Array Oper) (i:Nat) (T:List V):Option (List V):=
 match oD ops i T with
 | some (.slice t x none none none)=>match D.at t,ev G T x with
  | some it,.el cs=>match it.d with
   | .arr len el=>match D.at el with
    | some ie=>if ie.size=1/\cs.length=len/\len<=maxLen then some cs else none
    | none=>none
   | _=>none
  | _,_=>none
 | _=>none
theorem W.VD {D:Tab} (hD:dQ P D) {ops:Array Oper} {draw:Bool} {T0:List V} {H0:Hp} {i:Nat} {T:List V} {H:Hp} {Es:List (Bool×Eff)} {Q:St->Prop} {α:Type} (enc:α->V) (l:List α)
  (h:VD D G ops i T=some (l.map enc))
  (k:W P G ops draw T0 H0 (i+1) (fB T (jf ops i)<|.sl false false<|l.map fun x=>[enc x]) H (Es++[(true,{v:=.sl false false (l.map fun x=>[enc x])})]) Q):W P G ops draw T0 H0 i T H Es Q:=by
 unfold Av.VD at h;split at h
 .rename_i t xo hop;split at h
  .rename_i it cs ht hxv;split at h
   .rename_i len el hit;split at h
    .rename_i ie hel;split at h
     .rename_i hs;simp only [iG] at h;subst h;refine AY (.sl false false _) [] hop (fun o ho e' H' he _=>?_) k;have hev:=(he xo gy).trans hxv;have:=atT (G:=G) (P:=P) (H:=H') hD ho ht hit hel hs.1 hev hs.2.1 hs.2.2;rw [nW] at this;exact gH.imp this fun ρ S w y hy=>hy.auR
     .cases h
    .cases h
   .cases h
  .cases h
 .cases h
theorem auS {f:FuncId} {x:Bool} {rows:List (List V)} {vs:List V} {H:Hp} {r:V} {H1:Hp} (h0:rows=[]->AC P G f (.c (.slice none 0 0)::vs) H r H1) (h1:AC P G f (.sl true x rows::vs) H r H1):AC P G f (.sl false x rows::vs) H r H1:=by
 intro ρ S F xs w hsz hxs hH hG;have alk:=hxs 0 _ rfl;generalize hv:xs.getD 0 undef=v at alk;cases alk with
 | sl _ _ _ _ h=>
  generalize hF:([]:List Nat)=F0 at h;cases h with
  | mF=>
   refine h0 rfl ρ S F xs w (by simpa using hsz) (fun i y hy=>?_) hH hG;cases i with
   | zero=>
    simp only [Fz,iG] at hy;subst hy;rw [hv];exact .c _
   | succ i=>exact hxs (i+1) y (by simpa using hy)
  | shr a cap nn rows k cs h3 h4 h5 h6 h7=>
   refine h1 ρ S F xs w (by simpa using hsz) (fun i y hy=>?_) hH hG;cases i with
   | zero=>
    simp only [Fz,iG] at hy;subst hy;rw [hv];exact .sl _ _ _ _ (.shr a cap true rows k cs h3 h4 h5 h6 h7)
   | succ i=>exact hxs (i+1) y (by simpa using hy)
  | exc=>cases hF
end Go.Av
namespace Go.Av
open Go.RowKit Go.WideShapes Go.ChangeShapes
variable {P:Program} {G:Nat->Option (List V)}
theorem asG {f:FuncId} {vs:List V} {r:V} (h:AC P G f vs [] r []) (S:Nat->Prop) {xs:Array Value} {w:World} (hS:∀ b,S b->b < w.heap.size) (hG:Hf G S w) (hsz:xs.size=vs.length)
  (hxs:∀ i x,vs[i]?=some x->RV (fun _=>none) S w (xs.getD i undef) x):
  Calls P f xs w fun e w'=>∃ x S',e=.returned x/\RV (fun _=>none) S' w' x r/\Below w.heap.size w w':=by
 refine (h (fun _=>none) S (fun _=>[]) xs w hsz hxs ⟨fun _ _=>rfl,fun _ _ h=>(by cases h),fun _ _ h=>(by cases h),fun _ _ _ _ _ h=>(by cases h),fun _ _ _ h=>(by cases h),fun _ _ _ h=>(by cases h),hS⟩ hG).mono ?_;rintro e w' ⟨x,ρ',S',F',rfl,hx,_,hE,_⟩;refine ⟨x,S',rfl,hx.mono (fun _ _ h _=>(by cases h)) fun b hb=>⟨hb,rfl⟩,hE.os,hE.tape,hE.output,hE.size,fun k hk=>hE.keep k hk ?_⟩;rintro ⟨i,o,hi,_⟩;cases hi
def strCells (l:List (List UInt8)):Array Value:=(l.map fun s=>Value.string ⟨⟨s⟩⟩).toArray
theorem adF {H:Type} {enc:TypeId×Value->H} {w:World} {base:Nat} {sp:Nat->Bool} {held:Bool} {fuel:Nat} {t el:TypeId} {n:Nat} {cs:Array Value} {l:List (List UInt8)} {p:List MemPlace}
  (h:DataW.trod enc P w base sp held fuel t cs.toList=some (.agg<|l.map fun s=>.lit<|.string s,p)) (ht:P.underlying t=some (.array n el)) (hel:P.underlying el=some .string) (h1:P.cellsOf el=1) (hn:P.cellsOf t=n):cs=strCells l:=by
 obtain ⟨xs,m,_,ex,hlen,hl,he⟩:=DataW.trod_array ht h;rw [hn] at hlen;simp only [pR,DataW.agg.injEq] at ex;obtain ⟨e1,_⟩:=ex;have hll:l.length=n:=by
  have:=congrArg List.length e1;simp only [mE] at this;omega
 unfold strCells;have hcs:cs.size=n:=by simpa using hlen
 apply Array.ext
 .simp [hcs,hll]
 .intro i hi _;have hin:i < n:=ah;have hx:=he i hin;rw [h1,adY] at hx;have hdrop:(cs.toList.drop i).take 1=[cs[i]]:=by
   rw [zB<|by simpa using hi];simp
  rw [hdrop] at hx;have hxs:xs[i]?=some xs[i]:=fQ ah;rw [hxs] at hx;obtain ⟨s,hs,hxi,_⟩:=DataW.trod_string hel hx;simp only [List.cons.injEq,and_true] at hs;have e2:(l.map fun s=>(DataW.lit (.string s):DataW H))[i]?=(xs.map (·.1))[i]?:=by rw [e1]
  rw [gD,gD,hxs,MI,hxi,fQ ah,MI] at e2;simp only [iG,DataW.lit.injEq,Lit.string.injEq] at e2;rw [hs];simp only [List.getElem_toArray,List.getElem_map,e2]
theorem auT {w:World} {S:Nat->Prop} {name:String} {g:Nat} {l:List (List UInt8)} (hg:P.globalNamed name=some g) (hv:w.var? P name=some (strCells l)) (hS:S g):RV (fun _=>none) S w (.pointer<|some ⟨g,0,none⟩) (.el<|l.map V.s):=by
 refine .el ⟨g,0,none⟩ _ (fun j=>(strCells l).getD j undef) (fun j x hx=>⟨hS,?_⟩) (fun j x hx=>?_);all_goals
  rw [gD,eD] at hx;obtain ⟨s,hs,rfl⟩:=hx;have hj:j < l.length:=(dK.1 hs).1;have hc:(strCells l)[j]?=some (Value.string ⟨⟨s⟩⟩):=by
   unfold strCells;rw [Kk,gD,hs];rfl
  have hd:(strCells l).getD j undef=Value.string ⟨⟨s⟩⟩:=by
   rw [nS,hc];rfl
  rw [hd]
 .have:=World.var?_cell hg hv j;rw [hc] at this;have e:Addr.add ⟨g,0,none⟩ j=⟨g,j,none⟩:=by
   unfold Addr.add;split<;>simp_all
  rw [e];exact this
 .exact .c _ rfl
theorem Zy {w:World} {name:String} {g:Nat} {cs:Array Value} (hg:P.globalNamed name=some g) (hv:w.var? P name=some cs):g < w.heap.size:=by
 unfold World.var? at hv;rw [hg] at hv;simp only [av] at hv;cases hh:w.heap[g]? with
 | none=>rw [hh] at hv;cases hv
 | some o=>exact (tN.1 hh).1
theorem ajv {H:Type} {enc:TypeId×Value->H} (hl:laidOutB P=true) {W W':World} (hb:Below W.heap.size W W') {sp:Nat->Bool}:
  ∀ {ns:List String} {gs:List (DataW H)} {ps:List MemPlace},varsRowed P ns=true->DataW.TrodVars enc P W (fun _=>true) ns gs ps->(∀ p,p∈ps->sp p.block=true)->DataW.TrodVars enc P W' sp ns gs ps
 | [],[],_,_,h,_=>h
 | [],_::_,_,_,h,_=>h.elim
 | _::_,[],_,_,h,_=>h.elim
 | n::ns,d::ds,ps,hv,h,hs=>by
  have hlt:=h.lt;obtain ⟨g,t,cs,fuel,p,q,h1,h2,h3,h4,h5,e⟩:=h;have hg:=Zy h1 h3;have ht:P.readableRec t=true/\t < P.types.size:=by
   simp only [varsRowed,FE,dL] at hv;obtain ⟨gl,hgl,rfl⟩:=eD.1 h2;have:=hv.1;simpa [h1,hgl] using this
  have hp:∀ x,x∈p->x∈ps:=fun x hx=>by rw [e];simp [hx]
  have h3':W'.var? P n=some cs:=by
   unfold World.var? at h3 ⊢;rw [h1] at h3 ⊢;simp only [av] at h3 ⊢;rw [hb.block g hg];exact h3
  refine ⟨g,t,cs,fuel,p,q,h1,h2,h3',DataW.trod_stays (kids_book hl ht.1) (book_sized ht.1) (fun h=>by cases h) ⟨ht.2,book_self t⟩ h4 (fun x hx=>hb.same<|hlt x<|hp x hx) fun x hx=>hs x<|hp x hx,?_,e⟩;exact ajv hl hb (by simp only [varsRowed,FE,dL] at hv;exact hv.2) h5 fun x hx=>hs x (by rw [e];simp [hx])
theorem ajq {H:Type} {enc:TypeId×Value->H} {W:World} {sp:Nat->Bool}:∀ {ns:List String} {gs:List (DataW H)} {ps:List MemPlace},DataW.TrodVars enc P W sp ns gs ps->gs.length=ns.length
 | [],[],_,_=>rfl
 | [],_::_,_,h=>h.elim
 | _::_,[],_,h=>h.elim
 | n::ns,d::ds,ps,⟨_,_,_,_,_,_,_,_,_,_,h,_⟩=>congrArg (·+1) (ajq h)
theorem auU {w:World} {name:String} {g:Nat} {arr:Array Value} (hg:P.globalNamed name=some g) (hv:w.var? P name=some arr):∃ ety fr,w.heap[g]?=some (.cells arr ety fr):=by
 unfold World.var? at hv;rw [hg,av] at hv;split at hv
 .rename_i cs ety fr h;cases hv;exact ⟨ety,fr,h⟩
 .cases hv
theorem adG {w:World} {S:Nat->Prop} {name:String} {g:Nat} {l:List (List UInt8)} (hg:P.globalNamed name=some g) (hv:w.var? P name=some (strCells l)) (hS:S g):
  RV (fun _=>none) S w (.pointer<|some ⟨g,0,none⟩) (.el<|l.map V.s)/\∃ arr ety fr,w.heap[g]?=some (.cells arr ety fr)/\arr.size=(l.map V.s).length/\S g:=by
 obtain ⟨ety,fr,h⟩:=auU hg hv;exact ⟨auT hg hv hS,_,ety,fr,h,by simp [strCells],hS⟩
end Go.Av
namespace Go.Av
open Go
variable {P:Program} {G:Nat->Option (List V)}
theorem eqGuard_at_slice (P:Program) (w:World) (op:BinOp) (t:TypeId) (x y:Operand) (a b:Option Addr) (n c n' c':Nat):(eqGuard op t x y (.slice a n c)<|.slice b n' c').run P w=.ok () w:=by
 unfold eqGuard;cases op<;>rfl
theorem auV {P:Program} {t el:TypeId} (hu:P.underlying t=some (.slice el)) (w:World) (a:Option Addr) (n c:Nat):(Op.equal t (.slice a n c)<|.slice none 0 0).run P w=.ok a.isNone w:=by
 unfold Op.equal;obtain ⟨k,hk⟩:∃ k,Op.maxDepth=k+1:=⟨_,rfl⟩
 rw [hk,Op.equalIn];simp only [gU,nV hu,gN];cases a<;>rfl
theorem afh {P:Program} {t el:TypeId} (hu:P.underlying t=some (.slice el)) (w:World) (a:Option Addr) (n c:Nat):(binOp .eql t (.slice a n c)<|.slice none 0 0).run P w=.ok (.bool a.isNone) w:=by
 show (Op.equal t (.slice a n c) (.slice none 0 0) >>=fun b=>pure<|Value.bool b).run P w=_;simp only [gU,auV hu,gN,kY]
theorem auW {D:Tab} (hD:dQ P D) {o:Oper} {e:Operand->V} {H:Hp} {t t' el:TypeId} {it:Ty} {x y:Operand} (q:Bool) (ho:o.op=.binOp .eql t x y t') (ht:D.at t=some it) (hit:it.d=.slice el) (hy:e y=.c (.slice none 0 0))
  (hx:(e x=.c (.slice none 0 0)/\q=true)\/∃ b rows,e x=.sl true b rows/\q=false):gH P G o e H (.c<|.bool q) H []:=by
 refine Ed fun ρ S F η w bQ hH=>?_;have h1:=bQ x (by simp [ho,Op.operands]);have h2:=bQ y (by simp [ho,Op.operands]);rw [hy] at h2;have hu:=Cx hD ht hit;refine ⟨_,?_,.c _⟩;unfold execOp;rcases hx with ⟨hx,rfl⟩|⟨b,rows,hx,rfl⟩
 .rw [hx] at h1;simp only [ho,h1.iX,h2.iX,gU,eqGuard_at_slice,gN,afh hu,kY,Option.isNone_none]
 .rw [hx] at h1;have hv:∃ a n c,η x=.slice (some a) n c:=by
   generalize η x=v at h1;cases h1 with
   | sl _ _ _ _ h=>cases h with
    | shr a cap nn rows k cs=>exact ⟨_,_,_,rfl⟩
  obtain ⟨a,n,c,hv⟩:=hv;simp only [ho,hv,h2.iX,gU,eqGuard_at_slice,gN,afh hu,kY,Option.isNone_some]
def nlW (D:Tab) (G:Nat->Option (List V)) (ops:Array Oper) (i:Nat) (T:List V):Option Bool:=
 match oD ops i T with
 | some (.binOp .eql t x y _)=>match D.at t,ev G T y with
  | some it,.c (.slice none 0 0)=>match it.d with
   | .slice _=>match ev G T x with
    | .c (.slice none 0 0)=>some true
    | .sl true _ _=>some false
    | _=>none
   | _=>none
  | _,_=>none
 | _=>none
theorem VE {D:Tab} (hD:dQ P D) {ops:Array Oper} {draw:Bool} {T0:List V} {H0:Hp} {i:Nat} {T:List V} {H:Hp} {Es:List (Bool×Eff)} {Q:St->Prop} (q:Bool) (h:nlW D G ops i T=some q)
  (k:W P G ops draw T0 H0 (i+1) (fB T (jf ops i)<|.c<|.bool q) H (Es++[(true,{v:=.c (.bool q)})]) Q):W P G ops draw T0 H0 i T H Es Q:=by
 unfold nlW at h;split at h
 .rename_i t x y t' hop;split at h
  .rename_i it ht hy;split at h
   .rename_i el hit;refine AY (.c<|.bool q) [] hop (fun o ho e' H' he _=>?_) k;refine auW hD q ho ht hit ((he y gy).trans hy) ?_;rw [he x gy];split at h
    .rename_i hx;cases h;exact .inl ⟨hx,rfl⟩
    .rename_i b rows hx;cases h;exact .inr ⟨b,rows,hx,rfl⟩
    .cases h
   .cases h
  .cases h
 .cases h
end Go.Av
namespace Go.Av
mutual
def V.sm:V->Bool
 | .own j=>Nat.blt j 100
 | .loc j _=>Nat.blt j 100
 | .vp j _ _ _=>Nat.blt j 100
 | .vw j _ _ _=>Nat.blt j 100
 | .fn _ cs=>aaz cs
 | .agg cs=>aaz cs
 | .jX cs=>aaz cs
 | _=>true
def aaz:List V->Bool
 | []=>true
 | x::r=>V.sm x&&aaz r
end
section
variable {P:Program} {G:Nat->Option (List V)} {L:Option Nat} {B:Nat}
theorem Keeps.putObj {S:Nat->Prop} {W:World} {l:Nat} {o:Obj} (hl: ¬S l):Keeps S W S (W.putObj l o):=
 fun b hb=>⟨hb,MB fun e=>hl<|e ▸ hb⟩
theorem dY.putObj {ρ:Nat->Option Value} {S:Nat->Prop} {F:Nat->List Nat} {H:Hp} {W:World} {l:Nat} {o o':Obj} (h:dY ρ S F H W) (hl: ¬S l) (ho:W.heap[l]?=some o) (hc:∀ arr e m,o≠.cells arr e m):dY ρ S F H (W.putObj l o'):=by
 have hU:∀ b,Ub H F b->(W.putObj l o').heap[b]?=W.heap[b]?:=fun b hb=>MB fun e=>by
  obtain ⟨arr,t,m,hh⟩:=h.blocks hb;rw [e,ho] at hh;cases hh;exact hc _ _ _ rfl
 refine ⟨h.dom,fun i p hp=>?_,h.nodup,h.gW,h.sep,fun i p b hp hb=>by rw [UL];exact h.lt i p b hp hb,fun b hb=>by rw [UL];exact h.slt b hb⟩;obtain ⟨r,hr,bY⟩:=h.obj i p hp;exact ⟨r,hr,bY.mono (fun _ _ h _=>h) (Keeps.putObj hl) fun b hb=>hU b ⟨i,p,hp,hb⟩⟩
theorem jI.putObj {S U S' U':Nat->Prop} {w W:World} {l:Nat} {o:Obj} (h:jI S U w S' U' W) (hl:w.heap.size<=l):jI S U w S' U' (W.putObj l o):=
 ⟨h.os,h.tape,h.output,by rw [UL];exact h.size,fun b hb hu=>(MB ah).trans<|h.keep b hb hu,h.sub,h.newS,h.uT⟩
theorem jI.alloc {S U S' U':Nat->Prop} {w W:World} {o:Obj} (h:jI S U w S' U' W):jI S U w S' U' (W.alloc o):=
 ⟨h.os,h.tape,h.output,sH h.size aF,fun b hb hu=>(Go.RowKit.Below.heap_alloc _ _ _<|Az hb h.size).trans<|h.keep b hb hu,h.sub,h.newS,h.uT⟩
theorem dY.alloc {ρ:Nat->Option Value} {S:Nat->Prop} {F:Nat->List Nat} {H:Hp} {W:World} {o:Obj} (h:dY ρ S F H W):dY ρ S F H (W.alloc o):=by
 have hk:Keeps S W S (W.alloc o):=fun b hb=>⟨hb,Go.RowKit.Below.heap_alloc _ _ _<|h.slt b hb⟩
 refine ⟨h.dom,fun i p hp=>?_,h.nodup,h.gW,h.sep,fun i p b hp hb=>by have:=h.lt i p b hp hb;simp;omega,fun b hb=>by have:=h.slt b hb;simp;omega⟩;obtain ⟨r,hr,bY⟩:=h.obj i p hp;exact ⟨r,hr,bY.mono (fun _ _ h _=>h) hk fun b hb=>Go.RowKit.Below.heap_alloc _ _ _<|h.lt i p b hp hb⟩
structure Aside (S:Nat->Prop) (l D:Nat) (rec:Loop) (W:World):Prop where
 sl: ¬S l
 sD: ¬S D
 hl:W.heap[l]?=some (.loop rec)
 hD:W.heap[D]?=some (.deferred<|some [])
theorem Aside.ZU {ρ:Nat->Option Value} {S S' U':Nat->Prop} {F:Nat->List Nat} {H:Hp} {w w':World} {l D:Nat} {rec:Loop} (h:Aside S l D rec w) (hH:dY ρ S F H w) (e:jI S (Ub H F) w S' U' w'):Aside S' l D rec w':=by
 have hUl: ¬Ub H F l:=fun hU=>by obtain ⟨arr,t,m,hc⟩:=hH.blocks hU;rw [h.hl] at hc;cases hc
 have hUD: ¬Ub H F D:=fun hU=>by obtain ⟨arr,t,m,hc⟩:=hH.blocks hU;rw [h.hD] at hc;cases hc
 have hll:l < w.heap.size:=(tN.1 h.hl).1;have hlD:D < w.heap.size:=(tN.1 h.hD).1;refine ⟨fun hs=>?_,fun hs=>?_,(e.keep l hll hUl).trans h.hl,(e.keep D hlD hUD).trans h.hD⟩
 .rcases e.newS l hs with h1|h1|h1
  .exact h.sl h1
  .exact hUl h1
  .omega
 .rcases e.newS D hs with h1|h1|h1
  .exact h.sD h1
  .exact hUD h1
  .omega
theorem Aside.put {S:Nat->Prop} {l D:Nat} {rec rec':Loop} {W:World} (h:Aside S l D rec W) (hne:D≠l):Aside S l D rec' (W.putObj l<|.loop rec'):=
 ⟨h.sl,h.sD,World.putObj_heap_same (tN.1 h.hl).1,(MB hne).trans h.hD⟩
theorem Marks.putObj {S:Nat->Prop} {ds:List Deferred} {W:World} {l:Nat} {o o':Obj} (h:Marks B S ds W) (ho:W.heap[l]?=some o) (hc:∀ x,o≠.deferred x):Marks B S ds (W.putObj l o'):=by
 obtain ⟨hB,Ds,hn,hd,hD⟩:=h;refine ⟨by rw [UL];exact hB,Ds,hn,hd,fun D hm=>?_⟩;obtain ⟨h1,h2,h3⟩:=hD D hm;refine ⟨h1,h2,(MB fun e=>?_).trans h3⟩;rw [e,ho] at h3;exact hc _ (kD h3)
theorem nH.putObj {ρ:Nat->Option Value} {S:Nat->Prop} {F:Nat->List Nat} {st:St} {a:Act} {W:World} {l:Nat} {rc:Loop} {o':Obj} (h:nH B G ρ S F st a W) (hl: ¬S l) (ho:W.heap[l]?=some (.loop rc)):nH B G ρ S F st a (W.putObj l o'):=
 ⟨h.defers.putObj ho (fun _ h=>by cases h),h.size,fun i x hx=>(h.tmps i x hx).mono (fun _ _ h _=>h)<|Keeps.putObj hl,h.heap.putObj hl ho (fun _ _ _ h=>by cases h),h.glob.mono<|Keeps.putObj hl⟩
theorem dY.drawn {ρ:Nat->Option Value} {S:Nat->Prop} {F:Nat->List Nat} {H:Hp} {W:World} (h:dY ρ S F H W) (d:Nat):dY ρ S F H {W with drawn:=d}:=by
 refine ⟨h.dom,fun i p hp=>?_,h.nodup,h.gW,h.sep,h.lt,h.slt⟩;obtain ⟨r,hr,bY⟩:=h.obj i p hp;exact ⟨r,hr,bY.mono (fun _ _ h _=>h) (fun b hb=>⟨hb,rfl⟩) fun _ _=>rfl⟩
def slot (a:Act) (t:Nat):Value:=a.tmps.getD t undef
end
end Go.Av
namespace Go.Av
def CF (H:Hp):Ren:=H.map fun p=>(p.1,p.1)
def VF:List V->Nat->List Nat
 | [],_=>[]
 | .junk::r,n=>VF r (n+1)
 | _::r,n=>n::VF r (n+1)
def mOk (H:Hp):Bool:=(CF H).ok&&(CF H).keep&&Ih (CF H)
section
variable {P:Program} {G:Nat->Option (List V)} {L:Option Nat}
theorem alp {ops:Array Oper} {draw:Bool} {T0:List V} {H0:Hp} {i:Nat} {T:List V} {H:Hp} {Es:List (Bool×Eff)} {T':List V} {H':Hp}
  (h:(Nat.ble ops.size i&&(Ei draw ops T0 H0 Es&&mOk H'),Cz (CF H') (VF T' 0) 0 T,wE (CF H') H<|CF H')=(true,T',some H')):W P G ops draw T0 H0 i T H Es fun st=>Weak st ⟨T',H'⟩:=by
 simp only [pR,dL,AL] at h;obtain ⟨⟨h1,h2,h3⟩,h4,h5⟩:=h;exact AV h1 h2 (aav _ _ h3 h4 h5)
theorem auY (m:Ren) (ks:List Nat) {ops:Array Oper} {draw:Bool} {T0:List V} {H0:Hp} {i:Nat} {T:List V} {H:Hp} {Es:List (Bool×Eff)} {T':List V} {H':Hp}
  (h:(Nat.ble ops.size i&&(Ei draw ops T0 H0 Es&&(m.ok&&m.keep&&Ih m)),Cz m ks 0 T,wE m H m)=(true,T',some H')):W P G ops draw T0 H0 i T H Es fun st=>Weak st ⟨T',H'⟩:=by
 simp only [pR] at h;obtain ⟨h1,h4,h5⟩:=h;rw [dL,dL,AL] at h1;exact AV h1.1 h1.2.1 (aav _ _ h1.2.2 h4 h5)
def Rl (D:Tab) (G:Nat->Option (List V)) (ops:Array Oper) (draw:Bool) (n q:Nat) (T:List V) (H:Hp) (T':List V) (H':Hp):Bool×List V×Option Hp:=
 match Cy D G ops n q 0 T H with
 | some r=>(Nat.ble ops.size n&&(Ei draw ops T H r.Es&&mOk H'),Cz (CF H') (VF T' 0) 0 r.T,wE (CF H') r.H<|CF H')
 | none=>(false,[],none)
theorem cuW {D:Tab} (hD:dQ P D) (n q:Nat) {ops:Array Oper} {draw:Bool} {T:List V} {H:Hp} {T':List V} {H':Hp} (h:Rl D G ops draw n q T H T' H'=(true,T',some H')):W P G ops draw T H 0 T H [] fun st=>Weak st ⟨T',H'⟩:=by
 unfold Rl at h;split at h
 .rename_i r hr;refine Rb hD n hr ?_;rw [qM,uS];exact alp h
 .cases h
theorem cu {D:Tab} (hD:dQ P D) (hm:P.follows .mixedOrders=true) (n q:Nat) (T':List V) (H':Hp) {id:Nat} {l:List Oper} {draw:Bool} {c:Code} {T:List V} {H:Hp} {Q:Exit->St->Prop}
  (h:Rl D G l.toArray draw n q T H T' H'=(true,T',some H')) (k:CO L P G c ⟨T',H'⟩ Q):CO L P G (.seq (.region id l.toArray draw) c) ⟨T,H⟩ Q:=
 bD T' H' hm (cuW hD n q h) k
theorem ce {D:Tab} (hD:dQ P D) (hm:P.follows .mixedOrders=true) (n q:Nat) (T':List V) (H':Hp) {id:Nat} {l:List Oper} {draw:Bool} {T:List V} {H:Hp} {Q:Exit->St->Prop}
  (h:Rl D G l.toArray draw n q T H T' H'=(true,T',some H')) (hQ:∀ st,Weak st ⟨T',H'⟩->Q .normal st):CO L P G (.region id l.toArray draw) ⟨T,H⟩ Q:=
 pX T' H' hm (cuW hD n q h) hQ
end
end Go.Av
namespace Go.Av
def bR {α β:Type} {x:Option α} {f:α->Option β} {r:β} {P:Prop} (k:∀ a,x=some a->f a=some r->P) (h:Option.bind x f=some r):P:=
 match bind_some h with
 | ⟨a,h1,h2⟩=>k a h1 h2
def cR {β:Type} {c:Bool} {x y:Option β} {r:β} {P:Prop} (k:c=true->x=some r->P) (k':c=false->y=some r->P) (h:(bif c then x else y)=some r):P:=
 match Nc h with
 | .inl ⟨h1,h2⟩=>k h1 h2
 | .inr ⟨h1,h2⟩=>k' h1 h2
section
variable {P:Program} {G:Nat->Option (List V)}
theorem Reader.u8 {t:TypeId} (ht:P.underlying t=some (.int .u8)):Reader P t bK (fun _=>True):=by
 intro H e w fuel cs x h;obtain ⟨n,hn,hr⟩:=Reader.int ht e w fuel cs x h;have h1:0<=n/\n<=255:=by simpa [Lit.wf,IntKind.min,IntKind.max,IntKind.signed,IntKind.bits] using hn
 have h2:((UInt8.ofNat n.toNat).toNat:Int)=n:=by
  rw [UInt8.toNat_ofNat'];omega
 refine ⟨UInt8.ofNat n.toNat,trivial,fun S hS=>?_⟩;have:=hr S hS;unfold bK;rw [h2];exact this
def neN {α:Type}:List α->Option Bool
 | []=>none
 | _::_=>some false
theorem auZ {D:Tab} (hD:dQ P D) {o:Oper} {e:Operand->V} {H:Hp} {t t' el:TypeId} {it:Ty} {x y:Operand} {j:Nat} {nn:Bool} {ety:Tg} {k:Nat} {rows:List (List V)} (ho:o.op=.binOp .eql t x y t') (ht:D.at t=some it) (hit:it.d=.slice el) (hy:e y=.c (.slice none 0 0))
  (hx:e x=.own j) (hl:look H j=some (.vec nn ety k rows)) (hr:rows≠[]):gH P G o e H (.c<|.bool false) H []:=by
 refine Ed fun ρ S F η w bQ hH=>?_;have h1:=bQ x (by simp [ho,Op.operands]);have h2:=bQ y (by simp [ho,Op.operands]);rw [hy] at h2;rw [hx] at h1;have hu:=Cx hD ht hit;obtain ⟨r,hr',bY⟩:=hH.obj j _ hl;have QW:=h1.Cv r hr';refine ⟨_,?_,.c _⟩;unfold execOp;generalize F j=Fj at bY;cases bY with
 | kZ=>exact absurd rfl hr
 | vec g cap arr _ _ _ _ cs Fs hh hcap=>
  simp only [ho,QW,h2.iX,gU,eqGuard_at_slice,gN,afh hu,kY,Option.isNone_some]
def nlO (D:Tab) (G:Nat->Option (List V)) (ops:Array Oper) (i:Nat) (T:List V) (H:Hp):Option (Nat×List (List V)):=
 match oD ops i T with
 | some (.binOp .eql t x y _)=>match D.at t,ev G T y,ev G T x with
  | some it,.c<|.slice none 0 0,.own j=>match it.d,look H j with
   | .slice _,some (.vec _ _ _ rows)=>some (j,rows)
   | _,_=>none
  | _,_,_=>none
 | _=>none
theorem ava {D:Tab} (hD:dQ P D) {ops:Array Oper} {draw:Bool} {T0:List V} {H0:Hp} {i:Nat} {T:List V} {H:Hp} {Es:List (Bool×Eff)} {Q:St->Prop} {α:Type} (enc:α->List V) {l:List α} {b:Bool} (hx:neN l=some b) (j:Nat) (h:nlO D G ops i T H=some (j,l.map enc))
  (k:W P G ops draw T0 H0 (i+1) (fB T (jf ops i)<|.c<|.bool false) H (Es++[(true,{v:=.c (.bool false),R:=[j]})]) Q):W P G ops draw T0 H0 i T H Es Q:=by
 have hne:l.map enc≠[]:=by
  cases l with
  | nil=>cases hx
  | cons=>simp
 unfold nlO at h;split at h
 .rename_i t x y t' hop;split at h
  .rename_i it j' ht hy hxv;split at h
   .rename_i el nn ety kk rows hit hl;simp only [iG,pR] at h;obtain ⟨rfl,rfl⟩:=h;refine AY (.c<|.bool false) [j'] hop (fun o ho e' H' he iA=>?_) k;exact auZ hD ho ht hit ((he y gy).trans hy) ((he x gy).trans hxv) (by rw [iA j' aF];exact hl) hne
   .cases h
  .cases h
 .cases h
theorem als {L:Option Nat} {ι:Type} (J:ι->St) (R:Nat->ι->Prop) {c:Code} {st:St} {Q:Exit->St->Prop} {n0:Nat} {i0:ι} (h0:Weak st (J i0)) (hR:R n0 i0) (hz:∀ i,¬R 0 i)
  (round:∀ n i,R (n+1) i->(∀ j,R n j->∀ st',Weak st' (J j)->Vz L P G c Q n .normal st')->CO L P G c (J i) (Vz L P G c Q n)):LoopN L P G c Q n0 st:=by
 have key:∀ n i,R n i->LoopN L P G c Q n (J i):=by
  intro n;induction n with
  | zero=>intro i hi;exact (hz i hi).elim
  | succ n ih=>intro i hi;exact aau (round n i hi fun j hj _ hw=>Rh hw<|ih j hj)
 exact Rh h0 (key n0 i0 hR)
end
end Go.Av
namespace Go.Av
section
variable {P:Program} {G:Nat->Option (List V)} {L:Option Nat}
theorem bB {α β:Type} {x:Option α} {f:α->Option β} {r:β} {P:Prop} (h:Option.bind x f=some r) (k:∀ a,x=some a->f a=some r->P):P:=bR k h
theorem wS (m:Ren) (ks:List Nat) {T:List V} {H:Hp} {T':List V} {H':Hp} (hm:(m.ok&&m.keep&&Ih m)=true:=by kernel_rfl) (hT:Cz m ks 0 T=T':=by kernel_rfl) (hH:wE m H m=some H':=by kernel_rfl):Weak ⟨T,H⟩ ⟨T',H'⟩:=aav m ks hm hT hH
theorem oT {st:St} {t:Tmp} {r:V} (ht:st.T[t]?=some r:=by kernel_rfl):bX P st (.tmp t) r:=ZV ht
theorem eG {fn:Func} {r0:V} {T:List V} {H:Hp} {e:Exit} (m:Ren) (he:e=.normal\/e=.ret) (h:aO P fn ⟨T,H⟩ r0) {r':V} {H':Hp} (hm:(m.ok&&m.keep&&Ih m)=true:=by kernel_rfl) (hr:r0.rn m=r':=by kernel_rfl) (hH:wE m H m=some H':=by kernel_rfl):Ends P fn r' H' e ⟨T,H⟩:=alb m he h hm hr hH
theorem fI {ops:Array Oper} {draw:Bool} {T0:List V} {H0:Hp} {i:Nat} {T:List V} {H:Hp} {Es:List (Bool×Eff)} {T':List V} {H':Hp}
  (h:(Nat.ble ops.size i&&(Ei draw ops T0 H0 Es&&mOk H'),Cz (CF H') (VF T' 0) 0 T,wE (CF H') H<|CF H')=(true,T',some H'):=by kernel_rfl):W P G ops draw T0 H0 i T H Es fun st=>Weak st ⟨T',H'⟩:=alp h
theorem fS (m:Ren) (ks:List Nat) {ops:Array Oper} {draw:Bool} {T0:List V} {H0:Hp} {i:Nat} {T:List V} {H:Hp} {Es:List (Bool×Eff)} {T':List V} {H':Hp}
  (h:(Nat.ble ops.size i&&(Ei draw ops T0 H0 Es&&(m.ok&&m.keep&&Ih m)),Cz m ks 0 T,wE m H m)=(true,T',some H'):=by kernel_rfl):W P G ops draw T0 H0 i T H Es fun st=>Weak st ⟨T',H'⟩:=auY m ks h
theorem sI {α:Type} {a b:α} (h:some a=some b):a=b:=kD h
end
end Go.Av
namespace Go.Av
def OwnAt (te:TypeId) (K:Nat) (w:World) (s:Value) (n:Nat) (olds:List Value):Prop:=
 (s=.slice none 0 0/\n=0/\olds=[])\/∃ g c cur,s=.slice (some ⟨g,0,none⟩) n c/\w.heap[g]?=some (.cells cur te (0,0))/\n<=c/\c<=maxLen/\cur.size=c*K/\olds=cur.toList.take (n*K)
def jd.at {ρ:Nat->Option Value} {S:Nat->Prop} {w:World} {r:Value} {nn:Bool} {te:TypeId} {K:Nat} {rows:List (List V)} {F:List Nat} (h:jd ρ S w r (.vec nn te K rows) F) (hnd:F.Nodup):
  ∃ (olds:List Value) (cs:Nat->Nat->Value) (Fs:Nat->Nat->List Nat),OwnAt te K w r rows.length olds/\olds.length=rows.length*K/\(∀ (i:Nat) (x:List V),rows[i]?=some x->x.length=K)/\
   (∀ (i j:Nat) (x:List V) (y:V),rows[i]?=some x->x[j]?=some y->olds[i*K+j]?=some (cs i j)/\RD S w (cs i j) y (Fs i j))/\
   (∀ v,v∈olds->v.oneCell'=true)/\(flat rows.length K Fs).Nodup/\(∀ b,b∈flat rows.length K Fs->b∈F/\r.ownBlock≠some b)/\(∀ g,r.ownBlock=some g->g∈F):=by
 cases h with
 | kZ=>
  exact ⟨[],fun _ _=>undef,fun _ _=>[],.inl ⟨rfl,rfl,rfl⟩,aF,fun i x h=>by simp at h,fun i j x y h=>by simp at h,fun v h=>(by cases h),by simp [flat],fun b h=>(by simp [flat] at h),fun g h=>by simp [Value.ownBlock] at h⟩
 | vec g cap arr _ _ _ _ cs Fs hh hcap hmax hsz hk hc hr uV=>
  have htt:=uV.2;cases uV.1;have hl:(arr.toList.take<|rows.length*K).length=rows.length*K:=by
   rw [FD];exact Nat.min_eq_left (sH (vW K hcap)<|Nat.le_of_eq hsz.symm)
  have hget:∀ (i j:Nat) (x:List V) (y:V),rows[i]?=some x->x[j]?=some y->(arr.toList.take<|rows.length*K)[i*K+j]?=some (cs i j):=fun i j x y h1 h2=>by
   have hi:i < rows.length:=(dK.1 h1).1;have hj:j < K:=by have:=(dK.1 h2).1;rw [hk i x h1] at this;exact this
   rw [AB,dA<|Vl hi hj];simpa using hc i j x y h1 h2
  refine ⟨arr.toList.take<|rows.length*K,cs,Fs,.inr ⟨g,cap,arr,rfl,hh,hcap,hmax,hsz,rfl⟩,hl,hk,fun i j x y h1 h2=>⟨hget i j x y h1 h2,hr i j x y h1 h2⟩,fun v hv=>?_,(qw.1 hnd).2,fun b hb=>⟨sG _ hb,fun h=>?_⟩,fun g' h=>?_⟩
  .obtain ⟨p,hp⟩:=Hg hv;have hlt:p < rows.length*K:=by rw [<- hl];exact (dK.1 hp).1
   have hk0:0 < K:=by
    rcases UN K with h0|h0
    .rw [h0,ZO] at hlt;omega
    .exact h0
   have hi:p / K < rows.length:=adP (by rwa [QI]);have hj:p % K < K:=QK _ hk0;have h1:rows[p / K]?=some rows[p / K]:=fQ hi;have hj':p % K < rows[p / K].length:=by rw [hk _ _ h1];exact hj
   have h2:rows[p / K][p % K]?=some rows[p / K][p % K]:=fQ hj';have h3:=hget _ _ _ _ h1 h2;rw [show p / K*K+p % K=p by rw [QI];exact ZL p K,hp] at h3;cases h3;exact (hr _ _ _ _ h1 h2).one
  .simp only [Value.ownBlock,iG] at h;subst h;exact (qw.1 hnd).1 hb
  .simp only [Value.ownBlock,iG] at h;subst h;simp
section
variable {P:Program} {G:Nat->Option (List V)}
end
end Go.Av
namespace Go.Av
section
variable {P:Program} {G:Nat->Option (List V)}
def KF (a b:Int):Option Int:=bif b==0 then none else some (a.tmod b)
def alu (G:Nat->Option (List V)) (ops:Array Oper) (i:Nat) (T:List V):Option (V×V):=
 match oD ops i T with
 | some (.binOp .rem _ x y _)=>some (ev G T x,ev G T y)
 | _=>none
theorem W.rem {ops:Array Oper} {draw:Bool} {T0:List V} {H0:Hp} {i:Nat} {T:List V} {H:Hp} {Es:List (Bool×Eff)} {Q:St->Prop} {k:IntKind} {a b r:Int} (hx:KF a b=some r) (h:alu G ops i T=some (.c<|.int k a,.c<|.int k b))
  (kk:W P G ops draw T0 H0 (i+1) (fB T (jf ops i)<|.c<|.int k r) H (Es++[(true,{v:=.c (.int k r)})]) Q):W P G ops draw T0 H0 i T H Es Q:=by
 unfold KF at hx;cases hb:b==0 with
 | true=>rw [hb] at hx;cases hx
 | false=>
  rw [hb] at hx;have hx:=kD hx;subst hx;have hb': ¬b=0:=by simpa using hb
  unfold alu at h;split at h
  .rename_i t x y t' hop;simp only [iG,pR] at h;refine AY (.c<|.int k<|a.tmod b) [] hop (fun o ho e' H' he _=>?_) kk;refine aae (D:=[]) (fun t i h=>by simp [Tab.at] at h) ?_;rw [ho];have e1:=(he x gy).trans h.1;have e2:=(he y gy).trans h.2;simp [iy,aac,e1,e2,ZX,hb']
  .cases h
end
end Go.Av
namespace Go.Av
section
variable {P:Program} {G:Nat->Option (List V)} {L:Option Nat}
def Rm (D:Tab) (G:Nat->Option (List V)) (ops:Array Oper) (draw:Bool) (q:Nat) (T:List V) (H:Hp):Bool:=
 match Cy D G ops ops.size q 0 T H with
 | some r=>Ei draw ops T H r.Es
 | none=>false
theorem lzW {D:Tab} (hD:dQ P D) {q:Nat} {ops:Array Oper} {draw:Bool} {T:List V} {H:Hp} {Q:St->Prop} (h:Rm D G ops draw q T H=true) (k:Q ⟨(pV D G ops ops.size q 0 T H).T,(pV D G ops ops.size q 0 T H).H⟩):W P G ops draw T H 0 T H [] Q:=by
 unfold Rm at h;unfold pV at k;split at h
 .rename_i r hr;rw [hr] at k;exact Rb hD _ hr (AV ah h k)
 .cases h
theorem cv {D:Tab} (hD:dQ P D) (hm:P.follows .mixedOrders=true) (q:Nat) {id:Nat} {l:List Oper} {draw:Bool} {c:Code} {T:List V} {H:Hp} {Q:Exit->St->Prop}
  (k:CO L P G c ⟨(pV D G l.toArray l.toArray.size q 0 T H).T,(pV D G l.toArray l.toArray.size q 0 T H).H⟩ Q) (h:Rm D G l.toArray draw q T H=true):CO L P G (.seq (.region id l.toArray draw) c) ⟨T,H⟩ Q:=
 aJ hm (lzW hD h k)
def Rn (m:Ren) (ks:List Nat) (b:Bool) (T:List V) (H:Hp):Bool×List V×Option Hp:=(b&&(m.ok&&m.keep&&Ih m),Cz m ks 0 T,wE m H m)
theorem jnW {m:Ren} {ks:List Nat} {b:Bool} {T:List V} {H:Hp} {s:St} (h:Rn m ks b T H=(true,s.T,some s.H)):b=true/\Weak ⟨T,H⟩ s:=by
 unfold Rn at h;simp only [pR] at h;obtain ⟨h1,h2,h3⟩:=h;rw [dL] at h1;exact ⟨h1.1,aav m ks h1.2 h2 h3⟩
theorem ck {D:Tab} (hD:dQ P D) (hm:P.follows .mixedOrders=true) (q:Nat) {ι:Type} {J:ι->St} {R:ι->Prop} {id:Nat} {l:List Oper} {draw:Bool} {T:List V} {H:Hp} {Q:Exit->St->Prop} (hk:∀ i,R i->∀ st,Weak st (J i)->Q .normal st) (i:ι) (hi:R i) (m:Ren) (ks:List Nat)
  (h:Rn m ks (Rm D G l.toArray draw q T H) (pV D G l.toArray l.toArray.size q 0 T H).T (pV D G l.toArray l.toArray.size q 0 T H).H=(true,(J i).T,some (J i).H)):CO L P G (.region id l.toArray draw) ⟨T,H⟩ Q:=by
 obtain ⟨h1,h2⟩:=jnW h;exact oO hm (lzW hD h1<|hk i hi _ h2)
theorem sK {ι:Type} {J:ι->St} {R:ι->Prop} {T:List V} {H:Hp} {Q:Exit->St->Prop} (hk:∀ i,R i->∀ st,Weak st (J i)->Q .normal st) (i:ι) (hi:R i) (m:Ren) (ks:List Nat)
  (h:Rn m ks true T H=(true,(J i).T,some (J i).H):=by kernel_rfl):CO L P G .skip ⟨T,H⟩ Q:=
 aY (hk i hi _ (jnW h).2)
theorem wF {ops:Array Oper} {draw:Bool} {T0:List V} {H0:Hp} {i:Nat} {T:List V} {H:Hp} {Es:List (Bool×Eff)} {Q:St->Prop} (k:Q ⟨T,H⟩) (h:(Nat.ble ops.size i&&Ei draw ops T0 H0 Es)=true:=by kernel_rfl):W P G ops draw T0 H0 i T H Es Q:=by
 simp only [dL,AL] at h;exact AV h.1 h.2 k
theorem wK {ops:Array Oper} {draw:Bool} {T0:List V} {H0:Hp} {i:Nat} {T:List V} {H:Hp} {Es:List (Bool×Eff)} {ι:Type} {J:ι->St} {R:ι->Prop} {Q:St->Prop} (hk:∀ i,R i->∀ st,Weak st (J i)->Q st) (x:ι) (hi:R x) (m:Ren) (ks:List Nat)
  (h:Rn m ks (Nat.ble ops.size i&&Ei draw ops T0 H0 Es) T H=(true,(J x).T,some (J x).H):=by kernel_rfl):W P G ops draw T0 H0 i T H Es Q:=by
 obtain ⟨h1,h2⟩:=jnW h;exact wF (hk x hi _ h2) h1
theorem cI {β:Type} {b:Bool} {X Y:Option β} {r:β} {x:Operand} {c1 c2:Code} {T:List V} {H:Hp} {Q:Exit->St->Prop} (h:(bif b then X else Y)=some r)
  (k:b=true->X=some r->CO L P G c1 ⟨T,H⟩ Q) (k':b=false->Y=some r->CO L P G c2 ⟨T,H⟩ Q) (hb:ev G T x=.c (.bool b):=by kernel_rfl):CO L P G (.cond x c1 c2) ⟨T,H⟩ Q:=
 cR (fun hc h=>Ri hc (hc ▸ hb)<|k hc h) (fun hc h=>aeT hc (hc ▸ hb)<|k' hc h) h
theorem wJ {β:Type} {b:Bool} {X Y:Option β} {r:β} {ops:Array Oper} {draw:Bool} {T0:List V} {H0:Hp} {i:Nat} {T:List V} {H:Hp} {Es:List (Bool×Eff)} {Q:St->Prop} (d:Nat) (h:(bif b then X else Y)=some r)
  (k:X=some r->W P G ops draw T0 H0 i (T.set d<|.c<|.bool true) H Es Q) (k':Y=some r->W P G ops draw T0 H0 i (T.set d<|.c<|.bool false) H Es Q) (hd:T[d]?=some (.c<|.bool b):=by kernel_rfl):W P G ops draw T0 H0 i T H Es Q:=
 cR (fun hc h=>W.is d hc hd<|k h) (fun hc h=>W.is d hc hd<|k' h) h
def ccC (D:Tab) (G:Nat->Option (List V)) (ops:Array Oper) (draw:Bool) (n q:Nat) (rc:V) (T:List V) (H:Hp):Bool×Option (FuncId×List V×Hp)×V:=
 let r1:=pV D G ops n q 0 T H
 let T1:=fB r1.T (jf ops n) rc
 ((Cy D G ops n q 0 T H).isSome&&match Cy D G ops (ops.size - (n+1)) q (n+1) T1 r1.H with
  | some r=>Ei draw ops T H (r1.Es++[(true,{v:=rc})]++r.Es)
  | none=>false,Ig G ops [] [] n r1.T r1.H,rc.rn [])
def Nj (D:Tab) (G:Nat->Option (List V)) (ops:Array Oper) (n q:Nat) (rc:V) (T:List V) (H:Hp):Run:=
 pV D G ops (ops.size - (n+1)) q (n+1) (fB (pV D G ops n q 0 T H).T (jf ops n) rc) (pV D G ops n q 0 T H).H
theorem ccW {D:Tab} (hD:dQ P D) (n q:Nat) {ops:Array Oper} {draw:Bool} {T:List V} {H:Hp} {Q:St->Prop} {fid:FuncId} {vs:List V} {rc:V} (hA:AC P G fid vs [] rc []) (hcf:yE P fid)
  (h:ccC D G ops draw n q rc T H=(true,some (fid,vs,[]),rc)) (k:Q ⟨(Nj D G ops n q rc T H).T,(Nj D G ops n q rc T H).H⟩):W P G ops draw T H 0 T H [] Q:=by
 unfold ccC at h;simp only [pR,dL] at h;obtain ⟨⟨h1,h2⟩,h3,h4⟩:=h;refine W.run hD n q h1 (W.nI hA hcf h4 ?_ ?_)
 .rw [qM];exact h3
 .rw [qM];unfold Nj at k;unfold pV at k;unfold pV at h2 ⊢;split at h2
  .rename_i r hr;rw [hr] at k;exact Rb hD _ hr (AV ah (by simpa using h2) k)
  .cases h2
theorem cc {D:Tab} (hD:dQ P D) (hm:P.follows .mixedOrders=true) (n q:Nat) {id:Nat} {l:List Oper} {draw:Bool} {c:Code} {T:List V} {H:Hp} {Q:Exit->St->Prop} {fid:FuncId} {vs:List V} {rc:V} (hA:AC P G fid vs [] rc []) (hcf:yE P fid)
  (k:CO L P G c ⟨(Nj D G l.toArray n q rc T H).T,(Nj D G l.toArray n q rc T H).H⟩ Q) (h:ccC D G l.toArray draw n q rc T H=(true,some (fid,vs,[]),rc)):CO L P G (.seq (.region id l.toArray draw) c) ⟨T,H⟩ Q:=
 aJ hm (ccW hD n q hA hcf h k)
theorem e1 (t:Tmp) {fn:Func} {T:List V} {H:Hp} {r:V} {Q:Exit->St->Prop} (hQ:Ends P fn r [] .ret ⟨T,H⟩->Q .ret ⟨T,H⟩) (hf:fn.results=#[.tmp t]:=by rfl) (h:(T[t]?,r.rn [])=(some r,r):=by kernel_rfl):CO L P G .ret ⟨T,H⟩ Q:=by
 simp only [pR] at h;exact aS (hQ<|alb [] (.inr rfl) (aO.one hf<|ZV h.1) rfl h.2 rfl)
end
end Go.Av
namespace Go.Av
end Go.Av
namespace Go.Av
end Go.Av
namespace Go.Av
end Go.Av
namespace Go.Av
end Go.Av
namespace Go.Av
open Go.RowKit
def avd (P:Program) (f:FuncId):Prop:=
 (∀ (bk c:Nat) (xs:List ByteArray) (sep:ByteArray) (w:World),(∀ (j:Nat) x,xs[j]?=some x->w.cell? ⟨bk,0+j,none⟩=some (.string x))->bk < w.heap.size->xs.length<=140737488355328->xs.length<=c->
  (Lib.join (xs.map (·.data.toList)) sep.data.toList).length<=140737488355328->
  Calls P f #[.slice (some ⟨bk,0,none⟩) xs.length c,.string sep] w fun e w'=>e=.returned (.string ⟨(Lib.join (xs.map (·.data.toList)) sep.data.toList).toArray⟩)/\Below w.heap.size w w')/\
 ∀ (sep:ByteArray) (w:World),Calls P f #[.slice none 0 0,.string sep] w fun e w'=>e=.returned (.string ⟨#[]⟩)/\w'=w
def aJI {P:Program} {G:Nat->Option (List V)} {f:FuncId} {te:TypeId} (h:avd P f) (nn:Bool) (l:List (List UInt8)) (sep:List UInt8) (hlen:l.length<=1048576) (hj:(Lib.join l sep).length<=140737488355328):
  AC P G f [.own 0,V.s sep] [(0,.vec nn te 1<|l.map fD)] (V.s<|Lib.join l sep) [(0,.vec nn te 1<|l.map fD)]:=by
 intro ρ S F xs w hsz hxs hH hG;have l0:look [(0,Ob.vec nn te 1<|l.map fD)] 0=some (.vec nn te 1<|l.map fD):=rfl;obtain ⟨r0,hr0,ob0⟩:=hH.obj 0 _ l0;have hnd:=hH.nodup 0 _ l0;have x0:xs.getD 0 undef=r0:=by
  have h:RV ρ S w (xs.getD 0 undef) (.own 0):=hxs 0 _ rfl;exact h.Cv _ hr0
 have x1:xs.getD 1 undef=.string ⟨⟨sep⟩⟩:=(hxs 1 _ rfl).iX;have hx:xs=#[r0,.string ⟨⟨sep⟩⟩]:=by
  have h3:xs.size=2:=hsz;apply Array.ext
  .exact h3
  .intro j h1 h2;have:j=0\/j=1:=ah;rcases this with rfl|rfl
   .simpa [Array.getD,h1] using x0
   .simpa [Array.getD,h1] using x1
 subst hx;have fin:∀ w',Below w.heap.size w w'->∃ x ρ' S' F',Ending.returned (.string ⟨⟨Lib.join l sep⟩⟩)=.returned x/\RV ρ' S' w' x (V.s<|Lib.join l sep)/\dY ρ' S' F' [(0,Ob.vec nn te 1<|l.map fD)] w'/\jI S (Ub [(0,Ob.vec nn te 1<|l.map fD)] F) w S' (Ub [(0,Ob.vec nn te 1<|l.map fD)] F') w'/\qz ρ ρ':=fun w' hb=>by
  have hP:=akI hH [0] (i:=0) hr0 (Fi:=F 0) hb.os hb.tape hb.output hb.size (fun b hb' _=>hb.block b hb') (fun ρ'=>ob0.mono (fun _ _ _ h=>by cases h) (fun b hb'=>⟨hb',hb.block b<|hH.slt b hb'⟩) fun b hb'=>hb.block b<|hH.lt 0 _ b l0 hb') hnd (fun b hb'=>.inl ⟨0,_,aF,l0,hb'⟩) (x:=.string ⟨⟨Lib.join l sep⟩⟩) (v:=V.s (Lib.join l sep)) (.c _);obtain ⟨ρ',S',F',h1,h2,h3,h4⟩:=hP;exact ⟨_,ρ',S',F',rfl,h1,h2,h3,fun j r hj hr=>h4 j r hr aF⟩
 have hcase:(r0=.slice none 0 0/\l=[])\/∃ (g cap:Nat) (arr:Array Value),r0=.slice (some ⟨g,0,none⟩) l.length cap/\w.heap[g]?=some (.cells arr te (0,0))/\l.length<=cap/\
   (∀ (i:Nat) (x:List UInt8),l[i]?=some x->arr[i]?=some (Go.Proofs.encStr x)):=by
  generalize F 0=Fi at ob0;generalize hrows:l.map fD=rows at ob0;cases ob0 with
  | kZ=>exact .inl ⟨rfl,List.map_eq_nil_iff.1 hrows⟩
  | vec g cap arr _ _ _ _ cc Fs hh hcap hmax Vx hk hc hr uV=>
   have htt:=uV.2;cases uV.1;have hlen:rows.length=l.length:=by rw [<- hrows];simp
   refine .inr ⟨g,cap,arr,by rw [hlen],hh,ah,fun i x hx=>?_⟩;have h1:rows[i]?=some (fD x):=by rw [<- hrows,gD,hx];rfl
   have h2:=hc i 0 _ (V.s x) h1 rfl;have h3:=hr i 0 _ (V.s x) h1 rfl;rw [adY,Ht] at h2;unfold V.s at h3;generalize cc i 0=v at h2 h3;generalize Fs i 0=fs at h3;cases h3;exact h2
 rcases hcase with ⟨rfl,rfl⟩|⟨g,cap,arr,rfl,hh,hcap,hval⟩
 .refine Calls.mono (h.2 ⟨⟨sep⟩⟩ w) fun e w' hq=>?_;obtain ⟨rfl,rfl⟩:=hq;exact fin w' (Below.refl _ _)
 .have hg:g < w.heap.size:=(tN.1 hh).1;have hm:((l.map fun b=>(⟨⟨b⟩⟩:ByteArray)).map (·.data.toList))=l:=by
   rw [nW];exact (qx fun _ _=>rfl).trans (ML l)
  have:=h.1 g cap (l.map fun b=>(⟨⟨b⟩⟩:ByteArray)) ⟨⟨sep⟩⟩ w (fun j x hx=>by
   rw [gD] at hx;obtain ⟨b,hb,rfl⟩:=eD.1 hx;unfold World.cell?;simp only [hh];simpa using hval j b hb) hg bT (by simpa using hcap) (by rw [hm];exact hj)
  rw [hm,mE] at this;refine Calls.mono this fun e w' hq=>?_;obtain ⟨rfl,hb⟩:=hq;exact fin w' hb
end Go.Av
namespace Go.Av
variable {P:Program}
end Go.Av
