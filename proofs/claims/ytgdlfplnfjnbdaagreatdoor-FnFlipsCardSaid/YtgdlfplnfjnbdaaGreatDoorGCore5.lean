/-
 Abstract values, states, walks, part 5.
-/
import Derived.Test.YtgdlfplnfjnbdaaGreatDoorGCore4
import Derived.OpenShut
import Derived.OpenVars
import Derived.ChangeArms
import Derived.Below
import Derived.Sort.OwnSortedInts
import Derived.Lib.LaidTab
import Derived.Lib.ItoaNum
import Derived.Deep.Draws
import Derived.Sort.OwnSorted
import Derived.Lib.RowBridge
import Derived.Lib.SlicesCompact
import Derived.Lib.Join
set_option linter.all false
namespace Go.Av
def afJ {α:Type} {l:List α} {j:Nat} (h:j < l.length):(l.take<|j+1).reverse=l[j]::(l.take j).reverse:=by
 rw [Mx,cB h];simp
def afK (j:Nat):decide ((j:Int)>=0)=true:=aF
def afL (j:Nat):((j+1:Nat):Int) - 1=(j:Int):=ah
def walk (out:List Int):Int->List Int->Option Int
 | a,[]=>some a
 | a,k::ks=>if a=0\/k≠a - 1 then none else match out[(a - 1).toNat]? with
  | some b=>walk out b ks
  | none=>none
def starts:List (List Int)->List Int->Option (List Int)
 | [],out=>some out
 | ks::l,out=>(walk out (out.length:Int) ks.reverse).bind fun s=>starts l (out++[s])
def Kids (out:List Int):Int->Int->List Int->Prop
 | a,b,[]=>a=b
 | a,b,k::ks=>0<=a/\a<=k/\k < b/\out[k.toNat]?=some a/\Kids out (k+1) b ks
def Low (out:List Int):Prop:=∀ (j:Nat) (s:Int),out[j]?=some s->0<=s/\s<=j
def Low.snoc {out:List Int} (h:Low out) {s:Int} (h0:0<=s) (h1:s<=out.length):Low (out++[s]):=by
 intro j x hx;rw [List.getElem?_append] at hx;split at hx
 .exact h j x hx
 .rename_i hj;have:j - out.length=0:=by
   have:=(bG.1 hx).1;simp at this;omega
  rw [this] at hx;cases hx;omega
def Kids.snoc {out:List Int}:∀ {ks:List Int} {a m:Int},Kids out a m ks->∀ {k b:Int},0<=m->m<=k->k < b->k+1=b->out[k.toNat]?=some m->Kids out a b (ks++[k])
 | [],a,m,h,k,b,h0,h1,h2,h3,h4=>by
  simp only [Kids] at h;subst h;exact ⟨h0,h1,h2,h4,h3⟩
 | k'::ks,a,m,h,k,b,h0,h1,h2,h3,h4=>by
  obtain ⟨g0,g1,g2,g3,g4⟩:=h;exact ⟨g0,g1,ah,g3,Kids.snoc g4 h0 h1 h2 h3 h4⟩
def PZ {out:List Int} (hl:Low out):∀ (ks:List Int) {b a:Int},0<=b->walk out b ks=some a->0<=a/\a<=b
 | [],b,a,h0,h=>by cases h;omega
 | k::ks,b,a,h0,h=>by
  unfold walk at h;split at h
  .cases h
  .rename_i hc;split at h
   .rename_i m hm;have:=hl _ _ hm;have:=PZ hl ks this.1 h;omega
   .cases h
def aev {out:List Int} (hl:Low out):∀ (r:List Int) {b a:Int},0<=b->walk out b r=some a->Kids out a b r.reverse
 | [],b,a,h0,h=>by cases h;rfl
 | k::r,b,a,h0,h=>by
  unfold walk at h;split at h
  .cases h
  .rename_i hc;split at h
   .rename_i m hm;have h1:=hl _ _ hm;have h2:k=b - 1:=by
     cases Classical.em (k=b - 1) with
     | inl h=>exact h
     | inr h=>exact absurd (.inr h) hc
    have h3:b≠0:=fun h=>hc (.inl h);rw [List.reverse_cons];have hm':out[k.toNat]?=some m:=by rw [h2];exact hm
    exact (aev hl r h1.1 h).snoc h1.1 ah ah ah hm'
   .cases h
def Kids.more {out:List Int} (aew:List Int):∀ {ks:List Int} {a b:Int},Kids out a b ks->Kids (out++aew) a b ks
 | [],_,_,h=>h
 | k::ks,a,b,⟨h0,h1,h2,h3,h4⟩=>⟨h0,h1,h2,by rw [lN (bG.1 h3).1];exact h3,h4.more aew⟩
def TM:∀ (l:List (List Int)) {out r:List Int},Low out->starts l out=some r->(∃ m,r=out++m/\m.length=l.length)/\Low r/\
  ∀ (j:Nat) (ks:List Int),l[j]?=some ks->∃ s,r[out.length+j]?=some s/\Kids r s ((out.length+j:Nat):Int) ks
 | [],out,r,hl,h=>by
  cases h;exact ⟨⟨[],aF,rfl⟩,hl,fun j ks h=>by simp at h⟩
 | ks::l,out,r,hl,h=>by
  unfold starts at h;obtain ⟨s,hs,h⟩:=jL.1 h;have h1:=PZ hl _ (Cy _) hs;have hl2:=hl.snoc h1.1 h1.2;obtain ⟨⟨m,hm,hml⟩,hlr,hk⟩:=TM l hl2 h;refine ⟨⟨s::m,by rw [hm];simp,by simp [hml]⟩,hlr,fun j ks' hj=>?_⟩;cases j with
  | zero=>
   simp only [yh,eH] at hj;subst hj;refine ⟨s,by rw [hm];simp,?_⟩;have:=aev hl _ (Cy _) hs;rw [List.reverse_reverse] at this;rw [hm,kW,zM];exact this.more _
  | succ j=>
   simp only [EP] at hj;obtain ⟨s',hs',hk'⟩:=hk j ks' hj;have e:(out++[s]).length+j=out.length+(j+1):=bI;rw [e] at hs' hk';exact ⟨s',hs',hk'⟩
def Kids.lt {out:List Int}:∀ {ks:List Int} {a b:Int},Kids out a b ks->∀ k,k∈ks->a<=k/\0<=k/\k < b
 | [],_,_,_,k,hk=>by cases hk
 | k'::ks,a,b,⟨h0,h1,h2,_,h4⟩,k,hk=>by
  rcases fu.1 hk with rfl|hk
  .omega
  .have:=h4.lt k hk;omega
end Go.Av
namespace Go.Av
open Go
variable {P:Program} {G:Nat->Option (List V)}
theorem dH.imp {o:Oper} {e:Operand->V} {H:Hp} {v v':V} (h:dH P G o e H v H []) (hv:∀ ρ S w x,RV ρ S w x v->RV ρ S w x v'):dH P G o e H v' H []:=by
 intro ρ S F η w aY hH hG;refine (h ρ S F η w aY hH hG).mono ?_;rintro x w' ⟨ρ',S',F',h1,h2,h3,h4⟩;exact ⟨ρ',S',F',hv _ _ _ _ h1,h2,h3,h4⟩
theorem RV.aqv {ρ:Nat->Option Value} {S:Nat->Prop} {w:World} {v:Value} {cells:List V} {x:V} (h:RV ρ S w v (.el cells)) (hx:cells[0]?=some x):RV ρ S w v (.el [x]):=by
 obtain ⟨a,cs,rfl,h1,h2⟩:=h.ado
 refine .el a [x] cs (fun j y hy=>?_) (fun j y hy=>?_);all_goals
  cases j with
  | zero=>
   simp only [yh,eH] at hy;subst hy;first
    | exact h1 0 x hx
    | exact h2 0 x hx
  | succ j=>simp at hy
theorem RV.aqw {ρ:Nat->Option Value} {S:Nat->Prop} {w:World} {v:Value} {nn x:Bool} {rows:List (List V)} (h:RV ρ S w v (.sl nn x rows)):RV ρ S w v (.sl false x rows):=by
 cases h with
 | sl _ _ _ _ h=>
  refine .sl _ _ _ _ ?_;generalize hF:([]:List Nat)=F at h;cases h with
  | iF=>exact .iF _
  | shr a cap nn rows k cs h1 h2 h3 h4 h5=>exact .shr a cap _ rows k cs h1 h2 h3 h4 h5
  | exc=>cases hF
theorem AC.mono {G G':Nat->Option (List V)} {f:FuncId} {vs:List V} {H:Hp} {r:V} {H1:Hp} (h:AC P G f vs H r H1) (hs:∀ g cs,G g=some cs->G' g=some cs):AC P G' f vs H r H1:=
 fun ρ S F xs w a b c d=>h ρ S F xs w a b c fun g cs hg=>d g cs (hs g cs hg)
def NS (D:Tab) (G:Nat->Option (List V)) (ops:Array Oper) (i:Nat) (T:List V):Option (List V×Int×Nat):=
 match jg ops i T with
 | some (.indexAddr t x ix)=>match D.at t,ev G T x,ev G T ix with
  | some it,.el cs,.c (.int _ n)=>match it.d with
   | .arr len el=>match D.at el with
    | some ie=>if ie.size=1 then some (cs,n,len) else none
    | none=>none
   | _=>none
  | _,_,_=>none
 | _=>none
theorem W.NS {D:Tab} (hD:bK P D) {ops:Array Oper} {draw:Bool} {T0:List V} {H0:Hp} {i:Nat} {T:List V} {H:Hp} {Es:List (Bool×Eff)} {Q:St->Prop} {α:Type} (enc:α->V) {l:List α} {n:Int} {x:α} (hx:ix l n=some x)
  (h:NS D G ops i T=some (l.map enc,n,l.length))
  (k:W P G ops draw T0 H0 (i+1) (cZ T (fD ops i)<|.el [enc x]) H (Es++[(true,{v:=.el [enc x]})]) Q):W P G ops draw T0 H0 i T H Es Q:=by
 obtain ⟨h1,h2⟩:=yS hx;unfold Av.NS at h;split at h
 .rename_i t xo io hop;split at h
  .rename_i it cs kk n' ht hxv hiv;split at h
   .rename_i len el hit;split at h
    .rename_i ie hel;split at h
     .rename_i hs;simp only [eH,jD] at h;obtain ⟨rfl,rfl,rfl⟩:=h;refine ug (.el [enc x]) [] hop (fun o ho e' H' he _=>?_) k;have hev:=(he xo dL).trans hxv;refine dH.imp (apu (v:=.el ((l.map enc).drop n'.toNat)) hD n'.toNat ho ht hit hel ?_ ((he io dL).trans hiv) h1 (bG.1 h2).1) fun ρ S w y hy=>hy.aqv ?_
      .rw [hev,hs,Oe];rfl
      .rw [wO,zM,bZ,h2];rfl
     .cases h
    .cases h
   .cases h
  .cases h
 .cases h
def NP (D:Tab) (G:Nat->Option (List V)) (ops:Array Oper) (i:Nat) (T:List V):Option (List V):=
 match jg ops i T with
 | some (.slice t x none none none)=>match D.at t,ev G T x with
  | some it,.el cs=>match it.d with
   | .arr len el=>match D.at el with
    | some ie=>if ie.size=1/\cs.length=len/\len<=maxLen then some cs else none
    | none=>none
   | _=>none
  | _,_=>none
 | _=>none
theorem W.NP {D:Tab} (hD:bK P D) {ops:Array Oper} {draw:Bool} {T0:List V} {H0:Hp} {i:Nat} {T:List V} {H:Hp} {Es:List (Bool×Eff)} {Q:St->Prop} {α:Type} (enc:α->V) (l:List α)
  (h:NP D G ops i T=some (l.map enc))
  (k:W P G ops draw T0 H0 (i+1) (cZ T (fD ops i)<|.sl false false<|l.map fun x=>[enc x]) H (Es++[(true,{v:=.sl false false (l.map fun x=>[enc x])})]) Q):W P G ops draw T0 H0 i T H Es Q:=by
 unfold Av.NP at h;split at h
 .rename_i t xo hop;split at h
  .rename_i it cs ht hxv;split at h
   .rename_i len el hit;split at h
    .rename_i ie hel;split at h
     .rename_i hs;simp only [eH] at h;subst h;refine ug (.sl false false _) [] hop (fun o ho e' H' he _=>?_) k;have hev:=(he xo dL).trans hxv;have:=apy (G:=G) (P:=P) (H:=H') hD ho ht hit hel hs.1 hev hs.2.1 hs.2.2;rw [Az] at this;exact dH.imp this fun ρ S w y hy=>hy.aqw
     .cases h
    .cases h
   .cases h
  .cases h
 .cases h
theorem ama {f:FuncId} {x:Bool} {rows:List (List V)} {vs:List V} {H:Hp} {r:V} {H1:Hp} (h0:rows=[]->AC P G f (.c (.slice none 0 0)::vs) H r H1) (h1:AC P G f (.sl true x rows::vs) H r H1):AC P G f (.sl false x rows::vs) H r H1:=by
 intro ρ S F xs w hsz hxs hH hG;have aex:=hxs 0 _ rfl;generalize hv:xs.getD 0 undef=v at aex;cases aex with
 | sl _ _ _ _ h=>
  generalize hF:([]:List Nat)=F0 at h;cases h with
  | iF=>
   refine h0 rfl ρ S F xs w (by simpa using hsz) (fun i y hy=>?_) hH hG;cases i with
   | zero=>
    simp only [yh,eH] at hy;subst hy;rw [hv];exact .c _
   | succ i=>exact hxs (i+1) y (by simpa using hy)
  | shr a cap nn rows k cs h3 h4 h5 h6 h7=>
   refine h1 ρ S F xs w (by simpa using hsz) (fun i y hy=>?_) hH hG;cases i with
   | zero=>
    simp only [yh,eH] at hy;subst hy;rw [hv];exact .sl _ _ _ _ (.shr a cap true rows k cs h3 h4 h5 h6 h7)
   | succ i=>exact hxs (i+1) y (by simpa using hy)
  | exc=>cases hF
end Go.Av
namespace Go.Av
open Go.RowKit Go.WideShapes Go.ChangeShapes
variable {P:Program} {G:Nat->Option (List V)}
theorem aoz {f:FuncId} {vs:List V} {r:V} (h:AC P G f vs [] r []) (S:Nat->Prop) {xs:Array Value} {w:World} (hS:∀ b,S b->b < w.heap.size) (hG:yG G S w) (hsz:xs.size=vs.length)
  (hxs:∀ i x,vs[i]?=some x->RV (fun _=>none) S w (xs.getD i undef) x):
  Calls P f xs w fun e w'=>∃ x S',e=.returned x/\RV (fun _=>none) S' w' x r/\Below w.heap.size w w':=by
 refine (h (fun _=>none) S (fun _=>[]) xs w hsz hxs ⟨fun _ _=>rfl,fun _ _ h=>(by cases h),fun _ _ h=>(by cases h),fun _ _ _ _ _ h=>(by cases h),fun _ _ _ h=>(by cases h),fun _ _ _ h=>(by cases h),hS⟩ hG).mono ?_;rintro e w' ⟨x,ρ',S',F',rfl,hx,_,hE,_⟩;refine ⟨x,S',rfl,hx.mono (fun _ _ h _=>(by cases h)) fun b hb=>⟨hb,rfl⟩,hE.os,hE.tape,hE.output,hE.size,fun k hk=>hE.keep k hk ?_⟩;rintro ⟨i,o,hi,_⟩;cases hi
def strCells (l:List (List UInt8)):Array Value:=(l.map fun s=>Value.string ⟨⟨s⟩⟩).toArray
theorem Wq {H:Type} {enc:TypeId×Value->H} {w:World} {base:Nat} {sp:Nat->Bool} {held:Bool} {fuel:Nat} {t el:TypeId} {n:Nat} {cs:Array Value} {l:List (List UInt8)} {p:List MemPlace}
  (h:DataW.trod enc P w base sp held fuel t cs.toList=some (.agg<|l.map fun s=>.lit<|.string s,p)) (ht:P.underlying t=some (.array n el)) (hel:P.underlying el=some .string) (h1:P.cellsOf el=1) (hn:P.cellsOf t=n):cs=strCells l:=by
 obtain ⟨xs,m,_,ex,hlen,hl,he⟩:=DataW.trod_array ht h;rw [hn] at hlen;simp only [jD,DataW.agg.injEq] at ex;obtain ⟨e1,_⟩:=ex;have hll:l.length=n:=by
  have:=congrArg List.length e1;simp only [yI] at this;omega
 unfold strCells;have hcs:cs.size=n:=by simpa using hlen
 apply Array.ext
 .simp [hcs,hll]
 .intro i hi _;have hin:i < n:=ah;have hx:=he i hin;rw [h1,Oe] at hx;have hdrop:(cs.toList.drop i).take 1=[cs[i]]:=by
   rw [IL<|by simpa using hi];simp
  rw [hdrop] at hx;have hxs:xs[i]?=some xs[i]:=cB ah;rw [hxs] at hx;obtain ⟨s,hs,hxi,_⟩:=DataW.trod_string hel hx;simp only [List.cons.injEq,and_true] at hs;have e2:(l.map fun s=>(DataW.lit (.string s):DataW H))[i]?=(xs.map (·.1))[i]?:=by rw [e1]
  rw [bZ,bZ,hxs,yK,hxi,cB ah,yK] at e2;simp only [eH,DataW.lit.injEq,Lit.string.injEq] at e2;rw [hs];simp only [List.getElem_toArray,List.getElem_map,e2]
theorem aqx {w:World} {S:Nat->Prop} {name:String} {g:Nat} {l:List (List UInt8)} (hg:P.globalNamed name=some g) (hv:w.var? P name=some (strCells l)) (hS:S g):RV (fun _=>none) S w (.pointer<|some ⟨g,0,none⟩) (.el<|l.map aG):=by
 refine .el ⟨g,0,none⟩ _ (fun j=>(strCells l).getD j undef) (fun j x hx=>⟨hS,?_⟩) (fun j x hx=>?_);all_goals
  rw [bZ,bU] at hx;obtain ⟨s,hs,rfl⟩:=hx;have hj:j < l.length:=(bG.1 hs).1;have hc:(strCells l)[j]?=some (Value.string ⟨⟨s⟩⟩):=by
   unfold strCells;rw [tX,bZ,hs];rfl
  have hd:(strCells l).getD j undef=Value.string ⟨⟨s⟩⟩:=by
   rw [iL,hc];rfl
  rw [hd]
 .have:=World.var?_cell hg hv j;rw [hc] at this;have e:Addr.add ⟨g,0,none⟩ j=⟨g,j,none⟩:=by
   unfold Addr.add;split<;>simp_all
  rw [e];exact this
 .exact .c _ rfl
theorem Jw {w:World} {name:String} {g:Nat} {cs:Array Value} (hg:P.globalNamed name=some g) (hv:w.var? P name=some cs):g < w.heap.size:=by
 unfold World.var? at hv;rw [hg] at hv;simp only [aD] at hv;cases hh:w.heap[g]? with
 | none=>rw [hh] at hv;cases hv
 | some o=>exact (lW.1 hh).1
theorem acP {H:Type} {enc:TypeId×Value->H} (hl:laidOutB P=true) {W W':World} (hb:Below W.heap.size W W') {sp:Nat->Bool}:
  ∀ {ns:List String} {gs:List (DataW H)} {ps:List MemPlace},varsRowed P ns=true->DataW.TrodVars enc P W (fun _=>true) ns gs ps->(∀ p,p∈ps->sp p.block=true)->DataW.TrodVars enc P W' sp ns gs ps
 | [],[],_,_,h,_=>h
 | [],_::_,_,_,h,_=>h.elim
 | _::_,[],_,_,h,_=>h.elim
 | n::ns,d::ds,ps,hv,h,hs=>by
  have hlt:=h.lt;obtain ⟨g,t,cs,fuel,p,q,h1,h2,h3,h4,h5,e⟩:=h;have hg:=Jw h1 h3;have ht:P.readableRec t=true/\t < P.types.size:=by
   simp only [varsRowed,wQ,dS] at hv;obtain ⟨gl,hgl,rfl⟩:=bU.1 h2;have:=hv.1;simpa [h1,hgl] using this
  have hp:∀ x,x∈p->x∈ps:=fun x hx=>by rw [e];simp [hx]
  have h3':W'.var? P n=some cs:=by
   unfold World.var? at h3 ⊢;rw [h1] at h3 ⊢;simp only [aD] at h3 ⊢;rw [hb.block g hg];exact h3
  refine ⟨g,t,cs,fuel,p,q,h1,h2,h3',DataW.trod_stays (kids_book hl ht.1) (book_sized ht.1) (fun h=>by cases h) ⟨ht.2,book_self t⟩ h4 (fun x hx=>hb.same<|hlt x<|hp x hx) fun x hx=>hs x<|hp x hx,?_,e⟩;exact acP hl hb (by simp only [varsRowed,wQ,dS] at hv;exact hv.2) h5 fun x hx=>hs x (by rw [e];simp [hx])
theorem acJ {H:Type} {enc:TypeId×Value->H} {W:World} {sp:Nat->Bool}:∀ {ns:List String} {gs:List (DataW H)} {ps:List MemPlace},DataW.TrodVars enc P W sp ns gs ps->gs.length=ns.length
 | [],[],_,_=>rfl
 | [],_::_,_,h=>h.elim
 | _::_,[],_,h=>h.elim
 | n::ns,d::ds,ps,⟨_,_,_,_,_,_,_,_,_,_,h,_⟩=>congrArg (·+1) (acJ h)
theorem XG {w:World} {name:String} {g:Nat} {arr:Array Value} (hg:P.globalNamed name=some g) (hv:w.var? P name=some arr):∃ ety fr,w.heap[g]?=some (.cells arr ety fr):=by
 unfold World.var? at hv;rw [hg,aD] at hv;split at hv
 .rename_i cs ety fr h;cases hv;exact ⟨ety,fr,h⟩
 .cases hv
theorem Ws {w:World} {S:Nat->Prop} {name:String} {g:Nat} {l:List (List UInt8)} (hg:P.globalNamed name=some g) (hv:w.var? P name=some (strCells l)) (hS:S g):
  RV (fun _=>none) S w (.pointer<|some ⟨g,0,none⟩) (.el<|l.map aG)/\∃ arr ety fr,w.heap[g]?=some (.cells arr ety fr)/\arr.size=(l.map aG).length/\S g:=by
 obtain ⟨ety,fr,h⟩:=XG hg hv;exact ⟨aqx hg hv hS,_,ety,fr,h,by simp [strCells],hS⟩
def vB (k:IntKind) (l:List Int):Array Value:=(l.map fun z=>Value.int k z).toArray
def rC (k:IntKind) (z:Int):V:=.c (.int k z)
theorem aor {H:Type} {enc:TypeId×Value->H} {w:World} {base:Nat} {sp:Nat->Bool} {held:Bool} {fuel:Nat} {t el:TypeId} {n:Nat} {cs:Array Value} {k:IntKind} {l:List Int} {p:List MemPlace}
  (h:DataW.trod enc P w base sp held fuel t cs.toList=some (.agg<|l.map fun z=>.lit<|.int k z,p)) (ht:P.underlying t=some (.array n el)) (hel:P.underlying el=some (.int k)) (h1:P.cellsOf el=1) (hn:P.cellsOf t=n):cs=vB k l:=by
 obtain ⟨xs,m,_,ex,hlen,hl,he⟩:=DataW.trod_array ht h;rw [hn] at hlen;simp only [jD,DataW.agg.injEq] at ex;obtain ⟨e1,_⟩:=ex;have hll:l.length=n:=by
  have:=congrArg List.length e1;simp at this;omega
 have hcs:cs.size=n:=by simpa using hlen
 apply Array.ext
 .rw [hcs];simp [vB,hll]
 .intro i h2 h3;have hin:i < n:=ah;have hx:=he i hin;rw [h1,Oe] at hx;have hdrop:(cs.toList.drop i).take 1=[cs[i]]:=by
   rw [IL<|by simpa using h2];simp
  rw [hdrop] at hx;have hxs:xs[i]?=some xs[i]:=cB ah;rw [hxs] at hx;obtain ⟨s,hs,hxi,_⟩:=DataW.trod_int hel hx;simp only [List.cons.injEq,and_true] at hs;have e2:(l.map fun z=>(DataW.lit (.int k z):DataW H))[i]?=(xs.map (·.1))[i]?:=by rw [e1]
  rw [bZ,bZ,hxs,yK,hxi,cB ah,yK] at e2;simp only [eH,DataW.lit.injEq,Lit.int.injEq,true_and] at e2;rw [hs];simp only [vB,List.getElem_toArray,List.getElem_map,e2]
theorem aou {w:World} {S:Nat->Prop} {name:String} {g:Nat} {k:IntKind} {l:List Int} (hg:P.globalNamed name=some g) (hv:w.var? P name=some (vB k l)) (hS:S g):
  RV (fun _=>none) S w (.pointer<|some ⟨g,0,none⟩) (.el<|l.map<|rC k)/\∃ arr ety fr,w.heap[g]?=some (.cells arr ety fr)/\arr.size=(l.map<|rC k).length/\S g:=by
 obtain ⟨ety,fr,h⟩:=XG hg hv;refine ⟨?_,_,ety,fr,h,by simp [vB],hS⟩;refine .el ⟨g,0,none⟩ _ (fun j=>(vB k l).getD j undef) (fun j x hx=>⟨hS,?_⟩) (fun j x hx=>?_);all_goals
  rw [bZ,bU] at hx;obtain ⟨s,hs,rfl⟩:=hx;have hc:(vB k l)[j]?=some (Value.int k s):=by
   unfold vB;rw [tX,bZ,hs];rfl
  have hd:(vB k l).getD j undef=Value.int k s:=by
   rw [iL,hc];rfl
  rw [hd]
 .have:=World.var?_cell hg hv j;rw [hc] at this;have e:Addr.add ⟨g,0,none⟩ j=⟨g,j,none⟩:=by
   unfold Addr.add;split<;>simp_all
  rw [e];exact this
 .exact .c _ rfl
end Go.Av
namespace Go.Av
open Go
variable {P:Program} {G:Nat->Option (List V)}
theorem eqGuard_at_slice (P:Program) (w:World) (op:BinOp) (t:TypeId) (x y:Operand) (a b:Option Addr) (n c n' c':Nat):(eqGuard op t x y (.slice a n c)<|.slice b n' c').run P w=.ok () w:=by
 unfold eqGuard;cases op<;>rfl
theorem aqy {P:Program} {t el:TypeId} (hu:P.underlying t=some (.slice el)) (w:World) (a:Option Addr) (n c:Nat):(Op.equal t (.slice a n c)<|.slice none 0 0).run P w=.ok a.isNone w:=by
 unfold Op.equal;obtain ⟨k,hk⟩:∃ k,Op.maxDepth=k+1:=⟨_,rfl⟩
 rw [hk,Op.equalIn];simp only [dG,iK hu,dK];cases a<;>rfl
theorem aey {P:Program} {t el:TypeId} (hu:P.underlying t=some (.slice el)) (w:World) (a:Option Addr) (n c:Nat):(binOp .eql t (.slice a n c)<|.slice none 0 0).run P w=.ok (.bool a.isNone) w:=by
 show (Op.equal t (.slice a n c) (.slice none 0 0) >>=fun b=>pure<|Value.bool b).run P w=_;simp only [dG,aqy hu,dK,gM]
theorem aqz {D:Tab} (hD:bK P D) {o:Oper} {e:Operand->V} {H:Hp} {t t' el:TypeId} {it:Ty} {x y:Operand} (q:Bool) (ho:o.op=.binOp .eql t x y t') (ht:D.at t=some it) (hit:it.d=.slice el) (hy:e y=.c (.slice none 0 0))
  (hx:(e x=.c (.slice none 0 0)/\q=true)\/∃ b rows,e x=.sl true b rows/\q=false):dH P G o e H (.c<|.bool q) H []:=by
 refine wU fun ρ S F η w aY hH=>?_;have h1:=aY x (by simp [ho,Op.operands]);have h2:=aY y (by simp [ho,Op.operands]);rw [hy] at h2;have hu:=vF hD ht hit;refine ⟨_,?_,.c _⟩;unfold execOp;rcases hx with ⟨hx,rfl⟩|⟨b,rows,hx,rfl⟩
 .rw [hx] at h1;simp only [ho,h1.eU,h2.eU,dG,eqGuard_at_slice,dK,aey hu,gM,Option.isNone_none]
 .rw [hx] at h1;have hv:∃ a n c,η x=.slice (some a) n c:=by
   generalize η x=v at h1;cases h1 with
   | sl _ _ _ _ h=>cases h with
    | shr a cap nn rows k cs=>exact ⟨_,_,_,rfl⟩
  obtain ⟨a,n,c,hv⟩:=hv;simp only [ho,hv,h2.eU,dG,eqGuard_at_slice,dK,aey hu,gM,Option.isNone_some]
def nlW (D:Tab) (G:Nat->Option (List V)) (ops:Array Oper) (i:Nat) (T:List V):Option Bool:=
 match jg ops i T with
 | some (.binOp .eql t x y _)=>match D.at t,ev G T y with
  | some it,.c (.slice none 0 0)=>match it.d with
   | .slice _=>match ev G T x with
    | .c (.slice none 0 0)=>some true
    | .sl true _ _=>some false
    | _=>none
   | _=>none
  | _,_=>none
 | _=>none
theorem abR {D:Tab} (hD:bK P D) {ops:Array Oper} {draw:Bool} {T0:List V} {H0:Hp} {i:Nat} {T:List V} {H:Hp} {Es:List (Bool×Eff)} {Q:St->Prop} (q:Bool) (h:nlW D G ops i T=some q)
  (k:W P G ops draw T0 H0 (i+1) (cZ T (fD ops i)<|.c<|.bool q) H (Es++[(true,{v:=.c (.bool q)})]) Q):W P G ops draw T0 H0 i T H Es Q:=by
 unfold nlW at h;split at h
 .rename_i t x y t' hop;split at h
  .rename_i it ht hy;split at h
   .rename_i el hit;refine ug (.c<|.bool q) [] hop (fun o ho e' H' he _=>?_) k;refine aqz hD q ho ht hit ((he y dL).trans hy) ?_;rw [he x dL];split at h
    .rename_i hx;cases h;exact .inl ⟨hx,rfl⟩
    .rename_i b rows hx;cases h;exact .inr ⟨b,rows,hx,rfl⟩
    .cases h
   .cases h
  .cases h
 .cases h
end Go.Av
namespace Go.Av
def Vg (P:Program) (gf:FuncId):Prop:=
 ∀ (l g n:Nat) (Inv:Nat->World->Prop) (Stop:World->Prop) (w:World),n<=maxLen->
  (∀ W,Inv n W->∃ a cap,W.cell? ⟨g,0,none⟩=some (.slice a n cap))->(∀ k W d,Inv k W->Inv k {W with drawn:=d})->
  (∀ k W,Inv (k+1) W->k < n/\∃ a cap v,W.cell? ⟨g,0,none⟩=some (.slice (some a) n cap)/\n<=cap/\W.cell? (a.add k)=some v/\v.oneCell'=true/\
   ∃ f tmps qd body,(Instr.yield l #[.int .i64 k,v]).run P W=.ok (.round l f tmps qd body) W/\
    RoundIn Fence.wide 0 P l f tmps qd body W fun e W'=>(e=.returned (.bool true)/\Inv k W')\/(e=.returned (.bool false)/\Stop W'))->
  Inv n w->Calls P gf #[.func (.yield l) #[] #[],.pointer<|some ⟨g,0,none⟩] w fun e W'=>(∃ v,e=.returned v)/\(Inv 0 W'\/Stop W')
mutual
def V.sm:V->Bool
 | .own j=>Nat.blt j 100
 | .loc j _=>Nat.blt j 100
 | .vp j _ _ _=>Nat.blt j 100
 | .vw j _ _ _=>Nat.blt j 100
 | .fn _ cs=>yV cs
 | .agg cs=>yV cs
 | .dX cs=>yV cs
 | _=>true
def yV:List V->Bool
 | []=>true
 | x::r=>V.sm x&&yV r
end
mutual
def aeA:∀ {x:V} {i:Nat},x.sm=true->x.has i=true->i < 100
 | .own j,i,h,hh=>by simp [V.sm,V.has] at h hh;omega
 | .loc j _,i,h,hh=>by simp [V.sm,V.has] at h hh;omega
 | .vp j _ _ _,i,h,hh=>by simp [V.sm,V.has] at h hh;omega
 | .vw j _ _ _,i,h,hh=>by simp [V.sm,V.has] at h hh;omega
 | .fn _ cs,i,h,hh=>Sk (by simpa [V.sm] using h) (by simpa [V.has] using hh)
 | .agg cs,i,h,hh=>Sk (by simpa [V.sm] using h) (by simpa [V.has] using hh)
 | .dX cs,i,h,hh=>Sk (by simpa [V.sm] using h) (by simpa [V.has] using hh)
 | .junk,i,h,hh=>by simp [V.has] at hh
 | .c _,i,h,hh=>by simp [V.has] at hh
 | .sl _ _ _,i,h,hh=>by simp [V.has] at hh
 | .el _,i,h,hh=>by simp [V.has] at hh
def Sk:∀ {l:List V} {i:Nat},yV l=true->V.iM i l=true->i < 100
 | [],i,h,hh=>by simp [V.iM] at hh
 | x::r,i,h,hh=>by
  simp only [yV,dS] at h;simp only [V.iM,kV] at hh;rcases hh with hh|hh
  .exact aeA h.1 hh
  .exact Sk h.2 hh
end
def aqA {l:List V} (h:yV l=true) {x:V} (hx:x∈l):x.sm=true:=by
 induction l with
 | nil=>cases hx
 | cons y l ih=>
  simp only [yV,dS] at h;rcases fu.1 hx with rfl|hx
  .exact h.1
  .exact ih h.2 hx
def XH (m m':Ren):Bool:=m'.all fun p=>Nat.ble 100 p.2||(Nat.blt p.1 100&&bO m p.2==some p.1)
def aqB {m m':Ren} (h:XH m m'=true) {i j:Nat} (hm:bO m' i=some j) (hj:j < 100):i < 100/\bO m j=some i:=by
 have:=gZ.1 h _ (qw hm);simp only [kV,sH,dS,Ao,qM] at this;rcases this with h|h
 .omega
 .exact h
def XI:Exit->Option Code
 | .ret=>some .ret
 | .exit id=>some (.exit id)
 | _=>none
def Fin (m:Ren) (Tc:List V) (Q:Exit->St->Prop) (e:Exit) (H1:Hp):Prop:=
 ∃ m' T2 H2,m'.ok=true/\XH m m'=true/\ru m' Tc T2/\wT m' H1 H2/\Q e ⟨T2,H2⟩
def aeB (m:Ren) (Tc:List V) (Q:Exit->St->Prop) (N:Hp->Prop):Exit->St->Prop
 | .normal,st=>∃ T1 H1,Weak st ⟨T1,H1⟩/\N H1
 | .ret,st=>Fin m Tc Q .ret st.H
 | .exit id,st=>Fin m Tc Q (.exit id) st.H
 | _,_=>False
section
variable {P:Program} {G:Nat->Option (List V)} {L:Option Nat} {B:Nat}
theorem Keeps.putObj {S:Nat->Prop} {W:World} {l:Nat} {o:Obj} (hl: ¬S l):Keeps S W S (W.putObj l o):=
 fun b hb=>⟨hb,yH fun e=>hl<|e ▸ hb⟩
theorem bM.putObj {ρ:Nat->Option Value} {S:Nat->Prop} {F:Nat->List Nat} {H:Hp} {W:World} {l:Nat} {o o':Obj} (h:bM ρ S F H W) (hl: ¬S l) (ho:W.heap[l]?=some o) (hc:∀ arr e m,o≠.cells arr e m):bM ρ S F H (W.putObj l o'):=by
 have hU:∀ b,Ub H F b->(W.putObj l o').heap[b]?=W.heap[b]?:=fun b hb=>yH fun e=>by
  obtain ⟨arr,t,m,hh⟩:=h.blocks hb;rw [e,ho] at hh;cases hh;exact hc _ _ _ rfl
 refine ⟨h.dom,fun i p hp=>?_,h.nodup,h.eX,h.sep,fun i p b hp hb=>by rw [FR];exact h.lt i p b hp hb,fun b hb=>by rw [FR];exact h.slt b hb⟩;obtain ⟨r,hr,bD⟩:=h.obj i p hp;exact ⟨r,hr,bD.mono (fun _ _ h _=>h) (Keeps.putObj hl) fun b hb=>hU b ⟨i,p,hp,hb⟩⟩
theorem fB.putObj {S U S' U':Nat->Prop} {w W:World} {l:Nat} {o:Obj} (h:fB S U w S' U' W) (hl:w.heap.size<=l):fB S U w S' U' (W.putObj l o):=
 ⟨h.os,h.tape,h.output,by rw [FR];exact h.size,fun b hb hu=>(yH ah).trans<|h.keep b hb hu,h.sub,h.newS,h.mM⟩
theorem fB.alloc {S U S' U':Nat->Prop} {w W:World} {o:Obj} (h:fB S U w S' U' W):fB S U w S' U' (W.alloc o):=
 ⟨h.os,h.tape,h.output,tK h.size aF,fun b hb hu=>(Go.RowKit.Below.heap_alloc _ _ _<|qY hb h.size).trans<|h.keep b hb hu,h.sub,h.newS,h.mM⟩
theorem bM.alloc {ρ:Nat->Option Value} {S:Nat->Prop} {F:Nat->List Nat} {H:Hp} {W:World} {o:Obj} (h:bM ρ S F H W):bM ρ S F H (W.alloc o):=by
 have hk:Keeps S W S (W.alloc o):=fun b hb=>⟨hb,Go.RowKit.Below.heap_alloc _ _ _<|h.slt b hb⟩
 refine ⟨h.dom,fun i p hp=>?_,h.nodup,h.eX,h.sep,fun i p b hp hb=>by have:=h.lt i p b hp hb;simp;omega,fun b hb=>by have:=h.slt b hb;simp;omega⟩;obtain ⟨r,hr,bD⟩:=h.obj i p hp;exact ⟨r,hr,bD.mono (fun _ _ h _=>h) hk fun b hb=>Go.RowKit.Below.heap_alloc _ _ _<|h.lt i p b hp hb⟩
structure Aside (S:Nat->Prop) (l D:Nat) (rec:Loop) (W:World):Prop where
 sl: ¬S l
 sD: ¬S D
 hl:W.heap[l]?=some (.loop rec)
 hD:W.heap[D]?=some (.deferred<|some [])
theorem Aside.CF {ρ:Nat->Option Value} {S S' U':Nat->Prop} {F:Nat->List Nat} {H:Hp} {w w':World} {l D:Nat} {rec:Loop} (h:Aside S l D rec w) (hH:bM ρ S F H w) (e:fB S (Ub H F) w S' U' w'):Aside S' l D rec w':=by
 have hUl: ¬Ub H F l:=fun hU=>by obtain ⟨arr,t,m,hc⟩:=hH.blocks hU;rw [h.hl] at hc;cases hc
 have hUD: ¬Ub H F D:=fun hU=>by obtain ⟨arr,t,m,hc⟩:=hH.blocks hU;rw [h.hD] at hc;cases hc
 have hll:l < w.heap.size:=(lW.1 h.hl).1;have hlD:D < w.heap.size:=(lW.1 h.hD).1;refine ⟨fun hs=>?_,fun hs=>?_,(e.keep l hll hUl).trans h.hl,(e.keep D hlD hUD).trans h.hD⟩
 .rcases e.newS l hs with h1|h1|h1
  .exact h.sl h1
  .exact hUl h1
  .omega
 .rcases e.newS D hs with h1|h1|h1
  .exact h.sD h1
  .exact hUD h1
  .omega
theorem Aside.put {S:Nat->Prop} {l D:Nat} {rec rec':Loop} {W:World} (h:Aside S l D rec W) (hne:D≠l):Aside S l D rec' (W.putObj l<|.loop rec'):=
 ⟨h.sl,h.sD,World.putObj_heap_same (lW.1 h.hl).1,(yH hne).trans h.hD⟩
theorem Marks.putObj {S:Nat->Prop} {ds:List Deferred} {W:World} {l:Nat} {o o':Obj} (h:Marks B S ds W) (ho:W.heap[l]?=some o) (hc:∀ x,o≠.deferred x):Marks B S ds (W.putObj l o'):=by
 obtain ⟨hB,Ds,hn,hd,hD⟩:=h;refine ⟨by rw [FR];exact hB,Ds,hn,hd,fun D hm=>?_⟩;obtain ⟨h1,h2,h3⟩:=hD D hm;refine ⟨h1,h2,(yH fun e=>?_).trans h3⟩;rw [e,ho] at h3;exact hc _ (nU h3)
theorem jf.putObj {ρ:Nat->Option Value} {S:Nat->Prop} {F:Nat->List Nat} {st:St} {a:Act} {W:World} {l:Nat} {rc:Loop} {o':Obj} (h:jf B G ρ S F st a W) (hl: ¬S l) (ho:W.heap[l]?=some (.loop rc)):jf B G ρ S F st a (W.putObj l o'):=
 ⟨h.defers.putObj ho (fun _ h=>by cases h),h.size,fun i x hx=>(h.tmps i x hx).mono (fun _ _ h _=>h)<|Keeps.putObj hl,h.heap.putObj hl ho (fun _ _ _ h=>by cases h),h.glob.mono<|Keeps.putObj hl⟩
theorem bM.drawn {ρ:Nat->Option Value} {S:Nat->Prop} {F:Nat->List Nat} {H:Hp} {W:World} (h:bM ρ S F H W) (d:Nat):bM ρ S F H {W with drawn:=d}:=by
 refine ⟨h.dom,fun i p hp=>?_,h.nodup,h.eX,h.sep,h.lt,h.slt⟩;obtain ⟨r,hr,bD⟩:=h.obj i p hp;exact ⟨r,hr,bD.mono (fun _ _ h _=>h) (fun b hb=>⟨hb,rfl⟩) fun _ _=>rfl⟩
theorem XJ {bN:Nat->Option Value} {S1:Nat->Prop} {F1:Nat->List Nat} {H1:Hp} {W:World} {j gb:Nat} {ety:TypeId} {nn:Bool} {α:Type} {enc:α->V} {la:List α} (hH1:bM bN S1 F1 H1 W)
  (hl:look H1 j=some (.cells ety [.sl nn false<|la.map fun x=>[enc x]])) (hr:∀ r,bN j=some r->r=.pointer (some ⟨gb,0,none⟩)):
  ∃ a0 cap,W.cell? ⟨gb,0,none⟩=some (.slice a0 la.length cap)/\la.length<=maxLen/\∀ k x,la[k]?=some x->∃ b v,a0=some b/\la.length<=cap/\W.cell? (b.add k)=some v/\v.oneCell'=true/\RD S1 W v (enc x) []:=by
 obtain ⟨r,hr',bD⟩:=hH1.obj j _ hl;have e:=hr r hr';subst e;generalize F1 j=Fj at bD;cases bD with
 | cells g arr _ _ hh hsz hcs=>
  obtain ⟨c,h1,h2,h3⟩:=hcs 0 _ rfl;have hcell:W.cell? ⟨gb,0,none⟩=some c:=(JB W gb 0 arr _ (0,0) hh).trans h1;have hd:=h3.JJ;have key:∀ rows,(la.map fun x=>[enc x])=rows->RD S1 W c (.sl nn false rows) []->∃ a0 cap,c=.slice a0 la.length cap/\la.length<=maxLen/\∀ k x,la[k]?=some x->∃ b v,a0=some b/\la.length<=cap/\W.cell? (b.add k)=some v/\v.oneCell'=true/\RD S1 W v (enc x) []:=by
   intro rows hrows hd;cases hd with
   | iF=>
    have:la=[]:=by simpa using hrows
    subst this;exact ⟨none,0,rfl,yJ _,fun k x hx=>by simp at hx⟩
   | shr a cap _ _ k cs hlen hcap hk hc hr=>
    have hl:rows.length=la.length:=by rw [<- hrows];simp
    refine ⟨some a,cap,by rw [hl],ah,fun k' x hx=>?_⟩;have hrow:rows[k']?=some [enc x]:=by rw [<- hrows,bZ,hx];rfl
    have hk1:1=k:=hk k' _ hrow;obtain ⟨_,hcl⟩:=hc k' 0 _ (enc x) hrow rfl;have hrd:=hr k' 0 _ (enc x) hrow rfl;subst hk1;exact ⟨a,cs k' 0,rfl,ah,by simpa using hcl,hrd.one,hrd⟩
  obtain ⟨a0,cap,rfl,h5,h6⟩:=key _ rfl hd;exact ⟨a0,cap,hcell,h5,h6⟩
theorem aqD {g:Operand} {qd body:Code} {T0:List V} {H0:Hp} {Q:Exit->St->Prop} {gf:FuncId} (hit:Vg P gf) (hcf:oD P gf) {α ι:Type} (enc:α->V) (la:List α)
  (m:Ren) (Tc:List V) (i0:ι) (J:ι->Hp) (R:List α->ι->Prop) (j:Nat) (ety:TypeId) (nn:Bool) (p0 p1:Tmp)
  (hm:m.ok=true) (hT:ru m T0 Tc) (hH:wT m H0 (J i0)) (hsm:yV Tc=true) (hg:ev G Tc g=.fn gf [.loc j 0]) (hj:j < 100) (hp:p0≠p1)
  (Kc:∀ i,look (J i) j=some (.cells ety [.sl nn false<|la.map fun x=>[enc x]])) (hR:R la.reverse i0)
  (round:∀ x xs i,R (x::xs) i->∀ L,∃ T1 H1,CO (some L) P G qd ⟨(Tc.set p0 .junk).set p1<|enc x,J i⟩ (fun e st=>e=.normal/\Weak st ⟨T1,H1⟩)/\
   CO (some L) P G body ⟨T1,H1⟩ (aeB m Tc Q fun H=>∃ i',R xs i'/\H=J i'))
  (done:∀ i,R [] i->Fin m Tc Q .normal (J i)):CO none P G (.rangeFunc g #[p0,p1] qd body) ⟨T0,H0⟩ Q:=by
 intro B ρ S F a w RR hst hn;obtain ⟨yM,Fc,hHc,k2,k3,k4⟩:=hst.heap.rn hm hH;have hTc:∀ i y,Tc[i]?=some y->RV yM S w (a.tmps.getD i undef) y:=fun i y hy=>by
  rcases hT.get hy with rfl|⟨x,hx,rfl⟩
  .exact .junk _
  .exact (hst.tmps i x hx).rn k2
 have hsz:a.tmps.size=Tc.length:=hst.size.trans hT.length;have hE0:fB S (Ub H0 F) w S (Ub (J i0) Fc) w:=⟨rfl,rfl,rfl,fq _,fun _ _ _=>rfl,fun _ h=>h,fun _ h=>.inl h,fun b ⟨i,o,ho,hb⟩=>by
  obtain ⟨i',o',_,hl,e,_⟩:=k4 i o ho;exact .inl ⟨i',o',hl,e ▸ hb⟩⟩
 have hgv:∃ gb,a.eval g=.func (.func gf) #[] #[.pointer<|some ⟨gb,0,none⟩]/\yM j=some (.pointer<|some ⟨gb,0,none⟩):=by
  have h1:RV yM S w (a.eval g) (.fn gf [.loc j 0]):=by
   rw [<- hg];cases g with
   | tmp t=>
    simp only [Act.eval,ev,FM];cases ht:Tc[t]? with
    | none=>exact .junk _
    | some y=>exact hTc t y ht
   | const v=>exact .c v
   | global q=>
    simp only [ev] at hg;split at hg<;>cases hg
   | func f=>simp [ev] at hg
  obtain ⟨arr,e1,e2,e3⟩:=h1.JK;obtain ⟨r,hr,_⟩:=hHc.obj j _ (Kc i0);obtain ⟨arr⟩:=arr
  match arr,e2 with
  | [v0],_=>
   obtain ⟨gb,r1,r2⟩:=(e3 0 (.loc j 0) v0 rfl rfl).RF r hr;exact ⟨gb,by rw [e1,r2],by rw [hr,r1]⟩
 obtain ⟨gb,hgv,hgr⟩:=hgv;refine wpIn_rangeFunc ?_;intro fn _;obtain ⟨rec,hrec⟩:∃ rec:LoopState->Option Code->Loop,rec=fun st pe=>{state:=st,pending:=pe,fn,tmps:=a.tmps,params:=#[p0,p1],assign:=qd,body,defers:=w.heap.size}:=⟨_,rfl⟩
 obtain ⟨W1,hW1⟩:∃ W1,(w.alloc<|.deferred<|some []).alloc (.loop<|rec .ready none)=W1:=⟨_,rfl⟩
 have hL1:W1.heap[w.heap.size+1]?=some (.loop<|rec .ready none):=by
  rw [<- hW1];have:=World.alloc_heap_new (w.alloc<|.deferred<|some []) (.loop<|rec .ready none);rwa [World.size_alloc] at this
 have hK1:W1.heap[w.heap.size]?=some (.deferred<|some []):=by
  rw [<- hW1];exact (Go.RowKit.Below.heap_alloc _ _ _ aF).trans (World.alloc_heap_new w _)
 have hnS:∀ b,w.heap.size<=b-> ¬S b:=fun b hb hs=>by have:=hst.heap.slt b hs;omega
 let In:(Hp->Prop)->Loop->World->Prop:=fun N rc W=>∃ H1 bN S1 F1,N H1/\bM bN S1 F1 H1 W/\fB S (Ub H0 F) w S1 (Ub H1 F1) W/\iV yM bN/\Aside S1 (w.heap.size+1) w.heap.size rc W
 let Inv:Nat->World->Prop:=fun k W=>k<=la.length/\In (fun H=>∃ i,R (la.take k).reverse i/\H=J i) (rec .ready none) W
 let Stop:World->Prop:=fun W=>∃ e:Exit,(e=.ret\/∃ id,e=.exit id)/\In (Fin m Tc Q e) (rec .done<|XI e) W
 have aqE:Inv la.length W1:=by
  refine ⟨fq _,J i0,yM,S,Fc,⟨i0,by simpa using hR,rfl⟩,?_,?_,iV.refl _,hnS _ ah,hnS _ ah,hL1,hK1⟩
  .rw [<- hW1];exact hHc.alloc.alloc
  .rw [<- hW1];exact hE0.alloc.alloc
 have aeG:∀ {bN:Nat->Option Value} {S1 U1:Nat->Prop} {W:World},fB S (Ub H0 F) w S1 U1 W->iV yM bN->∀ i y,Tc[i]?=some y->RV bN S1 W (a.tmps.getD i undef) y:=fun hE hA i y hy=>
  (hTc i y hy).mono (fun q r hq hh=>hA q r (aeA (aqA hsm<|jA hy) hh) hq) (hst.heap.keeps hE)
 have aeH:∀ {bN:Nat->Option Value},iV yM bN->∀ r,bN j=some r->r=.pointer (some ⟨gb,0,none⟩):=fun hA r hr=>by
  have:=hA j r hj hr;rw [hgr] at this;exact (nU this).symm
 have hmax:la.length<=maxLen:=by
  obtain ⟨_,_,_,h,_⟩:=XJ hHc (Kc i0) (fun r hr=>by rw [hgr] at hr;exact (nU hr).symm);exact h
 have hfin:∀ (e:Exit) (H1:Hp) (bN:Nat->Option Value) (S1:Nat->Prop) (F1:Nat->List Nat) (W:World) (rc:Loop) (o:Obj),Fin m Tc Q e H1->bM bN S1 F1 H1 W->fB S (Ub H0 F) w S1 (Ub H1 F1) W->iV yM bN->
   Aside S1 (w.heap.size+1) w.heap.size rc W->RR e {a with defers:=mark w.heap.size::a.defers} (W.putObj (w.heap.size+1) o):=by
  rintro e H1 bN S1 F1 W rc o ⟨m',T2,H2,hm',hb,hT2,hH2,hQ⟩ hH1 hE hA has;obtain ⟨kg,F2,hH3,q2,q3,q4⟩:=hH1.rn hm' hH2;have hkp:Keeps S1 W S1 (W.putObj (w.heap.size+1) o):=Keeps.putObj has.sl;refine hn e _ hQ kg S1 F2 _ _ ⟨?_,hsz.trans hT2.length,fun i y hy=>?_,hH3.putObj has.sl has.hl (fun _ _ _ h=>by cases h),(hst.glob.mono<|hst.heap.keeps hE).mono hkp⟩ ⟨hE.os,hE.tape,hE.output,?_,?_,hE.sub,hE.newS,?_⟩ ?_
  .obtain ⟨hB,Ds,hnd,hds,hD⟩:=hst.defers;obtain ⟨hB1,_⟩:=hst.defers.CF hst.heap hE;refine ⟨by rw [FR];exact hB1,w.heap.size::Ds,jO.2 ⟨fun hm=>?_,hnd⟩,by rw [nk,hds],fun D hm=>?_⟩
   .have:=(lW.1 (hD _ hm).2.2).1;omega
   .rcases fu.1 hm with rfl|hm
    .exact ⟨hB,has.sD,(yH ah).trans has.hD⟩
    .obtain ⟨d1,d2,d3⟩:=hD D hm;have dlt:=(lW.1 d3).1;have dU: ¬Ub H0 F D:=fun hU=>by
      obtain ⟨arr,t,q,hc⟩:=hst.heap.blocks hU;rw [d3] at hc;cases hc
     refine ⟨d1,fun hs=>?_,(yH ah).trans<|(hE.keep D dlt dU).trans d3⟩;rcases hE.newS D hs with h|h|h
     .exact d2 h
     .exact dU h
     .omega
  .rcases hT2.get hy with rfl|⟨x,hx,rfl⟩
   .exact .junk _
   .exact ((aeG hE hA i x hx).rn q2).mono (fun _ _ h _=>h) hkp
  .rw [FR];exact hE.size
  .exact fun b hb hu=>(yH ah).trans (hE.keep b hb hu)
  .rintro b ⟨i,o',ho,hb'⟩;obtain ⟨i',o2,_,hl,e2,_⟩:=q4 i o' ho;exact hE.mM b ⟨i',o2,hl,e2 ▸ hb'⟩
  .intro i r hi hr;obtain ⟨i',hi',hr'⟩:=q3 i r hr;obtain ⟨h1,h2⟩:=aqB hb hi' hi;exact k2 i i' r h2 (hA i' r h1 hr')
 refine ⟨w.heap.size+1,[mark w.heap.size],W1,{target:=.fn (.func gf) #[.pointer<|some ⟨gb,0,none⟩],args:=#[.func (.yield<|w.heap.size+1) #[] #[]]},W1,gf,
  #[.func (.yield<|w.heap.size+1) #[] #[],.pointer<|some ⟨gb,0,none⟩],W1,?_,?_,fun _ _=>trivial,?_,fun h=>(by cases h),?_⟩
 .rw [<- hW1,hrec];exact run_enterLoop_outer _ _ _ _ _
 .simp only [resolve,hgv];simp [go_sem]
 .simp only [invoke];simp [go_sem];exact hcf _ _
 .refine acT (QF.2 (hit (w.heap.size+1) gb la.length Inv Stop W1 hmax ?_ ?_ ?_ aqE):CallsIn Fence.wide (0 - 1) P gf _ _ _) ?_
  .rintro W ⟨_,H1,bN,S1,F1,⟨i,_,rfl⟩,hH1,hE,hA,has⟩;obtain ⟨a0,cap,h1,_,_⟩:=XJ hH1 (Kc i) (aeH hA);exact ⟨a0,cap,h1⟩
  .rintro k W d ⟨hk,H1,bN,S1,F1,hN,hH1,hE,hA,has⟩;exact ⟨hk,H1,bN,S1,F1,hN,hH1.drawn d,⟨hE.os,hE.tape,hE.output,hE.size,hE.keep,hE.sub,hE.newS,hE.mM⟩,hA,⟨has.sl,has.sD,has.hl,has.hD⟩⟩
  .rintro k W ⟨hk,H1,bN,S1,F1,⟨i,Sl,rfl⟩,hH1,hE,hA,has⟩;obtain ⟨x,hx⟩:∃ x,la[k]?=some x:=⟨_,cB ah⟩
   have hxs:(la.take<|k+1).reverse=x::(la.take k).reverse:=by rw [Mx,hx];simp
   rw [hxs] at Sl;obtain ⟨a0,cap,h1,_,h3⟩:=XJ hH1 (Kc i) (aeH hA);obtain ⟨b,v,rfl,h4,h5,h6,h7⟩:=h3 k x hx;refine ⟨ah,b,cap,v,h1,h4,h5,h6,fn,_,qd,body,by rw [run_yield has.hl (by rw [hrec];rfl),hrec],roundIn_of_wpIn trivial ?_⟩;obtain ⟨T1,H2,aqG,hbody⟩:=round x _ i Sl (w.heap.size+1);refine aqG 0 bN S1 F1 _ W _ ⟨Marks.nil _<|yJ _,?_,fun q y hy=>?_,hH1,hst.glob.mono<|hst.heap.keeps hE⟩ ?_
   .simp [hsz]
   .have hq:q < Tc.length:=by have:=(bG.1 hy).1;simpa using this
    simp only [List.zip_toArray,List.zip_cons_cons,List.zip_nil_right,List.foldl_toArray,Ro,List.foldl_nil];rw [Rx<|by simp [hsz,hq]];rcases vI hy with ⟨rfl,rfl⟩|⟨hne,hy⟩
    .rw [bC rfl];exact h7.WL
    .rw [aT hne,Rx<|by rw [hsz];exact hq];rcases vI hy with ⟨rfl,rfl⟩|⟨hne,hy⟩
     .rw [bC rfl];exact .junk _
     .rw [aT hne];exact aeG hE hA q y hy
   .rintro e st' ⟨rfl,hw⟩;intro kg S2 F2 a2 w2 ng hE2 hA2;obtain ⟨xA,S3,F3,aqH,WM,hA3⟩:=hw _ G kg S2 F2 a2 w2 ng;have aeJ:=hE2.trans WM;have Sn:=has.CF hH1 aeJ;refine ⟨_,run_beginRound Sn.hl (by rw [hrec]),?_⟩;have hrb:({rec .ready none with state:=.busy}:Loop)=rec .busy none:=by rw [hrec]
    rw [hrb];have aqI:=Sn.put (rec':=rec .busy none) ah;have hE4:fB S (Ub H0 F) w S3 (Ub H2 F3) (w2.putObj (w.heap.size+1)<|.loop<|rec .busy none):=(hE.trans aeJ).putObj ah;have aeK:=aqH.putObj (o':=.loop (rec .busy none)) Sn.sl Sn.hl;refine hbody 0 xA S3 F3 a2 _ _ aeK ?_;intro e st4 hq;intro XK S5 F5 a5 w5 Sq hE5 hA5;have XL:=((hA.trans hA2).trans hA3).trans hA5;have Ay:=aqI.CF aeK.heap hE5;have XM:=hE4.trans hE5;cases e with
    | normal=>
     obtain ⟨T6,H6,hw6,i',hR',rfl⟩:=hq;obtain ⟨ρ6,S6,F6,aqN,hE6,hA6⟩:=hw6 _ G XK S5 F5 a5 w5 Sq;have Sr:=Ay.CF Sq.heap hE6;refine ⟨_,_,WH none Sr.hl,.inl ⟨rfl,ah,_,ρ6,S6,F6,⟨i',hR',rfl⟩,aqN.heap.putObj Sr.sl Sr.hl (fun _ _ _ h=>by cases h),(XM.trans hE6).putObj ah,XL.trans hA6,?_⟩⟩;have:({rec .busy none with state:=if (none:Option Code).isNone then .ready else .done,pending:=none}:Loop)=rec .ready none:=by rw [hrec];rfl
     rw [this];exact Sr.put ah
    | ret=>
     refine ⟨_,_,WH (some .ret) Ay.hl,.inr ⟨rfl,.ret,.inl rfl,_,XK,S5,F5,hq,Sq.heap.putObj Ay.sl Ay.hl (fun _ _ _ h=>by cases h),XM.putObj ah,XL,?_⟩⟩;have:({rec .busy none with state:=if (some Code.ret).isNone then .ready else .done,pending:=some .ret}:Loop)=rec .done (XI .ret):=by rw [hrec];rfl
     rw [this];exact Ay.put ah
    | exit id=>
     refine ⟨_,_,WH (some<|.exit id) Ay.hl,.inr ⟨rfl,.exit id,.inr ⟨id,rfl⟩,_,XK,S5,F5,hq,Sq.heap.putObj Ay.sl Ay.hl (fun _ _ _ h=>by cases h),XM.putObj ah,XL,?_⟩⟩;have:({rec .busy none with state:=if (some<|Code.exit id).isNone then .ready else .done,pending:=some (.exit id)}:Loop)=rec .done (XI<|.exit id):=by rw [hrec];rfl
     rw [this];exact Ay.put ah
    | goto t=>exact hq.elim
    | panic ch=>exact hq.elim
    | outgrown=>exact hq.elim
  .rintro e W2 ⟨⟨v,rfl⟩,⟨_,H1,bN,S1,F1,⟨i,Sl,rfl⟩,hH1,hE,hA,has⟩|⟨e,he,H1,bN,S1,F1,hf,hH1,hE,hA,has⟩⟩
   .refine ⟨none,_,by have:=run_endLoop (P:=P) has.hl (by rw [hrec];simp);rw [hrec] at this;exact this,?_⟩;exact hfin .normal _ bN S1 F1 W2 _ _ (done i<|by simpa using Sl) hH1 hE hA has
   .rcases he with rfl|⟨id,rfl⟩
    .refine ⟨some .ret,_,by have:=run_endLoop (P:=P) has.hl (by rw [hrec];simp);rw [hrec] at this;exact this,?_⟩;exact wpIn_ret (hfin .ret _ bN S1 F1 W2 _ _ hf hH1 hE hA has)
    .refine ⟨some<|.exit id,_,by have:=run_endLoop (P:=P) has.hl (by rw [hrec];simp);rw [hrec] at this;exact this,?_⟩;exact wpIn_exit (hfin (.exit id) _ bN S1 F1 W2 _ _ hf hH1 hE hA has)
theorem abm (m':Ren) (ks:List Nat) (T2:List V) (H2:Hp) {m:Ren} {Tc:List V} {Q:Exit->St->Prop} {e:Exit} {H1:Hp} (h1:(m'.ok&&XH m m'&&xw m')=true) (hT:vG m' ks 0 Tc=T2) (hH:nK m' H1 m'=some H2) (hQ:Q e ⟨T2,H2⟩):Fin m Tc Q e H1:=by
 simp only [dS] at h1;subst hT;exact ⟨m',_,H2,h1.1.1,h1.1.2,RX m' ks 0 Tc,Ga hH (Sg h1.2) fun p _=>rfl,hQ⟩
theorem akY {g:Operand} {qd body:Code} {T0:List V} {H0:Hp} {Q:Exit->St->Prop} {gf:FuncId} (hit:Vg P gf) (hcf:oD P gf) {α ι:Type} (enc:α->V) (la:List α)
  (m:Ren) (ks:List Nat) (Tc:List V) (i0:ι) (J:ι->Hp) (R:List α->ι->Prop) (j:Nat) (ety:TypeId) (nn:Bool) (p0 p1:Tmp)
  (h1:(m.ok&&xw m&&yV Tc&&Nat.blt j 100&&p0 !=p1)=true) (hT:vG m ks 0 T0=Tc) (hH:nK m H0 m=some (J i0)) (hg:ev G Tc g=.fn gf [.loc j 0])
  (Kc:∀ i,look (J i) j=some (.cells ety [.sl nn false<|la.map fun x=>[enc x]])) (hR:R la.reverse i0)
  (round:∀ x xs i,R (x::xs) i->∀ L,∃ T1 H1,CO (some L) P G qd ⟨(Tc.set p0 .junk).set p1<|enc x,J i⟩ (fun e st=>e=.normal/\Weak st ⟨T1,H1⟩)/\
   CO (some L) P G body ⟨T1,H1⟩ (aeB m Tc Q fun H=>∃ i',R xs i'/\H=J i'))
  (done:∀ i,R [] i->Fin m Tc Q .normal (J i)):CO none P G (.rangeFunc g #[p0,p1] qd body) ⟨T0,H0⟩ Q:=by
 simp only [dS,Ao,bne_iff_ne] at h1;subst hT;exact aqD hit hcf enc la m _ i0 J R j ety nn p0 p1 h1.1.1.1.1 (RX m ks 0 T0) (Ga hH (Sg h1.1.1.1.2) fun p _=>rfl) h1.1.1.2 hg h1.1.2 h1.2 Kc hR round done
theorem nD {ops:Array Oper} {Q:Exit->Act->World->Prop} {o:Oper} {rest:List Oper} {a:Act} {w w':World} {v:Value} (hg:o.guard=none) (hd:∀ c,o.op≠.defer c) (hr:(execOp a.eval o).run P w=.ok (.value v) w')
  (k:wpListIn (tO L) 0 P ops Q rest (a.put o.dst v) w'):wpListIn (tO L) 0 P ops Q (o::rest) a w:=by
 unfold wpListIn;rw [bC<|by simp [Region.wanted,hg]];refine ⟨fun _ _=>trivial,?_⟩;rw [Wu _ _ _ hd,hr,aoE];exact k
theorem ajp {ops:Array Oper} {Q:Exit->Act->World->Prop} {o:Oper} {rest:List Oper} {a:Act} {w:World} {l:Nat} {f:FuncId} {tmps:Array Value} {qd body:Code} {K:Ending->World->Prop} (hg:o.guard=none) (hd:∀ c,o.op≠.defer c)
  (hr:(execOp a.eval o).run P w=.ok (.round l f tmps qd body) w) (hR:RoundIn Fence.wide 0 P l f tmps qd body w K)
  (k:∀ e w',K e w'->∃ v,e=.returned v/\wpListIn (tO L) 0 P ops Q rest (a.put o.dst v) w'):wpListIn (tO L) 0 P ops Q (o::rest) a w:=by
 unfold wpListIn;rw [bC<|by simp [Region.wanted,hg]];refine ⟨fun _ _=>trivial,?_⟩;rw [Wu _ _ _ hd,hr,Oper.uponIn_round];refine ⟨fun h=>(by cases h),?_⟩;refine RoundIn.mono (F:=tO L) (n:=0 - 1) hR fun e w' h=>?_;obtain ⟨v,rfl,h2⟩:=k e w' h;exact h2
theorem aaQ {F:Fence} {m:Nat} {c:Code} {Q:Exit->Act->World->Prop} (I:Nat->Act->World->Prop) (hz:∀ a W,I 0 a W->c.wpIn F m P (Exit.then (fun _ _=>False) Q) a W) (hs:∀ k a W,I (k+1) a W->c.wpIn F m P (Exit.then (I k) Q) a W):
  ∀ (n:Nat) (a:Act) (w:World),I n a w->Code.roundsIn F m P c Q (n+1) a w
 | 0,a,w,h=>hz a w h
 | n+1,a,w,h=>wpIn_mono (hs n a w h) fun e a' w' hq=>by
  cases e<;>first
   | exact hq
   | exact aaQ I hz hs n a' w' hq
def slot (a:Act) (t:Nat):Value:=a.tmps.getD t undef
theorem mG (a:Act) (t:Tmp):a.eval (.tmp t)=slot a t:=rfl
theorem lQ {a:Act} {d t:Nat} {v:Value} (h:t < a.tmps.size):slot (a.put (some d) v) t=if t=d then v else slot a t:=Rx h
theorem mH {a:Act} {d:Option Tmp} {v:Value}:(a.put d v).tmps.size=a.tmps.size:=by cases d<;>simp [Act.put]
theorem Vj {a:Act} {d:Option Tmp} {v:Value}:(a.put d v).defers=a.defers:=by cases d<;>rfl
theorem Vh {D:Tab} (hD:bK P D) {t:TypeId} {it:Ty} (ht:D.at t=some it) (hag:it.d.agg=false) {b:Addr} {c v:Value} {w:World} (hv:v=.pointer (some b)) (hc:w.cell? b=some c):(Instr.loadAt t v).run P w=.ok c w:=by
 subst hv;have hpart:(loadVar t b).run P w=.ok c w:=by
  simp only [loadVar,dG,(hD _ _ ht).isAgg w,dK,hag];simp [hc]
 simp [Instr.loadAt,Instr.sureAddr,hpart]
end
end Go.Av
namespace Go.Av
def vJ (H:Hp):Ren:=H.map fun p=>(p.1,p.1)
def OH:List V->Nat->List Nat
 | [],_=>[]
 | .junk::r,n=>OH r (n+1)
 | _::r,n=>n::OH r (n+1)
def XO (H:Hp):Bool:=(vJ H).ok&&(vJ H).keep&&xw (vJ H)
section
variable {P:Program} {G:Nat->Option (List V)} {L:Option Nat}
theorem aeN {ops:Array Oper} {draw:Bool} {T0:List V} {H0:Hp} {i:Nat} {T:List V} {H:Hp} {Es:List (Bool×Eff)} {T':List V} {H':Hp}
  (h:(Nat.ble ops.size i&&(xg draw ops T0 H0 Es&&XO H'),vG (vJ H') (OH T' 0) 0 T,nK (vJ H') H<|vJ H')=(true,T',some H')):W P G ops draw T0 H0 i T H Es fun st=>Weak st ⟨T',H'⟩:=by
 simp only [jD,dS,sH] at h;obtain ⟨⟨h1,h2,h3⟩,h4,h5⟩:=h;exact qP h1 h2 (Si _ _ h3 h4 h5)
theorem aqP (m:Ren) (ks:List Nat) {ops:Array Oper} {draw:Bool} {T0:List V} {H0:Hp} {i:Nat} {T:List V} {H:Hp} {Es:List (Bool×Eff)} {T':List V} {H':Hp}
  (h:(Nat.ble ops.size i&&(xg draw ops T0 H0 Es&&(m.ok&&m.keep&&xw m)),vG m ks 0 T,nK m H m)=(true,T',some H')):W P G ops draw T0 H0 i T H Es fun st=>Weak st ⟨T',H'⟩:=by
 simp only [jD] at h;obtain ⟨h1,h4,h5⟩:=h;rw [dS,dS,sH] at h1;exact qP h1.1 h1.2.1 (Si _ _ h1.2.2 h4 h5)
def Gg (D:Tab) (G:Nat->Option (List V)) (ops:Array Oper) (draw:Bool) (n q:Nat) (T:List V) (H:Hp) (T':List V) (H':Hp):Bool×List V×Option Hp:=
 match uj D G ops n q 0 T H with
 | some r=>(Nat.ble ops.size n&&(xg draw ops T H r.Es&&XO H'),vG (vJ H') (OH T' 0) 0 r.T,nK (vJ H') r.H<|vJ H')
 | none=>(false,[],none)
theorem cuW {D:Tab} (hD:bK P D) (n q:Nat) {ops:Array Oper} {draw:Bool} {T:List V} {H:Hp} {T':List V} {H':Hp} (h:Gg D G ops draw n q T H T' H'=(true,T',some H')):W P G ops draw T H 0 T H [] fun st=>Weak st ⟨T',H'⟩:=by
 unfold Gg at h;split at h
 .rename_i r hr;refine JV hD n hr ?_;rw [mD,yg];exact aeN h
 .cases h
theorem cu {D:Tab} (hD:bK P D) (hm:P.follows .mixedOrders=true) (n q:Nat) (T':List V) (H':Hp) {id:Nat} {l:List Oper} {draw:Bool} {c:Code} {T:List V} {H:Hp} {Q:Exit->St->Prop}
  (h:Gg D G l.toArray draw n q T H T' H'=(true,T',some H')) (k:CO L P G c ⟨T',H'⟩ Q):CO L P G (.seq (.region id l.toArray draw) c) ⟨T,H⟩ Q:=
 bE T' H' hm (cuW hD n q h) k
theorem ce {D:Tab} (hD:bK P D) (hm:P.follows .mixedOrders=true) (n q:Nat) (T':List V) (H':Hp) {id:Nat} {l:List Oper} {draw:Bool} {T:List V} {H:Hp} {Q:Exit->St->Prop}
  (h:Gg D G l.toArray draw n q T H T' H'=(true,T',some H')) (hQ:∀ st,Weak st ⟨T',H'⟩->Q .normal st):CO L P G (.region id l.toArray draw) ⟨T,H⟩ Q:=
 kX T' H' hm (cuW hD n q h) hQ
end
end Go.Av
namespace Go.Av
def bR {α β:Type} {x:Option α} {f:α->Option β} {r:β} {P:Prop} (k:∀ a,x=some a->f a=some r->P) (h:Option.bind x f=some r):P:=
 match bind_some h with
 | ⟨a,h1,h2⟩=>k a h1 h2
def cR {β:Type} {c:Bool} {x y:Option β} {r:β} {P:Prop} (k:c=true->x=some r->P) (k':c=false->y=some r->P) (h:(bif c then x else y)=some r):P:=
 match Qn h with
 | .inl ⟨h1,h2⟩=>k h1 h2
 | .inr ⟨h1,h2⟩=>k' h1 h2
section
variable {P:Program} {G:Nat->Option (List V)}
theorem Reader.u8 {t:TypeId} (ht:P.underlying t=some (.int .u8)):Reader P t aQ (fun _=>True):=by
 intro H e w fuel cs x h;obtain ⟨n,hn,hr⟩:=Reader.int ht e w fuel cs x h;have h1:0<=n/\n<=255:=by simpa [Lit.wf,IntKind.min,IntKind.max,IntKind.signed,IntKind.bits] using hn
 have h2:((UInt8.ofNat n.toNat).toNat:Int)=n:=by
  rw [UInt8.toNat_ofNat'];omega
 refine ⟨UInt8.ofNat n.toNat,trivial,fun S hS=>?_⟩;have:=hr S hS;unfold aQ;rw [h2];exact this
end
end Go.Av
namespace Go.Av
section
variable {P:Program} {G:Nat->Option (List V)} {L:Option Nat}
theorem bB {α β:Type} {x:Option α} {f:α->Option β} {r:β} {P:Prop} (h:Option.bind x f=some r) (k:∀ a,x=some a->f a=some r->P):P:=bR k h
theorem wS (m:Ren) (ks:List Nat) {T:List V} {H:Hp} {T':List V} {H':Hp} (hm:(m.ok&&m.keep&&xw m)=true:=by kernel_rfl) (hT:vG m ks 0 T=T':=by kernel_rfl) (hH:nK m H m=some H':=by kernel_rfl):Weak ⟨T,H⟩ ⟨T',H'⟩:=Si m ks hm hT hH
theorem oT {st:St} {t:Tmp} {r:V} (ht:st.T[t]?=some r:=by kernel_rfl):gJ P st (.tmp t) r:=gJ.t ht
theorem eG {fn:Func} {r0:V} {T:List V} {H:Hp} {e:Exit} (m:Ren) (he:e=.normal\/e=.ret) (h:aL P fn ⟨T,H⟩ r0) {r':V} {H':Hp} (hm:(m.ok&&m.keep&&xw m)=true:=by kernel_rfl) (hr:r0.rn m=r':=by kernel_rfl) (hH:nK m H m=some H':=by kernel_rfl):Ends P fn r' H' e ⟨T,H⟩:=aen m he h hm hr hH
theorem fI {ops:Array Oper} {draw:Bool} {T0:List V} {H0:Hp} {i:Nat} {T:List V} {H:Hp} {Es:List (Bool×Eff)} {T':List V} {H':Hp}
  (h:(Nat.ble ops.size i&&(xg draw ops T0 H0 Es&&XO H'),vG (vJ H') (OH T' 0) 0 T,nK (vJ H') H<|vJ H')=(true,T',some H'):=by kernel_rfl):W P G ops draw T0 H0 i T H Es fun st=>Weak st ⟨T',H'⟩:=aeN h
theorem fS (m:Ren) (ks:List Nat) {ops:Array Oper} {draw:Bool} {T0:List V} {H0:Hp} {i:Nat} {T:List V} {H:Hp} {Es:List (Bool×Eff)} {T':List V} {H':Hp}
  (h:(Nat.ble ops.size i&&(xg draw ops T0 H0 Es&&(m.ok&&m.keep&&xw m)),vG m ks 0 T,nK m H m)=(true,T',some H'):=by kernel_rfl):W P G ops draw T0 H0 i T H Es fun st=>Weak st ⟨T',H'⟩:=aqP m ks h
theorem sI {α:Type} {a b:α} (h:some a=some b):a=b:=nU h
end
end Go.Av
namespace Go.Av
def OwnAt (te:TypeId) (K:Nat) (w:World) (s:Value) (n:Nat) (olds:List Value):Prop:=
 (s=.slice none 0 0/\n=0/\olds=[])\/∃ g c cur,s=.slice (some ⟨g,0,none⟩) n c/\w.heap[g]?=some (.cells cur te (0,0))/\n<=c/\c<=maxLen/\cur.size=c*K/\olds=cur.toList.take (n*K)
def fM.at {ρ:Nat->Option Value} {S:Nat->Prop} {w:World} {r:Value} {nn:Bool} {te:TypeId} {K:Nat} {rows:List (List V)} {F:List Nat} (h:fM ρ S w r (.vec nn te K rows) F) (hnd:F.Nodup):
  ∃ (olds:List Value) (cs:Nat->Nat->Value) (Fs:Nat->Nat->List Nat),OwnAt te K w r rows.length olds/\olds.length=rows.length*K/\(∀ (i:Nat) (x:List V),rows[i]?=some x->x.length=K)/\
   (∀ (i j:Nat) (x:List V) (y:V),rows[i]?=some x->x[j]?=some y->olds[i*K+j]?=some (cs i j)/\RD S w (cs i j) y (Fs i j))/\
   (∀ v,v∈olds->v.oneCell'=true)/\(flat rows.length K Fs).Nodup/\(∀ b,b∈flat rows.length K Fs->b∈F/\r.ownBlock≠some b)/\(∀ g,r.ownBlock=some g->g∈F):=by
 cases h with
 | iG=>
  exact ⟨[],fun _ _=>undef,fun _ _=>[],.inl ⟨rfl,rfl,rfl⟩,aF,fun i x h=>by simp at h,fun i j x y h=>by simp at h,fun v h=>(by cases h),by simp [flat],fun b h=>(by simp [flat] at h),fun g h=>by simp [Value.ownBlock] at h⟩
 | vec g cap arr _ _ _ _ cs Fs hh hcap hmax hsz hk hc hr rz=>
  have htt:=rz.2;cases rz.1;have hl:(arr.toList.take<|rows.length*K).length=rows.length*K:=by
   rw [Ak];exact Nat.min_eq_left (tK (oZ K hcap)<|Nat.le_of_eq hsz.symm)
  have hget:∀ (i j:Nat) (x:List V) (y:V),rows[i]?=some x->x[j]?=some y->(arr.toList.take<|rows.length*K)[i*K+j]?=some (cs i j):=fun i j x y h1 h2=>by
   have hi:i < rows.length:=(bG.1 h1).1;have hj:j < K:=by have:=(bG.1 h2).1;rw [hk i x h1] at this;exact this
   rw [rV,bC<|JM hi hj];simpa using hc i j x y h1 h2
  refine ⟨arr.toList.take<|rows.length*K,cs,Fs,.inr ⟨g,cap,arr,rfl,hh,hcap,hmax,hsz,rfl⟩,hl,hk,fun i j x y h1 h2=>⟨hget i j x y h1 h2,hr i j x y h1 h2⟩,fun v hv=>?_,(jO.1 hnd).2,fun b hb=>⟨mK _ hb,fun h=>?_⟩,fun g' h=>?_⟩
  .obtain ⟨p,hp⟩:=ES hv;have hlt:p < rows.length*K:=by rw [<- hl];exact (bG.1 hp).1
   have hk0:0 < K:=by
    rcases Mv K with h0|h0
    .rw [h0,Qr] at hlt;omega
    .exact h0
   have hi:p / K < rows.length:=WA (by rwa [FT]);have hj:p % K < K:=IY _ hk0;have h1:rows[p / K]?=some rows[p / K]:=cB hi;have hj':p % K < rows[p / K].length:=by rw [hk _ _ h1];exact hj
   have h2:rows[p / K][p % K]?=some rows[p / K][p % K]:=cB hj';have h3:=hget _ _ _ _ h1 h2;rw [show p / K*K+p % K=p by rw [FT];exact Qs p K,hp] at h3;cases h3;exact (hr _ _ _ _ h1 h2).one
  .simp only [Value.ownBlock,eH] at h;subst h;exact (jO.1 hnd).1 hb
  .simp only [Value.ownBlock,eH] at h;subst h;simp
section
variable {P:Program} {G:Nat->Option (List V)}
end
end Go.Av
namespace Go.Av
section
variable {P:Program} {G:Nat->Option (List V)}
def xC (a b:Int):Option Int:=bif b==0 then none else some (a.tmod b)
def aeP (G:Nat->Option (List V)) (ops:Array Oper) (i:Nat) (T:List V):Option (V×V):=
 match jg ops i T with
 | some (.binOp .rem _ x y _)=>some (ev G T x,ev G T y)
 | _=>none
theorem W.rem {ops:Array Oper} {draw:Bool} {T0:List V} {H0:Hp} {i:Nat} {T:List V} {H:Hp} {Es:List (Bool×Eff)} {Q:St->Prop} {k:IntKind} {a b r:Int} (hx:xC a b=some r) (h:aeP G ops i T=some (.c<|.int k a,.c<|.int k b))
  (kk:W P G ops draw T0 H0 (i+1) (cZ T (fD ops i)<|.c<|.int k r) H (Es++[(true,{v:=.c (.int k r)})]) Q):W P G ops draw T0 H0 i T H Es Q:=by
 unfold xC at hx;cases hb:b==0 with
 | true=>rw [hb] at hx;cases hx
 | false=>
  rw [hb] at hx;have hx:=nU hx;subst hx;have hb': ¬b=0:=by simpa using hb
  unfold aeP at h;split at h
  .rename_i t x y t' hop;simp only [eH,jD] at h;refine ug (.c<|.int k<|a.tmod b) [] hop (fun o ho e' H' he _=>?_) kk;refine RH (D:=[]) (fun t i h=>by simp [Tab.at] at h) ?_;rw [ho];have e1:=(he x dL).trans h.1;have e2:=(he y dL).trans h.2;simp [eY,RB,e1,e2,Rz,hb']
  .cases h
end
end Go.Av
namespace Go.Av
section
variable {P:Program} {G:Nat->Option (List V)} {L:Option Nat}
def Gh (D:Tab) (G:Nat->Option (List V)) (ops:Array Oper) (draw:Bool) (q:Nat) (T:List V) (H:Hp):Bool:=
 match uj D G ops ops.size q 0 T H with
 | some r=>xg draw ops T H r.Es
 | none=>false
theorem lzW {D:Tab} (hD:bK P D) {q:Nat} {ops:Array Oper} {draw:Bool} {T:List V} {H:Hp} {Q:St->Prop} (h:Gh D G ops draw q T H=true) (k:Q ⟨(jR D G ops ops.size q 0 T H).T,(jR D G ops ops.size q 0 T H).H⟩):W P G ops draw T H 0 T H [] Q:=by
 unfold Gh at h;unfold jR at k;split at h
 .rename_i r hr;rw [hr] at k;exact JV hD _ hr (qP ah h k)
 .cases h
theorem cv {D:Tab} (hD:bK P D) (hm:P.follows .mixedOrders=true) (q:Nat) {id:Nat} {l:List Oper} {draw:Bool} {c:Code} {T:List V} {H:Hp} {Q:Exit->St->Prop}
  (k:CO L P G c ⟨(jR D G l.toArray l.toArray.size q 0 T H).T,(jR D G l.toArray l.toArray.size q 0 T H).H⟩ Q) (h:Gh D G l.toArray draw q T H=true):CO L P G (.seq (.region id l.toArray draw) c) ⟨T,H⟩ Q:=
 aH hm (lzW hD h k)
def Gi (m:Ren) (ks:List Nat) (b:Bool) (T:List V) (H:Hp):Bool×List V×Option Hp:=(b&&(m.ok&&m.keep&&xw m),vG m ks 0 T,nK m H m)
theorem XP {m:Ren} {ks:List Nat} {b:Bool} {T:List V} {H:Hp} {s:St} (h:Gi m ks b T H=(true,s.T,some s.H)):b=true/\Weak ⟨T,H⟩ s:=by
 unfold Gi at h;simp only [jD] at h;obtain ⟨h1,h2,h3⟩:=h;rw [dS] at h1;exact ⟨h1.1,Si m ks h1.2 h2 h3⟩
theorem ck {D:Tab} (hD:bK P D) (hm:P.follows .mixedOrders=true) (q:Nat) {ι:Type} {J:ι->St} {R:ι->Prop} {id:Nat} {l:List Oper} {draw:Bool} {T:List V} {H:Hp} {Q:Exit->St->Prop} (hk:∀ i,R i->∀ st,Weak st (J i)->Q .normal st) (i:ι) (hi:R i) (m:Ren) (ks:List Nat)
  (h:Gi m ks (Gh D G l.toArray draw q T H) (jR D G l.toArray l.toArray.size q 0 T H).T (jR D G l.toArray l.toArray.size q 0 T H).H=(true,(J i).T,some (J i).H)):CO L P G (.region id l.toArray draw) ⟨T,H⟩ Q:=by
 obtain ⟨h1,h2⟩:=XP h;exact jX hm (lzW hD h1<|hk i hi _ h2)
theorem sK {ι:Type} {J:ι->St} {R:ι->Prop} {T:List V} {H:Hp} {Q:Exit->St->Prop} (hk:∀ i,R i->∀ st,Weak st (J i)->Q .normal st) (i:ι) (hi:R i) (m:Ren) (ks:List Nat)
  (h:Gi m ks true T H=(true,(J i).T,some (J i).H):=by kernel_rfl):CO L P G .skip ⟨T,H⟩ Q:=
 aV (hk i hi _ (XP h).2)
theorem wF {ops:Array Oper} {draw:Bool} {T0:List V} {H0:Hp} {i:Nat} {T:List V} {H:Hp} {Es:List (Bool×Eff)} {Q:St->Prop} (k:Q ⟨T,H⟩) (h:(Nat.ble ops.size i&&xg draw ops T0 H0 Es)=true:=by kernel_rfl):W P G ops draw T0 H0 i T H Es Q:=by
 simp only [dS,sH] at h;exact qP h.1 h.2 k
theorem wK {ops:Array Oper} {draw:Bool} {T0:List V} {H0:Hp} {i:Nat} {T:List V} {H:Hp} {Es:List (Bool×Eff)} {ι:Type} {J:ι->St} {R:ι->Prop} {Q:St->Prop} (hk:∀ i,R i->∀ st,Weak st (J i)->Q st) (x:ι) (hi:R x) (m:Ren) (ks:List Nat)
  (h:Gi m ks (Nat.ble ops.size i&&xg draw ops T0 H0 Es) T H=(true,(J x).T,some (J x).H):=by kernel_rfl):W P G ops draw T0 H0 i T H Es Q:=by
 obtain ⟨h1,h2⟩:=XP h;exact wF (hk x hi _ h2) h1
theorem cI {β:Type} {b:Bool} {X Y:Option β} {r:β} {x:Operand} {c1 c2:Code} {T:List V} {H:Hp} {Q:Exit->St->Prop} (h:(bif b then X else Y)=some r)
  (k:b=true->X=some r->CO L P G c1 ⟨T,H⟩ Q) (k':b=false->Y=some r->CO L P G c2 ⟨T,H⟩ Q) (hb:ev G T x=.c (.bool b):=by kernel_rfl):CO L P G (.cond x c1 c2) ⟨T,H⟩ Q:=
 cR (fun hc h=>VP hc (hc ▸ hb)<|k hc h) (fun hc h=>abS hc (hc ▸ hb)<|k' hc h) h
theorem wJ {β:Type} {b:Bool} {X Y:Option β} {r:β} {ops:Array Oper} {draw:Bool} {T0:List V} {H0:Hp} {i:Nat} {T:List V} {H:Hp} {Es:List (Bool×Eff)} {Q:St->Prop} (d:Nat) (h:(bif b then X else Y)=some r)
  (k:X=some r->W P G ops draw T0 H0 i (T.set d<|.c<|.bool true) H Es Q) (k':Y=some r->W P G ops draw T0 H0 i (T.set d<|.c<|.bool false) H Es Q) (hd:T[d]?=some (.c<|.bool b):=by kernel_rfl):W P G ops draw T0 H0 i T H Es Q:=
 cR (fun hc h=>W.is d hc hd<|k h) (fun hc h=>W.is d hc hd<|k' h) h
def OJ (D:Tab) (G:Nat->Option (List V)) (ops:Array Oper) (draw:Bool) (n q:Nat) (rc:V) (T:List V) (H:Hp):Bool×Option (FuncId×List V×Hp)×V:=
 let r1:=jR D G ops n q 0 T H
 let T1:=cZ r1.T (fD ops n) rc
 ((uj D G ops n q 0 T H).isSome&&match uj D G ops (ops.size - (n+1)) q (n+1) T1 r1.H with
  | some r=>xg draw ops T H (r1.Es++[(true,{v:=rc})]++r.Es)
  | none=>false,yY G ops [] [] n r1.T r1.H,rc.rn [])
def CW (D:Tab) (G:Nat->Option (List V)) (ops:Array Oper) (n q:Nat) (rc:V) (T:List V) (H:Hp):Run:=
 jR D G ops (ops.size - (n+1)) q (n+1) (cZ (jR D G ops n q 0 T H).T (fD ops n) rc) (jR D G ops n q 0 T H).H
theorem ccW {D:Tab} (hD:bK P D) (n q:Nat) {ops:Array Oper} {draw:Bool} {T:List V} {H:Hp} {Q:St->Prop} {fid:FuncId} {vs:List V} {rc:V} (hA:AC P G fid vs [] rc []) (hcf:oD P fid)
  (h:OJ D G ops draw n q rc T H=(true,some (fid,vs,[]),rc)) (k:Q ⟨(CW D G ops n q rc T H).T,(CW D G ops n q rc T H).H⟩):W P G ops draw T H 0 T H [] Q:=by
 unfold OJ at h;simp only [jD,dS] at h;obtain ⟨⟨h1,h2⟩,h3,h4⟩:=h;refine W.run hD n q h1 (XR hA hcf h4 ?_ ?_)
 .rw [mD];exact h3
 .rw [mD];unfold CW at k;unfold jR at k;unfold jR at h2 ⊢;split at h2
  .rename_i r hr;rw [hr] at k;exact JV hD _ hr (qP ah (by simpa using h2) k)
  .cases h2
theorem cc {D:Tab} (hD:bK P D) (hm:P.follows .mixedOrders=true) (n q:Nat) {id:Nat} {l:List Oper} {draw:Bool} {c:Code} {T:List V} {H:Hp} {Q:Exit->St->Prop} {fid:FuncId} {vs:List V} {rc:V} (hA:AC P G fid vs [] rc []) (hcf:oD P fid)
  (k:CO L P G c ⟨(CW D G l.toArray n q rc T H).T,(CW D G l.toArray n q rc T H).H⟩ Q) (h:OJ D G l.toArray draw n q rc T H=(true,some (fid,vs,[]),rc)):CO L P G (.seq (.region id l.toArray draw) c) ⟨T,H⟩ Q:=
 aH hm (ccW hD n q hA hcf h k)
theorem e1 (t:Tmp) {fn:Func} {T:List V} {H:Hp} {r:V} {Q:Exit->St->Prop} (hQ:Ends P fn r [] .ret ⟨T,H⟩->Q .ret ⟨T,H⟩) (hf:fn.results=#[.tmp t]:=by rfl) (h:(T[t]?,r.rn [])=(some r,r):=by kernel_rfl):CO L P G .ret ⟨T,H⟩ Q:=by
 simp only [jD] at h;exact aN (hQ<|aen [] (.inr rfl) (aL.one hf<|gJ.t h.1) rfl h.2 rfl)
end
end Go.Av
namespace Go.Av
end Go.Av
namespace Go.Av
def ItoaMem (P:Program) (f:FuncId):Prop:=∀ (n:Int),-9223372036854775808<=n->n<=9223372036854775807->∀ w:World,Lib.TabIs P w "internal/strconv.uint64pow10" .u64 Lib.pow10Tab->
 Calls P f #[.int .i64 n] w fun e w'=>e=.returned (.string ⟨(Lib.itoa n).toArray⟩)/\∃ k os,w'=Sort.grow (w.drewN k) os
def asK {P:Program} {G:Nat->Option (List V)} {f:FuncId} {g:Nat} (h:ItoaMem P f) (hg:P.globalNamed "internal/strconv.uint64pow10" =some g) (hG:G g=some (Lib.pow10Tab.map<|rC .u64)) {n:Int} (h0: -9223372036854775808<=n) (h1:n<=9223372036854775807):
  AC P G f [aj n] [] (aG<|Lib.itoa n) []:=by
 intro ρ S F xs w hsz hxs hH Ke;have x0:xs.getD 0 undef=.int .i64 n:=(hxs 0 _ rfl).eU;have hx:xs=#[.int .i64 n]:=by
  have h3:xs.size=1:=hsz;apply Array.ext
  .exact h3
  .intro j h1 h2;have:j=0:=ah;subst this;simpa [Array.getD,h1] using x0
 subst hx;obtain ⟨r1,arr,ety,fr,r2,r3,r4⟩:=Ke g _ hG;have hcell:∀ (j:Nat) (z:Int),Lib.pow10Tab[j]?=some z->arr[j]?=some (.int .u64 z):=fun j z hz=>by
  cases r1 with
  | el a cells cs hc hr=>
   have hj:(Lib.pow10Tab.map<|rC .u64)[j]?=some (rC .u64 z):=by rw [bZ,hz];rfl
   obtain ⟨_,hw⟩:=hc j _ hj;have hv:=hr j _ hj;unfold rC at hv;generalize cs j=v at hw hv;cases hv;have e:Addr.add ⟨g,0,none⟩ j=⟨g,j,none⟩:=by
    unfold Addr.add;split<;>simp_all
   rw [e] at hw;unfold World.cell? at hw;simp only [r2] at hw;simpa using hw
 have harr:arr=(Lib.pow10Tab.map fun z=>Value.int .u64 z).toArray:=by
  apply Array.ext_getElem?;intro j;by_cases hj:j < Lib.pow10Tab.length
  .rw [hcell j _<|cB hj,tX,bZ,cB hj];rfl
  .rw [Ru (by rw [r3];simpa using hj),tX,xS<|by simpa using hj]
 have htab:Lib.TabIs P w "internal/strconv.uint64pow10" .u64 Lib.pow10Tab:=by
  unfold Lib.TabIs World.var?;rw [hg,aD];simp only [r2,harr]
 refine Calls.mono (h n h0 h1 w htab) fun e w' hq=>?_;obtain ⟨rfl,k,os,rfl⟩:=hq;have hold:∀ b,b < w.heap.size->(Sort.grow (w.drewN k) os).heap[b]?=w.heap[b]?:=fun b hb=>Sort.heap_grow_old (w.drewN k) os hb;have hks:Keeps S w S (Sort.grow (w.drewN k) os):=fun b hb=>⟨hb,hold b<|hH.slt b hb⟩
 have hsize:w.heap.size<=(Sort.grow (w.drewN k) os).heap.size:=by
  show w.heap.size<=(w.heap++os).size;simp
 refine ⟨_,ρ,S,F,rfl,.c _,⟨hH.dom,fun i o ho=>(by cases ho),fun i o ho=>(by cases ho),fun i j o p b ho=>(by cases ho),fun i o b ho=>(by cases ho),fun i o b ho=>(by cases ho),fun b hb=>qY (hH.slt b hb) hsize⟩,⟨rfl,rfl,rfl,hsize,fun b hb _=>hold b hb,fun b hb=>hb,fun b hb=>.inl hb,fun b hb=>.inl hb⟩,iV.refl _⟩
end Go.Av
namespace Go.Av
end Go.Av
namespace Go.Av
end Go.Av
namespace Go.Av
open Go.RowKit
def aqS (P:Program) (f:FuncId):Prop:=
 (∀ (bk c:Nat) (xs:List ByteArray) (sep:ByteArray) (w:World),(∀ (j:Nat) x,xs[j]?=some x->w.cell? ⟨bk,0+j,none⟩=some (.string x))->bk < w.heap.size->xs.length<=140737488355328->xs.length<=c->
  (Lib.join (xs.map (·.data.toList)) sep.data.toList).length<=140737488355328->
  Calls P f #[.slice (some ⟨bk,0,none⟩) xs.length c,.string sep] w fun e w'=>e=.returned (.string ⟨(Lib.join (xs.map (·.data.toList)) sep.data.toList).toArray⟩)/\Below w.heap.size w w')/\
 ∀ (sep:ByteArray) (w:World),Calls P f #[.slice none 0 0,.string sep] w fun e w'=>e=.returned (.string ⟨#[]⟩)/\w'=w
def asL {P:Program} {G:Nat->Option (List V)} {f:FuncId} {te:TypeId} (h:aqS P f) (nn:Bool) (l:List (List UInt8)) (sep:List UInt8) (hlen:l.length<=1048576) (hj:(Lib.join l sep).length<=140737488355328):
  AC P G f [.own 0,aG sep] [(0,.vec nn te 1<|l.map bX)] (aG<|Lib.join l sep) [(0,.vec nn te 1<|l.map bX)]:=by
 intro ρ S F xs w hsz hxs hH hG;have l0:look [(0,Ob.vec nn te 1<|l.map bX)] 0=some (.vec nn te 1<|l.map bX):=rfl;obtain ⟨r0,hr0,Sv⟩:=hH.obj 0 _ l0;have hnd:=hH.nodup 0 _ l0;have x0:xs.getD 0 undef=r0:=by
  have h:RV ρ S w (xs.getD 0 undef) (.own 0):=hxs 0 _ rfl;exact h.wW _ hr0
 have x1:xs.getD 1 undef=.string ⟨⟨sep⟩⟩:=(hxs 1 _ rfl).eU;have hx:xs=#[r0,.string ⟨⟨sep⟩⟩]:=by
  have h3:xs.size=2:=hsz;apply Array.ext
  .exact h3
  .intro j h1 h2;have:j=0\/j=1:=ah;rcases this with rfl|rfl
   .simpa [Array.getD,h1] using x0
   .simpa [Array.getD,h1] using x1
 subst hx;have fin:∀ w',Below w.heap.size w w'->∃ x ρ' S' F',Ending.returned (.string ⟨⟨Lib.join l sep⟩⟩)=.returned x/\RV ρ' S' w' x (aG<|Lib.join l sep)/\bM ρ' S' F' [(0,Ob.vec nn te 1<|l.map bX)] w'/\fB S (Ub [(0,Ob.vec nn te 1<|l.map bX)] F) w S' (Ub [(0,Ob.vec nn te 1<|l.map bX)] F') w'/\iV ρ ρ':=fun w' hb=>by
  have hP:=adU hH [0] (i:=0) hr0 (Fi:=F 0) hb.os hb.tape hb.output hb.size (fun b hb' _=>hb.block b hb') (fun ρ'=>Sv.mono (fun _ _ _ h=>by cases h) (fun b hb'=>⟨hb',hb.block b<|hH.slt b hb'⟩) fun b hb'=>hb.block b<|hH.lt 0 _ b l0 hb') hnd (fun b hb'=>.inl ⟨0,_,aF,l0,hb'⟩) (x:=.string ⟨⟨Lib.join l sep⟩⟩) (v:=aG (Lib.join l sep)) (.c _);obtain ⟨ρ',S',F',h1,h2,h3,h4⟩:=hP;exact ⟨_,ρ',S',F',rfl,h1,h2,h3,fun j r hj hr=>h4 j r hr aF⟩
 have hcase:(r0=.slice none 0 0/\l=[])\/∃ (g cap:Nat) (arr:Array Value),r0=.slice (some ⟨g,0,none⟩) l.length cap/\w.heap[g]?=some (.cells arr te (0,0))/\l.length<=cap/\
   (∀ (i:Nat) (x:List UInt8),l[i]?=some x->arr[i]?=some (Go.Proofs.encStr x)):=by
  generalize F 0=Fi at Sv;generalize hrows:l.map bX=rows at Sv;cases Sv with
  | iG=>exact .inl ⟨rfl,List.map_eq_nil_iff.1 hrows⟩
  | vec g cap arr _ _ _ _ cc Fs hh hcap hmax OE hk hc hr rz=>
   have htt:=rz.2;cases rz.1;have hlen:rows.length=l.length:=by rw [<- hrows];simp
   refine .inr ⟨g,cap,arr,by rw [hlen],hh,ah,fun i x hx=>?_⟩;have h1:rows[i]?=some (bX x):=by rw [<- hrows,bZ,hx];rfl
   have h2:=hc i 0 _ (aG x) h1 rfl;have h3:=hr i 0 _ (aG x) h1 rfl;rw [Oe,zM] at h2;unfold aG at h3;generalize cc i 0=v at h2 h3;generalize Fs i 0=fs at h3;cases h3;exact h2
 rcases hcase with ⟨rfl,rfl⟩|⟨g,cap,arr,rfl,hh,hcap,hval⟩
 .refine Calls.mono (h.2 ⟨⟨sep⟩⟩ w) fun e w' hq=>?_;obtain ⟨rfl,rfl⟩:=hq;exact fin w' (Below.refl _ _)
 .have hg:g < w.heap.size:=(lW.1 hh).1;have hm:((l.map fun b=>(⟨⟨b⟩⟩:ByteArray)).map (·.data.toList))=l:=by
   rw [Az];exact (qx fun _ _=>rfl).trans (BU l)
  have:=h.1 g cap (l.map fun b=>(⟨⟨b⟩⟩:ByteArray)) ⟨⟨sep⟩⟩ w (fun j x hx=>by
   rw [bZ] at hx;obtain ⟨b,hb,rfl⟩:=bU.1 hx;unfold World.cell?;simp only [hh];simpa using hval j b hb) hg bI (by simpa using hcap) (by rw [hm];exact hj)
  rw [hm,yI] at this;refine Calls.mono this fun e w' hq=>?_;obtain ⟨rfl,hb⟩:=hq;exact fin w' hb
end Go.Av
namespace Go.Av
variable {P:Program}
end Go.Av
