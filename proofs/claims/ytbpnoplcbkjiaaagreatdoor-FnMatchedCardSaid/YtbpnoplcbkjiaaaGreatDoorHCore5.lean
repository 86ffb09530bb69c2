/-
 Abstract values, states, walks, part 5.
-/
import Derived.Test.YtbpnoplcbkjiaaaGreatDoorHCore4
import Derived.OpenShut
import Derived.OpenVars
import Derived.ChangeArms
import Derived.Below
import Derived.Sort.OwnSortedInts
import Derived.Lib.LaidTab
import Derived.Lib.ItoaNum
import Derived.Deep.Draws
import Derived.Sort.OwnSorted
import Derived.Lib.RowBridge
import Derived.Lib.SlicesCompact
import Derived.Lib.Join
set_option linter.unusedSimpArgs false
set_option linter.unusedVariables false
namespace Go.Av
theorem ahk {α:Type} {l:List α} {j:Nat} (h:j < l.length):(l.take (j+1)).reverse=l[j]::(l.take j).reverse:=by
 rw [List.take_add_one,List.getElem?_eq_getElem h]
 simp
theorem ahl (j:Nat):decide ((j:Int)≥0)=true:=by simp
theorem ahm (j:Nat):((j+1:Nat):Int) - 1=(j:Int):=by omega
def walk (out:List Int):Int→List Int→Option Int
 | a,[]=>some a
 | a,k::ks=>if a=0∨k≠a - 1 then none else match out[(a - 1).toNat]? with
  | some b=>walk out b ks
  | none=>none
def starts:List (List Int)→List Int→Option (List Int)
 | [],out=>some out
 | ks::l,out=>(walk out (out.length:Int) ks.reverse).bind fun s=>starts l (out++[s])
def Kids (out:List Int):Int→Int→List Int→Prop
 | a,b,[]=>a=b
 | a,b,k::ks=>0≤a∧a≤k∧k < b∧out[k.toNat]?=some a∧Kids out (k+1) b ks
def Low (out:List Int):Prop:=∀ (j:Nat) (s:Int),out[j]?=some s→0≤s∧s≤j
theorem Low.snoc {out:List Int} (h:Low out) {s:Int} (h0:0≤s) (h1:s≤out.length):Low (out++[s]):=by
 intro j x hx
 rw [List.getElem?_append] at hx
 split at hx
 ·exact h j x hx
 ·rename_i hj
  have:j - out.length=0:=by
   have:=(List.getElem?_eq_some_iff.1 hx).1
   simp at this
   omega
  rw [this] at hx
  cases hx
  omega
theorem Kids.snoc {out:List Int}:∀ {ks:List Int} {a m:Int},Kids out a m ks→∀ {k b:Int},0≤m→m≤k→k < b→k+1=b→out[k.toNat]?=some m→Kids out a b (ks++[k])
 | [],a,m,h,k,b,h0,h1,h2,h3,h4=>by
  simp only [Kids] at h
  subst h
  exact ⟨h0,h1,h2,h4,h3⟩
 | k'::ks,a,m,h,k,b,h0,h1,h2,h3,h4=>by
  obtain ⟨g0,g1,g2,g3,g4⟩:=h
  exact ⟨g0,g1,by omega,g3,Kids.snoc g4 h0 h1 h2 h3 h4⟩
theorem ND {out:List Int} (hl:Low out):∀ (ks:List Int) {b a:Int},0≤b→walk out b ks=some a→0≤a∧a≤b
 | [],b,a,h0,h=>by cases h;omega
 | k::ks,b,a,h0,h=>by
  unfold walk at h
  split at h
  ·cases h
  ·rename_i hc
   split at h
   ·rename_i m hm
    have:=hl _ _ hm
    have:=ND hl ks this.1 h
    omega
   ·cases h
theorem Yu {out:List Int} (hl:Low out):∀ (r:List Int) {b a:Int},0≤b→walk out b r=some a→Kids out a b r.reverse
 | [],b,a,h0,h=>by cases h;rfl
 | k::r,b,a,h0,h=>by
  unfold walk at h
  split at h
  ·cases h
  ·rename_i hc
   split at h
   ·rename_i m hm
    have h1:=hl _ _ hm
    have h2:k=b - 1:=by
     cases Classical.em (k=b - 1) with
     | inl h=>exact h
     | inr h=>exact absurd (.inr h) hc
    have h3:b≠0:=fun h=>hc (.inl h)
    rw [List.reverse_cons]
    have hm':out[k.toNat]?=some m:=by rw [h2];exact hm
    exact (Yu hl r h1.1 h).snoc h1.1 (by omega) (by omega) (by omega) hm'
   ·cases h
theorem Kids.more {out:List Int} (Yv:List Int):∀ {ks:List Int} {a b:Int},Kids out a b ks→Kids (out++Yv) a b ks
 | [],_,_,h=>h
 | k::ks,a,b,⟨h0,h1,h2,h3,h4⟩=>⟨h0,h1,h2,by rw [List.getElem?_append_left (List.getElem?_eq_some_iff.1 h3).1];exact h3,h4.more Yv⟩
theorem RQ:∀ (l:List (List Int)) {out r:List Int},Low out→starts l out=some r→(∃ m,r=out++m∧m.length=l.length)∧Low r∧
  ∀ (j:Nat) (ks:List Int),l[j]?=some ks→∃ s,r[out.length+j]?=some s∧Kids r s ((out.length+j:Nat):Int) ks
 | [],out,r,hl,h=>by
  cases h
  exact ⟨⟨[],by simp,rfl⟩,hl,fun j ks h=>by simp at h⟩
 | ks::l,out,r,hl,h=>by
  unfold starts at h
  obtain ⟨s,hs,h⟩:=Option.bind_eq_some_iff.1 h
  have h1:=ND hl _ (Int.natCast_nonneg _) hs
  have hl2:=hl.snoc h1.1 h1.2
  obtain ⟨⟨m,hm,hml⟩,hlr,hk⟩:=RQ l hl2 h
  refine ⟨⟨s::m,by rw [hm];simp,by simp [hml]⟩,hlr,fun j ks' hj=>?_⟩
  cases j with
  | zero=>
   simp only [List.getElem?_cons_zero,Option.some.injEq] at hj
   subst hj
   refine ⟨s,by rw [hm];simp,?_⟩
   have:=Yu hl _ (Int.natCast_nonneg _) hs
   rw [List.reverse_reverse] at this
   rw [hm,List.append_assoc,Nat.add_zero]
   exact this.more _
  | succ j=>
   simp only [List.getElem?_cons_succ] at hj
   obtain ⟨s',hs',hk'⟩:=hk j ks' hj
   have e:(out++[s]).length+j=out.length+(j+1):=by simp;omega
   rw [e] at hs' hk'
   exact ⟨s',hs',hk'⟩
theorem Kids.lt {out:List Int}:∀ {ks:List Int} {a b:Int},Kids out a b ks→∀ k,k∈ks→a≤k∧0≤k∧k < b
 | [],_,_,_,k,hk=>by cases hk
 | k'::ks,a,b,⟨h0,h1,h2,_,h4⟩,k,hk=>by
  rcases List.mem_cons.1 hk with rfl | hk
  ·omega
  ·have:=h4.lt k hk;omega
end Go.Av
namespace Go.Av
open Go
variable {P:Program} {G:Nat→Option (List V)}
theorem aQ.imp {o:Oper} {e:Operand→V} {H:Hp} {v v':V} (h:aQ P G o e H v H []) (hv:∀ ρ S w x,RV ρ S w x v→RV ρ S w x v'):aQ P G o e H v' H []:=by
 intro ρ S F η w aN hH hG
 refine (h ρ S F η w aN hH hG).mono ?_
 rintro x w' ⟨ρ',S',F',h1,h2,h3,h4⟩
 exact ⟨ρ',S',F',hv _ _ _ _ h1,h2,h3,h4⟩
theorem RV.ahn {ρ:Nat→Option Value} {S:Nat→Prop} {w:World} {v:Value} {cells:List V} {x:V} (h:RV ρ S w v (.el cells)) (hx:cells[0]?=some x):RV ρ S w v (.el [x]):=by
 obtain ⟨a,cs,rfl,h1,h2⟩:=h.Xn
 refine .el a [x] cs (fun j y hy=>?_) (fun j y hy=>?_)
 all_goals
  cases j with
  | zero=>
   simp only [List.getElem?_cons_zero,Option.some.injEq] at hy
   subst hy
   first
    | exact h1 0 x hx
    | exact h2 0 x hx
  | succ j=>simp at hy
theorem RV.aho {ρ:Nat→Option Value} {S:Nat→Prop} {w:World} {v:Value} {nn x:Bool} {rows:List (List V)} (h:RV ρ S w v (.sl nn x rows)):RV ρ S w v (.sl false x rows):=by
 cases h with
 | sl _ _ _ _ h=>
  refine .sl _ _ _ _ ?_
  generalize hF:([]:List Nat)=F at h
  cases h with
  | gu=>exact .gu _
  | shr a cap nn rows k cs h1 h2 h3 h4 h5=>exact .shr a cap _ rows k cs h1 h2 h3 h4 h5
  | exc=>cases hF
theorem AC.mono {G G':Nat→Option (List V)} {f:FuncId} {vs:List V} {H:Hp} {r:V} {H1:Hp} (h:AC P G f vs H r H1) (hs:∀ g cs,G g=some cs→G' g=some cs):AC P G' f vs H r H1:=
 fun ρ S F xs w a b c d=>h ρ S F xs w a b c fun g cs hg=>d g cs (hs g cs hg)
def IG (D:Tab) (G:Nat→Option (List V)) (ops:Array Oper) (i:Nat) (T:List V):Option (List V×Int×Nat):=
 match jc ops i T with
 | some (.indexAddr t x ix)=>match D.at t,ev G T x,ev G T ix with
  | some it,.el cs,.c (.int _ n)=>match it.d with
   | .arr len el=>match D.at el with
    | some ie=>if ie.size=1 then some (cs,n,len) else none
    | none=>none
   | _=>none
  | _,_,_=>none
 | _=>none
theorem W.IG {D:Tab} (hD:bg P D) {ops:Array Oper} {draw:Bool} {T0:List V} {H0:Hp} {i:Nat} {T:List V} {H:Hp} {Es:List (Bool×Eff)} {Q:St→Prop} {α:Type} (enc:α→V) {l:List α} {n:Int} {x:α} (hx:ix l n=some x)
  (h:IG D G ops i T=some (l.map enc,n,l.length))
  (k:W P G ops draw T0 H0 (i+1) (bQ T (fO ops i) (.el [enc x])) H (Es++[(true,{v:=.el [enc x]})]) Q):W P G ops draw T0 H0 i T H Es Q:=by
 obtain ⟨h1,h2⟩:=Bc hx
 unfold Av.IG at h
 split at h
 ·rename_i t xo io hop
  split at h
  ·rename_i it cs kk n' ht hxv hiv
   split at h
   ·rename_i len el hit
    split at h
    ·rename_i ie hel
     split at h
     ·rename_i hs
      simp only [Option.some.injEq,Prod.mk.injEq] at h
      obtain ⟨rfl,rfl,rfl⟩:=h
      refine W.rO (.el [enc x]) [] hop (fun o ho e' H' he _=>?_) k
      have hev:=(he xo (by simp [Op.operands])).trans hxv
      refine aQ.imp (aQ.agn (v:=.el ((l.map enc).drop n'.toNat)) hD n'.toNat ho ht hit hel ?_ ((he io (by simp [Op.operands])).trans hiv) h1 (List.getElem?_eq_some_iff.1 h2).1) fun ρ S w y hy=>hy.ahn ?_
      ·rw [hev,hs,Nat.mul_one];rfl
      ·rw [List.getElem?_drop,Nat.add_zero,List.getElem?_map,h2];rfl
     ·cases h
    ·cases h
   ·cases h
  ·cases h
 ·cases h
def II (D:Tab) (G:Nat→Option (List V)) (ops:Array Oper) (i:Nat) (T:List V):Option (List V):=
 match jc ops i T with
 | some (.slice t x none none none)=>match D.at t,ev G T x with
  | some it,.el cs=>match it.d with
   | .arr len el=>match D.at el with
    | some ie=>if ie.size=1∧cs.length=len∧len≤maxLen then some cs else none
    | none=>none
   | _=>none
  | _,_=>none
 | _=>none
theorem W.II {D:Tab} (hD:bg P D) {ops:Array Oper} {draw:Bool} {T0:List V} {H0:Hp} {i:Nat} {T:List V} {H:Hp} {Es:List (Bool×Eff)} {Q:St→Prop} {α:Type} (enc:α→V) (l:List α)
  (h:II D G ops i T=some (l.map enc))
  (k:W P G ops draw T0 H0 (i+1) (bQ T (fO ops i) (.sl false false (l.map fun x=>[enc x]))) H (Es++[(true,{v:=.sl false false (l.map fun x=>[enc x])})]) Q):W P G ops draw T0 H0 i T H Es Q:=by
 unfold Av.II at h
 split at h
 ·rename_i t xo hop
  split at h
  ·rename_i it cs ht hxv
   split at h
   ·rename_i len el hit
    split at h
    ·rename_i ie hel
     split at h
     ·rename_i hs
      simp only [Option.some.injEq] at h
      subst h
      refine W.rO (.sl false false _) [] hop (fun o ho e' H' he _=>?_) k
      have hev:=(he xo (by simp [Op.operands])).trans hxv
      have:=aQ.ags (G:=G) (P:=P) (H:=H') hD ho ht hit hel hs.1 hev hs.2.1 hs.2.2
      rw [List.map_map] at this
      exact aQ.imp this fun ρ S w y hy=>hy.aho
     ·cases h
    ·cases h
   ·cases h
  ·cases h
 ·cases h
theorem AC.ahp {f:FuncId} {x:Bool} {rows:List (List V)} {vs:List V} {H:Hp} {r:V} {H1:Hp} (h0:rows=[]→AC P G f (.c (.slice none 0 0)::vs) H r H1) (h1:AC P G f (.sl true x rows::vs) H r H1):AC P G f (.sl false x rows::vs) H r H1:=by
 intro ρ S F xs w hsz hxs hH hG
 have Yw:=hxs 0 _ rfl
 generalize hv:xs.getD 0 undef=v at Yw
 cases Yw with
 | sl _ _ _ _ h=>
  generalize hF:([]:List Nat)=F0 at h
  cases h with
  | gu=>
   refine h0 rfl ρ S F xs w (by simpa using hsz) (fun i y hy=>?_) hH hG
   cases i with
   | zero=>
    simp only [List.getElem?_cons_zero,Option.some.injEq] at hy
    subst hy
    rw [hv]
    exact .c _
   | succ i=>exact hxs (i+1) y (by simpa using hy)
  | shr a cap nn rows k cs h3 h4 h5 h6 h7=>
   refine h1 ρ S F xs w (by simpa using hsz) (fun i y hy=>?_) hH hG
   cases i with
   | zero=>
    simp only [List.getElem?_cons_zero,Option.some.injEq] at hy
    subst hy
    rw [hv]
    exact .sl _ _ _ _ (.shr a cap true rows k cs h3 h4 h5 h6 h7)
   | succ i=>exact hxs (i+1) y (by simpa using hy)
  | exc=>cases hF
end Go.Av
namespace Go.Av
open Go.RowKit Go.WideShapes Go.ChangeShapes
variable {P:Program} {G:Nat→Option (List V)}
theorem AC.afv {f:FuncId} {vs:List V} {r:V} (h:AC P G f vs [] r []) (S:Nat→Prop) {xs:Array Value} {w:World} (hS:∀ b,S b→b < w.heap.size) (hG:vT G S w) (hsz:xs.size=vs.length)
  (hxs:∀ i x,vs[i]?=some x→RV (fun _=>none) S w (xs.getD i undef) x):
  Calls P f xs w fun e w'=>∃ x S',e=.returned x∧RV (fun _=>none) S' w' x r∧Below w.heap.size w w':=by
 refine (h (fun _=>none) S (fun _=>[]) xs w hsz hxs ⟨fun _ _=>rfl,fun _ _ h=>(by cases h),fun _ _ h=>(by cases h),fun _ _ _ _ _ h=>(by cases h),fun _ _ _ h=>(by cases h),fun _ _ _ h=>(by cases h),hS⟩ hG).mono ?_
 rintro e w' ⟨x,ρ',S',F',rfl,hx,_,hE,_⟩
 refine ⟨x,S',rfl,hx.mono (fun _ _ h _=>(by cases h)) (fun b hb=>⟨hb,rfl⟩),hE.os,hE.tape,hE.output,hE.size,fun k hk=>hE.keep k hk ?_⟩
 rintro ⟨i,o,hi,_⟩
 cases hi
def strCells (l:List (List UInt8)):Array Value:=(l.map fun s=>Value.string ⟨⟨s⟩⟩).toArray
theorem QK {H:Type} {enc:TypeId×Value→H} {w:World} {base:Nat} {sp:Nat→Bool} {held:Bool} {fuel:Nat} {t el:TypeId} {n:Nat} {cs:Array Value} {l:List (List UInt8)} {p:List MemPlace}
  (h:DataW.trod enc P w base sp held fuel t cs.toList=some (.agg (l.map fun s=>.lit (.string s)),p)) (ht:P.underlying t=some (.array n el)) (hel:P.underlying el=some .string) (h1:P.cellsOf el=1) (hn:P.cellsOf t=n):cs=strCells l:=by
 obtain ⟨xs,m,_,ex,hlen,hl,he⟩:=DataW.trod_array ht h
 rw [hn] at hlen
 simp only [Prod.mk.injEq,DataW.agg.injEq] at ex
 obtain ⟨e1,_⟩:=ex
 have hll:l.length=n:=by
  have:=congrArg List.length e1
  simp only [List.length_map] at this
  omega
 unfold strCells
 have hcs:cs.size=n:=by simpa using hlen
 apply Array.ext
 ·simp [hcs,hll]
 ·intro i hi _
  have hin:i < n:=by omega
  have hx:=he i hin
  rw [h1,Nat.mul_one] at hx
  have hdrop:(cs.toList.drop i).take 1=[cs[i]]:=by
   rw [List.drop_eq_getElem_cons (by simpa using hi)]
   simp
  rw [hdrop] at hx
  have hxs:xs[i]?=some xs[i]:=List.getElem?_eq_getElem (by omega)
  rw [hxs] at hx
  obtain ⟨s,hs,hxi,_⟩:=DataW.trod_string hel hx
  simp only [List.cons.injEq,and_true] at hs
  have e2:(l.map fun s=>(DataW.lit (.string s):DataW H))[i]?=(xs.map (·.1))[i]?:=by rw [e1]
  rw [List.getElem?_map,List.getElem?_map,hxs,Option.map_some,hxi,List.getElem?_eq_getElem (by omega),Option.map_some] at e2
  simp only [Option.some.injEq,DataW.lit.injEq,Lit.string.injEq] at e2
  rw [hs]
  simp only [List.getElem_toArray,List.getElem_map,e2]
theorem ahq {w:World} {S:Nat→Prop} {name:String} {g:Nat} {l:List (List UInt8)} (hg:P.globalNamed name=some g) (hv:w.var? P name=some (strCells l)) (hS:S g):RV (fun _=>none) S w (.pointer (some ⟨g,0,none⟩)) (.el (l.map V.s)):=by
 refine .el ⟨g,0,none⟩ _ (fun j=>(strCells l).getD j undef) (fun j x hx=>⟨hS,?_⟩) (fun j x hx=>?_)
 all_goals
  rw [List.getElem?_map,Option.map_eq_some_iff] at hx
  obtain ⟨s,hs,rfl⟩:=hx
  have hj:j < l.length:=(List.getElem?_eq_some_iff.1 hs).1
  have hc:(strCells l)[j]?=some (Value.string ⟨⟨s⟩⟩):=by
   unfold strCells
   rw [List.getElem?_toArray,List.getElem?_map,hs]
   rfl
  have hd:(strCells l).getD j undef=Value.string ⟨⟨s⟩⟩:=by
   rw [Array.getD_eq_getD_getElem?,hc]
   rfl
  rw [hd]
 ·have:=World.var?_cell hg hv j
  rw [hc] at this
  have e:Addr.add ⟨g,0,none⟩ j=⟨g,j,none⟩:=by
   unfold Addr.add
   split<;>simp_all
  rw [e]
  exact this
 ·exact .c _ rfl
theorem MU {w:World} {name:String} {g:Nat} {cs:Array Value} (hg:P.globalNamed name=some g) (hv:w.var? P name=some cs):g < w.heap.size:=by
 unfold World.var? at hv
 rw [hg] at hv
 simp only [au] at hv
 cases hh:w.heap[g]? with
 | none=>rw [hh] at hv;cases hv
 | some o=>exact (Array.getElem?_eq_some_iff.1 hh).1
theorem Xa {H:Type} {enc:TypeId×Value→H} (hl:laidOutB P=true) {W W':World} (hb:Below W.heap.size W W') {sp:Nat→Bool}:
  ∀ {ns:List String} {gs:List (DataW H)} {ps:List MemPlace},varsRowed P ns=true→DataW.TrodVars enc P W (fun _=>true) ns gs ps→(∀ p,p∈ps→sp p.block=true)→DataW.TrodVars enc P W' sp ns gs ps
 | [],[],_,_,h,_=>h
 | [],_::_,_,_,h,_=>h.elim
 | _::_,[],_,_,h,_=>h.elim
 | n::ns,d::ds,ps,hv,h,hs=>by
  have hlt:=h.lt
  obtain ⟨g,t,cs,fuel,p,q,h1,h2,h3,h4,h5,e⟩:=h
  have hg:=MU h1 h3
  have ht:P.readableRec t=true∧t < P.types.size:=by
   simp only [varsRowed,List.all_cons,Bool.and_eq_true] at hv
   obtain ⟨gl,hgl,rfl⟩:=Option.map_eq_some_iff.1 h2
   have:=hv.1
   simpa [h1,hgl] using this
  have hp:∀ x,x∈p→x∈ps:=fun x hx=>by rw [e];simp [hx]
  have h3':W'.var? P n=some cs:=by
   unfold World.var? at h3 ⊢
   rw [h1] at h3 ⊢
   simp only [au] at h3 ⊢
   rw [hb.block g hg]
   exact h3
  refine ⟨g,t,cs,fuel,p,q,h1,h2,h3',DataW.trod_stays (kids_book hl ht.1) (book_sized ht.1) (fun h=>by cases h) ⟨ht.2,book_self t⟩ h4 (fun x hx=>hb.same (hlt x (hp x hx))) (fun x hx=>hs x (hp x hx)),?_,e⟩
  exact Xa hl hb (by simp only [varsRowed,List.all_cons,Bool.and_eq_true] at hv;exact hv.2) h5 fun x hx=>hs x (by rw [e];simp [hx])
theorem WV {H:Type} {enc:TypeId×Value→H} {W:World} {sp:Nat→Bool}:∀ {ns:List String} {gs:List (DataW H)} {ps:List MemPlace},DataW.TrodVars enc P W sp ns gs ps→gs.length=ns.length
 | [],[],_,_=>rfl
 | [],_::_,_,h=>h.elim
 | _::_,[],_,h=>h.elim
 | n::ns,d::ds,ps,⟨_,_,_,_,_,_,_,_,_,_,h,_⟩=>congrArg (·+1) (WV h)
theorem ahr {w:World} {name:String} {g:Nat} {arr:Array Value} (hg:P.globalNamed name=some g) (hv:w.var? P name=some arr):∃ ety fr,w.heap[g]?=some (.cells arr ety fr):=by
 unfold World.var? at hv
 rw [hg,au] at hv
 split at hv
 ·rename_i cs ety fr h
  cases hv
  exact ⟨ety,fr,h⟩
 ·cases hv
theorem QL {w:World} {S:Nat→Prop} {name:String} {g:Nat} {l:List (List UInt8)} (hg:P.globalNamed name=some g) (hv:w.var? P name=some (strCells l)) (hS:S g):
  RV (fun _=>none) S w (.pointer (some ⟨g,0,none⟩)) (.el (l.map V.s))∧∃ arr ety fr,w.heap[g]?=some (.cells arr ety fr)∧arr.size=(l.map V.s).length∧S g:=by
 obtain ⟨ety,fr,h⟩:=ahr hg hv
 exact ⟨ahq hg hv hS,_,ety,fr,h,by simp [strCells],hS⟩
end Go.Av
namespace Go.Av
open Go
variable {P:Program} {G:Nat→Option (List V)}
theorem eqGuard_at_slice (P:Program) (w:World) (op:BinOp) (t:TypeId) (x y:Operand) (a b:Option Addr) (n c n' c':Nat):(eqGuard op t x y (.slice a n c) (.slice b n' c')).run P w=.ok () w:=by
 unfold eqGuard
 cases op<;>rfl
theorem ahs {P:Program} {t el:TypeId} (hu:P.underlying t=some (.slice el)) (w:World) (a:Option Addr) (n c:Nat):(Op.equal t (.slice a n c) (.slice none 0 0)).run P w=.ok a.isNone w:=by
 unfold Op.equal
 obtain ⟨k,hk⟩:∃ k,Op.maxDepth=k+1:=⟨_,rfl⟩
 rw [hk,Op.equalIn]
 simp only [Sem.run_bind,run_underlying hu,Result.andThen_ok]
 cases a<;>rfl
theorem Yx {P:Program} {t el:TypeId} (hu:P.underlying t=some (.slice el)) (w:World) (a:Option Addr) (n c:Nat):(binOp .eql t (.slice a n c) (.slice none 0 0)).run P w=.ok (.bool a.isNone) w:=by
 show (Op.equal t (.slice a n c) (.slice none 0 0) >>=fun b=>pure (Value.bool b)).run P w=_
 simp only [Sem.run_bind,ahs hu,Result.andThen_ok,Sem.run_pure]
theorem aQ.NG {D:Tab} (hD:bg P D) {o:Oper} {e:Operand→V} {H:Hp} {t t' el:TypeId} {it:Ty} {x y:Operand} (q:Bool) (ho:o.op=.binOp .eql t x y t') (ht:D.at t=some it) (hit:it.d=.slice el) (hy:e y=.c (.slice none 0 0))
  (hx:(e x=.c (.slice none 0 0)∧q=true)∨∃ b rows,e x=.sl true b rows∧q=false):aQ P G o e H (.c (.bool q)) H []:=by
 refine aQ.pure fun ρ S F η w aN hH=>?_
 have h1:=aN x (by simp [ho,Op.operands])
 have h2:=aN y (by simp [ho,Op.operands])
 rw [hy] at h2
 have hu:=yA hD ht hit
 refine ⟨_,?_,.c _⟩
 unfold execOp
 rcases hx with ⟨hx,rfl⟩ | ⟨b,rows,hx,rfl⟩
 ·rw [hx] at h1
  simp only [ho,h1.dW,h2.dW,Sem.run_bind,eqGuard_at_slice,Result.andThen_ok,Yx hu,Sem.run_pure,Option.isNone_none]
 ·rw [hx] at h1
  have hv:∃ a n c,η x=.slice (some a) n c:=by
   generalize η x=v at h1
   cases h1 with
   | sl _ _ _ _ h=>cases h with
    | shr a cap nn rows k cs=>exact ⟨_,_,_,rfl⟩
  obtain ⟨a,n,c,hv⟩:=hv
  simp only [ho,hv,h2.dW,Sem.run_bind,eqGuard_at_slice,Result.andThen_ok,Yx hu,Sem.run_pure,Option.isNone_some]
def Yy (D:Tab) (G:Nat→Option (List V)) (ops:Array Oper) (i:Nat) (T:List V):Option Bool:=
 match jc ops i T with
 | some (.binOp .eql t x y _)=>match D.at t,ev G T y with
  | some it,.c (.slice none 0 0)=>match it.d with
   | .slice _=>match ev G T x with
    | .c (.slice none 0 0)=>some true
    | .sl true _ _=>some false
    | _=>none
   | _=>none
  | _,_=>none
 | _=>none
theorem W.NG {D:Tab} (hD:bg P D) {ops:Array Oper} {draw:Bool} {T0:List V} {H0:Hp} {i:Nat} {T:List V} {H:Hp} {Es:List (Bool×Eff)} {Q:St→Prop} (q:Bool) (h:Yy D G ops i T=some q)
  (k:W P G ops draw T0 H0 (i+1) (bQ T (fO ops i) (.c (.bool q))) H (Es++[(true,{v:=.c (.bool q)})]) Q):W P G ops draw T0 H0 i T H Es Q:=by
 unfold Yy at h
 split at h
 ·rename_i t x y t' hop
  split at h
  ·rename_i it ht hy
   split at h
   ·rename_i el hit
    refine W.rO (.c (.bool q)) [] hop (fun o ho e' H' he _=>?_) k
    refine aQ.NG hD q ho ht hit ((he y (by simp [Op.operands])).trans hy) ?_
    rw [he x (by simp [Op.operands])]
    split at h
    ·rename_i hx
     cases h
     exact .inl ⟨hx,rfl⟩
    ·rename_i b rows hx
     cases h
     exact .inr ⟨b,rows,hx,rfl⟩
    ·cases h
   ·cases h
  ·cases h
 ·cases h
end Go.Av
namespace Go.Av
def RS (P:Program) (gf:FuncId):Prop:=
 ∀ (l g n:Nat) (Inv:Nat→World→Prop) (Stop:World→Prop) (w:World),n≤maxLen→
  (∀ W,Inv n W→∃ a cap,W.cell? ⟨g,0,none⟩=some (.slice a n cap))→(∀ k W d,Inv k W→Inv k {W with drawn:=d})→
  (∀ k W,Inv (k+1) W→k < n∧∃ a cap v,W.cell? ⟨g,0,none⟩=some (.slice (some a) n cap)∧n≤cap∧W.cell? (a.add k)=some v∧v.oneCell'=true∧
   ∃ f tmps nH body,(Instr.yield l #[.int .i64 k,v]).run P W=.ok (.round l f tmps nH body) W∧
    RoundIn Fence.wide 0 P l f tmps nH body W fun e W'=>(e=.returned (.bool true)∧Inv k W')∨(e=.returned (.bool false)∧Stop W'))→
  Inv n w→Calls P gf #[.func (.yield l) #[] #[],.pointer (some ⟨g,0,none⟩)] w fun e W'=>(∃ v,e=.returned v)∧(Inv 0 W'∨Stop W')
mutual
def V.sm:V→Bool
 | .own j=>Nat.blt j 100
 | .loc j _=>Nat.blt j 100
 | .vp j _ _ _=>Nat.blt j 100
 | .vw j _ _ _=>Nat.blt j 100
 | .fn _ cs=>V.uQ cs
 | .agg cs=>V.uQ cs
 | .bG cs=>V.uQ cs
 | _=>true
def V.uQ:List V→Bool
 | []=>true
 | x::r=>V.sm x&&V.uQ r
end
mutual
theorem V.Yz:∀ {x:V} {i:Nat},x.sm=true→x.has i=true→i < 100
 | .own j,i,h,hh=>by simp [V.sm,V.has] at h hh;omega
 | .loc j _,i,h,hh=>by simp [V.sm,V.has] at h hh;omega
 | .vp j _ _ _,i,h,hh=>by simp [V.sm,V.has] at h hh;omega
 | .vw j _ _ _,i,h,hh=>by simp [V.sm,V.has] at h hh;omega
 | .fn _ cs,i,h,hh=>V.NH (by simpa [V.sm] using h) (by simpa [V.has] using hh)
 | .agg cs,i,h,hh=>V.NH (by simpa [V.sm] using h) (by simpa [V.has] using hh)
 | .bG cs,i,h,hh=>V.NH (by simpa [V.sm] using h) (by simpa [V.has] using hh)
 | .junk,i,h,hh=>by simp [V.has] at hh
 | .c _,i,h,hh=>by simp [V.has] at hh
 | .sl _ _ _,i,h,hh=>by simp [V.has] at hh
 | .el _,i,h,hh=>by simp [V.has] at hh
theorem V.NH:∀ {l:List V} {i:Nat},V.uQ l=true→V.gy i l=true→i < 100
 | [],i,h,hh=>by simp [V.gy] at hh
 | x::r,i,h,hh=>by
  simp only [V.uQ,Bool.and_eq_true] at h
  simp only [V.gy,Bool.or_eq_true] at hh
  rcases hh with hh | hh
  ·exact V.Yz h.1 hh
  ·exact V.NH h.2 hh
end
theorem V.aht {l:List V} (h:V.uQ l=true) {x:V} (hx:x∈l):x.sm=true:=by
 induction l with
 | nil=>cases hx
 | cons y l ih=>
  simp only [V.uQ,Bool.and_eq_true] at h
  rcases List.mem_cons.1 hx with rfl | hx
  ·exact h.1
  ·exact ih h.2 hx
def RU (m m':Ren):Bool:=m'.all fun p=>Nat.ble 100 p.2||(Nat.blt p.1 100&&aX m p.2==some p.1)
theorem ahu {m m':Ren} (h:RU m m'=true) {i j:Nat} (hm:aX m' i=some j) (hj:j < 100):i < 100∧aX m j=some i:=by
 have:=List.all_eq_true.1 h _ (nE hm)
 simp only [Bool.or_eq_true,Nat.ble_eq,Bool.and_eq_true,Nat.blt_eq,beq_iff_eq] at this
 rcases this with h | h
 ·omega
 ·exact h
def RX:Exit→Option Code
 | .ret=>some .ret
 | .exit id=>some (.exit id)
 | _=>none
def Fin (m:Ren) (Tc:List V) (Q:Exit→St→Prop) (e:Exit) (H1:Hp):Prop:=
 ∃ m' T2 H2,m'.ok=true∧RU m m'=true∧iL m' Tc T2∧sS m' H1 H2∧Q e ⟨T2,H2⟩
def YA (m:Ren) (Tc:List V) (Q:Exit→St→Prop) (N:Hp→Prop):Exit→St→Prop
 | .normal,st=>∃ T1 H1,Weak st ⟨T1,H1⟩∧N H1
 | .ret,st=>Fin m Tc Q .ret st.H
 | .exit id,st=>Fin m Tc Q (.exit id) st.H
 | _,_=>False
section
variable {P:Program} {G:Nat→Option (List V)} {L:Option Nat} {B:Nat}
theorem Keeps.putObj {S:Nat→Prop} {W:World} {l:Nat} {o:Obj} (hl: ¬S l):Keeps S W S (W.putObj l o):=
 fun b hb=>⟨hb,World.putObj_heap_other fun e=>hl (e ▸ hb)⟩
theorem aY.putObj {ρ:Nat→Option Value} {S:Nat→Prop} {F:Nat→List Nat} {H:Hp} {W:World} {l:Nat} {o o':Obj} (h:aY ρ S F H W) (hl: ¬S l) (ho:W.heap[l]?=some o) (hc:∀ arr e m,o≠.cells arr e m):aY ρ S F H (W.putObj l o'):=by
 have hU:∀ b,Ub H F b→(W.putObj l o').heap[b]?=W.heap[b]?:=fun b hb=>World.putObj_heap_other fun e=>by
  obtain ⟨arr,t,m,hh⟩:=h.blocks hb
  rw [e,ho] at hh;cases hh;exact hc _ _ _ rfl
 refine ⟨h.dom,fun i p hp=>?_,h.nodup,h.fC,h.sep,fun i p b hp hb=>by rw [World.putObj_size];exact h.lt i p b hp hb,fun b hb=>by rw [World.putObj_size];exact h.slt b hb⟩
 obtain ⟨r,hr,aU⟩:=h.obj i p hp
 exact ⟨r,hr,aU.mono (fun _ _ h _=>h) (Keeps.putObj hl) fun b hb=>hU b ⟨i,p,hp,hb⟩⟩
theorem dR.putObj {S U S' U':Nat→Prop} {w W:World} {l:Nat} {o:Obj} (h:dR S U w S' U' W) (hl:w.heap.size≤l):dR S U w S' U' (W.putObj l o):=
 ⟨h.os,h.tape,h.output,by rw [World.putObj_size];exact h.size,fun b hb hu=>(World.putObj_heap_other (by omega)).trans (h.keep b hb hu),h.sub,h.newS,h.jU⟩
theorem dR.alloc {S U S' U':Nat→Prop} {w W:World} {o:Obj} (h:dR S U w S' U' W):dR S U w S' U' (W.alloc o):=
 ⟨h.os,h.tape,h.output,Nat.le_trans h.size (by simp),fun b hb hu=>(Go.RowKit.Below.heap_alloc _ _ _ (Nat.lt_of_lt_of_le hb h.size)).trans (h.keep b hb hu),h.sub,h.newS,h.jU⟩
theorem aY.alloc {ρ:Nat→Option Value} {S:Nat→Prop} {F:Nat→List Nat} {H:Hp} {W:World} {o:Obj} (h:aY ρ S F H W):aY ρ S F H (W.alloc o):=by
 have hk:Keeps S W S (W.alloc o):=fun b hb=>⟨hb,Go.RowKit.Below.heap_alloc _ _ _ (h.slt b hb)⟩
 refine ⟨h.dom,fun i p hp=>?_,h.nodup,h.fC,h.sep,fun i p b hp hb=>by have:=h.lt i p b hp hb;simp;omega,fun b hb=>by have:=h.slt b hb;simp;omega⟩
 obtain ⟨r,hr,aU⟩:=h.obj i p hp
 exact ⟨r,hr,aU.mono (fun _ _ h _=>h) hk fun b hb=>Go.RowKit.Below.heap_alloc _ _ _ (h.lt i p b hp hb)⟩
structure Aside (S:Nat→Prop) (l D:Nat) (rec:Loop) (W:World):Prop where
 sl: ¬S l
 sD: ¬S D
 hl:W.heap[l]?=some (.loop rec)
 hD:W.heap[D]?=some (.deferred (some []))
theorem Aside.yj {ρ:Nat→Option Value} {S S' U':Nat→Prop} {F:Nat→List Nat} {H:Hp} {w w':World} {l D:Nat} {rec:Loop} (h:Aside S l D rec w) (hH:aY ρ S F H w) (e:dR S (Ub H F) w S' U' w'):Aside S' l D rec w':=by
 have YB: ¬Ub H F l:=fun hU=>by obtain ⟨arr,t,m,hc⟩:=hH.blocks hU;rw [h.hl] at hc;cases hc
 have YC: ¬Ub H F D:=fun hU=>by obtain ⟨arr,t,m,hc⟩:=hH.blocks hU;rw [h.hD] at hc;cases hc
 have hll:l < w.heap.size:=(Array.getElem?_eq_some_iff.1 h.hl).1
 have hlD:D < w.heap.size:=(Array.getElem?_eq_some_iff.1 h.hD).1
 refine ⟨fun hs=>?_,fun hs=>?_,(e.keep l hll YB).trans h.hl,(e.keep D hlD YC).trans h.hD⟩
 ·rcases e.newS l hs with h1 | h1 | h1
  ·exact h.sl h1
  ·exact YB h1
  ·omega
 ·rcases e.newS D hs with h1 | h1 | h1
  ·exact h.sD h1
  ·exact YC h1
  ·omega
theorem Aside.put {S:Nat→Prop} {l D:Nat} {rec rec':Loop} {W:World} (h:Aside S l D rec W) (hne:D≠l):Aside S l D rec' (W.putObj l (.loop rec')):=
 ⟨h.sl,h.sD,World.putObj_heap_same (Array.getElem?_eq_some_iff.1 h.hl).1,(World.putObj_heap_other hne).trans h.hD⟩
theorem Marks.putObj {S:Nat→Prop} {ds:List Deferred} {W:World} {l:Nat} {o o':Obj} (h:Marks B S ds W) (ho:W.heap[l]?=some o) (hc:∀ x,o≠.deferred x):Marks B S ds (W.putObj l o'):=by
 obtain ⟨hB,Ds,hn,hd,hD⟩:=h
 refine ⟨by rw [World.putObj_size];exact hB,Ds,hn,hd,fun D hm=>?_⟩
 obtain ⟨h1,h2,h3⟩:=hD D hm
 refine ⟨h1,h2,(World.putObj_heap_other fun e=>?_).trans h3⟩
 rw [e,ho] at h3
 exact hc _ (Option.some.inj h3)
theorem gN.putObj {ρ:Nat→Option Value} {S:Nat→Prop} {F:Nat→List Nat} {st:St} {a:Act} {W:World} {l:Nat} {rc:Loop} {o':Obj} (h:gN B G ρ S F st a W) (hl: ¬S l) (ho:W.heap[l]?=some (.loop rc)):gN B G ρ S F st a (W.putObj l o'):=
 ⟨h.defers.putObj ho (fun _ h=>by cases h),h.size,fun i x hx=>(h.tmps i x hx).mono (fun _ _ h _=>h) (Keeps.putObj hl),h.heap.putObj hl ho (fun _ _ _ h=>by cases h),h.glob.mono (Keeps.putObj hl)⟩
theorem aY.drawn {ρ:Nat→Option Value} {S:Nat→Prop} {F:Nat→List Nat} {H:Hp} {W:World} (h:aY ρ S F H W) (d:Nat):aY ρ S F H {W with drawn:=d}:=by
 refine ⟨h.dom,fun i p hp=>?_,h.nodup,h.fC,h.sep,h.lt,h.slt⟩
 obtain ⟨r,hr,aU⟩:=h.obj i p hp
 exact ⟨r,hr,aU.mono (fun _ _ h _=>h) (fun b hb=>⟨hb,rfl⟩) fun _ _=>rfl⟩
theorem RY {aW:Nat→Option Value} {S1:Nat→Prop} {F1:Nat→List Nat} {H1:Hp} {W:World} {j gb:Nat} {ety:TypeId} {nn:Bool} {α:Type} {enc:α→V} {la:List α} (hH1:aY aW S1 F1 H1 W)
  (hl:look H1 j=some (.cells ety [.sl nn false (la.map fun x=>[enc x])])) (hr:∀ r,aW j=some r→r=.pointer (some ⟨gb,0,none⟩)):
  ∃ a0 cap,W.cell? ⟨gb,0,none⟩=some (.slice a0 la.length cap)∧la.length≤maxLen∧∀ k x,la[k]?=some x→∃ b v,a0=some b∧la.length≤cap∧W.cell? (b.add k)=some v∧v.oneCell'=true∧RD S1 W v (enc x) []:=by
 obtain ⟨r,hr',aU⟩:=hH1.obj j _ hl
 have e:=hr r hr'
 subst e
 generalize F1 j=Fj at aU
 cases aU with
 | cells g arr _ _ hh hsz hcs=>
  obtain ⟨c,h1,h2,h3⟩:=hcs 0 _ rfl
  have hcell:W.cell? ⟨gb,0,none⟩=some c:=(cell_of_row W gb 0 arr _ (0,0) hh).trans h1
  have hd:=h3.EA
  have key:∀ rows,(la.map fun x=>[enc x])=rows→RD S1 W c (.sl nn false rows) []→∃ a0 cap,c=.slice a0 la.length cap∧la.length≤maxLen∧∀ k x,la[k]?=some x→∃ b v,a0=some b∧la.length≤cap∧W.cell? (b.add k)=some v∧v.oneCell'=true∧RD S1 W v (enc x) []:=by
   intro rows hrows hd
   cases hd with
   | gu=>
    have:la=[]:=by simpa using hrows
    subst this
    exact ⟨none,0,rfl,Nat.zero_le _,fun k x hx=>by simp at hx⟩
   | shr a cap _ _ k cs hlen hcap hk hc hr=>
    have hl:rows.length=la.length:=by rw [← hrows];simp
    refine ⟨some a,cap,by rw [hl],by omega,fun k' x hx=>?_⟩
    have hrow:rows[k']?=some [enc x]:=by rw [← hrows,List.getElem?_map,hx];rfl
    have hk1:1=k:=hk k' _ hrow
    obtain ⟨_,hcl⟩:=hc k' 0 _ (enc x) hrow rfl
    have hrd:=hr k' 0 _ (enc x) hrow rfl
    subst hk1
    exact ⟨a,cs k' 0,rfl,by omega,by simpa using hcl,hrd.one,hrd⟩
  obtain ⟨a0,cap,rfl,h5,h6⟩:=key _ rfl hd
  exact ⟨a0,cap,hcell,h5,h6⟩
theorem CO.ahw {g:Operand} {nH body:Code} {T0:List V} {H0:Hp} {Q:Exit→St→Prop} {gf:FuncId} (hit:RS P gf) (hcf:aG P gf) {α ι:Type} (enc:α→V) (la:List α)
  (m:Ren) (Tc:List V) (i0:ι) (J:ι→Hp) (R:List α→ι→Prop) (j:Nat) (ety:TypeId) (nn:Bool) (p0 p1:Tmp)
  (hm:m.ok=true) (hT:iL m T0 Tc) (hH:sS m H0 (J i0)) (hsm:V.uQ Tc=true) (hg:ev G Tc g=.fn gf [.loc j 0]) (hj:j < 100) (hp:p0≠p1)
  (ES:∀ i,look (J i) j=some (.cells ety [.sl nn false (la.map fun x=>[enc x])])) (hR:R la.reverse i0)
  (round:∀ x xs i,R (x::xs) i→∀ L,∃ T1 H1,CO (some L) P G nH ⟨(Tc.set p0 .junk).set p1 (enc x),J i⟩ (fun e st=>e=.normal∧Weak st ⟨T1,H1⟩)∧
   CO (some L) P G body ⟨T1,H1⟩ (YA m Tc Q fun H=>∃ i',R xs i'∧H=J i'))
  (done:∀ i,R [] i→Fin m Tc Q .normal (J i)):CO none P G (.rangeFunc g #[p0,p1] nH body) ⟨T0,H0⟩ Q:=by
 intro B ρ S F a w RR hst hn
 obtain ⟨uJ,Fc,hHc,k2,k3,k4⟩:=hst.heap.rn hm hH
 have YD:∀ i y,Tc[i]?=some y→RV uJ S w (a.tmps.getD i undef) y:=fun i y hy=>by
  rcases hT.get hy with rfl | ⟨x,hx,rfl⟩
  ·exact .junk _
  ·exact (hst.tmps i x hx).rn k2
 have hsz:a.tmps.size=Tc.length:=hst.size.trans hT.length
 have hE0:dR S (Ub H0 F) w S (Ub (J i0) Fc) w:=⟨rfl,rfl,rfl,Nat.le_refl _,fun _ _ _=>rfl,fun _ h=>h,fun _ h=>.inl h,fun b ⟨i,o,ho,hb⟩=>by
  obtain ⟨i',o',_,hl,e,_⟩:=k4 i o ho
  exact .inl ⟨i',o',hl,e ▸ hb⟩⟩
 have hgv:∃ gb,a.eval g=.func (.func gf) #[] #[.pointer (some ⟨gb,0,none⟩)]∧uJ j=some (.pointer (some ⟨gb,0,none⟩)):=by
  have h1:RV uJ S w (a.eval g) (.fn gf [.loc j 0]):=by
   rw [← hg]
   cases g with
   | tmp t=>
    simp only [Act.eval,ev,List.getD_eq_getElem?_getD]
    cases ht:Tc[t]? with
    | none=>exact .junk _
    | some y=>exact YD t y ht
   | const v=>exact .c v
   | global q=>
    simp only [ev] at hg
    split at hg<;>cases hg
   | func f=>simp [ev] at hg
  obtain ⟨arr,e1,e2,e3⟩:=h1.EB
  obtain ⟨r,hr,_⟩:=hHc.obj j _ (ES i0)
  obtain ⟨arr⟩:=arr
  match arr,e2 with
  | [v0],_=>
   obtain ⟨gb,r1,r2⟩:=(e3 0 (.loc j 0) v0 rfl rfl).Nc r hr
   exact ⟨gb,by rw [e1,r2],by rw [hr,r1]⟩
 obtain ⟨gb,hgv,hgr⟩:=hgv
 refine wpIn_rangeFunc ?_
 intro fn _
 obtain ⟨rec,hrec⟩:∃ rec:LoopState→Option Code→Loop,rec=fun st pe=>{state:=st,pending:=pe,fn,tmps:=a.tmps,params:=#[p0,p1],assign:=nH,body,defers:=w.heap.size}:=⟨_,rfl⟩
 obtain ⟨W1,hW1⟩:∃ W1,(w.alloc (.deferred (some []))).alloc (.loop (rec .ready none))=W1:=⟨_,rfl⟩
 have hL1:W1.heap[w.heap.size+1]?=some (.loop (rec .ready none)):=by
  rw [← hW1];have:=World.alloc_heap_new (w.alloc (.deferred (some []))) (.loop (rec .ready none));rwa [World.size_alloc] at this
 have hK1:W1.heap[w.heap.size]?=some (.deferred (some [])):=by
  rw [← hW1];exact (Go.RowKit.Below.heap_alloc _ _ _ (by simp)).trans (World.alloc_heap_new w _)
 have YE:∀ b,w.heap.size≤b→ ¬S b:=fun b hb hs=>by have:=hst.heap.slt b hs;omega
 let In:(Hp→Prop)→Loop→World→Prop:=fun N rc W=>∃ H1 aW S1 F1,N H1∧aY aW S1 F1 H1 W∧dR S (Ub H0 F) w S1 (Ub H1 F1) W∧gG uJ aW∧Aside S1 (w.heap.size+1) w.heap.size rc W
 let Inv:Nat→World→Prop:=fun k W=>k≤la.length∧In (fun H=>∃ i,R (la.take k).reverse i∧H=J i) (rec .ready none) W
 let Stop:World→Prop:=fun W=>∃ e:Exit,(e=.ret∨∃ id,e=.exit id)∧In (Fin m Tc Q e) (rec .done (RX e)) W
 have ahx:Inv la.length W1:=by
  refine ⟨Nat.le_refl _,J i0,uJ,S,Fc,⟨i0,by simpa using hR,rfl⟩,?_,?_,gG.refl _,YE _ (by omega),YE _ (by omega),hL1,hK1⟩
  ·rw [← hW1];exact hHc.alloc.alloc
  ·rw [← hW1];exact hE0.alloc.alloc
 have YF:∀ {aW:Nat→Option Value} {S1 U1:Nat→Prop} {W:World},dR S (Ub H0 F) w S1 U1 W→gG uJ aW→∀ i y,Tc[i]?=some y→RV aW S1 W (a.tmps.getD i undef) y:=fun hE hA i y hy=>
  (YD i y hy).mono (fun q r hq hh=>hA q r (V.Yz (V.aht hsm (List.mem_of_getElem? hy)) hh) hq) (hst.heap.keeps hE)
 have YG:∀ {aW:Nat→Option Value},gG uJ aW→∀ r,aW j=some r→r=.pointer (some ⟨gb,0,none⟩):=fun hA r hr=>by
  have:=hA j r hj hr
  rw [hgr] at this
  exact (Option.some.inj this).symm
 have hmax:la.length≤maxLen:=by
  obtain ⟨_,_,_,h,_⟩:=RY hHc (ES i0) (fun r hr=>by rw [hgr] at hr;exact (Option.some.inj hr).symm)
  exact h
 have hfin:∀ (e:Exit) (H1:Hp) (aW:Nat→Option Value) (S1:Nat→Prop) (F1:Nat→List Nat) (W:World) (rc:Loop) (o:Obj),Fin m Tc Q e H1→aY aW S1 F1 H1 W→dR S (Ub H0 F) w S1 (Ub H1 F1) W→gG uJ aW→
   Aside S1 (w.heap.size+1) w.heap.size rc W→RR e {a with defers:=mark w.heap.size::a.defers} (W.putObj (w.heap.size+1) o):=by
  rintro e H1 aW S1 F1 W rc o ⟨m',T2,H2,hm',hb,YH,hH2,hQ⟩ hH1 hE hA has
  obtain ⟨iC,F2,hH3,q2,q3,q4⟩:=hH1.rn hm' hH2
  have hkp:Keeps S1 W S1 (W.putObj (w.heap.size+1) o):=Keeps.putObj has.sl
  refine hn e _ hQ iC S1 F2 _ _ ⟨?_,hsz.trans YH.length,fun i y hy=>?_,hH3.putObj has.sl has.hl (fun _ _ _ h=>by cases h),(hst.glob.mono (hst.heap.keeps hE)).mono hkp⟩ ⟨hE.os,hE.tape,hE.output,?_,?_,hE.sub,hE.newS,?_⟩ ?_
  ·obtain ⟨hB,Ds,hnd,hds,hD⟩:=hst.defers
   obtain ⟨hB1,_⟩:=hst.defers.yj hst.heap hE
   refine ⟨by rw [World.putObj_size];exact hB1,w.heap.size::Ds,List.nodup_cons.2 ⟨fun hm=>?_,hnd⟩,by rw [List.map_cons,hds],fun D hm=>?_⟩
   ·have:=(Array.getElem?_eq_some_iff.1 (hD _ hm).2.2).1
    omega
   ·rcases List.mem_cons.1 hm with rfl | hm
    ·exact ⟨hB,has.sD,(World.putObj_heap_other (by omega)).trans has.hD⟩
    ·obtain ⟨d1,d2,d3⟩:=hD D hm
     have dlt:=(Array.getElem?_eq_some_iff.1 d3).1
     have dU: ¬Ub H0 F D:=fun hU=>by
      obtain ⟨arr,t,q,hc⟩:=hst.heap.blocks hU
      rw [d3] at hc;cases hc
     refine ⟨d1,fun hs=>?_,(World.putObj_heap_other (by omega)).trans ((hE.keep D dlt dU).trans d3)⟩
     rcases hE.newS D hs with h | h | h
     ·exact d2 h
     ·exact dU h
     ·omega
  ·rcases YH.get hy with rfl | ⟨x,hx,rfl⟩
   ·exact .junk _
   ·exact ((YF hE hA i x hx).rn q2).mono (fun _ _ h _=>h) hkp
  ·rw [World.putObj_size];exact hE.size
  ·exact fun b hb hu=>(World.putObj_heap_other (by omega)).trans (hE.keep b hb hu)
  ·rintro b ⟨i,o',ho,hb'⟩
   obtain ⟨i',o2,_,hl,e2,_⟩:=q4 i o' ho
   exact hE.jU b ⟨i',o2,hl,e2 ▸ hb'⟩
  ·intro i r hi hr
   obtain ⟨i',hi',hr'⟩:=q3 i r hr
   obtain ⟨h1,h2⟩:=ahu hb hi' hi
   exact k2 i i' r h2 (hA i' r h1 hr')
 refine ⟨w.heap.size+1,[mark w.heap.size],W1,{target:=.fn (.func gf) #[.pointer (some ⟨gb,0,none⟩)],args:=#[.func (.yield (w.heap.size+1)) #[] #[]]},W1,gf,
  #[.func (.yield (w.heap.size+1)) #[] #[],.pointer (some ⟨gb,0,none⟩)],W1,?_,?_,fun _ _=>trivial,?_,fun h=>(by cases h),?_⟩
 ·rw [← hW1,hrec];exact run_enterLoop_outer _ _ _ _ _
 ·simp only [resolve,hgv]
  simp [go_sem]
 ·simp only [invoke]
  simp [go_sem]
  exact hcf _ _
 ·refine CallsIn.mono (callsIn_wide.2 (hit (w.heap.size+1) gb la.length Inv Stop W1 hmax ?_ ?_ ?_ ahx):CallsIn Fence.wide (0 - 1) P gf _ _ _) ?_
  ·rintro W ⟨_,H1,aW,S1,F1,⟨i,_,rfl⟩,hH1,hE,hA,has⟩
   obtain ⟨a0,cap,h1,_,_⟩:=RY hH1 (ES i) (YG hA)
   exact ⟨a0,cap,h1⟩
  ·rintro k W d ⟨hk,H1,aW,S1,F1,hN,hH1,hE,hA,has⟩
   exact ⟨hk,H1,aW,S1,F1,hN,hH1.drawn d,⟨hE.os,hE.tape,hE.output,hE.size,hE.keep,hE.sub,hE.newS,hE.jU⟩,hA,⟨has.sl,has.sD,has.hl,has.hD⟩⟩
  ·rintro k W ⟨hk,H1,aW,S1,F1,⟨i,NI,rfl⟩,hH1,hE,hA,has⟩
   obtain ⟨x,hx⟩:∃ x,la[k]?=some x:=⟨_,List.getElem?_eq_getElem (by omega)⟩
   have hxs:(la.take (k+1)).reverse=x::(la.take k).reverse:=by rw [List.take_add_one,hx];simp
   rw [hxs] at NI
   obtain ⟨a0,cap,h1,_,h3⟩:=RY hH1 (ES i) (YG hA)
   obtain ⟨b,v,rfl,h4,h5,h6,h7⟩:=h3 k x hx
   refine ⟨by omega,b,cap,v,h1,h4,h5,h6,fn,_,nH,body,by rw [run_yield has.hl (by rw [hrec];rfl),hrec],roundIn_of_wpIn trivial ?_⟩
   obtain ⟨T1,H2,ahz,hbody⟩:=round x _ i NI (w.heap.size+1)
   refine ahz 0 aW S1 F1 _ W _ ⟨Marks.nil _ (Nat.zero_le _),?_,fun q y hy=>?_,hH1,hst.glob.mono (hst.heap.keeps hE)⟩ ?_
   ·simp [hsz]
   ·have hq:q < Tc.length:=by have:=(List.getElem?_eq_some_iff.1 hy).1;simpa using this
    simp only [List.zip_toArray,List.zip_cons_cons,List.zip_nil_right,List.foldl_toArray,List.foldl_cons,List.foldl_nil]
    rw [MV (by simp [hsz,hq])]
    rcases Bj hy with ⟨rfl,rfl⟩ | ⟨hne,hy⟩
    ·rw [if_pos rfl];exact h7.QM
    ·rw [if_neg hne,MV (by rw [hsz];exact hq)]
     rcases Bj hy with ⟨rfl,rfl⟩ | ⟨hne,hy⟩
     ·rw [if_pos rfl];exact .junk _
     ·rw [if_neg hne];exact YF hE hA q y hy
   ·rintro e st' ⟨rfl,hw⟩
    intro iC S2 F2 a2 w2 jG hE2 hA2
    obtain ⟨tL,S3,F3,ahA,QO,hA3⟩:=hw _ G iC S2 F2 a2 w2 jG
    have YI:=hE2.trans QO
    have NJ:=has.yj hH1 YI
    refine ⟨_,run_beginRound NJ.hl (by rw [hrec]),?_⟩
    have hrb:({rec .ready none with state:=.busy}:Loop)=rec .busy none:=by rw [hrec]
    rw [hrb]
    have ahB:=NJ.put (rec':=rec .busy none) (by omega)
    have hE4:dR S (Ub H0 F) w S3 (Ub H2 F3) (w2.putObj (w.heap.size+1) (.loop (rec .busy none))):=(hE.trans YI).putObj (by omega)
    have YJ:=ahA.putObj (o':=.loop (rec .busy none)) NJ.sl NJ.hl
    refine hbody 0 tL S3 F3 a2 _ _ YJ ?_
    intro e st4 hq
    intro RZ S5 F5 a5 w5 NK YK hA5
    have Sb:=((hA.trans hA2).trans hA3).trans hA5
    have wu:=ahB.yj YJ.heap YK
    have Sc:=hE4.trans YK
    cases e with
    | normal=>
     obtain ⟨T6,H6,hw6,i',hR',rfl⟩:=hq
     obtain ⟨ρ6,S6,F6,ahG,YL,hA6⟩:=hw6 _ G RZ S5 F5 a5 w5 NK
     have NM:=wu.yj NK.heap YL
     refine ⟨_,_,run_endRound none NM.hl,.inl ⟨rfl,by omega,_,ρ6,S6,F6,⟨i',hR',rfl⟩,ahG.heap.putObj NM.sl NM.hl (fun _ _ _ h=>by cases h),(Sc.trans YL).putObj (by omega),Sb.trans hA6,?_⟩⟩
     have:({rec .busy none with state:=if (none:Option Code).isNone then .ready else .done,pending:=none}:Loop)=rec .ready none:=by rw [hrec];rfl
     rw [this]
     exact NM.put (by omega)
    | ret=>
     refine ⟨_,_,run_endRound (some .ret) wu.hl,.inr ⟨rfl,.ret,.inl rfl,_,RZ,S5,F5,hq,NK.heap.putObj wu.sl wu.hl (fun _ _ _ h=>by cases h),Sc.putObj (by omega),Sb,?_⟩⟩
     have:({rec .busy none with state:=if (some Code.ret).isNone then .ready else .done,pending:=some .ret}:Loop)=rec .done (RX .ret):=by rw [hrec];rfl
     rw [this]
     exact wu.put (by omega)
    | exit id=>
     refine ⟨_,_,run_endRound (some (.exit id)) wu.hl,.inr ⟨rfl,.exit id,.inr ⟨id,rfl⟩,_,RZ,S5,F5,hq,NK.heap.putObj wu.sl wu.hl (fun _ _ _ h=>by cases h),Sc.putObj (by omega),Sb,?_⟩⟩
     have:({rec .busy none with state:=if (some (Code.exit id)).isNone then .ready else .done,pending:=some (.exit id)}:Loop)=rec .done (RX (.exit id)):=by rw [hrec];rfl
     rw [this]
     exact wu.put (by omega)
    | goto t=>exact hq.elim
    | panic ch=>exact hq.elim
    | outgrown=>exact hq.elim
  ·rintro e W2 ⟨⟨v,rfl⟩,⟨_,H1,aW,S1,F1,⟨i,NI,rfl⟩,hH1,hE,hA,has⟩ | ⟨e,he,H1,aW,S1,F1,hf,hH1,hE,hA,has⟩⟩
   ·refine ⟨none,_,by have:=run_endLoop (P:=P) has.hl (by rw [hrec];simp);rw [hrec] at this;exact this,?_⟩
    exact hfin .normal _ aW S1 F1 W2 _ _ (done i (by simpa using NI)) hH1 hE hA has
   ·rcases he with rfl | ⟨id,rfl⟩
    ·refine ⟨some .ret,_,by have:=run_endLoop (P:=P) has.hl (by rw [hrec];simp);rw [hrec] at this;exact this,?_⟩
     exact wpIn_ret (hfin .ret _ aW S1 F1 W2 _ _ hf hH1 hE hA has)
    ·refine ⟨some (.exit id),_,by have:=run_endLoop (P:=P) has.hl (by rw [hrec];simp);rw [hrec] at this;exact this,?_⟩
     exact wpIn_exit (hfin (.exit id) _ aW S1 F1 W2 _ _ hf hH1 hE hA has)
theorem Fin.mk' (m':Ren) (ks:List Nat) (T2:List V) (H2:Hp) {m:Ren} {Tc:List V} {Q:Exit→St→Prop} {e:Exit} {H1:Hp} (h1:(m'.ok&&RU m m'&&tK m')=true) (hT:rM m' ks 0 Tc=T2) (hH:kQ m' H1 m'=some H2) (hQ:Q e ⟨T2,H2⟩):Fin m Tc Q e H1:=by
 simp only [Bool.and_eq_true] at h1
 subst hT
 exact ⟨m',_,H2,h1.1.1,h1.1.2,Nl m' ks 0 Tc,Bb hH (Nw h1.2) fun p _=>rfl,hQ⟩
theorem CO.ahI {g:Operand} {nH body:Code} {T0:List V} {H0:Hp} {Q:Exit→St→Prop} {gf:FuncId} (hit:RS P gf) (hcf:aG P gf) {α ι:Type} (enc:α→V) (la:List α)
  (m:Ren) (ks:List Nat) (Tc:List V) (i0:ι) (J:ι→Hp) (R:List α→ι→Prop) (j:Nat) (ety:TypeId) (nn:Bool) (p0 p1:Tmp)
  (h1:(m.ok&&tK m&&V.uQ Tc&&Nat.blt j 100&&p0 !=p1)=true) (hT:rM m ks 0 T0=Tc) (hH:kQ m H0 m=some (J i0)) (hg:ev G Tc g=.fn gf [.loc j 0])
  (ES:∀ i,look (J i) j=some (.cells ety [.sl nn false (la.map fun x=>[enc x])])) (hR:R la.reverse i0)
  (round:∀ x xs i,R (x::xs) i→∀ L,∃ T1 H1,CO (some L) P G nH ⟨(Tc.set p0 .junk).set p1 (enc x),J i⟩ (fun e st=>e=.normal∧Weak st ⟨T1,H1⟩)∧
   CO (some L) P G body ⟨T1,H1⟩ (YA m Tc Q fun H=>∃ i',R xs i'∧H=J i'))
  (done:∀ i,R [] i→Fin m Tc Q .normal (J i)):CO none P G (.rangeFunc g #[p0,p1] nH body) ⟨T0,H0⟩ Q:=by
 simp only [Bool.and_eq_true,Nat.blt_eq,bne_iff_ne] at h1
 subst hT
 exact CO.ahw hit hcf enc la m _ i0 J R j ety nn p0 p1 h1.1.1.1.1 (Nl m ks 0 T0) (Bb hH (Nw h1.1.1.1.2) fun p _=>rfl) h1.1.1.2 hg h1.1.2 h1.2 ES hR round done
theorem kT {ops:Array Oper} {Q:Exit→Act→World→Prop} {o:Oper} {rest:List Oper} {a:Act} {w w':World} {v:Value} (hg:o.guard=none) (hd:∀ c,o.op≠.defer c) (hr:(execOp a.eval o).run P w=.ok (.value v) w')
  (k:wpListIn (qJ L) 0 P ops Q rest (a.put o.dst v) w'):wpListIn (qJ L) 0 P ops Q (o::rest) a w:=by
 unfold wpListIn
 rw [if_pos (by simp [Region.wanted,hg])]
 refine ⟨fun _ _=>trivial,?_⟩
 rw [Oper.semAt_eq _ _ _ hd,hr,Oper.uponIn_value]
 exact k
theorem ahJ {ops:Array Oper} {Q:Exit→Act→World→Prop} {o:Oper} {rest:List Oper} {a:Act} {w:World} {l:Nat} {f:FuncId} {tmps:Array Value} {nH body:Code} {K:Ending→World→Prop} (hg:o.guard=none) (hd:∀ c,o.op≠.defer c)
  (hr:(execOp a.eval o).run P w=.ok (.round l f tmps nH body) w) (hR:RoundIn Fence.wide 0 P l f tmps nH body w K)
  (k:∀ e w',K e w'→∃ v,e=.returned v∧wpListIn (qJ L) 0 P ops Q rest (a.put o.dst v) w'):wpListIn (qJ L) 0 P ops Q (o::rest) a w:=by
 unfold wpListIn
 rw [if_pos (by simp [Region.wanted,hg])]
 refine ⟨fun _ _=>trivial,?_⟩
 rw [Oper.semAt_eq _ _ _ hd,hr,Oper.uponIn_round]
 refine ⟨fun h=>(by cases h),?_⟩
 refine RoundIn.mono (F:=qJ L) (n:=0 - 1) hR fun e w' h=>?_
 obtain ⟨v,rfl,h2⟩:=k e w' h
 exact h2
theorem YM {F:Fence} {m:Nat} {c:Code} {Q:Exit→Act→World→Prop} (I:Nat→Act→World→Prop) (hz:∀ a W,I 0 a W→c.wpIn F m P (Exit.then (fun _ _=>False) Q) a W) (hs:∀ k a W,I (k+1) a W→c.wpIn F m P (Exit.then (I k) Q) a W):
  ∀ (n:Nat) (a:Act) (w:World),I n a w→Code.roundsIn F m P c Q (n+1) a w
 | 0,a,w,h=>hz a w h
 | n+1,a,w,h=>wpIn_mono (hs n a w h) fun e a' w' hq=>by
  cases e<;>first
   | exact hq
   | exact YM I hz hs n a' w' hq
def slot (a:Act) (t:Nat):Value:=a.tmps.getD t undef
theorem jZ (a:Act) (t:Tmp):a.eval (.tmp t)=slot a t:=rfl
theorem jI {a:Act} {d t:Nat} {v:Value} (h:t < a.tmps.size):slot (a.put (some d) v) t=if t=d then v else slot a t:=MV h
theorem kg {a:Act} {d:Option Tmp} {v:Value}:(a.put d v).tmps.size=a.tmps.size:=by cases d<;>simp [Act.put]
theorem Sd {a:Act} {d:Option Tmp} {v:Value}:(a.put d v).defers=a.defers:=by cases d<;>rfl
theorem Sg {D:Tab} (hD:bg P D) {t:TypeId} {it:Ty} (ht:D.at t=some it) (hag:it.d.agg=false) {b:Addr} {c v:Value} {w:World} (hv:v=.pointer (some b)) (hc:w.cell? b=some c):(Instr.loadAt t v).run P w=.ok c w:=by
 subst hv
 have hpart:(loadVar t b).run P w=.ok c w:=by
  simp only [loadVar,Sem.run_bind,(hD _ _ ht).isAgg w,Result.andThen_ok,hag]
  simp [hc]
 simp [Instr.loadAt,Instr.sureAddr,hpart]
end
end Go.Av
namespace Go.Av
def rP (H:Hp):Ren:=H.map fun p=>(p.1,p.1)
def IJ:List V→Nat→List Nat
 | [],_=>[]
 | .junk::r,n=>IJ r (n+1)
 | _::r,n=>n::IJ r (n+1)
def Si (H:Hp):Bool:=(rP H).ok&&(rP H).keep&&tK (rP H)
section
variable {P:Program} {G:Nat→Option (List V)} {L:Option Nat}
theorem W.fi {ops:Array Oper} {draw:Bool} {T0:List V} {H0:Hp} {i:Nat} {T:List V} {H:Hp} {Es:List (Bool×Eff)} {T':List V} {H':Hp}
  (h:(Nat.ble ops.size i&&(sZ draw ops T0 H0 Es&&Si H'),rM (rP H') (IJ T' 0) 0 T,kQ (rP H') H (rP H'))=(true,T',some H')):W P G ops draw T0 H0 i T H Es fun st=>Weak st ⟨T',H'⟩:=by
 simp only [Prod.mk.injEq,Bool.and_eq_true,Nat.ble_eq] at h
 obtain ⟨⟨h1,h2,h3⟩,h4,h5⟩:=h
 exact W.fin h1 h2 (Weak.sel _ _ h3 h4 h5)
theorem W.fs (m:Ren) (ks:List Nat) {ops:Array Oper} {draw:Bool} {T0:List V} {H0:Hp} {i:Nat} {T:List V} {H:Hp} {Es:List (Bool×Eff)} {T':List V} {H':Hp}
  (h:(Nat.ble ops.size i&&(sZ draw ops T0 H0 Es&&(m.ok&&m.keep&&tK m)),rM m ks 0 T,kQ m H m)=(true,T',some H')):W P G ops draw T0 H0 i T H Es fun st=>Weak st ⟨T',H'⟩:=by
 simp only [Prod.mk.injEq] at h
 obtain ⟨h1,h4,h5⟩:=h
 rw [Bool.and_eq_true,Bool.and_eq_true,Nat.ble_eq] at h1
 exact W.fin h1.1 h1.2.1 (Weak.sel _ _ h1.2.2 h4 h5)
def ET (D:Tab) (G:Nat→Option (List V)) (ops:Array Oper) (draw:Bool) (n q:Nat) (T:List V) (H:Hp) (T':List V) (H':Hp):Bool×List V×Option Hp:=
 match rJ D G ops n q 0 T H with
 | some r=>(Nat.ble ops.size n&&(sZ draw ops T H r.Es&&Si H'),rM (rP H') (IJ T' 0) 0 r.T,kQ (rP H') r.H (rP H'))
 | none=>(false,[],none)
theorem YN {D:Tab} (hD:bg P D) (n q:Nat) {ops:Array Oper} {draw:Bool} {T:List V} {H:Hp} {T':List V} {H':Hp} (h:ET D G ops draw n q T H T' H'=(true,T',some H')):W P G ops draw T H 0 T H [] fun st=>Weak st ⟨T',H'⟩:=by
 unfold ET at h
 split at h
 ·rename_i r hr
  refine W.EK hD n hr ?_
  rw [Nat.zero_add,List.nil_append]
  exact W.fi h
 ·cases h
theorem cu {D:Tab} (hD:bg P D) (hm:P.follows .mixedOrders=true) (n q:Nat) (T':List V) (H':Hp) {id:Nat} {l:List Oper} {draw:Bool} {c:Code} {T:List V} {H:Hp} {Q:Exit→St→Prop}
  (h:ET D G l.toArray draw n q T H T' H'=(true,T',some H')) (k:CO L P G c ⟨T',H'⟩ Q):CO L P G (.seq (.region id l.toArray draw) c) ⟨T,H⟩ Q:=
 CO.aL T' H' hm (YN hD n q h) k
theorem ce {D:Tab} (hD:bg P D) (hm:P.follows .mixedOrders=true) (n q:Nat) (T':List V) (H':Hp) {id:Nat} {l:List Oper} {draw:Bool} {T:List V} {H:Hp} {Q:Exit→St→Prop}
  (h:ET D G l.toArray draw n q T H T' H'=(true,T',some H')) (hQ:∀ st,Weak st ⟨T',H'⟩→Q .normal st):CO L P G (.region id l.toArray draw) ⟨T,H⟩ Q:=
 CO.gQ T' H' hm (YN hD n q h) hQ
end
end Go.Av
namespace Go.Av
theorem bR {α β:Type} {x:Option α} {f:α→Option β} {r:β} {P:Prop} (k:∀ a,x=some a→f a=some r→P) (h:Option.bind x f=some r):P:=
 match bind_some h with
 | ⟨a,h1,h2⟩=>k a h1 h2
theorem cR {β:Type} {c:Bool} {x y:Option β} {r:β} {P:Prop} (k:c=true→x=some r→P) (k':c=false→y=some r→P) (h:(bif c then x else y)=some r):P:=
 match agZ h with
 | .inl ⟨h1,h2⟩=>k h1 h2
 | .inr ⟨h1,h2⟩=>k' h1 h2
section
variable {P:Program} {G:Nat→Option (List V)}
theorem Reader.u8 {t:TypeId} (ht:P.underlying t=some (.int .u8)):Reader P t aT (fun _=>True):=by
 intro H e w fuel cs x h
 obtain ⟨n,hn,hr⟩:=Reader.int ht e w fuel cs x h
 have h1:0≤n∧n≤255:=by simpa [Lit.wf,IntKind.min,IntKind.max,IntKind.signed,IntKind.bits] using hn
 have h2:((UInt8.ofNat n.toNat).toNat:Int)=n:=by
  rw [UInt8.toNat_ofNat']
  omega
 refine ⟨UInt8.ofNat n.toNat,trivial,fun S hS=>?_⟩
 have:=hr S hS
 unfold aT
 rw [h2]
 exact this
end
end Go.Av
namespace Go.Av
section
variable {P:Program} {G:Nat→Option (List V)} {L:Option Nat}
theorem bB {α β:Type} {x:Option α} {f:α→Option β} {r:β} {P:Prop} (h:Option.bind x f=some r) (k:∀ a,x=some a→f a=some r→P):P:=bR k h
theorem wS (m:Ren) (ks:List Nat) {T:List V} {H:Hp} {T':List V} {H':Hp} (hm:(m.ok&&m.keep&&tK m)=true:=by kernel_rfl) (hT:rM m ks 0 T=T':=by kernel_rfl) (hH:kQ m H m=some H':=by kernel_rfl):Weak ⟨T,H⟩ ⟨T',H'⟩:=Weak.sel m ks hm hT hH
theorem oT {st:St} {t:Tmp} {r:V} (ht:st.T[t]?=some r:=by kernel_rfl):dX P st (.tmp t) r:=dX.t ht
theorem eG {fn:Func} {r0:V} {T:List V} {H:Hp} {e:Exit} (m:Ren) (he:e=.normal∨e=.ret) (h:aF P fn ⟨T,H⟩ r0) {r':V} {H':Hp} (hm:(m.ok&&m.keep&&tK m)=true:=by kernel_rfl) (hr:r0.rn m=r':=by kernel_rfl) (hH:kQ m H m=some H':=by kernel_rfl):Ends P fn r' H' e ⟨T,H⟩:=Ends.gen m he h hm hr hH
theorem fI {ops:Array Oper} {draw:Bool} {T0:List V} {H0:Hp} {i:Nat} {T:List V} {H:Hp} {Es:List (Bool×Eff)} {T':List V} {H':Hp}
  (h:(Nat.ble ops.size i&&(sZ draw ops T0 H0 Es&&Si H'),rM (rP H') (IJ T' 0) 0 T,kQ (rP H') H (rP H'))=(true,T',some H'):=by kernel_rfl):W P G ops draw T0 H0 i T H Es fun st=>Weak st ⟨T',H'⟩:=W.fi h
theorem fS (m:Ren) (ks:List Nat) {ops:Array Oper} {draw:Bool} {T0:List V} {H0:Hp} {i:Nat} {T:List V} {H:Hp} {Es:List (Bool×Eff)} {T':List V} {H':Hp}
  (h:(Nat.ble ops.size i&&(sZ draw ops T0 H0 Es&&(m.ok&&m.keep&&tK m)),rM m ks 0 T,kQ m H m)=(true,T',some H'):=by kernel_rfl):W P G ops draw T0 H0 i T H Es fun st=>Weak st ⟨T',H'⟩:=W.fs m ks h
theorem sI {α:Type} {a b:α} (h:some a=some b):a=b:=Option.some.inj h
end
end Go.Av
namespace Go.Av
def OwnAt (te:TypeId) (K:Nat) (w:World) (s:Value) (n:Nat) (olds:List Value):Prop:=
 (s=.slice none 0 0∧n=0∧olds=[])∨∃ g c cur,s=.slice (some ⟨g,0,none⟩) n c∧w.heap[g]?=some (.cells cur te (0,0))∧n≤c∧c≤maxLen∧cur.size=c*K∧olds=cur.toList.take (n*K)
theorem fB.at {ρ:Nat→Option Value} {S:Nat→Prop} {w:World} {r:Value} {nn:Bool} {te:TypeId} {K:Nat} {rows:List (List V)} {F:List Nat} (h:fB ρ S w r (.vec nn te K rows) F) (hnd:F.Nodup):
  ∃ (olds:List Value) (cs:Nat→Nat→Value) (Fs:Nat→Nat→List Nat),OwnAt te K w r rows.length olds∧olds.length=rows.length*K∧(∀ (i:Nat) (x:List V),rows[i]?=some x→x.length=K)∧
   (∀ (i j:Nat) (x:List V) (y:V),rows[i]?=some x→x[j]?=some y→olds[i*K+j]?=some (cs i j)∧RD S w (cs i j) y (Fs i j))∧
   (∀ v,v∈olds→v.oneCell'=true)∧(flat rows.length K Fs).Nodup∧(∀ b,b∈flat rows.length K Fs→b∈F∧r.ownBlock≠some b)∧(∀ g,r.ownBlock=some g→g∈F):=by
 cases h with
 | gZ=>
  exact ⟨[],fun _ _=>undef,fun _ _=>[],.inl ⟨rfl,rfl,rfl⟩,by simp,fun i x h=>by simp at h,fun i j x y h=>by simp at h,fun v h=>(by cases h),by simp [flat],fun b h=>(by simp [flat] at h),fun g h=>by simp [Value.ownBlock] at h⟩
 | vec g cap arr _ _ _ _ cs Fs hh hcap hmax hsz hk hc hr mP=>
  have Sj:=mP.2
  cases mP.1
  have hl:(arr.toList.take (rows.length*K)).length=rows.length*K:=by
   rw [List.length_take]
   exact Nat.min_eq_left (Nat.le_trans (Nat.mul_le_mul_right K hcap) (Nat.le_of_eq hsz.symm))
  have hget:∀ (i j:Nat) (x:List V) (y:V),rows[i]?=some x→x[j]?=some y→(arr.toList.take (rows.length*K))[i*K+j]?=some (cs i j):=fun i j x y h1 h2=>by
   have hi:i < rows.length:=(List.getElem?_eq_some_iff.1 h1).1
   have hj:j < K:=by have:=(List.getElem?_eq_some_iff.1 h2).1;rw [hk i x h1] at this;exact this
   rw [List.getElem?_take,if_pos (ED hi hj)]
   simpa using hc i j x y h1 h2
  refine ⟨arr.toList.take (rows.length*K),cs,Fs,.inr ⟨g,cap,arr,rfl,hh,hcap,hmax,hsz,rfl⟩,hl,hk,fun i j x y h1 h2=>⟨hget i j x y h1 h2,hr i j x y h1 h2⟩,fun v hv=>?_,(List.nodup_cons.1 hnd).2,fun b hb=>⟨List.mem_cons_of_mem _ hb,fun h=>?_⟩,fun g' h=>?_⟩
  ·obtain ⟨p,hp⟩:=List.getElem?_of_mem hv
   have hlt:p < rows.length*K:=by rw [← hl];exact (List.getElem?_eq_some_iff.1 hp).1
   have hk0:0 < K:=by
    rcases Nat.eq_zero_or_pos K with h0 | h0
    ·rw [h0,Nat.mul_zero] at hlt;omega
    ·exact h0
   have hi:p / K < rows.length:=Nat.div_lt_of_lt_mul (by rwa [Nat.mul_comm])
   have hj:p % K < K:=Nat.mod_lt _ hk0
   have h1:rows[p / K]?=some rows[p / K]:=List.getElem?_eq_getElem hi
   have hj':p % K < rows[p / K].length:=by rw [hk _ _ h1];exact hj
   have h2:rows[p / K][p % K]?=some rows[p / K][p % K]:=List.getElem?_eq_getElem hj'
   have h3:=hget _ _ _ _ h1 h2
   rw [show p / K*K+p % K=p by rw [Nat.mul_comm];exact Nat.div_add_mod p K,hp] at h3
   cases h3
   exact (hr _ _ _ _ h1 h2).one
  ·simp only [Value.ownBlock,Option.some.injEq] at h
   subst h
   exact (List.nodup_cons.1 hnd).1 hb
  ·simp only [Value.ownBlock,Option.some.injEq] at h
   subst h;simp
section
variable {P:Program} {G:Nat→Option (List V)}
end
end Go.Av
namespace Go.Av
section
variable {P:Program} {G:Nat→Option (List V)}
def yG (a b:Int):Option Int:=bif b==0 then none else some (a.tmod b)
def YO (G:Nat→Option (List V)) (ops:Array Oper) (i:Nat) (T:List V):Option (V×V):=
 match jc ops i T with
 | some (.binOp .rem _ x y _)=>some (ev G T x,ev G T y)
 | _=>none
theorem W.rem {ops:Array Oper} {draw:Bool} {T0:List V} {H0:Hp} {i:Nat} {T:List V} {H:Hp} {Es:List (Bool×Eff)} {Q:St→Prop} {k:IntKind} {a b r:Int} (hx:yG a b=some r) (h:YO G ops i T=some (.c (.int k a),.c (.int k b)))
  (kk:W P G ops draw T0 H0 (i+1) (bQ T (fO ops i) (.c (.int k r))) H (Es++[(true,{v:=.c (.int k r)})]) Q):W P G ops draw T0 H0 i T H Es Q:=by
 unfold yG at hx
 cases hb:b==0 with
 | true=>rw [hb] at hx;cases hx
 | false=>
  rw [hb] at hx
  have hx:=Option.some.inj hx
  subst hx
  have hb': ¬b=0:=by simpa using hb
  unfold YO at h
  split at h
  ·rename_i t x y t' hop
   simp only [Option.some.injEq,Prod.mk.injEq] at h
   refine W.rO (.c (.int k (a.tmod b))) [] hop (fun o ho e' H' he _=>?_) kk
   refine Nf (D:=[]) (fun t i h=>by simp [Tab.at] at h) ?_
   rw [ho]
   have e1:=(he x (by simp [Op.operands])).trans h.1
   have e2:=(he y (by simp [Op.operands])).trans h.2
   simp [dS,Nb,e1,e2,MZ,hb']
  ·cases h
theorem CO.Sk {L:Option Nat} (T':List V) (H':Hp) {id:Nat} {l:List Oper} {draw:Bool} {T:List V} {H:Hp} {Q:Exit→St→Prop} (hm:P.follows .mixedOrders=true)
  (h:W P G l.toArray draw T H 0 T H [] fun st=>Weak st ⟨T',H'⟩) (k:Q .normal ⟨T',H'⟩):CO L P G (.region id l.toArray draw) ⟨T,H⟩ Q:=by
 have h1:CO L P G (.region id l.toArray draw) ⟨T,H⟩ (fun e st=>e=.normal∧Weak st ⟨T',H'⟩):=CO.gQ T' H' hm h fun st hw=>⟨rfl,hw⟩
 intro B ρ S F a w R hst hn
 refine h1 B ρ S F a w R hst fun e st2 he iC S2 F2 a2 w2 jG hE2 hA2=>?_
 obtain ⟨rfl,hw⟩:=he
 obtain ⟨aW,S1,F1,h3,e1,a1⟩:=hw _ G iC S2 F2 a2 w2 jG
 exact hn .normal _ k aW S1 F1 a2 w2 h3 (hE2.trans e1) (hA2.trans a1)
end
end Go.Av
namespace Go.Av
section
variable {P:Program} {G:Nat→Option (List V)} {L:Option Nat}
def EU (D:Tab) (G:Nat→Option (List V)) (ops:Array Oper) (draw:Bool) (q:Nat) (T:List V) (H:Hp):Bool:=
 match rJ D G ops ops.size q 0 T H with
 | some r=>sZ draw ops T H r.Es
 | none=>false
theorem YP {D:Tab} (hD:bg P D) {q:Nat} {ops:Array Oper} {draw:Bool} {T:List V} {H:Hp} {Q:St→Prop} (h:EU D G ops draw q T H=true) (k:Q ⟨(iX D G ops ops.size q 0 T H).T,(iX D G ops ops.size q 0 T H).H⟩):W P G ops draw T H 0 T H [] Q:=by
 unfold EU at h
 unfold iX at k
 split at h
 ·rename_i r hr
  rw [hr] at k
  exact W.EK hD _ hr (W.fin (by omega) h k)
 ·cases h
theorem cv {D:Tab} (hD:bg P D) (hm:P.follows .mixedOrders=true) (q:Nat) {id:Nat} {l:List Oper} {draw:Bool} {c:Code} {T:List V} {H:Hp} {Q:Exit→St→Prop}
  (k:CO L P G c ⟨(iX D G l.toArray l.toArray.size q 0 T H).T,(iX D G l.toArray l.toArray.size q 0 T H).H⟩ Q) (h:EU D G l.toArray draw q T H=true):CO L P G (.seq (.region id l.toArray draw) c) ⟨T,H⟩ Q:=
 CO.sw hm (YP hD h k)
def EW (m:Ren) (ks:List Nat) (b:Bool) (T:List V) (H:Hp):Bool×List V×Option Hp:=(b&&(m.ok&&m.keep&&tK m),rM m ks 0 T,kQ m H m)
theorem Sl {m:Ren} {ks:List Nat} {b:Bool} {T:List V} {H:Hp} {s:St} (h:EW m ks b T H=(true,s.T,some s.H)):b=true∧Weak ⟨T,H⟩ s:=by
 unfold EW at h
 simp only [Prod.mk.injEq] at h
 obtain ⟨h1,h2,h3⟩:=h
 rw [Bool.and_eq_true] at h1
 exact ⟨h1.1,Weak.sel m ks h1.2 h2 h3⟩
theorem ck {D:Tab} (hD:bg P D) (hm:P.follows .mixedOrders=true) (q:Nat) {ι:Type} {J:ι→St} {R:ι→Prop} {id:Nat} {l:List Oper} {draw:Bool} {T:List V} {H:Hp} {Q:Exit→St→Prop} (hk:∀ i,R i→∀ st,Weak st (J i)→Q .normal st) (i:ι) (hi:R i) (m:Ren) (ks:List Nat)
  (h:EW m ks (EU D G l.toArray draw q T H) (iX D G l.toArray l.toArray.size q 0 T H).T (iX D G l.toArray l.toArray.size q 0 T H).H=(true,(J i).T,some (J i).H)):CO L P G (.region id l.toArray draw) ⟨T,H⟩ Q:=by
 obtain ⟨h1,h2⟩:=Sl h
 exact CO.w hm (YP hD h1 (hk i hi _ h2))
theorem sK {ι:Type} {J:ι→St} {R:ι→Prop} {T:List V} {H:Hp} {Q:Exit→St→Prop} (hk:∀ i,R i→∀ st,Weak st (J i)→Q .normal st) (i:ι) (hi:R i) (m:Ren) (ks:List Nat)
  (h:EW m ks true T H=(true,(J i).T,some (J i).H):=by kernel_rfl):CO L P G .skip ⟨T,H⟩ Q:=
 CO.skip (hk i hi _ (Sl h).2)
theorem wF {ops:Array Oper} {draw:Bool} {T0:List V} {H0:Hp} {i:Nat} {T:List V} {H:Hp} {Es:List (Bool×Eff)} {Q:St→Prop} (k:Q ⟨T,H⟩) (h:(Nat.ble ops.size i&&sZ draw ops T0 H0 Es)=true:=by kernel_rfl):W P G ops draw T0 H0 i T H Es Q:=by
 simp only [Bool.and_eq_true,Nat.ble_eq] at h
 exact W.fin h.1 h.2 k
theorem wK {ops:Array Oper} {draw:Bool} {T0:List V} {H0:Hp} {i:Nat} {T:List V} {H:Hp} {Es:List (Bool×Eff)} {ι:Type} {J:ι→St} {R:ι→Prop} {Q:St→Prop} (hk:∀ i,R i→∀ st,Weak st (J i)→Q st) (x:ι) (hi:R x) (m:Ren) (ks:List Nat)
  (h:EW m ks (Nat.ble ops.size i&&sZ draw ops T0 H0 Es) T H=(true,(J x).T,some (J x).H):=by kernel_rfl):W P G ops draw T0 H0 i T H Es Q:=by
 obtain ⟨h1,h2⟩:=Sl h
 exact wF (hk x hi _ h2) h1
theorem cI {β:Type} {b:Bool} {X Y:Option β} {r:β} {x:Operand} {c1 c2:Code} {T:List V} {H:Hp} {Q:Exit→St→Prop} (h:(bif b then X else Y)=some r)
  (k:b=true→X=some r→CO L P G c1 ⟨T,H⟩ Q) (k':b=false→Y=some r→CO L P G c2 ⟨T,H⟩ Q) (hb:ev G T x=.c (.bool b):=by kernel_rfl):CO L P G (.cond x c1 c2) ⟨T,H⟩ Q:=
 cR (fun hc h=>CO.RI hc (hc ▸ hb) (k hc h)) (fun hc h=>CO.Yf hc (hc ▸ hb) (k' hc h)) h
theorem wJ {β:Type} {b:Bool} {X Y:Option β} {r:β} {ops:Array Oper} {draw:Bool} {T0:List V} {H0:Hp} {i:Nat} {T:List V} {H:Hp} {Es:List (Bool×Eff)} {Q:St→Prop} (d:Nat) (h:(bif b then X else Y)=some r)
  (k:X=some r→W P G ops draw T0 H0 i (T.set d (.c (.bool true))) H Es Q) (k':Y=some r→W P G ops draw T0 H0 i (T.set d (.c (.bool false))) H Es Q) (hd:T[d]?=some (.c (.bool b)):=by kernel_rfl):W P G ops draw T0 H0 i T H Es Q:=
 cR (fun hc h=>W.is d hc hd (k h)) (fun hc h=>W.is d hc hd (k' h)) h
def NP (D:Tab) (G:Nat→Option (List V)) (ops:Array Oper) (draw:Bool) (n q:Nat) (rc:V) (T:List V) (H:Hp):Bool×Option (FuncId×List V×Hp)×V:=
 let r1:=iX D G ops n q 0 T H
 let T1:=bQ r1.T (fO ops n) rc
 ((rJ D G ops n q 0 T H).isSome&&match rJ D G ops (ops.size - (n+1)) q (n+1) T1 r1.H with
  | some r=>sZ draw ops T H (r1.Es++[(true,{v:=rc})]++r.Es)
  | none=>false,wh G ops [] [] n r1.T r1.H,rc.rn [])
def Bl (D:Tab) (G:Nat→Option (List V)) (ops:Array Oper) (n q:Nat) (rc:V) (T:List V) (H:Hp):Run:=
 iX D G ops (ops.size - (n+1)) q (n+1) (bQ (iX D G ops n q 0 T H).T (fO ops n) rc) (iX D G ops n q 0 T H).H
theorem ccW {D:Tab} (hD:bg P D) (n q:Nat) {ops:Array Oper} {draw:Bool} {T:List V} {H:Hp} {Q:St→Prop} {fid:FuncId} {vs:List V} {rc:V} (hA:AC P G fid vs [] rc []) (hcf:aG P fid)
  (h:NP D G ops draw n q rc T H=(true,some (fid,vs,[]),rc)) (k:Q ⟨(Bl D G ops n q rc T H).T,(Bl D G ops n q rc T H).H⟩):W P G ops draw T H 0 T H [] Q:=by
 unfold NP at h
 simp only [Prod.mk.injEq,Bool.and_eq_true] at h
 obtain ⟨⟨h1,h2⟩,h3,h4⟩:=h
 refine W.run hD n q h1 (W.Ye hA hcf h4 ?_ ?_)
 ·rw [Nat.zero_add];exact h3
 ·rw [Nat.zero_add]
  unfold Bl at k
  unfold iX at k
  unfold iX at h2 ⊢
  split at h2
  ·rename_i r hr
   rw [hr] at k
   exact W.EK hD _ hr (W.fin (by omega) (by simpa using h2) k)
  ·cases h2
theorem cc {D:Tab} (hD:bg P D) (hm:P.follows .mixedOrders=true) (n q:Nat) {id:Nat} {l:List Oper} {draw:Bool} {c:Code} {T:List V} {H:Hp} {Q:Exit→St→Prop} {fid:FuncId} {vs:List V} {rc:V} (hA:AC P G fid vs [] rc []) (hcf:aG P fid)
  (k:CO L P G c ⟨(Bl D G l.toArray n q rc T H).T,(Bl D G l.toArray n q rc T H).H⟩ Q) (h:NP D G l.toArray draw n q rc T H=(true,some (fid,vs,[]),rc)):CO L P G (.seq (.region id l.toArray draw) c) ⟨T,H⟩ Q:=
 CO.sw hm (ccW hD n q hA hcf h k)
theorem e1 (t:Tmp) {fn:Func} {T:List V} {H:Hp} {r:V} {Q:Exit→St→Prop} (hQ:Ends P fn r [] .ret ⟨T,H⟩→Q .ret ⟨T,H⟩) (hf:fn.results=#[.tmp t]:=by rfl) (h:(T[t]?,r.rn [])=(some r,r):=by kernel_rfl):CO L P G .ret ⟨T,H⟩ Q:=by
 simp only [Prod.mk.injEq] at h
 exact CO.ret (hQ (Ends.gen [] (.inr rfl) (aF.one hf (dX.t h.1)) rfl h.2 rfl))
end
end Go.Av
namespace Go.Av
end Go.Av
namespace Go.Av
end Go.Av
namespace Go.Av
def iE (l:List (List UInt8)):List (List UInt8):=l.mergeSort fun x y=>decide (x≤y)
theorem YQ (l:List (List UInt8)):(iE l).length=l.length:=List.length_mergeSort l
def Sn (P:Program) (f:FuncId):Prop:=
 (∀ (blk cap:Nat) (zs:List (List UInt8)) (w:World),Sort.Holds Go.Proofs.encStr w blk 0 zs.toArray→blk < w.heap.size→zs.length < 4611686018427387904→
  Calls P f #[.slice (some ⟨blk,0,none⟩) zs.length cap] w fun e w'=>e=.returned (.tuple #[])∧∃ n os,w'=Sort.grow (Sort.putRow Go.Proofs.encStr (Sort.ahead w n) blk 0 (iE zs).toArray) os)∧
 ∀ w:World,Calls P f #[.slice none 0 0] w fun e w'=>e=.returned (.tuple #[])∧w'=w
theorem AC.ahL {P:Program} {G:Nat→Option (List V)} {f:FuncId} {te:TypeId} (h:Sn P f) (nn:Bool) (l:List (List UInt8)) (hlen:l.length≤1048576):AC P G f [.own 0] [(0,.vec nn te 1 (l.map aO))] (.bG []) [(0,.vec nn te 1 ((iE l).map aO))]:=by
 intro ρ S F xs w hsz hxs hH hG
 have l0:look [(0,Ob.vec nn te 1 (l.map aO))] 0=some (.vec nn te 1 (l.map aO)):=rfl
 obtain ⟨r0,hr0,qO⟩:=hH.obj 0 _ l0
 have hnd:=hH.nodup 0 _ l0
 have x0:xs.getD 0 undef=r0:=by
  have h:RV ρ S w (xs.getD 0 undef) (.own 0):=hxs 0 _ rfl
  exact h.sU _ hr0
 have hx:xs=#[r0]:=by
  have h3:xs.size=1:=hsz
  apply Array.ext
  ·exact h3
  ·intro j h1 h2
   have:j=0:=by omega
   subst this
   simpa [Array.getD,h1] using x0
 subst hx
 have YR:∀ (ρ':Nat→Option Value) (S':Nat→Prop) (w':World),RV ρ' S' w' (.tuple #[]) (.bG []):=fun ρ' S' w'=>.bG #[] [] rfl (fun j x c hx _=>by simp at hx)
 have fin:∀ w',Post ρ S F [(0,Ob.vec nn te 1 (l.map aO))] w (.bG []) ((0,.vec nn te 1 ((iE l).map aO))::aR [0] [(0,Ob.vec nn te 1 (l.map aO))]) [] (.tuple #[]) w'→
   ∃ x ρ' S' F',Ending.returned (.tuple #[])=.returned x∧RV ρ' S' w' x (.bG [])∧aY ρ' S' F' [(0,Ob.vec nn te 1 ((iE l).map aO))] w'∧dR S (Ub [(0,Ob.vec nn te 1 (l.map aO))] F) w S' (Ub [(0,Ob.vec nn te 1 ((iE l).map aO))] F') w'∧gG ρ ρ':=fun w' hP=>by
  obtain ⟨ρ',S',F',h1,h2,h3,h4⟩:=hP
  exact ⟨_,ρ',S',F',rfl,h1,h2,h3,fun j r hj hr=>h4 j r hr (by simp)⟩
 have hcase:(r0=.slice none 0 0∧l=[]∧nn=false)∨∃ (g cap:Nat) (arr:Array Value) (cc:Nat→Nat→Value) (Fs:Nat→Nat→List Nat),r0=.slice (some ⟨g,0,none⟩) l.length cap∧F 0=g::flat l.length 1 Fs∧w.heap[g]?=some (.cells arr te (0,0))∧l.length≤cap∧cap≤maxLen∧arr.size=cap*1∧
   (∀ (i:Nat) (x:List UInt8),l[i]?=some x→arr[i]?=some (Go.Proofs.encStr x)):=by
  generalize F 0=Fi at qO
  generalize hrows:l.map aO=rows at qO
  cases qO with
  | gZ=>exact .inl ⟨rfl,List.map_eq_nil_iff.1 hrows,rfl⟩
  | vec g cap arr _ _ _ _ cc Fs hh hcap hmax qM hk hc hr mP=>
   have Sj:=mP.2
   cases mP.1
   have hlen:rows.length=l.length:=by rw [← hrows];simp
   refine .inr ⟨g,cap,arr,cc,Fs,by rw [hlen],by rw [hlen],hh,by omega,hmax,qM,fun i x hx=>?_⟩
   have h1:rows[i]?=some (aO x):=by rw [← hrows,List.getElem?_map,hx];rfl
   have h2:=hc i 0 _ (V.s x) h1 rfl
   have h3:=hr i 0 _ (V.s x) h1 rfl
   rw [Nat.mul_one,Nat.add_zero] at h2
   unfold V.s at h3
   generalize cc i 0=v at h2 h3
   generalize Fs i 0=fs at h3
   cases h3
   exact h2
 rcases hcase with ⟨rfl,rfl,rfl⟩ | ⟨g,cap,arr,cc,Fs,rfl,dV,hh,hcap,hmax,qM,hval⟩
 ·refine Calls.mono (h.2 w) fun e w' hq=>?_
  obtain ⟨rfl,rfl⟩:=hq
  refine fin w' (Post.upd hH [0] (i:=0) hr0 (Fi:=F 0) rfl rfl rfl (Nat.le_refl _) (fun b _ _=>rfl) (fun ρ'=>?_) hnd (fun b hb=>.inl ⟨0,_,by simp,l0,hb⟩) (YR _ _ _))
  have hs:iE []=[]:=by simp [iE]
  rw [hs]
  exact qO.mono (fun _ _ _ h=>by cases h) (fun b hb=>⟨hb,rfl⟩) (fun _ _=>rfl)
 ·have hg:g < w.heap.size:=(Array.getElem?_eq_some_iff.1 hh).1
  have hat:arr.toList.take l.length=l.map Go.Proofs.encStr:=by
   apply List.ext_getElem?
   intro i
   rw [List.getElem?_take,List.getElem?_map]
   by_cases hi:i < l.length
   ·rw [if_pos hi,Array.getElem?_toList,hval i _ (List.getElem?_eq_getElem hi),List.getElem?_eq_getElem hi];rfl
   ·rw [if_neg hi,List.getElem?_eq_none (by omega)];rfl
  refine Calls.mono (h.1 g cap l w (holds_of_block hh hat) hg (by omega)) fun e w' hq=>?_
  obtain ⟨rfl,n,os,rfl⟩:=hq
  have hgb:=grownBy_sorted (w:=w) (g:=g) (n:=n) (os:=os) (iE l).toArray
  have IK:=heap_sorted (w:=w) (n:=n) (os:=os) (iE l).toArray hh
  have hle:=YQ l
  have htk:=take_putCells arr (iE l) (by omega)
  obtain ⟨w',hw'⟩:∃ w',w'=Sort.grow (Sort.putRow Go.Proofs.encStr (Sort.ahead w n) g 0 (iE l).toArray) os:=⟨_,rfl⟩
  rw [← hw'] at hgb IK ⊢
  have own:g∈F 0:=by rw [dV];simp
  have hfl:flat (iE l).length 1 (fun _ _=>([]:List Nat))=[]:=by
   apply List.eq_nil_iff_forall_not_mem.2
   intro b hb
   obtain ⟨_,_,_,_,h⟩:=kP.1 hb
   cases h
  refine fin w' (Post.upd hH [0] (i:=0) hr0 (Fi:=g::flat (iE l).length 1 (fun _ _=>[])) hgb.os hgb.tape hgb.output hgb.size (fun b hb hn=>hgb.block b hb fun he=>hn 0 _ (by simp) l0 (by rw [Option.some.inj he];exact own)) (fun ρ'=>?_) (by rw [hfl];simp) (fun b hb=>?_) (YR _ _ _))
  ·have hlm:((iE l).map aO).length=l.length:=by simp [hle]
   have hlf:(iE l).length=((iE l).map aO).length:=by simp
   rw [show l.length=((iE l).map aO).length from hlm.symm,hlf]
   refine .vec g cap _ nn te 1 _ (fun i _=>Go.Proofs.encStr ((iE l).getD i [])) (fun _ _=>[]) IK (by rw [hlm];exact hcap) hmax (by simp [Sort.putCells,qM]) (fun i r hi=>?_) (fun i j r x hi hj=>?_) (fun i j r x hi hj=>?_)
   ·rw [List.getElem?_map] at hi
    obtain ⟨z,_,rfl⟩:=Option.map_eq_some_iff.1 hi
    rfl
   ·rw [List.getElem?_map] at hi
    obtain ⟨z,hz,rfl⟩:=Option.map_eq_some_iff.1 hi
    have hj0:j=0:=by
     have:=(List.getElem?_eq_some_iff.1 hj).1
     simp [aO] at this;exact this
    subst hj0
    have hil:i < (iE l).length:=(List.getElem?_eq_some_iff.1 hz).1
    have h1:(((Sort.putCells Go.Proofs.encStr 0 (iE l).toArray arr).toList.take (iE l).length))[i]?=some (Go.Proofs.encStr z):=by
     rw [htk,List.getElem?_map,hz];rfl
    rw [List.getElem?_take,if_pos hil,Array.getElem?_toList] at h1
    rw [Nat.mul_one,Nat.add_zero,h1]
    simp [List.getD,hz]
   ·rw [List.getElem?_map] at hi
    obtain ⟨z,hz,rfl⟩:=Option.map_eq_some_iff.1 hi
    have hj0:j=0:=by
     have:=(List.getElem?_eq_some_iff.1 hj).1
     simp [aO] at this;exact this
    subst hj0
    have hx:V.s z=x:=by simpa [aO] using hj
    subst hx
    simp only [List.getD,hz,Option.getD_some]
    exact .c _ rfl
  ·rw [hfl] at hb
   simp only [List.mem_singleton] at hb
   subst hb
   exact .inl ⟨0,_,by simp,l0,own⟩
def EX (l:List (List UInt8)):Option (List (List UInt8)):=if l.length≤1048576 then some (iE l) else none
theorem AC.EX {P:Program} {G:Nat→Option (List V)} {f:FuncId} {te:TypeId} (hm:Sn P f) {l r:List (List UInt8)} (h:EX l=some r):AC P G f [.own 0] [(0,.vec false te 1 (l.map aO))] (.bG []) [(0,.vec false te 1 (r.map aO))]:=by
 unfold Go.Av.EX at h
 split at h
 ·rename_i hl
  cases h
  exact AC.ahL hm false l hl
 ·cases h
end Go.Av
namespace Go.Av
def Sq (P:Program) (f:FuncId):Prop:=
 (∀ (blk cap:Nat) (zs:List (List UInt8)) (w:World),Sort.Holds Go.Proofs.encStr w blk 0 zs.toArray→zs.length≤9223372036854775807→zs.length≤cap→
  Calls P f #[.slice (some ⟨blk,0,none⟩) zs.length cap] w fun e w'=>e=.returned (.slice (some ⟨blk,0,none⟩) (Lib.compact zs).length cap)∧∃ q,w'=Sort.putRow Go.Proofs.encStr (Sort.ahead w q) blk 0 (Lib.compact zs++List.replicate (zs.length - (Lib.compact zs).length) []).toArray)∧
 ∀ w:World,Calls P f #[.slice none 0 0] w fun e w'=>e=.returned (.slice none 0 0)∧w'=w
theorem ahM (w:World):Sort.grow w #[]=w:=by
 unfold Sort.grow
 simp
theorem AC.ahN {P:Program} {G:Nat→Option (List V)} {f:FuncId} {te:TypeId} (h:Sq P f) (nn:Bool) (l:List (List UInt8)) (hlen:l.length≤1048576):AC P G f [.own 0] [(0,.vec nn te 1 (l.map aO))] (.own 100) [(100,.vec false te 1 ((Lib.compact l).map aO))]:=by
 intro ρ S F xs w hsz hxs hH hG
 have l0:look [(0,Ob.vec nn te 1 (l.map aO))] 0=some (.vec nn te 1 (l.map aO)):=rfl
 obtain ⟨r0,hr0,qO⟩:=hH.obj 0 _ l0
 have hnd:=hH.nodup 0 _ l0
 have x0:xs.getD 0 undef=r0:=by
  have h:RV ρ S w (xs.getD 0 undef) (.own 0):=hxs 0 _ rfl
  exact h.sU _ hr0
 have hx:xs=#[r0]:=by
  have h3:xs.size=1:=hsz
  apply Array.ext
  ·exact h3
  ·intro j h1 h2
   have:j=0:=by omega
   subst this
   simpa [Array.getD,h1] using x0
 subst hx
 have fin:∀ x w',Post ρ S F [(0,Ob.vec nn te 1 (l.map aO))] w (.own 100) ((100,.vec false te 1 ((Lib.compact l).map aO))::aR [0] [(0,Ob.vec nn te 1 (l.map aO))]) [100] x w'→
   ∃ y ρ' S' F',Ending.returned x=.returned y∧RV ρ' S' w' y (.own 100)∧aY ρ' S' F' [(100,Ob.vec false te 1 ((Lib.compact l).map aO))] w'∧dR S (Ub [(0,Ob.vec nn te 1 (l.map aO))] F) w S' (Ub [(100,Ob.vec false te 1 ((Lib.compact l).map aO))] F') w'∧gG ρ ρ':=fun x w' hP=>by
  obtain ⟨ρ',S',F',h1,h2,h3,h4⟩:=hP
  exact ⟨_,ρ',S',F',rfl,h1,h2,h3,fun j r hj hr=>h4 j r hr (by simp;omega)⟩
 have hcase:(r0=.slice none 0 0∧l=[])∨∃ (g cap:Nat) (arr:Array Value) (Fs:Nat→Nat→List Nat),r0=.slice (some ⟨g,0,none⟩) l.length cap∧F 0=g::flat l.length 1 Fs∧w.heap[g]?=some (.cells arr te (0,0))∧l.length≤cap∧cap≤maxLen∧arr.size=cap*1∧
   (∀ (i:Nat) (x:List UInt8),l[i]?=some x→arr[i]?=some (Go.Proofs.encStr x)):=by
  generalize F 0=Fi at qO
  generalize hrows:l.map aO=rows at qO
  cases qO with
  | gZ=>exact .inl ⟨rfl,List.map_eq_nil_iff.1 hrows⟩
  | vec g cap arr _ _ _ _ cc Fs hh hcap hmax qM hk hc hr mP=>
   have Sj:=mP.2
   cases mP.1
   have hlen:rows.length=l.length:=by rw [← hrows];simp
   refine .inr ⟨g,cap,arr,Fs,by rw [hlen],by rw [hlen],hh,by omega,hmax,qM,fun i x hx=>?_⟩
   have h1:rows[i]?=some (aO x):=by rw [← hrows,List.getElem?_map,hx];rfl
   have h2:=hc i 0 _ (V.s x) h1 rfl
   have h3:=hr i 0 _ (V.s x) h1 rfl
   rw [Nat.mul_one,Nat.add_zero] at h2
   unfold V.s at h3
   generalize cc i 0=v at h2 h3
   generalize Fs i 0=fs at h3
   cases h3
   exact h2
 rcases hcase with ⟨rfl,rfl⟩ | ⟨g,cap,arr,Fs,rfl,dV,hh,hcap,hmax,qM,hval⟩
 ·refine Calls.mono (h.2 w) fun e w' hq=>?_
  obtain ⟨rfl,rfl⟩:=hq
  refine fin _ w' (Post.EC hH [0] (i:=100) rfl (root:=.slice none 0 0) (Fi:=[]) rfl rfl rfl (Nat.le_refl _) (fun b _ _=>rfl) (fun ρ'=>?_) (by simp) (fun b hb=>by cases hb) (.own _ _ fun r hr=>?_))
  ·have hs:Lib.compact ([]:List (List UInt8))=[]:=rfl
   rw [hs]
   exact .gZ _ _
  ·simp at hr;exact hr
 ·have hg:g < w.heap.size:=(Array.getElem?_eq_some_iff.1 hh).1
  have hat:arr.toList.take l.length=l.map Go.Proofs.encStr:=by
   apply List.ext_getElem?
   intro i
   rw [List.getElem?_take,List.getElem?_map]
   by_cases hi:i < l.length
   ·rw [if_pos hi,Array.getElem?_toList,hval i _ (List.getElem?_eq_getElem hi),List.getElem?_eq_getElem hi];rfl
   ·rw [if_neg hi,List.getElem?_eq_none (by omega)];rfl
  refine Calls.mono (h.1 g cap l w (holds_of_block hh hat) (by omega) hcap) fun e w' hq=>?_
  obtain ⟨rfl,n,rfl⟩:=hq
  have hle:=Lib.compact_length_le l
  obtain ⟨m,hm⟩:∃ m,m=Lib.compact l++List.replicate (l.length - (Lib.compact l).length) []:=⟨_,rfl⟩
  have hml:m.length=l.length:=by rw [hm];simp;omega
  have hmg:∀ (i:Nat) (z:List UInt8),(Lib.compact l)[i]?=some z→m[i]?=some z:=fun i z hz=>by
   rw [hm,List.getElem?_append_left (List.getElem?_eq_some_iff.1 hz).1];exact hz
  rw [← hm,← ahM (Sort.putRow Go.Proofs.encStr (Sort.ahead w n) g 0 m.toArray)]
  have hgb:=grownBy_sorted (w:=w) (g:=g) (n:=n) (os:=#[]) m.toArray
  have IK:=heap_sorted (w:=w) (n:=n) (os:=#[]) m.toArray hh
  have htk:=take_putCells arr m (by omega)
  obtain ⟨w',hw'⟩:∃ w',w'=Sort.grow (Sort.putRow Go.Proofs.encStr (Sort.ahead w n) g 0 m.toArray) #[]:=⟨_,rfl⟩
  rw [← hw'] at hgb IK ⊢
  have own:g∈F 0:=by rw [dV];simp
  have hfl:flat (Lib.compact l).length 1 (fun _ _=>([]:List Nat))=[]:=by
   apply List.eq_nil_iff_forall_not_mem.2
   intro b hb
   obtain ⟨_,_,_,_,h⟩:=kP.1 hb
   cases h
  refine fin _ w' (Post.EC hH [0] (i:=100) rfl (root:=.slice (some ⟨g,0,none⟩) (Lib.compact l).length cap) (Fi:=g::flat (Lib.compact l).length 1 (fun _ _=>[])) hgb.os hgb.tape hgb.output hgb.size (fun b hb hn=>hgb.block b hb fun he=>hn 0 _ (by simp) l0 (by rw [Option.some.inj he];exact own)) (fun ρ'=>?_) (by rw [hfl];simp) (fun b hb=>?_) (.own _ _ fun r hr=>?_))
  ·have hlf:(Lib.compact l).length=((Lib.compact l).map aO).length:=by simp
   rw [hlf]
   refine .vec g cap _ false te 1 _ (fun i _=>Go.Proofs.encStr ((Lib.compact l).getD i [])) (fun _ _=>[]) IK (by rw [← hlf];omega) hmax (by simp [Sort.putCells,qM]) (fun i r hi=>?_) (fun i j r x hi hj=>?_) (fun i j r x hi hj=>?_)
   ·rw [List.getElem?_map] at hi
    obtain ⟨z,_,rfl⟩:=Option.map_eq_some_iff.1 hi
    rfl
   ·rw [List.getElem?_map] at hi
    obtain ⟨z,hz,rfl⟩:=Option.map_eq_some_iff.1 hi
    have hj0:j=0:=by
     have:=(List.getElem?_eq_some_iff.1 hj).1
     simp [aO] at this;exact this
    subst hj0
    have hil:i < (Lib.compact l).length:=(List.getElem?_eq_some_iff.1 hz).1
    have h1:((Sort.putCells Go.Proofs.encStr 0 m.toArray arr).toList.take m.length)[i]?=some (Go.Proofs.encStr z):=by
     rw [htk,List.getElem?_map,hmg i z hz];rfl
    rw [List.getElem?_take,if_pos (by omega),Array.getElem?_toList] at h1
    rw [Nat.mul_one,Nat.add_zero,h1]
    simp [List.getD,hz]
   ·rw [List.getElem?_map] at hi
    obtain ⟨z,hz,rfl⟩:=Option.map_eq_some_iff.1 hi
    have hj0:j=0:=by
     have:=(List.getElem?_eq_some_iff.1 hj).1
     simp [aO] at this;exact this
    subst hj0
    have hx:V.s z=x:=by simpa [aO] using hj
    subst hx
    simp only [List.getD,hz,Option.getD_some]
    exact .c _ rfl
  ·rw [hfl] at hb
   simp only [List.mem_singleton] at hb
   subst hb
   exact .inl ⟨0,_,by simp,l0,own⟩
  ·simp at hr;exact hr
def EY (l:List (List UInt8)):Option (List (List UInt8)):=if l.length≤1048576 then some (Lib.compact l) else none
theorem AC.EY {P:Program} {G:Nat→Option (List V)} {f:FuncId} {te:TypeId} (hm:Sq P f) {l r:List (List UInt8)} (h:EY l=some r):AC P G f [.own 0] [(0,.vec false te 1 (l.map aO))] (.own 100) [(100,.vec false te 1 (r.map aO))]:=by
 unfold Go.Av.EY at h
 split at h
 ·rename_i hl
  cases h
  exact AC.ahN hm false l hl
 ·cases h
end Go.Av
namespace Go.Av
open Go.RowKit
def ahP (P:Program) (f:FuncId):Prop:=
 (∀ (bk c:Nat) (xs:List ByteArray) (sep:ByteArray) (w:World),(∀ (j:Nat) x,xs[j]?=some x→w.cell? ⟨bk,0+j,none⟩=some (.string x))→bk < w.heap.size→xs.length≤140737488355328→xs.length≤c→
  (Lib.join (xs.map (·.data.toList)) sep.data.toList).length≤140737488355328→
  Calls P f #[.slice (some ⟨bk,0,none⟩) xs.length c,.string sep] w fun e w'=>e=.returned (.string ⟨(Lib.join (xs.map (·.data.toList)) sep.data.toList).toArray⟩)∧Below w.heap.size w w')∧
 ∀ (sep:ByteArray) (w:World),Calls P f #[.slice none 0 0,.string sep] w fun e w'=>e=.returned (.string ⟨#[]⟩)∧w'=w
theorem AC.join {P:Program} {G:Nat→Option (List V)} {f:FuncId} {te:TypeId} (h:ahP P f) (nn:Bool) (l:List (List UInt8)) (sep:List UInt8) (hlen:l.length≤1048576) (hj:(Lib.join l sep).length≤140737488355328):
  AC P G f [.own 0,V.s sep] [(0,.vec nn te 1 (l.map aO))] (V.s (Lib.join l sep)) [(0,.vec nn te 1 (l.map aO))]:=by
 intro ρ S F xs w hsz hxs hH hG
 have l0:look [(0,Ob.vec nn te 1 (l.map aO))] 0=some (.vec nn te 1 (l.map aO)):=rfl
 obtain ⟨r0,hr0,qO⟩:=hH.obj 0 _ l0
 have hnd:=hH.nodup 0 _ l0
 have x0:xs.getD 0 undef=r0:=by
  have h:RV ρ S w (xs.getD 0 undef) (.own 0):=hxs 0 _ rfl
  exact h.sU _ hr0
 have x1:xs.getD 1 undef=.string ⟨⟨sep⟩⟩:=(hxs 1 _ rfl).dW
 have hx:xs=#[r0,.string ⟨⟨sep⟩⟩]:=by
  have h3:xs.size=2:=hsz
  apply Array.ext
  ·exact h3
  ·intro j h1 h2
   have:j=0∨j=1:=by omega
   rcases this with rfl | rfl
   ·simpa [Array.getD,h1] using x0
   ·simpa [Array.getD,h1] using x1
 subst hx
 have fin:∀ w',Below w.heap.size w w'→∃ x ρ' S' F',Ending.returned (.string ⟨⟨Lib.join l sep⟩⟩)=.returned x∧RV ρ' S' w' x (V.s (Lib.join l sep))∧aY ρ' S' F' [(0,Ob.vec nn te 1 (l.map aO))] w'∧dR S (Ub [(0,Ob.vec nn te 1 (l.map aO))] F) w S' (Ub [(0,Ob.vec nn te 1 (l.map aO))] F') w'∧gG ρ ρ':=fun w' hb=>by
  have hP:=Post.upd hH [0] (i:=0) hr0 (Fi:=F 0) hb.os hb.tape hb.output hb.size (fun b hb' _=>hb.block b hb') (fun ρ'=>qO.mono (fun _ _ _ h=>by cases h) (fun b hb'=>⟨hb',hb.block b (hH.slt b hb')⟩) (fun b hb'=>hb.block b (hH.lt 0 _ b l0 hb'))) hnd (fun b hb'=>.inl ⟨0,_,by simp,l0,hb'⟩) (x:=.string ⟨⟨Lib.join l sep⟩⟩) (v:=V.s (Lib.join l sep)) (.c _)
  obtain ⟨ρ',S',F',h1,h2,h3,h4⟩:=hP
  exact ⟨_,ρ',S',F',rfl,h1,h2,h3,fun j r hj hr=>h4 j r hr (by simp)⟩
 have hcase:(r0=.slice none 0 0∧l=[])∨∃ (g cap:Nat) (arr:Array Value),r0=.slice (some ⟨g,0,none⟩) l.length cap∧w.heap[g]?=some (.cells arr te (0,0))∧l.length≤cap∧
   (∀ (i:Nat) (x:List UInt8),l[i]?=some x→arr[i]?=some (Go.Proofs.encStr x)):=by
  generalize F 0=Fi at qO
  generalize hrows:l.map aO=rows at qO
  cases qO with
  | gZ=>exact .inl ⟨rfl,List.map_eq_nil_iff.1 hrows⟩
  | vec g cap arr _ _ _ _ cc Fs hh hcap hmax qM hk hc hr mP=>
   have Sj:=mP.2
   cases mP.1
   have hlen:rows.length=l.length:=by rw [← hrows];simp
   refine .inr ⟨g,cap,arr,by rw [hlen],hh,by omega,fun i x hx=>?_⟩
   have h1:rows[i]?=some (aO x):=by rw [← hrows,List.getElem?_map,hx];rfl
   have h2:=hc i 0 _ (V.s x) h1 rfl
   have h3:=hr i 0 _ (V.s x) h1 rfl
   rw [Nat.mul_one,Nat.add_zero] at h2
   unfold V.s at h3
   generalize cc i 0=v at h2 h3
   generalize Fs i 0=fs at h3
   cases h3
   exact h2
 rcases hcase with ⟨rfl,rfl⟩ | ⟨g,cap,arr,rfl,hh,hcap,hval⟩
 ·refine Calls.mono (h.2 ⟨⟨sep⟩⟩ w) fun e w' hq=>?_
  obtain ⟨rfl,rfl⟩:=hq
  exact fin w' (Below.refl _ _)
 ·have hg:g < w.heap.size:=(Array.getElem?_eq_some_iff.1 hh).1
  have hm:((l.map fun b=>(⟨⟨b⟩⟩:ByteArray)).map (·.data.toList))=l:=by
   rw [List.map_map]
   exact (List.map_congr_left fun _ _=>rfl).trans (List.map_id l)
  have:=h.1 g cap (l.map fun b=>(⟨⟨b⟩⟩:ByteArray)) ⟨⟨sep⟩⟩ w (fun j x hx=>by
   rw [List.getElem?_map] at hx
   obtain ⟨b,hb,rfl⟩:=Option.map_eq_some_iff.1 hx
   unfold World.cell?
   simp only [hh]
   simpa using hval j b hb) hg (by simp;omega) (by simpa using hcap) (by rw [hm];exact hj)
  rw [hm,List.length_map] at this
  refine Calls.mono this fun e w' hq=>?_
  obtain ⟨rfl,hb⟩:=hq
  exact fin w' hb
end Go.Av
namespace Go.Av
variable {P:Program}
end Go.Av
namespace Go.Av
section
variable {P:Program} {G:Nat→Option (List V)} {L:Option Nat} {B:Nat}
theorem Tg.ok.root {c v:Value} {k:Nat} {e:TypeId} (h:(Tg.at_ c).ok k e v):v=c:=h.1
theorem fB.root {ρ:Nat→Option Value} {S:Nat→Prop} {w:World} {r c:Value} {nn:Bool} {k:Nat} {rows:List (List V)} {F:List Nat} (h:fB ρ S w r (.vec nn (.at_ c) k rows) F):r=c:=by
 cases h with
 | gZ _ _ ht=>exact Eq.symm ht
 | vec g cap arr _ _ _ _ cs Fs hh hcap hmax hsz hk hc hr ht=>exact ht.1
theorem gN.lend {ρ:Nat→Option Value} {S:Nat→Prop} {F:Nat→List Nat} {T:List V} {H:Hp} {a:Act} {w:World} (hst:gN B G ρ S F ⟨T,H⟩ a w) {i m b j:Nat} {nn rH:Bool} {ety:Tg} {k:Nat} {rows:List (List V)} {row:List V} {nI:List (List V)}
  (hi:look H i=some (.vec nn ety k rows)) (hrow:rows[m]?=some row) (hb:row[b]?=some (.sl rH true nI)) (hj:fresh [j] ⟨T,H⟩=true) (h1:∀ r,r∈nI→r.length=1):
  ∃ c,c.oneCell'=true∧∃ ρ' F',gN B G ρ' S F' ⟨T,(j,.vec false (.at_ c) 1 nI)::(i,.vec nn ety k (rows.set m (row.set b (.c c))))::aR [i] H⟩ a w∧
   dR S (Ub H F) w S (Ub ((j,.vec false (.at_ c) 1 nI)::(i,.vec nn ety k (rows.set m (row.set b (.c c))))::aR [i] H) F') w∧gG ρ ρ':=by
 obtain ⟨Xf,hT,hH⟩:=Ep hj (by simp:j∈[j])
 obtain ⟨hl,hO⟩:=oo hH
 have hij:i≠j:=fun e=>by rw [e] at hi;simp only [hl] at hi;cases hi
 have hh0:=hst.heap
 simp only at hh0
 obtain ⟨r,hr,aU⟩:=hh0.obj i _ hi
 have hnd:=hh0.nodup i _ hi
 have hlt:=fun b' h=>hh0.lt i _ b' hi h
 have hsep:=fun b' h=>hh0.sep i _ b' hi h
 have hdisj:=fun x p b' (hx:look H x=some p) (hne:i≠x) (h1:b'∈F i) (h2:b'∈F x)=>hh0.fC i x _ p b' hi hx hne h1 h2
 generalize dV:F i=Fi at aU hnd hlt hsep hdisj
 cases aU with
 | gZ=>simp at hrow
 | vec g cap arr _ _ _ _ cc Fs hh hcap hmax hsz hk hc hrd ht=>
  have hmn:m < rows.length:=(List.getElem?_eq_some_iff.1 hrow).1
  have hbk:b < k:=by have:=(List.getElem?_eq_some_iff.1 hb).1;rw [hk m row hrow] at this;exact this
  have hd:=hrd m b row _ hrow hb
  have Sr:=List.nodup_cons.1 hnd
  have hN:=EO.1 Sr.2
  have hsub:∀ b',b'∈Fs m b→b'∈g::flat rows.length k Fs:=fun b' h=>List.mem_cons_of_mem _ (NC hmn hbk h)
  have hgF:g∉Fs m b:=fun h=>Sr.1 (NC hmn hbk h)
  let c:=cc m b
  let ρ':Nat→Option Value:=fun x=>if x=j then some c else ρ x
  let rows':=rows.set m (row.set b (.c c))
  let tN:Nat→Nat→List Nat:=fun p q=>if p=m∧q=b then [] else Fs p q
  let F':Nat→List Nat:=fun x=>if x=j then Fs m b else if x=i then g::flat rows'.length k tN else F x
  have hlen':rows'.length=rows.length:=by simp [rows']
  have hρ:∀ x r (y:V),y.has j=false→ρ' x=some r→y.has x=true→ρ x=some r:=fun x r y hy hx hh=>by
   simp only [ρ'] at hx
   split at hx
   ·subst_vars;rw [hy] at hh;cases hh
   ·exact hx
  have obj:fB ρ' S w c (.vec false (.at_ c) 1 nI) (Fs m b):=by
   have hd':RD S w c (.sl rH true nI) (Fs m b):=hd
   generalize Fs m b=F0 at hd'
   generalize c=c0 at hd'
   cases hd' with
   | gu=>exact .gZ _ _ rfl
   | exc g2 cap2 YS aug _ _ k3 cs2 sV YT hcap2 YU hsz2 hk3 hc2 hr2 ht2=>
    cases nI with
    | nil=>
     have e0:flat ([]:List (List V)).length k3 sV=flat ([]:List (List V)).length 1 sV:=rfl
     rw [e0]
     refine .vec g2 cap2 YS false _ 1 [] cs2 sV YT hcap2 YU ?_ (fun i r h=>by simp at h) (fun i j r x h=>by simp at h) (fun i j r x h=>by simp at h) ⟨rfl,fun _=>.inl rfl⟩
     rcases ht2 rfl with h | h
     ·rw [hsz2,h]
     ·rw [hsz2,h];simp
    | cons r0 nI=>
     have:k3=1:=by rw [← hk3 0 r0 rfl,h1 r0 (by simp)]
     subst this
     exact .vec g2 cap2 YS false _ 1 _ cs2 sV YT hcap2 YU hsz2 hk3 hc2 hr2 ⟨rfl,fun _=>.inl rfl⟩
  have obi:fB ρ' S w (.slice (some ⟨g,0,none⟩) rows.length cap) (.vec nn ety k rows') (g::flat rows'.length k tN):=by
   rw [← hlen'] at ht ⊢
   refine .vec g cap arr nn ety k rows' cc tN hh (by rw [hlen'];exact hcap) hmax hsz (fun p r hp=>?_) (fun p q r x hp hq=>?_) (fun p q r x hp hq=>?_) ht
   ·rcases Bj hp with ⟨rfl,rfl⟩ | ⟨_,hp⟩
    ·simp [hk _ row hrow]
    ·exact hk p r hp
   ·rcases Bj hp with ⟨rfl,rfl⟩ | ⟨_,hp⟩
    ·rcases Bj hq with ⟨rfl,rfl⟩ | ⟨_,hq⟩
     ·exact hc _ _ row _ hrow hb
     ·exact hc _ q row x hrow hq
    ·exact hc p q r x hp hq
   ·rcases Bj hp with ⟨rfl,rfl⟩ | ⟨hne,hp⟩
    ·rcases Bj hq with ⟨rfl,rfl⟩ | ⟨hne,hq⟩
     ·simp only [tN,and_self,if_true]
      exact .c _ hd.one
     ·simp only [tN,true_and,if_neg hne]
      exact hrd _ q row x hrow hq
    ·have hpm: ¬(p=m∧q=b):=fun h=>hne h.1
     simp only [tN,if_neg hpm]
     exact hrd p q r x hp hq
  have hF1:∀ b',b'∈g::flat rows'.length k tN→b'∈g::flat rows.length k Fs∧b'∉Fs m b:=fun b' h=>by
   rw [hlen'] at h
   rcases List.mem_cons.1 h with rfl | h
   ·exact ⟨by simp,hgF⟩
   ·obtain ⟨p,q,hp,hq,h⟩:=kP.1 h
    simp only [tN] at h
    split at h
    ·cases h
    ·rename_i hne
     exact ⟨List.mem_cons_of_mem _ (NC hp hq h),fun h'=>hne (hN.2 p q m b b' hp hq hmn hbk h h')⟩
  have lk:∀ x p,look ((j,.vec false (.at_ c) 1 nI)::(i,.vec nn ety k rows')::aR [i] H) x=some p→(x=j∧p=.vec false (.at_ c) 1 nI)∨(x≠j∧x=i∧p=.vec nn ety k rows')∨(x≠j∧x≠i∧look H x=some p):=fun x p hp=>by
   simp only [look,iq] at hp
   split at hp
   ·cases hp;exact .inl ⟨‹_›,rfl⟩
   ·split at hp
    ·cases hp;exact .inr (.inl ⟨‹_›,‹_›,rfl⟩)
    ·split at hp
     ·cases hp
     ·exact .inr (.inr ⟨‹_›,‹_›,hp⟩)
  have hin:∀ x p b',look ((j,.vec false (.at_ c) 1 nI)::(i,.vec nn ety k rows')::aR [i] H) x=some p→b'∈F' x→(x=j∧b'∈Fs m b)∨(x=i∧b'∈g::flat rows.length k Fs∧b'∉Fs m b)∨(x≠j∧x≠i∧look H x=some p∧b'∈F x):=fun x p b' hp hb'=>by
   rcases lk x p hp with ⟨rfl,_⟩ | ⟨h1,rfl,_⟩ | ⟨h1,h2,h3⟩
   ·simp only [F',if_true] at hb';exact .inl ⟨rfl,hb'⟩
   ·simp only [F',if_neg h1,if_true] at hb';exact .inr (.inl ⟨rfl,hF1 b' hb'⟩)
   ·simp only [F',if_neg h1,if_neg h2] at hb';exact .inr (.inr ⟨h1,h2,h3,hb'⟩)
  have hUb:∀ x p b',look ((j,.vec false (.at_ c) 1 nI)::(i,.vec nn ety k rows')::aR [i] H) x=some p→b'∈F' x→Ub H F b':=fun x p b' hp hb'=>by
   rcases hin x p b' hp hb' with ⟨_,h⟩ | ⟨_,h,_⟩ | ⟨_,_,h3,h⟩
   ·exact ⟨i,_,hi,by rw [dV];exact hsub b' h⟩
   ·exact ⟨i,_,hi,by rw [dV];exact h⟩
   ·exact ⟨x,p,h3,h⟩
  refine ⟨c,hd.one,ρ',F',⟨hst.defers,hst.size,fun x y hx=>?_,⟨fun x hx=>?_,fun x p hp=>?_,fun x p hp=>?_,fun x y p p' b' hx hy hne hbx hby=>?_,fun x p b' hp hb'=>?_,fun x p b' hp hb'=>?_,hh0.slt⟩,hst.glob⟩,
   ⟨rfl,rfl,rfl,Nat.le_refl _,fun _ _ _=>rfl,fun _ h=>h,fun _ h=>.inl h,fun b' ⟨x,p,hp,h⟩=>.inl (hUb x p b' hp h)⟩,fun x r hx hr=>?_⟩
  ·exact (hst.tmps x y hx).mono (fun q r hq hh=>hρ q r y (Ih hT (List.mem_of_getElem? hx)) hq hh) (fun b' h=>⟨h,rfl⟩)
  ·simp only [look,iq] at hx
   split at hx
   ·cases hx
   ·split at hx
    ·cases hx
    ·rename_i h1 h2
     simp only [ρ',if_neg h1]
     split at hx
     ·rename_i h3;simp only [List.mem_singleton] at h3;exact absurd h3 h2
     ·exact hh0.dom x hx
  ·rcases lk x p hp with ⟨rfl,rfl⟩ | ⟨h1,rfl,rfl⟩ | ⟨h1,h2,h3⟩
   ·exact ⟨c,by simp [ρ'],by simp only [F',if_true];exact obj⟩
   ·exact ⟨_,by simp only [ρ',if_neg h1];exact hr,by simp only [F',if_neg h1,if_true];exact obi⟩
   ·obtain ⟨r',hr',vW⟩:=hh0.obj x p h3
    refine ⟨r',by simp only [ρ',if_neg h1];exact hr',?_⟩
    simp only [F',if_neg h1,if_neg h2]
    refine vW.mono (fun q r hq hh=>?_) (fun b' h=>⟨h,rfl⟩) (fun _ _=>rfl)
    simp only [ρ'] at hq
    split at hq
    ·subst_vars;rw [hO x p h3] at hh;cases hh
    ·exact hq
  ·rcases lk x p hp with ⟨rfl,rfl⟩ | ⟨h1,rfl,rfl⟩ | ⟨h1,h2,h3⟩
   ·simp only [F',if_true];exact hN.1 m b hmn hbk
   ·simp only [F',if_neg h1,if_true]
    rw [hlen']
    refine List.nodup_cons.2 ⟨fun h=>?_,EO.2 ⟨fun p q hp hq=>?_,fun p q p' q' b' hp hq hp' hq' g1 g2=>?_⟩⟩
    ·obtain ⟨p,q,hp,hq,h⟩:=kP.1 h
     simp only [tN] at h
     split at h
     ·cases h
     ·exact Sr.1 (NC hp hq h)
    ·simp only [tN]
     split
     ·exact List.nodup_nil
     ·exact hN.1 p q hp hq
    ·simp only [tN] at g1 g2
     split at g1
     ·cases g1
     ·split at g2
      ·cases g2
      ·exact hN.2 p q p' q' b' hp hq hp' hq' g1 g2
   ·simp only [F',if_neg h1,if_neg h2];exact hh0.nodup x p h3
  ·rcases hin x p b' hx hbx with ⟨e1,k1⟩ | ⟨e1,k1,k1'⟩ | ⟨e1,Et,Sv,k1⟩<;>rcases hin y p' b' hy hby with ⟨e2,k2⟩ | ⟨e2,k2,k2'⟩ | ⟨e2,e2',Sw,k2⟩
   ·exact hne (e1.trans e2.symm)
   ·exact k2' k1
   ·exact hdisj y p' b' Sw (Ne.symm e2') (hsub b' k1) k2
   ·exact k1' k2
   ·exact hne (e1.trans e2.symm)
   ·exact hdisj y p' b' Sw (Ne.symm e2') k1 k2
   ·exact hdisj x p b' Sv (Ne.symm Et) (hsub b' k2) k1
   ·exact hdisj x p b' Sv (Ne.symm Et) k2 k1
   ·exact hh0.fC x y p p' b' Sv Sw hne k1 k2
  ·rcases hin x p b' hp hb' with ⟨_,h⟩ | ⟨_,h,_⟩ | ⟨_,_,h3,h⟩
   ·exact hsep b' (hsub b' h)
   ·exact hsep b' h
   ·exact hh0.sep x p b' h3 h
  ·rcases hin x p b' hp hb' with ⟨_,h⟩ | ⟨_,h,_⟩ | ⟨_,_,h3,h⟩
   ·exact hlt b' (hsub b' h)
   ·exact hlt b' h
   ·exact hh0.lt x p b' h3 h
  ·simp only [ρ'] at hr
   split at hr
   ·omega
   ·exact hr
theorem CO.lend (i m b j:Nat) {code:Code} {T:List V} {H:Hp} {Q:Exit→St→Prop} {nn rH:Bool} {ety:Tg} {k:Nat} {rows:List (List V)} {row:List V} {nI:List (List V)}
  (hi:look H i=some (.vec nn ety k rows)) (hrow:rows[m]?=some row) (hb:row[b]?=some (.sl rH true nI)) (hj:fresh [j] ⟨T,H⟩=true) (h1:∀ r,r∈nI→r.length=1)
  (h:∀ c,c.oneCell'=true→CO L P G code ⟨T,(j,.vec false (.at_ c) 1 nI)::(i,.vec nn ety k (rows.set m (row.set b (.c c))))::aR [i] H⟩ Q):CO L P G code ⟨T,H⟩ Q:=by
 intro B ρ S F a w R hst hn
 obtain ⟨c,hc,aW,F1,qK,e1,a1⟩:=hst.lend hi hrow hb hj h1
 exact h c hc B aW S F1 a w R qK fun e st2 h2 iC S2 F2 a2 w2 jG hE2 hA2=>hn e st2 h2 iC S2 F2 a2 w2 jG (e1.trans hE2) (a1.trans hA2)
end
end Go.Av
namespace Go.Av
section
variable {P:Program} {G:Nat→Option (List V)} {L:Option Nat}
end
end Go.Av
