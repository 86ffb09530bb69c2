/-
 Plain lemmas on the models, part 15.
-/
import Derived.Test.YtbpnoplcbkjiaaaGreatDoorMaHP14
namespace Go.Proofs.Tryz
open Go.Av
set_option maxRecDepth 100000
set_option linter.unusedSimpArgs false
set_option linter.unusedVariables false
theorem aky (N:Nat) (l:List (List UInt8)) (x:List UInt8) (hl:l.length≤1048576):∀ (n i:Nat),l.length - i < n→i≤l.length→∃ r:Int,uW N n (l,x,(i:Int))=some r∧decide (r≥0)=decide (x∈l.drop i):=by
 intro n
 induction n with
 | zero=>intro i h;omega
 | succ n ih=>
  intro i hn hi
  rw [uW]
  by_cases h:i < l.length
  ·simp only [bN h,cond_true,aP h,au,jH h (by simp only [maxLen];omega)]
   rw [drop_cons h]
   cases he:(x==l[i]) with
   | true=>
    refine ⟨_,rfl,?_⟩
    rw [beq_iff_eq] at he
    rw [decide_eq_true (by omega),decide_eq_true (by rw [he];exact List.mem_cons_self ..)]
   | false=>
    obtain ⟨r,r1,r2⟩:=ih (i+1) (by omega) (by omega)
    refine ⟨r,r1,?_⟩
    rw [r2]
    have hne:x≠l[i]:=fun e=>by rw [e] at he;simp at he
    refine decide_eq_decide.2 ⟨fun h=>List.mem_cons_of_mem _ h,fun h=>?_⟩
    rcases List.mem_cons.1 h with h | h
    ·exact absurd h hne
    ·exact h
  ·simp only [bT h,cond_false]
   refine ⟨-1,rfl,?_⟩
   rw [drop_nil h]
   simp
theorem abF (N:Nat) (l:List (List UInt8)) (x:List UInt8) (hl:l.length≤1048576) (hN:1048577 < N):uh N l x=some (decide (x∈l)):=by
 obtain ⟨r,r1,r2⟩:=aky N l x hl N 0 (by omega) (by omega)
 unfold uh BU
 rw [List.drop_zero] at r2
 rw [show (0:Int)=((0:Nat):Int) from rfl,r1,au]
 exact congrArg some r2
def HH (a:List ak) (x:List UInt8):Prop:=∃ n,n∈a∧hB n.Kind n.Text=true∧n.Text=x
theorem akz (N:Nat) (a:List ak) (x:List UInt8) (hl:a.length≤1048576):∀ (n i:Nat),a.length - i < n→i≤a.length→∃ r:Int,CQ N x n (a,(i:Int))=some r∧(0≤r↔HH (a.drop i) x):=by
 intro n
 induction n with
 | zero=>intro i h;omega
 | succ n ih=>
  intro i hn hi
  rw [CQ]
  by_cases h:i < a.length
  ·have e1:KF a[i] x=some (hB a[i].Kind a[i].Text&&(a[i].Text==x)):=by
    unfold KF
    rw [TW]
    cases hB a[i].Kind a[i].Text<;>rfl
   simp only [bN h,cond_true,aP h,au,e1,jH h (by simp only [maxLen];omega)]
   rw [drop_cons h]
   cases he:(hB a[i].Kind a[i].Text&&(a[i].Text==x)) with
   | true=>
    refine ⟨_,rfl,?_⟩
    rw [Bool.and_eq_true,beq_iff_eq] at he
    exact ⟨fun _=>⟨_,List.mem_cons_self ..,he.1,he.2⟩,fun _=>by omega⟩
   | false=>
    obtain ⟨r,r1,r2⟩:=ih (i+1) (by omega) (by omega)
    refine ⟨r,r1,?_⟩
    rw [r2]
    constructor
    ·rintro ⟨z,z1,z2,z3⟩
     exact ⟨z,List.mem_cons_of_mem _ z1,z2,z3⟩
    ·rintro ⟨z,z1,z2,z3⟩
     rcases List.mem_cons.1 z1 with rfl | z1
     ·rw [z2,z3] at he;simp at he
     ·exact ⟨z,z1,z2,z3⟩
  ·simp only [bT h,cond_false]
   refine ⟨-1,rfl,?_⟩
   rw [drop_nil h]
   constructor
   ·intro h;omega
   ·rintro ⟨z,z1,_⟩;cases z1
theorem akA (N:Nat) (a:List ak) (x:List UInt8) (hl:a.length≤1048576) (hN:1048577 < N):∃ b:Bool,KG N a x=some b∧(b=true↔HH a x):=by
 obtain ⟨r,r1,r2⟩:=akz N a x hl N 0 (by omega) (by omega)
 unfold KG OL OJ
 rw [show (0:Int)=((0:Nat):Int) from rfl,r1]
 refine ⟨_,rfl,?_⟩
 rw [List.drop_zero] at r2
 rw [← r2]
 simp
structure Inv (a:List ak) (h:List fA) (i:Nat) (g:List aM) (met:List (List UInt8)):Prop where
 ml:met.length≤i
 gl:g.length≤i
 mem:∀ x,x∈met↔∃ f,f∈h.take i∧f.Name=x
 gm:∀ e,e∈g→e.name∈met
 rel:∀ x,HH a x→lq g (h.take i) x
 sz:∀ e,e∈g→aB e.tree≤400
theorem take_one {α:Type} {l:List α} {i:Nat} (h:i < l.length):l.take (i+1)=l.take i++[l[i]]:=by
 rw [List.take_add_one,List.getElem?_eq_getElem h];rfl
theorem akB {h:List fA} {i:Nat} {met:List (List UInt8)} {x:List UInt8} (mem:∀ x,x∈met↔∃ f,f∈h.take i∧f.Name=x) (hx:x∉met):(h.take i).find? (fun f=>f.Name==x)=none:=by
 rw [List.find?_eq_none]
 intro f hf he
 rw [beq_iff_eq] at he
 exact hx ((mem x).2 ⟨f,hf,he⟩)
theorem lq.next {g:List aM} {h:List fA} {i:Nat} {x:List UInt8} (hi:i < h.length) (hr:lq g (h.take i) x) (hf:(h.take i).find? (fun f=>f.Name==x)≠none∨h[i].Name≠x):lq g (h.take (i+1)) x:=by
 unfold lq at hr ⊢
 rw [take_one hi,List.find?_append]
 cases he:(h.take i).find? (fun f=>f.Name==x) with
 | some f=>rw [he] at hr;exact hr
 | none=>
  rw [he] at hr hf
  rcases hf with hf | hf
  ·exact absurd rfl hf
  ·have hne:(h[i].Name==x)=false:=by simpa using hf
   simp only [List.find?_cons,hne,List.find?_nil,Option.or_none]
   exact hr
theorem akC {g:List aM} {e:aM} {x:List UInt8} (hx:e.name≠x):(g++[e]).find? (fun f=>f.name==x)=g.find? (fun f=>f.name==x):=by
 have hne:(e.name==x)=false:=by simpa using hx
 rw [List.find?_append]
 simp only [List.find?_cons,hne,List.find?_nil,Option.or_none]
def Pt (N:Nat) (a:List ak) (g:List aM):Option (List ak):=
 (oK N a).bind fun KJ=>(nP N KJ g).bind fun KL=>(zq N KL).bind fun zO=>(kZ N zO).bind fun r400=>bif (!r400) then some [] else (some zO)
def abG (a:List ak) (h:List fA):Prop:=∃ x f,HH a x∧h.find? (fun f=>f.Name==x)=some f∧f.Part.length≠0∧fM f.Part=false
theorem Uq {h:List fA} {i:Nat} (hi:i < h.length) {x:List UInt8} (hx:(h.take i).find? (fun f=>f.Name==x)=none) (he:h[i].Name=x):h.find? (fun f=>f.Name==x)=some h[i]∧(h.take (i+1)).find? (fun f=>f.Name==x)=some h[i]:=by
 have hb:(h[i].Name==x)=true:=by simpa using he
 constructor
 ·conv=>lhs;rw [← List.take_append_drop i h]
  rw [List.find?_append,hx,drop_cons hi]
  simp only [List.find?_cons,hb,Option.none_or]
 ·rw [take_one hi,List.find?_append,hx]
  simp only [List.find?_cons,hb,Option.none_or]
theorem akD (N:Nat) (a:List ak) (h:List fA) (used:List (List UInt8)) (hN:1073741825 < N) (ha:a.length≤400) (hh:h.length≤1048576) (hu:used.length≤1048576) (Ur:∀ x,HH a x→x∈used):∀ (n i:Nat) (g:List aM) (met:List (List UInt8)),h.length - i < n→i≤h.length→Inv a h i g met→
  (∃ g' met',Inv a h h.length g' met'∧mD N n (a,h,used,(i:Int),g,met)=Pt N a g')∨(mD N n (a,h,used,(i:Int),g,met)=some []∧abG a h):=by
 intro n
 induction n with
 | zero=>intro i g met h;omega
 | succ n ih=>
  intro i g met hn hi hv
  have hml:=hv.ml
  have hgl:=hv.gl
  by_cases hlt:i < h.length
  ·
   have next:∀ (g':List aM) (met':List (List UInt8)),Inv a h (i+1) g' met'→
     (∃ g'' akE,Inv a h h.length g'' akE∧vB N (mD N n) (a,h,(i:Int),used,g',met')=Pt N a g'')∨(vB N (mD N n) (a,h,(i:Int),used,g',met')=some []∧abG a h):=fun g' met' hv'=>by
    have e:vB N (mD N n) (a,h,(i:Int),used,g',met')=mD N n (a,h,used,((i+1:Nat):Int),g',met'):=by
     unfold vB
     simp only [jH hlt (by simp only [maxLen];omega)]
    rw [e]
    exact ih (i+1) g' met' (by omega) (by omega) hv'
   rw [mD]
   simp only [bN hlt,cond_true,aP hlt,au,abF N met h[i].Name (by omega) (by omega)]
   by_cases hm:h[i].Name∈met
   ·rw [decide_eq_true hm,cond_true]
    refine next g met ⟨by omega,by omega,fun x=>?_,hv.gm,fun x hx=>?_,hv.sz⟩
    ·rw [hv.mem,take_one hlt]
     constructor
     ·rintro ⟨f,f1,f2⟩;exact ⟨f,List.mem_append_left _ f1,f2⟩
     ·rintro ⟨f,f1,f2⟩
      rcases List.mem_append.1 f1 with f1 | f1
      ·exact ⟨f,f1,f2⟩
      ·rw [List.mem_singleton.1 f1] at f2
       rw [← f2]
       exact (hv.mem _).1 hm
    ·refine (hv.rel x hx).next hlt ?_
     by_cases he:h[i].Name=x
     ·left
      rw [he] at hm
      obtain ⟨f,f1,f2⟩:=(hv.mem x).1 hm
      intro hf
      rw [List.find?_eq_none] at hf
      exact hf f f1 (by simpa using f2)
     ·exact .inr he
   ·rw [decide_eq_false hm,cond_false,gq (by simp;omega),au]
    have hnone:=akB hv.mem hm
    have hgn:g.find? (fun f=>f.name==h[i].Name)=none:=by
     rw [List.find?_eq_none]
     intro e he hx
     rw [beq_iff_eq] at hx
     exact hm (hx ▸ hv.gm e he)
    have hmem:∀ x,x∈met++[h[i].Name]↔∃ f,f∈h.take (i+1)∧f.Name=x:=fun x=>by
     rw [take_one hlt,List.mem_append,hv.mem]
     constructor
     ·rintro (⟨f,f1,f2⟩ | h1)
      ·exact ⟨f,List.mem_append_left _ f1,f2⟩
      ·exact ⟨h[i],List.mem_append_right _ (List.mem_singleton.2 rfl),(List.mem_singleton.1 h1).symm⟩
     ·rintro ⟨f,f1,f2⟩
      rcases List.mem_append.1 f1 with f1 | f1
      ·exact .inl ⟨f,f1,f2⟩
      ·rw [List.mem_singleton.1 f1] at f2
       exact .inr (by simp [f2])
    have hoth:∀ x,HH a x→h[i].Name≠x→lq g (h.take (i+1)) x:=fun x hx he=>(hv.rel x hx).next hlt (.inr he)
    have Us:(∀ x,HH a x→h[i].Name=x→lq g (h.take (i+1)) x)→Inv a h (i+1) g (met++[h[i].Name]):=fun hs=>by
     refine ⟨by simp;omega,by omega,hmem,fun e he=>List.mem_append_left _ (hv.gm e he),fun x hx=>?_,hv.sz⟩
     by_cases he:h[i].Name=x
     ·exact hs x hx he
     ·exact hoth x hx he
    by_cases hp:h[i].Part.length=0
    ·have d1:((h[i].Part.length:Int)==0)=true:=by rw [hp];rfl
     simp only [d1,cond_true,au]
     refine next g _ (Us fun x _ he=>?_)
     subst he
     unfold lq
     rw [(Uq hlt hnone rfl).2]
     simp only [if_pos hp]
     exact hgn
    ·have d1:((h[i].Part.length:Int)==0)=false:=by
      rw [beq_eq_false_iff_ne];omega
     simp only [d1,cond_false,abF N used h[i].Name hu (by omega),au]
     by_cases hin:h[i].Name∈used
     ·simp only [decide_eq_true hin,Bool.not_true,cond_false,aaV N h[i].Part (by omega),au]
      cases hsh:fM h[i].Part with
      | false=>
       obtain ⟨b,b1,b2⟩:=akA N a h[i].Name (by omega) (by omega)
       simp only [Bool.not_false,cond_true,b1,au]
       cases b with
       | true=>
        simp only [cond_true]
        exact .inr ⟨trivial,h[i].Name,h[i],b2.1 rfl,(Uq hlt hnone rfl).1,hp,hsh⟩
       | false=>
        simp only [cond_false]
        refine next g _ (Us fun x hx he=>?_)
        rw [← he] at hx
        exact absurd (b2.2 hx) (by decide)
      | true=>
       obtain ⟨p1,p2,_,_,_,_,_,tp,htp⟩:=fT hsh
       have hpart:h[i].Part=av 0 tp:=by
        have:=htp.part.2.2
        rw [show h[i].Part.length - 1+1=h[i].Part.length by omega,abH] at this
        exact this
       have hsz:aB tp≤400:=by have:=htp.part.2.1;omega
       simp only [Bool.not_true,cond_false,Ac N h[i].Part (by omega) htp p1 p2,au]
       rw [gq (by simp;omega),au]
       refine next _ _ ⟨by simp;omega,by simp;omega,hmem,fun e he=>?_,fun x hx=>?_,fun e he=>?_⟩
       ·rcases List.mem_append.1 he with he | he
        ·exact List.mem_append_left _ (hv.gm e he)
        ·rw [List.mem_singleton.1 he];simp
       ·by_cases he:h[i].Name=x
        ·subst he
         unfold lq
         rw [(Uq hlt hnone rfl).2]
         simp only [if_neg hp]
         refine ⟨⟨h[i].Name,tp⟩,?_,hpart⟩
         rw [List.find?_append,hgn]
         simp
        ·have:=hoth x hx he
         unfold lq at this ⊢
         simp only [akC (e:=(⟨h[i].Name,tp⟩:aM)) he]
         exact this
       ·rcases List.mem_append.1 he with he | he
        ·exact hv.sz e he
        ·rw [List.mem_singleton.1 he];exact hsz
     ·simp only [decide_eq_false hin,Bool.not_false,cond_true]
      refine next g _ (Us fun x hx he=>?_)
      rw [← he] at hx
      exact absurd (Ur _ hx) hin
  ·have hie:i=h.length:=by omega
   subst hie
   rw [mD]
   simp only [bT hlt,cond_false]
   exact .inl ⟨g,met,hv,rfl⟩
theorem akF (N:Nat) (a:List ak) (hN:1048577+400 < N) (hs:∀ x,x∈a→bZ x):∃ b:Bool,fG N a=some b∧qh N a=some b∧(b=true→fM a=true∧∀ x,x∈a→x.Kind=1→x.Kids=[]):=by
 obtain ⟨b,b1,b2,b3⟩:=qI N a hN hs
 unfold fG qh
 rw [b1,b2]
 simp only [au]
 cases b with
 | false=>exact ⟨false,rfl,rfl,fun h=>by cases h⟩
 | true=>
  obtain ⟨h1,h2⟩:=b3 rfl
  obtain ⟨l1,l2,_⟩:=fT h1
  have hlt:a.length - 1 < a.length:=by omega
  have hx:=aP hlt
  rw [wrap64 (by omega) (by omega),show (a.length:Int) - 1=((a.length - 1:Nat):Int) by omega,hx]
  simp only [cond_true,au,pF,nQ]
  exact ⟨_,rfl,rfl,fun _=>⟨h1,abt N a (by omega) h1 b1⟩⟩
end Go.Proofs.Tryz
