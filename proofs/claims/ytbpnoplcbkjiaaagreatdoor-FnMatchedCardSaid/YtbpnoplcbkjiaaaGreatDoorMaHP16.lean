/-
 Plain lemmas on the models, part 16.
-/
import Derived.Test.YtbpnoplcbkjiaaaGreatDoorMaHP15
namespace Go.Proofs.Tryz
open Go.Av
set_option maxRecDepth 100000
set_option linter.unusedSimpArgs false
set_option linter.unusedVariables false
theorem abI (g:List aM) (x:List UInt8):(HF g).find? (fun f=>f.Name==x)=(g.find? (fun f=>f.name==x)).map fun f=>(⟨f.name,av 0 f.tree⟩:fA):=by
 unfold HF
 rw [List.find?_map]
 rfl
theorem akG (g:List aM) (x:List UInt8):lq g (HF g) x:=by
 unfold lq
 rw [abI]
 cases h:g.find? (fun f=>f.name==x) with
 | none=>rfl
 | some f=>
  have hp:=fZ f.tree
  show if (av 0 f.tree).length=0 then _ else _
  rw [bD,if_neg (by omega)]
  exact ⟨f,rfl,rfl⟩
theorem akH (N:Nat) (a:List ak) (g0:List aM) (t:aj) (hN:1073741825+10000 < N) (hs:∀ x,x∈a→bZ x) (hok:fG N a=some true) (ht:TA a t 0 (a.length - 1)) (hg:∀ f,f∈g0→aB f.tree≤400∧bO f.tree) (hl:g0.length≤1000) (hT:bM N (av 0 (dL g0 t))=some true) (hsz0:aB (dL g0 t)≤400):Gx N a (HF g0)=some (av 0 (dL g0 t)):=by
 obtain ⟨b,b1,b2,b3⟩:=akF N a (by omega) hs
 rw [hok] at b1
 cases b1
 obtain ⟨hsh,hnk⟩:=b3 rfl
 obtain ⟨p1,p2,_⟩:=fT hsh
 have hsz:aB t≤400:=by have:=ht.part.2.1;omega
 have htx:=vP hs ht
 have hhl:(HF g0).length=g0.length:=by unfold HF;simp
 obtain ⟨used,u1,_,u3,u4⟩:=akx N a p2 N 0 [] (by omega) (by omega) (by simp)
 rw [List.drop_zero] at u3
 have Ur:∀ x,HH a x→x∈used:=by
  rintro x ⟨n,n1,n2,rfl⟩
  unfold hB at n2
  simp only [Bool.and_eq_true,beq_iff_eq] at n2
  exact u3 n n1 n2.1
 have abK:∀ (u:aj) (s i:Nat),TA a u s i→hB u.kind u.text=true→u.kids=[]:=fun u s i hu hb=>by
  obtain ⟨n,n1,n2,n3,n4,n5,n6,n7⟩:=hu.node
  rw [n2,n4] at hb
  unfold hB at hb
  simp only [Bool.and_eq_true,beq_iff_eq] at hb
  have:=hnk n (List.mem_of_getElem? n1) hb.1
  rw [this] at n7
  exact List.length_eq_zero_iff.1 n7
 have akI:∀ (u:aj) (s i:Nat),TA a u s i→hB u.kind u.text=true→HH a u.text:=fun u s i hu hb=>by
  obtain ⟨n,n1,n2,n3,n4,n5,n6,n7⟩:=hu.node
  exact ⟨n,List.mem_of_getElem? n1,by rw [← n2,← n4];exact hb,n4.symm⟩
 unfold Gx
 rw [b2]
 have Ui:OI N a=some used:=u1
 simp only [au,Bool.not_true,cond_false,Ui]
 have hinv:Inv a (HF g0) 0 [] []:=⟨by simp,by simp,(fun x=>by simp),(fun e he=>by cases he),(fun x _=>by unfold lq;simp),(fun e he=>by cases he)⟩
 rcases akD N a (HF g0) used (by omega) p2 (by omega) u4 Ur N 0 [] [] (by omega) (by omega) hinv with ⟨g,met,hv,e⟩ | ⟨e,hbad⟩
 ·have e':mD N N (a,HF g0,used,0,[],[])=Pt N a g:=e
  rw [e']
  have hrel:∀ x,HH a x→lq g (HF g0) x:=fun x hx=>by
   have:=hv.rel x hx
   rwa [List.take_length] at this
  have hgl:=hv.gl
  have hfb:=Pj g hv.sz t
  have hall:allT (fun t=>hB t.kind t.text=true→lq g (HF g0) t.text∧t.kids=[]) t:=Un (fun u s i hu hb=>⟨hrel _ (akI u s i hu hb),abK u s i hu hb⟩) t 0 (a.length - 1) ht
  have akJ:allT (fun t=>hB t.kind t.text=true→lq g0 (HF g0) t.text∧t.kids=[]) t:=Un (fun u s i hu hb=>⟨akG g0 _,abK u s i hu hb⟩) t 0 (a.length - 1) ht
  have heq:=Uo g (HF g0) hv.sz t hsz hall
  have akK:=Uo g0 (HF g0) (fun f hf=>(hg f hf).1) t hsz akJ
  have e1:nP N t g=some (dL g t):=abh g (by omega) t N (by omega) (by omega)
  have hsm:∀ x,x∈av 0 (dL g0 t)→bZ x:=jf (by omega) (Pm g0 (fun f hf=>(hg f hf).2) t htx) 0
  obtain ⟨c,c1,c2,_⟩:=qI N (av 0 (dL g0 t)) (by omega) hsm
  rw [hT] at c1
  cases c1
  unfold Pt
  rw [Ac N a (by omega) ht p1 p2,au,e1,au,Uj N _ (by omega) (by omega),au,← heq,akK,c2,au]
  rfl
 ·exfalso
  obtain ⟨x,f,_,f1,f2,f3⟩:=hbad
  rw [abI] at f1
  cases h:g0.find? (fun f=>f.name==x) with
  | none=>rw [h] at f1;cases f1
  | some e=>
   rw [h] at f1
   cases f1
   have:=AL e.tree (hg e (List.mem_of_find?_eq_some h)).1
   have f3:fM (av 0 e.tree)=false:=f3
   rw [this] at f3
   cases f3
end Go.Proofs.Tryz
