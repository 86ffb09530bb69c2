/-
 Plain lemmas on the models, part 20.
-/
import Derived.Test.YtbpnoplcbkjiaaaGreatDoorMaHP19
namespace Go.Proofs.Tryz
open Go.Av
set_option maxRecDepth 100000
set_option linter.unusedSimpArgs false
set_option linter.unusedVariables false
theorem Qu:∀ (t:aj) (D:Nat),dO t≤D→allT (fun w=>dO w≤D) t:=by
 intro t
 induction t using aj.ind with
 | h t ih=>
  intro D h
  refine El h fun k hk=>ih k hk D ?_
  have h1:=Qv t
  have key:∀ ts:List aj,k∈ts→dO k≤eP ts:=by
   intro ts
   induction ts with
   | nil=>intro h;cases h
   | cons u ts ih2=>
    intro h
    rw [eP]
    rcases List.mem_cons.1 h with rfl | h
    ·omega
    ·have:=ih2 h
     omega
  have:=key t.kids hk
  omega
theorem WK (N:Nat) (L:List ak) (h:bM N L=some true):vO N L=some true:=by
 have h0:=h
 unfold bM at h
 obtain ⟨y,h1,_⟩:=Option.bind_eq_some_iff.1 h
 obtain ⟨r,h2,h3⟩:=Option.bind_eq_some_iff.1 h1
 cases r with
 | true=>exact h2
 | false=>
  simp only [Bool.not_false,cond_true] at h3
  cases h3
  have Qw:some false=some true:=by
   have e:=h0
   unfold bM at e
   rw [h1] at e
   exact e
  cases Qw
theorem Qx (N:Nat) (L:List ak) (hN:1048577 < N) (hs:∀ x,x∈L→bZ x) (hsh:fM L=true) {t:aj} (hT:TA L t 0 (L.length - 1)) (h:bM N L=some true):dO t≤40:=by
 unfold bM at h
 obtain ⟨y,h1,h⟩:=Option.bind_eq_some_iff.1 h
 cases y with
 | true=>cases h
 | false=>
  rw [MP N L hN hs hsh hT] at h1
  obtain ⟨r,_,h1⟩:=Option.bind_eq_some_iff.1 h1
  cases r with
  | false=>cases h1
  | true=>
   simp only [Bool.not_true,cond_false,au] at h1
   have:=of_decide_eq_false (Option.some.inj h1)
   omega
theorem Qy (N:Nat) (a:List ak) (hN:500 < N) (hsh:fM a=true) (hok:bM N a=some true) {t:aj} (h:TA a t 0 (a.length - 1)) {u:aj} {s i:Nat} (hu:TA a u s i):qE (RT N) u:=by
 have key:∀ (w:aj) (s j:Nat),TA a w s j→RT N w:=fun w s j hw=>by
  obtain ⟨n,hn,e1,e2,e3,e4,hka,hkl⟩:=hw.node
  obtain ⟨hf,hkd⟩:=WL N a hN hsh hok n (List.mem_of_getElem? hn)
  obtain ⟨nk,no,nx,ny,Ib⟩:=n
  obtain ⟨uk,uo,ux,uy,qF⟩:=w
  have e1:uk=nk:=e1
  have e2:uo=no:=e2
  have e3:ux=nx:=e3
  have e4:uy=ny:=e4
  subst e1 e2 e3 e4
  have hkl:qF.length=Ib.length:=hkl
  have hl:Ib.length=(List.replicate qF.length (0:Int)).length:=by rw [List.length_replicate];omega
  refine ⟨(Qz N _ _ _ _ _ _ hl).symm.trans hf,fun q v hv=>?_⟩
  have hv:qF[q]?=some v:=hv
  obtain ⟨k,s',hk,hTx,_⟩:=hka.get q v hv
  obtain ⟨hj,hk⟩:=List.getElem?_eq_some_iff.1 hk
  obtain ⟨y,hy,hy2⟩:=hkd q hj
  rw [hk] at hy
  obtain ⟨m,hm,m1,_⟩:=hTx.node
  rw [je hm] at hy
  cases hy
  rw [m1]
  refine (QA _ _ _ _ _ _ hl _ _).symm.trans hy2
 exact TA.all key u s i hu
theorem WM (N:Nat) (a:List ak) (hN:1048577+1000 < N) (hs:∀ x,x∈a→bZ x) (hok:bM N a=some true) (hsh:fM a=true) {t:aj} (h:TA a t 0 (a.length - 1)) {u:aj} {s i:Nat} (hu:TA a u s i):bM N (av 0 u)=some true∧aB u≤400∧bO u:=by
 have hd:=Qx N a (by omega) hs hsh h hok
 have hl:=hu.lt
 have hp:=hu.part.2.1
 have h4:=(fT hsh).2.1
 have QB:=MQ t 0 _ h (Qu t 40 hd) u s i hu (by omega) (by omega)
 have hx:=vP hs hu
 exact ⟨WO N u (by omega) (by omega) QB (jf (by omega) hx 0) (Qy N a (by omega) hsh hok h hu),by omega,hx⟩
theorem WQ (N:Nat) (u:aj) (hz:aB u≤400) (h:bM N (av 0 u)=some true) (he:fq u.kind=true):fG N (av 0 u)=some true:=by
 have hp:=fZ u
 unfold fG
 obtain ⟨n,hn,e1,_⟩:=(jF u).node
 rw [h]
 simp only [au,cond_true]
 rw [bD,wrap64 (by omega) (by omega),show (aB u:Int) - 1=((aB u - 1:Nat):Int) by omega]
 rw [bD] at hn
 rw [je hn,au,pF,← e1,he]
 rfl
theorem WR {tp u:aj} {g:List aM} (h:fQ tp u []=some g) (he:fq tp.kind=true):fq u.kind=true:=by
 rw [MR] at h
 cases hh:hB tp.kind tp.text with
 | true=>
  rw [hh,cond_true] at h
  cases hu:fq u.kind with
  | true=>rfl
  | false=>rw [hu,cond_false] at h;cases h
 | false=>
  rw [hh,cond_false] at h
  cases ha:nD tp u with
  | false=>rw [ha,cond_false] at h;cases h
  | true=>rw [← (QC ha).1];exact he
theorem QD (N:Nat) (hN:1048577+3000 < N) {tp u:aj} (hp:aB tp≤400) (hz:aB u≤400) (hx:bO u) (QE:fG N (av 0 tp)=some true) (hex:fG N (av 0 u)=some true):∃ r,pG N (av 0 tp) (av 0 u)=some r∧(match fQ tp u [] with
   | some g=>r=(HF g,true)∧GInv (av 0 u) g∧g.length≤400
   | none=>r=([],false)):=by
 have hpz:=fZ u
 have hpp:=fZ tp
 obtain ⟨h,b,a1,a2⟩:=Ic (jF tp) (by rw [bD];omega) hp (av 0 u) (jf (by omega) hx 0) (AL u hz) (jF u) N hN
 have hw:IntKind.wrap .i64 (((av 0 u).length:Int) - 1)=(((av 0 u).length - 1:Nat):Int):=by
  rw [bD,wrap64 (by omega) (by omega)];omega
 unfold pG
 rw [QE,hex,hw]
 simp only [au,Bool.not_true,cond_false,a1]
 cases hm:fQ tp u [] with
 | none=>
  rw [hm] at a2
  have a2:b=false:=a2
  subst a2
  exact ⟨_,rfl,rfl⟩
 | some g=>
  rw [hm] at a2
  obtain ⟨rfl,rfl,a3,a4⟩:=a2
  exact ⟨_,rfl,rfl,a3,a4⟩
def Found (l:List ak) (tp:aj) (x:Int):Prop:=∃ (j:Nat) (u:aj) (s:Nat) (g:List aM),x=(j:Int)∧TA l u s j∧fQ tp u []=some g
theorem WS (N:Nat) (hN:1048577+3000 < N) (l:List ak) (hs:∀ x,x∈l→bZ x) (hsh:fM l=true) {p:List ak} {tp:aj} (htp:TA p tp 0 (p.length - 1)) (hp1:1≤p.length) (hpz:aB tp≤400):∀ (n i:Nat) (out:List Int),l.length - i < n→i≤l.length→out.length≤i→(∀ x,x∈out→Found l tp x)→
  ∃ f,om N n (l,p,(i:Int),out)=some f∧f.length≤l.length∧(∀ x,x∈f→Found l tp x)∧(f=[]→out=[]∧∀ (j:Nat) (u:aj) (s:Nat),i≤j→TA l u s j→fQ tp u []=none):=by
 intro n
 induction n with
 | zero=>intro i out h;omega
 | succ n ih=>
  intro i out hn hi ho hf
  have h4:=(fT hsh).2.1
  rw [om]
  by_cases hlt:i < l.length
  ·obtain ⟨_,_,r,_,_,_,r4,_⟩:=fT hsh
   obtain ⟨u,s,_,hu⟩:=r4 i hlt
   obtain ⟨h,b,a1,a2⟩:=Ic htp hp1 hpz l hs hsh hu N hN
   simp only [bN hlt,cond_true,a1,au]
   have hw:IntKind.wrap .i64 ((i:Int)+1)=((i+1:Nat):Int):=by rw [wrap64 (by omega) (by omega)];omega
   cases hm:fQ tp u [] with
   | none=>
    rw [hm] at a2
    have a2:b=false:=a2
    subst a2
    rw [cond_false]
    unfold uI
    dsimp only
    rw [hw]
    obtain ⟨f,f1,f2,f3,f4⟩:=ih (i+1) out (by omega) (by omega) (by omega) hf
    refine ⟨f,f1,f2,f3,fun e=>⟨(f4 e).1,fun j v s' hj hv=>?_⟩⟩
    by_cases hji:j=i
    ·subst hji
     obtain ⟨rfl,_⟩:=TA.uniq hv hu
     exact hm
    ·exact (f4 e).2 j v s' (by omega) hv
   | some g=>
    rw [hm] at a2
    obtain ⟨_,rfl,_⟩:=a2
    rw [cond_true,gq (by simp;omega),au]
    unfold uI
    dsimp only
    rw [hw]
    obtain ⟨f,f1,f2,f3,f4⟩:=ih (i+1) (out++[(i:Int)]) (by omega) (by omega) (by simp;omega) (fun x hx=>by
     rcases List.mem_append.1 hx with hx | hx
     ·exact hf x hx
     ·rw [List.mem_singleton.1 hx];exact ⟨i,u,s,g,rfl,hu,hm⟩)
    exact ⟨f,f1,f2,f3,fun e=>by have:=(f4 e).1;simp at this⟩
  ·simp only [bT hlt,cond_false]
   exact ⟨out,rfl,by omega,hf,fun e=>⟨e,fun j u s hj hu=>by have:=hu.lt;omega⟩⟩
theorem QF (N:Nat) (a:List Int) (ha:a.length≤100000):∀ (n i:Nat),a.length - i < n→i≤a.length→vQ N n (a,a,(i:Int))=some true:=by
 intro n
 induction n with
 | zero=>intro i h;omega
 | succ n ih=>
  intro i hn hi
  rw [vQ]
  by_cases hlt:i < a.length
  ·simp only [bN hlt,cond_true,aP hlt,au,bne_self_eq_false,cond_false]
   rw [wrap64 (by omega) (by omega),show (i:Int)+1=((i+1:Nat):Int) by omega]
   exact ih (i+1) (by omega) (by omega)
  ·simp only [bT hlt,cond_false]
theorem WT (N:Nat) (a:List Int) (ha:a.length≤100000) (hN:100001 < N):qG N a a=some true:=by
 unfold qG
 rw [bne_self_eq_false,cond_false]
 exact QF N a ha N 0 (by omega) (by omega)
theorem MS (N:Nat) (l q r z:List ak) (good:Bool) (hc:vR N l=some l) (h:rE N l q r=some (z,good)):(good=false→z=l)∧(good=true→bM N l=some true∧bM N z=some true∧fG N q=some true∧fG N r=some true∧lM N l (IntKind.wrap .i64 ((l.length:Int) - 1)) q r=some z):=by
 unfold rE at h
 obtain ⟨y,hy,h⟩:=Option.bind_eq_some_iff.1 h
 cases y with
 | true=>
  rw [cond_true,hc,au] at h
  cases h
  exact ⟨fun _=>rfl,fun h=>by cases h⟩
 | false=>
  rw [cond_false] at h
  obtain ⟨t,ht,h⟩:=Option.bind_eq_some_iff.1 h
  obtain ⟨w,hw,h⟩:=Option.bind_eq_some_iff.1 h
  cases h
  unfold Em at hw
  obtain ⟨k,hk,hw⟩:=Option.bind_eq_some_iff.1 hw
  cases k with
  | false=>
   simp only [Bool.not_false,cond_true,hc,au] at hw
   cases hw
   exact ⟨fun _=>rfl,fun h=>by cases h⟩
  | true=>
   simp only [Bool.not_true,cond_false] at hw
   cases hw
   refine ⟨fun h=>(by cases h),fun _=>?_⟩
   obtain ⟨a,ha,hy⟩:=Option.bind_eq_some_iff.1 hy
   cases a with
   | false=>cases hy
   | true=>
    simp only [Bool.not_true,cond_false] at hy
    obtain ⟨c,hcq,hy⟩:=Option.bind_eq_some_iff.1 hy
    cases c with
    | false=>cases hy
    | true=>
     simp only [Bool.not_true,cond_false] at hy
     obtain ⟨d,hd,hy⟩:=Option.bind_eq_some_iff.1 hy
     cases d with
     | false=>cases hy
     | true=>exact ⟨ha,hk,hcq,hd,ht⟩
theorem En (t:aj) (h:aB t≤1000000):∀ x,x∈av 0 t→Ie x:=QG t h
theorem QH (N:Nat) (hN:1048577+10000 < N) {tl tq tr:aj} (hl:aB tl≤10000) (hlx:bO tl) (hq:aB tq≤7) (rF:bO tq) (hr:aB tr≤7) (hrx:bO tr) (qH:allT vS tr) {z:List ak} {good:Bool} (h:rE N (av 0 tl) (av 0 tq) (av 0 tr)=some (z,good)) (H:bM N (av 0 tl)=some true→fG N (av 0 tq)=some true→∀ (u:aj) (s i:Nat),TA (av 0 tl) u s i→fQ tq u []=none∨(av 0 tr=av 0 tq∧tr=tq)):z=av 0 tl:=by
 have hsm:=jf (t:=tl) (by omega) hlx 0
 have hc:=Ig N (av 0 tl) (by omega) (by rw [bD];omega) hsm (En tl (by omega))
 obtain ⟨p1,p2⟩:=MS N _ _ _ z good hc h
 cases good with
 | false=>exact p1 rfl
 | true=>
  obtain ⟨k1,k2,k3,k4,k5⟩:=p2 rfl
  obtain ⟨b,b1,_,b3⟩:=qI N (av 0 tl) (by omega) hsm
  rw [k1] at b1
  cases b1
  have hsh:=(b3 rfl).1
  have h4:=(fT hsh).2.1
  have hz:aB tl≤400:=by rw [bD] at h4;exact h4
  have hpl:=fZ tl
  have hpq:=fZ tq
  have hpr:=fZ tr
  have QI:AO (av 0 tq) (av 0 tr) tq tr:=⟨jF tq,by rw [bD];omega,by rw [bD];omega,jF tr,by rw [bD];omega,by rw [bD];omega,hrx,QJ (by omega) qH⟩
  have:=WU QI (jf (by omega) hrx 0) (av 0 tl) hsm (H k1 k3) tl 0 ((av 0 tl).length - 1) N (jF tl) hz (by omega)
  have hw:IntKind.wrap .i64 (((av 0 tl).length:Int) - 1)=(((av 0 tl).length - 1:Nat):Int):=by
   rw [bD,wrap64 (by omega) (by omega)];omega
  have this:lM N (av 0 tl) (((av 0 tl).length - 1:Nat):Int) (av 0 tq) (av 0 tr)=_:=this
  rw [hw,this] at k5
  exact (Option.some.inj k5).symm
end Go.Proofs.Tryz
