/-
  Matched: for all arguments the law returns true: the program's function returns what the reference's returns.
  The tables that the row lists are tied to the program's text.
-/
import Derived.Test.YtbpnoplcbkjiaaaGreatDoorRows
import Derived.Test.YtbpnoplcbkjiaaaGreatDoorCards
import Derived.Test.YtbpnoplcbkjiaaaGreatDoorTie
import Derived.WalkKit
import Derived.ProofKit
import Derived.OpenShut
import Derived.Lay
import Derived.MakeChecks
import Derived.SevenTiedAt
import Derived.Test.YtbpnoplcbkjiaaaGreatDoorMaHW5
import Derived.Test.YtbpnoplcbkjiaaaGreatDoorMaHP21
import Derived.Test.YtbpnoplcbkjiaaaGreatDoorHCore5
namespace Go.Proofs.YtbpnoplcbkjiaaaGreatDoor.fnMatched
open Go.ChangeShapes Go.WideShapes Go.ChangeAt Go.RowKit Go.Av Go.Proofs.Tryz
set_option linter.unusedVariables false
set_option linter.unusedSimpArgs false
set_option maxRecDepth 100000
theorem own:ownKnob Tryz.prog.godebug=none:=by kernel_rfl
theorem laidOut:laidOutB Tryz.prog=true:=by kernel_rfl
theorem Qu:∀ (t:aj) (D:Nat),dO t≤D→allT (fun w=>dO w≤D) t:=by
  intro t
  induction t using aj.ind with
  | h t ih=>
    intro D h
    refine El h fun k hk=>ih k hk D ?_
    have h1:=Qv t
    have key:∀ ts:LS,k∈ts→dO k≤eP ts:=by
      intro ts
      induction ts with
      | nil=>intro h;cases h
      | cons u ts ih2=>
        intro h
        rw [eP]
        rcases List.mem_cons.1 h with rfl | h
        · omega
        · have:=ih2 h
          omega
    have:=key t.kids hk
    omega
theorem WK (N:Nat) (L:LN) (h:bM N L=some true):vO N L=some true:=by
  have h0:=h
  unfold bM at h
  obtain ⟨y,h1,_⟩:=Option.bind_eq_some_iff.1 h
  obtain ⟨r,h2,h3⟩:=Option.bind_eq_some_iff.1 h1
  cases r with
  | true=>exact h2
  | false=>
    simp only [Bool.not_false,cond_true] at h3
    cases h3
    have Qw:some false=some true:=by
      have e:=h0
      unfold bM at e
      rw [h1] at e
      exact e
    cases Qw
theorem Qx (N:Nat) (L:LN) (hN:1048577 < N) (hs:∀ x,x∈L→bZ x) (hsh:fM L=true) {t:aj} (hT:TA L t 0 (L.length - 1)) (h:bM N L=some true):dO t≤40:=by
  unfold bM at h
  obtain ⟨y,h1,h⟩:=Option.bind_eq_some_iff.1 h
  cases y with
  | true=>cases h
  | false=>
    rw [MP N L hN hs hsh hT] at h1
    obtain ⟨r,_,h1⟩:=Option.bind_eq_some_iff.1 h1
    cases r with
    | false=>cases h1
    | true=>
      simp only [Bool.not_true,cond_false,au] at h1
      have:=of_decide_eq_false (Option.some.inj h1)
      omega
theorem Qy (N:Nat) (a:LN) (hN:500 < N) (hsh:fM a=true) (hok:bM N a=some true) {t:aj} (h:TA a t 0 (a.length - 1)) {u:aj} {s i:Nat} (hu:TA a u s i):qE (RT N) u:=by
  have key:∀ (w:aj) (s j:Nat),TA a w s j→RT N w:=fun w s j hw=>by
    obtain ⟨n,hn,e1,e2,e3,e4,hka,hkl⟩:=hw.node
    obtain ⟨hf,hkd⟩:=WL N a hN hsh hok n (List.mem_of_getElem? hn)
    obtain ⟨nk,no,nx,ny,Ib⟩:=n
    obtain ⟨uk,uo,ux,uy,qF⟩:=w
    have e1:uk=nk:=e1
    have e2:uo=no:=e2
    have e3:ux=nx:=e3
    have e4:uy=ny:=e4
    subst e1 e2 e3 e4
    have hkl:qF.length=Ib.length:=hkl
    have hl:Ib.length=(List.replicate qF.length (0:Int)).length:=by rw [List.length_replicate];omega
    refine ⟨(Qz N _ _ _ _ _ _ hl).symm.trans hf,fun q v hv=>?_⟩
    have hv:qF[q]?=some v:=hv
    obtain ⟨k,s',hk,hTx,_⟩:=hka.get q v hv
    obtain ⟨hj,hk⟩:=List.getElem?_eq_some_iff.1 hk
    obtain ⟨y,hy,hy2⟩:=hkd q hj
    rw [hk] at hy
    obtain ⟨m,hm,m1,_⟩:=hTx.node
    rw [je hm] at hy
    cases hy
    rw [m1]
    refine (QA _ _ _ _ _ _ hl _ _).symm.trans hy2
  exact TA.all key u s i hu
theorem WM (N:Nat) (a:LN) (hN:1048577+1000 < N) (hs:∀ x,x∈a→bZ x) (hok:bM N a=some true) (hsh:fM a=true) {t:aj} (h:TA a t 0 (a.length - 1)) {u:aj} {s i:Nat} (hu:TA a u s i):bM N (av 0 u)=some true∧aB u≤400∧bO u:=by
  have hd:=Qx N a (by omega) hs hsh h hok
  have hl:=hu.lt
  have hp:=hu.part.2.1
  have h4:=(fT hsh).2.1
  have QB:=MQ t 0 _ h (Qu t 40 hd) u s i hu (by omega) (by omega)
  have hx:=vP hs hu
  exact ⟨WO N u (by omega) (by omega) QB (jf (by omega) hx 0) (Qy N a (by omega) hsh hok h hu),by omega,hx⟩
theorem WQ (N:Nat) (u:aj) (hz:aB u≤400) (h:bM N (av 0 u)=some true) (he:fq u.kind=true):fG N (av 0 u)=some true:=by
  have hp:=fZ u
  unfold fG
  obtain ⟨n,hn,e1,_⟩:=(jF u).node
  rw [h]
  simp only [au,cond_true]
  rw [bD,wrap64 (by omega) (by omega),show (aB u:Int) - 1=((aB u - 1:Nat):Int) by omega]
  rw [bD] at hn
  rw [je hn,au,pF,← e1,he]
  rfl
theorem WR {tp u:aj} {g:List aM} (h:fQ tp u []=some g) (he:fq tp.kind=true):fq u.kind=true:=by
  rw [MR] at h
  cases hh:hB tp.kind tp.text with
  | true=>
    rw [hh,cond_true] at h
    cases hu:fq u.kind with
    | true=>rfl
    | false=>rw [hu,cond_false] at h;cases h
  | false=>
    rw [hh,cond_false] at h
    cases ha:nD tp u with
    | false=>rw [ha,cond_false] at h;cases h
    | true=>rw [← (QC ha).1];exact he
theorem QD (N:Nat) (hN:1048577+3000 < N) {tp u:aj} (hp:aB tp≤400) (hz:aB u≤400) (hx:bO u) (QE:fG N (av 0 tp)=some true) (hex:fG N (av 0 u)=some true):∃ r,pG N (av 0 tp) (av 0 u)=some r∧(match fQ tp u [] with
      | some g=>r=(HF g,true)∧GInv (av 0 u) g∧g.length≤400
      | none=>r=([],false)):=by
  have hpz:=fZ u
  have hpp:=fZ tp
  obtain ⟨h,b,a1,a2⟩:=Ic (jF tp) (by rw [bD];omega) hp (av 0 u) (jf (by omega) hx 0) (AL u hz) (jF u) N hN
  have hw:IntKind.wrap .i64 (((av 0 u).length:Int) - 1)=(((av 0 u).length - 1:Nat):Int):=by
    rw [bD,wrap64 (by omega) (by omega)];omega
  unfold pG
  rw [QE,hex,hw]
  simp only [au,Bool.not_true,cond_false,a1]
  cases hm:fQ tp u [] with
  | none=>
    rw [hm] at a2
    have a2:b=false:=a2
    subst a2
    exact ⟨_,rfl,rfl⟩
  | some g=>
    rw [hm] at a2
    obtain ⟨rfl,rfl,a3,a4⟩:=a2
    exact ⟨_,rfl,rfl,a3,a4⟩
def Found (l:LN) (tp:aj) (x:Int):Prop:=∃ (j:Nat) (u:aj) (s:Nat) (g:List aM),x=(j:Int)∧TA l u s j∧fQ tp u []=some g
theorem WS (N:Nat) (hN:1048577+3000 < N) (l:LN) (hs:∀ x,x∈l→bZ x) (hsh:fM l=true) {p:LN} {tp:aj} (htp:TA p tp 0 (p.length - 1)) (hp1:1≤p.length) (hpz:aB tp≤400):∀ (n i:Nat) (out:List Int),l.length - i < n→i≤l.length→out.length≤i→(∀ x,x∈out→Found l tp x)→
    ∃ f,om N n (l,p,(i:Int),out)=some f∧f.length≤l.length∧(∀ x,x∈f→Found l tp x)∧(f=[]→out=[]∧∀ (j:Nat) (u:aj) (s:Nat),i≤j→TA l u s j→fQ tp u []=none):=by
  intro n
  induction n with
  | zero=>intro i out h;omega
  | succ n ih=>
    intro i out hn hi ho hf
    have h4:=(fT hsh).2.1
    rw [om]
    by_cases hlt:i < l.length
    · obtain ⟨_,_,r,_,_,_,r4,_⟩:=fT hsh
      obtain ⟨u,s,_,hu⟩:=r4 i hlt
      obtain ⟨h,b,a1,a2⟩:=Ic htp hp1 hpz l hs hsh hu N hN
      simp only [bN hlt,cond_true,a1,au]
      have hw:IntKind.wrap .i64 ((i:Int)+1)=((i+1:Nat):Int):=by rw [wrap64 (by omega) (by omega)];omega
      cases hm:fQ tp u [] with
      | none=>
        rw [hm] at a2
        have a2:b=false:=a2
        subst a2
        rw [cond_false]
        unfold uI
        dsimp only
        rw [hw]
        obtain ⟨f,f1,f2,f3,f4⟩:=ih (i+1) out (by omega) (by omega) (by omega) hf
        refine ⟨f,f1,f2,f3,fun e=>⟨(f4 e).1,fun j v s' hj hv=>?_⟩⟩
        by_cases hji:j=i
        · subst hji
          obtain ⟨rfl,_⟩:=TA.uniq hv hu
          exact hm
        · exact (f4 e).2 j v s' (by omega) hv
      | some g=>
        rw [hm] at a2
        obtain ⟨_,rfl,_⟩:=a2
        rw [cond_true,gq (by simp;omega),au]
        unfold uI
        dsimp only
        rw [hw]
        obtain ⟨f,f1,f2,f3,f4⟩:=ih (i+1) (out++[(i:Int)]) (by omega) (by omega) (by simp;omega) (fun x hx=>by
          rcases List.mem_append.1 hx with hx | hx
          · exact hf x hx
          · rw [List.mem_singleton.1 hx];exact ⟨i,u,s,g,rfl,hu,hm⟩)
        exact ⟨f,f1,f2,f3,fun e=>by have:=(f4 e).1;simp at this⟩
    · simp only [bT hlt,cond_false]
      exact ⟨out,rfl,by omega,hf,fun e=>⟨e,fun j u s hj hu=>by have:=hu.lt;omega⟩⟩
theorem QF (N:Nat) (a:List Int) (ha:a.length≤100000):∀ (n i:Nat),a.length - i < n→i≤a.length→vQ N n (a,a,(i:Int))=some true:=by
  intro n
  induction n with
  | zero=>intro i h;omega
  | succ n ih=>
    intro i hn hi
    rw [vQ]
    by_cases hlt:i < a.length
    · simp only [bN hlt,cond_true,aP hlt,au,bne_self_eq_false,cond_false]
      rw [wrap64 (by omega) (by omega),show (i:Int)+1=((i+1:Nat):Int) by omega]
      exact ih (i+1) (by omega) (by omega)
    · simp only [bT hlt,cond_false]
theorem WT (N:Nat) (a:List Int) (ha:a.length≤100000) (hN:100001 < N):qG N a a=some true:=by
  unfold qG
  rw [bne_self_eq_false,cond_false]
  exact QF N a ha N 0 (by omega) (by omega)
theorem MS (N:Nat) (l q r z:LN) (good:Bool) (hc:vR N l=some l) (h:rE N l q r=some (z,good)):(good=false→z=l)∧(good=true→bM N l=some true∧bM N z=some true∧fG N q=some true∧fG N r=some true∧lM N l (IntKind.wrap .i64 ((l.length:Int) - 1)) q r=some z):=by
  unfold rE at h
  obtain ⟨y,hy,h⟩:=Option.bind_eq_some_iff.1 h
  cases y with
  | true=>
    rw [cond_true,hc,au] at h
    cases h
    exact ⟨fun _=>rfl,fun h=>by cases h⟩
  | false=>
    rw [cond_false] at h
    obtain ⟨t,ht,h⟩:=Option.bind_eq_some_iff.1 h
    obtain ⟨w,hw,h⟩:=Option.bind_eq_some_iff.1 h
    cases h
    unfold Em at hw
    obtain ⟨k,hk,hw⟩:=Option.bind_eq_some_iff.1 hw
    cases k with
    | false=>
      simp only [Bool.not_false,cond_true,hc,au] at hw
      cases hw
      exact ⟨fun _=>rfl,fun h=>by cases h⟩
    | true=>
      simp only [Bool.not_true,cond_false] at hw
      cases hw
      refine ⟨fun h=>(by cases h),fun _=>?_⟩
      obtain ⟨a,ha,hy⟩:=Option.bind_eq_some_iff.1 hy
      cases a with
      | false=>cases hy
      | true=>
        simp only [Bool.not_true,cond_false] at hy
        obtain ⟨c,hcq,hy⟩:=Option.bind_eq_some_iff.1 hy
        cases c with
        | false=>cases hy
        | true=>
          simp only [Bool.not_true,cond_false] at hy
          obtain ⟨d,hd,hy⟩:=Option.bind_eq_some_iff.1 hy
          cases d with
          | false=>cases hy
          | true=>exact ⟨ha,hk,hcq,hd,ht⟩
theorem En (t:aj) (h:aB t≤1000000):∀ x,x∈av 0 t→Ie x:=QG t h
theorem QH (N:Nat) (hN:1048577+10000 < N) {tl tq tr:aj} (hl:aB tl≤10000) (hlx:bO tl) (hq:aB tq≤7) (rF:bO tq) (hr:aB tr≤7) (hrx:bO tr) (qH:allT vS tr) {z:LN} {good:Bool} (h:rE N (av 0 tl) (av 0 tq) (av 0 tr)=some (z,good)) (H:bM N (av 0 tl)=some true→fG N (av 0 tq)=some true→∀ (u:aj) (s i:Nat),TA (av 0 tl) u s i→fQ tq u []=none∨(av 0 tr=av 0 tq∧tr=tq)):z=av 0 tl:=by
  have hsm:=jf (t:=tl) (by omega) hlx 0
  have hc:=Ig N (av 0 tl) (by omega) (by rw [bD];omega) hsm (En tl (by omega))
  obtain ⟨p1,p2⟩:=MS N _ _ _ z good hc h
  cases good with
  | false=>exact p1 rfl
  | true=>
    obtain ⟨k1,k2,k3,k4,k5⟩:=p2 rfl
    obtain ⟨b,b1,_,b3⟩:=qI N (av 0 tl) (by omega) hsm
    rw [k1] at b1
    cases b1
    have hsh:=(b3 rfl).1
    have h4:=(fT hsh).2.1
    have hz:aB tl≤400:=by rw [bD] at h4;exact h4
    have hpl:=fZ tl
    have hpq:=fZ tq
    have hpr:=fZ tr
    have QI:AO (av 0 tq) (av 0 tr) tq tr:=⟨jF tq,by rw [bD];omega,by rw [bD];omega,jF tr,by rw [bD];omega,by rw [bD];omega,hrx,QJ (by omega) qH⟩
    have:=WU QI (jf (by omega) hrx 0) (av 0 tl) hsm (H k1 k3) tl 0 ((av 0 tl).length - 1) N (jF tl) hz (by omega)
    have hw:IntKind.wrap .i64 (((av 0 tl).length:Int) - 1)=(((av 0 tl).length - 1:Nat):Int):=by
      rw [bD,wrap64 (by omega) (by omega)];omega
    have this:lM N (av 0 tl) (((av 0 tl).length - 1:Nat):Int) (av 0 tq) (av 0 tr)=_:=this
    rw [hw,this] at k5
    exact (Option.some.inj k5).symm
theorem kids:Go.Kids Tryz.prog (· < Tryz.prog.types.size):=kids_rows (by kernel_rfl) (by kernel_rfl)
theorem full:∀ t e,t < Tryz.prog.types.size→Tryz.prog.underlying t=some (.slice e)→0 < Tryz.prog.cellsOf e:=slices_full_of Tryz.prog (by kernel_rfl)
def lay:List (String×DataW Unit):=[("loop.example/g01543/impl.keywords",Rows.laid_loop_example_g01543_impl_keywords),("loop.example/g01543/impl.signs",Rows.laid_loop_example_g01543_impl_signs),("loop.example/g01543/impl.builtins",Rows.laid_loop_example_g01543_impl_builtins)]
theorem tables {W:World} (h:laidMetH Tryz.prog lay W):W.var? Tryz.prog "loop.example/g01543/impl.keywords" =some (strCells mK)∧W.var? Tryz.prog "loop.example/g01543/impl.signs" =some (strCells sQ)∧W.var? Tryz.prog "loop.example/g01543/impl.builtins" =some (strCells pJ):=by
  rw [MakeChecks.laidMetH_plain _ _ _ (by kernel_rfl)] at h
  obtain ⟨ps,⟨g0,t0,cs0,atY,p0,q0,hg0,ht0,hv0,hd0,r0,_⟩,_,_⟩:=h
  obtain ⟨g1,t1,cs1,fuel1,p1,q1,hg1,ht1,hv1,hd1,r1,_⟩:=r0
  obtain ⟨g2,t2,cs2,fuel2,p2,q2,hg2,ht2,hv2,hd2,r2,_⟩:=r1
  obtain rfl:=Option.some.inj ((show Tryz.prog.globalNamed "loop.example/g01543/impl.keywords" =some 1 by kernel_rfl).symm.trans hg0)
  obtain rfl:=Option.some.inj ((show (Tryz.prog.globals[1]?).map (·.type)=some 146 by kernel_rfl).symm.trans ht0)
  have e0:cs0=strCells mK:=QK (l:=mK) (p:=p0) (by rw [show (DataW.agg (mK.map fun s=>.lit (.string s)):DataW Unit)=Rows.laid_loop_example_g01543_impl_keywords by kernel_rfl];exact hd0) Tryz.underlying146 Tryz.underlying9 (by kernel_rfl) (by kernel_rfl)
  rw [e0] at hv0
  obtain rfl:=Option.some.inj ((show Tryz.prog.globalNamed "loop.example/g01543/impl.signs" =some 2 by kernel_rfl).symm.trans hg1)
  obtain rfl:=Option.some.inj ((show (Tryz.prog.globals[2]?).map (·.type)=some 148 by kernel_rfl).symm.trans ht1)
  have e1:cs1=strCells sQ:=QK (l:=sQ) (p:=p1) (by rw [show (DataW.agg (sQ.map fun s=>.lit (.string s)):DataW Unit)=Rows.laid_loop_example_g01543_impl_signs by kernel_rfl];exact hd1) Tryz.underlying148 Tryz.underlying9 (by kernel_rfl) (by kernel_rfl)
  rw [e1] at hv1
  obtain rfl:=Option.some.inj ((show Tryz.prog.globalNamed "loop.example/g01543/impl.builtins" =some 0 by kernel_rfl).symm.trans hg2)
  obtain rfl:=Option.some.inj ((show (Tryz.prog.globals[0]?).map (·.type)=some 132 by kernel_rfl).symm.trans ht2)
  have e2:cs2=strCells pJ:=QK (l:=pJ) (p:=p2) (by rw [show (DataW.agg (pJ.map fun s=>.lit (.string s)):DataW Unit)=Rows.laid_loop_example_g01543_impl_builtins by kernel_rfl];exact hd2) Tryz.underlying132 Tryz.underlying9 (by kernel_rfl) (by kernel_rfl)
  rw [e2] at hv2
  exact ⟨hv0,hv1,hv2⟩
theorem afr {W:World} {S:Nat→Prop} (h0:W.var? Tryz.prog "loop.example/g01543/impl.keywords" =some (strCells mK)) (h1:W.var? Tryz.prog "loop.example/g01543/impl.signs" =some (strCells sQ)) (h2:W.var? Tryz.prog "loop.example/g01543/impl.builtins" =some (strCells pJ)) (s0:S 1) (s1:S 2) (s2:S 0):vT (GS [0,1,2]) S W:=by
  intro g cs hg
  have hc:([0,1,2]:List Nat).contains g=true:=by
    cases h:([0,1,2]:List Nat).contains g with
    | true=>rfl
    | false=>unfold GS at hg;rw [h] at hg;cases hg
  have hm:=List.contains_iff_mem.1 hc
  simp only [List.mem_cons,List.mem_nil_iff,or_false] at hm
  rcases hm with rfl | rfl | rfl
  · obtain rfl:=Option.some.inj ((show GS [0,1,2] 0=some (pJ.map V.s) by kernel_rfl).symm.trans hg)
    exact QL (show Tryz.prog.globalNamed "loop.example/g01543/impl.builtins" =some 0 by kernel_rfl) h2 s2
  · obtain rfl:=Option.some.inj ((show GS [0,1,2] 1=some (mK.map V.s) by kernel_rfl).symm.trans hg)
    exact QL (show Tryz.prog.globalNamed "loop.example/g01543/impl.keywords" =some 1 by kernel_rfl) h0 s0
  · obtain rfl:=Option.some.inj ((show GS [0,1,2] 2=some (sQ.map V.s) by kernel_rfl).symm.trans hg)
    exact QL (show Tryz.prog.globalNamed "loop.example/g01543/impl.signs" =some 2 by kernel_rfl) h1 s1
theorem lifted (os:Os) (started:os.Started) (H:Type) (enc:TypeId×Value→H):
    ReturnsInHanded {} Tryz.checked os 3 .any (fun w args=>(Rows.fnMatchedSpec.pre enc Tryz.prog Tryz.f3 Rows.fnMatchedRow.domain false w args∧laidMetH Tryz.prog lay w)∧sizedMet enc Tryz.prog Tryz.f3 (OpenSpec.ofChange Rows.fnMatchedSpec) false w args) (Rows.fnMatchedSpec.post enc Tryz.prog Tryz.f3 false true false false):=by
  refine returnsInHanded_of_change_and (C:=Tryz.checked) (X:=fun w _=>laidMetH Tryz.prog lay w) (fun _ _ _ hh h=>h.of_heap hh) own started (by kernel_rfl) Tryz.func3
    (ChangeSpec.witness_at (enc:=enc) (C:=Tryz.checked) (os:=os) (X:=fun w _=>laidMetH Tryz.prog lay w) false (World.laidAll Tryz.prog os lay) #[.slice none 0 0] 12 (World.laidAll_os _ _ _) (by kernel_rfl) (by kernel_rfl) (by kernel_rfl) (by kernel_rfl) (by kernel_rfl)
      (by rw [MakeChecks.laidMetH_plain _ _ _ (by kernel_rfl)];exact laidMet_laidAll _ (by kernel_rfl) (by kernel_rfl))) ?_
  intro W base args ds gs before hval0 hW hcnd _ hL _
  have hval:∀ (j:Nat) t v,Tryz.f3.params[j]?=some t→args[j]?=some v→Value.okWide Tryz.prog W .any base t v:=hval0
  have hW':=hW
  obtain ⟨p,q,hA0,hV0,rfl,hfz,hnd⟩:=hW
  have hA:DataW.TrodAll enc Tryz.prog W 0 (fun _=>true) true Tryz.f3.params.toList args.toList ds p:=hA0
  have hV:DataW.TrodVars enc Tryz.prog W (fun _=>true) ["loop.example/g01543/impl.keywords", "loop.example/g01543/impl.builtins", "loop.example/g01543/impl.signs"] gs q:=hV0
  rw [Tryz.params3] at hA hval
  have hA1:=hA
  obtain ⟨v0,vs0,d0,ds0,p0,q0,hargs,rfl,rfl,h0,r0⟩:=trodAll_cons hA
  obtain ⟨rfl,rfl,rfl⟩:=trodAll_nil r0
  obtain rfl:args=#[v0]:=by cases args;simp_all
  have hA2:DataW.TrodAll enc Tryz.prog W 0 (fun _=>true) true [22] [v0] [d0] (p0++[]):=hA1
  have hgl:=WV hV
  obtain ⟨y0,y1,y2,rfl⟩:∃ y0 y1 y2,gs=[y0,y1,y2]:=by
    match gs,hgl with
    | [y0,y1,y2],_=>exact ⟨y0,y1,y2,rfl⟩
  obtain ⟨fu0,hf0⟩:=h0
  obtain ⟨a0,k0,c0⟩:=(Reader.slice Tryz.underlying22 (Reader.u8 Tryz.underlying5) 1 (by kernel_rfl) (by decide) (fun _=>rfl)) enc W fu0 _ _ hf0
  obtain ⟨s0,l0,m0,rfl⟩:=okWide_slice Tryz.underlying22 (hval 0 22 v0 rfl rfl)
  have htab:=tables hL
  have WW:=htab.1
  have WX:=htab.2.1
  have WY:=htab.2.2
  have hlt:∀ b,(fun b=>WZ (p0++[]) b∨b=1∨b=2∨b=0) b→b < W.heap.size:=by
    intro b hb
    rcases hb with ⟨m,hm,rfl⟩ | rfl | rfl | rfl
    · exact DataW.TrodAll.lt hA1 m (by simpa using hm)
    · exact MU (show Tryz.prog.globalNamed "loop.example/g01543/impl.keywords" =some 1 by kernel_rfl) WW
    · exact MU (show Tryz.prog.globalNamed "loop.example/g01543/impl.signs" =some 2 by kernel_rfl) WX
    · exact MU (show Tryz.prog.globalNamed "loop.example/g01543/impl.builtins" =some 0 by kernel_rfl) WY
  obtain ⟨N,hN⟩:=plain a0 k0
  refine (AC.afv (afw N a0 hN) (fun b=>WZ (p0++[]) b∨b=1∨b=2∨b=0) hlt (afr WW WX WY (.inr (.inl rfl)) (.inr (.inr (.inl rfl))) (.inr (.inr (.inr rfl)))) rfl fun i x hx=>?_).mono ?_
  · match i with
    | 0=>
      simp only [List.getElem?_cons_succ,List.getElem?_cons_zero,Option.some.injEq] at hx
      subst hx
      exact afx rfl (c0 _ fun p hp=>(.inl ⟨p,by simp [hp],rfl⟩))
    | i+1=>simp at hx
  · rintro e W' ⟨x,S',rfl,hx,hb⟩
    have hxt:=hx.dW
    subst hxt
    exact ⟨_,rfl,Av.afy (pa:=(p0++[])) (pv:=q) hW' (fun _ _ _=>(trodAll_cons_mk (shut_bool Tryz.underlying4 _) trodAll_mk0))
      (fun sp hsp=>afz kids full hb (by decide+kernel) hA2 (fun m hm=>hsp m (by simp only [List.mem_append];exact .inl (by simpa using hm)))) (fun sp hsp=>Xa laidOut hb (by kernel_rfl) hV (fun m hm=>hsp m (by simp [hm]))) (by simp) hb (ok_one (by kernel_rfl) rfl (okWide_bool_mk Tryz.underlying4 _))⟩
theorem over:Rows.fnMatchedRow.holds Tryz.pinned (OpenSpec.ofChange Rows.fnMatchedSpec):=
  OpenClaim.holds_of_wide 3 Tryz.f3 rfl rfl rfl rfl rfl rfl rfl ⟨rfl,rfl,rfl,rfl,rfl⟩ rfl rfl rfl rfl rfl (by kernel_rfl) Tryz.func3 (by kernel_rfl)
    (of_decide_eq_true (by kernel_rfl)) (by unfold Func.isWrapper;first | (rw [if_pos (by decide+kernel)];kernel_rfl) | (rw [if_neg (by decide+kernel)];exact ⟨rfl,rfl⟩))
    (fun os started H enc _=>lifted os started H enc)
theorem proved:Rows.FnMatchedCardSaid:=
  Claim7.holds_tied_plain_at .later [] [.widerDeep,.data,.widerDeep] true (true, "e929b7437f4f93070cb3a6c2870911d6a3c8d90ae8771bb3f604fd8b3c59fb7c") false
    over (fun _ h=>by cases h) (by kernel_rfl) (fun _ h=>by cases h) fnMatched_row_tie rfl ⟨rfl,rfl⟩ (by kernel_rfl) rfl
    (fun f fn hf hfn=>by
      obtain rfl:f=3:=Option.some.inj ((show Tryz.prog.funcNamed "loop.example/g01543/laws.FnMatched" =some 3 by kernel_rfl).symm.trans hf) |>.symm
      obtain rfl:fn=Tryz.f3:=(Option.some.inj (Tryz.func3.symm.trans hfn)).symm
      exact ⟨by kernel_rfl,fun j t ht=>by
        rw [Tryz.params3] at ht
        have hm:t∈[22]:=by simpa using Array.mem_of_getElem? ht
        have hall:([22].all fun u=>!Tryz.prog.wantsStandIn u)=true:=by kernel_rfl
        exact (show Tryz.prog.wantsStandIn t=false by simpa using List.all_eq_true.1 hall t hm)⟩)
    (by kernel_rfl)
#print axioms proved
end Go.Proofs.YtbpnoplcbkjiaaaGreatDoor.fnMatched
