/-
 Plain lemmas on the models, part 21.
-/
import Derived.Test.YtbpnoplcbkjiaaaGreatDoorMaHP20
namespace Go.Proofs.Tryz
open Go.Av
set_option maxRecDepth 100000
set_option linter.unusedSimpArgs false
set_option linter.unusedVariables false
theorem als (x:List UInt8):NQ x=some (decide ((x.length:Int) > 1048576)):=rfl
theorem alu (N:Nat) (a:List ak) (h:fG N a=some true):bM N a=some true:=by
 unfold fG at h
 obtain ⟨y,h1,h2⟩:=Option.bind_eq_some_iff.1 h
 obtain ⟨r,h3,h4⟩:=Option.bind_eq_some_iff.1 h1
 cases r with
 | true=>exact h3
 | false=>
  rw [cond_false] at h4
  cases h4
  cases h2
theorem alv (N:Nat) (hN:1073741825+10000 < N) {tp tx:aj} (hp:aB tp≤7) (hpx:bO tp) (hx:aB tx≤10000) (PD:bO tx):∃ r:List fA×Bool,Gf N (av 0 tp) (av 0 tx)=some r∧pG N (av 0 tp) (av 0 tx)=some r∧(r.2=true→∃ q,Gx N (av 0 tp) r.1=some q∧nO N q (av 0 tx)=some true)∧(r.2=false→r.1.length=0):=by
 have sp:=jf (t:=tp) (by omega) hpx 0
 have sx:=jf (t:=tx) (by omega) PD 0
 obtain ⟨r,r1,r2,_⟩:=ako N (av 0 tp) (av 0 tx) (by omega) sp sx
 refine ⟨r,r2,r1,?_⟩
 obtain ⟨c,c1,_,c3⟩:=Lc N (av 0 tp) (by omega) sp
 obtain ⟨d,d1,_,d3⟩:=Lc N (av 0 tx) (by omega) sx
 have hno:c=false∨d=false→r=([],false):=fun h=>by
  unfold pG at r1
  rw [c1,d1] at r1
  rcases h with h | h
  ·rw [h] at r1
   exact (Option.some.inj r1).symm
  ·rw [h] at r1
   cases c
   ·exact (Option.some.inj r1).symm
   ·exact (Option.some.inj r1).symm
 by_cases hcd:c=true∧d=true
 ·obtain ⟨rfl,rfl⟩:=hcd
  have hs2:=(fT (d3 rfl).1).2.1
  rw [bD] at hs2
  obtain ⟨r',q1,q2⟩:=QD N (by omega) (tp:=tp) (u:=tx) (by omega) hs2 PD c1 d1
  rw [r1] at q1
  cases q1
  cases hm:fQ tp tx [] with
  | none=>
   rw [hm] at q2
   have q2:r=([],false):=q2
   subst q2
   exact ⟨fun h=>(by cases h),fun _=>rfl⟩
  | some g=>
   rw [hm] at q2
   obtain ⟨rfl,g1,g2⟩:=q2
   have hb:=abx hm
   refine ⟨fun _=>⟨av 0 tx,?_,?_⟩,fun h=>(by cases h)⟩
   ·have:=akH N (av 0 tp) g tp hN sp c1 (jF tp) (fun f hf=>by
     obtain ⟨_,⟨s,k,hk⟩,_⟩:=g1 f hf
     have a1:=hk.part.2.1
     have a2:=hk.lt
     rw [bD] at a2
     exact ⟨by omega,vP sx hk⟩) (by omega) (by rw [hb];exact alu N _ d1) (by rw [hb];exact hs2)
    rw [hb] at this
    exact this
   ·rw [Ua N _ _ (by omega) (by rw [bD];omega) (fun x hx=>(sx x hx).2.2)]
    simp
 ·have:r=([],false):=hno (by
   cases c
   ·exact .inl rfl
   ·cases d
    ·exact .inr rfl
    ·exact absurd ⟨rfl,rfl⟩ hcd)
  subst this
  exact ⟨fun h=>(by cases h),fun _=>rfl⟩
theorem alx (N:Nat) (hN:1048577+3000 < N) {tl tq:aj} (hl:aB tl≤10000) (hlx:bO tl) (hq:aB tq≤7) (rF:bO tq):∃ f,oO N (av 0 tl) (av 0 tq)=some f∧Dc N (av 0 tl) (av 0 tq)=some f∧f.length≤1048576∧(∀ x,x∈f→bM N (av 0 tl)=some true∧fG N (av 0 tq)=some true∧Found (av 0 tl) tq x)∧(f=[]→bM N (av 0 tl)=some true→fG N (av 0 tq)=some true→∀ (u:aj) (s i:Nat),TA (av 0 tl) u s i→fQ tq u []=none)∧f.length≤10000:=by
 have sl:=jf (t:=tl) (by omega) hlx 0
 have sq:=jf (t:=tq) (by omega) rF 0
 obtain ⟨f,f1,f2,f3⟩:=akq N (av 0 tl) (av 0 tq) hN sl sq
 obtain ⟨b,b1,_,b3⟩:=qI N (av 0 tl) (by omega) sl
 obtain ⟨c,c1,_,c3⟩:=Lc N (av 0 tq) (by omega) sq
 have hpq:=fZ tq
 refine ⟨f,f1,f2,f3,?_⟩
 by_cases hcd:b=true∧c=true
 ·obtain ⟨rfl,rfl⟩:=hcd
  obtain ⟨g,g1,g2,g3,g4⟩:=WS N hN (av 0 tl) sl (b3 rfl).1 (jF tq) (by rw [bD];omega) (by omega) N 0 [] (by rw [bD];omega) (by omega) (by simp) (fun x hx=>by cases hx)
  have:oO N (av 0 tl) (av 0 tq)=om N N (av 0 tl,av 0 tq,0,[]):=by
   unfold oO
   rw [b1,c1];rfl
  rw [this] at f1
  have e:f=g:=Option.some.inj (f1.symm.trans g1)
  subst e
  rw [bD] at g2
  exact ⟨fun x hx=>⟨b1,c1,g3 x hx⟩,fun h _ _ u s i hu=>(g4 h).2 i u s (by omega) hu,by omega⟩
 ·have e:f=[]:=by
   unfold oO at f1
   rw [b1,c1] at f1
   cases b
   ·exact (Option.some.inj f1).symm
   ·cases c
    ·exact (Option.some.inj f1).symm
    ·exact absurd ⟨rfl,rfl⟩ hcd
  subst e
  refine ⟨fun x hx=>(by cases hx),fun _ h1 h2=>?_,by simp⟩
  rw [b1] at h1
  rw [c1] at h2
  exact absurd ⟨Option.some.inj h1,Option.some.inj h2⟩ hcd
theorem step_ok (N:Nat) (hN:1048577+3000 < N) {tl tq:aj} (hl:aB tl≤10000) (hlx:bO tl) (hq:aB tq≤7) (rF:bO tq) {x:Int} (h1:bM N (av 0 tl)=some true) (h2:fG N (av 0 tq)=some true) (h3:Found (av 0 tl) tq x):∃ P h,GA N (av 0 tl) x=some P∧pG N (av 0 tq) P=some (h,true):=by
 have sl:=jf (t:=tl) (by omega) hlx 0
 have sq:=jf (t:=tq) (by omega) rF 0
 obtain ⟨b,b1,_,b3⟩:=qI N (av 0 tl) (by omega) sl
 rw [h1] at b1
 cases b1
 have hsh:=(b3 rfl).1
 obtain ⟨c,c1,_,c3⟩:=Lc N (av 0 tq) (by omega) sq
 rw [h2] at c1
 cases c1
 have hE:=(c3 rfl).2 tq (jF tq)
 obtain ⟨j,u,s,g,rfl,hu,hm⟩:=h3
 obtain ⟨p1,p2,p3⟩:=WM N (av 0 tl) (by omega) sl h1 hsh (jF tl) hu
 have hk:=WR hm hE
 have hex:=WQ N u p2 p1 hk
 obtain ⟨r,r1,r2⟩:=QD N hN (tp:=tq) (u:=u) (by omega) p2 p3 h2 hex
 rw [hm] at r2
 obtain ⟨rfl,_⟩:=r2
 have hj:=hu.lt
 have hll:=bD tl 0
 refine ⟨av 0 u,_,?_,r1⟩
 unfold GA
 have hw:IntKind.wrap .i64 (((av 0 tl).length:Int) - 1)=(((av 0 tl).length:Int) - 1):=wrap64 (by omega) (by omega)
 have hin:gW (j:Int) 0 (((av 0 tl).length:Int) - 1)=some true:=by
  unfold gW
  have a1:decide ((j:Int)≥0)=true:=by simp
  have a2:decide ((j:Int)≤((av 0 tl).length:Int) - 1)=true:=by simp;omega
  simp [a1,a2]<;>omega
 rw [WK N _ h1,hw,hin,abe N (av 0 tl) (by omega) sl hsh hu]
 rfl
theorem aly (N:Nat) (l q r:List ak) (y z:List ak×Bool) (f:List Int) (hf:f.length≤100000) (hstep:∀ x,x∈f→∃ P h,GA N l x=some P∧pG N q P=some (h,true)) (hy:nO N y.1 l=some true) (hz:z.2=false→nO N z.1 l=some true) (hz0:f=[]→nO N z.1 l=some true) (hfa:oO N l q=some f) (hsi:qG N f f=some true) (w:Bool) (ht:bM N l=some w) (hi:kZ N z.1=some w):∀ (n i:Nat),f.length - i < n→i≤f.length→zZ N n ((l,q,r),y,z,z,f,(i:Int))=some true:=by
 intro n
 induction n with
 | zero=>intro i h;omega
 | succ n ih=>
  intro i hn hi'
  rw [zZ]
  by_cases hlt:i < f.length
  ·obtain ⟨P,h,h1,h2⟩:=hstep f[i] (List.getElem_mem hlt)
   simp only [bN hlt,cond_true,aP hlt,au,h1,h2,Bool.not_true,cond_false]
   rw [wrap64 (by omega) (by omega),show (i:Int)+1=((i+1:Nat):Int) by omega]
   exact ih (i+1) (by omega) (by omega)
  ·simp only [bT hlt,cond_false,hy,hfa,hsi,ht,hi,au,cond_true,beq_self_eq_true]
   obtain ⟨z1,z2⟩:=z
   cases z2 with
   | false=>
    have hz:=hz rfl
    simp only at hz
    cases y.2<;>by_cases h0:(f.length:Int) > 0<;>simp [hz,h0]
   | true=>
    by_cases h0:f=[]
    ·have hz0:=hz0 h0
     simp only at hz0
     cases y.2<;>simp [hz0,h0]
    ·have:=List.length_pos_iff.2 h0
     cases y.2<;>simp [this]
theorem alz (N:Nat) (hN:1048577+10000 < N) {tl tq tr:aj} (hl:aB tl≤10000) (hlx:bO tl) (hq:aB tq≤7) (rF:bO tq) (hqk:allT vS tq) (hr:aB tr≤7) (hrx:bO tr) (qH:allT vS tr):∃ y z f,zV N (av 0 tl) (av 0 tq) (av 0 tq)=some y∧zV N (av 0 tl) (av 0 tq) (av 0 tr)=some z∧rE N (av 0 tl) (av 0 tq) (av 0 tr)=some z∧Dc N (av 0 tl) (av 0 tq)=some f∧zZ N N ((av 0 tl,av 0 tq,av 0 tr),y,z,z,f,0)=some true:=by
 have sl:=jf (t:=tl) (by omega) hlx 0
 have sq:=jf (t:=tq) (by omega) rF 0
 have sr:=jf (t:=tr) (by omega) hrx 0
 have hll:=bD tl 0
 obtain ⟨⟨y,yb⟩,y1,y2,_⟩:=abq N (av 0 tl) (av 0 tq) (av 0 tq) hN (by omega) sl (En tl (by omega)) sq sq
 obtain ⟨⟨z,zb⟩,z1,z2,_,z4⟩:=abq N (av 0 tl) (av 0 tq) (av 0 tr) hN (by omega) sl (En tl (by omega)) sq sr
 obtain ⟨f,f1,f2,f3,f4,f5,f6⟩:=alx N (by omega) hl hlx hq rF
 refine ⟨_,_,f,y2,z2,z1,f2,?_⟩
 have hc:=Ig N (av 0 tl) (by omega) (by omega) sl (En tl (by omega))
 have ey:=QH N hN hl hlx hq rF hq rF hqk y1 fun _ _ u s i hu=>.inr ⟨rfl,rfl⟩
 have hp:=MS N _ _ _ z zb hc z1
 have same:∀ a:List ak,a=av 0 tl→nO N a (av 0 tl)=some true:=fun a e=>by
  rw [e,Ua N _ _ (by omega) (by omega) (fun x hx=>(sl x hx).2.2)];simp
 obtain ⟨w,w1,w2,_⟩:=qI N (av 0 tl) (by omega) sl
 obtain ⟨v,v1,v2,_⟩:=qI N z (by omega) z4
 have hi:kZ N z=some w:=by
  cases zb with
  | false=>rw [hp.1 rfl];exact w2
  | true=>
   obtain ⟨k1,k2,_⟩:=hp.2 rfl
   rw [k1] at w1
   rw [k2] at v1
   cases w1
   cases v1
   exact v2
 exact aly N _ _ _ (y,yb) (z,zb) f (by omega) (fun x hx=>by
  obtain ⟨a1,a2,a3⟩:=f4 x hx
  exact step_ok N (by omega) hl hlx hq rF a1 a2 a3) (same y ey) (fun h=>same z (hp.1 h)) (fun h=>same z (QH N hN hl hlx hq rF hr hrx qH z1 fun a1 a2 u s i hu=>.inl (f5 h a1 a2 u s i hu))) f1 (WT N f (by omega) (by omega)) w w1 hi N 0 (by omega) (by omega)
theorem plain (b:List UInt8) (kb:(∀ z,z∈b→True)∧b.length≤maxLen):∃ N,OY N b=some true:=by
 refine ⟨18446744073709551657+3000000,?_⟩
 obtain ⟨N,hN⟩:∃ N,N=18446744073709551657+3000000:=⟨_,rfl⟩
 rw [← hN]
 unfold OY
 rw [als,au]
 by_cases hb:b.length≤1048576
 ·have hd:decide ((b.length:Int) > 1048576)=false:=by simp;omega
  rw [hd,cond_false]
  obtain ⟨p,x,e1,⟨tp,rfl,hp,hpk⟩,⟨tx,rfl,hx,PD⟩⟩:=akR b hb N (by omega)
  obtain ⟨l,q,r,e2,⟨tl,rfl,hl,hlx⟩,⟨tq,rfl,hq,hqk⟩,⟨tr,rfl,hr,qH⟩⟩:=akS b hb N (by omega)
  obtain ⟨⟨h,m⟩,m1,m2,m3,m4⟩:=alv N (by omega) hp.1 (Dp hp) hx PD
  obtain ⟨y,z,f,k1,k2,k3,k4,k5⟩:=alz N (by omega) hl hlx hq.1 (Dp hq) hqk hr.1 (Dp hr) qH
  rw [e1,au]
  simp only [m1,m2,au,beq_self_eq_true,Bool.not_true,cond_false]
  cases m with
  | true=>
   obtain ⟨q',n1,n2⟩:=m3 rfl
   simp only at n1
   simp only [n1,n2,e2,k1,k2,k3,k4,au,Bool.not_true,cond_false,cond_true]
   exact k5
  | false=>
   have m4:h.length=0:=m4 rfl
   have n0:(((h.length:Nat):Int) !=0)=false:=by rw [m4];rfl
   simp only [n0,e2,k1,k2,k3,k4,au,Bool.not_false,cond_false,cond_true]
   exact k5
 ·have hd:decide ((b.length:Int) > 1048576)=true:=by simp;omega
  rw [hd]
  rfl
end Go.Proofs.Tryz
