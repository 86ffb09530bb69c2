/-
 Plain lemmas on the models, part 17.
-/
import Derived.Test.YtbpnoplcbkjiaaaGreatDoorMaHP16
namespace Go.Proofs.Tryz
open Go.Av
set_option maxRecDepth 100000
set_option linter.unusedSimpArgs false
set_option linter.unusedVariables false
theorem Ic {p:List ak} {tp:aj} (htp:TA p tp 0 (p.length - 1)) (hp1:1≤p.length) (hpz:aB tp≤400) (l:List ak) (hs:∀ z,z∈l→bZ z) (hsh:fM l=true) {u:aj} {su j:Nat} (hu:TA l u su j) (N:Nat) (hN:1048577+3000 < N):
  ∃ h b,mo N p (IntKind.wrap .i64 ((p.length:Int) - 1)) l (j:Int) []=some (h,b)∧(match fQ tp u [] with
   | some g=>h=HF g∧b=true∧GInv l g∧g.length≤400
   | none=>b=false):=by
 have hpl:=htp.part.2.1
 have huz:aB u≤400:=by
  have h1:=hu.part.2.1
  have h2:=hu.lt
  have:=(fT hsh).2.1
  omega
 rw [wrap64 (by omega) (by omega),show (p.length:Int) - 1=((p.length - 1:Nat):Int) by omega]
 obtain ⟨g',b,h,e1,e2,e3⟩:=Ph p l hs hsh tp u 0 (p.length - 1) su j N [] htp hu (fun f hf=>by cases hf) (by simp;omega) (by omega) hpz
 obtain ⟨⟨g'',b',f1,f2⟩,_⟩:=aki tp u N [] ⟨by simp,fun f hf=>by cases hf⟩ (by simp;omega) (by omega) huz hpz
 rw [e1] at f1
 cases f1
 refine ⟨h,b,e2,?_⟩
 cases hm:fQ tp u [] with
 | none=>rw [hm] at f2;exact f2
 | some g=>
  rw [hm] at f2
  obtain ⟨rfl,rfl⟩:=f2
  obtain ⟨r1,r2,r3⟩:=e3 rfl
  exact ⟨r1,rfl,r2,by simp at r3;omega⟩
theorem abL {p r:List ak} {tp tr:aj} (hpr:AO p r tp tr) (hsr:∀ x,x∈r→bZ x) (a:List ak) (t:aj) (M i:Nat) (e:ak) (he:a[i]?=some e) (hM:1048577+5000 < M) {s:Nat} (hT:TA a t s i) (hsz:aB t≤400) (htx:bO t)
  (H:fQ tp t []=none∨(r=p∧tr=tp)):∀ (ts ds:List aj) (j n s':Nat),ds++ts=t.kids→ds.length=j→KA a ts (e.Kids.drop j) s' i→ts.length < n→(∀ k,k∈ts→∀ s k',TA a k s k'→(rZ M).lM a (k':Int) p r=some (av 0 k))→
  qw M (rZ M) n (a,(i:Int),p,r,((1+aD ds:Nat):Int),(j:Int),ds.map (av 0))=some (av 0 t)
 | [],ds,j,n,s',hd,hj,hka,hn,ih=>by
  obtain ⟨n,rfl⟩:∃ m,n=m+1:=⟨n - 1,by simp at hn;omega⟩
  rw [KA] at hka
  have hlt: ¬j < e.Kids.length:=by
   intro h
   rw [drop_cons h] at hka
   cases hka.1
  rw [List.append_nil] at hd
  subst hd
  obtain ⟨n0,hn0,e1,e2,e3,e4,_,hkl⟩:=hT.node
  rw [he] at hn0
  cases hn0
  have hsz2:=kK t
  have hpz:=fZ t
  have hmk:iw M e (t.kids.map (av 0))=some (av 0 t):=by
   rw [Ab M e t.kids (by omega) (by omega),← e1,← e2,← e3,← e4,Uh]
  have hsm:=jf (t:=t) (by omega) htx 0
  have hp:=hpr.htp.part.2.1
  have hself:=jF t
  obtain ⟨h,b,a1,a2⟩:=Ic hpr.htp hpr.p1 (by have:=hpr.p2;have:=hpr.p1;omega) (av 0 t) hsm (AL t hsz) hself M (by omega)
  have hw:IntKind.wrap .i64 (((av 0 t).length:Int) - 1)=(((av 0 t).length - 1:Nat):Int):=by
   rw [bD,wrap64 (by omega) (by omega)];omega
  rw [qw]
  simp only [je he,au,bT hlt,cond_false,hmk,hw,a1]
  have hle:decide (((av 0 t).length:Int) > 400)=false:=by rw [bD];simp;omega
  cases hm:fQ tp t [] with
  | none=>
   rw [hm] at a2
   have a2:b=false:=a2
   subst a2
   rw [cond_false]
   unfold Gz
   dsimp only
   rw [hle,cond_false]
  | some g=>
   rw [hm] at a2
   obtain ⟨rfl,rfl,a3,a4⟩:=a2
   rcases H with H | ⟨rfl,rfl⟩
   ·rw [hm] at H;cases H
   ·rw [cond_true]
    have hg:∀ f,f∈g→aB f.tree≤400∧bO f.tree:=fun f hf=>by
     obtain ⟨_,⟨s1,k1,hk1⟩,_⟩:=a3 f hf
     have h1:=hk1.part.2.1
     have h2:=hk1.lt
     rw [bD] at h2
     exact ⟨by omega,vP hsm hk1⟩
    have AZ:=Ue r g (by omega) hg hpr.nk tr 0 (r.length - 1) M hpr.htp (by have:=hpr.p2;have:=hpr.p1;omega) (by have:=hpr.p2;have:=hpr.p1;omega)
    have hwr:IntKind.wrap .i64 ((r.length:Int) - 1)=((r.length - 1:Nat):Int):=by
     have:=hpr.p2;have:=hpr.p1
     rw [wrap64 (by omega) (by omega)];omega
    have akM:lW M r (IntKind.wrap .i64 ((r.length:Int) - 1)) (HF g)=some (av 0 t):=by
     rw [hwr,← abx hm]
     exact AZ
    rw [akM,au]
    unfold Gz
    dsimp only
    rw [hle,cond_false]
 | k::ts,ds,j,n,s',hd,hj,hka,hn,ih=>by
  simp only [List.length_cons] at hn
  obtain ⟨n,rfl⟩:∃ m,n=m+1:=⟨n - 1,by omega⟩
  rw [KA] at hka
  obtain ⟨kk,ks',hd1,g1,g2,g3,g4⟩:=hka
  have hlt:j < e.Kids.length:=by
   cases Nat.lt_or_ge j e.Kids.length with
   | inl h=>exact h
   | inr h=>rw [List.drop_of_length_le h] at hd1;cases hd1
  rw [drop_cons hlt] at hd1
  injection hd1 with hd2 hd3
  have hsz2:=kK t
  have hsum:aD ds+(aB k+aD ts)=aD t.kids:=by rw [← hd,xC,aD]
  have hpk:=fZ k
  have hkl:=jO t.kids
  have hdl:ds.length≤t.kids.length:=by rw [← hd];simp
  rw [qw]
  simp only [je he,au,bN hlt,cond_true,aP hlt,hd2,ih k (by simp) s' kk g3,bD]
  have c0:((aB k:Int)==0)=false:=by simp;omega
  have hw:IntKind.wrap .i64 (((1+aD ds:Nat):Int)+(aB k:Int))=((1+aD (ds++[k]):Nat):Int):=by
   rw [wrap64 (by omega) (by omega),xC,aD,aD];omega
  have c1:decide (((1+aD (ds++[k]):Nat):Int) > 400)=false:=by
   rw [xC,aD,aD];simp;omega
  rw [c0,cond_false,hw,c1]
  simp only [au,cond_false]
  rw [gq (by simp;omega),au,wrap64 (by omega) (by omega),show (j:Int)+1=((j+1:Nat):Int) by omega]
  have:=abL hpr hsr a t M i e he hM hT hsz htx H ts (ds++[k]) (j+1) n (kk+1) (by rw [← hd];simp) (by simp [hj]) (by rw [hd3];exact g4) (by omega) fun k' hk'=>ih k' (by simp [hk'])
  rw [List.map_append] at this
  exact this
theorem WU {p r:List ak} {tp tr:aj} (hpr:AO p r tp tr) (hsr:∀ x,x∈r→bZ x) (a:List ak) (hs:∀ z,z∈a→bZ z) (H:∀ (u:aj) (s i:Nat),TA a u s i→fQ tp u []=none∨(r=p∧tr=tp)):∀ (t:aj) (s i N:Nat),TA a t s i→aB t≤400→1048577+6000+2*aB t≤N→
  (rZ N).lM a (i:Int) p r=some (av 0 t):=by
 intro t
 induction t using aj.ind with
 | h t ih=>
  intro s i N hT hsz hN
  obtain ⟨M,rfl⟩:∃ m,N=m+1:=⟨N - 1,by omega⟩
  obtain ⟨n,hn,e1,e2,e3,e4,hka,hkl⟩:=hT.node
  have hsz2:=kK t
  have aun:=jO t.kids
  show Da M (rZ M) a (i:Int) p r=_
  unfold Da
  have:=abL hpr hsr a t M i n hn (by omega) hT hsz (vP hs hT) (H t s i hT) t.kids [] 0 M s rfl rfl (by simpa using hka) (by omega) fun k hk s' k' hk'=>by
   have:=jP hk
   exact ih k hk s' k' M hk' (by omega) (by omega)
  exact this
end Go.Proofs.Tryz
