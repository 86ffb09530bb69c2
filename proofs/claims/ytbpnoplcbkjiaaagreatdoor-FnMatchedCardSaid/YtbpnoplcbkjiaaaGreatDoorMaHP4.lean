/-
 Plain lemmas on the models, part 4.
-/
import Derived.Test.YtbpnoplcbkjiaaaGreatDoorMaHP3
namespace Go.Proofs.Tryz
open Go.Av
set_option maxRecDepth 100000
set_option linter.unusedSimpArgs false
set_option linter.unusedVariables false
mutual
def Ae (b:Nat):aj→List Int
 | ⟨_,_,_,_,ks⟩=>jR b ks++[(b:Int)]
def jR (b:Nat):List aj→List Int
 | []=>[]
 | t::ts=>Ae b t++jR (b+aB t) ts
end
mutual
theorem UE:∀ (t:aj) (b:Nat),(Ae b t).length=aB t
 | ⟨_,_,_,_,ks⟩,b=>by rw [Ae,aB,List.length_append,Dw ks b];rfl
theorem Dw:∀ (ts:List aj) (b:Nat),(jR b ts).length=aD ts
 | [],b=>by rw [jR,aD];rfl
 | t::ts,b=>by rw [jR,aD,List.length_append,UE t b,Dw ts _]
end
theorem acB (t:aj) (b:Nat):(Ae b t)[aB t - 1]?=some (b:Int):=by
 obtain ⟨k,o,x,y,ks⟩:=t
 rw [Ae,aB,Nat.add_sub_cancel,List.getElem?_append_right (by rw [Dw];omega),Dw,Nat.sub_self]
 rfl
theorem acC:∀ (a c:List aj) (b:Nat),jR b (a++c)=jR b a++jR (b+aD a) c
 | [],c,b=>by simp [jR,aD]
 | t::a,c,b=>by rw [List.cons_append,jR,jR,aD,acC a c,List.append_assoc,Nat.add_assoc]
theorem alW (b:Nat) (ts:List aj):∀ (m:Nat) (xG GR:List aj),xG.length=m→xG++GR=ts→∀ out:List Int,(∀ i,i < aD ts→out[b+i]?=(jR b ts)[i]?)→walk out ((b+aD xG:Nat):Int) (dI b xG).reverse=some (b:Int):=by
 intro m
 induction m with
 | zero=>
  intro xG GR hl _ out _
  have:xG=[]:=List.length_eq_zero_iff.1 hl
  subst this
  simp [dI,walk,aD]
 | succ m ih=>
  intro xG GR hl he out ho
  obtain ⟨u,t,rfl⟩:∃ u t,xG=u++[t]:=by
   rcases List.eq_nil_or_concat xG with rfl | ⟨u,t,rfl⟩
   ·cases hl
   ·exact ⟨u,t,by simp⟩
  have hp:=fZ t
  have hsz:aD (u++[t])=aD u+aB t:=by rw [xC,aD,aD];omega
  rw [UA,List.reverse_append,dI,dI,List.reverse_cons,List.reverse_nil,List.nil_append,List.singleton_append,walk,hsz]
  have hne: ¬(((b+(aD u+aB t):Nat):Int)=0∨(((b+aD u+aB t:Nat):Int) - 1)≠((b+(aD u+aB t):Nat):Int) - 1):=by omega
  rw [if_neg hne]
  have htot:aD ts=aD u+(aB t+aD GR):=by rw [← he,xC,hsz];omega
  have hi:(((b+(aD u+aB t):Nat):Int) - 1).toNat=b+(aD u+(aB t - 1)):=by omega
  rw [hi,ho _ (by omega)]
  have hst:jR b ts=jR b u++(Ae (b+aD u) t++jR (b+aD u+aB t) GR):=by
   rw [← he,List.append_assoc,List.singleton_append,acC,jR]
  rw [hst,List.getElem?_append_right (by rw [Dw];omega),Dw,Nat.add_sub_cancel_left,List.getElem?_append_left (by rw [UE];omega),acB]
  exact ih u (t::GR) (by simpa using hl) (by rw [← he];simp) out ho
mutual
theorem acD:∀ (t:aj) (b:Nat) (rest:List (List Int)) (out:List Int),out.length=b→starts (gF (av b t)++rest) out=starts rest (out++Ae b t)
 | ⟨k,o,x,y,ks⟩,b,rest,out,hb=>by
  have h1:=acE ks b ([dI b ks]++rest) out hb
  have hl:(out++jR b ks).length=b+aD ks:=by rw [List.length_append,Dw,hb]
  rw [av,Ae]
  have e:gF (bK b ks++[(⟨k,o,x,y,dI b ks⟩:ak)])++rest=gF (bK b ks)++([dI b ks]++rest):=by
   unfold gF
   rw [List.map_append,List.append_assoc]
   rfl
  rw [e,h1,List.singleton_append,starts,hl]
  have:=alW b ks ks.length ks [] rfl (by simp) (out++jR b ks) (fun i hi=>by rw [List.getElem?_append_right (by omega),hb,Nat.add_sub_cancel_left])
  rw [this,au,List.append_assoc]
theorem acE:∀ (ts:List aj) (b:Nat) (rest:List (List Int)) (out:List Int),out.length=b→starts (gF (bK b ts)++rest) out=starts rest (out++jR b ts)
 | [],b,rest,out,hb=>by
  rw [bK,jR,List.append_nil]
  rfl
 | t::ts,b,rest,out,hb=>by
  rw [bK,jR]
  have e:gF (av b t++bK (b+aB t) ts)++rest=gF (av b t)++(gF (bK (b+aB t) ts)++rest):=by
   unfold gF
   rw [List.map_append,List.append_assoc]
  rw [e,acD t b _ out hb,acE ts (b+aB t) rest _ (by rw [List.length_append,UE,hb]),List.append_assoc]
end
theorem AL (t:aj) (h:aB t≤400):fM (av 0 t)=true:=by
 have hp:=fZ t
 have hs:=acD t 0 [] [] rfl
 rw [List.append_nil,List.nil_append] at hs
 unfold fM
 rw [hs,bD]
 simp only [starts,GK,acB,Bool.and_eq_true,decide_eq_true_eq]
 exact ⟨⟨hp,h⟩,by simp⟩
def PR (a:List ak) (b:Nat) (l:List ak):Prop:=∀ (i:Nat) (x:ak),l[i]?=some x→a[b+i]?=some x
theorem PR.left {a l1 l2:List ak} {b:Nat} (h:PR a b (l1++l2)):PR a b l1:=fun i x hx=>h i x (by rw [List.getElem?_append_left (List.getElem?_eq_some_iff.1 hx).1];exact hx)
theorem PR.right {a l1 l2:List ak} {b:Nat} (h:PR a b (l1++l2)):PR a (b+l1.length) l2:=fun i x hx=>by
 have:=h (l1.length+i) x (by rw [List.getElem?_append_right (by omega),Nat.add_sub_cancel_left];exact hx)
 rw [Nat.add_assoc]
 exact this
mutual
theorem acF {a:List ak}:∀ (t:aj) (b:Nat),PR a b (av b t)→TA a t b (b+aB t - 1)
 | ⟨k,o,x,y,ks⟩,b,h=>by
  rw [av] at h
  have h1:=acG ks b h.left
  have h2:=h.right 0 _ rfl
  rw [Dv,Nat.add_zero] at h2
  rw [aB,show b+(aD ks+1) - 1=b+aD ks by omega,TA]
  exact ⟨_,h2,rfl,rfl,rfl,rfl,h1⟩
theorem acG {a:List ak}:∀ (ts:List aj) (b:Nat),PR a b (bK b ts)→KA a ts (dI b ts) b (b+aD ts)
 | [],b,h=>by
  rw [KA,dI,aD]
  exact ⟨rfl,rfl⟩
 | t::ts,b,h=>by
  rw [bK] at h
  have hp:=fZ t
  have h1:=acF t b h.left
  have h2:=acG ts (b+aB t) (by have:=h.right;rw [bD] at this;exact this)
  rw [KA,dI,aD]
  refine ⟨b+aB t - 1,dI (b+aB t) ts,?_,by omega,by omega,h1,?_⟩
  ·congr 1
   omega
  ·rw [show b+aB t - 1+1=b+aB t by omega,← Nat.add_assoc]
   exact h2
end
theorem jF (t:aj):TA (av 0 t) t 0 ((av 0 t).length - 1):=by
 have:=acF (a:=av 0 t) t 0 (fun i x hx=>by rw [Nat.zero_add];exact hx)
 rw [Nat.zero_add] at this
 rw [bD]
 exact this
theorem alX (N:Nat) (x:ak) (h:qm N x=some true) (hk:x.Kind=1):x.Kids=[]:=by
 unfold qm at h
 have hm:vv x=some (0,0):=by
  simp only [vv,zF,wZ,ql,vo,zD,zC,hk,Int.reduceBEq,cond_false]
 rw [hm,au] at h
 obtain ⟨y6,_,h⟩:=Option.bind_eq_some_iff.1 h
 obtain ⟨y13,h,h'⟩:=Option.bind_eq_some_iff.1 h
 cases h'
 cases y6 with
 | false=>cases h
 | true=>
  rw [cond_true] at h
  obtain ⟨bV,_,h⟩:=Option.bind_eq_some_iff.1 h
  cases bV with
  | false=>cases h
  | true=>
   rw [cond_true] at h
   obtain ⟨kD,_,h⟩:=Option.bind_eq_some_iff.1 h
   cases kD with
   | false=>cases h
   | true=>
    rw [cond_true,Aa,au,Option.some.injEq,Bool.and_eq_true,decide_eq_true_eq,decide_eq_true_eq] at h
    exact List.length_eq_zero_iff.1 (by omega)
theorem alY (N:Nat) (a:List ak) (kb:(List ak×Int)→Option Bool) (i:Nat) (hi:i < a.length) (hi2:i≤100000) (hkl:a[i].Kids.length≤100000):∀ (m j:Nat),a[i].Kids.length - j < m→j≤a[i].Kids.length→oN N kb m (a,(i:Int),(j:Int))=some true→kb (a,((i+1:Nat):Int))=some true:=by
 intro m
 induction m with
 | zero=>intro j h;omega
 | succ m Dq=>
  intro j hm hj hh
  rw [oN,aP hi,au] at hh
  by_cases hlt:j < a[i].Kids.length
  ·simp only [bN hlt,cond_true,aP hi,aP hlt,au] at hh
   obtain ⟨y1,_,hh⟩:=Option.bind_eq_some_iff.1 hh
   obtain ⟨y2,_,hh⟩:=Option.bind_eq_some_iff.1 hh
   cases y2 with
   | false=>cases hh
   | true=>
    simp only [Bool.not_true,cond_false] at hh
    rw [wrap64 (by omega) (by omega),show ((j:Int)+1)=((j+1:Nat):Int) by omega] at hh
    exact Dq (j+1) (by omega) (by omega) hh
  ·simp only [bT hlt,cond_false] at hh
   rw [wrap64 (by omega) (by omega)] at hh
   exact hh
theorem alZ (N:Nat) (a:List ak) (ha:a.length≤400) (hk:∀ x,x∈a→x.Kids.length≤400) (hN:500 < N):∀ (n i:Nat),a.length - i < n→i≤a.length→jy N n (a,(i:Int))=some true→∀ x,x∈a.drop i→qm N x=some true:=by
 intro n
 induction n with
 | zero=>intro i h;omega
 | succ n ih=>
  intro i hn hi h x hx
  rw [jy] at h
  by_cases hlt:i < a.length
  ·simp only [bN hlt,cond_true,aP hlt,au] at h
   obtain ⟨b,hb,h⟩:=Option.bind_eq_some_iff.1 h
   cases b with
   | false=>cases h
   | true=>
    simp only [Bool.not_true,cond_false] at h
    have hkl:=hk _ (List.getElem_mem hlt)
    have h1:=alY N a (jy N n) i hlt (by omega) (by omega) N 0 (by omega) (by omega) h
    rw [drop_cons hlt] at hx
    rcases List.mem_cons.1 hx with rfl | hx
    ·exact hb
    ·exact ih (i+1) (by omega) (by omega) h1 x hx
  ·rw [drop_nil hlt] at hx
   cases hx
theorem abt (N:Nat) (a:List ak) (hN:500 < N) (hsh:fM a=true) (h:bM N a=some true):∀ x,x∈a→x.Kind=1→x.Kids=[]:=by
 unfold bM at h
 obtain ⟨y,_,h⟩:=Option.bind_eq_some_iff.1 h
 cases y with
 | true=>cases h
 | false=>
  rw [cond_false] at h
  intro x hx hk
  have h2:=(fT hsh).2.1
  exact alX N x (alZ N a h2 (fun z hz=>(Lb hsh z hz).1) hN N 0 (by omega) (by omega) h x (by rw [List.drop_zero];exact hx)) hk
def Dr {α:Type} (b:List UInt8) (P:α→Prop) (x:Option (α×Int×Int)):Prop:=∃ a i h,x=some (a,i,h)∧P a∧0≤i∧i≤(b.length:Int)
theorem Dr.bind {α β:Type} {b:List UInt8} {P:α→Prop} {Q:β→Prop} {x:Option (α×Int×Int)} {f:α×Int×Int→Option (β×Int×Int)} (hx:Dr b P x) (hf:∀ a i h,P a→0≤i→i≤(b.length:Int)→Dr b Q (f (a,i,h))):Dr b Q (Option.bind x f):=by
 obtain ⟨a,i,h,rfl,h1,h2,h3⟩:=hx
 exact hf a i h h1 h2 h3
theorem Dr.some {α:Type} {b:List UInt8} {P:α→Prop} {a:α} {i h:Int} (ha:P a) (h0:0≤i) (h1:i≤(b.length:Int)):Dr b P (some (a,i,h)):=⟨a,i,h,rfl,ha,h0,h1⟩
theorem Dr.imp {α:Type} {b:List UInt8} {P Q:α→Prop} {x:Option (α×Int×Int)} (hx:Dr b P x) (h:∀ a,P a→Q a):Dr b Q x:=by
 obtain ⟨a,i,k,rfl,h1,h2,h3⟩:=hx
 exact ⟨a,i,k,rfl,h a h1,h2,h3⟩
theorem Dr.cond {α:Type} {b:List UInt8} {P:α→Prop} {c:Bool} {x y:Option (α×Int×Int)} (hx:c=true→Dr b P x) (hy:c=false→Dr b P y):Dr b P (bif c then x else y):=by
 cases c
 ·exact hy rfl
 ·exact hx rfl
theorem Dr.sG {α:Type} {b:List UInt8} {P:α→Prop} {x:Option (α×Int×Int)} (hx:Dr b P x):Dr b P (Option.bind x fun r=>Option.some (r.1,r.2.1,r.2.2)):=Dr.bind hx fun _ _ _ ha h0 h1=>Dr.some ha h0 h1
theorem PE (x:Int):0≤bits .and .i64 x 255∧bits .and .i64 x 255≤255:=by
 have e:bits .and .i64 x 255=IntKind.wrap .i64 (((BitVec.ofInt 64 x&&& BitVec.ofInt 64 255).toNat:Nat):Int):=rfl
 have h:(BitVec.ofInt 64 x&&& BitVec.ofInt 64 255).toNat≤255:=by
  rw [BitVec.toNat_and]
  exact Nat.and_le_right
 rw [e,wrap64 (by omega) (by omega)]
 omega
section
set_option linter.unusedSectionVars false
variable (b:List UInt8) (hb:b.length≤1048576)
include hb
theorem Lh (i h:Int) (h0:0≤i) (h1:i≤(b.length:Int)):Dr b (fun x=>0≤x∧x≤255) (tT b i h):=by
 unfold tT Fb
 refine Dr.cond (fun hc=>?_) fun hc=>?_
 ·have hc:=of_decide_eq_true hc
  obtain ⟨n,rfl⟩:=Int.eq_ofNat_of_zero_le h0
  have hn:n < b.length:=by omega
  rw [aP hn,au]
  exact Dr.some (PE _) (by rw [wrap64 (by omega) (by omega)];omega) (by rw [wrap64 (by omega) (by omega)];omega)
 ·exact Dr.some (PE _) h0 h1
theorem acH {P:Int→Prop} {x n i h:Int} (hx:0≤x) (hn:0 < n) (h0:0≤i) (h1:i≤(b.length:Int)) (hP:∀ r,0≤r→r < n→P r):Dr b P ((yG x n).bind fun y=>some (y,i,h)):=by
 unfold yG
 have:(n==0)=false:=by simp;omega
 rw [this,cond_false,au]
 exact Dr.some (hP _ (Int.tmod_nonneg _ hx) (Int.tmod_lt_of_pos _ hn)) h0 h1
theorem Lf (n i h:Int) (h0:0≤i) (h1:i≤(b.length:Int)):Dr b (fun r=>0≤r∧(r < n∨n≤0∧r=0)) (jK n b i h):=by
 unfold jK
 refine Dr.cond (fun hc=>?_) fun hc=>Dr.cond (fun hc2=>?_) fun hc2=>?_
 ·have hc:=of_decide_eq_true hc
  exact Dr.some ⟨by omega,.inr ⟨hc,rfl⟩⟩ h0 h1
 ·have hc:=of_decide_eq_false hc
  exact Dr.bind (Lh b hb i h h0 h1) fun x i h hx h0 h1=>acH b hb hx.1 (by omega) h0 h1 fun r g1 g2=>⟨g1,.inl g2⟩
 ·have hc:=of_decide_eq_false hc
  refine Dr.bind (Lh b hb i h h0 h1) fun x i h hx h0 h1=>Dr.bind (Lh b hb i h h0 h1) fun y i h hy h0 h1=>Dr.bind (Lh b hb i h h0 h1) fun z i h hz h0 h1=>Dr.bind (Lh b hb i h h0 h1) fun w i h hw h0 h1=>?_
  refine acH b hb ?_ (by omega) h0 h1 fun r g1 g2=>⟨g1,.inl g2⟩
  dsimp only
  rw [wrap64 (n:=x*16777216) (by omega) (by omega),wrap64 (n:=y*65536) (by omega) (by omega),wrap64 (n:=x*16777216+y*65536) (by omega) (by omega),wrap64 (n:=z*256) (by omega) (by omega),wrap64 (n:=x*16777216+y*65536+z*256) (by omega) (by omega),wrap64 (by omega) (by omega)]
  omega
theorem ama {P:List UInt8→Prop} (l:List (List UInt8)) (i h:Int) (h0:0≤i) (h1:i≤(b.length:Int)) (hl:0 < l.length) (hP:∀ x,x∈l→P x):Dr b P (pQ l b i h):=by
 unfold pQ
 refine Dr.bind (Lf b hb _ i h h0 h1) fun r i h hr h0 h1=>?_
 obtain ⟨n,rfl⟩:=Int.eq_ofNat_of_zero_le hr.1
 have hn:n < l.length:=by rcases hr.2 with h | h<;>omega
 dsimp only
 have e:ix l (n:Int)=some l[n]:=aP hn
 rw [e,au]
 exact Dr.some (hP _ (List.getElem_mem hn)) h0 h1
theorem Ld (n i h:Int) (h0:0≤i) (h1:i≤(b.length:Int)):Dr b (fun _=>True) (tV n b i h):=Dr.bind (Lf b hb _ i h h0 h1) fun _ _ _ _ h0 h1=>Dr.some trivial h0 h1
theorem abN {P:Int→Prop} (l:List Int) (i h:Int) (h0:0≤i) (h1:i≤(b.length:Int)) (hl:0 < l.length) (hP:∀ x,x∈l→P x):Dr b P (uR l b i h):=by
 unfold uR
 refine Dr.bind (Lf b hb _ i h h0 h1) fun r i h hr h0 h1=>?_
 obtain ⟨n,rfl⟩:=Int.eq_ofNat_of_zero_le hr.1
 have hn:n < l.length:=by rcases hr.2 with h | h<;>omega
 dsimp only
 have e:ix l (n:Int)=some l[n]:=aP hn
 rw [e,au]
 exact Dr.some (hP _ (List.getElem_mem hn)) h0 h1
theorem Uw (m:Nat) (l:List (List UInt8)) (i h:Int) (h0:0≤i) (h1:i≤(b.length:Int)) (hl:0 < l.length) (hP:(l.all fun x=>decide (x.length≤m))=true):Dr b (fun x=>x.length≤m) (pQ l b i h):=
 ama b hb l i h h0 h1 hl fun x hx=>of_decide_eq_true (List.all_eq_true.1 hP x hx)
theorem akQ (i h:Int) (h0:0≤i) (h1:i≤(b.length:Int)):Dr b (fun _=>True) (Fg b i h):=Dr.sG (abN b hb _ i h h0 h1 (by decide) fun _ _=>trivial)
def pw:Nat→Nat
 | 0=>1
 | n+1=>4*pw n
omit hb in
theorem UF:∀ n,1≤pw n
 | 0=>by rw [pw];omega
 | n+1=>by have:=UF n;rw [pw];omega
end
def PG:Int:=6364136223846793005
def UG:Int:=1442695040888963407
def lc (x:Int):Int:=x*PG+UG
def jk:Nat→Int→Int
 | 0,x=>x
 | n+1,x=>jk n (lc x)
theorem Li:∀ (m n:Nat) (x:Int),jk (m+n) x=jk n (jk m x)
 | 0,n,x=>by rw [Nat.zero_add];rfl
 | m+1,n,x=>by
  rw [show m+1+n=(m+n)+1 by omega]
  show jk (m+n) (lc x)=jk n (jk m (lc x))
  exact Li m n (lc x)
theorem acI (k:Nat):∃ p q u v:Int,(∀ x,jk (2 ^ k) x=p*x+q)∧p=1+2 ^ (k+2)*u∧q=2 ^ k*(1+2*v):=by
 induction k with
 | zero=>
  refine ⟨PG,UG,1591034055961698251,721347520444481703,fun x=>?_,by decide,by decide⟩
  show jk 1 x=_
  show x*PG+UG=_
  rw [Int.mul_comm]
 | succ k ih=>
  obtain ⟨p,q,u,v,h1,h2,h3⟩:=ih
  refine ⟨p*p,p*q+q,u+2 ^ (k+1)*u*u,v+2 ^ k*u*(1+2*v),fun x=>?_,?_,?_⟩
  ·rw [show (2:Nat) ^ (k+1)=2 ^ k+2 ^ k by rw [Nat.pow_succ];omega,Li,h1,h1,Int.mul_add,Int.mul_assoc,Int.add_assoc]
  ·have e2:(2:Int) ^ (k+1+2)=2*2 ^ (k+2):=by rw [show k+1+2=(k+2)+1 by omega,Int.pow_succ,Int.mul_comm]
   have e3:(2:Int) ^ (k+2)=2*2 ^ (k+1):=by rw [Int.pow_succ,Int.mul_comm]
   rw [h2,e2]
   generalize (2:Int) ^ (k+2)=t at e3 ⊢
   generalize (2:Int) ^ (k+1)=s at e3 ⊢
   subst e3
   grind
  ·have e1:(2:Int) ^ (k+1)=2*2 ^ k:=by rw [Int.pow_succ,Int.mul_comm]
   have e2:(2:Int) ^ (k+2)=4*2 ^ k:=by rw [Int.pow_succ,Int.pow_succ];omega
   rw [h2,h3,e1,e2]
   generalize (2:Int) ^ k=t
   grind
theorem amb (k:Nat) (x y:Int):∃ n d,jk n x=y+2 ^ k*d:=by
 induction k with
 | zero=>exact ⟨0,x - y,by show x=_;simp;omega⟩
 | succ k ih=>
  obtain ⟨n,d,h⟩:=ih
  have e1:(2:Int) ^ (k+1)=2*2 ^ k:=by rw [Int.pow_succ,Int.mul_comm]
  by_cases hd:d % 2=0
  ·refine ⟨n,d / 2,?_⟩
   rw [h,e1,show d=2*(d / 2) by omega]
   rw [Int.mul_left_comm,← Int.mul_assoc,show 2*(d / 2) / 2=d / 2 by omega]
  ·obtain ⟨p,q,u,v,h1,h2,h3⟩:=acI k
   refine ⟨n+2 ^ k,(1+d) / 2+v+2*u*(y+2 ^ k*d),?_⟩
   have e2:(2:Int) ^ (k+2)=4*2 ^ k:=by rw [Int.pow_succ,Int.pow_succ];omega
   have hd2:d=2*((1+d) / 2) - 1:=by omega
   rw [Li,h,h1,h2,h3,e1,e2]
   generalize (1+d) / 2=g at hd2 ⊢
   subst hd2
   generalize (2:Int) ^ k=t
   grind
def gJ (h:Int):Int:=IntKind.wrap .i64 (IntKind.wrap .i64 (h*6364136223846793005)+1442695040888963407)
def iI:Nat→Int→Int
 | 0,h=>h
 | n+1,h=>iI n (gJ h)
theorem PI:∀ (m n:Nat) (x:Int),iI (m+n) x=iI n (iI m x)
 | 0,n,x=>by rw [Nat.zero_add];rfl
 | m+1,n,x=>by
  rw [show m+1+n=(m+n)+1 by omega]
  show iI (m+n) (gJ x)=iI n (iI m (gJ x))
  exact PI m n (gJ x)
theorem amc (h:Int): -9223372036854775808≤gJ h∧gJ h≤9223372036854775807:=by
 unfold gJ
 rw [IntKind.wrap_i64]
 omega
theorem acJ (x:Int):∃ d,IntKind.wrap .i64 x=x+18446744073709551616*d:=by
 rw [IntKind.wrap_i64]
 exact ⟨-((x+9223372036854775808) / 18446744073709551616),by omega⟩
theorem amd (h:Int):∃ d,gJ h=lc h+18446744073709551616*d:=by
 unfold gJ lc
 obtain ⟨d1,h1⟩:=acJ (h*6364136223846793005)
 obtain ⟨d2,h2⟩:=acJ (IntKind.wrap .i64 (h*6364136223846793005)+1442695040888963407)
 refine ⟨d1+d2,?_⟩
 rw [h2,h1]
 show _=h*6364136223846793005+1442695040888963407+_
 generalize h*6364136223846793005=z
 omega
theorem UH:∀ (n:Nat) (x d:Int),∃ e,jk n (x+18446744073709551616*d)=jk n x+18446744073709551616*e
 | 0,x,d=>⟨d,rfl⟩
 | n+1,x,d=>by
  have e:lc (x+18446744073709551616*d)=lc x+18446744073709551616*(d*PG):=by
   unfold lc
   grind
  show ∃ e,jk n (lc (x+18446744073709551616*d))=jk n (lc x)+18446744073709551616*e
  rw [e]
  exact UH n (lc x) _
theorem acK:∀ (n:Nat) (h:Int),∃ d,iI n h=jk n h+18446744073709551616*d
 | 0,h=>⟨0,by show h=h+_;omega⟩
 | n+1,h=>by
  obtain ⟨d,hd⟩:=acK n (gJ h)
  obtain ⟨d2,h2⟩:=amd h
  obtain ⟨e,he⟩:=UH n (lc h) d2
  refine ⟨e+d,?_⟩
  show iI n (gJ h)=jk n (lc h)+_
  rw [hd,h2,he]
  omega
theorem acL (M:Nat) (hM:M=2 ^ 64) (x:Int):∃ d,jk M x=x+18446744073709551616*d:=by
 obtain ⟨p,q,u,v,h1,h2,h3⟩:=acI 64
 have e2:(2:Int) ^ (64+2)=73786976294838206464:=by decide
 have e3:(2:Int) ^ 64=18446744073709551616:=by decide
 rw [← hM] at h1
 rw [e2] at h2
 rw [e3] at h3
 refine ⟨4*u*x+(1+2*v),?_⟩
 rw [h1,h2,h3]
 grind
theorem ame (M:Nat) (hM:M=2 ^ 64) (k:Nat) (x:Int):∃ d,jk (M*k) x=x+18446744073709551616*d:=by
 induction k with
 | zero=>exact ⟨0,by rw [Nat.mul_zero];show x=_;omega⟩
 | succ k ih=>
  obtain ⟨d,hd⟩:=ih
  obtain ⟨d2,h2⟩:=acL M hM (x+18446744073709551616*d)
  refine ⟨d+d2,?_⟩
  rw [Nat.mul_succ,Li,hd,h2]
  omega
theorem amf (M:Nat) (hM:M=2 ^ 64) (hM0:0 < M) (h y:Int) (h1: -9223372036854775808≤y) (h2:y≤9223372036854775807):∃ n,1≤n∧n≤M∧iI n h=y:=by
 obtain ⟨n,d,hn⟩:=amb 64 h y
 have e3:(2:Int) ^ 64=18446744073709551616:=by decide
 rw [e3] at hn
 have key:∀ m,(∃ d,jk m h=y+18446744073709551616*d)→1≤m→iI m h=y:=fun m ⟨d,hm⟩ h1m=>by
  obtain ⟨d2,hd2⟩:=acK m h
  obtain ⟨m,rfl⟩:∃ k,m=k+1:=⟨m - 1,by omega⟩
  have hr: -9223372036854775808≤iI (m+1) h∧iI (m+1) h≤9223372036854775807:=by
   rw [PI m 1 h]
   exact amc _
  rw [hm] at hd2
  omega
 obtain ⟨d2,hq⟩:=ame M hM (n / M) h
 have hsplit:jk n h=jk (n % M) (jk (M*(n / M)) h):=by
  rw [← Li,Nat.div_add_mod]
 obtain ⟨e,he⟩:=UH (n % M) h d2
 rw [hsplit,hq,he] at hn
 have hm:jk (n % M) h=y+18446744073709551616*(d - e):=by omega
 rcases Nat.eq_zero_or_pos (n % M) with h0 | h0
 ·rw [h0] at hm
  obtain ⟨d3,h3⟩:=acL M hM h
  refine ⟨M,hM0,Nat.le_refl _,key _ ⟨d - e+d3,?_⟩ hM0⟩
  rw [h3]
  have:h=y+18446744073709551616*(d - e):=hm
  omega
 ·exact ⟨n % M,h0,Nat.le_of_lt (Nat.mod_lt _ hM0),key _ ⟨_,hm⟩ h0⟩
theorem amg (h y:Int) (h1: -9223372036854775808≤y) (h2:y≤9223372036854775807):∃ n,1≤n∧n≤2 ^ 64∧iI n h=y:=
 amf (2 ^ 64) rfl (by decide) h y h1 h2
inductive Pg (α:Type):Type
 | ret (a:α):Pg α
 | rd (k:Int→Pg α):Pg α
namespace Pg
def bind {α β:Type}:Pg α→(α→Pg β)→Pg β
 | ret a,f=>f a
 | rd k,f=>rd fun x=>(k x).bind f
def map {α β:Type} (g:α→β) (p:Pg α):Pg β:=p.bind fun a=>ret (g a)
inductive Post {α:Type} (P:α→Prop):Pg α→Prop
 | ret {a:α} (h:P a):Post P (.ret a)
 | rd {k:Int→Pg α} (h:∀ x,0≤x→x≤255→Post P (k x)):Post P (.rd k)
inductive Le {α:Type}:Pg α→Nat→Prop
 | ret {a:α} {n:Nat}:Le (.ret a) n
 | rd {k:Int→Pg α} {n:Nat} (h:∀ x,0≤x→x≤255→Le (k x) n):Le (.rd k) (n+1)
def One {α:Type}:Pg α→Prop
 | ret _=>False
 | rd _=>True
theorem Le.mono {α:Type} {p:Pg α} {n m:Nat} (h:Le p n) (hm:n≤m):Le p m:=by
 induction h generalizing m with
 | ret=>exact .ret
 | rd h ih=>
  obtain ⟨m,rfl⟩:∃ k,m=k+1:=⟨m - 1,by omega⟩
  exact .rd fun x a b=>ih x a b (by omega)
theorem Post.imp {α:Type} {P Q:α→Prop} {p:Pg α} (h:Post P p) (hi:∀ a,P a→Q a):Post Q p:=by
 induction h with
 | ret h=>exact .ret (hi _ h)
 | rd h ih=>exact .rd ih
theorem Post.bind {α β:Type} {P:α→Prop} {Q:β→Prop} {p:Pg α} {f:α→Pg β} (h:Post P p) (hf:∀ a,P a→Post Q (f a)):Post Q (p.bind f):=by
 induction h with
 | ret h=>exact hf _ h
 | rd h ih=>exact .rd ih
theorem iU.bind {α β:Type} {P:α→Prop} {p:Pg α} {f:α→Pg β} {n m k:Nat} (hp:Post P p) (h:Le p n) (hf:∀ a,P a→Le (f a) m) (hk:n+m≤k):Le (p.bind f) k:=by
 induction h generalizing k with
 | ret=>
  cases hp with
  | ret hp=>exact (hf _ hp).mono (by omega)
 | rd h ih=>
  cases hp with
  | rd hp=>
   obtain ⟨k,rfl⟩:∃ j,k=j+1:=⟨k - 1,by omega⟩
   exact .rd fun x a b=>ih x a b (hp x a b) (by omega)
theorem One.bind {α β:Type} {p:Pg α} {f:α→Pg β} (h:One p):One (p.bind f):=by
 cases p with
 | ret=>cases h
 | rd=>trivial
def gen (h:Int):Int:=bits .and .i64 (bits .xor .i64 (Int.fdiv (gJ h) (2 ^ (min 33 64))) (Int.fdiv (gJ h) (2 ^ (min 45 64)))) 255
def cb (b:List UInt8) (i:Nat) (h:Int):Int:=match b[i]? with
 | some e=>bits .and .i64 (IntKind.wrap .i64 (gen h+IntKind.wrap .i64 (e.toNat:Int))) 255
 | none=>gen h
def nx (b:List UInt8) (i:Nat):Nat:=if i < b.length then i+1 else i
def run {α:Type} (b:List UInt8):Pg α→Nat→Int→α×Nat×Int
 | ret a,i,h=>(a,i,h)
 | rd k,i,h=>run b (k (cb b i h)) (nx b i) (gJ h)
def sH {α:Type}:Pg α→Int→α×Int
 | ret a,h=>(a,h)
 | rd k,h=>sH (k (gen h)) (gJ h)
theorem run_bind {α β:Type} (b:List UInt8):∀ (p:Pg α) (f:α→Pg β) (i:Nat) (h:Int),run b (p.bind f) i h=run b (f (run b p i h).1) (run b p i h).2.1 (run b p i h).2.2
 | ret _,_,_,_=>rfl
 | rd k,f,i,h=>run_bind b (k (cb b i h)) f (nx b i) (gJ h)
theorem amh {b:List UInt8} {i:Nat} (h:i≤b.length):nx b i≤b.length:=by unfold nx;split<;>omega
theorem Dx {α:Type} (b:List UInt8):∀ (p:Pg α) (i:Nat) (h:Int),i≤b.length→(run b p i h).2.1≤b.length
 | ret _,_,_,hi=>hi
 | rd k,i,h,hi=>Dx b (k (cb b i h)) (nx b i) (gJ h) (amh hi)
theorem ami (b:List UInt8):nx b b.length=b.length:=by unfold nx;split<;>omega
theorem run_end {α:Type} (b:List UInt8):∀ (p:Pg α) (h:Int),run b p b.length h=((sH p h).1,b.length,(sH p h).2)
 | ret _,_=>rfl
 | rd k,h=>by
  have e:cb b b.length h=gen h:=by unfold cb;rw [List.getElem?_eq_none (by omega)]
  show run b (k (cb b b.length h)) (nx b b.length) (gJ h)=_
  rw [e,ami,run_end b (k (gen h)) (gJ h)]
  rfl
theorem Lj (h:Int):0≤gen h∧gen h≤255:=PE _
theorem acM (b:List UInt8) (i:Nat) (h:Int):0≤cb b i h∧cb b i h≤255:=by
 unfold cb
 split
 ·exact PE _
 ·exact Lj h
theorem UJ {α:Type} {P:α→Prop} (b:List UInt8) {p:Pg α} (hp:Post P p):∀ (i:Nat) (h:Int),P (run b p i h).1:=by
 induction hp with
 | ret h=>intro i h';exact h
 | rd h ih=>intro i h';exact ih (cb b i h') (acM b i h').1 (acM b i h').2 (nx b i) (gJ h')
theorem amj {α:Type} {p:Pg α} {n:Nat} (hp:Le p n):∀ h:Int,∃ k,k≤n∧(sH p h).2=iI k h:=by
 induction hp with
 | ret=>intro h;exact ⟨0,by omega,rfl⟩
 | rd h ih=>
  intro h'
  obtain ⟨k,h1,h2⟩:=ih (gen h') (Lj h').1 (Lj h').2 (gJ h')
  exact ⟨k+1,by omega,h2⟩
theorem amk {α:Type} {p:Pg α} {n:Nat} (hp:Le p n) (ho:One p) (h:Int):∃ k,1≤k∧k≤n∧(sH p h).2=iI k h:=by
 cases hp with
 | ret=>cases ho
 | rd hk=>
  obtain ⟨k,h1,h2⟩:=amj (hk (gen h) (Lj h).1 (Lj h).2) (gJ h)
  exact ⟨k+1,by omega,by omega,h2⟩
theorem acN {α:Type} (b:List UInt8):∀ (p:Pg α) (i:Nat) (h:Int),i≤(run b p i h).2.1
 | ret _,_,_=>Nat.le_refl _
 | rd k,i,h=>by
  have:=acN b (k (cb b i h)) (nx b i) (gJ h)
  have h2:i≤nx b i:=by unfold nx;split<;>omega
  exact Nat.le_trans h2 this
theorem aml {α:Type} (b:List UInt8) {p:Pg α} (ho:One p) (i:Nat) (h:Int) (hi:i < b.length):i < (run b p i h).2.1:=by
 cases p with
 | ret=>cases ho
 | rd k=>
  have:=acN b (k (cb b i h)) (nx b i) (gJ h)
  have h2:nx b i=i+1:=by unfold nx;rw [if_pos hi]
  rw [h2] at this
  show i < (run b (k (cb b i h)) (nx b i) (gJ h)).2.1
  rw [h2]
  exact this
def vD {α:Type} (p:Pg α) (ok:α→Bool):Nat→Int→Option (α×Int)
 | 0,_=>none
 | n+1,h=>bif ok (sH p h).1 then some (sH p h) else vD p ok n (sH p h).2
def loop {α:Type} (b:List UInt8) (p:Pg α) (ok:α→Bool):Nat→Nat→Int→Option (α×Nat×Int)
 | 0,_,_=>none
 | n+1,i,h=>bif ok (run b p i h).1 then some (run b p i h) else loop b p ok n (run b p i h).2.1 (run b p i h).2.2
theorem acO {α:Type} (b:List UInt8) (p:Pg α) (ok:α→Bool):∀ (n:Nat) (h:Int),(vD p ok n h).isSome=true→(loop b p ok n b.length h).isSome=true
 | 0,_,hs=>by cases hs
 | n+1,h,hs=>by
  rw [vD] at hs
  rw [loop,run_end]
  dsimp only
  cases hc:ok (sH p h).1 with
  | true=>rfl
  | false=>rw [hc,cond_false] at hs;rw [cond_false];exact acO b p ok n (sH p h).2 hs
theorem PK {α:Type} (p:Pg α) (ok:α→Bool):∀ (n m:Nat) (h:Int),n≤m→(vD p ok n h).isSome=true→(vD p ok m h).isSome=true
 | 0,_,_,_,hs=>by cases hs
 | n+1,0,_,hm,_=>by omega
 | n+1,m+1,h,hm,hs=>by
  rw [vD] at hs ⊢
  cases hc:ok (sH p h).1 with
  | true=>rfl
  | false=>rw [hc,cond_false] at hs;rw [cond_false];exact PK p ok n m _ (by omega) hs
def ng {α:Type} (p:Pg α) (ok:α→Bool) (F:Nat):Nat→Int→Bool
 | 0,_=>true
 | n+1,h=>(vD p ok F h).isSome&&ng p ok F n (gJ h)
theorem acP {α:Type} (p:Pg α) (ok:α→Bool) (F:Nat):∀ (n:Nat) (h:Int) (k:Nat),ng p ok F n h=true→k < n→(vD p ok F (iI k h)).isSome=true
 | 0,_,_,_,hk=>by omega
 | n+1,h,0,ha,_=>by
  rw [ng,Bool.and_eq_true] at ha
  exact ha.1
 | n+1,h,k+1,ha,hk=>by
  rw [ng,Bool.and_eq_true] at ha
  exact acP p ok F n (gJ h) k ha.2 (by omega)
theorem UK {α:Type} (p:Pg α) (ok:α→Bool) (F:Nat):∀ (n m:Nat) (h:Int),ng p ok F n h=true→ng p ok F m (iI n h)=true→ng p ok F (n+m) h=true
 | 0,m,h,_,h2=>by rw [Nat.zero_add];exact h2
 | n+1,m,h,h1,h2=>by
  rw [show n+1+m=(n+m)+1 by omega,ng,Bool.and_eq_true]
  rw [ng,Bool.and_eq_true] at h1
  exact ⟨h1.1,UK p ok F n m (gJ h) h1.2 h2⟩
theorem amm {α:Type} {p:Pg α} {ok:α→Bool} {B F:Nat} {h0:Int} (hB:Le p B) (ho:One p) (ha:ng p ok F (B+1) h0=true):∀ (n:Nat) (h:Int),iI n h=h0→(vD p ok (n+F+1) h).isSome=true:=by
 intro n
 induction n using Nat.strongRecOn with
 | _ n ih=>
  intro h hn
  rw [vD]
  cases ok (sH p h).1 with
  | true=>rfl
  | false=>
   rw [cond_false]
   obtain ⟨k,k1,k2,k3⟩:=amk hB ho h
   rw [k3]
   by_cases hk:k≤n
   ·have e:iI (n - k) (iI k h)=h0:=by rw [← PI,show k+(n - k)=n by omega];exact hn
    exact PK p ok _ _ _ (by omega) (ih (n - k) (by omega) (iI k h) e)
   ·have e:iI k h=iI (k - n) h0:=by rw [← hn,← PI,show n+(k - n)=k by omega]
    rw [e]
    exact PK p ok F _ _ (by omega) (acP p ok F (B+1) h0 (k - n) ha (by omega))
theorem amn {α:Type} {p:Pg α} {ok:α→Bool} {B F:Nat} {h0:Int} (hB:Le p B) (ho:One p) (ha:ng p ok F (B+1) h0=true) (h1: -9223372036854775808≤h0) (h2:h0≤9223372036854775807) (b:List UInt8) (M:Nat) (hM:18446744073709551616+F+1≤M):∀ (d i n:Nat) (h:Int),b.length - i=d→i≤b.length→M+d≤n→(loop b p ok n i h).isSome=true:=by
 intro d
 induction d using Nat.strongRecOn with
 | _ d ih=>
  intro i n h hd hi hn
  by_cases hlt:i < b.length
  ·obtain ⟨n,rfl⟩:∃ k,n=k+1:=⟨n - 1,by omega⟩
   rw [loop]
   cases ok (run b p i h).1 with
   | true=>rfl
   | false=>
    rw [cond_false]
    have g1:=aml b ho i h hlt
    have g2:=Dx b p i h hi
    exact ih (b.length - (run b p i h).2.1) (by omega) _ n _ rfl g2 (by omega)
  ·have e:i=b.length:=by omega
   subst e
   obtain ⟨k,_,k2,k3⟩:=amg h h0 h1 h2
   have e3:(2:Nat) ^ 64=18446744073709551616:=by decide
   rw [e3] at k2
   exact acO b p ok n h (PK p ok _ _ _ (by omega) (amm hB ho ha k h k3))
theorem aaX {α:Type} (b:List UInt8) {P:α→Prop} {p:Pg α} (hp:Post P p) (ok:α→Bool):∀ (n i:Nat) (h:Int) (r:α×Nat×Int),i≤b.length→loop b p ok n i h=some r→P r.1∧ok r.1=true∧r.2.1≤b.length
 | 0,_,_,_,_,e=>by cases e
 | n+1,i,h,r,hi,e=>by
  rw [loop] at e
  cases ho:ok (run b p i h).1 with
  | true=>
   rw [ho,cond_true] at e
   cases e
   exact ⟨UJ b hp i h,ho,Dx b p i h hi⟩
  | false=>
   rw [ho,cond_false] at e
   exact aaX b hp ok n _ _ r (Dx b p i h hi) e
end Pg
def Sm {α β:Type} (b:List UInt8) (p:Pg α) (f:α→β) (i:Nat) (h:Int) (x:Option (β×Int×Int)):Prop:=x=some (f (Pg.run b p i h).1,((Pg.run b p i h).2.1:Int),(Pg.run b p i h).2.2)
theorem Sm.ret {α β:Type} {b:List UInt8} {a:α} {f:α→β} {i:Nat} {h:Int}:Sm b (.ret a) f i h (some (f a,(i:Int),h)):=rfl
theorem Sm.bind {α β γ δ:Type} {b:List UInt8} {p:Pg α} {f:α→β} {q:α→Pg γ} {g:γ→δ} {P:α→Prop} {i:Nat} {h:Int} {x:Option (β×Int×Int)} {y:β×Int×Int→Option (δ×Int×Int)} (hi:i≤b.length) (hp:Pg.Post P p) (hx:Sm b p f i h x) (hy:∀ a (i:Nat) h,P a→i≤b.length→Sm b (q a) g i h (y (f a,(i:Int),h))):Sm b (p.bind q) g i h (Option.bind x y):=by
 unfold Sm at hx hy ⊢
 rw [hx,au,Pg.run_bind]
 exact hy _ _ _ (Pg.UJ b hp i h) (Pg.Dx b p i h hi)
theorem Sm.sG {α β:Type} {b:List UInt8} {p:Pg α} {f:α→β} {i:Nat} {h:Int} {x:Option (β×Int×Int)} (hx:Sm b p f i h x):Sm b p f i h (Option.bind x fun r=>some (r.1,r.2.1,r.2.2)):=by
 unfold Sm at hx ⊢
 rw [hx]
 rfl
theorem Sm.cond {α β:Type} {b:List UInt8} {p q:Pg α} {f:α→β} {i:Nat} {h:Int} {c:Bool} {x y:Option (β×Int×Int)} (hx:c=true→Sm b p f i h x) (hy:c=false→Sm b q f i h y):Sm b (bif c then p else q) f i h (bif c then x else y):=by
 cases c
 ·exact hy rfl
 ·exact hx rfl
theorem Sm.dr {α β:Type} {b:List UInt8} {p:Pg α} {f:α→β} {P:α→Prop} {Q:β→Prop} {i:Nat} {h:Int} {x:Option (β×Int×Int)} (hi:i≤b.length) (hx:Sm b p f i h x) (hp:Pg.Post P p) (hq:∀ a,P a→Q (f a)):Dr b Q x:=
 ⟨_,_,_,hx,hq _ (Pg.UJ b hp i h),by omega,by have:=Pg.Dx b p i h hi;omega⟩
end Go.Proofs.Tryz
