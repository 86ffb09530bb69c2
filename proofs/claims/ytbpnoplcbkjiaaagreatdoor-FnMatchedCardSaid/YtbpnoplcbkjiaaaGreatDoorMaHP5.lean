/-
 Plain lemmas on the models, part 5.
-/
import Derived.Test.YtbpnoplcbkjiaaaGreatDoorMaHP4
namespace Go.Proofs.Tryz
open Go.Av
set_option maxRecDepth 100000
set_option linter.unusedSimpArgs false
set_option linter.unusedVariables false
def nS (n:Int):Pg Int:=bif decide (n≤0) then .ret 0 else bif decide (n≤256) then .rd fun x=>.ret (Int.tmod x n) else .rd fun x=>.rd fun y=>.rd fun z=>.rd fun w=>.ret (Int.tmod (IntKind.wrap .i64 ((IntKind.wrap .i64 ((IntKind.wrap .i64 ((IntKind.wrap .i64 (x*16777216))+(IntKind.wrap .i64 (y*65536))))+(IntKind.wrap .i64 (z*256))))+w)) n)
def Ll (n:Int):Pg Bool:=(nS n).bind fun r=>.ret (r==0)
def vE (l:List (List UInt8)):Pg (List UInt8):=(nS (l.length:Int)).bind fun r=>.ret (l[r.toNat]?.getD [])
def xH (l:List Int):Pg Int:=(nS (l.length:Int)).bind fun r=>.ret (l[r.toNat]?.getD 0)
def PL:Pg (List UInt8):=vE [[48],[49],[52,50],[51,46,53],[46,53],[55,46],[49,101,51],[50,69,45,52],[49,48,46,50,53,101,43,49]]
def PN:Pg (List UInt8):=vE [[34,34],[34,97,34],[34,120,32,121,34],[34,113,92,34,113,34],[34,92,110,34],[34,35,110,111,34],[34,47,34]]
def PO:Pg (List UInt8):=vE [[47,97,47],[47,94,120,43,36,47],[47,97,92,47,98,47],[47,61,47],[47,32,47],[47,91,48,45,57,93,47]]
def Dy:Pg (List UInt8):=vE [[120],[121],[110],[105],[97,114,114],[78,82],[70,83],[116,111,116,97,108],[97,49],[95,116],[99,111,117,110,116]]
def PS:Pg Int:=xH [60,57,58,59,55,56,56,99,99,99,63,48,47,50,62,62,49,67,46,45,44]
theorem gK (n:Int):Pg.Post (fun r=>0≤r∧(r < n∨n≤0∧r=0)) (nS n):=by
 unfold nS
 cases h1:decide (n≤0) with
 | true=>exact .ret ⟨by omega,.inr ⟨of_decide_eq_true h1,rfl⟩⟩
 | false=>
  have h1:=of_decide_eq_false h1
  cases decide (n≤256) with
  | true=>exact .rd fun x hx _=>.ret ⟨Int.tmod_nonneg _ hx,.inl (Int.tmod_lt_of_pos _ (by omega))⟩
  | false=>
   refine .rd fun x hx hx2=>.rd fun y hy hy2=>.rd fun z hz hz2=>.rd fun w hw hw2=>.ret ⟨Int.tmod_nonneg _ ?_,.inl (Int.tmod_lt_of_pos _ (by omega))⟩
   rw [wrap64 (n:=x*16777216) (by omega) (by omega),wrap64 (n:=y*65536) (by omega) (by omega),wrap64 (n:=x*16777216+y*65536) (by omega) (by omega),wrap64 (n:=z*256) (by omega) (by omega),wrap64 (n:=x*16777216+y*65536+z*256) (by omega) (by omega),wrap64 (by omega) (by omega)]
   omega
theorem below_le (n:Int) (h:n≤256):Pg.Le (nS n) 1:=by
 unfold nS
 cases decide (n≤0) with
 | true=>exact .ret
 | false=>rw [decide_eq_true h];exact .rd fun _ _ _=>.ret
theorem UL (n:Int):Pg.Post (fun _=>True) (Ll n):=(gK n).bind fun _ _=>.ret trivial
theorem amo (n:Int) (h:n≤256):Pg.Le (Ll n) 1:=Pg.iU.bind (gK n) (below_le n h) (m:=0) (fun _ _=>.ret) (by omega)
theorem amq {P:List UInt8→Prop} (l:List (List UInt8)) (hl:0 < l.length) (h:∀ x,x∈l→P x):Pg.Post P (vE l):=(gK _).bind fun r hr=>.ret (by
 have hn:r.toNat < l.length:=by omega
 rw [List.getElem?_eq_getElem hn]
 exact h _ (List.getElem_mem hn))
theorem Lm (l:List (List UInt8)) (h:l.length≤256):Pg.Le (vE l) 1:=Pg.iU.bind (gK _) (below_le _ (by omega)) (m:=0) (fun _ _=>.ret) (by omega)
theorem Lp {P:Int→Prop} (l:List Int) (hl:0 < l.length) (h:∀ x,x∈l→P x):Pg.Post P (xH l):=(gK _).bind fun r hr=>.ret (by
 have hn:r.toNat < l.length:=by omega
 rw [List.getElem?_eq_getElem hn]
 exact h _ (List.getElem_mem hn))
theorem UM (l:List Int) (h:l.length≤256):Pg.Le (xH l) 1:=Pg.iU.bind (gK _) (below_le _ (by omega)) (m:=0) (fun _ _=>.ret) (by omega)
abbrev Sh (x:List UInt8):Prop:=x.length≤20
theorem Dz (l:List (List UInt8)) (hl:0 < l.length) (h:(l.all fun x=>decide (x.length≤20))=true):Pg.Post Sh (vE l):=amq l hl fun x hx=>of_decide_eq_true (List.all_eq_true.1 h x hx)
theorem UN:Pg.Post Sh PL:=Dz _ (by decide) (by decide)
theorem UO:Pg.Post Sh PN:=Dz _ (by decide) (by decide)
theorem UQ:Pg.Post Sh PO:=Dz _ (by decide) (by decide)
theorem qy:Pg.Post Sh Dy:=Dz _ (by decide) (by decide)
theorem UR:Pg.Post (fun _=>True) PS:=Lp _ (by decide) fun _ _=>trivial
theorem amr:Pg.Le PL 1:=Lm _ (by decide)
theorem ams:Pg.Le PN 1:=Lm _ (by decide)
theorem amt:Pg.Le PO 1:=Lm _ (by decide)
theorem PU:Pg.Le Dy 1:=Lm _ (by decide)
theorem amu:Pg.Le PS 1:=UM _ (by decide)
section
variable (b:List UInt8) (hb:b.length≤1048576)
include hb
theorem Lr (i:Nat) (h:Int) (hi:i≤b.length):Sm b (.rd .ret) (fun x=>x) i h (tT b (i:Int) h):=by
 unfold tT Fb Sm
 show _=some (Pg.cb b i h,((Pg.nx b i:Nat):Int),gJ h)
 unfold Pg.cb Pg.nx
 by_cases hlt:i < b.length
 ·simp only [bN hlt,cond_true,aP hlt,au,List.getElem?_eq_getElem hlt,if_pos hlt]
  rw [wrap64 (n:=(i:Int)+1) (by omega) (by omega)]
  rfl
 ·simp only [bT hlt,cond_false,List.getElem?_eq_none (show b.length≤i by omega),if_neg hlt]
  rfl
theorem xI (n:Int) (i:Nat) (h:Int) (hi:i≤b.length):Sm b (nS n) (fun x=>x) i h (jK n b (i:Int) h):=by
 unfold jK nS
 have hp:Pg.Post (fun x:Int=>0≤x∧x≤255) (.rd .ret):=.rd fun x h1 h2=>.ret ⟨h1,h2⟩
 refine Sm.cond (fun _=>Sm.ret) fun hc=>Sm.cond (fun _=>?_) fun _=>?_
 ·have hc:=of_decide_eq_false hc
  have hn:(n==0)=false:=by simp;omega
  refine Sm.bind (p:=.rd .ret) (q:=fun x=>.ret (Int.tmod x n)) hi hp (Lr b hb i h hi) fun x i h _ _=>?_
  unfold yG
  simp only [hn,cond_false,au]
  exact Sm.ret
 ·have hc:=of_decide_eq_false hc
  have hn:(n==0)=false:=by simp;omega
  refine Sm.bind (p:=.rd .ret) (q:=fun x=>.rd fun y=>.rd fun z=>.rd fun w=>.ret (Int.tmod (IntKind.wrap .i64 ((IntKind.wrap .i64 ((IntKind.wrap .i64 ((IntKind.wrap .i64 (x*16777216))+(IntKind.wrap .i64 (y*65536))))+(IntKind.wrap .i64 (z*256))))+w)) n)) hi hp (Lr b hb i h hi) fun x i h _ hi=>?_
  dsimp only
  refine Sm.bind (p:=.rd .ret) (q:=fun y=>.rd fun z=>.rd fun w=>.ret (Int.tmod (IntKind.wrap .i64 ((IntKind.wrap .i64 ((IntKind.wrap .i64 ((IntKind.wrap .i64 (x*16777216))+(IntKind.wrap .i64 (y*65536))))+(IntKind.wrap .i64 (z*256))))+w)) n)) hi hp (Lr b hb i h hi) fun y i h _ hi=>?_
  dsimp only
  refine Sm.bind (p:=.rd .ret) (q:=fun z=>.rd fun w=>.ret (Int.tmod (IntKind.wrap .i64 ((IntKind.wrap .i64 ((IntKind.wrap .i64 ((IntKind.wrap .i64 (x*16777216))+(IntKind.wrap .i64 (y*65536))))+(IntKind.wrap .i64 (z*256))))+w)) n)) hi hp (Lr b hb i h hi) fun z i h _ hi=>?_
  dsimp only
  refine Sm.bind (p:=.rd .ret) (q:=fun w=>.ret (Int.tmod (IntKind.wrap .i64 ((IntKind.wrap .i64 ((IntKind.wrap .i64 ((IntKind.wrap .i64 (x*16777216))+(IntKind.wrap .i64 (y*65536))))+(IntKind.wrap .i64 (z*256))))+w)) n)) hi hp (Lr b hb i h hi) fun w i h _ hi=>?_
  dsimp only
  unfold yG
  simp only [hn,cond_false,au]
  exact Sm.ret
theorem amv (n:Int) (i:Nat) (h:Int) (hi:i≤b.length):Sm b (Ll n) (fun x=>x) i h (tV n b (i:Int) h):=by
 unfold tV Ll
 exact Sm.bind hi (gK n) (xI b hb n i h hi) fun r i h _ hi=>Sm.ret
theorem Ls (l:List (List UInt8)) (hl:0 < l.length) (i:Nat) (h:Int) (hi:i≤b.length):Sm b (vE l) (fun x=>x) i h (pQ l b (i:Int) h):=by
 unfold pQ vE
 refine Sm.bind hi (gK _) (xI b hb _ i h hi) fun r i h hr hi=>?_
 obtain ⟨n,rfl⟩:=Int.eq_ofNat_of_zero_le hr.1
 have hn:n < l.length:=by rcases hr.2 with h | h<;>omega
 have e:ix l (n:Int)=some l[n]:=aP hn
 dsimp only
 rw [e,au,show Int.toNat ((n:Nat):Int)=n from rfl,List.getElem?_eq_getElem hn]
 exact Sm.ret
theorem UU (l:List Int) (hl:0 < l.length) (i:Nat) (h:Int) (hi:i≤b.length):Sm b (xH l) (fun x=>x) i h (uR l b (i:Int) h):=by
 unfold uR xH
 refine Sm.bind hi (gK _) (xI b hb _ i h hi) fun r i h hr hi=>?_
 obtain ⟨n,rfl⟩:=Int.eq_ofNat_of_zero_le hr.1
 have hn:n < l.length:=by rcases hr.2 with h | h<;>omega
 have e:ix l (n:Int)=some l[n]:=aP hn
 dsimp only
 rw [e,au,show Int.toNat ((n:Nat):Int)=n from rfl,List.getElem?_eq_getElem hn]
 exact Sm.ret
theorem amw (i:Nat) (h:Int) (hi:i≤b.length):Sm b PL (fun x=>x) i h (NV b (i:Int) h):=Sm.sG (Ls b hb _ (by decide) i h hi)
theorem amx (i:Nat) (h:Int) (hi:i≤b.length):Sm b PN (fun x=>x) i h (NW b (i:Int) h):=Sm.sG (Ls b hb _ (by decide) i h hi)
theorem amy (i:Nat) (h:Int) (hi:i≤b.length):Sm b PO (fun x=>x) i h (NY b (i:Int) h):=Sm.sG (Ls b hb _ (by decide) i h hi)
theorem Lu (i:Nat) (h:Int) (hi:i≤b.length):Sm b Dy (fun x=>x) i h (yP b (i:Int) h):=Sm.sG (Ls b hb _ (by decide) i h hi)
theorem amA (i:Nat) (h:Int) (hi:i≤b.length):Sm b PS (fun x=>x) i h (Fg b (i:Int) h):=Sm.sG (UU b hb _ (by decide) i h hi)
end
def ShN (x:ak):Prop:=x.Text.length≤20∧x.Other.length≤20
def DC (t:aj):Prop:=∀ x,x∈av 0 t→ShN x
theorem amB {t:aj} (h:DC t) (b:Nat):∀ x,x∈av b t→ShN x:=fun x hx=>by
 have e:=Dl t 0 b
 rw [Nat.zero_add] at e
 rw [e] at hx
 obtain ⟨y,hy,rfl⟩:=List.mem_map.1 hx
 exact h y hy
theorem amC {ts:List aj} (h:∀ t,t∈ts→DC t):∀ (b:Nat) x,x∈bK b ts→ShN x:=by
 induction ts with
 | nil=>intro b x hx;rw [bK] at hx;cases hx
 | cons t ts ih=>
  intro b x hx
  rw [bK] at hx
  rcases List.mem_append.1 hx with hx | hx
  ·exact amB (h t (by simp)) b x hx
  ·exact ih (fun t' h'=>h t' (by simp [h'])) _ x hx
def Gd (m d:Nat) (t:aj):Prop:=aB t≤m∧dO t≤d∧DC t
theorem Gd.mono {m d m' d':Nat} {t:aj} (h:Gd m d t) (hm:m≤m') (hd:d≤d'):Gd m' d' t:=⟨Nat.le_trans h.1 hm,Nat.le_trans h.2.1 hd,h.2.2⟩
theorem Gd.mk {m d:Nat} {k o:Int} {x y:List UInt8} {ts:List aj} (hx:Sh x) (hy:Sh y) (hs:aD ts+1≤m) (hd:eP ts+1≤d) (h:∀ t,t∈ts→DC t):Gd m d ⟨k,o,x,y,ts⟩:=by
 refine ⟨by rw [aB];exact hs,by rw [dO];exact hd,fun n hn=>?_⟩
 rw [av] at hn
 rcases List.mem_append.1 hn with hn | hn
 ·exact amC h 0 n hn
 ·rw [List.mem_singleton.1 hn]
  exact ⟨hx,hy⟩
theorem Gds {m d:Nat}:∀ {ts:List aj},(∀ t,t∈ts→Gd m d t)→aD ts≤ts.length*m∧eP ts≤d∧∀ t,t∈ts→DC t
 | [],_=>⟨by simp [aD],by simp [eP],fun t ht=>by cases ht⟩
 | t::ts,h=>by
  obtain ⟨h1,h2,h3⟩:=Gds (ts:=ts) fun t' ht'=>h t' (by simp [ht'])
  obtain ⟨g1,g2,g3⟩:=h t (by simp)
  refine ⟨by simp only [aD,List.length_cons,Nat.add_mul];omega,by simp only [eP];omega,fun t' ht'=>?_⟩
  rcases List.mem_cons.1 ht' with rfl | ht'
  ·exact g3
  ·exact h3 t' ht'
def GU {α:Type} (p:Pg α):Nat→Pg (List α)
 | 0=>.ret []
 | n+1=>p.bind fun a=>(GU p n).bind fun zs=>.ret (a::zs)
theorem PV {α:Type} {P:α→Prop} {p:Pg α} (h:Pg.Post P p):∀ n,Pg.Post (fun zs=>zs.length=n∧∀ a,a∈zs→P a) (GU p n)
 | 0=>.ret ⟨rfl,fun a h=>by cases h⟩
 | n+1=>h.bind fun a ha=>(PV h n).bind fun zs has=>.ret ⟨by simp [has.1],fun x hx=>by
  rcases List.mem_cons.1 hx with rfl | hx
  ·exact ha
  ·exact has.2 x hx⟩
theorem acR {α:Type} {P:α→Prop} {p:Pg α} (h:Pg.Post P p) {B:Nat} (hB:Pg.Le p B):∀ n,Pg.Le (GU p n) (n*B)
 | 0=>.ret
 | n+1=>Pg.iU.bind h hB (m:=n*B) (fun a _=>Pg.iU.bind (PV h n) (acR h hB n) (m:=0) (fun _ _=>.ret) (by omega)) (by rw [Nat.add_mul];omega)
def GV:Pg aj:=Dy.bind fun x=>.ret ⟨1,0,x,[],[]⟩
def Af:Pg aj:=(nS 7).bind fun r=>bif r==0 then PL.bind fun x=>.ret ⟨2,0,x,[],[]⟩ else bif r==1 then PN.bind fun x=>.ret ⟨3,0,x,[],[]⟩ else bif r==2 then (Ll 2).bind fun o=>bif o then PO.bind fun x=>.ret ⟨4,0,x,[],[]⟩ else GV else GV
def qz (e1 e2:Pg aj):Pg aj:=(nS 4).bind fun r=>bif r==0 then Dy.bind fun x=>e1.bind fun t=>.ret ⟨5,0,x,[],[t]⟩ else bif r==1 then e2.bind fun t=>.ret ⟨6,0,[],[],[t]⟩ else GV
def Ag (lo hi:Int) (e:Pg aj):Pg (List aj):=(nS (hi - lo+1)).bind fun r=>GU e (lo+r).toNat
def GX (e1 e2 e3:Pg aj) (r:Int) (y:Bool):Pg aj:=bif y then (xH [56,55,61]).bind fun o=>e1.bind fun t=>.ret ⟨11,o,[],[],[t]⟩ else bif r==9 then Dy.bind fun x=>(Ag 1 2 e1).bind fun ts=>.ret ⟨13,0,x,[],ts⟩ else bif r==10 then e1.bind fun t=>e1.bind fun u=>e1.bind fun v=>.ret ⟨14,0,[],[],[t,u,v]⟩ else bif r==11 then (xH [54,38,43]).bind fun o=>(qz e2 e3).bind fun t=>e1.bind fun u=>.ret ⟨15,o,[],[],[t,u]⟩ else PS.bind fun o=>e1.bind fun t=>e1.bind fun u=>.ret ⟨12,o,[],[],[t,u]⟩
def Lv (e1 e2 e3:Pg aj):Pg aj:=(nS 2).bind fun a=>(nS 16).bind fun r=>bif r==0 then Af else bif r==1 then qz e1 e2 else bif r==2 then e1.bind fun t=>.ret ⟨6,0,[],[],[t]⟩ else bif r==3 then Dy.bind fun x=>(Ag 0 3 e1).bind fun ts=>.ret ⟨7,0,x,[],ts⟩ else bif r==4 then (vE [[108,101,110,103,116,104],[115,117,98,115,116,114],[105,110,100,101,120],[105,110,116],[116,111,117,112,112,101,114]]).bind fun x=>(Ag 0 3 e2).bind fun ts=>.ret ⟨8,0,x,[],ts⟩ else bif r==5 then (qz e2 e3).bind fun t=>.ret ⟨9,51+a,[],[],[t]⟩ else bif r==6 then (qz e2 e3).bind fun t=>.ret ⟨10,51+a,[],[],[t]⟩ else bif r==7 then GX e1 e2 e3 r (r==7) else GX e1 e2 e3 r (r==8)
def Ah:Nat→Pg aj×Pg aj×Pg aj
 | 0=>(Af,Af,Af)
 | d+1=>(Lv (Ah d).1 (Ah d).2.1 (Ah d).2.2,(Ah d).1,(Ah d).2.1)
def iB (d:Nat):Pg aj:=(Ah d).1
theorem amD:∀ d,(Ah d).2.1=iB (d - 1)
 | 0=>rfl
 | d+1=>rfl
theorem amE:∀ d,(Ah d).2.2=iB (d - 2)
 | 0=>rfl
 | 1=>rfl
 | d+2=>rfl
theorem UW (d:Nat):iB (d+1)=Lv (iB d) (iB (d - 1)) (iB (d - 2)):=by
 rw [← amD,← amE]
 rfl
def oP (d:Nat):Nat:=if d=0 then 1 else d+2
def eb:Nat→Nat
 | 0=>3
 | d+1=>3*eb d+4
theorem PW {a c:Nat} (h:a≤c):eb a≤eb c:=by
 induction c with
 | zero=>rw [show a=0 by omega];exact Nat.le_refl _
 | succ c ih=>
  by_cases e:a=c+1
  ·rw [e];exact Nat.le_refl _
  ·have:=ih (by omega)
   rw [eb];omega
theorem vF {a c:Nat} (h:a≤c):pw a≤pw c:=by
 induction c with
 | zero=>rw [show a=0 by omega];exact Nat.le_refl _
 | succ c ih=>
  by_cases e:a=c+1
  ·rw [e];exact Nat.le_refl _
  ·have:=ih (by omega)
   rw [pw];omega
theorem jA:Sh ([]:List UInt8):=by simp
theorem PX:Pg.Post (Gd 1 1) GV:=qy.bind fun x hx=>.ret (Gd.mk hx jA (by simp [aD]) (by simp [eP]) fun t ht=>by cases ht)
theorem UY:Pg.Le GV 1:=Pg.iU.bind qy PU (m:=0) (fun _ _=>.ret) (by omega)
theorem kL {α:Type} {P:α→Prop} {c:Bool} {p q:Pg α} (hp:Pg.Post P p) (hq:Pg.Post P q):Pg.Post P (bif c then p else q):=by cases c<;>assumption
theorem leB {α:Type} {n:Nat} {c:Bool} {p q:Pg α} (hp:Pg.Le p n) (hq:Pg.Le q n):Pg.Le (bif c then p else q) n:=by cases c<;>assumption
theorem UZ {p:Pg (List UInt8)} (h:Pg.Post Sh p) (k:Int):Pg.Post (Gd 1 1) (p.bind fun x=>.ret ⟨k,0,x,[],[]⟩):=h.bind fun x hx=>.ret (Gd.mk hx jA (by simp [aD]) (by simp [eP]) fun t ht=>by cases ht)
theorem Uv:Pg.Post (Gd 1 1) Af:=(gK 7).bind fun r _=>kL (UZ UN 2) (kL (UZ UO 3) (kL ((UL 2).bind fun o _=>kL (UZ UQ 4) PX) PX))
theorem oQ {α β:Type} {P:α→Prop} {p:Pg α} {f:α→β} {n:Nat} (hp:Pg.Post P p) (h:Pg.Le p n):Pg.Le (p.bind fun a=>.ret (f a)) n:=Pg.iU.bind hp h (m:=0) (fun _ _=>.ret) (by omega)
theorem acS:Pg.Le Af 3:=Pg.iU.bind (gK 7) (below_le 7 (by omega)) (m:=2) (fun r _=>leB ((oQ UN amr).mono (by omega)) (leB ((oQ UO ams).mono (by omega)) (leB (Pg.iU.bind (UL 2) (amo 2 (by omega)) (m:=1) (fun o _=>leB (oQ UQ amt) UY) (by omega)) (UY.mono (by omega))))) (by omega)
theorem Va {e1 e2:Pg aj} {m d:Nat} (h1:Pg.Post (Gd m d) e1) (h2:Pg.Post (Gd m d) e2) (hm:1≤m):Pg.Post (Gd (m+1) (d+1)) (qz e1 e2):=by
 refine (gK 4).bind fun r _=>kL (qy.bind fun x hx=>h1.bind fun t ht=>.ret ?_) (kL (h2.bind fun t ht=>.ret ?_) (PX.imp fun t ht=>ht.mono (by omega) (by omega)))
 ·exact Gd.mk hx jA (by have:=ht.1;simp only [aD];omega) (by have:=ht.2.1;simp only [eP];omega) fun t' ht'=>by rw [List.mem_singleton.1 ht'];exact ht.2.2
 ·exact Gd.mk jA jA (by have:=ht.1;simp only [aD];omega) (by have:=ht.2.1;simp only [eP];omega) fun t' ht'=>by rw [List.mem_singleton.1 ht'];exact ht.2.2
theorem PY {e1 e2:Pg aj} {P Q:aj→Prop} {n:Nat} (h1:Pg.Post P e1) (h2:Pg.Post Q e2) (g1:Pg.Le e1 n) (g2:Pg.Le e2 n):Pg.Le (qz e1 e2) (n+2):=
 Pg.iU.bind (gK 4) (below_le 4 (by omega)) (m:=n+1) (fun r _=>leB (Pg.iU.bind qy PU (m:=n) (fun x _=>oQ h1 g1) (by omega)) (leB ((oQ h2 g2).mono (by omega)) (UY.mono (by omega)))) (by omega)
theorem GY {e:Pg aj} {m d:Nat} (h:Pg.Post (Gd m d) e) (lo hi:Nat) (hl:lo≤hi):Pg.Post (fun ts=>lo≤ts.length∧ts.length≤hi∧aD ts≤hi*m∧eP ts≤d∧∀ t,t∈ts→DC t) (Ag (lo:Int) (hi:Int) e):=by
 refine (gK _).bind fun r hr=>(PV h _).imp fun ts hts=>?_
 obtain ⟨g1,g2,g3⟩:=Gds hts.2
 have hlen:ts.length≤hi:=by rw [hts.1];omega
 exact ⟨by rw [hts.1];omega,hlen,Nat.le_trans g1 (Nat.mul_le_mul_right m hlen),g2,g3⟩
theorem Vb {e:Pg aj} {P:aj→Prop} {n:Nat} (h:Pg.Post P e) (g:Pg.Le e n) (lo hi:Nat) (hl:lo≤hi) (hh:hi≤250):Pg.Le (Ag (lo:Int) (hi:Int) e) (hi*n+1):=
 Pg.iU.bind (gK _) (below_le _ (by omega)) (m:=hi*n) (fun r hr=>(acR h g _).mono (Nat.mul_le_mul_right n (by omega))) (by omega)
theorem mk1 {m d m' d':Nat} {k o:Int} {x:List UInt8} (hx:Sh x) {t:aj} (ht:Gd m d t) (hm:m+1≤m') (hd:d+1≤d'):Gd m' d' ⟨k,o,x,[],[t]⟩:=
 Gd.mk hx jA (by have:=ht.1;simp only [aD];omega) (by have:=ht.2.1;simp only [eP];omega) fun t' ht'=>by rw [List.mem_singleton.1 ht'];exact ht.2.2
theorem mk2 {m d m2 d2 m' d':Nat} {k o:Int} {x:List UInt8} (hx:Sh x) {t u:aj} (ht:Gd m d t) (hu:Gd m2 d2 u) (hm:m+m2+1≤m') (hd:d+1≤d'∧d2+1≤d'):Gd m' d' ⟨k,o,x,[],[t,u]⟩:=
 Gd.mk hx jA (by have:=ht.1;have:=hu.1;simp only [aD];omega) (by have:=ht.2.1;have:=hu.2.1;simp only [eP];omega) fun t' ht'=>by
  simp only [List.mem_cons,List.not_mem_nil,or_false] at ht'
  rcases ht' with rfl | rfl
  ·exact ht.2.2
  ·exact hu.2.2
theorem mk3 {m d m2 d2 m3 d3 m' d':Nat} {k o:Int} {x:List UInt8} (hx:Sh x) {t u v:aj} (ht:Gd m d t) (hu:Gd m2 d2 u) (hv:Gd m3 d3 v) (hm:m+m2+m3+1≤m') (hd:d+1≤d'∧d2+1≤d'∧d3+1≤d'):Gd m' d' ⟨k,o,x,[],[t,u,v]⟩:=
 Gd.mk hx jA (by have:=ht.1;have:=hu.1;have:=hv.1;simp only [aD];omega) (by have:=ht.2.1;have:=hu.2.1;have:=hv.2.1;simp only [eP];omega) fun t' ht'=>by
  simp only [List.mem_cons,List.not_mem_nil,or_false] at ht'
  rcases ht' with rfl | rfl | rfl
  ·exact ht.2.2
  ·exact hu.2.2
  ·exact hv.2.2
theorem Vd {m d m' d' n lo:Nat} {k o:Int} {x:List UInt8} (hx:Sh x) {ts:List aj} (h:lo≤ts.length∧ts.length≤n∧aD ts≤n*m∧eP ts≤d∧∀ t,t∈ts→DC t) (hm:n*m+1≤m') (hd:d+1≤d'):Gd m' d' ⟨k,o,x,[],ts⟩:=
 Gd.mk hx jA (by have:=h.2.2.1;omega) (by have:=h.2.2.2.1;omega) h.2.2.2.2
theorem acT {e1 e2 e3:Pg aj} {m d d2 D:Nat} (h1:Pg.Post (Gd m d) e1) (h2:Pg.Post (Gd m d2) e2) (h3:Pg.Post (Gd m d2) e3) (hm:1≤m) (w1:d+1≤D) (w2:d2+2≤D):Pg.Post (Gd (4*m) D) (Lv e1 e2 e3):=by
 have hlv:Pg.Post (Gd (m+1) (d2+1)) (qz e2 e3):=Va h2 h3 hm
 have hlv1:Pg.Post (Gd (m+1) D) (qz e1 e2):=by
  obtain ⟨k,rfl⟩:∃ k,D=k+1:=⟨D - 1,by omega⟩
  exact Va (h1.imp fun t ht=>ht.mono (by omega) (by omega)) (h2.imp fun t ht=>ht.mono (by omega) (by omega)) hm
 have hK:∀ r y,Pg.Post (Gd (4*m) D) (GX e1 e2 e3 r y):=fun r y=>by
  refine kL ?_ (kL ?_ (kL ?_ (kL ?_ ?_)))
  ·exact (Lp (P:=fun _=>True) _ (by decide) fun _ _=>trivial).bind fun o _=>h1.bind fun t ht=>.ret (mk1 jA ht (by omega) (by omega))
  ·exact qy.bind fun x hx=>(GY h1 1 2 (by omega)).bind fun ts hts=>.ret (Vd hx hts (by omega) (by omega))
  ·exact h1.bind fun t ht=>h1.bind fun u hu=>h1.bind fun v hv=>.ret (mk3 jA ht hu hv (by omega) (by omega))
  ·exact (Lp (P:=fun _=>True) _ (by decide) fun _ _=>trivial).bind fun o _=>hlv.bind fun t ht=>h1.bind fun u hu=>.ret (mk2 jA ht hu (by omega) (by omega))
  ·exact UR.bind fun o _=>h1.bind fun t ht=>h1.bind fun u hu=>.ret (mk2 jA ht hu (by omega) (by omega))
 refine (gK 2).bind fun a _=>(gK 16).bind fun r _=>kL (Uv.imp fun t ht=>ht.mono (by omega) (by omega)) (kL (hlv1.imp fun t ht=>ht.mono (by omega) (by omega)) (kL ?_ (kL ?_ (kL ?_ (kL ?_ (kL ?_ (kL (hK _ _) (hK _ _))))))))
 ·exact h1.bind fun t ht=>.ret (mk1 jA ht (by omega) (by omega))
 ·exact qy.bind fun x hx=>(GY h1 0 3 (by omega)).bind fun ts hts=>.ret (Vd hx hts (by omega) (by omega))
 ·exact (Dz _ (by decide) (by decide)).bind fun x hx=>(GY h2 0 3 (by omega)).bind fun ts hts=>.ret (Vd hx hts (by omega) (by omega))
 ·exact hlv.bind fun t ht=>.ret (mk1 jA ht (by omega) (by omega))
 ·exact hlv.bind fun t ht=>.ret (mk1 jA ht (by omega) (by omega))
theorem amF {e1 e2 e3:Pg aj} {P Q R:aj→Prop} {n:Nat} (h1:Pg.Post P e1) (h2:Pg.Post Q e2) (h3:Pg.Post R e3) (g1:Pg.Le e1 n) (g2:Pg.Le e2 n) (g3:Pg.Le e3 n) (hn:3≤n):Pg.Le (Lv e1 e2 e3) (3*n+4):=by
 have tr:∀ {α:Type} {p:Pg α} {P:α→Prop},Pg.Post P p→Pg.Post (fun _=>True) p:=fun h=>h.imp fun _ _=>trivial
 have Ve:Pg.Post (fun _=>True) (qz e2 e3):=(gK 4).bind fun r _=>kL (qy.bind fun x _=>h2.bind fun t _=>.ret trivial) (kL (h3.bind fun t _=>.ret trivial) (tr PX))
 have lT:∀ lo hi:Int,∀ e:Pg aj,Pg.Post (fun _=>True) e→Pg.Post (fun _=>True) (Ag lo hi e):=fun lo hi e he=>(gK _).bind fun r _=>tr (PV he _)
 have pI:∀ l:List Int,0 < l.length→Pg.Post (fun _=>True) (xH l):=fun l hl=>Lp l hl fun _ _=>trivial
 have hK:∀ r y,Pg.Le (GX e1 e2 e3 r y) (3*n+2):=fun r y=>by
  refine leB ?_ (leB ?_ (leB ?_ (leB ?_ ?_)))
  ·exact Pg.iU.bind (pI _ (by decide)) (UM _ (by decide)) (m:=n) (fun o _=>oQ h1 g1) (by omega)
  ·exact Pg.iU.bind qy PU (m:=2*n+1) (fun x _=>oQ (lT 1 2 e1 (tr h1)) (Vb h1 g1 1 2 (by omega) (by omega))) (by omega)
  ·exact Pg.iU.bind h1 g1 (m:=2*n) (fun t _=>Pg.iU.bind h1 g1 (m:=n) (fun u _=>oQ h1 g1) (by omega)) (by omega)
  ·exact Pg.iU.bind (pI _ (by decide)) (UM _ (by decide)) (m:=2*n+2) (fun o _=>Pg.iU.bind Ve (PY h2 h3 g2 g3) (m:=n) (fun t _=>oQ h1 g1) (by omega)) (by omega)
  ·exact Pg.iU.bind UR amu (m:=2*n) (fun o _=>Pg.iU.bind h1 g1 (m:=n) (fun t _=>oQ h1 g1) (by omega)) (by omega)
 refine Pg.iU.bind (gK 2) (below_le 2 (by omega)) (m:=3*n+3) (fun a _=>Pg.iU.bind (gK 16) (below_le 16 (by omega)) (m:=3*n+2) (fun r _=>leB (acS.mono (by omega)) (leB ((PY h1 h2 g1 g2).mono (by omega)) (leB ((oQ h1 g1).mono (by omega)) (leB ?_ (leB ?_ (leB ((oQ Ve (PY h2 h3 g2 g3)).mono (by omega)) (leB ((oQ Ve (PY h2 h3 g2 g3)).mono (by omega)) (leB (hK _ _) (hK _ _))))))))) (by omega)) (by omega)
 ·exact Pg.iU.bind qy PU (m:=3*n+1) (fun x _=>oQ (lT 0 3 e1 (tr h1)) (Vb h1 g1 0 3 (by omega) (by omega))) (by omega)
 ·exact Pg.iU.bind (Dz _ (by decide) (by decide)) (Lm _ (by decide)) (m:=3*n+1) (fun x _=>oQ (lT 0 3 e2 (tr h2)) (Vb h2 g2 0 3 (by omega) (by omega))) (by omega)
theorem jQ:∀ d,Pg.Post (Gd (pw d) (oP d)) (iB d):=by
 intro d
 induction d using Nat.strongRecOn with
 | _ d ih=>
  cases d with
  | zero=>exact Uv
  | succ d=>
   rw [UW]
   have hp:=UF d
   have a:=ih d (by omega)
   have b:=ih (d - 1) (by omega)
   have c:=ih (d - 2) (by omega)
   have b':Pg.Post (Gd (pw d) (oP (d - 1))) (iB (d - 1)):=b.imp fun t ht=>ht.mono (vF (by omega)) (by omega)
   have c':Pg.Post (Gd (pw d) (oP (d - 2))) (iB (d - 2)):=c.imp fun t ht=>ht.mono (vF (by omega)) (by omega)
   have e4:pw (d+1)=4*pw d:=by rw [pw]
   rw [e4]
   by_cases h0:d=0
   ·subst h0
    exact acT (d:=1) (d2:=1) a b c (by omega) (by decide) (by decide)
   ·have hd:oP d=d+2:=by unfold oP;rw [if_neg h0]
    have hd1:oP (d+1)=d+3:=by unfold oP;rw [if_neg (by omega)]
    have hd2:oP (d - 1)≤d+1:=by unfold oP;split<;>omega
    have hd3:oP (d - 2)≤d+1:=by unfold oP;split<;>omega
    rw [hd] at a
    rw [hd1]
    exact acT (d2:=d+1) a (b'.imp fun t ht=>ht.mono (by omega) (by omega)) (c'.imp fun t ht=>ht.mono (by omega) (by omega)) (by omega) (by omega) (by omega)
theorem amG:∀ d,Pg.Le (iB d) (eb d):=by
 intro d
 induction d using Nat.strongRecOn with
 | _ d ih=>
  cases d with
  | zero=>exact acS
  | succ d=>
   rw [UW]
   have h3:3≤eb d:=by have:=PW (a:=0) (c:=d) (by omega);rw [eb] at this;exact this
   exact amF (jQ d) (jQ (d - 1)) (jQ (d - 2)) (ih d (by omega)) ((ih (d - 1) (by omega)).mono (PW (by omega))) ((ih (d - 2) (by omega)).mono (PW (by omega))) h3
end Go.Proofs.Tryz
