/-
 Plain lemmas on the models, part 6.
-/
import Derived.Test.YtbpnoplcbkjiaaaGreatDoorMaHP5
namespace Go.Proofs.Tryz
open Go.Av
set_option maxRecDepth 100000
set_option linter.unusedSimpArgs false
set_option linter.unusedVariables false
section
set_option linter.unusedSectionVars false
variable (b:List UInt8) (hb:b.length≤1048576)
include hb
theorem acU (i:Nat) (h:Int) (hi:i≤b.length):Sm b GV (av 0) i h (IU b ((i:Int),h)):=Sm.bind hi qy (Lu b hb i h hi) fun x i h _ hi=>Sm.ret
theorem Uu (i:Nat) (h:Int) (hi:i≤b.length):Sm b Af (av 0) i h (yQ b (i:Int) h):=by
 unfold yQ Af
 refine Sm.bind hi (gK 7) (xI b hb 7 i h hi) fun r i h _ hi=>?_
 dsimp only
 refine Sm.cond (fun _=>Sm.bind hi UN (amw b hb i h hi) fun x i h _ hi=>Sm.ret) fun _=>Sm.cond (fun _=>Sm.bind hi UO (amx b hb i h hi) fun x i h _ hi=>Sm.ret) fun _=>Sm.cond (fun _=>?_) fun _=>acU b hb i h hi
 refine Sm.bind hi (UL 2) (amv b hb 2 i h hi) fun o i h _ hi=>?_
 dsimp only
 exact Sm.cond (fun _=>Sm.bind hi UQ (amy b hb i h hi) fun x i h _ hi=>Sm.ret) fun _=>acU b hb i h hi
theorem sJ {α:Type} {N:Nat} (hN:1048577 < N) (k o:Int) (x y:List UInt8) (ts:List aj) (hs:aD ts≤900000) (i:Nat) (h:Int):Sm b (.ret (⟨k,o,x,y,ts⟩:aj)) (av 0) i h ((iw N ⟨k,o,x,y,[]⟩ (ts.map (av 0))).bind fun r=>some (r,(i:Int),h)):=by
 rw [Ab N ⟨k,o,x,y,[]⟩ ts hN hs,au]
 exact Sm.ret
def XS (N d:Nat):Prop:=∀ (deep:Int) (i:Nat) (h:Int),deep.toNat=d→ -1000≤deep→deep≤1000→i≤b.length→Sm b (iB d) (av 0) i h ((jv N).eD deep b (i:Int) h)
theorem acV {N d:Nat} (hN:1048577 < N) (hd:d≤6) (h1:XS b N (d - 1)) (h2:XS b N (d - 2)) (deep:Int) (i:Nat) (h:Int) (hdp:deep.toNat=d) (g1: -900≤deep) (hi:i≤b.length):Sm b (qz (iB (d - 1)) (iB (d - 2))) (av 0) i h ((jv (N+1)).oF deep b (i:Int) h):=by
 have z1:pw (d - 1)≤4096:=vF (a:=d - 1) (c:=6) (by omega)
 have z2:pw (d - 2)≤4096:=vF (a:=d - 2) (c:=6) (by omega)
 show Sm b _ _ i h (IX N (jv N) deep b (i:Int) h)
 unfold IX qz
 refine Sm.bind hi (gK 4) (xI b hb 4 i h hi) fun r i h _ hi=>?_
 dsimp only
 refine Sm.cond (fun _=>?_) fun _=>Sm.cond (fun _=>?_) fun _=>Sm.bind hi qy (Lu b hb i h hi) fun x i h _ hi=>Sm.ret
 ·refine Sm.bind hi qy (Lu b hb i h hi) fun x i h _ hi=>?_
  dsimp only
  rw [wrap64 (n:=deep - 1) (by omega) (by omega)]
  refine Sm.bind hi (jQ (d - 1)) (h1 (deep - 1) i h (by omega) (by omega) (by omega) hi) fun t i h ht hi=>?_
  exact sJ (α:=Unit) b hb hN 5 0 x [] [t] (by have:=ht.1;simp only [aD];omega) i h
 ·rw [wrap64 (n:=deep - 2) (by omega) (by omega)]
  refine Sm.bind hi (jQ (d - 2)) (h2 (deep - 2) i h (by omega) (by omega) (by omega) hi) fun t i h ht hi=>?_
  exact sJ (α:=Unit) b hb hN 6 0 [] [] [t] (by have:=ht.1;simp only [aD];omega) i h
theorem amH {N d:Nat} (hX:XS b N d) (deep:Int) (hdp:deep.toNat=d) (g1: -900≤deep) (g2:deep≤900):∀ (n c:Nat) (i:Nat) (h:Int) (acc:List (List ak)),c < n→acc.length+c≤100→i≤b.length→
  Sm b (GU (iB d) c) (fun ts=>acc++ts.map (av 0)) i h (Bt N (jv N) b n (deep,(c:Int),(i:Int),h,acc)):=by
 intro n
 induction n with
 | zero=>intro c i h acc hc;omega
 | succ n ih=>
  intro c i h acc hc ha hi
  rw [Bt]
  cases c with
  | zero=>
   have:decide (((0:Nat):Int) > 0)=false:=rfl
   rw [this,cond_false]
   show _=some (acc++[].map (av 0),_,_)
   rw [List.map_nil,List.append_nil]
   rfl
  | succ c=>
   have:decide (((c+1:Nat):Int) > 0)=true:=decide_eq_true (by omega)
   rw [this,cond_true,GU]
   refine Sm.bind hi (jQ d) (hX deep i h hdp (by omega) (by omega) hi) fun t i h ht hi=>?_
   dsimp only
   rw [gq (by simp;omega),au,wrap64 (by omega) (by omega),show ((c+1:Nat):Int) - 1=(c:Int) by omega]
   have:=ih c i h (acc++[av 0 t]) (by omega) (by simp;omega) hi
   unfold Sm at this ⊢
   rw [this,Pg.run_bind]
   simp [Pg.run]
theorem Vf {N d:Nat} (hN:200 < N) (hX:XS b N d) (lo hi':Nat) (hl:lo≤hi') (hh:hi'≤90) (deep:Int) (hdp:deep.toNat=d) (g1: -900≤deep) (g2:deep≤900) (i:Nat) (h:Int) (hi:i≤b.length):
  Sm b (Ag (lo:Int) (hi':Int) (iB d)) (fun ts=>ts.map (av 0)) i h ((jv (N+1)).tY (lo:Int) (hi':Int) deep b (i:Int) h):=by
 show Sm b _ _ i h (IW N (jv N) (lo:Int) (hi':Int) deep b (i:Int) h)
 unfold IW Ag
 rw [wrap64 (n:=(hi':Int) - lo) (by omega) (by omega),wrap64 (n:=(hi':Int) - lo+1) (by omega) (by omega)]
 refine Sm.bind hi (gK _) (xI b hb _ i h hi) fun r i h hr hi=>?_
 dsimp only
 obtain ⟨c,rfl⟩:=Int.eq_ofNat_of_zero_le hr.1
 have hc:c≤hi' - lo:=by rcases hr.2 with h | h<;>omega
 rw [wrap64 (by omega) (by omega),show (lo:Int)+(c:Int)=((lo+c:Nat):Int) by omega,Int.toNat_natCast]
 have:=amH b hb hX deep hdp g1 g2 N (lo+c) i h [] (by omega) (by simp;omega) hi
 exact this
theorem amI {N:Nat} (hN:1≤N):XS b N 0:=by
 intro deep i h hd h1 h2 hi
 obtain ⟨N,rfl⟩:∃ m,N=m+1:=⟨N - 1,by omega⟩
 show Sm b _ _ i h (BD N (jv N) deep b (i:Int) h)
 unfold BD
 have:decide (deep≤0)=true:=decide_eq_true (by omega)
 rw [this,cond_true]
 exact Sm.sG (Uu b hb i h hi)
theorem amJ {N d:Nat} (hN:1048577 < N) (hdd:d≤5) (hA:∀ e,e≤d→XS b (N+1) e) (hB:∀ e,e≤d→XS b N e):XS b (N+1+1) (d+1):=by
 intro deep i h hd g1 g2 hi
 have hp:=UF d
 have hpb:pw d≤4096:=vF (a:=d) (c:=6) (by omega)
 have aur:pw (d - 1)≤4096:=vF (a:=d - 1) (c:=6) (by omega)
 have aus:pw (d - 2)≤4096:=vF (a:=d - 2) (c:=6) (by omega)
 have w1:IntKind.wrap .i64 (deep - 1)=deep - 1:=wrap64 (by omega) (by omega)
 have w2:IntKind.wrap .i64 (deep - 2)=deep - 2:=wrap64 (by omega) (by omega)
 show Sm b _ _ i h (BD (N+1) (jv (N+1)) deep b (i:Int) h)
 rw [UW]
 unfold BD Lv
 have:decide (deep≤0)=false:=decide_eq_false (by omega)
 rw [this,cond_false]
 have e1:∀ (i:Nat) h,i≤b.length→Sm b (iB d) (av 0) i h ((jv (N+1)).eD (deep - 1) b (i:Int) h):=fun i h hi=>hA d (by omega) (deep - 1) i h (by omega) (by omega) (by omega) hi
 have lv0:∀ (i:Nat) h,i≤b.length→Sm b (qz (iB d) (iB (d - 1))) (av 0) i h ((jv (N+1)).oF deep b (i:Int) h):=fun i h hi=>by
  have:=acV b hb (d:=d+1) hN (by omega) (by rw [Nat.add_sub_cancel];exact hB d (by omega)) (hB (d+1 - 2) (by omega)) deep i h hd (by omega) hi
  rw [Nat.add_sub_cancel,show d+1 - 2=d - 1 by omega] at this
  exact this
 have Vg:∀ (i:Nat) h,i≤b.length→Sm b (qz (iB (d - 1)) (iB (d - 2))) (av 0) i h ((jv (N+1)).oF (deep - 1) b (i:Int) h):=fun i h hi=>
  acV b hb (d:=d) hN (by omega) (hB (d - 1) (by omega)) (hB (d - 2) (by omega)) (deep - 1) i h (by omega) (by omega) hi
 have Lx:∃ m D,m≤5000∧Pg.Post (Gd m D) (qz (iB (d - 1)) (iB (d - 2))):=⟨pw d+1,oP (d - 1)+oP (d - 2)+1,by omega,Va ((jQ (d - 1)).imp fun t ht=>ht.mono (vF (by omega)) (by omega)) ((jQ (d - 2)).imp fun t ht=>ht.mono (vF (by omega)) (by omega)) (by omega)⟩
 obtain ⟨ml,dl,hml,Lx⟩:=Lx
 have pI:∀ l:List Int,0 < l.length→Pg.Post (fun _=>True) (xH l):=fun l hl=>Lp l hl fun _ _=>trivial
 refine Sm.bind hi (gK 2) (xI b hb 2 i h hi) fun a i h ha hi=>?_
 dsimp only
 refine Sm.bind hi (gK 16) (xI b hb 16 i h hi) fun r i h hr hi=>?_
 dsimp only
 have wa:IntKind.wrap .i64 (51+a)=51+a:=wrap64 (by omega) (by omega)
 rw [wa]
 have hK:∀ y:Bool,Sm b (GX (iB d) (iB (d - 1)) (iB (d - 2)) r y) (av 0) i h (Fp (N+1) (jv (N+1)) b (deep,(r,(i:Int),h),y)):=fun y=>by
  unfold Fp GX
  dsimp only
  rw [w1]
  refine Sm.cond (fun _=>?_) fun _=>Sm.cond (fun _=>?_) fun _=>Sm.cond (fun _=>?_) fun _=>Sm.cond (fun _=>?_) fun _=>?_
  ·refine Sm.bind hi (pI _ (by decide)) (UU b hb _ (by decide) i h hi) fun o i h _ hi=>?_
   dsimp only
   refine Sm.bind hi (jQ d) (e1 i h hi) fun t i h ht hi=>?_
   exact sJ (α:=Unit) b hb (by omega) 11 o [] [] [t] (by have:=ht.1;simp only [aD];omega) i h
  ·refine Sm.bind hi qy (Lu b hb i h hi) fun x i h _ hi=>?_
   dsimp only
   refine Sm.bind hi (GY (jQ d) 1 2 (by omega)) (Vf b hb (N:=N) (by omega) (hB d (by omega)) 1 2 (by omega) (by omega) (deep - 1) (by omega) (by omega) (by omega) i h hi) fun ts i h hts hi=>?_
   exact sJ (α:=Unit) b hb (by omega) 13 0 x [] ts (by have:=hts.2.2.1;omega) i h
  ·refine Sm.bind hi (jQ d) (e1 i h hi) fun t i h ht hi=>?_
   dsimp only
   refine Sm.bind hi (jQ d) (e1 i h hi) fun u i h hu hi=>?_
   dsimp only
   refine Sm.bind hi (jQ d) (e1 i h hi) fun v i h hv hi=>?_
   exact sJ (α:=Unit) b hb (by omega) 14 0 [] [] [t,u,v] (by have:=ht.1;have:=hu.1;have:=hv.1;simp only [aD];omega) i h
  ·refine Sm.bind hi (pI _ (by decide)) (UU b hb _ (by decide) i h hi) fun o i h _ hi=>?_
   dsimp only
   refine Sm.bind hi Lx (Vg i h hi) fun t i h ht hi=>?_
   dsimp only
   refine Sm.bind hi (jQ d) (e1 i h hi) fun u i h hu hi=>?_
   exact sJ (α:=Unit) b hb (by omega) 15 o [] [] [t,u] (by have:=ht.1;have:=hu.1;simp only [aD];omega) i h
  ·refine Sm.bind hi UR (amA b hb i h hi) fun o i h _ hi=>?_
   dsimp only
   refine Sm.bind hi (jQ d) (e1 i h hi) fun t i h ht hi=>?_
   dsimp only
   refine Sm.bind hi (jQ d) (e1 i h hi) fun u i h hu hi=>?_
   exact sJ (α:=Unit) b hb (by omega) 12 o [] [] [t,u] (by have:=ht.1;have:=hu.1;simp only [aD];omega) i h
 refine Sm.cond (fun _=>Sm.sG (Uu b hb i h hi)) fun _=>Sm.cond (fun _=>Sm.sG (lv0 i h hi)) fun _=>Sm.cond (fun _=>?_) fun _=>Sm.cond (fun _=>?_) fun _=>Sm.cond (fun _=>?_) fun _=>Sm.cond (fun _=>?_) fun _=>Sm.cond (fun _=>?_) fun _=>Sm.cond (fun _=>hK _) fun _=>hK _
 ·rw [w1]
  refine Sm.bind hi (jQ d) (e1 i h hi) fun t i h ht hi=>?_
  exact sJ (α:=Unit) b hb (by omega) 6 0 [] [] [t] (by have:=ht.1;simp only [aD];omega) i h
 ·refine Sm.bind hi qy (Lu b hb i h hi) fun x i h _ hi=>?_
  dsimp only
  rw [w1]
  refine Sm.bind hi (GY (jQ d) 0 3 (by omega)) (Vf b hb (N:=N) (by omega) (hB d (by omega)) 0 3 (by omega) (by omega) (deep - 1) (by omega) (by omega) (by omega) i h hi) fun ts i h hts hi=>?_
  exact sJ (α:=Unit) b hb (by omega) 7 0 x [] ts (by have:=hts.2.2.1;omega) i h
 ·refine Sm.bind hi (Dz _ (by decide) (by decide)) (Ls b hb _ (by decide) i h hi) fun x i h _ hi=>?_
  dsimp only
  rw [w2]
  refine Sm.bind hi (GY (jQ (d - 1)) 0 3 (by omega)) (Vf b hb (N:=N) (by omega) (hB (d - 1) (by omega)) 0 3 (by omega) (by omega) (deep - 2) (by omega) (by omega) (by omega) i h hi) fun ts i h hts hi=>?_
  exact sJ (α:=Unit) b hb (by omega) 8 0 x [] ts (by have:=hts.2.2.1;omega) i h
 ·rw [w1]
  refine Sm.bind hi Lx (Vg i h hi) fun t i h ht hi=>?_
  exact sJ (α:=Unit) b hb (by omega) 9 (51+a) [] [] [t] (by have:=ht.1;simp only [aD];omega) i h
 ·rw [w1]
  refine Sm.bind hi Lx (Vg i h hi) fun t i h ht hi=>?_
  exact sJ (α:=Unit) b hb (by omega) 10 (51+a) [] [] [t] (by have:=ht.1;simp only [aD];omega) i h
theorem xs_all:∀ (d N:Nat),d≤6→1048580+3*d≤N→XS b N d:=by
 intro d
 induction d using Nat.strongRecOn with
 | _ d ih=>
  intro N hd hN
  cases d with
  | zero=>exact amI b hb (by omega)
  | succ d=>
   obtain ⟨N,rfl⟩:∃ m,N=m+1+1:=⟨N - 2,by omega⟩
   exact amJ b hb (by omega) (by omega) (fun e he=>ih e (by omega) (N+1) (by omega) (by omega)) (fun e he=>ih e (by omega) N (by omega) (by omega))
theorem abM (N d:Nat) (hd:d≤6) (hN:1048700≤N) (deep:Int) (hdp:deep.toNat=d) (g1: -1000≤deep) (g2:deep≤1000) (i:Nat) (h:Int) (hi:i≤b.length):Sm b (iB d) (av 0) i h (eD N deep b (i:Int) h):=xs_all b hb d N hd (by omega) deep i h hdp g1 g2 hi
def mE:Pg aj:=(nS 4).bind fun r=>iB (1+r).toNat
def fits (m:Nat) (t:aj):Bool:=Nat.ble (aB t) m
omit hb in
theorem ajL:Pg.Post (Gd 256 6) mE:=(gK 4).bind fun r hr=>(jQ _).imp fun t ht=>ht.mono (vF (a:=(1+r).toNat) (c:=4) (by omega)) (by unfold oP;split<;>omega)
omit hb in
theorem amL:Pg.Le mE 404:=Pg.iU.bind (gK 4) (below_le 4 (by omega)) (m:=403) (fun r hr=>(amG _).mono (PW (a:=(1+r).toNat) (c:=4) (by omega))) (by omega)
theorem ajJ {N:Nat} (hN:1048700≤N):∀ (n i:Nat) (h:Int),i≤b.length→BL N b n ((i:Int),h)=(Pg.loop b mE (fits 60) n i h).map fun r=>(av 0 r.1,(r.2.1:Int),r.2.2):=by
 intro n
 induction n with
 | zero=>intro i h hi;rfl
 | succ n ih=>
  intro i h hi
  have hs:Sm b mE (av 0) i h ((jK 4 b (i:Int) h).bind fun r9=>eD N (IntKind.wrap .i64 (1+r9.1)) b r9.2.1 r9.2.2):=by
   refine Sm.bind hi (gK 4) (xI b hb 4 i h hi) fun r i h hr hi=>?_
   dsimp only
   rw [wrap64 (by omega) (by omega)]
   exact abM b hb N _ (by omega) hN (1+r) rfl (by omega) (by omega) i h hi
  rw [BL,Pg.loop]
  unfold Sm at hs
  have e:∀ g:(List ak×Int×Int)→Option (List ak×Int×Int),((jK 4 b (i:Int) h).bind fun r9=>Option.bind (eD N (IntKind.wrap .i64 (1+r9.1)) b r9.2.1 r9.2.2) g)=Option.bind ((jK 4 b (i:Int) h).bind fun r9=>eD N (IntKind.wrap .i64 (1+r9.1)) b r9.2.1 r9.2.2) g:=fun g=>by
   cases jK 4 b (i:Int) h<;>rfl
  rw [e,hs,au]
  dsimp only
  have hf:decide (((av 0 (Pg.run b mE i h).1).length:Int)≤60)=fits 60 (Pg.run b mE i h).1:=by
   rw [bD]
   unfold fits
   cases hc:Nat.ble (aB (Pg.run b mE i h).1) 60 with
   | true=>have:=Nat.le_of_ble_eq_true hc;exact decide_eq_true (by omega)
   | false=>refine decide_eq_false fun hh=>?_;rw [Nat.ble_eq_true_of_le (by omega)] at hc;cases hc
  rw [hf]
  cases fits 60 (Pg.run b mE i h).1 with
  | true=>rfl
  | false=>rw [cond_false,cond_false];exact ih _ _ (Pg.Dx b mE i h hi)
end
end Go.Proofs.Tryz
