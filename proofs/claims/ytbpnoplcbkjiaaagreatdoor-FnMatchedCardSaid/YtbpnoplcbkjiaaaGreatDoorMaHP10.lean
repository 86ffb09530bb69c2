/-
 Plain lemmas on the models, part 10.
-/
import Derived.Test.YtbpnoplcbkjiaaaGreatDoorMaHP9
namespace Go.Proofs.Tryz
open Go.Av
set_option maxRecDepth 100000
set_option linter.unusedSimpArgs false
set_option linter.unusedVariables false
section
set_option linter.unusedSectionVars false
variable (b:List UInt8) (hb:b.length≤1048576) (N:Nat) (hN:2100000≤N)
include hb hN
omit hN in
theorem ajH:∀ (n j:Nat) (h:Int),b.length - j < n→j≤b.length→∃ r,Bo N n (b,h,(j:Int))=some (b,0,r):=by
 intro n
 induction n with
 | zero=>intro j h hn;omega
 | succ n ih=>
  intro j h hn hj
  rw [Bo]
  by_cases hlt:j < b.length
  ·have e:ix b (j:Int)=some b[j]:=aP hlt
   simp only [bN hlt,cond_true,au]
   cases decide ((j:Int) < 4000) with
   | true=>
    rw [cond_true,e,au,wrap64 (n:=(j:Int)+1) (by omega) (by omega),show (j:Int)+1=((j+1:Nat):Int) by omega]
    exact ih (j+1) _ (by omega) (by omega)
   | false=>exact ⟨_,rfl⟩
  ·simp only [bT hlt,cond_false,au]
   exact ⟨_,rfl⟩
theorem aaW:∃ h,IL N b=some (b,0,h):=ajH b hb N N 0 _ (by omega) (by omega)
end
section
set_option linter.unusedSectionVars false
variable (b:List UInt8) (hb:b.length≤1048576) (N:Nat) (hN:18446744073709551657+2097152≤N)
include hb hN
theorem ajI (i h:Int) (h0:0≤i) (h1:i≤(b.length:Int)):Dr b (fun L=>∃ t,L=av 0 t∧Gd 60 6 t) (Jh N b i h):=by
 obtain ⟨i,rfl⟩:=Int.eq_ofNat_of_zero_le h0
 have e:Jh N b (i:Int) h=_:=ajJ b hb (N:=N) (by omega) N i h (by omega)
 have hs:=ajK b N (by omega) i h (by omega)
 cases hl:Pg.loop b mE (fits 60) N i h with
 | none=>rw [hl] at hs;cases hs
 | some r=>
  obtain ⟨g1,g2,g3⟩:=Pg.aaX b ajL (fits 60) N i h r (by omega) hl
  rw [e,hl]
  exact ⟨_,_,_,rfl,⟨r.1,rfl,Nat.le_of_ble_eq_true g2,g1.2⟩,by omega,by omega⟩
end
end Go.Proofs.Tryz
