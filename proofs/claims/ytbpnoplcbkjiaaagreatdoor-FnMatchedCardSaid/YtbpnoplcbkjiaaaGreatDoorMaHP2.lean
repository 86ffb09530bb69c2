/-
 Plain lemmas on the models, part 2.
-/
import Derived.Test.YtbpnoplcbkjiaaaGreatDoorMaHP1
namespace Go.Proofs.Tryz
open Go.Av
set_option maxRecDepth 100000
set_option linter.unusedSimpArgs false
set_option linter.unusedVariables false
theorem akZ (op:Int):∃ (b:Bool) (l:Int),Ke op=some b∧JD op=some l∧(l !=0)=b:=by
 rcases Decidable.em (op=60) with rfl | h60
 ·exact ⟨true,_,rfl,rfl,rfl⟩
 rcases Decidable.em (op=57) with rfl | h57
 ·exact ⟨true,_,rfl,rfl,rfl⟩
 rcases Decidable.em (op=58) with rfl | eF
 ·exact ⟨true,_,rfl,rfl,rfl⟩
 rcases Decidable.em (op=59) with rfl | mY
 ·exact ⟨true,_,rfl,rfl,rfl⟩
 rcases Decidable.em (op=55) with rfl | h55
 ·exact ⟨true,_,rfl,rfl,rfl⟩
 rcases Decidable.em (op=56) with rfl | lu
 ·exact ⟨true,_,rfl,rfl,rfl⟩
 rcases Decidable.em (op=99) with rfl | h99
 ·exact ⟨true,_,rfl,rfl,rfl⟩
 rcases Decidable.em (op=63) with rfl | h63
 ·exact ⟨true,_,rfl,rfl,rfl⟩
 rcases Decidable.em (op=48) with rfl | h48
 ·exact ⟨true,_,rfl,rfl,rfl⟩
 rcases Decidable.em (op=47) with rfl | h47
 ·exact ⟨true,_,rfl,rfl,rfl⟩
 rcases Decidable.em (op=50) with rfl | h50
 ·exact ⟨true,_,rfl,rfl,rfl⟩
 rcases Decidable.em (op=62) with rfl | h62
 ·exact ⟨true,_,rfl,rfl,rfl⟩
 rcases Decidable.em (op=49) with rfl | mZ
 ·exact ⟨true,_,rfl,rfl,rfl⟩
 rcases Decidable.em (op=67) with rfl | h67
 ·exact ⟨true,_,rfl,rfl,rfl⟩
 rcases Decidable.em (op=46) with rfl | h46
 ·exact ⟨true,_,rfl,rfl,rfl⟩
 rcases Decidable.em (op=45) with rfl | h45
 ·exact ⟨true,_,rfl,rfl,rfl⟩
 rcases Decidable.em (op=44) with rfl | gX
 ·exact ⟨true,_,rfl,rfl,rfl⟩
 have e:∀ k,op≠k→(op==k)=false:=fun k h=>by simpa using h
 refine ⟨false,0,?_,?_,rfl⟩
 ·unfold Ke
  rw [e 60 h60,e 57 h57,e 58 eF,e 59 mY,e 55 h55,e 56 lu,e 99 h99,e 63 h63,e 48 h48,e 47 h47,e 50 h50,e 62 h62,e 49 mZ,e 67 h67,e 46 h46,e 45 h45,e 44 gX]
  rfl
 ·unfold JD JC wL JB FV
  simp only [e 60 h60,e 57 h57,e 58 eF,e 59 mY,e 55 h55,e 56 lu,e 99 h99,e 63 h63,e 48 h48,e 47 h47,e 50 h50,e 62 h62,e 49 mZ,e 67 h67,e 46 h46,e 45 h45,e 44 gX,cond_false]
theorem ala (N:Nat) (t:List UInt8) (hN:100 < N):uh N [[],[62],[62,62],[124]] t=some (t==[]||(t==[62]||(t==[62,62]||t==[124]))):=by
 obtain ⟨N,rfl⟩:∃ M,N=M+5:=⟨N - 5,by omega⟩
 unfold uh BU
 rcases Decidable.em (t=[]) with rfl | h1
 ·rfl
 rcases Decidable.em (t=[62]) with rfl | h2
 ·rfl
 rcases Decidable.em (t=[62,62]) with rfl | h3
 ·rfl
 rcases Decidable.em (t=[124]) with rfl | h4
 ·rfl
 have e:∀ k:List UInt8,t≠k→(t==k)=false:=fun k h=>by simpa using h
 have i0:ix [([]:List UInt8),[62],[62,62],[124]] 0=some []:=rfl
 have i1:ix [([]:List UInt8),[62],[62,62],[124]] 1=some [62]:=rfl
 have i2:ix [([]:List UInt8),[62],[62,62],[124]] 2=some [62,62]:=rfl
 have i3:ix [([]:List UInt8),[62],[62,62],[124]] 3=some [124]:=rfl
 have w1:IntKind.wrap .i64 ((0:Int)+1)=1:=rfl
 have w2:IntKind.wrap .i64 ((1:Int)+1)=2:=rfl
 have w3:IntKind.wrap .i64 ((2:Int)+1)=3:=rfl
 have w4:IntKind.wrap .i64 ((3:Int)+1)=4:=rfl
 have d:∀ k:Int,k < 4→decide (k < ((List.length [([]:List UInt8),[62],[62,62],[124]]:Nat):Int))=true:=fun k h=>decide_eq_true h
 have d4:decide ((4:Int) < ((List.length [([]:List UInt8),[62],[62,62],[124]]:Nat):Int))=false:=rfl
 simp only [uW,d 0 (by omega),d 1 (by omega),d 2 (by omega),d 3 (by omega),d4,i0,i1,i2,i3,w1,w2,w3,w4,e _ h1,e _ h2,e _ h3,e _ h4,cond_true,cond_false,au,Bool.or_false,Bool.or_self]
 rfl
def FK (n:ak):Prop:=
 (n.Kind=28→2≤n.Kids.length∧n.Kids.length≤3)∧(n.Kind=29→n.Kids.length=2)∧(n.Kind=30→n.Kids.length=2)∧(n.Kind=31→n.Kids.length=4)∧
 (n.Kind=42→n.Op=1∧n.Kids.length=1∨n.Op=2∧n.Kids.length=1∨n.Op=3∧n.Kids.length=2)∧(n.Kind=43→n.Op=1∧n.Kids.length=2∨n.Op=3∧n.Kids.length=3)∧
 (n.Kind=12→n.Kids.length=2∧n.Text=[]∧n.Other=[])∧(n.Kind=11→n.Kids.length=1∧n.Text=[]∧n.Other=[])
def bX (k:Int):Prop:=(1≤k∧k≤16)∨(20≤k∧k≤34)∨(40≤k∧k≤45)
theorem FK.other {n:ak} (h:n.Kind≠28∧n.Kind≠29∧n.Kind≠30∧n.Kind≠31∧n.Kind≠42∧n.Kind≠43∧n.Kind≠12∧n.Kind≠11):FK n:=
 ⟨fun e=>absurd e h.1,fun e=>absurd e h.2.1,fun e=>absurd e h.2.2.1,fun e=>absurd e h.2.2.2.1,fun e=>absurd e h.2.2.2.2.1,fun e=>absurd e h.2.2.2.2.2.1,fun e=>absurd e h.2.2.2.2.2.2.1,fun e=>absurd e h.2.2.2.2.2.2.2⟩
theorem uD {l:Nat} {c1 c2:Bool} {m k:Nat} (h1:decide ((l:Int)≥(m:Int))=c1) (h2:decide ((l:Int)≤(k:Int))=c2) (h:(c1&&c2)=true):m≤l∧l≤k:=by
 subst h1 h2
 simp only [Bool.and_eq_true,decide_eq_true_eq] at h
 omega
set_option maxHeartbeats 8000000 in
theorem alb (N:Nat) (n:ak) (hN:1048576+300 < N) (hn:bZ n) (hk:n.Kids.length≤400):∃ b:Bool,qm N n=some b∧FX N n=some b∧(b=true→FK n∧bX n.Kind):=by
 obtain ⟨kind,op,text,other,kids⟩:=n
 unfold bZ at hn
 simp only at hn hk
 obtain ⟨bn,n1,n2,_⟩:=TT N text (by omega) (by omega)
 obtain ⟨bo,o1,o2,_⟩:=TT N other (by omega) (by omega)
 obtain ⟨bb,b1,b2,_⟩:=TS N text (by omega)
 obtain ⟨t2,t2a,t2b,_⟩:=OZ N ⟨2,text,0⟩ (by simp only;omega) (by simp only;omega)
 obtain ⟨t3,t3a,t3b,_⟩:=OZ N ⟨3,text,0⟩ (by simp only;omega) (by simp only;omega)
 obtain ⟨t4,t4a,t4b,_⟩:=OZ N ⟨4,text,0⟩ (by simp only;omega) (by simp only;omega)
 obtain ⟨t5,t5a,t5b,_⟩:=OZ N ⟨5,text,0⟩ (by simp only;omega) (by simp only;omega)
 obtain ⟨ob,ol,ob1,ob2,ob3⟩:=akZ op
 have hr:=ala N other (by omega)
 have x2:ix [(3:Int),4,5] (IntKind.wrap .i64 ((2:Int) - 2))=some 3:=rfl
 have x3:ix [(3:Int),4,5] (IntKind.wrap .i64 ((3:Int) - 2))=some 4:=rfl
 have x4:ix [(3:Int),4,5] (IntKind.wrap .i64 ((4:Int) - 2))=some 5:=rfl
 have hl0:decide ((kids.length:Int)≥0)=true:=by simp
 have hlm:decide ((kids.length:Int)≤400)=true:=by simp;omega
 rcases Classical.em (kind=1∨kind=2∨kind=3∨kind=4∨kind=5∨kind=6∨kind=7∨kind=8∨kind=9∨kind=10∨kind=11∨kind=12∨kind=13∨kind=14∨kind=15∨kind=16∨kind=20∨kind=21∨kind=22∨kind=23∨kind=24∨kind=25∨kind=26∨kind=27∨kind=28∨kind=29∨kind=30∨kind=31∨kind=32∨kind=33∨kind=34∨kind=40∨kind=41∨kind=42∨kind=43∨kind=44∨kind=45) with hall | hall
 rotate_left
 ·skip
  have h1:kind≠1:=fun h=>hall (by simp [h])
  have h2:kind≠2:=fun h=>hall (by simp [h])
  have h3:kind≠3:=fun h=>hall (by simp [h])
  have h4:kind≠4:=fun h=>hall (by simp [h])
  have h5:kind≠5:=fun h=>hall (by simp [h])
  have h6:kind≠6:=fun h=>hall (by simp [h])
  have h7:kind≠7:=fun h=>hall (by simp [h])
  have h8:kind≠8:=fun h=>hall (by simp [h])
  have h9:kind≠9:=fun h=>hall (by simp [h])
  have h10:kind≠10:=fun h=>hall (by simp [h])
  have h11:kind≠11:=fun h=>hall (by simp [h])
  have h12:kind≠12:=fun h=>hall (by simp [h])
  have h13:kind≠13:=fun h=>hall (by simp [h])
  have fP:kind≠14:=fun h=>hall (by simp [h])
  have xD:kind≠15:=fun h=>hall (by simp [h])
  have h16:kind≠16:=fun h=>hall (by simp [h])
  have h20:kind≠20:=fun h=>hall (by simp [h])
  have h21:kind≠21:=fun h=>hall (by simp [h])
  have h22:kind≠22:=fun h=>hall (by simp [h])
  have h23:kind≠23:=fun h=>hall (by simp [h])
  have yB:kind≠24:=fun h=>hall (by simp [h])
  have h25:kind≠25:=fun h=>hall (by simp [h])
  have h26:kind≠26:=fun h=>hall (by simp [h])
  have h27:kind≠27:=fun h=>hall (by simp [h])
  have Pw:kind≠28:=fun h=>hall (by simp [h])
  have Px:kind≠29:=fun h=>hall (by simp [h])
  have Py:kind≠30:=fun h=>hall (by simp [h])
  have h31:kind≠31:=fun h=>hall (by simp [h])
  have h32:kind≠32:=fun h=>hall (by simp [h])
  have fJ:kind≠33:=fun h=>hall (by simp [h])
  have h34:kind≠34:=fun h=>hall (by simp [h])
  have Dt:kind≠40:=fun h=>hall (by simp [h])
  have Du:kind≠41:=fun h=>hall (by simp [h])
  have Pz:kind≠42:=fun h=>hall (by simp [h])
  have h43:kind≠43:=fun h=>hall (by simp [h])
  have gX:kind≠44:=fun h=>hall (by simp [h])
  have h45:kind≠45:=fun h=>hall (by simp [h])
  have e:∀ k,kind≠k→(kind==k)=false:=fun k h=>by simpa using h
  have r1:(decide (kind≥1)&&decide (kind≤16))=false:=by
   cases h:(decide (kind≥1)&&decide (kind≤16)) with
   | false=>rfl
   | true=>simp only [Bool.and_eq_true,decide_eq_true_eq] at h;omega
  have r1b:(decide (kind≥1)&&decide (kind≤15))=false:=by
   cases h:(decide (kind≥1)&&decide (kind≤15)) with
   | false=>rfl
   | true=>simp only [Bool.and_eq_true,decide_eq_true_eq] at h;omega
  have r2:(decide (kind≥20)&&decide (kind≤34))=false:=by
   cases h:(decide (kind≥20)&&decide (kind≤34)) with
   | false=>rfl
   | true=>simp only [Bool.and_eq_true,decide_eq_true_eq] at h;omega
  have r3:(decide (kind≥40)&&decide (kind≤45))=false:=by
   cases h:(decide (kind≥40)&&decide (kind≤45)) with
   | false=>rfl
   | true=>simp only [Bool.and_eq_true,decide_eq_true_eq] at h;omega
  refine ⟨false,?_,?_,fun h=>by cases h⟩
  ·simp only [qm,vv,zF,wZ,ql,vo,zD,zC,Aa,r1,r2,r3,au,cond_false,e 1 h1,e 2 h2,e 3 h3,e 4 h4,e 5 h5,e 6 h6,e 7 h7,e 8 h8,e 9 h9,e 10 h10,e 11 h11,e 12 h12,e 13 h13,e 14 fP,e 15 xD,e 16 h16,e 20 h20,e 21 h21,e 22 h22,e 23 h23,e 24 yB,e 25 h25,e 26 h26,e 27 h27,e 28 Pw,e 29 Px,e 30 Py,e 31 h31,e 32 h32,e 33 fJ,e 34 h34,e 40 Dt,e 41 Du,e 42 Pz,e 43 h43,e 44 gX,e 45 h45]
  ·simp only [FX,qU,zf,Dj,r1b,r2,r3,e 16 h16,au,cond_false]
 rcases hall with rfl | rfl | rfl | rfl | rfl | rfl | rfl | rfl | rfl | rfl | rfl | rfl | rfl | rfl | rfl | rfl | rfl | rfl | rfl | rfl | rfl | rfl | rfl | rfl | rfl | rfl | rfl | rfl | rfl | rfl | rfl | rfl | rfl | rfl | rfl | rfl | rfl
 all_goals simp only [qm,vv,zF,wZ,ql,vo,zD,zC,Gg,Kg,Gq,xu,FX,Ce,qU,zf,Ol,FW,JF,JE,Om,oH,JH,JG,Oo,zh,JK,JI,JJ,Oi,Oj,OA,Aa,Dj,au,cond_true,cond_false,Int.reduceBEq,Int.reduceGE,Int.reduceLE,decide_true,decide_false,Bool.and_true,Bool.true_and,Bool.and_false,Bool.false_and,Bool.and_self,n1,n2,o1,o2,b1,b2,t2a,t2b,t3a,t3b,t4a,t4b,t5a,t5b,ob1,ob2,ob3,hr,hl0,x2,x3,x4]
 ·skip
  generalize (op==0)=c1
  generalize (text==[])=c2
  generalize (other==[])=c3
  generalize g2:(decide ((kids.length:Int)≤0))=c7
  cases c1<;>cases c2<;>cases c3<;>cases c7<;>cases bn<;>exact ⟨_,rfl,rfl,fun _=>⟨FK.other (by simp),by simp [bX]⟩⟩
 ·skip
  generalize (op==0)=c1
  generalize (text==[])=c2
  generalize (other==[])=c3
  generalize g2:(decide ((kids.length:Int)≤0))=c7
  cases c1<;>cases c2<;>cases c3<;>cases c7<;>cases t3<;>exact ⟨_,rfl,rfl,fun _=>⟨FK.other (by simp),by simp [bX]⟩⟩
 ·skip
  generalize (op==0)=c1
  generalize (text==[])=c2
  generalize (other==[])=c3
  generalize g2:(decide ((kids.length:Int)≤0))=c7
  cases c1<;>cases c2<;>cases c3<;>cases c7<;>cases t4<;>exact ⟨_,rfl,rfl,fun _=>⟨FK.other (by simp),by simp [bX]⟩⟩
 ·skip
  generalize (op==0)=c1
  generalize (text==[])=c2
  generalize (other==[])=c3
  generalize g2:(decide ((kids.length:Int)≤0))=c7
  cases c1<;>cases c2<;>cases c3<;>cases c7<;>cases t5<;>exact ⟨_,rfl,rfl,fun _=>⟨FK.other (by simp),by simp [bX]⟩⟩
 ·skip
  generalize (op==0)=c1
  generalize (text==[])=c2
  generalize (other==[])=c3
  generalize g1:(decide ((kids.length:Int)≥1))=c6
  generalize g2:(decide ((kids.length:Int)≤6))=c7
  cases c1<;>cases c2<;>cases c3<;>cases c6<;>cases c7<;>cases bn<;>exact ⟨_,rfl,rfl,fun _=>⟨FK.other (by simp),by simp [bX]⟩⟩
 ·skip
  generalize (op==0)=c1
  generalize (text==[])=c2
  generalize (other==[])=c3
  generalize g1:(decide ((kids.length:Int)≥1))=c6
  generalize g2:(decide ((kids.length:Int)≤1))=c7
  cases c1<;>cases c2<;>cases c3<;>cases c6<;>cases c7<;>exact ⟨_,rfl,rfl,fun _=>⟨FK.other (by simp),by simp [bX]⟩⟩
 ·skip
  generalize (op==0)=c1
  generalize (text==[])=c2
  generalize (other==[])=c3
  generalize g2:(decide ((kids.length:Int)≤6))=c7
  cases c1<;>cases c2<;>cases c3<;>cases c7<;>cases bn<;>exact ⟨_,rfl,rfl,fun _=>⟨FK.other (by simp),by simp [bX]⟩⟩
 ·skip
  generalize (op==0)=c1
  generalize (text==[])=c2
  generalize (other==[])=c3
  generalize g2:(decide ((kids.length:Int)≤6))=c7
  cases c1<;>cases c2<;>cases c3<;>cases c7<;>cases bb<;>exact ⟨_,rfl,rfl,fun _=>⟨FK.other (by simp),by simp [bX]⟩⟩
 ·skip
  generalize (op==51)=c1
  generalize (op==52)=c2
  generalize (text==[])=c3
  generalize (other==[])=c4
  generalize g1:(decide ((kids.length:Int)≥1))=c6
  generalize g2:(decide ((kids.length:Int)≤1))=c7
  cases c1<;>cases c2<;>cases c3<;>cases c4<;>cases c6<;>cases c7<;>first | exact ⟨_,rfl,rfl,fun _=>⟨FK.other (by simp),by simp [bX]⟩⟩ | exact ⟨_,rfl,(show some (decide ((kids.length:Int)≥1)&&decide ((kids.length:Int)≤1))=some _ by rw [g1,g2]),fun _=>⟨FK.other (by simp),by simp [bX]⟩⟩
 ·skip
  generalize (op==51)=c1
  generalize (op==52)=c2
  generalize (text==[])=c3
  generalize (other==[])=c4
  generalize g1:(decide ((kids.length:Int)≥1))=c6
  generalize g2:(decide ((kids.length:Int)≤1))=c7
  cases c1<;>cases c2<;>cases c3<;>cases c4<;>cases c6<;>cases c7<;>first | exact ⟨_,rfl,rfl,fun _=>⟨FK.other (by simp),by simp [bX]⟩⟩ | exact ⟨_,rfl,(show some (decide ((kids.length:Int)≥1)&&decide ((kids.length:Int)≤1))=some _ by rw [g1,g2]),fun _=>⟨FK.other (by simp),by simp [bX]⟩⟩
 ·skip
  generalize (op==55)=c1
  generalize (op==56)=c2
  generalize (op==61)=c3
  generalize gT:(text==[])=c4
  generalize gO:(other==[])=c5
  generalize g1:(decide ((kids.length:Int)≥1))=c6
  generalize g2:(decide ((kids.length:Int)≤1))=c7
  have K:c4=true→c5=true→(c6&&c7)=true→FK ⟨11,op,text,other,kids⟩:=fun hT hO h=>by
   have:=uD (m:=1) (k:=1) g1 g2 h
   have eT:text=[]:=by simpa [hT] using gT
   have eO:other=[]:=by simpa [hO] using gO
   exact ⟨by simp,by simp,by simp,by simp,by simp,by simp,by simp,fun _=>⟨by simp only;omega,eT,eO⟩⟩
  cases c1<;>cases c2<;>cases c3<;>cases c4<;>cases c5<;>cases c6<;>cases c7<;>first | exact ⟨_,rfl,rfl,fun h=>by first | (cases h;done) | exact ⟨K rfl rfl rfl,by simp [bX]⟩⟩ | exact ⟨_,rfl,(show some (decide ((kids.length:Int)≥1)&&decide ((kids.length:Int)≤1))=some _ by rw [g1,g2]),fun h=>by first | (cases h;done) | exact ⟨K rfl rfl rfl,by simp [bX]⟩⟩
 ·skip
  generalize (op==0)=c1
  generalize gT:(text==[])=c2
  generalize gO:(other==[])=c3
  generalize g1:(decide ((kids.length:Int)≥2))=c6
  generalize g2:(decide ((kids.length:Int)≤2))=c7
  have K:c2=true→c3=true→(c6&&c7)=true→FK ⟨12,op,text,other,kids⟩:=fun hT hO h=>by
   have:=uD (m:=2) (k:=2) g1 g2 h
   have eT:text=[]:=by simpa [hT] using gT
   have eO:other=[]:=by simpa [hO] using gO
   exact ⟨by simp,by simp,by simp,by simp,by simp,by simp,fun _=>⟨by simp only;omega,eT,eO⟩,by simp⟩
  cases c1<;>cases c2<;>cases c3<;>cases c6<;>cases c7<;>cases ob<;>exact ⟨_,rfl,rfl,fun h=>by first | (cases h;done) | exact ⟨K rfl rfl rfl,by simp [bX]⟩⟩
 ·skip
  generalize (op==0)=c1
  generalize (text==[])=c2
  generalize (other==[])=c3
  generalize g1:(decide ((kids.length:Int)≥1))=c6
  generalize g2:(decide ((kids.length:Int)≤6))=c7
  cases c1<;>cases c2<;>cases c3<;>cases c6<;>cases c7<;>cases bn<;>exact ⟨_,rfl,rfl,fun _=>⟨FK.other (by simp),by simp [bX]⟩⟩
 ·skip
  generalize (op==0)=c1
  generalize (text==[])=c2
  generalize (other==[])=c3
  generalize g1:(decide ((kids.length:Int)≥3))=c6
  generalize g2:(decide ((kids.length:Int)≤3))=c7
  cases c1<;>cases c2<;>cases c3<;>cases c6<;>cases c7<;>exact ⟨_,rfl,rfl,fun _=>⟨FK.other (by simp),by simp [bX]⟩⟩
 ·skip
  generalize (op==54)=c1
  generalize (decide (op≥38))=c2
  generalize (decide (op≤43))=c3
  generalize (text==[])=c4
  generalize (other==[])=c5
  generalize g1:(decide ((kids.length:Int)≥2))=c6
  generalize g2:(decide ((kids.length:Int)≤2))=c7
  cases c1<;>cases c2<;>cases c3<;>cases c4<;>cases c5<;>cases c6<;>cases c7<;>first | exact ⟨_,rfl,rfl,fun _=>⟨FK.other (by simp),by simp [bX]⟩⟩ | exact ⟨_,rfl,(show some (decide ((kids.length:Int)≥2)&&decide ((kids.length:Int)≤2))=some _ by rw [g1,g2]),fun _=>⟨FK.other (by simp),by simp [bX]⟩⟩
 ·skip
  generalize (op==0)=c1
  generalize (text==[])=c2
  generalize (other==[])=c3
  generalize g2:(decide ((kids.length:Int)≤0))=c7
  cases c1<;>cases c2<;>cases c3<;>cases c7<;>exact ⟨_,rfl,rfl,fun _=>⟨FK.other (by simp),by simp [bX]⟩⟩
 ·skip
  generalize (op==0)=c1
  generalize (text==[])=c2
  generalize (other==[])=c3
  generalize g1:(decide ((kids.length:Int)≥1))=c6
  generalize g2:(decide ((kids.length:Int)≤1))=c7
  cases c1<;>cases c2<;>cases c3<;>cases c6<;>cases c7<;>exact ⟨_,rfl,rfl,fun _=>⟨FK.other (by simp),by simp [bX]⟩⟩
 ·by_cases q0:op=0
  ·subst q0
   have w:IntKind.wrap .i64 ((0:Int)+1)=1:=rfl
   simp only [Int.reduceBEq,Int.reduceGE,Int.reduceLE,decide_true,w,au,cond_true,Bool.and_self,hl0]
   generalize (text==[])=c1
   generalize (other==[])=c2
   generalize (other==[62])=c3
   generalize (other==[62,62])=c4
   generalize (other==[124])=c5
   generalize (decide ((kids.length:Int)≥1))=c6
   generalize (decide ((kids.length:Int)≤7))=c7
   generalize (decide ((kids.length:Int)≤6))=c8
   cases c1<;>cases c2<;>cases c3<;>cases c4<;>cases c5<;>first
    | exact ⟨_,rfl,rfl,fun _=>⟨FK.other (by simp),by simp [bX]⟩⟩
    | (cases c6<;>cases c7<;>cases c8<;>exact ⟨_,rfl,rfl,fun _=>⟨FK.other (by simp),by simp [bX]⟩⟩)
  by_cases q1:op=1
  ·subst q1
   have w:IntKind.wrap .i64 ((1:Int)+1)=2:=rfl
   simp only [Int.reduceBEq,Int.reduceGE,Int.reduceLE,decide_true,w,au,cond_true,cond_false,Bool.and_self,hl0]
   generalize (text==[])=c1
   generalize (other==[])=c2
   generalize (other==[62])=c3
   generalize (other==[62,62])=c4
   generalize (other==[124])=c5
   generalize (decide ((kids.length:Int)≥1))=c6
   generalize (decide ((kids.length:Int)≥2))=c9
   generalize (decide ((kids.length:Int)≤7))=c7
   generalize (decide ((kids.length:Int)≤6))=c8
   cases c1<;>cases c2<;>cases c3<;>cases c4<;>cases c5<;>first
    | exact ⟨_,rfl,rfl,fun _=>⟨FK.other (by simp),by simp [bX]⟩⟩
    | (cases c6<;>cases c7<;>cases c8<;>cases c9<;>exact ⟨_,rfl,rfl,fun _=>⟨FK.other (by simp),by simp [bX]⟩⟩)
  have e0:(op==0)=false:=by simpa using q0
  have e1:(op==1)=false:=by simpa using q1
  have e2:(decide (op≥0)&&decide (op≤1))=false:=by
   cases h:(decide (op≥0)&&decide (op≤1)) with
   | false=>rfl
   | true=>simp only [Bool.and_eq_true,decide_eq_true_eq] at h;omega
  simp only [e0,e1,e2,cond_false,au]
  refine ⟨false,?_,?_,fun h=>by cases h⟩
  ·cases (other==[])<;>rfl
  ·cases (other==[])<;>rfl
 ·skip
  generalize (op==0)=c1
  generalize (text==[])=c2
  generalize (other==[])=c3
  generalize g2:(decide ((kids.length:Int)≤0))=c7
  cases c1<;>cases c2<;>cases c3<;>cases c7<;>exact ⟨_,rfl,rfl,fun _=>⟨FK.other (by simp),by simp [bX]⟩⟩
 ·skip
  generalize (op==0)=c1
  generalize (text==[])=c2
  generalize (other==[])=c3
  generalize g2:(decide ((kids.length:Int)≤1))=c7
  cases c1<;>cases c2<;>cases c3<;>cases c7<;>exact ⟨_,rfl,rfl,fun _=>⟨FK.other (by simp),by simp [bX]⟩⟩
 ·skip
  generalize (op==0)=c1
  generalize (text==[])=c2
  generalize (other==[])=c3
  generalize g2:(decide ((kids.length:Int)≤1))=c7
  cases c1<;>cases c2<;>cases c3<;>cases c7<;>exact ⟨_,rfl,rfl,fun _=>⟨FK.other (by simp),by simp [bX]⟩⟩
 ·skip
  generalize (op==0)=c1
  generalize (text==[])=c2
  generalize (other==[])=c3
  generalize g2:(decide ((kids.length:Int)≤0))=c7
  cases c1<;>cases c2<;>cases c3<;>cases c7<;>exact ⟨_,rfl,rfl,fun _=>⟨FK.other (by simp),by simp [bX]⟩⟩
 ·skip
  generalize (op==0)=c1
  generalize (text==[])=c2
  generalize (other==[])=c3
  generalize g2:(decide ((kids.length:Int)≤0))=c7
  cases c1<;>cases c2<;>cases c3<;>cases c7<;>exact ⟨_,rfl,rfl,fun _=>⟨FK.other (by simp),by simp [bX]⟩⟩
 ·skip
  generalize (op==0)=c1
  generalize (text==[])=c2
  generalize (other==[])=c3
  generalize g2:(decide ((kids.length:Int)≤6))=c7
  cases c1<;>cases c2<;>cases c3<;>cases c7<;>cases bn<;>exact ⟨_,rfl,rfl,fun _=>⟨FK.other (by simp),by simp [bX]⟩⟩
 ·skip
  generalize (op==0)=c1
  generalize (text==[])=c2
  generalize (other==[])=c3
  generalize g1:(decide ((kids.length:Int)≥2))=c6
  generalize g2:(decide ((kids.length:Int)≤3))=c7
  have K:(c6&&c7)=true→FK ⟨28,op,text,other,kids⟩:=fun h=>by
   have:=uD (m:=2) (k:=3) g1 g2 h
   exact ⟨fun _=>by simp only;omega,by simp,by simp,by simp,by simp,by simp,by simp,by simp⟩
  cases c1<;>cases c2<;>cases c3<;>cases c6<;>cases c7<;>exact ⟨_,rfl,rfl,fun h=>by first | (cases h;done) | exact ⟨K rfl,by simp [bX]⟩⟩
 ·skip
  generalize (op==0)=c1
  generalize (text==[])=c2
  generalize (other==[])=c3
  generalize g1:(decide ((kids.length:Int)≥2))=c6
  generalize g2:(decide ((kids.length:Int)≤2))=c7
  have K:(c6&&c7)=true→FK ⟨29,op,text,other,kids⟩:=fun h=>by
   have:=uD (m:=2) (k:=2) g1 g2 h
   exact ⟨by simp,fun _=>by simp only;omega,by simp,by simp,by simp,by simp,by simp,by simp⟩
  cases c1<;>cases c2<;>cases c3<;>cases c6<;>cases c7<;>exact ⟨_,rfl,rfl,fun h=>by first | (cases h;done) | exact ⟨K rfl,by simp [bX]⟩⟩
 ·skip
  generalize (op==0)=c1
  generalize (text==[])=c2
  generalize (other==[])=c3
  generalize g1:(decide ((kids.length:Int)≥2))=c6
  generalize g2:(decide ((kids.length:Int)≤2))=c7
  have K:(c6&&c7)=true→FK ⟨30,op,text,other,kids⟩:=fun h=>by
   have:=uD (m:=2) (k:=2) g1 g2 h
   exact ⟨by simp,by simp,fun _=>by simp only;omega,by simp,by simp,by simp,by simp,by simp⟩
  cases c1<;>cases c2<;>cases c3<;>cases c6<;>cases c7<;>exact ⟨_,rfl,rfl,fun h=>by first | (cases h;done) | exact ⟨K rfl,by simp [bX]⟩⟩
 ·skip
  generalize (op==0)=c1
  generalize (text==[])=c2
  generalize (other==[])=c3
  generalize g1:(decide ((kids.length:Int)≥4))=c6
  generalize g2:(decide ((kids.length:Int)≤4))=c7
  have K:(c6&&c7)=true→FK ⟨31,op,text,other,kids⟩:=fun h=>by
   have:=uD (m:=4) (k:=4) g1 g2 h
   exact ⟨by simp,by simp,by simp,fun _=>by simp only;omega,by simp,by simp,by simp,by simp⟩
  cases c1<;>cases c2<;>cases c3<;>cases c6<;>cases c7<;>exact ⟨_,rfl,rfl,fun h=>by first | (cases h;done) | exact ⟨K rfl,by simp [bX]⟩⟩
 ·skip
  generalize (op==0)=c1
  generalize (text==[])=c2
  generalize (other==[])=c3
  generalize g1:(decide ((kids.length:Int)≥1))=c6
  generalize g2:(decide ((kids.length:Int)≤1))=c7
  cases c1<;>cases c2<;>cases c3<;>cases c6<;>cases c7<;>cases bn<;>cases bo<;>exact ⟨_,rfl,rfl,fun _=>⟨FK.other (by simp),by simp [bX]⟩⟩
 ·simp only [hlm,Int.le_refl,decide_true,Bool.and_self]
  generalize (op==0)=c1
  generalize (text==[])=c2
  generalize (other==[])=c3
  cases c1<;>cases c2<;>cases c3<;>exact ⟨_,rfl,rfl,fun _=>⟨FK.other (by simp),by simp [bX]⟩⟩
 ·skip
  generalize (op==0)=c1
  generalize (text==[])=c2
  generalize (other==[])=c3
  generalize g2:(decide ((kids.length:Int)≤0))=c7
  cases c1<;>cases c2<;>cases c3<;>cases c7<;>cases t2<;>exact ⟨_,rfl,rfl,fun _=>⟨FK.other (by simp),by simp [bX]⟩⟩
 ·skip
  generalize (op==0)=c1
  generalize (text==[])=c2
  generalize (other==[])=c3
  generalize g1:(decide ((kids.length:Int)≥1))=c6
  generalize g2:(decide ((kids.length:Int)≤1))=c7
  cases c1<;>cases c2<;>cases c3<;>cases c6<;>cases c7<;>exact ⟨_,rfl,rfl,fun _=>⟨FK.other (by simp),by simp [bX]⟩⟩
 ·skip
  generalize (op==0)=c1
  generalize (text==[])=c2
  generalize (other==[])=c3
  generalize g1:(decide ((kids.length:Int)≥1))=c6
  generalize g2:(decide ((kids.length:Int)≤1))=c7
  cases c1<;>cases c2<;>cases c3<;>cases c6<;>cases c7<;>exact ⟨_,rfl,rfl,fun _=>⟨FK.other (by simp),by simp [bX]⟩⟩
 ·by_cases q1:op=1
  ·subst q1
   have w:IntKind.wrap .i64 ((1:Int)+IntKind.wrap .i64 (Int.tdiv (1:Int) 3))=1:=rfl
   simp only [Int.reduceBEq,Int.reduceGE,Int.reduceLE,decide_true,w,au,cond_true,cond_false,Bool.and_self]
   generalize (text==[])=c1
   generalize (other==[])=c2
   generalize g1:(decide ((kids.length:Int)≥1))=c6
   generalize g2:(decide ((kids.length:Int)≤1))=c7
   have K:(c6&&c7)=true→FK ⟨42,1,text,other,kids⟩:=fun h=>by
    have:=uD (m:=1) (k:=1) g1 g2 h
    refine ⟨by simp,by simp,by simp,by simp,fun _=>.inl ⟨rfl,by simp only;omega⟩,by simp,by simp,by simp⟩
   cases c1<;>cases c2<;>cases c6<;>cases c7<;>exact ⟨_,rfl,rfl,fun h=>by first | (cases h;done) | exact ⟨K rfl,by simp [bX]⟩⟩
  by_cases q2:op=2
  ·subst q2
   have w:IntKind.wrap .i64 ((1:Int)+IntKind.wrap .i64 (Int.tdiv (2:Int) 3))=1:=rfl
   simp only [Int.reduceBEq,Int.reduceGE,Int.reduceLE,decide_true,w,au,cond_true,cond_false,Bool.and_self]
   generalize (text==[])=c1
   generalize (other==[])=c2
   generalize g1:(decide ((kids.length:Int)≥1))=c6
   generalize g2:(decide ((kids.length:Int)≤1))=c7
   have K:(c6&&c7)=true→FK ⟨42,2,text,other,kids⟩:=fun h=>by
    have:=uD (m:=1) (k:=1) g1 g2 h
    refine ⟨by simp,by simp,by simp,by simp,fun _=>.inr (.inl ⟨rfl,by simp only;omega⟩),by simp,by simp,by simp⟩
   cases c1<;>cases c2<;>cases c6<;>cases c7<;>exact ⟨_,rfl,rfl,fun h=>by first | (cases h;done) | exact ⟨K rfl,by simp [bX]⟩⟩
  by_cases q3:op=3
  ·subst q3
   have w:IntKind.wrap .i64 ((1:Int)+IntKind.wrap .i64 (Int.tdiv (3:Int) 3))=2:=rfl
   simp only [Int.reduceBEq,Int.reduceGE,Int.reduceLE,decide_true,w,au,cond_true,cond_false,Bool.and_self]
   generalize (text==[])=c1
   generalize (other==[])=c2
   generalize g1:(decide ((kids.length:Int)≥2))=c6
   generalize g2:(decide ((kids.length:Int)≤2))=c7
   have K:(c6&&c7)=true→FK ⟨42,3,text,other,kids⟩:=fun h=>by
    have:=uD (m:=2) (k:=2) g1 g2 h
    refine ⟨by simp,by simp,by simp,by simp,fun _=>.inr (.inr ⟨rfl,by simp only;omega⟩),by simp,by simp,by simp⟩
   cases c1<;>cases c2<;>cases c6<;>cases c7<;>exact ⟨_,rfl,rfl,fun h=>by first | (cases h;done) | exact ⟨K rfl,by simp [bX]⟩⟩
  have e2:(decide (op≥1)&&decide (op≤3))=false:=by
   cases h:(decide (op≥1)&&decide (op≤3)) with
   | false=>rfl
   | true=>simp only [Bool.and_eq_true,decide_eq_true_eq] at h;omega
  have e3:(op==3)=false:=by simpa using q3
  simp only [e2,e3,cond_false,au]
  exact ⟨false,rfl,rfl,fun h=>by cases h⟩
 ·by_cases q1:op=1
  ·subst q1
   have w:IntKind.wrap .i64 ((2:Int)+IntKind.wrap .i64 (Int.tdiv (1:Int) 3))=2:=rfl
   simp only [Int.reduceBEq,Int.reduceGE,Int.reduceLE,decide_true,w,au,cond_true,cond_false,Bool.and_self]
   generalize (text==[])=c1
   generalize (other==[])=c2
   generalize g1:(decide ((kids.length:Int)≥2))=c6
   generalize g2:(decide ((kids.length:Int)≤2))=c7
   have K:(c6&&c7)=true→FK ⟨43,1,text,other,kids⟩:=fun h=>by
    have:=uD (m:=2) (k:=2) g1 g2 h
    refine ⟨by simp,by simp,by simp,by simp,by simp,fun _=>.inl ⟨rfl,by simp only;omega⟩,by simp,by simp⟩
   cases c1<;>cases c2<;>cases c6<;>cases c7<;>exact ⟨_,rfl,rfl,fun h=>by first | (cases h;done) | exact ⟨K rfl,by simp [bX]⟩⟩
  by_cases q3:op=3
  ·subst q3
   have w:IntKind.wrap .i64 ((2:Int)+IntKind.wrap .i64 (Int.tdiv (3:Int) 3))=3:=rfl
   simp only [Int.reduceBEq,Int.reduceGE,Int.reduceLE,decide_true,w,au,cond_true,cond_false,Bool.and_self]
   generalize (text==[])=c1
   generalize (other==[])=c2
   generalize g1:(decide ((kids.length:Int)≥3))=c6
   generalize g2:(decide ((kids.length:Int)≤3))=c7
   have K:(c6&&c7)=true→FK ⟨43,3,text,other,kids⟩:=fun h=>by
    have:=uD (m:=3) (k:=3) g1 g2 h
    refine ⟨by simp,by simp,by simp,by simp,by simp,fun _=>.inr ⟨rfl,by simp only;omega⟩,by simp,by simp⟩
   cases c1<;>cases c2<;>cases c6<;>cases c7<;>exact ⟨_,rfl,rfl,fun h=>by first | (cases h;done) | exact ⟨K rfl,by simp [bX]⟩⟩
  have e1:(op==1)=false:=by simpa using q1
  have e3:(op==3)=false:=by simpa using q3
  simp only [e1,e3,cond_false,au]
  exact ⟨false,rfl,rfl,fun h=>by cases h⟩
 ·skip
  generalize (op==0)=c1
  generalize (text==[])=c2
  generalize (other==[])=c3
  generalize g1:(decide ((kids.length:Int)≥1))=c6
  generalize g2:(decide ((kids.length:Int)≤7))=c7
  cases c1<;>cases c2<;>cases c3<;>cases c6<;>cases c7<;>cases bn<;>exact ⟨_,rfl,rfl,fun _=>⟨FK.other (by simp),by simp [bX]⟩⟩
 ·simp only [hlm,Int.le_refl,decide_true,Bool.and_self]
  generalize (op==0)=c1
  generalize (text==[])=c2
  generalize (other==[])=c3
  cases c1<;>cases c2<;>cases c3<;>exact ⟨_,rfl,rfl,fun _=>⟨FK.other (by simp),by simp [bX]⟩⟩
end Go.Proofs.Tryz
