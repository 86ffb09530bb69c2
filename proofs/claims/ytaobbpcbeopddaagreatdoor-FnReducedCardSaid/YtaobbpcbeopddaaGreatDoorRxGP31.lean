/-
 Plain lemmas on the models, part 31.
-/
import Derived.Test.YtaobbpcbeopddaaGreatDoorRxGP30
namespace Go.Proofs.Tryz
open Go.Av
set_option maxRecDepth 100000
set_option linter.all false
def uF {α β:Type} {x:Option α} {f:α->Option β} (hx:∃ v,x=some v) (hf:∀ v,∃ w,f v=some w):∃ w,Option.bind x f=some w:=by
 obtain ⟨v,rfl⟩:=hx;exact hf v
def ahK (N:Nat) (x:List UInt8) (hx:x.length<=1048576) (hN:x.length+200 < N):∃ b:Bool,Bo N x=some b:=by
 obtain ⟨q,h1,_⟩:=amO N x hx ah;obtain ⟨r,g1,_⟩:=amQ N x ah;obtain ⟨c,f1,_⟩:=XE N x ah;unfold Bo;rw [h1,g1,f1];refine uF (dn (dn ⟨_,rfl⟩ ⟨_,rfl⟩) ⟨_,rfl⟩) fun v=>⟨_,rfl⟩
def aBY (N:Nat) (t:aC) (ht:t.Text.length<=1048576) (hN:t.Text.length+200 < N):∃ b:Bool,qY N t=some b:=by
 obtain ⟨sp,s1,s3⟩:=amS t.Kind;obtain ⟨nb,n1⟩:=ahK N t.Text ht hN;obtain ⟨bb,b1,_⟩:=XE N t.Text ah;have hk1:∀ y:Bool,∃ b:Bool,yN N (t,y)=some b:=fun y=>by
  simp only [yN];rw [n1,b1,s1];exact dn ⟨_,rfl⟩ (dn ⟨_,rfl⟩<|uF (dn ⟨_,rfl⟩ ⟨_,rfl⟩) fun _=>⟨_,rfl⟩)
 have hp:=amR N t.Text ah (by simp only [maxLen];omega);have hq:(∃ r,KW N t.Text 0=some r)/\∃ r,KX N t.Text 0=some r:=by
  by_cases hne:t.Text=[]
  .rw [hne];exact ⟨⟨-1,rfl⟩,⟨-1,rfl⟩⟩
  .have hpos:0 < t.Text.length:=List.length_pos_iff.2 hne;obtain ⟨r,f1,_,_⟩:=amM N t.Text ht ah 0 hpos;obtain ⟨r2,g1,_,_⟩:=amN N t.Text ht ah 0 hpos;exact ⟨⟨r,f1⟩,⟨r2,g1⟩⟩
 obtain ⟨⟨rs,hs⟩,⟨re,he⟩⟩:=hq;have agp:∃ y,(bif (decide<|(t.Text.length:Int) > 0) then (KV N t.Text 0).bind fun Ey=>some (Ey==(t.Text.length:Int)) else (some false))=some y:=by
  cases hl:decide ((t.Text.length:Int) > 0) with
  | false=>exact ⟨_,rfl⟩
  | true=>
   have hpos:0 < t.Text.length:=by have:=nU hl;omega
   obtain ⟨r,f1,_,_⟩:=amK N t.Text ht ah 0 hpos;have OX:KV N t.Text 0=some r:=f1;rw [OX];exact ⟨_,rfl⟩
 have hcom:∃ y,(bif (decide<|(t.Text.length:Int) > 0) then (ix t.Text 0).bind fun b21=>bif (((b21).toNat:Int)==35) then (Sd N t.Text).bind fun qQ=>some qQ else (some false) else (some false))=some y:=by
  cases hl:decide ((t.Text.length:Int) > 0) with
  | false=>exact ⟨_,rfl⟩
  | true=>
   have hpos:0 < t.Text.length:=by have:=nU hl;omega
   have e:ix t.Text 0=some t.Text[0]:=bS hpos;rw [e,hp];simp only [av,aH];exact dn ⟨_,rfl⟩ ⟨_,rfl⟩
 unfold qY;rw [hs,he];refine dn (uF hcom fun _=>⟨_,rfl⟩) (dn (uF agp fun _=>⟨_,rfl⟩)<|dn ⟨_,rfl⟩<|dn ⟨_,rfl⟩<|dn (hk1 _)<|hk1 _)
def aBZ (x:aK):∃ r,Iw x=some r:=by
 have h6:∀ b,∃ r,Wm (x,b)=some r:=fun b=>dn ⟨_,rfl⟩ (dn ⟨_,rfl⟩<|dn ⟨_,rfl⟩<|dn ⟨_,rfl⟩ ⟨_,rfl⟩);have h5:∀ b,∃ r,Wn (x,b)=some r:=fun b=>dn ⟨_,rfl⟩ (dn ⟨_,rfl⟩<|dn ⟨_,rfl⟩<|dn (h6 _)<|h6 _);have h4:∀ b,∃ r,NQ (x,b)=some r:=fun b=>dn ⟨_,rfl⟩ (dn ⟨_,rfl⟩<|dn (dn ⟨_,rfl⟩ ⟨_,rfl⟩)<|dn (h5 _)<|h5 _);have h3:∀ b,∃ r,Ev (x,b)=some r:=fun b=>dn ⟨_,rfl⟩ (dn (h4 _)<|dn (h4 _)<|dn (h4 _)<|h4 _);have h2:∀ b,∃ r,RY (x,b)=some r:=fun b=>dn ⟨_,rfl⟩ (dn (h3 _)<|dn (h3 _)<|dn (h3 _)<|dn (h3 _)<|dn (h3 _)<|dn (h3 _)<|dn (h3 _)<|h3 _);have h1:∀ b,∃ r,Wo (x,b)=some r:=fun b=>dn ⟨_,rfl⟩ (dn (h2 _)<|dn (h2 _)<|h2 _);exact dn (h1 _) (h1 _)
def aCa (o:Int):∃ r,Ga o=some r:=by
 have hk:∀ b,rW b=some b:=fun b=>by cases b<;>rfl
 unfold Ga;simp only [hk];repeat' (refine dn ?_ ?_)
 all_goals exact ⟨_,rfl⟩
def aCb (x:aK):∃ r,Ew x=some r:=by
 obtain ⟨b,hb⟩:=aCa x.Op;have h1:∀ y,∃ r,RZ (x,y)=some r:=fun y=>by
  unfold RZ CS;simp only [hb,zX,av];exact dn (uF (dn ⟨_,rfl⟩ ⟨_,rfl⟩) fun _=>⟨_,rfl⟩) (dn (uF (dn ⟨_,rfl⟩<|dn ⟨_,rfl⟩ ⟨_,rfl⟩) fun _=>⟨_,rfl⟩)<|dn ⟨_,rfl⟩<|dn (uF (uF (dn ⟨_,rfl⟩ ⟨_,rfl⟩) fun _=>⟨_,rfl⟩) fun _=>⟨_,rfl⟩)<|dn ⟨_,rfl⟩<|dn ⟨_,rfl⟩<|dn (uF (dn ⟨_,rfl⟩ ⟨_,rfl⟩) fun _=>⟨_,rfl⟩) ⟨_,rfl⟩)
 exact dn (h1 _) (h1 _)
def aCc (N:Nat) (x:aK) (hN:1048777 < N) (hs:yF x):∃ r,Wy N x=some r:=by
 obtain ⟨q1,q2,q3⟩:=hs;obtain ⟨a,ha⟩:=ahK N x.Text ah ah;obtain ⟨o,ho⟩:=ahK N x.Other ah ah;obtain ⟨b,hb,_⟩:=XE N x.Text ah;have tk:∀ k,∃ r,qY N ⟨k,x.Text,0⟩=some r:=fun k=>aBY N ⟨k,x.Text,0⟩ (by show x.Text.length<=_;omega) (by show x.Text.length+_ < _;omega);obtain ⟨c3,h3⟩:=tk 3;obtain ⟨c4,h4⟩:=tk 4;obtain ⟨c5,h5⟩:=tk 5;obtain ⟨c2,h2⟩:=tk 2;have nx:∀ (y:Bool) (c:Bool),∃ r,(((some y).bind fun r=>bif r then some c else (some false)).bind fun y=>some y)=some r:=fun y c=>uF (uF ⟨_,rfl⟩ fun _=>dn ⟨_,rfl⟩ ⟨_,rfl⟩) fun _=>⟨_,rfl⟩
 have h1:∀ y,∃ r,Ez N (x,y)=some r:=fun y=>by
  unfold Ez;simp only [ha,ho,hb,h2,h3,h4,h5];exact dn (nx _ _) (dn (nx _ _)<|dn (nx _ _)<|dn (nx _ _)<|dn (nx _ _)<|dn (nx _ _)<|dn (uF (uF ⟨_,rfl⟩ fun _=>dn ⟨_,rfl⟩ ⟨_,rfl⟩) fun _=>⟨_,rfl⟩)<|dn (uF (dn (dn ⟨_,rfl⟩<|dn ⟨_,rfl⟩<|dn ⟨_,rfl⟩ ⟨_,rfl⟩) ⟨_,rfl⟩) fun _=>⟨_,rfl⟩)<|uF (dn ⟨_,rfl⟩ ⟨_,rfl⟩) fun _=>⟨_,rfl⟩)
 exact dn (h1 _) (dn (h1 _)<|dn (h1 _)<|dn (h1 _)<|dn (h1 _)<|h1 _)
def aCd (N:Nat) (x:aK) (hN:1048777 < N) (hs:yF x):∃ b,Bq N x=some b:=by
 obtain ⟨t,ht⟩:=aCc N x hN hs;obtain ⟨o,ho⟩:=aCb x;obtain ⟨m,hm⟩:=aBZ x;unfold Bq;simp only [ht,ho,hm,zX,av];exact uF (dn ⟨_,rfl⟩<|dn ⟨_,rfl⟩ ⟨_,rfl⟩) fun _=>uF (dn (dn (dn ⟨_,rfl⟩ ⟨_,rfl⟩) ⟨_,rfl⟩) ⟨_,rfl⟩) fun _=>⟨_,rfl⟩
def aCe (x:aK) (k c:Int):∃ b,Gb x k c=some b:=by
 have hE:∃ r,oU c=some r:=⟨_,acT c⟩
 have hL:∃ r,IC c=some r:=⟨_,ahH c⟩
 have hS:∃ r,Wz c=some r:=by unfold Wz;rw [zX];exact ⟨_,rfl⟩
 obtain ⟨e,hE⟩:=hE;obtain ⟨l,hL⟩:=hL;obtain ⟨s,hS⟩:=hS;have h2:∀ b,∃ r,Oa (k,c,x,b)=some r:=fun b=>by
  unfold Oa;simp only [hE,hS,zX,av];repeat' (first|exact ⟨_,rfl⟩|refine dn ?_ ?_|refine uF ?_ fun _=>?_)
 have h1:∀ b,∃ r,Sq (k,c,x,b)=some r:=fun b=>by
  unfold Sq;simp only [hE,hL,av];repeat' (first|exact ⟨_,rfl⟩|exact h2 _|refine dn ?_ ?_|refine uF ?_ fun _=>?_)
 exact dn (h1 _) (h1 _)
def aCf (N:Nat) (a:List aK) (kb:(List aK×Int)->Option Bool) (i:Nat) (hi:i < a.length) (hi2:i<=100000) (hkl:a[i].Kids.length<=100000) (hk:∀ k,k∈a[i].Kids->0<=k/\k < a.length) (hkb:∃ b,kb (a,((i+1:Nat):Int))=some b):∀ (m j:Nat),a[i].Kids.length - j < m->j<=a[i].Kids.length->∃ b,IE N kb m (a,(i:Int),(j:Int))=some b:=by
 intro m;induction m with
 | zero=>intro j h;omega
 | succ m ih=>
  intro j hm hj;rw [IE,bS hi,av];by_cases h:j < a[i].Kids.length
  .simp only [gJ h,aH,bS hi,bS h,av];obtain ⟨k1,k2⟩:=hk _ (mQ h);obtain ⟨c,hc⟩:=qL k1;have hcl:c < a.length:=ah;rw [hc];have e:ix a (c:Int)=some a[c]:=bS hcl;simp only [e,av];obtain ⟨b,hb⟩:=aCe a[i] (j:Int) a[c].Kind;rw [hb,av,wrap64 ah ah,show ((j:Int)+1)=((j+1:Nat):Int) by omega];exact dn ⟨_,rfl⟩ (ih (j+1) ah ah)
  .simp only [iW h,aG];rw [wrap64 ah ah];exact hkb
def aCg (N:Nat) (a:List aK) (hN:1048777 < N) (ha:a.length<=400) (hs:∀ x,x∈a->yF x) (hk:∀ x,x∈a->x.Kids.length<=400/\∀ k,k∈x.Kids->0<=k/\k < a.length):∀ (n i:Nat),a.length - i < n->i<=a.length->∃ b,Br N n (a,(i:Int))=some b:=by
 intro n;induction n with
 | zero=>intro i h;omega
 | succ n ih=>
  intro i hn hi;rw [Br];by_cases h:i < a.length
  .obtain ⟨b,hb⟩:=aCd N a[i] hN (hs _<|mQ h);obtain ⟨k1,k2⟩:=hk _ (mQ h);simp only [gJ h,aH,bS h,av,hb];refine dn ⟨_,rfl⟩ ?_;exact aCf N a (Br N n) i h ah ah k2 (ih (i+1) ah ah) N 0 ah ah
  .simp only [iW h,aG];exact ⟨_,rfl⟩
def aCh (N:Nat) (a:List aK) (hN:1048777 < N) (hs:∀ x,x∈a->yF x):∃ b:Bool,zL N a=some b/\(b=true->za a=true):=by
 unfold zL;rw [amV N a ah hs];simp only [av];cases hsh:za a with
 | false=>exact ⟨false,rfl,fun h=>by cases h⟩
 | true=>
  obtain ⟨h1,h2,r,_,_,_,hT,t,ht⟩:=Kj hsh;rw [anL N a ah hs hsh ht];simp only [kE,aG,av];obtain ⟨b,hb⟩:=aCg N a hN h2 hs (agw hsh) N 0 ah ah;have hb':Br N N (a,0)=some b:=hb;rw [hb'];have:=dn (c:=decide ((jU t:Int) > 40)) (x:=some false) (y:=some b) ⟨_,rfl⟩ ⟨_,rfl⟩;obtain ⟨v,hv⟩:=this;exact ⟨v,hv,fun _=>trivial⟩
def asj (N:Nat) (a:List aK) (hN:1048777 < N) (hs:∀ x,x∈a->yF x):∃ b:Bool,Ki N a=some b/\(b=true->zL N a=some true/\za a=true/\∀ t,TA a t 0 (a.length - 1)->nR t.kind=true):=by
 obtain ⟨b,b1,b3⟩:=aCh N a hN hs;unfold Ki;rw [b1];simp only [av];cases b with
 | false=>exact ⟨false,rfl,fun h=>by cases h⟩
 | true=>
  have h1:=b3 rfl;obtain ⟨l1,l2,_⟩:=Kj h1;have hlt:a.length - 1 < a.length:=ah;have hx:=bS hlt;rw [wrap64 ah ah,show (a.length:Int) - 1=((a.length - 1:Nat):Int) by omega,hx];simp only [aH,av,acT];refine ⟨_,rfl,fun h=>⟨trivial,h1,fun t ht=>?_⟩⟩;obtain ⟨n,hn,e1,_⟩:=ht.node;rw [fQ hlt] at hn;cases hn;rw [e1];exact h
section
set_option linter.unusedSectionVars false
variable (b:List UInt8) (hb:b.length<=1048576) (N:Nat) (hN:2100000<=N)
include hb hN
omit hN in
theorem aCi:∀ (n j:Nat) (h:Int),b.length - j < n->j<=b.length->∃ r,Nn N n (b,h,(j:Int))=some (b,0,r):=by
 intro n;induction n with
 | zero=>intro j h hn;omega
 | succ n ih=>
  intro j h hn hj;rw [Nn];by_cases hlt:j < b.length
  .have e:ix b (j:Int)=some b[j]:=bS hlt;simp only [gJ hlt,aH,av];cases decide ((j:Int) < 4000) with
   | true=>
    rw [aH,e,av,wrap64 (n:=(j:Int)+1) ah ah,show (j:Int)+1=((j+1:Nat):Int) by omega];exact ih (j+1) _ ah ah
   | false=>exact ⟨_,rfl⟩
  .simp only [iW hlt,aG,av];exact ⟨_,rfl⟩
theorem asf:∃ h,aaH N b=some (b,0,h):=aCi b hb N N 0 _ ah ah
end
def Yt (L:List aK):Prop:=∃ t,L=bN 0 t/\Gd 1500 12 t
def aCj (L:List aK):Prop:=∀ x,x∈L->∀ k,k∈x.Kids-> -9223372036854775808<=k/\k<=9223372036854775807
def Fa (L:List aK):Prop:=SmS L/\L.length<=3000/\aCj L
def aCk {m d:Nat} {t:aA} (h:Gd m d t) (hm:m<=10000):SmS (bN 0 t):=fun x hx=>by
 have h1:=Yd t 0 x hx;have h2:=h.2.2 x hx;have:=h.1;exact ⟨ah,h2.1,h2.2⟩
def Yt.spo {L:List aK} (h:Yt L):Fa L/\1<=L.length/\L.length<=1500:=by
 obtain ⟨t,rfl,ht⟩:=h;have:=Yr t;have:=ht.1;exact ⟨⟨aCk ht ah,by rw [BM];omega,fun x hx k hk=>by have:=acU t 0 x hx k hk;omega⟩,by rw [BM];omega,by rw [BM];omega⟩
section
set_option linter.unusedSectionVars false
variable (b:List UInt8) (hb:b.length<=1048576) (N:Nat) (hN:18446744073709551657+2097152<=N)
include hb hN
theorem apC (i h:Int) (h0:0<=i) (h1:i<=(b.length:Int)):Dr b (fun L=>∃ t,L=bN 0 t/\Gd 60 6 t) (RG N b i h):=by
 obtain ⟨i,rfl⟩:=qL h0;have e:RG N b (i:Int) h=_:=aAO b hb (N:=N) ah N i h ah;have hs:=aBW b N ah i h ah;cases hl:Pg.loop b vQ (fits 60) N i h with
 | none=>rw [hl] at hs;cases hs
 | some r=>
  obtain ⟨g1,g2,g3⟩:=Pg.ahp b aAM (fits 60) N i h r ah hl;rw [e,hl];exact ⟨_,_,_,rfl,⟨r.1,rfl,Fy g2,g1.2⟩,ah,ah⟩
theorem aCl (i h:Int) (h0:0<=i) (h1:i<=(b.length:Int)):Dr b (fun L=>∃ t,L=bN 0 t/\Gd 220 12 t) (VW N b i h):=by
 obtain ⟨i,rfl⟩:=qL h0;have e:VW N b (i:Int) h=_:=aBh b hb (N:=N) ah ah N i h ah;have hs:=aBX b N ah i h ah;cases hl:Pg.loop b lY (fits 220) N i h with
 | none=>rw [hl] at hs;cases hs
 | some r=>
  obtain ⟨g1,g2,g3⟩:=Pg.ahp b aAQ (fits 220) N i h r ah hl;rw [e,hl];exact ⟨_,_,_,rfl,⟨r.1,rfl,Fy g2,g1.2⟩,ah,ah⟩
theorem aCm (d:Nat) (hd:d<=2) (i h:Int) (h0:0<=i) (h1:i<=(b.length:Int)):Dr b (fun L=>∃ t,L=bN 0 t/\Gd 1500 9 t) (CK N (d:Int) b i h):=by
 obtain ⟨i,rfl⟩:=qL h0;have hs:ss d<=1500:=by
  have:d=0\/d=1\/d=2:=ah;rcases this with rfl|rfl|rfl<;>decide
 exact Sm.dr ah (aBd b hb (N:=N) ah (d:=d) ah ah (d:Int) rfl ah i h ah) (DL d) fun t ht=>⟨t,rfl,ht.mono hs ah⟩
theorem apD (i h:Int) (h0:0<=i) (h1:i<=(b.length:Int)):Dr b Yt (RQ N b i h):=by
 have k1:∀ (r:Int) (i h:Int) (y:Bool),0<=i->i<=(b.length:Int)->Dr b Yt (RP N b ((r,i,h),y)):=fun r i h y h0 h1=>by
  unfold RP;dsimp only;refine Dr.cond (fun _=>TW<|(apC b hb N hN i h h0 h1).imp ?_) fun _=>Dr.cond (fun _=>TW<|(aCm b hb N hN 2 ah i h h0 h1).imp ?_) fun _=>TW ((aCl b hb N hN i h h0 h1).imp ?_)
  .rintro L ⟨t,rfl,ht⟩;exact ⟨t,rfl,ht.mono ah ah⟩
  .rintro L ⟨t,rfl,ht⟩;exact ⟨t,rfl,ht.mono ah ah⟩
  .rintro L ⟨t,rfl,ht⟩;exact ⟨t,rfl,ht.mono ah ah⟩
 unfold RQ;refine Dr.bind (GA b hb _ i h h0 h1) fun r i h hr h0 h1=>?_;dsimp only;exact Dr.cond (fun _=>k1 r i h _ h0 h1) fun _=>k1 r i h _ h0 h1
theorem Ur {α:Type} {Q:α->Prop} {L:List aK} (hL:Fa L) {k:Int} (h0:0<=k) (h1:k < (L.length:Int)) {x:aK} (hx:(x.Kids.length<=20000/\x.Text.length<=20/\x.Other.length<=20)/\∀ k,k∈x.Kids-> -9223372036854775808<=k/\k<=9223372036854775807) {f:List aK->Option (α×Int×Int)} (hf:∀ L',Fa L'->L'.length=L.length->Dr b Q (f L')):Dr b Q (Option.bind (upd L k x) f):=by
 obtain ⟨k,rfl⟩:=qL h0;have hk:k < L.length:=ah;rw [alh hk,av];refine hf _ ⟨fun y hy=>?_,by rw [adZ];exact hL.2.1,fun y hy=>?_⟩ (adZ ..)
 .rcases adL hy with h|h
  .exact hL.1 y h
  .rw [h];exact hx.1
 .rcases adL hy with h|h
  .exact hL.2.2 y h
  .rw [h];exact hx.2
theorem Yu {α:Type} {Q:α->Prop} {L:List aK} (hL:Fa L) {k:Int} (h0:0<=k) (h1:k < (L.length:Int)) {f:aK->Option (α×Int×Int)} (hf:∀ x,x∈L->Dr b Q (f x)):Dr b Q (Option.bind (ix L k) f):=by
 obtain ⟨k,rfl⟩:=qL h0;have hk:k < L.length:=ah;rw [bS hk,av];exact hf _ (mQ hk)
theorem aCn (i h:Int) (h0:0<=i) (h1:i<=(b.length:Int)):Dr b Fa (VX N b i h):=by
 unfold VX;refine Dr.bind (apD b hb N hN i h h0 h1) fun L i h hL h0 h1=>?_;obtain ⟨hS,hl1,hl2⟩:=hL.spo;dsimp only;refine Dr.bind (GA b hb _ i h h0 h1) fun k i h hk h0 h1=>?_;have k0:=hk.1;have k1:k < (L.length:Int):=ah;dsimp only;refine Dr.bind (GA b hb _ i h h0 h1) fun r i h hr h0 h1=>?_;dsimp only;have fin:∀ (L':List aK) (i h:Int),Fa L'->0<=i->i<=(b.length:Int)->Dr b Fa (NM N b (L',i,h)):=fun L' i h hL' h0 h1=>Dr.some hL' h0 h1;refine Dr.cond (fun _=>?_) fun _=>Dr.cond (fun _=>?_) fun _=>Dr.cond (fun _=>?_) fun _=>Dr.cond (fun _=>?_) fun _=>fin L i h hS h0 h1
 .obtain ⟨k,rfl⟩:=qL k0;have e:cut L 0 (k:Int)=some (L.take k):=by
   have:=afe (l:=L) (a:=0) (b:=k) ah ah;rw [zC,Nat.sub_zero] at this;exact this
  rw [e,av];exact Dr.some ⟨fun x hx=>hS.1 x<|adQ hx,by have:=hS.2.1;simp;omega,fun x hx=>hS.2.2 x<|adQ hx⟩ h0 h1
 .refine Yu b hb N hN hS k0 k1 fun x hx=>?_;refine Dr.bind (aoA b hb (P:=fun o=>-9223372036854775808<=o/\o<=9223372036854775807) _ i h h0 h1 (by show 0 < 4;decide) fun o ho=>by
   simp only [fF,MJ,MP] at ho;rcases ho with rfl|rfl|rfl|rfl<;>omega) fun o i h ho h0 h1=>?_
  have hxs:=hS.1 x hx;have hxi:=hS.2.2 x hx;dsimp only;obtain ⟨t,rfl,ht⟩:=hL;have hkl:=Yd t 0 x hx;have:=ht.1;rw [gL bT,av];refine Ur b hb N hN hS k0 k1 ?_ fun L' hL' _=>fin L' i h hL' h0 h1;exact ⟨⟨bT,hxs.2.1,hxs.2.2⟩,fun k hk=>by
   rcases jo.1 hk with h|h
   .exact hxi k h
   .rw [nG.1 h];exact ho⟩
 .obtain ⟨k,rfl⟩:=qL k0;have hkn:k < L.length:=ah;have ek:ix L (k:Int)=some L[k]:=bS hkn;simp only [ek,av];refine Dr.cond (fun hc=>?_) fun _=>fin L i h hS h0 h1;have h00:0 < L[k].Kids.length:=by have:=nU hc;omega
  refine Dr.bind (GA b hb _ i h h0 h1) fun o i h ho h0 h1=>?_;rw [wrap64 ah ah] at ho;have hxs:=hS.1 _ (mQ hkn);have hxi:=hS.2.2 _ (mQ hkn);have e1:ix L[k].Kids 0=some L[k].Kids[0]:=bS (i:=0) h00;have e2:∀ v,upd L[k].Kids 0 v=some (L[k].Kids.set 0 v):=fun v=>alh (i:=0) h00;dsimp only;rw [e1,av,e2,av];refine Ur b hb N hN hS ah k1 ?_ fun L' hL' _=>fin L' i h hL' h0 h1;exact ⟨⟨by show (List.set _ _ _).length<=_;rw [adZ];exact hxs.1,hxs.2.1,hxs.2.2⟩,fun k' hk'=>by
   rcases adL hk' with h|h
   .exact hxi k' h
   .rw [h];obtain ⟨ho1,ho2⟩:=ho;rw [wrap64 ah ah];omega⟩
 .rw [gL ah,av];exact Dr.some ⟨fun x hx=>by
   rcases jo.1 hx with h|h<;>exact hS.1 x h,by rw [jQ];omega,fun x hx=>by
   rcases jo.1 hx with h|h<;>exact hS.2.2 x h⟩ h0 h1
theorem aCo (i h:Int) (h0:0<=i) (h1:i<=(b.length:Int)):Dr b Fa (Wd N b i h):=by
 unfold Wd;refine Dr.bind (apD b hb N hN i h h0 h1) fun L i h hL h0 h1=>?_;obtain ⟨hS,hl1,hl2⟩:=hL.spo;dsimp only;refine Dr.bind (GA b hb _ i h h0 h1) fun k i h hk h0 h1=>?_;have k0:=hk.1;have k1:k < (L.length:Int):=ah;dsimp only;refine Dr.bind (GA b hb _ i h h0 h1) fun r i h hr h0 h1=>?_;dsimp only;have fin:∀ (L':List aK) (i h:Int),Fa L'->0<=i->i<=(b.length:Int)->Dr b Fa (KN N b (L',i,h)):=fun L' i h hL' h0 h1=>Dr.some hL' h0 h1;refine Dr.cond (fun _=>?_) fun _=>Dr.cond (fun _=>?_) fun _=>Dr.cond (fun _=>?_) fun _=>Dr.cond (fun _=>?_) fun _=>Dr.cond (fun _=>TW<|aCn b hb N hN i h h0 h1) fun _=>fin L i h hS h0 h1
 .refine Dr.bind (GA b hb _ i h h0 h1) fun o i h _ h0 h1=>Yu b hb N hN hS k0 k1 fun x hx=>?_;refine Ur b hb N hN hS k0 k1 ?_ fun L' hL' _=>fin L' i h hL' h0 h1;exact ⟨hS.1 x hx,hS.2.2 x hx⟩
 .refine Dr.bind (aoA b hb (P:=fun _=>True) _ i h h0 h1 aD fun _ _=>trivial) fun o i h _ h0 h1=>Yu b hb N hN hS k0 k1 fun x hx=>?_;refine Ur b hb N hN hS k0 k1 ?_ fun L' hL' _=>fin L' i h hL' h0 h1;exact ⟨hS.1 x hx,hS.2.2 x hx⟩
 .refine Dr.bind (aoB b hb 20 _ i h h0 h1 aD aD) fun o i h ho h0 h1=>Yu b hb N hN hS k0 k1 fun x hx=>?_;refine Ur b hb N hN hS k0 k1 ?_ fun L' hL' _=>fin L' i h hL' h0 h1;exact ⟨⟨(hS.1 x hx).1,ho,(hS.1 x hx).2.2⟩,hS.2.2 x hx⟩
 .refine Dr.bind (aoB b hb 20 _ i h h0 h1 aD aD) fun o i h ho h0 h1=>Yu b hb N hN hS k0 k1 fun x hx=>?_;refine Ur b hb N hN hS k0 k1 ?_ fun L' hL' _=>fin L' i h hL' h0 h1;exact ⟨⟨(hS.1 x hx).1,(hS.1 x hx).2.1,ho⟩,hS.2.2 x hx⟩
end
section
set_option linter.unusedSectionVars false
variable (b:List UInt8) (hb:b.length<=1048576) (N:Nat) (hN:18446744073709551657+2097152<=N)
include hb hN
theorem asg (i h:Int) (h0:0<=i) (h1:i<=(b.length:Int)):Dr b Fa (Wh N b i h):=by
 unfold Wh;refine Dr.bind (aAh b hb 10 i h h0 h1) fun r i h _ h0 h1=>?_;dsimp only;refine Dr.cond (fun _=>TW<|aCo b hb N hN i h h0 h1) fun _=>TW ((apC b hb N hN i h h0 h1).imp ?_);rintro L ⟨t,rfl,ht⟩;exact (Yt.spo ⟨t,rfl,ht.mono ah ah⟩).1
omit hN in
end
def ase (x:List UInt8):aaG x=some (decide<|(x.length:Int) > 1048576):=rfl
def aCp (N N':Nat) (l:List aC) (hl:l.length<=1048576) (i:Nat) (hi:i < l.length) (h32:l[i].Kind=32) (P:List cO) (hP:P.length<=i) (kS kI:(List aC×Int×List cO)->Option (List cO))
  (hk:∀ P',P'.length<=i+1->∃ r,kS (l,((i+1:Nat):Int),P')=some r/\kI (l,((i+1:Nat):Int),P')=some r/\r.length<=l.length):
  ∀ (n n' j d:Nat),l.length - j < n->l.length - j < n'->i<=j->j<=l.length->(i < j->1<=d)->d<=j->∃ r,Df N kS n (l,(i:Int),P,(d:Int),(j:Int))=some r/\xK N' kI n' (l,(i:Int),P,(d:Int),(j:Int))=some r/\r.length<=l.length:=by
 have w1:IntKind.wrap .i64 ((i:Int)+1)=((i+1:Nat):Int):=by rw [wrap64 ah ah];omega
 intro n;induction n with
 | zero=>intro n' j d h;omega
 | succ n ih=>
  intro n' j d hn hn' hij hjl hd hdj;obtain ⟨n',rfl⟩:∃ k,n'=k+1:=⟨n' - 1,ah⟩
  rw [Df,xK];by_cases hj:j < l.length
  .have w2:IntKind.wrap .i64 ((j:Int)+1)=((j+1:Nat):Int):=by rw [wrap64 ah ah];omega
   simp only [gJ hj,aH,bS hj,av];have go:∀ d':Nat,1<=d'->d'<=j+1->∃ r,Om N kS (Df N kS n) (l,(i:Int),(j:Int),P,(d':Int))=some r/\Dh N' kI (xK N' kI n') (l,(i:Int),(j:Int),P,(d':Int))=some r/\r.length<=l.length:=fun d' h1 h2=>by
    unfold Om Dh;have e:((d':Int)==0)=false:=by rw [QJ];omega
    simp only [e,aG,w2];exact ih n' (j+1) d' ah ah ah ah (fun _=>h1) h2
   by_cases ho:l[j].Kind=32
   .have e33:(l[j].Kind==33)=false:=by rw [ho];decide
    simp only [ho,Hy,aH];unfold SI;simp only [bS hj,av,e33,aG];rw [wrap64 ah ah,show ((d:Int)+1)=((d+1:Nat):Int) by omega];exact go (d+1) ah ah
   .have hne:i < j:=by
     rcases Nat.lt_or_eq_of_le hij with h|h
     .exact h
     .subst h;exact absurd h32 ho
    have d1:=hd hne;have e32:(l[j].Kind==32)=false:=by simpa using ho
    simp only [e32,aG];unfold SI;simp only [bS hj,av];by_cases hc:l[j].Kind=33
    .simp only [hc,Hy,aH];rw [wrap64 ah ah];by_cases hd1:d=1
     .subst hd1;unfold Om Dh;have e:((((1:Nat):Int) - 1)==0)=true:=aD;simp only [e,aH];rw [gL bT,av,av];unfold IK Bt;simp only [w1];exact hk _ bT
     .rw [show ((d:Int) - 1)=((d - 1:Nat):Int) by omega];exact go (d - 1) ah ah
    .have e33:(l[j].Kind==33)=false:=by simpa using hc
     simp only [e33,aG];exact go d d1 ah
  .simp only [iW hj,aG];unfold IK Bt;simp only [w1];exact hk P ah
def aCq (N N':Nat) (l:List aC) (hl:l.length<=1048576) (hN:1048577 < N) (hN':1048577 < N'):∀ (n n' i:Nat) (P:List cO),l.length - i < n->l.length - i < n'->i<=l.length->P.length<=i->
  ∃ r,wQ N n (l,(i:Int),P)=some r/\uf N' n' (l,(i:Int),P)=some r/\r.length<=l.length:=by
 intro n;induction n with
 | zero=>intro n' i P h;omega
 | succ n ih=>
  intro n' i P hn hn' hi hP;obtain ⟨n',rfl⟩:∃ k,n'=k+1:=⟨n' - 1,ah⟩
  rw [wQ,uf];by_cases h:i < l.length
  .have hk:∀ P',P'.length<=i+1->∃ r,wQ N n (l,((i+1:Nat):Int),P')=some r/\uf N' n' (l,((i+1:Nat):Int),P')=some r/\r.length<=l.length:=fun P' h'=>ih n' (i+1) P' ah ah ah h';have w1:IntKind.wrap .i64 ((i:Int)+1)=((i+1:Nat):Int):=by rw [wrap64 ah ah];omega
   have skip:∃ r,IK N (wQ N n) (l,(i:Int),P)=some r/\Bt N' (uf N' n') (l,(i:Int),P)=some r/\r.length<=l.length:=by
    unfold IK Bt;simp only [w1];exact hk P ah
   unfold IL;simp only [gJ h,aH,bS h,av];by_cases h32:l[i].Kind=32
   .simp only [h32,bne_self_eq_false,aG];have inner:∃ r,Df N (wQ N n) N (l,(i:Int),P,0,(i:Int))=some r/\xK N' (uf N' n') N' (l,(i:Int),P,0,(i:Int))=some r/\r.length<=l.length:=
     aCp N N' l hl i h h32 P hP _ _ hk N N' i 0 ah ah ah hi (fun x=>ah) ah
    by_cases h0:0 < i
    .have d0:decide ((i:Int) > 0)=true:=fU ah;have hx:ix l (IntKind.wrap .i64<|(i:Int) - 1)=some (l[i - 1]' ah):=by
      rw [wrap64 ah ah,show (i:Int) - 1=((i - 1:Nat):Int) by omega];exact bS ah
     simp only [d0,aH,hx,av];cases (l[i - 1].Kind==7) with
     | true=>simp only [aH,av];exact skip
     | false=>
      simp only [aG,av];cases (l[i - 1].Kind==8) with
      | true=>exact skip
      | false=>exact inner
    .have d0:decide ((i:Int) > 0)=false:=nE ah;simp only [d0,aG,av];exact inner
   .have e:(l[i].Kind !=32)=true:=by simpa using h32
    simp only [e,aH,av];exact skip
  .simp only [iW h,aG];exact ⟨P,rfl,rfl,ah⟩
def asr (N N':Nat) (l:List aC) (hl:l.length<=1048576) (hN:1048577 < N) (hN':1048577 < N'):∃ P,abw N l=some P/\SL N' l=some P/\P.length<=l.length:=
 aCq N N' l hl hN hN' N N' 0 [] ah ah ah aF
end Go.Proofs.Tryz
