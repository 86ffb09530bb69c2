/-
 Plain lemmas on the models, part 9.
-/
import Derived.Test.YtaobbpcbeopddaaGreatDoorRxGP8
namespace Go.Proofs.Tryz
open Go.Av
set_option maxRecDepth 100000
set_option linter.all false
def acu {t:aA} (h:eT t.kind=true):14<=lv t.kind t.op/\t.kind<=9:=by
 have hk:t.kind=1\/t.kind=5\/t.kind=6:=by
  unfold eT at h;simp only [lH,mR] at h;exact h
 obtain ⟨k,o,x,y,ks⟩:=t;rcases hk with e|e|e<;>(have e:k=_:=e;subst e)
 .exact ⟨(by omega:(14:Int)<=15),(by omega:(1:Int)<=9)⟩
 .exact ⟨(by omega:(14:Int)<=15),(by omega:(5:Int)<=9)⟩
 .exact ⟨(by omega:(14:Int)<=14),(by omega:(6:Int)<=9)⟩
section
variable (l:List aC) (hl:l.length<=3000)
include hl
omit hl in
theorem adi {n:Nat} (ih:PV l n) {i j:Nat} {t:aA} (hn:j - i<=n) (hij:i < j) (hj:j<=l.length) (d:dH l wZ i j t) (hL:eT t.kind=true) (hz:aZ t<=400) (q:aN) (b:Int) (hb:1<=b) (hb2:b<=14) (hf:jH (bA q b) (kd l j)):Rd l (bA q b) i j t false:=by
 obtain ⟨h1,h2⟩:=acu hL;exact ih.N i j hn wZ t hij hj d hz q (.inl h2) (fun e=>ah) (fun e=>ah) b hb ah hf
set_option maxHeartbeats 4000000 in
theorem aEd {n:Nat} (ih:PV l n) {i j:Nat} (hn:j - i<=n+1) {p:aN} {t:aA} (hij:i < j) (hj:j<=l.length) (d:dH l p i j t) (hz:aZ t<=400) (q:aN) (hq:t.kind<=9\/(q.bC=p.bC/\q.bE=p.bE)) (hin:t.kind=13->q.bC=false) (hgt:t.kind=12->t.op=62->q.bE=false) (b:Int) (hb:1<=b) (hbl:b<=lv t.kind t.op) (hf:jH (bA q b) (kd l j)):Rd l (bA q b) i j t false:=by
 have fs:=d.first hij
 have cm:6<=lv t.kind t.op->rH l i false:=fun h=>(ahd l hl (j - i) i j<|cZ _).1 p t hij hj d h;have f:∀ {a b:Int},a≠b->(a==b)=false:=fun h=>by simpa using h
 cases d with
 | leaf k h1 h2=>
  have hv:lv (k - 1) 0=15:=by rcases h1 with rfl|rfl|rfl<;>rfl
  have hbl:b<=lv (k - 1) 0:=hbl;have fa:=fs.a (by show 12<=lv (k - 1) 0;omega);have fb:=fs.b (by show 14<=lv (k - 1) 0;omega);have fc:=fs.c (by show 15<=lv (k - 1) 0;omega);have cm:=cm (by show 6<=lv (k - 1) 0;omega);refine PU hz b hb ah cm fa fb fc ?_ hf;rw [ze ah];exact aDo l hl (bA q 15) rfl k h1 h2 ah
 | name h1=>
  have fa:=fs.a (by show (12:Int)<=15;omega);have fb:=fs.b (by show (14:Int)<=15;omega);have fc:=fs.c (by show (15:Int)<=15;omega);have cm:=cm (by show (6:Int)<=15;omega);refine PU hz b hb hbl cm fa fb fc ?_ hf;rw [ze ah];exact aDp l hl (bA q 15) rfl h1 ah hf.1
 | @index _ _ j ts h1 h2 h3 h4 h5 h6 h7=>
  have fa:=fs.a (by show (12:Int)<=15;omega);have fb:=fs.b (by show (14:Int)<=15;omega);have fc:=fs.c (by show (15:Int)<=15;omega);have cm:=cm (by show (6:Int)<=15;omega);have hz':aW ts<=400:=by simp only [aZ] at hz;omega
  refine PU hz b hb hbl cm fa fb fc ?_ hf;rw [ze ah];exact aDu l hl (bA q 15) rfl ts h1 h2 ah (ih.L (i+2) j ah ts 35 h7 h5 (.inr rfl) h4 hz') h6 ah
 | nI k h1 h2 h3 h4=>
  have hv:lv k 0=15:=by rcases h1 with rfl|rfl<;>rfl
  have hbl:b<=lv k 0:=hbl;have fa:=fs.a (by show 12<=lv k 0;omega);have fb:=fs.b (by show 14<=lv k 0;omega);have fc:=fs.c (by show 15<=lv k 0;omega);have cm:=cm (by show 6<=lv k 0;omega);refine PU hz b hb ah cm fa fb fc ?_ hf;rw [ze ah];exact aqa l hl (bA q 15) rfl k h1 [] h2 h3 ah (.inl ⟨rfl,h4,rfl⟩) aF (by simp [aW])
 | @call _ _ j ts k h1 h2 h3 h4 h5 h6 h7 h8=>
  have hv:lv k 0=15:=by rcases h1 with rfl|rfl<;>rfl
  have hbl:b<=lv k 0:=hbl;have fa:=fs.a (by show 12<=lv k 0;omega);have fb:=fs.b (by show 14<=lv k 0;omega);have fc:=fs.c (by show 15<=lv k 0;omega);have cm:=cm (by show 6<=lv k 0;omega);have hz':aW ts<=400:=by simp only [aZ] at hz;omega
  have oK:kd l (i+2)≠33:=fun e=>by
   have:=agI h8;rw [e] at this;cases this
  refine PU hz b hb ah cm fa fb fc ?_ hf;rw [ze ah];exact aqa l hl (bA q 15) rfl k h1 ts h2 h3 ah (.inr ⟨oK,ih.L (i+2) j ah ts 33 h8 h6 (.inl rfl) h5 hz'⟩) h7 ah
 | len h1 h2 h3=>
  have fa:=fs.a (by show (12:Int)<=15;omega);have fb:=fs.b (by show (14:Int)<=15;omega);have fc:=fs.c (by show (15:Int)<=15;omega);have cm:=cm (by show (6:Int)<=15;omega);refine PU hz b hb hbl cm fa fb fc ?_ hf;rw [ze ah];exact aDv l hl (bA q 15) rfl h1 ah h2 (by rw [<- ze ah];exact h3)
 | @field _ _ _ u h h1 h2 h3=>
  have fa:=fs.a (by show (12:Int)<=14;omega);have fb:=fs.b (by show (14:Int)<=14;omega);have cm:=cm (by show (6:Int)<=14;omega);rw [DU] at hz;refine aqk (by rw [DU];omega) b hb hbl cm fa fb ?_ hf;have aie:jH (bA q 14) (kd l j):=hf.to hbl;have fsu:=h3.first
  by_cases hh:h=true\/14<=lv u.kind u.op
  .have hb1:=fsu.b hh;refine aDm l hl (bA q 14) rfl h1 ah (by rw [f hb1.1,f hb1.2];rfl) (h1:=h) ?_ ah;cases h3 with
   | @par _ _ jj _ h' g1 g2 g3 g4 g5=>
    exact ih.D (i+1) (jj+1) ah ⟨14,true,q.bC,q.bE,false⟩ u true (.par g1 g2 g3 g4 g5) ah q rfl rfl 14 ah ah (.inl rfl) aie
   | bare g1 g2 g3 g4=>
    have hlv:14<=lv u.kind u.op:=by
     rcases hh with hh|hh
     .cases hh
     .exact hh
    have hk:nR u.kind=true->u.kind<=9:=fun he=>by
     have hs:ahP ⟨14,true,false,false,false⟩ ⟨14,true,false,false,false⟩:=⟨rfl,rfl,rfl,rfl⟩
     exact (apH he hs).2 g1
    have Gz:u.kind<=9:=by
     cases g4 with
     | leaf k e1=>show k - 1<=9;omega
     | name=>show (1:Int)<=9;omega
     | index=>show (5:Int)<=9;omega
     | len=>show (8:Int)<=9;omega
     | field=>show (6:Int)<=9;omega
     | pre=>show (9:Int)<=9;omega
     | nI k e1|call k e1=>show k<=9;omega
     | post=>exact absurd hlv (by show¬(14:Int)<=13;omega)
     | unary=>exact absurd hlv (by show¬(14:Int)<=11;omega)
     | one|many=>exact absurd hlv (by show¬(14:Int)<=5;omega)
     | cond=>exact absurd hlv (by show¬(14:Int)<=2;omega)
     | assign=>exact absurd hlv (by show¬(14:Int)<=1;omega)
     | bin o=>exact absurd hlv (by show¬(14:Int)<=bg o;have:=OY o;omega)
     | cat=>exact absurd hlv (by show¬(14:Int)<=8;decide)
    exact ih.N (i+1) j ah _ u g2 g3 g4 ah q (.inl Gz) (fun e=>ah) (fun e=>ah) 14 ah hlv aie
  .cases h3 with
   | par=>exact absurd (.inl rfl) hh
   | bare g1 g2 g3 g4=>
    have hnl: ¬14<=lv u.kind u.op:=fun e=>hh (.inr e);have hp:u.kind=9:=by
     unfold dD at g1;simp only [dL,lH,rO,lG,mR] at g1;rcases g1.2.2.2.2 with e|e
     .exact e
     .exact absurd e hnl
    cases g4 with
    | @pre _ _ _ u o e1 e2 e3 e4 e5=>
     have hi2:i+1 < l.length:=ah;have hlf:=OZ e5 e3;rw [DU] at hz;have r:=adi l ih (i:=i+1+1) ah e4 g3 e5 e3 ah q 14 ah ah aie;have:=aDn l hl (bA q 14) rfl h1 hi2 (by rw [e2];rcases e1 with rfl|rfl<;>rfl) (by rcases hlf with e|e<;>rw [e]<;>rfl) r ah;rw [e2] at this;exact this
    | leaf k e1=>have hp:k - 1=9:=hp;omega
    | nI k e1|call k e1=>have hp:k=9:=hp;omega
    | name=>have hp:(1:Int)=9:=hp;omega
    | index=>have hp:(5:Int)=9:=hp;omega
    | len=>have hp:(8:Int)=9:=hp;omega
    | field=>have hp:(6:Int)=9:=hp;omega
    | post=>have hp:(10:Int)=9:=hp;omega
    | unary=>have hp:(11:Int)=9:=hp;omega
    | bin|cat=>have hp:(12:Int)=9:=hp;omega
    | one|many=>have hp:(13:Int)=9:=hp;omega
    | cond=>have hp:(14:Int)=9:=hp;omega
    | assign=>have hp:(15:Int)=9:=hp;omega
 | @pre _ _ _ u o h1 h2 h3 h4 h5=>
  have fa:=fs.a (by show (12:Int)<=13;omega);have cm:=cm (by show (6:Int)<=13;omega);rw [DU] at hz;refine aia (by rw [DU];omega) b hb hbl cm fa ?_ hf;have hlf:=OZ h5 h3;have r:=adi l ih (i:=i+1) ah h4 hj h5 h3 ah q 14 ah ah (hf.to (by have:b<=13:=hbl;omega));have:=aDk l hl (bA q 13) rfl (i:=i) (by rw [h2];rcases h1 with rfl|rfl<;>rfl) ah (by rcases hlf with e|e<;>rw [e]<;>rfl) r ah;rw [h2] at this;exact this
 | @post _ _ j u o h1 h2 h3 h4 h5=>
  have fa:=fs.a (by show (12:Int)<=13;omega);have cm:=cm (by show (6:Int)<=13;omega);rw [DU] at hz;refine aia (by rw [DU];omega) b hb hbl cm fa ?_ hf;have hlf:=OZ h5 h3;have r:=adi l ih (i:=i) (j:=j) ah h4 ah h5 h3 ah q 14 ah ah (by rw [h2];exact aDX h1 q 14 ah);have:=aDl l hl (bA q 13) rfl r h3 (by rcases hlf with e|e<;>rw [e]<;>rfl) (by rw [h2];rcases h1 with rfl|rfl<;>rfl) ah ah ah;rw [h2] at this;exact this
 | @unary _ _ _ u h o h1 h2 h3 h4=>
  have cm:=cm (by show (6:Int)<=11;omega);have hbl:b<=11:=hbl;rw [DU] at hz;have lZ:q.bC=p.bC/\q.bE=p.bE:=by
   rcases hq with e|e
   .exact absurd e (by show¬(11:Int)<=9;omega)
   .exact e
  refine desc (by rw [DU];omega) 11 b hb hbl ah (fun _=>cm) ?_ hf;have r:=ih.D (i+1) j ah _ u h h4 ah q lZ.1 lZ.2 11 ah ah (by
   cases h4 with
   | par=>exact .inl rfl
   | bare hfit=>exact .inr<|rF hfit rfl) (hf.to hbl)
  have:=aDf l hl (bA q 11) rfl (i:=i) (by rw [h2];rcases h1 with rfl|rfl|rfl<;>rfl) ah r ah;rw [h2] at this;exact this
 | @bin _ _ m ff _ a c g1 g2 o h1 h2 h3 h4 h5 h6 h7 h8=>
  have lZ:q.bC=p.bC/\q.bE=p.bE:=by
   rcases hq with e|e
   .exact absurd e (by show¬(12:Int)<=9;omega)
   .exact e
  have hg:o=62->q.bE=false:=fun e=>hgt rfl e;rw [JF] at hz;have hbl:b<=bg o:=hbl;have hlc:=h8.lt;have Pb:m+1<=ff:=zY h6;rcases aic h1 h2 with e|e|e|e|e|e|⟨e,e60⟩
  case inr.inr.inl|inr.inr.inr.inl=>
   obtain ⟨hch,s1,s2⟩:=aEa (o:=o) ah;have hA:=ih.D i m ah _ a g1 h7 ah q lZ.1 lZ.2 (bg o+1) ah ah (by
    cases h7 with
    | par=>exact .inl rfl
    | bare hfit=>exact .inr (by have:=rF hfit rfl;have this:(jk o).1<=_:=this;omega)) (by rw [h3];exact ahZ h1 h2 q _ ah)
   have hB:=ih.D ff j ah _ c g2 h8 ah q lZ.1 lZ.2 (jk o).2 ah ah (by
    cases h8 with
    | par=>exact .inl rfl
    | bare hfit=>exact .inr (by have:=rF hfit rfl;have this:(jk o).2<=_:=this;omega)) (hf.to ah)
   have hst:=ahT hl hch (q:=bA q (bg o)) (c:=0) (Ch.first hch hA) ah ah (by rw [h3];exact aqm h1 h2 (bA q<|bg o) hg (by intro e0;subst e0;have:(12:Int)=_:=e;omega)) (m+1) ff o (.inr ⟨ah,rfl,h3.symm,ah⟩) ah (.inr (by
    rcases h6 with ⟨h6,_⟩|h6
    .omega
    .exact h6)) ah ah hB
   have hd:=ada hch (q:=bA q (bg o)) (c:=1) rfl hst aD (.inr ⟨rfl,aD⟩);exact desc (by rw [JF];omega) (bg o) b hb hbl ah (fun _=>cm<|by show 6<=bg o;omega) hd hf
  case inr.inr.inr.inr.inr.inr=>
   subst e60;have hbl:b<=12:=hbl;have fa:=fs.a (by show (12:Int)<=12;omega);have hcm:=cm (by show (6:Int)<=12;omega);have hA:=ih.D i m ah _ a g1 h7 ah q lZ.1 lZ.2 13 ah ah (by
    cases h7 with
    | par=>exact .inl rfl
    | bare hfit=>exact .inr<|rF hfit rfl) (by rw [h3];exact ahZ h1 h2 q _<|by show (12:Int) < 13;omega)
   have hff:ff=m+1:=by
    rcases h6 with ⟨h6,_⟩|h6
    .omega
    .exact h6.2
   subst hff;have aEg:jH (bA q 12) (kd l j):=hf.to hbl;have hB:=ih.D (m+1) j ah _ c g2 h8 ah q lZ.1 lZ.2 11 ah ah (by
    cases h8 with
    | par=>exact .inl rfl
    | bare hfit=>exact .inr<|rF hfit rfl) aEg.eleven
   by_cases e12:b=12
   .subst e12;exact apX l hl (bA q 12) rfl hA h3 ah ah hB ah
   .have jw:=aDh l hl (bA q 11) rfl (by rw [f fa.1,f fa.2.1,f fa.2.2];rfl) hA h3 ah ah hB ah;exact desc (by rw [JF];omega) 11 b hb ah ah (fun _=>hcm) jw hf
  all_goals
   obtain ⟨cc,hc,hch⟩:=aqn l hl ih o hn ah h2 h3 h4 h5 h6 h7 h8 ah q lZ.1 lZ.2 (hf.to ah);have hd:=ada (aib (o:=o) ah).1 (q:=bA q (bg o)) rfl hch ah (.inl<|hf.2 (bg o) hbl);exact desc (by rw [JF];omega) (bg o) b hb hbl ah (fun h=>cm<|by show 6<=bg o;omega) hd hf
 | @cat _ _ m _ a c g1 g2 h1 h2 h3 h4=>
  have lZ:q.bC=p.bC/\q.bE=p.bE:=by
   rcases hq with e|e
   .exact absurd e (by show¬(12:Int)<=9;omega)
   .exact e
  rw [JF] at hz;have hbl:b<=8:=hbl;have hcm:=cm (by show (6:Int)<=8;omega);obtain ⟨cc,hc,hch⟩:=aqo l hl ih hn h1 h2 h3 h4 ah q lZ.1 lZ.2 (hf.to ah);have hd:=ada (.inr<|.inr<|.inr<|.inr<|.inl ⟨rfl,rfl,rfl⟩) (q:=bA q 8) rfl hch ah (.inl<|hf.2 8 hbl);exact desc (by rw [JF];omega) 8 b hb hbl ah (fun h=>hcm) hd hf
 | @one _ _ m u h h1 h2 h3 h4=>
  have lZ:q.bC=p.bC/\q.bE=p.bE:=by
   rcases hq with e|e
   .exact absurd e (by show¬(13:Int)<=9;omega)
   .exact e
  rw [DU] at hz;have hbl:b<=5:=hbl;obtain ⟨cc,hc,hch⟩:=aqp l hl ih hn h1 h2 h3 h4 ah q lZ.1 lZ.2 (hin rfl);have hd:=ahX l (bA q 5) rfl hch ah (hf.2 5 hbl);exact desc (by rw [DU];omega) 5 b hb hbl ah (fun h=>absurd h ah) hd hf
 | @many _ _ m ts h1 h2 h3 h4 h5 h6 h7 h8=>
  have hbl:b<=5:=hbl;have hz':aW ts<=400:=by simp only [aZ] at hz;omega
  have hch:=aqr l hl ih hn h1 h2 h3 h4 h5 h6 h7 h8 hz' q (hin rfl);have hd:=ahX l (bA q 5) rfl hch ah (hf.2 5 hbl);exact desc hz 5 b hb hbl ah (fun h=>absurd h ah) hd hf
 | @cond _ _ m n2 _ a c e g1 g2 g3 h1 h2 h3 h4 h5 h6 h7 h8=>
  have lZ:q.bC=p.bC/\q.bE=p.bE:=by
   rcases hq with e|e
   .exact absurd e (by show¬(14:Int)<=9;omega)
   .exact e
  rw [aql] at hz;have hbl:b<=2:=hbl;have hA:=ih.D i m ah _ a g1 h6 ah q lZ.1 lZ.2 3 ah ah (by
   cases h6 with
   | par=>exact .inl rfl
   | bare hfit=>exact .inr<|rF hfit rfl) (by rw [h2];exact aDV q 3 ah)
  have hB:=ih.D (m+1) n2 ah _ c g2 h7 ah q lZ.1 lZ.2 2 ah ah (by
   cases h7 with
   | par=>exact .inl rfl
   | bare hfit=>exact .inr<|rF hfit rfl) (by rw [h4];exact adh ah q 2 ah)
  have hC:=ih.D (n2+1) j ah _ e g3 h8 ah q lZ.1 lZ.2 2 ah ah (by
   cases h8 with
   | par=>exact .inl rfl
   | bare hfit=>exact .inr<|rF hfit rfl) (hf.to hbl)
  have hd:=aDc l hl (bA q 2) rfl hA h2 ah ah hB h4 ah ah hC ah;exact desc (by rw [aql];omega) 2 b hb hbl ah (fun h=>absurd h ah) hd hf
 | @assign _ _ m _ a c g o h1 h2 h3 h4 h5 h6 h7=>
  have lZ:q.bC=p.bC/\q.bE=p.bE:=by
   rcases hq with e|e
   .exact absurd e (by show¬(15:Int)<=9;omega)
   .exact e
  rw [JF] at hz;have hbl:b<=1:=hbl;have e1:b=1:=ah;subst e1;have hA:=adi l ih (i:=i) (j:=m) ah h3 ah h6 h5 ah q 2 ah ah (by rw [h2];exact aDY h1 q 2 ah);have hB:=ih.D (m+1) j ah _ c g h7 ah q lZ.1 lZ.2 1 ah ah (by
   cases h7 with
   | par=>exact .inl rfl
   | bare hfit=>exact .inr<|rF hfit rfl) hf
  have:=aDb l hl (bA q 1) rfl hA h5 (by rw [h2];exact h1) ah ah hB ah;rw [h2] at this;exact this
end
section
variable (l:List aC) (hl:l.length<=3000)
include hl
theorem aEh:∀ n,PV l n:=by
 intro n;induction n with
 | zero=>
  refine ⟨fun i j hn p t hij=>ah,fun i j hn p t h d=>by have:=d.lt;omega,fun i j hn p t h d=>by have:=d.lt;omega,fun i j hn p t h d=>by have:=d.lt;omega,fun i j hn ts en d=>?_⟩;cases d with
  | one h1=>omega
  | cons h1 h2 h3 h4=>have:=h3.1;omega
 | succ n ih=>
  have hN:∀ i j,j - i<=n+1->∀ p t,i < j->j<=l.length->dH l p i j t->aZ t<=400->∀ q,(t.kind<=9\/(q.bC=p.bC/\q.bE=p.bE))->(t.kind=13->q.bC=false)->(t.kind=12->t.op=62->q.bE=false)->∀ b,1<=b->b<=lv t.kind t.op->jH (bA q b) (kd l j)->Rd l (bA q b) i j t false:=
   fun i j hn p t hij hj d hz q hq hin hgt b hb hbl hf=>aEd l hl ih hn hij hj d hz q hq hin hgt b hb hbl hf
  have hD:∀ i j,j - i<=n+1->∀ p t h,bV l p i j t h->aZ t<=400->∀ q,q.bC=p.bC->q.bE=p.bE->∀ b,1<=b->b<=15->(h=true\/b<=lv t.kind t.op)->jH (bA q b) (kd l j)->Rd l (bA q b) i j t h:=by
   intro i j hn p t h d hz q q1 q2 b hb hb2 hh hf;have dd:=d;cases d with
   | @par _ _ j _ h' h1 h2 h3 h4 h5=>
    have hin:=ih.D (i+1) j ah bG t h' h4 hz bG rfl rfl 1 ah ah (by
     cases h4 with
     | par=>exact .inl rfl
     | bare hfit=>exact .inr<|rF hfit rfl) (by rw [h5];exact adh ah bG 1 ah)
    have r:=aDi l hl (bA q 15) rfl h1 ah hin h5 h3;exact PU hz b hb hb2 (dd.cm hl<|.inl rfl) (by rw [h1];decide) (by rw [h1];decide) (by rw [h1];decide) r hf
   | bare h1 h2 h3 h4=>
    have hbl:b<=lv t.kind t.op:=by
     rcases hh with e|e
     .cases e
     .exact e
    exact hN i j hn p t h2 h3 h4 hz q (.inr ⟨q1,q2⟩) (fun e=>by rw [q1];exact aDK h1 e) (fun e e'=>by rw [q2];exact aDL h1 e e') b hb hbl hf
  have hC:∀ i j,j - i<=n+1->∀ p t h,bV l p i j t h->aZ t<=400->∀ q,q.bC=p.bC->q.bE=p.bE->∀ v sd,Fb v 3000 sd->(h=true\/v<=lv t.kind t.op)->jH (bA q<|v+1) (kd l j)->∃ c,c < j - i/\Ch l v 3000 sd (bA q v) i j t h c:=by
   intro i j hn p t h d hz q q1 q2 v sd hch hh hf;have hv:=Yy hch;have hlt:=d.lt;by_cases hx:h=true\/v+1<=lv t.kind t.op
   .exact ⟨0,ah,Ch.first hch (q:=bA q v)<|hD i j hn p t h d hz q q1 q2 (v+1) ah ah hx hf⟩
   .have hv3:v=3\/v=4\/v=8\/v=9\/v=10:=by
     rcases hch with ⟨e,_⟩|⟨e,_⟩|⟨_,e,_⟩|⟨_,e,_⟩|⟨e,_⟩|⟨e,_⟩|⟨e,_⟩<;>omega
    cases d with
    | par=>exact absurd (.inl rfl) hx
    | bare h1 h2 h3 h4=>
     have he:lv t.kind t.op=v:=by
      rcases hh with e|e
      .cases e
      .have: ¬v+1<=lv t.kind t.op:=fun e=>hx (.inr e);omega
     cases h4 with
     | leaf k e1=>rcases e1 with rfl|rfl|rfl<;>(have he:(15:Int)=v:=he;omega)
     | name|index|len=>have he:(15:Int)=v:=he;omega
     | nI k e1|call k e1=>rcases e1 with rfl|rfl<;>(have he:(15:Int)=v:=he;omega)
     | field=>have he:(14:Int)=v:=he;omega
     | pre|post=>have he:(13:Int)=v:=he;omega
     | unary=>have he:(11:Int)=v:=he;omega
     | one|many=>have he:(5:Int)=v:=he;omega
     | cond=>have he:(2:Int)=v:=he;omega
     | assign=>have he:(1:Int)=v:=he;omega
     | bin o g1 g2 g3 g4 g5 g6 g7 g8=>
      have he:bg o=v:=he;rw [JF] at hz;have hov:=aic g1 g2;obtain ⟨aKf,_⟩:=aib (o:=o) ah;have hsd:sd=jk o:=by
       subst he;rcases hch with ⟨e,_,rfl⟩|⟨e,_,rfl⟩|⟨_,e,_⟩|⟨_,e,_⟩|⟨e,_,rfl⟩|⟨e,_,rfl⟩|⟨e,_,rfl⟩<;>first|omega|(unfold jk;rw [e];rfl)
      subst he;subst hsd;exact aqn l hl ih o hn ah g2 g3 g4 g5 g6 g7 g8 ah q q1 q2 hf
     | cat g1 g2 g3 g4=>
      have he:(8:Int)=v:=he;subst he;rw [JF] at hz;have hsd:sd=(8,9):=by
       rcases hch with ⟨e,_,rfl⟩|⟨e,_,rfl⟩|⟨_,e,_⟩|⟨_,e,_⟩|⟨e,_,rfl⟩|⟨e,_,rfl⟩|⟨e,_,rfl⟩<;>first|omega|rfl
      subst hsd;exact aqo l hl ih hn g1 g2 g3 g4 ah q q1 q2 hf
  have hI:∀ i j,j - i<=n+1->∀ p t h,bV l p i j t h->aZ t<=400->∀ q,q.bC=p.bC->q.bE=p.bE->q.bC=false->(h=true\/5<=lv t.kind t.op)->jH (bA q 6) (kd l j)->∃ c,c < j - i/\JE l (bA q 5) i j t h c:=by
   intro i j hn p t h d hz q q1 q2 q3 hh hf;have hlt:=d.lt;by_cases hx:h=true\/6<=lv t.kind t.op
   .exact ⟨0,ah,aqb l (bA q 5) (fun _=>d.cm hl hx)<|hD i j hn p t h d hz q q1 q2 6 ah ah hx hf⟩
   .cases d with
    | par=>exact absurd (.inl rfl) hx
    | bare h1 h2 h3 h4=>
     have he:lv t.kind t.op=5:=by
      rcases hh with e|e
      .cases e
      .have: ¬6<=lv t.kind t.op:=fun e=>hx (.inr e);omega
     cases h4 with
     | leaf k e1=>rcases e1 with rfl|rfl|rfl<;>(have he:(15:Int)=5:=he;omega)
     | name|index|len=>have he:(15:Int)=5:=he;omega
     | nI k e1|call k e1=>rcases e1 with rfl|rfl<;>(have he:(15:Int)=5:=he;omega)
     | field=>have he:(14:Int)=5:=he;omega
     | pre|post=>have he:(13:Int)=5:=he;omega
     | unary=>have he:(11:Int)=5:=he;omega
     | cond=>have he:(2:Int)=5:=he;omega
     | assign=>have he:(1:Int)=5:=he;omega
     | bin o g1 g2=>
      have he:bg o=5:=he;have:=aic g1 g2;omega
     | cat=>have he:(8:Int)=5:=he;omega
     | one g1 g2 g3 g4=>
      rw [DU] at hz;exact aqp l hl ih hn g1 g2 g3 g4 ah q q1 q2 q3
     | @many _ _ _ ts g1 g2 g3 g4 g5 g6 g7 g8=>
      have hz':aW ts<=400:=by simp only [aZ] at hz;omega
      exact ⟨0,ah,aqr l hl ih hn g1 g2 g3 g4 g5 g6 g7 g8 hz' q q3⟩
  have hL:∀ i j,j - i<=n+1->∀ ts en,oZ l i j ts->kd l j=en->(en=33\/en=35)->j < l.length->aW ts<=400->LY l en i (j+1) ts:=by
   intro i j hn ts en d hk hen hj hz;cases d with
   | @one _ _ t h h1 h2=>
    have hz':aZ t<=400:=by simp only [aW] at hz;omega
    refine ⟨h,j,?_,h1,hj,hk,rfl⟩;exact hD i j hn bG t h h2 hz' bG rfl rfl 1 ah ah (by
     cases h2 with
     | par=>exact .inl rfl
     | bare hfit=>exact .inr<|rF hfit rfl) (by rw [hk];exact adh ah bG 1 ah)
   | @cons _ k f _ t u ts h h1 h2 h3 h4 h5 h6=>
    have h3':=h3.1;have hz1:aZ t<=400:=by simp only [aW] at hz;omega
    have hz2:aW (u::ts)<=400:=by simp only [aW] at hz ⊢;omega
    refine ⟨h,k,f,?_,h1,ah,h2,h3,ih.L f j ah _ en h6 hk hen hj hz2⟩;exact hD i k ah bG t h h5 hz1 bG rfl rfl 1 ah ah (by
     cases h5 with
     | par=>exact .inl rfl
     | bare hfit=>exact .inr<|rF hfit rfl) (by rw [h2];exact adh ah bG 1 ah)
  exact ⟨hN,hD,hC,hI,hL⟩
theorem ayo {p:aN} {i j:Nat} {t:aA} {h:Bool} (d:bV l p i j t h) (hz:aZ t<=400) (q:aN) (q1:q.bC=p.bC) (q2:q.bE=p.bE) (b:Int) (hb:1<=b) (hb2:b<=15) (hh:h=true\/b<=lv t.kind t.op) (hf:jH (bA q b) (kd l j)):Rd l (bA q b) i j t h:=
 (aEh l hl<|j - i).D i j (cZ _) p t h d hz q q1 q2 b hb hb2 hh hf
end
structure CN (t:aA):Prop where
 qF:(t.kind==9||(t.kind==10||(t.kind==11||(t.kind==12||t.kind==15))))=false->t.op=0
 oth:t.other=[]
 Jo:t.kind=6\/t.kind=9\/t.kind=10\/t.kind=11\/t.kind=12\/t.kind=14\/t.kind=15->t.text=[]
 k9:t.kind=9\/t.kind=10->t.op=51\/t.op=52
 k11:t.kind=11->t.op=55\/t.op=56\/t.op=61
 k15:t.kind=15->nM t.op=true
 many:t.kind=5\/t.kind=7\/t.kind=8\/t.kind=13->t.kids.length<=6
def dH.lt {l:List aC} {p:aN} {i j:Nat} {t:aA} (d:dH l p i j t):i < j:=by
 cases d with
 | bin o h1 h2 h3 h4 h5 h6=>have:=zY h6;omega
 | _=>omega
def oZ.lt {l:List aC} {i j:Nat} {ts:List aA} (d:oZ l i j ts):i < j/\j<=l.length:=by
 cases d with
 | one h1 h2=>exact h2.lt
 | cons h1 h2 h3 h4 h5 h6=>
  have:=h3.1;refine ⟨ah,?_⟩;clear h1 h2 h3 h5;have key:∀ (ts:List aA) (i:Nat),oZ l i j ts->j<=l.length:=by
   intro ts;induction ts with
   | nil=>intro i d;cases d
   | cons t ts ih=>
    intro i d;cases d with
    | one h1 h2=>exact h2.lt.2
    | cons h1 h2 h3 h4 h5 h6=>exact ih _ h6
  exact key _ _ h6
def Sg.pos {l:List aC} {i:Nat} {x:List aC} (h:Sg l i x) (hx:0 < x.length):i+x.length<=l.length:=by
 cases x with
 | nil=>simp at hx
 | cons t y=>
  obtain ⟨hi,_⟩:=h.hd;exact h.len ah
def amW {k o:Int} (h:lv k o≠0):dD k o bG=true:=by
 have h1:1<=lv k o:=by
  by_cases e:k=12
  .subst e;have h:bg o≠0:=h;show 1<=bg o;rcases Jp h with e|e|e|e|e|e|e|e|e|e|e|e|e|e|e|e|e<;>subst e<;>decide
  .have key:∀ {c:Bool} {x y:Int},(x=0\/1<=x)->(y=0\/1<=y)->(bif c then x else y)=0\/1<=(bif c then x else y):=fun {c x y} hx hy=>by cases c<;>assumption
   have:lv k o=0\/1<=lv k o:=by
    unfold lv;have e12:(k==12)=false:=by simpa using e
    rw [e12];exact key (.inr ah) (key (.inr ah)<|key (.inr ah)<|by rw [aG];exact key (.inr ah)<|key (.inr ah)<|key (.inr ah)<|key (.inr ah)<|.inl rfl)
   omega
 have h0:(lv k o==0)=false:=by simpa using h
 unfold dD;rw [h0];show (true&&(true&&(true&&(true&&(false||decide (lv k o>=1))))))=true;simp only [rO,Kt,lG];omega
def awW {k o:Int} {p:aN} (hp:posB p=true) (he:nR k=true) (hl:lv k o=15) (h4:k≠4):dD k o p=true:=by
 have ho:=OY o;have hpl:p.Level<=15:=by
  unfold posB at hp;simp only [dL,lG] at hp;exact hp.1.2
 have hk:k=1\/k=2\/k=3\/k=5\/k=7\/k=8:=by
  rcases kinds he with e|e|e|e|e|e|e|e|e|e|e|e|e|e|e<;>subst e<;>first
   | omega
   | (exfalso;have hl:bg o=15:=hl;omega)
   | (exfalso;have hl:(14:Int)=15:=hl;omega)
   | (exfalso;have hl:(13:Int)=15:=hl;omega)
   | (exfalso;have hl:(11:Int)=15:=hl;omega)
   | (exfalso;have hl:(5:Int)=15:=hl;omega)
   | (exfalso;have hl:(2:Int)=15:=hl;omega)
   | (exfalso;have hl:(1:Int)=15:=hl;omega)
 unfold dD;rw [hp,hl];have hlv:decide ((15:Int)>=p.Level)=true:=by simpa using hpl
 rw [hlv];rcases hk with rfl|rfl|rfl|rfl|rfl|rfl<;>simp
def Sg.tx {l:List aC} {i:Nat} {t:aC} {y:List aC} (h:Sg l i (t::y)):lD l i=t.Text:=by
 obtain ⟨hi,e⟩:=h.hd;rw [ze hi,e]
def vM {t:aA} (h:t.kids.length=1):∃ u,t.kids=[u]:=by
 match e:t.kids,h with
 | [a],_=>exact ⟨a,rfl⟩
def TJ (t:aC):Prop:=t.Text.length<=1048576
def awX (k:Int):∃ b:Bool,yZ k=some b/\Oy k=some b:=by
 have e:Oy k=yZ k:=rfl;rw [e];have hk:∀ b:Bool,EO b=some b:=by intro b;cases b<;>rfl
 have hb:∀ (c d:Bool) (X:Option Bool),(∃ b,X=some b)->∃ b,(bif c then some d else X)=some b:=by
  intro c d X hX;cases c
  .exact hX
  .exact ⟨d,rfl⟩
 unfold yZ;simp only [hk];obtain ⟨b,h⟩:=hb (k==3) (k==3) _ (hb (k==4) (k==4) _<|hb (k==5) (k==5) _<|hb (k==6) (k==6) _<|hb (k==8) (k==8) _<|hb (k==33) (k==33) _<|hb (k==35) (k==35) _<|hb (k==51) (k==51) _ ⟨(k==52),rfl⟩);exact ⟨b,h,h⟩
def awY (N M:Nat) (a:List aC) (ha:a.length<=3000) (hN:1048576+300 < N) (hs:∀ t,t∈a->TJ t) (m i:Nat) (p:Int) (hm:0 < m) (h:i < a.length) (h0:a[i].Kind=0):yP N m (a,p,(i:Int))=some false:=by
 obtain ⟨m,rfl⟩:∃ k,m=k+1:=⟨m - 1,ah⟩
 have ht:=hs _ (mQ h);unfold TJ at ht;obtain ⟨b,_,b2,b3⟩:=amU N a[i] ht ah;have hb:=b3 h0;subst hb;have hk:∀ K,Li N (yP N m) (a,p,(i:Int),a[i],K)=some false:=by
  intro K;simp only [Li];rw [b2];rfl
 have hst:IntKind.wrap .i64 ((i:Int)+1)=((i+1:Nat):Int):=by rw [wrap64 ah ah];omega
 rw [yP,gJ h,aH,bS h,av,hst];by_cases h1:i+1 < a.length
 .rw [gJ h1,aH,bS h1,av,hk]
 .rw [iW h1,aG,hk]
def awZ (N:Nat) (a:List aC) (ha:a.length<=3000) (hN:1048576+300 < N) (hs:∀ t,t∈a->TJ t):∀ (n m i:Nat) (p:Int),a.length - i < n->a.length - i < m->i<=a.length->
  ∃ b:Bool,Gr N n (a,p,(i:Int))=some b/\yP N m (a,p,(i:Int))=some b:=by
 intro n;induction n with
 | zero=>intro m i p h;omega
 | succ n ih=>
  intro m i p hn hm hi;obtain ⟨m,rfl⟩:∃ k,m=k+1:=⟨m - 1,ah⟩
  by_cases h:i < a.length
  .have hst:IntKind.wrap .i64 ((i:Int)+1)=((i+1:Nat):Int):=by rw [wrap64 ah ah];omega
   have ht:=hs _ (mQ h);unfold TJ at ht;obtain ⟨b,b1,b2,_⟩:=amU N a[i] ht ah;obtain ⟨e,e1,e2⟩:=awX p;obtain ⟨q,q1,q2⟩:=ih m (i+1) a[i].Kind ah ah ah;have main:∀ (K:Int),(K≠0/\i+1 < a.length)\/(K=0/\ ¬i+1 < a.length)\/(K=0/\i+1 < a.length/\q=false)->
     ∃ r:Bool,TF N (Gr N n) (a,p,(i:Int),K)=some r/\Li N (yP N m) (a,p,(i:Int),a[i],K)=some r:=by
    intro K hK;simp only [TF,Li,Xf,bS h,av,b1,b2,e1,e2,hst,q1,q2];have hL:decide (((i+1:Nat):Int) < (a.length:Int))=true/\(i+1 < a.length)\/decide (((i+1:Nat):Int) < (a.length:Int))=false/\ ¬(i+1 < a.length):=by
     by_cases h1:i+1 < a.length
     .exact .inl ⟨gJ h1,h1⟩
     .exact .inr ⟨iW h1,h1⟩
    generalize (a[i].Kind==7)=c7;generalize hc2:(a[i].Kind==2)=c2;generalize hc5:(a[i].Kind==5)=c5;generalize amY:(a[i].Kind==58)=c58;generalize amZ:(a[i].Kind==41)=c41;generalize (K !=32)=k32;generalize hk1:(K !=1)=k1;have h25:c2=true->c5=false/\c58=false/\c41=false:=by
     intro h;rw [h] at hc2;have:=eq_of_beq hc2;rw [this] at hc5 amY amZ;exact ⟨hc5.symm,amY.symm,amZ.symm⟩
    rcases hK with ⟨k0,hl⟩|⟨k0,hl⟩|⟨k0,hl,hq⟩
    .have hk0:(K !=0)=true:=by simpa using k0
     rcases hL with ⟨hL,_⟩|⟨_,hL⟩
     .rw [hL,hk0];cases b<;>cases c7<;>cases c2<;>cases c5<;>cases c58<;>cases c41<;>cases k32<;>cases k1<;>cases e<;>exact ⟨_,rfl,rfl⟩
     .exact absurd hl hL
    .have hk0:(K !=0)=false:=by rw [k0];rfl
     rcases hL with ⟨_,hL⟩|⟨hL,_⟩
     .exact absurd hL hl
     .rw [hL,hk0];cases b<;>cases c7<;>cases c2<;>cases c5<;>cases c58<;>cases c41<;>cases k32<;>cases k1<;>cases e<;>exact ⟨_,rfl,rfl⟩
    .have hk0:(K !=0)=false:=by rw [k0];rfl
     have axb:k1=true:=by rw [<- hk1,k0];rfl
     rcases hL with ⟨hL,_⟩|⟨_,hL⟩
     .subst axb;rw [hL,hk0,hq];cases b<;>cases c7<;>cases c2<;>cases c5<;>cases c58<;>cases c41<;>cases k32<;>cases e<;>first
       | exact ⟨_,rfl,rfl⟩
       | (exfalso;have:=h25 rfl;simp at this)
     .exact absurd hl hL
   rw [Gr,yP,gJ h,aH,aH,bS h,av,hst];by_cases h1:i+1 < a.length
   .rw [gJ h1,aH,aH,bS h1,av,av];refine main a[i+1].Kind ?_;by_cases hz:a[i+1].Kind=0
    .have:=awY N N a ha hN hs m (i+1) a[i].Kind ah h1 hz;rw [q2] at this;exact .inr (.inr ⟨hz,h1,by simpa using this⟩)
    .exact .inl ⟨hz,h1⟩
   .rw [iW h1,aG,aG];exact main 0 (.inr<|.inl ⟨rfl,h1⟩)
  .rw [Gr,yP,iW h];exact ⟨true,rfl,rfl⟩
def ana (N:Nat) (a:List aC) (hN:1048576+300 < N) (hs:∀ t,t∈a->TJ t):∃ b:Bool,abN N a=some b/\OA N a=some b/\(b=true->a.length<=3000):=by
 unfold abN OA;by_cases h:a.length<=3000
 .obtain ⟨b,h1,h2⟩:=awZ N a h hN hs N N 0 0 ah ah ah;rw [nE (by omega: ¬(a.length:Int) > 3000)];exact ⟨b,h1,h2,fun _=>h⟩
 .rw [fU (by omega:(a.length:Int) > 3000)];exact ⟨false,rfl,rfl,fun h=>by cases h⟩
def jK (k:Int):Bool:=k==3||(k==4||(k==5||(k==6||(k==8||(k==33||(k==35||(k==51||k==52)))))))
def axc (k:Int):yZ k=some (jK k):=by
 have h1:∀ b,EO b=some b:=fun b=>by cases b<;>rfl
 unfold yZ jK;simp only [h1];cases (k==3)<;>cases (k==4)<;>cases (k==5)<;>cases (k==6)<;>cases (k==8)<;>cases (k==33)<;>cases (k==35)<;>cases (k==51)<;>rfl
def axd (l:List aC) (i k:Nat):Prop:=kd l k≠2/\(kd l k=7->kd l (k+1)=32)/\(i < k->kd l k=5->jK (kd l<|k - 1)=false)/\(kd l k=58\/kd l k=41->i < k/\jK (kd l<|k - 1)=true)
def ng (l:List aC) (i j:Nat):Prop:=∀ k,i<=k->k < j->axd l i k
def ng.one {l:List aC} {i:Nat} (h:kd l i≠2/\kd l i≠58/\kd l i≠41) (h7:kd l i=7->kd l (i+1)=32):ng l i (i+1):=fun k h1 h2=>by
 have e:k=i:=ah;subst e;exact ⟨h.1,h7,fun h=>absurd h<|ZN _,fun e=>by rcases e with e|e<;>simp [e] at h⟩
def ng.snoc {l:List aC} {i m:Nat} (a:ng l i m) (him:i < m) (h:kd l m≠2/\kd l m≠7/\kd l m≠5) (hd:kd l m=58\/kd l m=41->jK (kd l<|m - 1)=true):ng l i (m+1):=fun k h1 h2=>by
 by_cases e:k=m
 .subst e;exact ⟨h.1,fun e=>absurd e h.2.1,fun _ e=>absurd e h.2.2,fun e=>⟨him,hd e⟩⟩
 .exact a k h1 ah
def ng.app {l:List aC} {i m j:Nat} (a:ng l i m) (b:ng l m j) (him:i < m) (hb:kd l m=5->jK (kd l<|m - 1)=false):ng l i j:=fun k h1 h2=>by
 by_cases e:k < m
 .exact a k h1 e
 .obtain ⟨b1,b2,b3,b4⟩:=b k ah h2;refine ⟨b1,b2,fun h e5=>?_,fun e4=>⟨ah,(b4 e4).2⟩⟩;by_cases ek:k=m
  .subst ek;exact hb e5
  .exact b3 ah e5
def agu {l:List aC} {i:Nat}:∀ (n m f:Nat),f - m<=n->ng l i m->i < m->m<=f->(∀ k,m<=k->k < f->kd l k=1)->ng l i f
 | 0,m,f,h,a,_,hm,_=>by
  have:m=f:=ah;subst this;exact a
 | n+1,m,f,h,a,him,hm,hk=>by
  by_cases e:m=f
  .subst e;exact a
  .have h1:=hk m (cZ _) ah;exact agu n (m+1) f ah (a.snoc him (by rw [h1];decide) fun e=>by rw [h1] at e;omega) ah ah fun k g1 g2=>hk k ah g2
structure XF (l:List aC) (i j:Nat):Prop where
 a:ng l i j
 e:jK (kd l<|j - 1)=true
def axe {o:Int} (h:bg o≠0):jK o=false/\o≠2/\o≠7/\o≠5:=by
 rcases Jp h with e|e|e|e|e|e|e|e|e|e|e|e|e|e|e|e|e<;>subst e<;>decide
def axf {o:Int} (h:nM o=true):jK o=false/\o≠2/\o≠7/\o≠5:=by
 have h1:=LD h;refine ⟨?_,ah,ah,ah⟩;have f:∀ {z:Int},o≠z->(o==z)=false:=fun h=>by simpa using h
 unfold jK;rw [f ah,f ah,f ah,f ah,f ah,f ah,f ah,f ah,f ah];rfl
def anb {l:List aC} {m f:Nat} (h:Ln l (m+1) f) (he:jK (kd l m)=false):jK (kd l<|f - 1)=false:=by
 by_cases e:f=m+1
 .subst e;exact he
 .have:=h.1;rw [h.2.1 (f - 1) ah ah];rfl
def axg (l:List aC):∀ (n i j:Nat),j - i<=n->(∀ p t,i < j->dH l p i j t->XF l i j)/\(∀ p t h,bV l p i j t h->XF l i j)/\(∀ ts,oZ l i j ts->XF l i j):=by
 intro n;induction n with
 | zero=>exact fun i j hn=>⟨fun p t hij=>ah,fun p t h d=>by have:=d.lt;omega,fun ts d=>by have:=d.lt;omega⟩
 | succ n ih=>
  intro i j hn;have hN:∀ p t,i < j->dH l p i j t->XF l i j:=by
   intro p t hij d;cases d with
   | leaf k h1 h2=>rcases h1 with rfl|rfl|rfl<;>exact ⟨.one (by rw [h2];decide) (fun e=>by rw [h2] at e;omega),by show jK (kd l i)=true;rw [h2];rfl⟩
   | name h1=>exact ⟨.one (by rw [h1];decide) (fun e=>by rw [h1] at e;omega),by show jK (kd l i)=true;rw [h1];rfl⟩
   | @index _ _ j ts h1 h2 h3 h4 h5 h6 h7=>
    have r:=(ih (i+2) j ah).2.2 _ h7;have a1:ng l i (i+1):=.one (by rw [h1];decide) (fun e=>by rw [h1] at e;omega);have a2:ng l i (i+1+1):=a1.snoc ah (by rw [h2];decide) (fun e=>by rw [h2] at e;omega);have a3:=a2.app r.a ah (fun _=>by show jK (kd l<|i+1)=false;rw [h2];rfl);exact ⟨a3.snoc ah (by rw [h5];decide) (fun e=>by rw [h5] at e;omega),by show jK (kd l j)=true;rw [h5];rfl⟩
   | nI k h1 h2 h3 h4=>
    have a1:ng l i (i+1):=.one (by rw [h2];rcases h1 with rfl|rfl<;>decide) (fun _=>h3);have a2:ng l i (i+1+1):=a1.snoc ah (by rw [h3];decide) (fun e=>by rw [h3] at e;omega);have a3:ng l i (i+2+1):=a2.snoc ah (by show kd l (i+2)≠2/\kd l (i+2)≠7/\kd l (i+2)≠5;rw [h4];decide) (fun e=>by have e:kd l (i+2)=58\/kd l (i+2)=41:=e;rw [h4] at e;omega);exact ⟨a3,by show jK (kd l<|i+2)=true;rw [h4];rfl⟩
   | @call _ _ j ts k h1 h2 h3 h4 h5 h6 h7 h8=>
    have r:=(ih (i+2) j ah).2.2 _ h8;have a1:ng l i (i+1):=.one (by rw [h2];rcases h1 with rfl|rfl<;>decide) (fun _=>h3);have a2:ng l i (i+1+1):=a1.snoc ah (by rw [h3];decide) (fun e=>by rw [h3] at e;omega);have a3:=a2.app r.a ah (fun _=>by show jK (kd l<|i+1)=false;rw [h3];rfl);exact ⟨a3.snoc ah (by rw [h6];decide) (fun e=>by rw [h6] at e;omega),by show jK (kd l j)=true;rw [h6];rfl⟩
   | len h1=>exact ⟨.one (by rw [h1];decide) (fun e=>by rw [h1] at e;omega),by show jK (kd l i)=true;rw [h1];rfl⟩
   | field h1 h2 h3=>
    have r:=(ih (i+1) j ah).2.1 _ _ _ h3;have a1:ng l i (i+1):=.one (by rw [h1];decide) (fun e=>by rw [h1] at e;omega);exact ⟨a1.app r.a ah (fun _=>by show jK (kd l i)=false;rw [h1];rfl),r.e⟩
   | pre o h1 h2 h3 h4 h5=>
    have r:=(ih (i+1) j ah).1 _ _ h4 h5;have a1:ng l i (i+1):=.one (by rw [h2];omega) (fun e=>by rw [h2] at e;omega);have hl:=OZ h5 h3;exact ⟨a1.app r.a ah (fun e=>by rw [e] at hl;omega),r.e⟩
   | @post _ _ j t o h1 h2 h3 h4 h5=>
    have r:=(ih i j ah).1 _ _ h4 h5;exact ⟨r.a.snoc h4 (by rw [h2];omega) (fun e=>by rw [h2] at e;omega),by show jK (kd l j)=true;rw [h2];rcases h1 with rfl|rfl<;>rfl⟩
   | unary o h1 h2 h3 h4=>
    have r:=(ih (i+1) j ah).2.1 _ _ _ h4;have a1:ng l i (i+1):=.one (by rw [h2];omega) (fun e=>by rw [h2] at e;omega);exact ⟨a1.app r.a ah (fun _=>by show jK (kd l i)=false;rw [h2];rcases h1 with rfl|rfl|rfl<;>rfl),r.e⟩
   | @bin _ _ m f _ a b _ _ o h1 h2 h3 h4 h5 h6 h7 h8=>
    have Pb:=zY h6;have ra:=(ih i m ah).2.1 _ _ _ h7;have rb:=(ih f j ah).2.1 _ _ _ h8;have ho:=axe h1;have a1:=ra.a.snoc h4 (by rw [h3];exact ho.2) (fun _=>ra.e);rcases h6 with ⟨_,h6⟩|⟨_,h6⟩
    .have a2:=agu (f - (m+1)) (m+1) f ah a1 ah Pb h6.2.1;exact ⟨a2.app rb.a ah (fun _=>anb h6<|by rw [h3];exact ho.1),rb.e⟩
    .subst h6;exact ⟨a1.app rb.a ah (fun _=>by show jK (kd l m)=false;rw [h3];exact ho.1),rb.e⟩
   | @cat _ _ m _ a b _ _ h1 h2 h3 h4=>
    have ra:=(ih i m ah).2.1 _ _ _ h3;have rb:=(ih m j ah).2.1 _ _ _ h4;have hbg:=abR (h4.first.s rfl);exact ⟨ra.a.app rb.a h1 (fun e=>by rw [e] at hbg;omega),rb.e⟩
   | @one _ _ m t h h1 h2 h3 h4=>
    have ra:=(ih i m ah).2.1 _ _ _ h4;have a1:=ra.a.snoc h1 (by rw [h2];decide) (fun e=>by rw [h2] at e;omega);have a2:ng l i (m+1+1):=a1.snoc ah (by rw [h3];decide) (fun e=>by rw [h3] at e;omega);exact ⟨a2,by show jK (kd l<|m+1)=true;rw [h3];rfl⟩
   | @many _ _ m ts h1 h2 h3 h4 h5 h6 h7 h8=>
    have r:=(ih (i+1) m ah).2.2 _ h8;have a1:ng l i (i+1):=.one (by rw [h1];decide) (fun e=>by rw [h1] at e;omega);have a2:=a1.app r.a ah (fun _=>by show jK (kd l i)=false;rw [h1];rfl);have a3:=a2.snoc ah (by rw [h3];decide) (fun e=>by rw [h3] at e;omega);have a4:ng l i (m+1+1):=a3.snoc ah (by rw [h4];decide) (fun e=>by rw [h4] at e;omega);have a5:ng l i (m+2+1):=a4.snoc ah (by show kd l (m+2)≠2/\kd l (m+2)≠7/\kd l (m+2)≠5;rw [h5];decide) (fun e=>by have e:kd l (m+2)=58\/kd l (m+2)=41:=e;rw [h5] at e;omega);exact ⟨a5,by show jK (kd l<|m+2)=true;rw [h5];rfl⟩
   | @cond _ _ m n2 _ a b c _ _ _ h1 h2 h3 h4 h5 h6 h7 h8=>
    have ra:=(ih i m ah).2.1 _ _ _ h6;have rb:=(ih (m+1) n2 ah).2.1 _ _ _ h7;have rc:=(ih (n2+1) j ah).2.1 _ _ _ h8;have a1:=ra.a.snoc h1 (by rw [h2];decide) (fun e=>by rw [h2] at e;omega);have a2:=a1.app rb.a ah (fun _=>by show jK (kd l m)=false;rw [h2];rfl);have a3:=a2.snoc ah (by rw [h4];decide) (fun e=>by rw [h4] at e;omega);exact ⟨a3.app rc.a ah (fun _=>by show jK (kd l n2)=false;rw [h4];rfl),rc.e⟩
   | @assign _ _ m _ a b _ o h1 h2 h3 h4 h5 h6 h7=>
    have ra:=(ih i m ah).1 _ _ h3 h6;have rb:=(ih (m+1) j ah).2.1 _ _ _ h7;have ho:=axf h1;have a1:=ra.a.snoc h3 (by rw [h2];exact ho.2) (fun _=>ra.e);exact ⟨a1.app rb.a ah (fun _=>by show jK (kd l m)=false;rw [h2];exact ho.1),rb.e⟩
  have hD:∀ p t h,bV l p i j t h->XF l i j:=fun p t h d=>by
   cases d with
   | @par _ _ j _ h h1 h2 h3 h4 h5=>
    have r:=(ih (i+1) j ah).2.1 _ _ _ h4;have a1:ng l i (i+1):=.one (by rw [h1];decide) (fun e=>by rw [h1] at e;omega);have a2:=a1.app r.a ah (fun _=>by show jK (kd l i)=false;rw [h1];rfl);exact ⟨a2.snoc ah (by rw [h5];decide) (fun e=>by rw [h5] at e;omega),by show jK (kd l j)=true;rw [h5];rfl⟩
   | bare h1 h2 h3 h4=>exact hN p t h2 h4
  refine ⟨hN,hD,fun ts d=>?_⟩;cases d with
  | one h1 h2=>exact hD _ _ _ h2
  | @cons _ k f _ t u ts h h1 h2 h3 h4 h5 h6=>
   have h3':=h3.1;have ra:=(ih i k ah).2.1 _ _ _ h5;have rb:=(ih f j ah).2.2 _ h6;have a1:=ra.a.snoc h1 (by rw [h2];decide) (fun e=>by rw [h2] at e;omega);have a2:=agu (f - (k+1)) (k+1) f ah a1 ah h3' h3.2.1;exact ⟨a2.app rb.a ah (fun _=>anb h3<|by rw [h2];rfl),rb.e⟩
def axh (N:Nat) (a:List aC) (ha:a.length<=3000) (agv:ng a 0 a.length) (hok:∀ t,t∈a->qY N t=some true):∀ (n i:Nat) (last:Int),a.length - i < n->i<=a.length->(i=0->last=0)->(0 < i->last=kd a (i - 1))->Gr N n (a,last,(i:Int))=some true:=by
 intro n;induction n with
 | zero=>intro i last h;omega
 | succ n ih=>
  intro i last hn hi h0 h1;rw [Gr];by_cases hlt:i < a.length
  .obtain ⟨b1,b2,b3,b4⟩:=agv i (Ct _) hlt;have hk:=lF hlt;rw [hk] at b1 b2 b3 b4;have step:∀ nx:Int,nx=kd a (i+1)->TF N (Gr N n) (a,last,(i:Int),nx)=some true:=fun nx hnx=>by
    unfold TF;dsimp only;simp only [bS hlt,av,hok _<|mQ hlt,kE,aG];have c2:(a[i].Kind==2)=false:=by simpa using b1
    have first:(bif a[i].Kind==7 then bif nx !=32 then some true else bif a[i].Kind==2 then bif nx !=1 then some (decide<|IntKind.wrap .i64 ((i:Int)+1) < (a.length:Int)) else some false else some false else bif a[i].Kind==2 then bif nx !=1 then some (decide<|IntKind.wrap .i64 ((i:Int)+1) < (a.length:Int)) else some false else some false)=some false:=by
     cases h7:(a[i].Kind==7) with
     | false=>rw [aG,c2,aG]
     | true=>
      have:nx=32:=by rw [hnx];exact b2 (by simpa using h7)
      rw [this,c2];rfl
    rw [first,av,aG];have hend:jK last=true->0 < i/\last=kd a (i - 1):=fun h=>by
     by_cases e:i=0
     .rw [h0 e] at h;cases h
     .exact ⟨ah,h1 ah⟩
    have e5:a[i].Kind=5->jK last=false:=fun h=>by
     cases hb:jK last with
     | false=>rfl
     | true=>
      obtain ⟨g1,g2⟩:=hend hb;have:=b3 g1 h;rw [<- g2,hb] at this;cases this
    have ed:a[i].Kind=58\/a[i].Kind=41->jK last=true:=fun h=>by
     obtain ⟨g1,g2⟩:=b4 h;rw [h1 g1];exact g2
    have second:(bif a[i].Kind==5 then (yZ last).bind fun agd=>bif agd then some true else (bif (a[i].Kind==58) then (yZ last).bind fun agf=>some (!agf) else (bif (a[i].Kind==41) then (yZ last).bind fun agh=>some (!agh) else (some false))) else (bif (a[i].Kind==58) then (yZ last).bind fun agi=>some (!agi) else (bif (a[i].Kind==41) then (yZ last).bind fun agj=>some (!agj) else (some false))))=some false:=by
     rw [axc];simp only [av];cases h5:(a[i].Kind==5) with
     | true=>
      have h5':a[i].Kind=5:=by simpa using h5
      rw [e5 h5',h5'];rfl
     | false=>
      rw [aG];cases h58:(a[i].Kind==58) with
      | true=>rw [ed<|.inl<|by simpa using h58];rfl
      | false=>
       rw [aG];cases rA:(a[i].Kind==41) with
       | true=>rw [ed<|.inr<|by simpa using rA];rfl
       | false=>rfl
    rw [second,av,aG,wrap64 ah ah,show (i:Int)+1=((i+1:Nat):Int) by omega];exact ih (i+1) _ ah ah (fun e=>ah) (fun _=>hk.symm)
   rw [gJ hlt,aH,wrap64 ah ah,show (i:Int)+1=((i+1:Nat):Int) by omega];by_cases h2:i+1 < a.length
   .rw [gJ h2,aH,bS h2,av];exact step _ (by rw [lF h2])
   .rw [iW h2,aG];exact step _ (by unfold kd;rw [AA ah];rfl)
  .rw [iW hlt,aG]
def axj (N:Nat) (a:List aC) (ha:a.length<=3000) (hN:3000 < N) (agv:ng a 0 a.length) (hok:∀ t,t∈a->qY N t=some true):abN N a=some true:=by
 unfold abN;rw [nE (show¬(a.length:Int) > 3000 by omega),aG];exact axh N a ha agv hok N 0 0 ah ah (fun _=>rfl) (fun h=>ah)
def om (d:Nat) (k:Int):Nat:=bif jL k then (bif lS k then d - 1 else d)+1 else (bif lS k then d - 1 else d)
def fK:Nat->List aC->Bool
 | _,[]=>true
 | d,t::ts=>decide (om d t.Kind<=40)&&fK (om d t.Kind) ts
def axk (N:Nat) (a:List aC) (ha:a.length<=3000):∀ (n i d:Nat),a.length - i < n->i<=a.length->d<=40->∃ r,Dc N n (a,(d:Int),(i:Int))=some r/\(fK d (a.drop i)=true->r= -1)/\(fK d (a.drop i)=false->0<=r/\r < (a.length:Int)):=by
 intro n;induction n with
 | zero=>intro i d h;omega
 | succ n ih=>
  intro i d hn hi hd;rw [Dc];by_cases hlt:i < a.length
  .have k3:∀ d':Nat,d'=om d a[i].Kind->∃ r,SC N (Dc N n) (a,(i:Int),(d':Int))=some r/\(fK d (a.drop i)=true->r= -1)/\(fK d (a.drop i)=false->0<=r/\r < (a.length:Int)):=fun d' hd'=>by
    unfold SC;dsimp only;rw [zB hlt,fK,<- hd'];by_cases ER:d'<=40
    .rw [nE (show¬(d':Int) > 40 by omega),fU ER,aG,wrap64 ah ah,show (i:Int)+1=((i+1:Nat):Int) by omega,rO];exact ih (i+1) d' ah ah ER
    .rw [fU (show (d':Int) > 40 by omega),nE ER,aH,Ec];exact ⟨_,rfl,(fun h=>by cases h),fun _=>⟨ah,ah⟩⟩
   have k2:∀ d':Nat,d'<=40->d'=(bif lS a[i].Kind then d - 1 else d)->∃ r,SF N (Dc N n) (a,(i:Int),(d':Int))=some r/\(fK d (a.drop i)=true->r= -1)/\(fK d (a.drop i)=false->0<=r/\r < (a.length:Int)):=fun d' ER hd'=>by
    unfold SF;dsimp only;rw [bS hlt,av,axl,av];cases ho:jL a[i].Kind with
    | true=>
     rw [aH,wrap64 ah ah,show (d':Int)+1=((d'+1:Nat):Int) by omega];exact k3 _ (by unfold om;rw [ho,<- hd'];rfl)
    | false=>
     rw [aG];exact k3 _ (by unfold om;rw [ho,<- hd'];rfl)
   rw [gJ hlt,aH,bS hlt,av,axn,av];cases hc:lS a[i].Kind with
   | true=>
    rw [aH,wrap64 ah ah];have e:(if (d:Int) - 1 > 0 then (d:Int) - 1 else 0)=((d - 1:Nat):Int):=by
     split<;>omega
    rw [e];exact k2 (d - 1) ah (by rw [hc];rfl)
   | false=>
    rw [aG];exact k2 d hd (by rw [hc];rfl)
  .rw [iW hlt,aG];exact ⟨-1,rfl,fun _=>rfl,fun h=>by rw [AJ ah] at h;cases h⟩
def asq (N:Nat) (a:List aC) (ha:a.length<=3000) (hN:3000 < N):∃ r,abv N a=some r/\(fK 0 a=true->r= -1)/\(fK 0 a=false->0<=r/\r < (a.length:Int)):=by
 have:=axk N a ha N 0 0 ah ah ah;rw [zC] at this;exact this
def Dp (e:Nat) (x:List aC):Prop:=∀ d y,d+e<=40->fK d (x++y)=fK d y
def Dp.nil:Dp 0 []:=fun d y _=>rfl
def Dp.mono {e e':Nat} {x:List aC} (h:Dp e x) (he:e<=e'):Dp e' x:=fun d y hd=>h d y ah
def Dp.app {e:Nat} {x y:List aC} (hx:Dp e x) (hy:Dp e y):Dp e (x++y):=fun d z hd=>by rw [kC,hx d _ hd,hy d z hd]
def Dp.tok {e:Nat} {t:aC} (h:jL t.Kind=false/\lS t.Kind=false):Dp e [t]:=fun d y hd=>by
 show (decide (om d t.Kind<=40)&&fK (om d t.Kind) y)=fK d y;have:om d t.Kind=d:=by unfold om;rw [h.1,h.2];rfl
 rw [this,fU ah,rO]
def Dp.wrap {e:Nat} {o c:aC} {x:List aC} (ho:jL o.Kind=true) (hc:lS c.Kind=true) (h:Dp e x):Dp (e+1) (o::(x++[c])):=fun d y hd=>by
 have hco:=(Pf ho).1;have hoc:jL c.Kind=false:=by
  cases h:jL c.Kind with
  | false=>rfl
  | true=>rw [(Pf h).1] at hc;cases hc
 show (decide (om d o.Kind<=40)&&fK (om d o.Kind) ((x++[c])++y))=fK d y;have e1:om d o.Kind=d+1:=by unfold om;rw [ho,hco];rfl
 rw [e1,fU ah,rO,kC,h (d+1) _ ah];show (decide (om (d+1) c.Kind<=40)&&fK (om (d+1) c.Kind) y)=fK d y;have e2:om (d+1) c.Kind=d:=by unfold om;rw [hoc,hc];rfl
 rw [e2,fU ah,rO]
def Dp.cons {e:Nat} {t:aC} {x:List aC} (h:jL t.Kind=false/\lS t.Kind=false) (hx:Dp e x):Dp e (t::x):=Dp.app (x:=[t]) (.tok h) hx
def Dp.par {e:Nat} {b:Bool} {x y:List aC} (hx:b=false->Dp e x) (hy:b=true->Dp e y):Dp (e+1) (qj b x y):=by
 cases b with
 | false=>exact (hx rfl).mono ah
 | true=>exact Dp.wrap rfl rfl (hy rfl)
def XG {P:aA->Prop} {t:aA} (h:P t) (hk:∀ k,k∈t.kids->allT P k):allT P t:=by
 have key:∀ ts:List aA,(∀ k,k∈ts->allT P k)->zZ P ts:=by
  intro ts;induction ts with
  | nil=>intro _;rw [zZ];trivial
  | cons u ts ih=>
   intro h;rw [zZ];exact ⟨h u aF,ih fun k hk=>h k<|by simp [hk]⟩
 obtain ⟨k,o,x,y,ks⟩:=t;rw [allT];exact ⟨h,key ks hk⟩
def axo (N:Nat) (a:List aK) (hN:500 < N) (hsh:za a=true) (hok:zL N a=some true):∀ (t:aA) (s i:Nat),TA a t s i->nR t.kind=true->allT GN t:=by
 intro t;induction t using nN with
 | h t ih=>
  intro s i hT he;obtain ⟨n,hn,e1,e2,e3,e4,hka,hkl⟩:=hT.node;have hmem:=nT hn;obtain ⟨hf,axp⟩:=anc N a hN hsh hok n hmem;have hen:nR n.Kind=true:=by rw [<- e1];exact he
  obtain ⟨har,hlv⟩:=axq N n hf hen;have aJM:=(agw hsh n hmem).1;have agx:∀ (q:Nat) (k:aA),t.kids[q]?=some k->∃ kk s':Nat,TA a k s' kk/\nR k.kind=true/\((n.Kind=9\/n.Kind=10\/(n.Kind=15/\q=0))->eT k.kind=true):=fun q k hq=>by
   obtain ⟨kk,s',g1,g2,_⟩:=hka.get q k hq;have hql:q < n.Kids.length:=(dK.1 g1).1;obtain ⟨y,y1,y2⟩:=axp q hql;have hkk:n.Kids[q]=(kk:Int):=(dK.1 g1).2;obtain ⟨m,m1,m2,_⟩:=g2.node;rw [hkk,QC m1] at y1;cases y1;have:=axt n q y.Kind y2 hen;rw [<- m2] at this;exact ⟨kk,s',g2,this⟩
  unfold Ar at har;obtain ⟨r0,r1,r2,r3,r4⟩:=har;rw [<- e1] at r0 r1 r2 r3 r4;rw [<- hkl] at r0 r1 r2 r3 r4;refine XG ⟨he,by rw [e1,e2];exact hlv,r0,fun h=>r2 ah,fun h=>r3 h,r4,fun h=>r1 h,ah,fun k hk=>?_,fun k hk h=>?_,fun h=>?_⟩ fun k hk=>?_
  .obtain ⟨q,hq⟩:=Hg hk;obtain ⟨_,_,_,h2,_⟩:=agx q k hq;exact h2
  .obtain ⟨_,_,_,_,h2⟩:=agx 0 k hk;exact h2 (by rw [<- e1];rcases h with h|h|h<;>simp [h])
  .rw [e2];exact axu N n hf (by rw [<- e1];exact h)
  .obtain ⟨q,hq⟩:=Hg hk;obtain ⟨kk,s',g1,g2,_⟩:=agx q k hq;exact ih k hk s' kk g1 g2
def axv (N:Nat) (n:aK) (h:Bq N n=some true):Wy N n=some true:=by
 unfold Bq at h;obtain ⟨⟨lo,hi⟩,h1,h⟩:=bind_some h;obtain ⟨y6,h2,h⟩:=bind_some h;obtain ⟨y13,h3,h⟩:=bind_some h;cases h;rcases Nc h3 with ⟨_,h3⟩|⟨_,h3⟩
 .obtain ⟨bH,ho,h3⟩:=bind_some h3;rcases Nc h3 with ⟨hc,h3⟩|⟨_,h3⟩
  .obtain ⟨qZ,ht,h3⟩:=bind_some h3;rcases Nc h3 with ⟨hc2,h3⟩|⟨_,h3⟩
   .subst hc2;exact ht
   .cases h3
  .cases h3
 .cases h3
def Aa (N:Nat) (t:aC):Prop:=qY N t=some true
structure TN (N:Nat) (t:aA):Prop where
 n6:t.kind=1\/t.kind=5\/t.kind=13->Aa N ⟨6,t.text,0⟩
 n7:t.kind=7->Aa N ⟨7,t.text,0⟩
 n8:t.kind=8->Aa N ⟨8,t.text,0⟩
 n2:t.kind=2->Aa N ⟨3,t.text,0⟩
 n3:t.kind=3->Aa N ⟨4,t.text,0⟩
 n4:t.kind=4->Aa N ⟨5,t.text,0⟩
def XH {x:Option Bool} {c:Bool} (h:((Option.bind x fun r=>bif r then some c else some false).bind fun y=>some y)=some true):x=some true/\c=true:=by
 cases x with
 | none=>cases h
 | some r=>
  cases r with
  | false=>cases h
  | true=>exact ⟨rfl,kD h⟩
def Ph {x:List UInt8} (h:(x==[])=true):x=[]:=by simpa using h
def axw (N:Nat) (n:aK) (h:Bq N n=some true) (he:nR n.Kind=true) (ts:List aA) (hts:ts.length=n.Kids.length):CN ⟨n.Kind,n.Op,n.Text,n.Other,ts⟩/\TN N ⟨n.Kind,n.Op,n.Text,n.Other,ts⟩:=by
 have ht:=axv N n h;obtain ⟨lo,hi,h1,h2,h3,h4⟩:=agy N n h;obtain ⟨k,o,x,y,ks⟩:=n;have named:Ez N (⟨k,o,x,y,ks⟩,true)=some true->Bo N x=some true/\y=[]:=fun h=>by
  obtain ⟨a,b⟩:=XH (x:=Bo N x) (c:=y==[]) h;exact ⟨a,Ph b⟩
 have plain:((bif (x==[]) then some (y==[]) else (some false)).bind fun wH=>some wH)=some true->x=[]/\y=[]:=fun h=>by
  cases hx:(x==[]) with
  | false=>rw [hx] at h;cases h
  | true=>
   rw [hx] at h;exact ⟨Ph hx,Ph<|kD h⟩
 have qF:(Option.some<|o==0)=some true->o=0:=fun h=>by simpa using kD h
 have nok:∀ kk:Int,kk=6\/kk=7->Bo N x=some true->Aa N ⟨kk,x,0⟩:=fun kk hkk h=>by
  unfold Aa;have e:qY N ⟨kk,x,0⟩=yN N (⟨kk,x,0⟩,true):=by rcases hkk with rfl|rfl<;>rfl
  rw [e];unfold yN;dsimp only;rw [aH,h];rfl
 rcases kinds he with e|e|e|e|e|e|e|e|e|e|e|e|e|e|e<;>(have e:k=_:=e;subst e)
 case inl=>
  obtain ⟨hn,hy⟩:=named ht;have ho:=qF h2;subst ho hy;exact ⟨⟨fun _=>rfl,rfl,aF,aF,aF,aF,aF⟩,⟨fun _=>nok 6 (.inl rfl) hn,aF,aF,aF,aF,aF⟩⟩
 case inr.inl=>
  obtain ⟨hn,hy⟩:=XH (x:=qY N ⟨3,x,0⟩) (c:=y==[]) ht;have hy:=Ph hy;have ho:=qF h2;subst ho hy;exact ⟨⟨fun _=>rfl,rfl,aF,aF,aF,aF,aF⟩,⟨aF,aF,aF,fun _=>hn,aF,aF⟩⟩
 case inr.inr.inl=>
  obtain ⟨hn,hy⟩:=XH (x:=qY N ⟨4,x,0⟩) (c:=y==[]) ht;have hy:=Ph hy;have ho:=qF h2;subst ho hy;exact ⟨⟨fun _=>rfl,rfl,aF,aF,aF,aF,aF⟩,⟨aF,aF,aF,aF,fun _=>hn,aF⟩⟩
 case inr.inr.inr.inl=>
  obtain ⟨hn,hy⟩:=XH (x:=qY N ⟨5,x,0⟩) (c:=y==[]) ht;have hy:=Ph hy;have ho:=qF h2;subst ho hy;exact ⟨⟨fun _=>rfl,rfl,aF,aF,aF,aF,aF⟩,⟨aF,aF,aF,aF,aF,fun _=>hn⟩⟩
 case inr.inr.inr.inr.inl=>
  obtain ⟨hn,hy⟩:=named ht;have ho:=qF h2;subst ho hy;have hm:(ks.length:Int)<=6:=by
   have:some ((1:Int),(6:Int))=some (lo,hi):=h1;cases this;exact h4
  exact ⟨⟨fun _=>rfl,rfl,aF,aF,aF,aF,fun _=>by show ts.length<=6;have hts:ts.length=ks.length:=hts;omega⟩,⟨fun _=>nok 6 (.inl rfl) hn,aF,aF,aF,aF,aF⟩⟩
 case inr.inr.inr.inr.inr.inl=>
  obtain ⟨hx,hy⟩:=plain ht;have ho:=qF h2;subst ho hx hy;exact ⟨⟨fun _=>rfl,rfl,fun _=>rfl,aF,aF,aF,aF⟩,⟨aF,aF,aF,aF,aF,aF⟩⟩
 case inr.inr.inr.inr.inr.inr.inl=>
  obtain ⟨hn,hy⟩:=named ht;have ho:=qF h2;subst ho hy;have hm:(ks.length:Int)<=6:=by
   have:some ((0:Int),(6:Int))=some (lo,hi):=h1;cases this;exact h4
  exact ⟨⟨fun _=>rfl,rfl,aF,aF,aF,aF,fun _=>by show ts.length<=6;have hts:ts.length=ks.length:=hts;omega⟩,⟨aF,fun _=>nok 7 (.inr rfl) hn,aF,aF,aF,aF⟩⟩
 case inr.inr.inr.inr.inr.inr.inr.inl=>
  obtain ⟨hn,hy⟩:=XH (x:=Iy N x) (c:=y==[]) ht;have hy:=Ph hy;have ho:=qF h2;subst ho hy;have hm:(ks.length:Int)<=6:=by
   have:some ((0:Int),(6:Int))=some (lo,hi):=h1;cases this;exact h4
  refine ⟨⟨fun _=>rfl,rfl,aF,aF,aF,aF,fun _=>by show ts.length<=6;have hts:ts.length=ks.length:=hts;omega⟩,⟨aF,aF,fun _=>?_,aF,aF,aF⟩⟩;unfold Aa;have e:qY N ⟨8,x,0⟩=yN N (⟨8,x,0⟩,false):=rfl;rw [e];unfold yN;dsimp only;show Option.bind (Iy N x) _=_;rw [hn];rfl
 case inr.inr.inr.inr.inr.inr.inr.inr.inl=>
  obtain ⟨hx,hy⟩:=plain ht;subst hx hy;have ho:o=51\/o=52:=by
   have e:Ew ⟨9,o,[],[],ks⟩=some (o==51||o==52):=by
    show ((bif (o==51) then some true else some (o==52)).bind fun y=>some y)=_;cases (o==51)<;>rfl
   rw [e] at h2;simpa using kD h2
  exact ⟨⟨aF,rfl,fun _=>rfl,fun _=>ho,aF,aF,aF⟩,⟨aF,aF,aF,aF,aF,aF⟩⟩
 case inr.inr.inr.inr.inr.inr.inr.inr.inr.inl=>
  obtain ⟨hx,hy⟩:=plain ht;subst hx hy;have ho:o=51\/o=52:=by
   have e:Ew ⟨10,o,[],[],ks⟩=some (o==51||o==52):=by
    show ((bif (o==51) then some true else some (o==52)).bind fun y=>some y)=_;cases (o==51)<;>rfl
   rw [e] at h2;simpa using kD h2
  exact ⟨⟨aF,rfl,fun _=>rfl,fun _=>ho,aF,aF,aF⟩,⟨aF,aF,aF,aF,aF,aF⟩⟩
 case inr.inr.inr.inr.inr.inr.inr.inr.inr.inr.inl=>
  obtain ⟨hx,hy⟩:=plain ht;subst hx hy;have ho:o=55\/o=56\/o=61:=by
   have e:Ew ⟨11,o,[],[],ks⟩=some (o==55||(o==56||o==61)):=by
    show ((bif (o==55) then some true else (bif (o==56) then some true else some (o==61))).bind fun y=>some y)=_;cases (o==55)<;>cases (o==56)<;>rfl
   rw [e] at h2;simpa using kD h2
  exact ⟨⟨aF,rfl,fun _=>rfl,aF,fun _=>ho,aF,aF⟩,⟨aF,aF,aF,aF,aF,aF⟩⟩
 case inr.inr.inr.inr.inr.inr.inr.inr.inr.inr.inr.inl=>
  obtain ⟨hx,hy⟩:=plain ht;subst hx hy;exact ⟨⟨aF,rfl,fun _=>rfl,aF,aF,aF,aF⟩,⟨aF,aF,aF,aF,aF,aF⟩⟩
 case inr.inr.inr.inr.inr.inr.inr.inr.inr.inr.inr.inr.inl=>
  obtain ⟨hn,hy⟩:=named ht;have ho:=qF h2;subst ho hy;have hm:(ks.length:Int)<=6:=by
   have:some ((1:Int),(6:Int))=some (lo,hi):=h1;cases this;exact h4
  exact ⟨⟨fun _=>rfl,rfl,aF,aF,aF,aF,fun _=>by show ts.length<=6;have hts:ts.length=ks.length:=hts;omega⟩,⟨fun _=>nok 6 (.inl rfl) hn,aF,aF,aF,aF,aF⟩⟩
 case inr.inr.inr.inr.inr.inr.inr.inr.inr.inr.inr.inr.inr.inl=>
  obtain ⟨hx,hy⟩:=plain ht;have ho:=qF h2;subst ho hx hy;exact ⟨⟨fun _=>rfl,rfl,fun _=>rfl,aF,aF,aF,aF⟩,⟨aF,aF,aF,aF,aF,aF⟩⟩
 case inr.inr.inr.inr.inr.inr.inr.inr.inr.inr.inr.inr.inr.inr=>
  obtain ⟨hx,hy⟩:=plain ht;subst hx hy;have ho:nM o=true:=by
   have e:Ew ⟨15,o,[],[],ks⟩=Option.bind (CS o) (fun lM=>some lM):=rfl;rw [e,ane] at h2;exact kD h2
  exact ⟨⟨aF,rfl,fun _=>rfl,aF,aF,fun _=>ho,aF⟩,⟨aF,aF,aF,aF,aF,aF⟩⟩
def axx (N:Nat) (a:List aK) (hN:500 < N) (hsh:za a=true) (hok:zL N a=some true) {t:aA} {s i:Nat} (hT:TA a t s i) (hg:allT GN t):allT (fun u=>CN u/\TN N u) t:=by
 have key:∀ t:aA,∀ s i,TA a t s i->allT GN t->allT (fun u=>CN u/\TN N u) t:=by
  intro t;induction t using nN with
  | h t ih=>
   intro s i hT hg;obtain ⟨n,hn,e1,e2,e3,e4,hka,hkl⟩:=hT.node;obtain ⟨hf,_⟩:=anc N a hN hsh hok n (nT hn);have g:=mD hg;have r:=axw N n hf (by rw [<- e1];exact g.e) t.kids hkl;have et:(⟨n.Kind,n.Op,n.Text,n.Other,t.kids⟩:aA)=t:=by
    rw [<- e1,<- e2,<- e3,<- e4];cases t;rfl
   rw [et] at r;refine XG r fun k hk=>?_;obtain ⟨q,hq⟩:=Hg hk;obtain ⟨kk,s',_,g2,_⟩:=hka.get q k hq;exact ih k hk s' kk g2 (nO hg k hk)
 exact key t s i hT hg
def rC (N:Nat) {k:Int} (h:k=24\/k=32\/k=33\/k=34\/k=35\/k=36\/k=51\/k=52\/k=61\/k=65\/k=66\/k=68\/bg k≠0/\k≠99\/nM k=true):Aa N (sg k):=by
 have hk:k=24\/k=32\/k=33\/k=34\/k=35\/k=36\/k=51\/k=52\/k=61\/k=65\/k=66\/k=68\/k=44\/k=45\/k=67\/k=46\/k=63\/k=48\/k=47\/k=50\/k=62\/k=49\/k=55\/k=56\/k=57\/k=58\/k=59\/k=60\/k=38\/k=39\/k=40\/k=41\/k=42\/k=43\/k=54:=by
  rcases h with h|h|h|h|h|h|h|h|h|h|h|h|⟨h,h2⟩|h
  case inr.inr.inr.inr.inr.inr.inr.inr.inr.inr.inr.inr.inl=>have:=Jp h;omega
  case inr.inr.inr.inr.inr.inr.inr.inr.inr.inr.inr.inr.inr=>have:=LD h;omega
  all_goals omega
 unfold Aa;have key:∀ k:Int,(k==2)=false->(k==3)=false->(k==4)=false->(k==5)=false->(k==6)=false->(k==7)=false->(k==8)=false->(spl k==[])=false->qY N (sg k)=some true:=fun k a1 a2 a3 a4 a5 a6 a7 a8=>by
  unfold qY yN sg;simp only [a1,a2,a3,a4,a5,a6,a7,a8,aG,agz,av,dN,aH,Hy]
 rcases hk with rfl|rfl|rfl|rfl|rfl|rfl|rfl|rfl|rfl|rfl|rfl|rfl|rfl|rfl|rfl|rfl|rfl|rfl|rfl|rfl|rfl|rfl|rfl|rfl|rfl|rfl|rfl|rfl|rfl|rfl|rfl|rfl|rfl|rfl|rfl<;>exact key _ rfl rfl rfl rfl rfl rfl rfl rfl
def ni (N:Nat) (x:List aC):Prop:=∀ t,t∈x->Aa N t
def ni.nil {N:Nat}:ni N []:=fun t h=>by cases h
def ni.app {N:Nat} {x y:List aC} (hx:ni N x) (hy:ni N y):ni N (x++y):=fun t h=>by
 rcases jo.1 h with h|h
 .exact hx t h
 .exact hy t h
def ni.cons {N:Nat} {t:aC} {y:List aC} (hx:Aa N t) (hy:ni N y):ni N (t::y):=fun u h=>by
 rcases fF.1 h with rfl|h
 .exact hx
 .exact hy u h
def ni.one {N:Nat} {t:aC} (hx:Aa N t):ni N [t]:=.cons hx .nil
def ni.getD {N:Nat} {l:List (List aC)} (h:∀ x,x∈l->ni N x) (j:Nat):ni N (l.getD j []):=by
 rw [Hl];cases e:l[j]? with
 | none=>exact .nil
 | some x=>exact h x (nT e)
def anf {N:Nat}:∀ (l:List (List aC)) (b:Bool),(∀ x,x∈l->ni N x)->ni N (bW b l)
 | [],b,_=>by rw [bW];exact .nil
 | x::l,b,h=>by
  rw [bW];refine .app ?_ (.app (h x aF)<|anf l true fun y hy=>h y<|by simp [hy]);cases b with
  | false=>exact .nil
  | true=>exact .one (rC N aF)
def ni.par {N:Nat} {b:Bool} {x y:List aC} (hx:ni N x) (hy:ni N y):ni N (qj b x y):=by
 cases b with
 | false=>exact hx
 | true=>exact .cons (rC N aF) (.app hy<|.one<|rC N aF)
def axy (N:Nat) (t:aA) (g:GN t) (c:CN t) (n:TN N t) (l:List (List aC)) (hl:∀ x,x∈l->ni N x):ni N (fG t.kind t.op t.text l):=by
 obtain ⟨k,o,x,y,ks⟩:=t;have d:=ni.getD hl;have li:=anf l false hl;rcases kinds g.e with e|e|e|e|e|e|e|e|e|e|e|e|e|e|e<;>(have e:k=_:=e;subst e)
 .exact .one (n.n6<|.inl rfl)
 .exact .one (n.n2 rfl)
 .exact .one (n.n3 rfl)
 .exact .one (n.n4 rfl)
 .exact .cons (n.n6<|.inr<|.inl rfl) (.cons (rC N aF)<|.app li<|.one<|rC N aF)
 .exact .cons (rC N aF) (d 0)
 .exact .cons (n.n7 rfl) (.cons (rC N aF)<|.app li<|.one<|rC N aF)
 .exact .cons (n.n8 rfl) (.cons (rC N aF)<|.app li<|.one<|rC N aF)
 .exact .cons (rC N (by have:o=51\/o=52:=c.k9 (.inl rfl);rcases this with rfl|rfl<;>simp)) (d 0)
 .exact .app (d 0) (.one<|rC N (by have:o=51\/o=52:=c.k9 (.inr rfl);rcases this with rfl|rfl<;>simp))
 .refine .cons ?_ (d 0);have:o=55\/o=56\/o=61:=c.k11 rfl;rcases this with rfl|rfl|rfl
  .exact rC N (.inr<|.inr<|.inr<|.inr<|.inr<|.inr<|.inr<|.inr<|.inr<|.inr<|.inr<|.inr<|.inl ⟨by show bg 55≠0;decide,by show (55:Int)≠99;decide⟩)
  .exact rC N (.inr<|.inr<|.inr<|.inr<|.inr<|.inr<|.inr<|.inr<|.inr<|.inr<|.inr<|.inr<|.inl ⟨by show bg 56≠0;decide,by show (56:Int)≠99;decide⟩)
  .exact rC N aF
 .refine .app (d 0) (.app ?_ (d 1));cases iF:(o==99) with
  | true=>exact .nil
  | false=>exact .one (rC N<|.inr<|.inr<|.inr<|.inr<|.inr<|.inr<|.inr<|.inr<|.inr<|.inr<|.inr<|.inr<|.inl ⟨g.lv,by simpa using iF⟩)
 .refine .app (x:=bif decide (l.length > 1) then sg 32::(bW false l++[sg 33]) else l.getD 0 []) ?_ (.cons (rC N aF)<|.one<|n.n6<|.inr<|.inr rfl);cases decide (l.length > 1) with
  | true=>exact .cons (rC N aF) (.app li<|.one<|rC N aF)
  | false=>exact d 0
 .exact .app (d 0) (.cons (rC N aF)<|.app (d 1)<|.cons (rC N aF)<|d 2)
 .refine .app (d 0) (.app ?_ (d 1));cases iF:(o==99) with
  | true=>exact .nil
  | false=>exact .one (rC N<|.inr<|.inr<|.inr<|.inr<|.inr<|.inr<|.inr<|.inr<|.inr<|.inr<|.inr<|.inr<|.inr<|c.k15 rfl)
def ang (N:Nat) (f:Bool):∀ t:aA,allT GN t->allT (fun u=>CN u/\TN N u) t->∀ p,ni N (lU f t p):=by
 intro t;induction t using nN with
 | h t ih=>
  intro hg hc p;obtain ⟨c,n⟩:=mD hc;rw [Jq];refine axy N t (mD hg) c n _ ?_;have key:∀ (ts:List aA) (j:Nat),(∀ u,u∈ts->u∈t.kids)->∀ x,x∈dI f t.kind t.op t.kids.length j p ts->ni N x:=by
   intro ts;induction ts with
   | nil=>intro j _ x hx;rw [dI] at hx;cases hx
   | cons u ts ih2=>
    intro j hm x hx;rw [rD] at hx;rcases fF.1 hx with rfl|hx
    .have hu:=hm u aF;have hB:=ih u hu (nO hg u hu) (nO hc u hu);unfold jM gq;cases tgt t.kind j with
     | true=>exact hB _
     | false=>exact ni.par (hB _) (hB _)
    .exact ih2 (j+1) (fun v hv=>hm v<|by simp [hv]) x hx
  exact key t.kids 0 fun u hu=>hu
def asu (N:Nat) (f:Bool) (t:aA) (hg:allT GN t) (hc:allT (fun u=>CN u/\TN N u) t) (p:aN):ni N (gq f t p):=by
 unfold gq;exact ni.par (ang N f t hg hc p) (ang N f t hg hc bG)
def Wk (p p':aN):Prop:=p'.Level=p.Level/\p'.tV=p.tV/\(p'.bC=true->p.bC=true)/\(p'.bE=true->p.bE=true)/\(p'.iZ=true->p.iZ=true)
def anh {k o:Int} {p p':aN} (h:dD k o p=true) (w:Wk p p'):dD k o p'=true:=by
 obtain ⟨v,d,a,g,s⟩:=p;obtain ⟨v',d',a',g',s'⟩:=p';obtain ⟨w1,w2,w3,w4,w5⟩:=w;have w1:v'=v:=w1;have w2:d'=d:=w2;subst w1 w2;have key:∀ {x y c:Bool},(y=true->x=true)->(!(x&&c))=true->(!(y&&c))=true:=fun {x y c} h h1=>by
  cases y with
  | false=>rfl
  | true=>rw [h rfl] at h1;exact h1
 unfold dD at h ⊢;simp only [dL] at h ⊢;obtain ⟨h1,h2,h3,h4,h5⟩:=h;exact ⟨h1,key w3 h2,key w4 h3,key w5 h4,h5⟩
def abT (l:List aC):∀ (n i j:Nat),j - i<=n->(∀ p p' t,i < j->(p'.bC=true->p.bC=true)->(p'.bE=true->p.bE=true)->(p'.iZ=true->p.iZ=true)->dH l p i j t->dH l p' i j t)/\(∀ p p' t h,Wk p p'->bV l p i j t h->bV l p' i j t h):=by
 intro n;induction n with
 | zero=>exact fun i j hn=>⟨fun p p' t hij=>ah,fun p p' t h w d=>by have:=d.lt;omega⟩
 | succ n ih=>
  intro i j hn;have hN:∀ p p' t,i < j->(p'.bC=true->p.bC=true)->(p'.bE=true->p.bE=true)->(p'.iZ=true->p.iZ=true)->dH l p i j t->dH l p' i j t:=by
   intro p p' t hij wi wg ws d;have no:false=true->false=true:=fun h=>h;have W:∀ {a b:Nat} {p p':aN} {t:aA} {h:Bool},b - a<=n->bV l p a b t h->Wk p p'->bV l p' a b t h:=fun hn d w=>(ih _ _ hn).2 _ _ _ _ w d;cases d with
   | leaf k h1 h2=>exact .leaf k h1 h2
   | name h1=>exact .name h1
   | index h1 h2 h3 h4 h5 h6 h7=>exact .index h1 h2 h3 h4 h5 h6 h7
   | nI k h1 h2 h3 h4=>exact .nI k h1 h2 h3 h4
   | call k h1 h2 h3 h4 h5 h6 h7 h8=>exact .call k h1 h2 h3 h4 h5 h6 h7 h8
   | len h1 h2 h3=>exact .len h1 h2 h3
   | field h1 h2 h3=>exact .field h1 h2 h3
   | pre o h1 h2 h3 h4 h5=>exact .pre o h1 h2 h3 h4 h5
   | post o h1 h2 h3 h4 h5=>exact .post o h1 h2 h3 h4 h5
   | unary o h1 h2 h3 h4=>exact .unary o h1 h2 h3 (W ah h4 ⟨rfl,rfl,wi,wg,no⟩)
   | bin o h1 h2 h3 h4 h5 h6 h7 h8=>
    have:=zY h6;have:=h8.lt;have:=h7.lt;exact .bin o h1 h2 h3 h4 h5 h6 (W ah h7 ⟨rfl,rfl,wi,wg,ws⟩) (W ah h8 ⟨rfl,rfl,wi,wg,no⟩)
   | cat h1 h2 h3 h4=>exact .cat h1 h2 (W ah h3 ⟨rfl,rfl,wi,wg,ws⟩) (W ah h4 ⟨rfl,rfl,wi,wg,fun h=>h⟩)
   | one h1 h2 h3 h4=>exact .one h1 h2 h3 (W ah h4 ⟨rfl,rfl,wi,wg,ws⟩)
   | many h1 h2 h3 h4 h5 h6 h7 h8=>exact .many h1 h2 h3 h4 h5 h6 h7 h8
   | cond h1 h2 h3 h4 h5 h6 h7 h8=>exact .cond h1 h2 h3 h4 h5 (W ah h6 ⟨rfl,rfl,wi,wg,ws⟩) (W ah h7 ⟨rfl,rfl,wi,wg,no⟩) (W ah h8 ⟨rfl,rfl,wi,wg,no⟩)
   | assign o h1 h2 h3 h4 h5 h6 h7=>exact .assign o h1 h2 h3 h4 h5 h6 (W ah h7 ⟨rfl,rfl,wi,wg,no⟩)
  refine ⟨hN,fun p p' t h w d=>?_⟩;cases d with
  | par h1 h2 h3 h4 h5=>exact .par h1 h2 h3 h4 h5
  | bare h1 h2 h3 h4=>exact .bare (anh h1 w) h2 h3 (hN p p' t h2 w.2.2.1 w.2.2.2.1 w.2.2.2.2 h4)
def dH.top {l:List aC} {p:aN} {i j:Nat} {t:aA} (d:dH l p i j t):dH l bG i j t:=
 (abT l (j - i) i j<|cZ _).1 p bG t d.lt (fun h=>by cases h) (fun h=>by cases h) (fun h=>by cases h) d
def fA (y:List UInt8):Bool:=y.getD 0 0==1
def fH (y:List UInt8):Bool:=y.getD 1 0==1
def mJ (a b:Bool):List UInt8:=[bif a then 1 else 0,bif b then 1 else 0]
def BG (a b:Bool):fA (mJ a b)=a:=by cases a<;>rfl
def Gu (a b:Bool):fH (mJ a b)=b:=by cases b<;>rfl
mutual
def fJ:aA->List aC
 | ⟨k,o,x,y,ks⟩=>bif fH y then bW false (TK ks)++[sg 24,⟨6,x,0⟩] else fG k o x (TK ks)
def TK:List aA->List (List aC)
 | []=>[]
 | t::ts=>qj (fA t.other) (fJ t) (fJ t)::TK ts
end
def aI (t:aA):List aC:=qj (fA t.other) (fJ t) (fJ t)
def ani:∀ ts:List aA,TK ts=ts.map aI
 | []=>by rw [TK];rfl
 | t::ts=>by rw [TK,ani ts];rfl
def uy (t:aA):fJ t=bif fH t.other then bW false (t.kids.map aI)++[sg 24,⟨6,t.text,0⟩] else fG t.kind t.op t.text (t.kids.map aI):=by
 obtain ⟨k,o,x,y,ks⟩:=t;rw [fJ,ani]
mutual
def strip:aA->aA
 | ⟨k,o,x,_,ks⟩=>⟨k,o,x,[],strips ks⟩
def strips:List aA->List aA
 | []=>[]
 | t::ts=>strip t::strips ts
end
def anj:∀ ts:List aA,strips ts=ts.map strip
 | []=>by rw [strips];rfl
 | t::ts=>by rw [strips,anj ts];rfl
def zf (t:aA):strip t=⟨t.kind,t.op,t.text,[],t.kids.map strip⟩:=by
 obtain ⟨k,o,x,y,ks⟩:=t;rw [strip,anj]
def Dv (t:aA):(strip t).kind=t.kind:=by rw [zf]
def TL (t:aA):(strip t).op=t.op:=by rw [zf]
structure AN (t:aA):Prop where
 g:GN t
 c:CN ⟨t.kind,t.op,t.text,[],t.kids⟩
 lf:∀ u,t.kids[0]?=some u->t.kind=9\/t.kind=10\/t.kind=15->fA u.other=false
 dr:fH t.other=true->t.kind=13/\2<=t.kids.length
 fp:fA t.other=true->(lv t.kind t.op !=15||t.kind==4)=true
mutual
def okB:aA->aN->Prop
 | ⟨k,o,_,y,ks⟩,p=>fH y=false/\ji k o ks.length 0 p ks
def ji (k o:Int) (n j:Nat) (p:aN):List aA->Prop
 | []=>True
 | t::ts=>((fA t.other=true/\okB t bG)\/(fA t.other=false/\dD t.kind t.op (dJ k o n j p)=true/\okB t (dJ k o n j p)))/\ji k o n (j+1) p ts
end
def ko (t:aA) (p:aN):Prop:=(fA t.other=true/\okB t bG)\/(fA t.other=false/\dD t.kind t.op p=true/\okB t p)
def jA (k o:Int) (n j:Nat) (p:aN) (t:aA) (ts:List aA):ji k o n j p (t::ts)=(ko t (dJ k o n j p)/\ji k o n (j+1) p ts):=by rw [ji];rfl
def Gv (t:aA) (p:aN):okB t p=(fH t.other=false/\ji t.kind t.op t.kids.length 0 p t.kids):=by
 obtain ⟨k,o,x,y,ks⟩:=t;rw [okB]
def abU (k o:Int) (n:Nat) (p:aN) (hk:∀ j,dJ k o n j p=bG):∀ (ts:List aA) (j:Nat),(∀ u,u∈ts->ko u bG)->ji k o n j p ts
 | [],_,_=>by rw [ji];trivial
 | t::ts,j,h=>by
  rw [jA,hk j];exact ⟨h t aF,abU k o n p hk ts (j+1) fun u hu=>h u<|by simp [hu]⟩
def dq:List aC->Int
 | []=>0
 | t::r=>(bif t.Kind==32 then 1 else bif t.Kind==33 then -1 else 0)+dq r
def pq:List aC->Nat
 | []=>0
 | t::r=>(bif t.Kind==32 then 0 else bif t.Kind==33 then 0 else 1)+pq r
def LG (x y:List aC):dq (x++y)=dq x+dq y:=by
 induction x with
 | nil=>show dq y=0+dq y;omega
 | cons t x ih=>rw [wm,dq,dq,ih];omega
def XI (x y:List aC):pq (x++y)=pq x+pq y:=by
 induction x with
 | nil=>show pq y=0+pq y;omega
 | cons t x ih=>rw [wm,pq,pq,ih];omega
def LH {t:aC} (h:t.Kind=32) (r:List aC):dq (t::r)=1+dq r/\pq (t::r)=pq r:=by
 rw [dq,pq,h];exact ⟨rfl,qM _⟩
def TM {t:aC} (h:t.Kind=33) (r:List aC):dq (t::r)= -1+dq r/\pq (t::r)=pq r:=by
 rw [dq,pq,h];exact ⟨rfl,qM _⟩
def LJ {t:aC} (h1:t.Kind≠32) (h2:t.Kind≠33) (r:List aC):dq (t::r)=dq r/\pq (t::r)=1+pq r:=by
 have e1:(t.Kind==32)=false:=by simpa using h1
 have e2:(t.Kind==33)=false:=by simpa using h2
 rw [dq,pq,e1,e2];exact ⟨Int.zero_add _,rfl⟩
structure LM (x:List aC) (n:Nat):Prop where
 n:pq x=n
 d:dq x=0
 p:∀ a b,x=a++b->0<=dq a
def LM.nil:LM [] 0:=⟨rfl,rfl,fun a b h=>by
 rw [(List.append_eq_nil_iff.1 h.symm).1];exact Cu 0⟩
def LM.tok {t:aC} (h1:t.Kind≠32) (h2:t.Kind≠33):LM [t] 1:=⟨(LJ h1 h2 []).2,(LJ h1 h2 []).1,fun a b h=>by
 cases a with
 | nil=>exact Cu 0
 | cons u a=>
  obtain ⟨e0,e1⟩:=List.cons.inj h;have e1:[]=a++b:=e1;rw [(List.append_eq_nil_iff.1 e1.symm).1,<- e0,(LJ h1 h2 []).1];exact Cu 0⟩
def LM.app {x y:List aC} {n m:Nat} (h:LM x n) (g:LM y m):LM (x++y) (n+m):=⟨by rw [XI,h.n,g.n],by rw [LG,h.d,g.d];rfl,fun a b e=>by
 rcases List.append_eq_append_iff.1 e with ⟨c,e1,e2⟩|⟨c,e1,e2⟩
 .rw [e1,LG,h.d];have:=g.p c b e2;omega
 .exact h.p a c e1⟩
def LM.wrap {t u:aC} {x:List aC} {n:Nat} (ht:t.Kind=32) (hu:u.Kind=33) (h:LM x n):LM (t::(x++[u])) n:=⟨by rw [(LH ht _).2,XI,(TM hu []).2,h.n];rfl,by rw [(LH ht _).1,LG,(TM hu []).1,h.d];rfl,fun a b e=>by
 cases a with
 | nil=>exact Cu 0
 | cons v a=>
  obtain ⟨e0,e3⟩:=List.cons.inj e;subst e0;rw [(LH ht _).1];rcases List.append_eq_append_iff.1 e3 with ⟨c,e1,e2⟩|⟨c,e1,e2⟩
  .rw [e1,LG,h.d];cases c with
   | nil=>show (0:Int)<=1+(0+0);decide
   | cons w c=>
    obtain ⟨e4,e5⟩:=List.cons.inj e2;subst e4;rw [(List.append_eq_nil_iff.1 e5.symm).1];rw [(TM hu []).1];show (0:Int)<=1+(0+(-1+0));decide
  .have:=h.p a c e1;omega⟩
def NH (x:List aC):Prop:=∀ (t u:aC) (y:List aC) (n:Nat),x=t::(y++[u])->t.Kind=32->LM y n->False
def NH.mid {x z:List aC} {n:Nat} (h:LM x n) (hx:x≠[]) (hz:z≠[]):NH (x++z):=fun t u y m e ht hy=>by
 cases x with
 | nil=>exact hx rfl
 | cons v x=>
  obtain ⟨e0,e1⟩:=List.cons.inj e;subst e0;have hd:=h.d;rw [(LH ht _).1] at hd;have ez:z=z.dropLast++[z.getLast hz]:=(List.dropLast_concat_getLast hz).symm;have e1:x++z=y++[u]:=e1;rw [ez,<- kC] at e1;have:=(List.append_inj' e1 rfl).1;have:=hy.p x _ this.symm;omega
def NH.one (t:aC):NH [t]:=fun u v y n e _ _=>by
 obtain ⟨_,e⟩:=List.cons.inj e;cases y<;>cases e
def NH.hd {t:aC} {x:List aC} (h:t.Kind≠32):NH (t::x):=fun u v y n e hu _=>by
 obtain ⟨rfl,_⟩:=List.cons.inj e;exact h hu
def kr (x:List aC):Prop:=∃ a t b,x=a++t::b/\(∀ u,u∈a->u.Kind=32)/\t.Kind≠32/\t.Kind≠33
def kr.hd {t:aC} {x:List aC} (h1:t.Kind≠32) (h2:t.Kind≠33):kr (t::x):=⟨[],t,x,rfl,(fun u h=>by cases h),h1,h2⟩
def kr.app {x y:List aC}:kr x->kr (x++y)
 | ⟨a,t,b,h1,h2,h3⟩=>⟨a,t,b++y,by rw [h1,kC];rfl,h2,h3⟩
def kr.opn {t:aC} {x:List aC} (h:t.Kind=32):kr x->kr (t::x)
 | ⟨a,u,b,h1,h2,h3⟩=>⟨t::a,u,b,by rw [h1];rfl,(fun v hv=>by
  rcases fF.1 hv with rfl|hv
  .exact h
  .exact h2 v hv),h3⟩
def kr.ne {x:List aC}:kr x->x≠[]
 | ⟨a,u,b,h1,_⟩,e=>by rw [h1] at e;cases a<;>cases e
def kr.no {x u v:List aC} (h:kr x) (e:x=u++v) (hn:pq u=0) (hd:dq u=0):u=[]:=by
 obtain ⟨a,t,b,h1,h2,h3,h4⟩:=h;rw [h1] at e;have all:∀ c:List aC,(∀ w,w∈c->w.Kind=32)->dq c=(c.length:Int):=by
  intro c;induction c with
  | nil=>intro _;rfl
  | cons w c ih=>
   intro hc;rw [(LH (hc w aF) c).1,ih fun w hw=>hc w (by simp [hw]),fT];omega
 rcases List.append_eq_append_iff.1 e with ⟨c,e1,e2⟩|⟨c,e1,e2⟩
 .cases c with
  | nil=>
   rw [pQ] at e1;subst e1;have:=all u h2;exact Cq.1 ah
  | cons w c=>
   exfalso;obtain ⟨rfl,_⟩:=List.cons.inj e2;rw [e1,XI,(LJ h3 h4 c).2] at hn;omega
 .have:=all u fun w hw=>h2 w (by rw [e1];exact List.mem_append_left _ hw);exact Cq.1 ah
def XJ {t u:aC} (ht:t.Kind≠32/\t.Kind≠33) (hu:u.Kind≠32/\u.Kind≠33):∀ (x1 x2 y1 y2:List aC),x1++t::y1=x2++u::y2->pq x1=pq x2->x1=x2/\t=u/\y1=y2
 | [],[],_,_,e,_=>by
  obtain ⟨h1,h2⟩:=List.cons.inj e;exact ⟨rfl,h1,h2⟩
 | [],v::x2,_,_,e,h=>by
  obtain ⟨rfl,_⟩:=List.cons.inj e;rw [(LJ ht.1 ht.2 x2).2] at h;have h:0=1+pq x2:=h;omega
 | v::x1,[],_,_,e,h=>by
  obtain ⟨rfl,_⟩:=List.cons.inj e;rw [(LJ hu.1 hu.2 x1).2] at h;have h:1+pq x1=0:=h;omega
 | v::x1,w::x2,y1,y2,e,h=>by
  obtain ⟨e0,e1⟩:=List.cons.inj e;subst e0;obtain ⟨h1,h2⟩:=XJ ht hu x1 x2 y1 y2 e1 (by rw [pq,pq] at h;omega);exact ⟨by rw [h1],h2⟩
def axz {x1 x2 y1 y2:List aC} {n:Nat} (e:x1++y1=x2++y2) (h1:LM x1 n) (h2:LM x2 n) (o1:kr y1) (o2:kr y2):x1=x2/\y1=y2:=by
 rcases List.append_eq_append_iff.1 e with ⟨c,e1,e2⟩|⟨c,e1,e2⟩
 .have hn:=h2.n;have hd:=h2.d;rw [e1,XI,h1.n] at hn;rw [e1,LG,h1.d] at hd;have:c=[]:=o1.no e2 ah ah;subst this;rw [pQ] at e1;exact ⟨e1.symm,e2⟩
 .have hn:=h1.n;have hd:=h1.d;rw [e1,XI,h2.n] at hn;rw [e1,LG,h2.d] at hd;have:c=[]:=o2.no e2 ah ah;subst this;rw [pQ] at e1;exact ⟨e1,e2.symm⟩
def TP (k o:Int) (n:Nat):Nat:=bif k==5 then 3+(n - 1) else bif k==7||k==8 then 1+(n - 1) else bif k==12 then (bif o==99 then 0 else 1) else bif k==13 then 2+(n - 1) else bif k==14 then 2 else 1
mutual
def wT:aA->Nat
 | ⟨k,o,_,_,ks⟩=>TP k o ks.length+iT ks
def iT:List aA->Nat
 | []=>0
 | t::ts=>wT t+iT ts
end
def LM.to {x:List aC} {n m:Nat} (h:LM x n) (e:n=m):LM x m:=e ▸ h
def lV {l:List aC} {i j:Nat} (h1:i < j) (h2:j<=l.length):seg l i j=l[i]::seg l (i+1) j:=by
 rw [xX (show i<=i+1 by omega) (show i+1<=j by omega),wY ah];rfl
def BH {l:List aC} {i m j:Nat} (h0:i<=m) (h1:m < j) (h2:j<=l.length):seg l i j=seg l i m++l[m]::seg l (m+1) j:=by
 rw [xX h0<|kG h1,lV h1 h2]
def BI {l:List aC} {i j:Nat} (h1:i<=j) (h2:j < l.length):seg l i (j+1)=seg l i j++[l[j]]:=by
 rw [xX h1 (show j<=j+1 by omega),wY h2]
def Pj {l:List aC} {i:Nat} {k:Int} (hi:i < l.length) (h:kd l i=k) (h1:k≠32) (h2:k≠33):l[i].Kind≠32/\l[i].Kind≠33:=by
 rw [<- lF hi,h];exact ⟨h1,h2⟩
def LM.kd {l:List aC} {i:Nat} {k:Int} (hi:i < l.length) (h:kd l i=k) (h1:k≠32) (h2:k≠33):LM [l[i]] 1:=.tok (Pj hi h h1 h2).1 (Pj hi h h1 h2).2
def LK {o:Int} (h:bg o≠0):o≠32/\o≠33:=⟨fun e=>by subst e;exact h rfl,fun e=>by subst e;exact h rfl⟩
def Pk {o:Int} (h:nM o=true):o≠32/\o≠33:=⟨(fun e=>by subst e;cases h),(fun e=>by subst e;cases h)⟩
def agA {l:List aC} (hn:∀ k,kd l k≠1) {a f:Nat} (h:Ln l a f):f=a:=by
 by_cases e:f=a
 .exact e
 .exact absurd (h.2.1 a (cZ _) (by have:=h.1;omega)) (hn a)
def ank {l:List aC} (hn:∀ k,kd l k≠1) {P:Prop} {m f:Nat} (h:P/\Ln l (m+1) f\/ ¬P/\f=m+1):f=m+1:=by
 rcases h with h|h
 .exact agA hn h.2
 .exact h.2
def ES (l:List aC) (hn:∀ k,kd l k≠1):∀ (n i j:Nat),j - i<=n->(∀ p t,i < j->j<=l.length->dH l p i j t->LM (seg l i j) (wT t))/\(∀ p t h,bV l p i j t h->LM (seg l i j) (wT t))/\(∀ ts,j<=l.length->oZ l i j ts->LM (seg l i j) (iT ts+(ts.length - 1))):=by
 intro n;induction n with
 | zero=>exact fun i j hn=>⟨fun p t hij=>ah,fun p t h d=>by have:=d.lt;omega,fun ts _ d=>by have:=d.lt;omega⟩
 | succ n ih=>
  intro i j axA;have hN:∀ p t,i < j->j<=l.length->dH l p i j t->LM (seg l i j) (wT t):=by
   intro p t hij hj d;cases d with
   | leaf k h1 h2=>
    rw [wY ah];refine (LM.kd ah h2 ah ah).to ?_;rw [wT,iT];rcases h1 with rfl|rfl|rfl<;>rfl
   | name h1=>
    rw [wY ah];refine (LM.kd ah h1 aD aD).to ?_;rw [wT,iT];rfl
   | @index _ _ j ts h1 h2 h3 h4 h5 h6 h7=>
    rw [lV hij hj,lV ah hj,BI ah h4];refine ((LM.kd ah h1 aD aD).app<|(LM.kd ah h2 aD aD).app<|((ih (i+2) j ah).2.2 _ ah h7).app<|LM.kd h4 h5 aD aD).to ?_;rw [wT];show _=3+(ts.length - 1)+iT ts;omega
   | nI k h1 h2 h3 h4=>
    rw [lV hij hj,lV ah hj,wY ah];refine ((LM.kd ah h2 ah ah).app<|LM.wrap (x:=[]) (by rw [<- lF];exact h3) (by rw [<- lF];exact h4) .nil).to ?_;rw [wT,iT];rcases h1 with rfl|rfl<;>rfl
   | @call _ _ j ts k h1 h2 h3 h4 h5 h6 h7 h8=>
    rw [lV hij hj,lV ah hj,BI ah h5];refine ((LM.kd ah h2 ah ah).app<|LM.wrap (by rw [<- lF];exact h3) (by rw [<- lF];exact h6)<|(ih (i+2) j ah).2.2 _ ah h8).to ?_;have:TP k 0 ts.length=1+(ts.length - 1):=by rcases h1 with rfl|rfl<;>rfl
    rw [wT,this];omega
   | len h1=>
    rw [wY ah];refine (LM.kd ah h1 aD aD).to ?_;rw [wT,iT];rfl
   | field h1 h2 h3=>
    rw [lV hij hj];refine ((LM.kd ah h1 aD aD).app<|(ih (i+1) j ah).2.1 _ _ _ h3).to ?_;rw [wT,iT,iT];rfl
   | pre o h1 h2 h3 h4 h5=>
    rw [lV hij hj];refine ((LM.kd ah h2 ah ah).app<|(ih (i+1) j ah).1 _ _ h4 hj h5).to ?_;rw [wT,iT,iT];rfl
   | @post _ _ j t o h1 h2 h3 h4 h5=>
    rw [BI ah hj];refine (((ih i j ah).1 _ _ h4 ah h5).app<|LM.kd hj h2 ah ah).to ?_;rw [wT,iT,iT];show _=1+(wT t+0);omega
   | unary o h1 h2 h3 h4=>
    rw [lV hij hj];refine ((LM.kd ah h2 ah ah).app<|(ih (i+1) j ah).2.1 _ _ _ h4).to ?_;rw [wT,iT,iT];rfl
   | @bin _ _ m f _ a b _ _ o h1 h2 h3 h4 h5 h6 h7 h8=>
    have ef:=ank hn h6;subst ef;rw [BH (m:=m) ah ah hj];refine (((ih i m ah).2.1 _ _ _ h7).app<|(LM.kd ah h3 (LK h1).1 (LK h1).2).app<|(ih (m+1) j ah).2.1 _ _ _ h8).to ?_;have:TP 12 o 2=1:=by
     have e:(o==99)=false:=by simpa using h2
     show (bif o==99 then 0 else 1)=1;rw [e];rfl
    rw [wT,iT,iT,iT];show _=TP 12 o 2+_;rw [this];omega
   | @cat _ _ m _ a b _ _ h1 h2 h3 h4=>
    rw [xX (show i<=m by omega)<|show m<=j by omega];refine (((ih i m ah).2.1 _ _ _ h3).app<|(ih m j ah).2.1 _ _ _ h4).to ?_;rw [wT,iT,iT,iT];show _=0+(wT a+(wT b+0));omega
   | @one _ _ m t _ h1 h2 h3 h4=>
    rw [BH (m:=m) ah ah hj,wY ah];refine (((ih i m ah).2.1 _ _ _ h4).app<|(LM.kd ah h2 aD aD).app<|LM.kd ah h3 aD aD).to ?_;rw [wT,iT,iT];show _=2+(1 - 1)+(wT t+0);omega
   | @many _ _ m ts h1 h2 h3 h4 h5 h6 h7 h8=>
    rw [lV hij hj,BH (m:=m) ah ah hj,lV ah hj,wY ah];have e:∀ (a b c d:aC) (x:List aC),a::(x++b::c::[d])=(a::(x++[b]))++([c]++[d]):=fun a b c d x=>by simp
    rw [e];refine ((LM.wrap (by rw [<- lF];exact h1) (by rw [<- lF];exact h3)<|(ih (i+1) m ah).2.2 _ ah h8).app<|(LM.kd ah h4 aD aD).app<|LM.kd ah h5 aD aD).to ?_;rw [wT];show _=2+(ts.length - 1)+iT ts;omega
   | @cond _ _ m k _ a b c _ _ _ h1 h2 h3 h4 h5 h6 h7 h8=>
    rw [BH (m:=m) ah ah hj,BH (m:=k) (i:=m+1) ah ah hj];refine (((ih i m ah).2.1 _ _ _ h6).app<|(LM.kd ah h2 aD aD).app<|((ih (m+1) k ah).2.1 _ _ _ h7).app<|(LM.kd ah h4 aD aD).app<|(ih (k+1) j ah).2.1 _ _ _ h8).to ?_;rw [wT,iT,iT,iT,iT];show _=2+(wT a+(wT b+(wT c+0)));omega
   | @assign _ _ m _ a b _ o h1 h2 h3 h4 h5 h6 h7=>
    rw [BH (m:=m) ah ah hj];refine (((ih i m ah).1 _ _ h3 ah h6).app<|(LM.kd ah h2 (Pk h1).1 (Pk h1).2).app<|(ih (m+1) j ah).2.1 _ _ _ h7).to ?_;rw [wT,iT,iT,iT];show _=1+(wT a+(wT b+0));omega
  have hE:∀ p t h,bV l p i j t h->LM (seg l i j) (wT t):=by
   intro p t h d;cases d with
   | @par _ _ j _ h h1 h2 h3 h4 h5=>
    rw [lV ah ah,BI ah h3];exact LM.wrap (by rw [<- lF];exact h1) (by rw [<- lF];exact h5) ((ih (i+1) j ah).2.1 _ _ _ h4)
   | bare h1 h2 h3 h4=>exact hN p t h2 h3 h4
  refine ⟨hN,hE,fun ts hj d=>?_⟩;cases d with
  | one h1 h2=>
   refine (hE _ _ _ h2).to ?_;rw [iT,iT];rfl
  | @cons _ k f _ t u us h h1 h2 h3 h4 h5 h6=>
   have ef:=agA hn h3;subst ef;rw [BH (m:=k) ah ah hj];refine (((ih i k ah).2.1 _ _ _ h5).app<|(LM.kd ah h2 aD aD).app<|(ih (k+1) j ah).2.2 _ hj h6).to ?_;rw [show iT (t::u::us)=wT t+iT (u::us) by rw [iT]];simp only [fT];omega
def agB (l:List aC):∀ (n i j:Nat),j - i<=n->(∀ p t,i < j->j<=l.length->dH l p i j t->kr (seg l i j))/\(∀ p t h,bV l p i j t h->kr (seg l i j))/\(∀ ts,j<=l.length->oZ l i j ts->kr (seg l i j)):=by
 intro n;induction n with
 | zero=>exact fun i j hn=>⟨fun p t hij=>ah,fun p t h d=>by have:=d.lt;omega,fun ts _ d=>by have:=d.lt;omega⟩
 | succ n ih=>
  intro i j axA;have hN:∀ p t,i < j->j<=l.length->dH l p i j t->kr (seg l i j):=by
   intro p t hij hj d;have hd:∀ k:Int,kd l i=k->k≠32->k≠33->kr (seg l i j):=fun k h h1 h2=>by
    rw [lV hij hj];have:=Pj (show i < l.length by omega) h h1 h2;exact .hd this.1 this.2
   have fst:∀ m p' t' h',m<=j->m - i<=n->bV l p' i m t' h'->kr (seg l i j):=fun m p' t' h' hm hmi d=>by
    rw [xX (show i<=m by have:=d.lt;omega) hm];exact ((ih i m hmi).2.1 _ _ _ d).app
   cases d with
   | leaf k h1 h2=>exact hd k h2 ah ah
   | name h1=>exact hd 6 h1 aD aD
   | index h1=>exact hd 6 h1 aD aD
   | nI k h1 h2=>exact hd k h2 ah ah
   | call k h1 h2=>exact hd k h2 ah ah
   | len h1=>exact hd 8 h1 aD aD
   | field h1=>exact hd 68 h1 aD aD
   | pre o h1 h2=>exact hd o h2 ah ah
   | @post _ _ j t o h1 h2 h3 h4 h5=>
    rw [BI ah hj];exact ((ih i j ah).1 _ _ h4 ah h5).app
   | unary o h1 h2=>exact hd o h2 ah ah
   | bin o h1 h2 h3 h4 h5 h6 h7 h8=>exact fst _ _ _ _ (by have:=zY h6;omega) (by have:=zY h6;omega) h7
   | cat h1 h2 h3 h4=>exact fst _ _ _ _ ah ah h3
   | one h1 h2 h3 h4=>exact fst _ _ _ _ ah ah h4
   | @many _ _ m ts h1 h2 h3 h4 h5 h6 h7 h8=>
    rw [lV hij hj,xX (show i+1<=m by omega)<|show m<=m+3 by omega];exact .opn (by rw [<- lF];exact h1) ((ih (i+1) m ah).2.2 _ ah h8).app
   | cond h1 h2 h3 h4 h5 h6=>exact fst _ _ _ _ ah ah h6
   | @assign _ _ m _ a b _ o h1 h2 h3 h4 h5 h6 h7=>
    rw [xX (show i<=m by omega)<|show m<=j by omega];exact ((ih i m ah).1 _ _ h3 ah h6).app
  have hE:∀ p t h,bV l p i j t h->kr (seg l i j):=by
   intro p t h d;cases d with
   | @par _ _ j _ h h1 h2 h3 h4 h5=>
    rw [lV ah ah,BI ah h3];exact .opn (by rw [<- lF];exact h1) ((ih (i+1) j ah).2.1 _ _ _ h4).app
   | bare h1 h2 h3 h4=>exact hN p t h2 h3 h4
  refine ⟨hN,hE,fun ts hj d=>?_⟩;cases d with
  | one h1 h2=>exact hE _ _ _ h2
  | @cons _ k f _ t u us h h1 h2 h3 h4 h5 h6=>
   have:=h3.1;rw [xX (show i<=k by omega)<|show k<=j by omega];exact ((ih i k ah).2.1 _ _ _ h5).app
def axC {l:List aC} (hn:∀ k,kd l k≠1) {p:aN} {i j:Nat} {t:aA} (hij:i < j) (hj:j<=l.length) (d:dH l p i j t):NH (seg l i j):=by
 have lmE:∀ {m p' t' h'},bV l p' i m t' h'->LM (seg l i m) (wT t')/\seg l i m≠[]:=fun {m p' t' h'} d=>⟨(ES l hn _ i m<|cZ _).2.1 _ _ _ d,((agB l _ i m<|cZ _).2.1 _ _ _ d).ne⟩
 have lmN:∀ {m p' t'},i < m->m<=l.length->dH l p' i m t'->LM (seg l i m) (wT t')/\seg l i m≠[]:=fun {m p' t'} h1 h2 d=>⟨(ES l hn _ i m<|cZ _).1 _ _ h1 h2 d,((agB l _ i m<|cZ _).1 _ _ h1 h2 d).ne⟩
 have hd:∀ k:Int,kd l i=k->k≠32->NH (seg l i j):=fun k h h1=>by
  rw [lV hij hj];exact .hd (by rw [<- lF ah,h];exact h1)
 have mid:∀ {m n},i<=m->m < j->LM (seg l i m) n/\seg l i m≠[]->NH (seg l i j):=fun {m n} h0 h1 h=>by
  rw [BH h0 h1 hj];exact .mid h.1 h.2 aF
 cases d with
 | leaf k h1 h2=>exact hd k h2 ah
 | name h1=>exact hd 6 h1 aD
 | index h1=>exact hd 6 h1 aD
 | nI k h1 h2=>exact hd k h2 ah
 | call k h1 h2=>exact hd k h2 ah
 | len h1=>exact hd 8 h1 aD
 | field h1=>exact hd 68 h1 aD
 | pre o h1 h2=>exact hd o h2 ah
 | post o h1 h2 h3 h4 h5=>exact mid ah ah (lmN h4 ah h5)
 | unary o h1 h2=>exact hd o h2 ah
 | bin o h1 h2 h3 h4 h5 h6 h7 h8=>exact mid ah (by have:=zY h6;omega) (lmE h7)
 | cat h1 h2 h3 h4=>exact mid ah ah (lmE h3)
 | one h1 h2 h3 h4=>exact mid ah ah (lmE h4)
 | @many _ _ m ts h1 h2 h3 h4 h5 h6 h7 h8=>
  have hw:LM (seg l i<|m+1) (iT ts+(ts.length - 1)):=by
   rw [lV ah ah,BI ah ah];exact .wrap (by rw [<- lF];exact h1) (by rw [<- lF];exact h3) ((ES l hn _ (i+1) m<|cZ _).2.2 _ ah h8)
  exact mid (m:=m+1) ah ah ⟨hw,by rw [lV ah ah];simp⟩
 | cond h1 h2 h3 h4 h5 h6=>exact mid ah ah (lmE h6)
 | assign o h1 h2 h3 h4 h5 h6=>exact mid ah ah (lmN h3 ah h6)
def XK:∀ (l:List aA) (b:Bool),(∀ u,u∈l->LM (aI u) (wT u))->LM (bW b<|l.map aI) ((l.map wT).sum+(bif b then l.length else l.length - 1))
 | [],b,_=>by
  show LM [] _;exact LM.nil.to (by cases b<;>rfl)
 | u::l,b,h=>by
  have h2:=XK l true fun v hv=>h v (by simp [hv]);have ET:LM [sg 36] 1:=.tok aD aD;have hu:=h u aF;show LM ((bif b then [sg 36] else [])++(aI u++bW true (l.map aI))) _;cases b with
  | false=>
   refine (LM.nil.app<|hu.app h2).to ?_;simp only [jV,MO,fT,aH,aG];omega
  | true=>
   refine (ET.app<|hu.app h2).to ?_;simp only [jV,MO,fT,aH];omega
def anl:∀ ts:List aA,iT ts=(ts.map wT).sum
 | []=>by rw [iT];rfl
 | t::ts=>by rw [iT,anl ts];rfl
def agC (t:aA):wT t=TP t.kind t.op t.kids.length+(t.kids.map wT).sum:=by
 obtain ⟨k,o,x,y,ks⟩:=t;rw [wT,anl]
def axD (k o:Int) (x:List UInt8) (ks:List aA) (g:GN ⟨k,o,x,[],ks⟩) (c:CN ⟨k,o,x,[],ks⟩) (h:∀ u,u∈ks->LM (aI u) (wT u)):LM (fG k o x<|ks.map aI) (TP k o ks.length+(ks.map wT).sum):=by
 have li:=XK ks false h;rw [aG] at li;have tk:∀ (z:aC),z.Kind≠32->z.Kind≠33->LM [z] 1:=fun z=>.tok;rcases kinds g.e with e|e|e|e|e|e|e|e|e|e|e|e|e|e|e<;>(have e:k=_:=e;subst e)
 case inl=>
  have:ks=[]:=Cq.1 (g.a0<|.inl rfl);subst this;exact tk _ (by show (6:Int)≠32;decide) (by show (6:Int)≠33;decide)
 case inr.inl=>
  have:ks=[]:=Cq.1 (g.a0<|.inr<|.inl rfl);subst this;exact tk _ (by show (3:Int)≠32;decide) (by show (3:Int)≠33;decide)
 case inr.inr.inl=>
  have:ks=[]:=Cq.1 (g.a0<|.inr<|.inr<|.inl rfl);subst this;exact tk _ (by show (4:Int)≠32;decide) (by show (4:Int)≠33;decide)
 case inr.inr.inr.inl=>
  have:ks=[]:=Cq.1 (g.a0<|.inr<|.inr<|.inr rfl);subst this;exact tk _ (by show (5:Int)≠32;decide) (by show (5:Int)≠33;decide)
 case inr.inr.inr.inr.inl=>
  refine LM.to ((tk ⟨6,x,0⟩ (by show (6:Int)≠32;decide)<|by show (6:Int)≠33;decide).app<|(tk (sg 34) aD aD).app<|li.app<|tk (sg 35) aD aD) ?_;show _=3+(ks.length - 1)+_;omega
 case inr.inr.inr.inr.inr.inl=>
  obtain ⟨u,e1⟩:=vM (g.a1<|.inl rfl);have e1:ks=[u]:=e1;subst e1;refine LM.to ((tk (sg 68) aD aD).app<|h u aF) ?_;simp;rfl
 case inr.inr.inr.inr.inr.inr.inl=>
  refine LM.to ((tk ⟨7,x,0⟩ (by show (7:Int)≠32;decide)<|by show (7:Int)≠33;decide).app<|LM.wrap (t:=sg 32) (u:=sg 33) rfl rfl li) ?_;show _=1+(ks.length - 1)+_;omega
 case inr.inr.inr.inr.inr.inr.inr.inl=>
  refine LM.to ((tk ⟨8,x,0⟩ (by show (8:Int)≠32;decide)<|by show (8:Int)≠33;decide).app<|LM.wrap (t:=sg 32) (u:=sg 33) rfl rfl li) ?_;show _=1+(ks.length - 1)+_;omega
 case inr.inr.inr.inr.inr.inr.inr.inr.inl=>
  obtain ⟨u,e1⟩:=vM (g.a1<|.inr<|.inl rfl);have e1:ks=[u]:=e1;subst e1;have:o=51\/o=52:=c.k9 (.inl rfl);refine LM.to ((tk (sg o) (by show o≠32;omega)<|by show o≠33;omega).app<|h u aF) ?_;simp;rfl
 case inr.inr.inr.inr.inr.inr.inr.inr.inr.inl=>
  obtain ⟨u,e1⟩:=vM (g.a1<|.inr<|.inr<|.inl rfl);have e1:ks=[u]:=e1;subst e1;have:o=51\/o=52:=c.k9 (.inr rfl);refine LM.to ((h u aF).app<|tk (sg o) (by show o≠32;omega)<|by show o≠33;omega) ?_;show _=1+(wT u+0);omega
 case inr.inr.inr.inr.inr.inr.inr.inr.inr.inr.inl=>
  obtain ⟨u,e1⟩:=vM (g.a1<|.inr<|.inr<|.inr rfl);have e1:ks=[u]:=e1;subst e1;have:o=55\/o=56\/o=61:=c.k11 rfl;refine LM.to ((tk (sg o) (by show o≠32;omega)<|by show o≠33;omega).app<|h u aF) ?_;simp;rfl
 case inr.inr.inr.inr.inr.inr.inr.inr.inr.inr.inr.inl=>
  obtain ⟨a,b,e1⟩:=Ab (g.a2<|.inl rfl);have e1:ks=[a,b]:=e1;subst e1;have ho:bg o≠0:=g.lv;have ha:=h a aF;have hb:=h b aF;show LM (aI a++((bif o==99 then [] else [sg o])++aI b)) ((bif o==99 then 0 else 1)+(wT a+(wT b+0)));cases iF:(o==99) with
  | true=>exact (ha.app<|LM.nil.app hb).to (by simp only [aH];omega)
  | false=>exact (ha.app<|(tk (sg o) (LK ho).1 (LK ho).2).app hb).to (by simp only [aG];omega)
 case inr.inr.inr.inr.inr.inr.inr.inr.inr.inr.inr.inr.inl=>
  have iL:LM [sg 24,⟨6,x,0⟩] (1+1):=(tk (sg 24) aD aD).app (tk ⟨6,x,0⟩ (by show (6:Int)≠32;decide)<|by show (6:Int)≠33;decide);show LM ((bif decide ((ks.map aI).length > 1) then sg 32::(bW false (ks.map aI)++[sg 33]) else (ks.map aI).getD 0 [])++[sg 24,⟨6,x,0⟩]) (2+(ks.length - 1)+_);rw [mE];by_cases h1:ks.length > 1
  .rw [fU h1,aH];refine ((LM.wrap (t:=sg 32) (u:=sg 33) rfl rfl li).app iL).to ?_;omega
  .rw [nE h1,aG];have:1<=ks.length:=g.ai (.inr rfl);obtain ⟨u,e1⟩:=vM (t:=⟨13,o,x,[],ks⟩) (show ks.length=1 by omega);have e1:ks=[u]:=e1;subst e1;refine ((h u aF).app iL).to ?_;show _=2+(1 - 1)+(wT u+0);omega
 case inr.inr.inr.inr.inr.inr.inr.inr.inr.inr.inr.inr.inr.inl=>
  obtain ⟨a,b,d,e1⟩:=Pm (g.a3 rfl);have e1:ks=[a,b,d]:=e1;subst e1;refine LM.to ((h a aF).app<|(tk (sg 65) aD aD).app<|(h b aF).app<|(tk (sg 66) aD aD).app<|h d aF) ?_;show _=2+(wT a+(wT b+(wT d+0)));omega
 case inr.inr.inr.inr.inr.inr.inr.inr.inr.inr.inr.inr.inr.inr=>
  obtain ⟨a,b,e1⟩:=Ab (g.a2<|.inr rfl);have e1:ks=[a,b]:=e1;subst e1;have hk:nM o=true:=c.k15 rfl;have iF:(o==99)=false:=by
   have:=g.op rfl;simpa using this
  show LM (aI a++((bif o==99 then [] else [sg o])++aI b)) (1+(wT a+(wT b+0)));rw [iF];exact ((h a aF).app<|(tk (sg o) (Pk hk).1 (Pk hk).2).app<|h b aF).to ah
def GZ:∀ t:aA,allT AN t->LM (fJ t) (wT t)/\LM (aI t) (wT t):=by
 intro t;induction t using nN with
 | h t ih=>
  intro ha;have a:=mD ha;have ak:=nO ha;have hk:∀ u,u∈t.kids->LM (aI u) (wT u):=fun u hu=>(ih u hu<|ak u hu).2;have hN:LM (fJ t) (wT t):=by
   rw [uy,agC];cases hd:fH t.other with
   | true=>
    obtain ⟨e1,e2⟩:=a.dr hd;have li:=XK t.kids false hk;rw [aG] at li;refine (li.app<|(LM.tok (t:=sg 24) aD aD).app<|LM.tok (t:=⟨6,t.text,0⟩) (by show (6:Int)≠32;decide)<|by show (6:Int)≠33;decide).to ?_;rw [e1];show _=2+(t.kids.length - 1)+_;omega
   | false=>
    obtain ⟨k,o,x,y,ks⟩:=t;have g:=a.g;exact axD k o x ks ⟨g.e,g.lv,g.a0,g.a1,g.a2,g.a3,g.ai,g.le,g.ke,g.kl,g.op⟩ a.c hk
  refine ⟨hN,?_⟩;unfold aI qj;cases fA t.other with
  | false=>exact hN
  | true=>exact .wrap rfl rfl hN
def axE (k o:Int) (x:List UInt8) (ks:List aA) (g:GN ⟨k,o,x,[],ks⟩) (c:CN ⟨k,o,x,[],ks⟩) (h:∀ u,u∈ks->kr (aI u)):kr (fG k o x<|ks.map aI):=by
 have hl:∀ us:List aA,us≠[]->(∀ u,u∈us->kr (aI u))->kr (bW false<|us.map aI):=fun us hn h=>by
  cases us with
  | nil=>exact absurd rfl hn
  | cons u us=>
   show kr ([]++(aI u++_));exact (h u aF).app
 have hd:∀ (t:aC) (r:List aC),t.Kind≠32->t.Kind≠33->kr (t::r):=fun t r=>.hd;have n6:(6:Int)≠32/\(6:Int)≠33:=aD;rcases kinds g.e with e|e|e|e|e|e|e|e|e|e|e|e|e|e|e<;>(have e:k=_:=e;subst e)
 .exact hd ⟨6,x,0⟩ _ n6.1 n6.2
 .exact hd ⟨3,x,0⟩ _ (by show (3:Int)≠32;decide) (by show (3:Int)≠33;decide)
 .exact hd ⟨4,x,0⟩ _ (by show (4:Int)≠32;decide) (by show (4:Int)≠33;decide)
 .exact hd ⟨5,x,0⟩ _ (by show (5:Int)≠32;decide) (by show (5:Int)≠33;decide)
 .exact hd ⟨6,x,0⟩ _ n6.1 n6.2
 .exact hd (sg 68) _ aD aD
 .exact hd ⟨7,x,0⟩ _ (by show (7:Int)≠32;decide) (by show (7:Int)≠33;decide)
 .exact hd ⟨8,x,0⟩ _ (by show (8:Int)≠32;decide) (by show (8:Int)≠33;decide)
 .have:o=51\/o=52:=c.k9 (.inl rfl);exact hd (sg o) _ (by show o≠32;omega) (by show o≠33;omega)
 .obtain ⟨u,e1⟩:=vM (g.a1<|.inr<|.inr<|.inl rfl);have e1:ks=[u]:=e1;subst e1;exact (h u aF).app
 .have:o=55\/o=56\/o=61:=c.k11 rfl;exact hd (sg o) _ (by show o≠32;omega) (by show o≠33;omega)
 .obtain ⟨a,b,e1⟩:=Ab (g.a2<|.inl rfl);have e1:ks=[a,b]:=e1;subst e1;exact (h a aF).app
 .show kr ((bif decide ((ks.map aI).length > 1) then sg 32::(bW false (ks.map aI)++[sg 33]) else (ks.map aI).getD 0 [])++[sg 24,⟨6,x,0⟩]);have h1:1<=ks.length:=g.ai (.inr rfl);rw [mE];by_cases h2:ks.length > 1
  .rw [fU h2,aH];exact (kr.opn rfl (hl ks (by intro e;subst e;simp at h1) h).app).app
  .rw [nE h2,aG];obtain ⟨u,e1⟩:=vM (t:=⟨13,o,x,[],ks⟩) (show ks.length=1 by omega);have e1:ks=[u]:=e1;subst e1;exact (h u aF).app
 .obtain ⟨a,b,d,e1⟩:=Pm (g.a3 rfl);have e1:ks=[a,b,d]:=e1;subst e1;exact (h a aF).app
 .obtain ⟨a,b,e1⟩:=Ab (g.a2<|.inr rfl);have e1:ks=[a,b]:=e1;subst e1;exact (h a aF).app
def AN.gn {k o:Int} {x y:List UInt8} {ks:List aA} (a:AN ⟨k,o,x,y,ks⟩):GN ⟨k,o,x,[],ks⟩:=⟨a.g.e,a.g.lv,a.g.a0,a.g.a1,a.g.a2,a.g.a3,a.g.ai,a.g.le,a.g.ke,a.g.kl,a.g.op⟩
def Zw:∀ t:aA,allT AN t->kr (fJ t)/\kr (aI t):=by
 intro t;induction t using nN with
 | h t ih=>
  intro ha;have a:=mD ha;have ak:=nO ha;have hk:∀ u,u∈t.kids->kr (aI u):=fun u hu=>(ih u hu<|ak u hu).2;have hN:kr (fJ t):=by
   rw [uy];cases hd:fH t.other with
   | true=>
    obtain ⟨_,e2⟩:=a.dr hd
    match e:t.kids with
    | []=>rw [e] at e2;simp at e2
    | u::us=>
     show kr (([]++(aI u++_))++_);exact (hk u<|by rw [e];simp).app.app
   | false=>
    obtain ⟨k,o,x,y,ks⟩:=t;exact axE k o x ks a.gn a.c hk
  refine ⟨hN,?_⟩;unfold aI qj;cases fA t.other with
  | false=>exact hN
  | true=>exact .opn rfl hN.app
def axF (k o:Int) (x:List UInt8) (ks:List aA) (g:GN ⟨k,o,x,[],ks⟩) (c:CN ⟨k,o,x,[],ks⟩) (h:∀ u,u∈ks->LM (aI u) (wT u)/\aI u≠[]):NH (fG k o x<|ks.map aI):=by
 have hd:∀ (t:aC) (r:List aC),t.Kind≠32->NH (t::r):=fun t r=>.hd;have n6:(6:Int)≠32:=aD;rcases kinds g.e with e|e|e|e|e|e|e|e|e|e|e|e|e|e|e<;>(have e:k=_:=e;subst e)
 .exact hd ⟨6,x,0⟩ _ n6
 .exact hd ⟨3,x,0⟩ _ (by show (3:Int)≠32;decide)
 .exact hd ⟨4,x,0⟩ _ (by show (4:Int)≠32;decide)
 .exact hd ⟨5,x,0⟩ _ (by show (5:Int)≠32;decide)
 .exact hd ⟨6,x,0⟩ _ n6
 .exact hd (sg 68) _ aD
 .exact hd ⟨7,x,0⟩ _ (by show (7:Int)≠32;decide)
 .exact hd ⟨8,x,0⟩ _ (by show (8:Int)≠32;decide)
 .have:o=51\/o=52:=c.k9 (.inl rfl);exact hd (sg o) _ (by show o≠32;omega)
 .obtain ⟨u,e1⟩:=vM (g.a1<|.inr<|.inr<|.inl rfl);have e1:ks=[u]:=e1;subst e1;exact .mid (h u aF).1 (h u aF).2 aF
 .have:o=55\/o=56\/o=61:=c.k11 rfl;exact hd (sg o) _ (by show o≠32;omega)
 .obtain ⟨a,b,e1⟩:=Ab (g.a2<|.inl rfl);have e1:ks=[a,b]:=e1;subst e1;refine .mid (h a aF).1 (h a aF).2 fun e=>?_;exact (h b aF).2 (List.append_eq_nil_iff.1 e).2
 .have iL:([sg 24,⟨6,x,0⟩]:List aC)≠[]:=aF;show NH ((bif decide ((ks.map aI).length > 1) then sg 32::(bW false (ks.map aI)++[sg 33]) else (ks.map aI).getD 0 [])++[sg 24,⟨6,x,0⟩]);have h1:1<=ks.length:=g.ai (.inr rfl);rw [mE];by_cases h2:ks.length > 1
  .rw [fU h2,aH];exact .mid (LM.wrap (t:=sg 32) (u:=sg 33) rfl rfl<|XK ks false fun u hu=>(h u hu).1) aF iL
  .rw [nE h2,aG];obtain ⟨u,e1⟩:=vM (t:=⟨13,o,x,[],ks⟩) (show ks.length=1 by omega);have e1:ks=[u]:=e1;subst e1;exact .mid (h u aF).1 (h u aF).2 iL
 .obtain ⟨a,b,d,e1⟩:=Pm (g.a3 rfl);have e1:ks=[a,b,d]:=e1;subst e1;exact .mid (h a aF).1 (h a aF).2 aF
 .obtain ⟨a,b,e1⟩:=Ab (g.a2<|.inr rfl);have e1:ks=[a,b]:=e1;subst e1;refine .mid (h a aF).1 (h a aF).2 fun e=>?_;exact (h b aF).2 (List.append_eq_nil_iff.1 e).2
def anm {ks:List aA} (h2:2<=ks.length) (h:∀ u,u∈ks->LM (aI u) (wT u)/\aI u≠[]) (b:List aC):NH (bW false (ks.map aI)++b):=by
 match ks,h2 with
 | u::v::us,_=>
  have e:bW false ((u::v::us).map aI)++b=aI u++(sg 36::(aI v++bW true (us.map aI)++b)):=by
   show ([]++(aI u++([sg 36]++(aI v++bW true (us.map aI)))))++b=_;simp
  rw [e];exact .mid (h u aF).1 (h u aF).2 aF
def ano (t:aA) (ha:allT AN t):NH (fJ t):=by
 have a:=mD ha;have hk:∀ u,u∈t.kids->LM (aI u) (wT u)/\aI u≠[]:=fun u hu=>⟨(GZ u<|nO ha u hu).2,(Zw u<|nO ha u hu).2.ne⟩
 rw [uy];cases hd:fH t.other with
 | true=>exact anm (a.dr hd).2 hk _
 | false=>
  obtain ⟨k,o,x,y,ks⟩:=t;exact axF k o x ks a.gn a.c hk
def axG {t:aA} (ha:allT AN t):LM (aI t) (wT t)/\aI t≠[]:=⟨(GZ t ha).2,(Zw t ha).2.ne⟩
def abX:∀ t:aA,allT AN t->(∀ p q,TQ t.kind p q->okB t p->okB t q)/\(∀ p q,abY p q->ko t p->ko t q):=by
 intro t;induction t using nN with
 | h t ih=>
  intro ha;have g:=(mD ha).g;have ak:=nO ha;have hB:∀ p q,TQ t.kind p q->okB t p->okB t q:=fun p q hr h=>by
   rw [Gv] at h ⊢;refine ⟨h.1,?_⟩;have key:∀ (ts:List aA) (j:Nat),(∀ k,k∈ts->k∈t.kids)->ji t.kind t.op t.kids.length j p ts->ji t.kind t.op t.kids.length j q ts:=by
    intro ts;induction ts with
    | nil=>intro j _ _;rw [ji];trivial
    | cons u ts ih2=>
     intro j hm h;rw [jA] at h ⊢;have hu:=hm u aF;exact ⟨(ih u hu<|ak u hu).2 _ _ (anp (o:=t.op) (n:=t.kids.length) (j:=j) g.e hr) h.1,ih2 (j+1) (fun k hk=>hm k<|by simp [hk]) h.2⟩
   exact key t.kids 0 (fun k hk=>hk) h.2
  refine ⟨hB,fun p q hr h=>?_⟩;rcases h with h|⟨h1,h2,h3⟩
  .exact .inl h
  .obtain ⟨f1,f2⟩:=anq (o:=t.op) g.e hr;exact .inr ⟨h1,by rw [<- f1];exact h2,hB p q (f2 h2) h3⟩
def anr {k k' o o':Int} {n:Nat} {p:aN} (hL:eT k=true) (hk:k'=9\/k'=10\/k'=15):dD k o (dJ k' o' n 0 p)=true:=by
 have hL:k=1\/k=5\/k=6:=by
  unfold eT at hL;simpa using hL
 obtain ⟨v,d,a,g,s⟩:=p;rcases hk with rfl|rfl|rfl<;>rcases hL with rfl|rfl|rfl<;>cases a<;>cases g<;>cases s<;>rfl
def agD {u:aA} {k o:Int} {n:Nat} {p:aN} (ha:allT AN u) (h:okB u wZ) (hp:fA u.other=false) (hL:eT u.kind=true) (hk:k=9\/k=10\/k=15):ko u (dJ k o n 0 p):=
 .inr ⟨hp,anr hL hk,(abX u ha).1 _ _ (.inr<|abZ hL) h⟩
def agE {f:aA->aA} {ks:List aA} {a b:aA} (h:ks.map f=[a,b]):∃ u v,ks=[u,v]/\a=f u/\b=f v:=by
 match ks,h with
 | [u,v],h=>
  have h:[f u,f v]=[a,b]:=h;injection h with h1 h2;injection h2 with h2;exact ⟨u,v,rfl,h1.symm,h2.symm⟩
def axH {f:aA->aA} {ks:List aA} {a b c:aA} (h:ks.map f=[a,b,c]):∃ u v w,ks=[u,v,w]/\a=f u/\b=f v/\c=f w:=by
 match ks,h with
 | [u,v,w],h=>
  have h:[f u,f v,f w]=[a,b,c]:=h;injection h with h1 h2;injection h2 with h2 h3;injection h3 with h3;exact ⟨u,v,w,rfl,h1.symm,h2.symm,h3.symm⟩
section
set_option linter.unusedSectionVars false
variable (l:List aC) (hn:∀ k,kd l k≠1)
include hn
theorem XL:∀ t:aA,wT (strip t)=wT t:=by
 intro t;induction t using nN with
 | h t ih=>
  rw [zf,agC,agC t];dsimp only;rw [mE,nW];congr 2;exact qx fun u hu=>ih u hu
theorem acd:∀ (ts:List aA) (i j:Nat),j<=l.length->(∀ u,u∈ts->allT AN u)->(∀ u,u∈ts->∀ p i j h,seg l i j=aI u->bV l p i j (strip u) h->ko u p)->seg l i j=bW false (ts.map aI)->oZ l i j (ts.map strip)->∀ u,u∈ts->ko u bG
 | [],_,_,_,_,_,_,_,u,hu=>by cases hu
 | [t],i,j,hj,hA,hE,e,d,u,hu=>by
  rw [nG.1 hu];have e:seg l i j=aI t:=by
   rw [e];show []++(aI t++[])=_;simp
  cases d with
  | one h1 h2=>exact hE t aF _ _ _ _ e h2
 | t::v::ts,i,j,hj,hA,hE,e,d,u,hu=>by
  have e:seg l i j=aI t++sg 36::bW false ((v::ts).map aI):=by
   rw [e];show []++(aI t++([sg 36]++(aI v++bW true (ts.map aI))))=aI t++sg 36::([]++(aI v++bW true (ts.map aI)));simp
  have ed:(t::v::ts).map strip=strip t::strip v::ts.map strip:=rfl;rw [ed] at d;cases d with
  | @cons _ k f _ _ _ _ h h1 h2 h3 h4 h5 h6=>
   have ef:=agA hn h3;subst ef;rw [BH (m:=k) ah ah hj] at e;have hkl:k < l.length:=ah;have w1:=(ES l hn _ i k<|cZ _).2.1 _ _ _ h5;rw [XL l hn] at w1;obtain ⟨a1,a2,a3⟩:=XJ (Pj hkl h2 aD aD) aD _ _ _ _ e (by rw [w1.n,(GZ t<|hA t aF).2.n]);rcases fF.1 hu with rfl|hu
   .exact hE _ aF _ _ _ _ a1 h5
   .exact acd (v::ts) (k+1) j hj (fun u hu=>hA u<|by simp [fF.1 hu]) (fun u hu=>hE u<|by simp [fF.1 hu]) a3 h6 u hu
theorem axI:∀ A:aA,allT AN A->(∀ p i j,i < j->j<=l.length->seg l i j=fJ A->dH l p i j (strip A)->okB A p)/\(∀ p i j h,seg l i j=aI A->bV l p i j (strip A) h->ko A p):=by
 intro A;induction A using nN with
 | h A ih=>
  intro ha;have a:=mD ha;have ak:=nO ha;have hN:∀ p i j,i < j->j<=l.length->seg l i j=fJ A->dH l p i j (strip A)->okB A p:=by
   intro p i j hij hj e d;have mK:∀ u,u∈A.kids->∀ p i j h,seg l i j=aI u->bV l p i j (strip u) h->ko u p:=fun u hu=>(ih u hu<|ak u hu).2;have ihN:∀ u,u∈A.kids->∀ p i j,i < j->j<=l.length->seg l i j=fJ u->dH l p i j (strip u)->okB u p:=fun u hu=>(ih u hu<|ak u hu).1;have lmk:∀ u,u∈A.kids->LM (aI u) (wT u)/\aI u≠[]:=fun u hu=>axG (ak u hu);have cut:∀ {m:Nat} {u:aA} {p':aN} {h':Bool} {z:aC} {r:List aC},u∈A.kids->m < j->bV l p' i m (strip u) h'->kd l m≠32->kd l m≠33->z.Kind≠32->z.Kind≠33->seg l i j=aI u++z::r->seg l i m=aI u/\seg l (m+1) j=r:=fun {m u p' h' z r} hu hm d k1 k2 z1 z2 e=>by
    rw [BH (m:=m) (kG d.lt.1) hm hj] at e;have w1:=(ES l hn _ i m<|cZ _).2.1 _ _ _ d;rw [XL l hn] at w1;obtain ⟨a1,a2,a3⟩:=XJ (Pj (show m < l.length by omega) rfl k1 k2) ⟨z1,z2⟩ _ _ _ _ e (by rw [w1.n,(lmk u hu).1.n]);exact ⟨a1,a3⟩
   obtain ⟨k,o,x,y,ks⟩:=A;have g:=a.gn;have nd:k≠13->fH y=false:=fun h=>by
    cases hd:fH y with
    | false=>rfl
    | true=>exact absurd (a.dr hd).1 h
   have eN:fH y=false->seg l i j=fG k o x (ks.map aI):=fun h=>by
    rw [e,uy];show (bif fH y then _ else _)=_;rw [h];rfl
   rw [zf] at d;generalize ht:(⟨(⟨k,o,x,y,ks⟩:aA).kind,(⟨k,o,x,y,ks⟩:aA).op,(⟨k,o,x,y,ks⟩:aA).text,[],(⟨k,o,x,y,ks⟩:aA).kids.map strip⟩:aA)=t at d;have inj:∀ {k' o':Int} {x':List UInt8} {ks':List aA},(⟨k,o,x,[],ks.map strip⟩:aA)=⟨k',o',x',[],ks'⟩->k=k'/\o=o'/\x=x'/\ks.map strip=ks':=fun h=>by
    injection h with h1 h2 h3 _ h4;exact ⟨h1,h2,h3,h4⟩
   have acf:ks.map strip=[]->ks=[]:=fun h=>by simpa using h
   rw [Gv];show fH y=false/\ji k o ks.length 0 p ks;cases d with
   | leaf k' h1 h2=>
    obtain ⟨q1,q2,q3,q4⟩:=inj ht;have:=acf q4;subst this;exact ⟨nd ah,by rw [ji];trivial⟩
   | name h1=>
    obtain ⟨q1,q2,q3,q4⟩:=inj ht;have:=acf q4;subst this;exact ⟨nd ah,by rw [ji];trivial⟩
   | nI k' h1 h2 h3 h4=>
    obtain ⟨q1,q2,q3,q4⟩:=inj ht;have:=acf q4;subst this;exact ⟨nd ah,by rw [ji];trivial⟩
   | len h1=>
    obtain ⟨q1,q2,q3,q4⟩:=inj ht;have:=acf q4;subst this;exact ⟨nd ah,by rw [ji];trivial⟩
   | @index _ _ j ts h1 h2 h3 h4 h5 h6 h7=>
    obtain ⟨q1,q2,q3,q4⟩:=inj ht;subst q1 q4;have e:=eN (nd aD);refine ⟨nd aD,abU _ _ _ _ (fun _=>rfl) _ _ ?_⟩;rw [lV hij hj,lV ah hj,BI ah h4] at e;have e:_::_::(_++[_])=(⟨6,x,0⟩:aC)::sg 34::(bW false (ks.map aI)++[sg 35]):=e;have e:=(List.cons.inj (List.cons.inj e).2).2;exact acd l hn ks _ _ ah ak mK (List.append_inj' e rfl).1 h7
   | @call _ _ j ts k' h1 h2 h3 h4 h5 h6 h7 h8=>
    obtain ⟨q1,q2,q3,q4⟩:=inj ht;subst q4;have e:=eN (nd ah);refine ⟨nd ah,abU _ _ _ _ (fun _=>by rw [q1];rcases h1 with rfl|rfl<;>rfl) _ _ ?_⟩;rw [lV hij hj,lV ah hj,BI ah h5] at e;have e:l[i]::l[i+1]::(seg l (i+1+1) j++[l[j]])=(⟨k,x,0⟩:aC)::sg 32::(bW false (ks.map aI)++[sg 33]):=by
     rw [e,q1];rcases h1 with rfl|rfl<;>rfl
    have e:=(List.cons.inj (List.cons.inj e).2).2;exact acd l hn ks _ _ ah ak mK (List.append_inj' e rfl).1 h8
   | field h1 h2 h3=>
    obtain ⟨q1,q2,q3,q4⟩:=inj ht;obtain ⟨u,rfl,rfl⟩:=List.map_eq_singleton_iff.1 q4;subst q1;have e:=eN (nd aD);rw [lV hij hj] at e;have e:=(List.cons.inj<|show _::_=sg 68::aI u from e).2;refine ⟨nd aD,?_⟩;rw [jA,ji];exact ⟨(abX u<|ak u aF).2 ⟨14,true,false,false,false⟩ _ (.inr ⟨rfl,rfl,rfl,rfl⟩)<|mK u aF _ _ _ _ e h3,trivial⟩
   | pre o' h1 h2 h3 h4 h5=>
    obtain ⟨q1,q2,q3,q4⟩:=inj ht;obtain ⟨u,rfl,rfl⟩:=List.map_eq_singleton_iff.1 q4;subst q1;have e:=eN (nd aD);rw [lV hij hj] at e;have e:=(List.cons.inj<|show _::_=sg o::aI u from e).2;have hp:fA u.other=false:=a.lf u rfl (.inl rfl);have e:seg l (i+1) j=fJ u:=by rw [e];unfold aI;rw [hp];rfl
    refine ⟨nd aD,?_⟩;rw [jA,ji];rw [Dv] at h3;exact ⟨agD (ak u aF) (ihN u aF _ _ _ h4 hj e h5) hp h3<|.inl rfl,trivial⟩
   | @post _ _ j t o' h1 h2 h3 h4 h5=>
    obtain ⟨q1,q2,q3,q4⟩:=inj ht;obtain ⟨u,rfl,rfl⟩:=List.map_eq_singleton_iff.1 q4;subst q1;have e:=eN (nd aD);rw [BI ah hj] at e;have e:=(List.append_inj' (show _=aI u++[sg o] from e) rfl).1;have hp:fA u.other=false:=a.lf u rfl (.inr<|.inl rfl);have e:seg l i j=fJ u:=by rw [e];unfold aI;rw [hp];rfl
    refine ⟨nd aD,?_⟩;rw [jA,ji];rw [Dv] at h3;exact ⟨agD (ak u aF) (ihN u aF _ _ _ h4 ah e h5) hp h3<|.inr<|.inl rfl,trivial⟩
   | unary o' h1 h2 h3 h4=>
    obtain ⟨q1,q2,q3,q4⟩:=inj ht;obtain ⟨u,rfl,rfl⟩:=List.map_eq_singleton_iff.1 q4;subst q1;have e:=eN (nd aD);rw [lV hij hj] at e;have e:=(List.cons.inj<|show _::_=sg o::aI u from e).2;refine ⟨nd aD,?_⟩;rw [jA,ji];exact ⟨mK u aF _ _ _ _ e h4,trivial⟩
   | @bin _ _ m f _ a' b' _ _ o' h1 h2 h3 h4 h5 h6 h7 h8=>
    have ef:=ank hn h6;subst ef;obtain ⟨q1,q2,q3,q4⟩:=inj ht;obtain ⟨u,v,rfl,rfl,rfl⟩:=agE q4;subst q1 q2;have e:=eN (nd aD);have iF:(o==99)=false:=by simpa using h2
    have e:seg l i j=aI u++sg o::aI v:=by
     rw [e];show aI u++((bif o==99 then [] else [sg o])++aI v)=_;rw [iF];rfl
    obtain ⟨e1,e2⟩:=cut aF ah h7 (by rw [h3];exact (LK h1).1) (by rw [h3];exact (LK h1).2) (LK h1).1 (LK h1).2 e;refine ⟨nd aD,?_⟩;rw [jA,jA,ji];refine ⟨mK u aF _ _ _ _ e1 h7,?_,trivial⟩;have:=mK v aF _ _ _ _ e2 h8;show ko v ⟨(jk o).2,false,p.bC,p.bE,o==99⟩;rw [iF];exact this
   | @cat _ _ m _ a' b' _ _ h1 h2 h3 h4=>
    obtain ⟨q1,q2,q3,q4⟩:=inj ht;obtain ⟨u,v,rfl,rfl,rfl⟩:=agE q4;subst q1 q2;have e:=eN (nd aD);have e:seg l i m++seg l m j=aI u++aI v:=by
     rw [<- xX (kG h1) (kG h2),e];rfl
    have w1:=(ES l hn _ i m<|cZ _).2.1 _ _ _ h3;rw [XL l hn] at w1;obtain ⟨e1,e2⟩:=axz e w1 (lmk u aF).1 ((agB l _ m j<|cZ _).2.1 _ _ _ h4) (Zw v<|ak v aF).2;refine ⟨nd aD,?_⟩;rw [jA,jA,ji];exact ⟨mK u aF _ _ _ _ e1 h3,mK v aF _ _ _ _ e2 h4,trivial⟩
   | @one _ _ m t _ h1 h2 h3 h4=>
    obtain ⟨q1,q2,q3,q4⟩:=inj ht;obtain ⟨u,rfl,rfl⟩:=List.map_eq_singleton_iff.1 q4;subst q1;have hd:fH y=false:=by
     cases hd:fH y with
     | false=>rfl
     | true=>
      have:=(a.dr hd).2;exact absurd this (by show¬2<=1;omega)
    have e:=eN hd;have e:seg l i (m+2)=aI u++sg 24::[⟨6,x,0⟩]:=e;obtain ⟨e1,_⟩:=cut aF ah h4 (by rw [h2];decide) (by rw [h2];decide) aD aD e;refine ⟨hd,?_⟩;rw [jA,ji];exact ⟨mK u aF _ _ _ _ e1 h4,trivial⟩
   | @many _ _ m ts h1 h2 h3 h4 h5 h6 h7 h8=>
    obtain ⟨q1,q2,q3,q4⟩:=inj ht;subst q1 q4;rw [mE] at h6;have es:seg l i (m+3)=l[i]::(seg l (i+1) m++[l[m]])++[l[m+1],l[m+2]]:=by
     rw [lV hij hj,BH (m:=m) ah ah hj,lV ah hj,wY ah];simp
    have lmw:=(ES l hn _ (i+1) m<|cZ _).2.2 _ ah h8;cases hd:fH y with
    | true=>
     exfalso;have e':seg l i (m+3)=bW false (ks.map aI)++[sg 24,⟨6,x,0⟩]:=by
      rw [e,uy];show (bif fH y then _ else _)=_;rw [hd];rfl
     rw [es] at e';have e':=(List.append_inj' e' rfl).1;have nh:=anm h6 lmk [];rw [pQ] at nh;exact nh _ _ _ _ e'.symm (by rw [<- lF];exact h1) lmw
    | false=>
     have h2':decide ((ks.map aI).length > 1)=true:=by rw [mE];exact fU ah
     have e':seg l i (m+3)=(sg 32::(bW false (ks.map aI)++[sg 33]))++[sg 24,⟨6,x,0⟩]:=by
      rw [eN hd];show (bif decide ((ks.map aI).length > 1) then sg 32::(bW false (ks.map aI)++[sg 33]) else (ks.map aI).getD 0 [])++[sg 24,⟨6,x,0⟩]=_;rw [h2'];rfl
     rw [es] at e';have e':=(List.append_inj' e' rfl).1;have e':=(List.append_inj' (List.cons.inj e').2 rfl).1;refine ⟨rfl,abU _ _ _ _ (fun j=>?_) _ _<|acd l hn ks _ _ ah ak mK e' h8⟩;have h2k:decide (ks.length > 1)=true:=fU ah;show (bif decide (ks.length > 1) then (⟨1,false,false,false,false⟩:aN) else _)=_;rw [h2k];rfl
   | @cond _ _ m n2 _ a' b' c' _ _ _ h1 h2 h3 h4 h5 h6 h7 h8=>
    obtain ⟨q1,q2,q3,q4⟩:=inj ht;obtain ⟨u,v,w,rfl,rfl,rfl,rfl⟩:=axH q4;subst q1;have e:=eN (nd aD);have e:seg l i j=aI u++sg 65::(aI v++sg 66::aI w):=e;obtain ⟨e1,e2⟩:=cut aF ah h6 (by rw [h2];decide) (by rw [h2];decide) aD aD e;rw [BH (m:=n2) ah ah hj] at e2;have w1:=(ES l hn _ (m+1) n2<|cZ _).2.1 _ _ _ h7;rw [XL l hn] at w1;obtain ⟨a1,a2,a3⟩:=XJ (Pj (show n2 < l.length by omega) h4 aD aD) aD _ _ _ _ e2 (by rw [w1.n,(lmk v aF).1.n]);refine ⟨nd aD,?_⟩;rw [jA,jA,jA,ji];exact ⟨mK u aF _ _ _ _ e1 h6,mK v aF _ _ _ _ a1 h7,mK w aF _ _ _ _ a3 h8,trivial⟩
   | @assign _ _ m _ a' b' _ o' h1 h2 h3 h4 h5 h6 h7=>
    obtain ⟨q1,q2,q3,q4⟩:=inj ht;obtain ⟨u,v,rfl,rfl,rfl⟩:=agE q4;subst q1 q2;have e:=eN (nd aD);have iF:(o==99)=false:=by
     have:=g.op rfl;simpa using this
    have hp:fA u.other=false:=a.lf u rfl (.inr<|.inr rfl);have e:seg l i j=fJ u++sg o::aI v:=by
     rw [e];show aI u++((bif o==99 then [] else [sg o])++aI v)=_;rw [iF];unfold aI;rw [hp];rfl
    rw [BH (m:=m) ah ah hj] at e;have w1:=(ES l hn _ i m<|cZ _).1 _ _ h3 ah h6;rw [XL l hn] at w1;obtain ⟨e1,_,e2⟩:=XJ (Pj (show m < l.length by omega) h2 (Pk h1).1 (Pk h1).2) (Pk h1) _ _ _ _ e (by rw [w1.n,(GZ u<|ak u aF).1.n]);refine ⟨nd aD,?_⟩;rw [jA,jA,ji];rw [Dv] at h5;exact ⟨agD (ak u aF) (ihN u aF _ _ _ h3 ah e1 h6) hp h5<|.inr<|.inr rfl,mK v aF _ _ _ _ e2 h7,trivial⟩
  refine ⟨hN,fun p i j h e d=>?_⟩;have lmN:=(GZ A ha).1;cases hp:fA A.other with
  | true=>
   have e:seg l i j=sg 32::(fJ A++[sg 33]):=by rw [e];unfold aI;rw [hp];rfl
   refine .inl ⟨hp,?_⟩;generalize ht:strip A=t at d;cases d with
   | @par _ _ j _ h' h1 h2 h3 h4 h5=>
    rw [lV ah ah,BI ah h3] at e;have e:=(List.append_inj' (List.cons.inj e).2 rfl).1;cases h4 with
    | @par _ _ j' _ h'' g1 g2 g3 g4 g5=>
     exfalso;rw [lV ah ah,BI ah g3] at e;exact ano A ha _ _ _ _ e.symm (by rw [<- lF];exact g1) ((ES l hn _ (i+1+1) j'<|cZ _).2.1 _ _ _ g4)
    | bare g1 g2 g3 g4=>
     subst ht;exact hN _ _ _ g2 g3 e g4
   | bare h1 h2 h3 h4=>
    exfalso;exact axC hn h2 h3 h4 _ _ _ _ e rfl lmN
  | false=>
   have e:seg l i j=fJ A:=by rw [e];unfold aI;rw [hp];rfl
   refine .inr ⟨hp,?_⟩;generalize ht:strip A=t at d;cases d with
   | @par _ _ j _ h' h1 h2 h3 h4 h5=>
    exfalso;rw [lV ah ah,BI ah h3] at e;exact ano A ha _ _ _ _ e.symm (by rw [<- lF];exact h1) ((ES l hn _ (i+1) j<|cZ _).2.1 _ _ _ h4)
   | bare h1 h2 h3 h4=>
    subst ht;rw [Dv,TL] at h1;exact ⟨h1,hN _ _ _ h2 h3 e h4⟩
end
def PrN (t:aA):Prop:=∀ (l:List aC) (p:aN) (i:Nat),posB p=true->okB t p->Sg l i (fJ t)->dH l p i (i+(fJ t).length) (strip t)
def PrA (t:aA):Prop:=∀ (l:List aC) (p:aN) (i:Nat),posB p=true->ko t p->Sg l i (aI t)->∃ h,bV l p i (i+(aI t).length) (strip t) h
def ant {t:aA} (g:GN t) (hB:PrN t):PrA t:=by
 intro l p i hp hk hs;unfold aI at hs ⊢;have top:=amW g.lv;rcases hk with ⟨hpar,hk⟩|⟨hpar,hfit,hk⟩
 .rw [hpar,qj,aH] at hs;rw [hpar,qj,aH];have h1:=hs.kd;have h2:Sg l (i+1) (fJ t++[sg 33]):=hs.tl;have d:=hB l bG (i+1) rfl hk h2.left;have hlt:=d.lt;have h3:Sg l (i+1+(fJ t).length) (sg 33::[]):=h2.right;obtain ⟨h4,_⟩:=h3.hd;have:=bV.par (p:=p) h1 ah h4 (.bare (by rw [Dv,TL];exact top) hlt ah d) h3.kd;refine ⟨true,?_⟩;have e:i+(sg 32::(fJ t++[sg 33])).length=i+1+(fJ t).length+1:=bT;rw [e];exact this
 .rw [hpar,qj,aG] at hs;rw [hpar,qj,aG];have d:=hB l p i hp hk hs;have hlt:=d.lt;exact ⟨false,.bare (by rw [Dv,TL];exact hfit) hlt (hs.pos ah) d⟩
def XM:∀ (ts:List aA) (i:Nat) (l:List aC),(∀ t,t∈ts->PrA t/\ko t bG)->ts≠[]->Sg l i (bW false<|ts.map aI)->oZ l i (i+(bW false<|ts.map aI).length) (ts.map strip)
 | [],_,_,_,h,_=>absurd rfl h
 | [t],i,l,hP,_,hs=>by
  have e:bW false ([t].map aI)=aI t:=by
   show []++(aI t++[])=_;simp
  rw [e] at hs ⊢;obtain ⟨hA,hk⟩:=hP t aF;obtain ⟨h,d⟩:=hA l bG i rfl hk hs;exact .one d.lt.1 d
 | t::u::ts,i,l,hP,_,hs=>by
  have e:bW false ((t::u::ts).map aI)=aI t++sg 36::bW false ((u::ts).map aI):=by
   show []++(aI t++([sg 36]++_))=_;simp [bW]
  rw [e] at hs ⊢;obtain ⟨hA,hk⟩:=hP t aF;obtain ⟨h,d⟩:=hA l bG i rfl hk hs.left;have h2:=hs.right;have dl:=XM (u::ts) _ l (fun v hv=>hP v<|by simp [fF.1 hv]) aF h2.tl;have hop:=agI dl;have hd:=d.lt;have hdl:=dl.lt;have e2:i+(aI t++sg 36::bW false ((u::ts).map aI)).length=i+(aI t).length+1+(bW false<|(u::ts).map aI).length:=bT;rw [e2];exact .cons hd.1 h2.kd ⟨cZ _,fun k h1 h2=>ah,(fun e=>by rw [e] at hop;cases hop),(fun e=>by rw [e] at hop;cases hop)⟩ hdl.1 d dl
def XO {k o:Int} {n:Nat} {p:aN} (hk:∀ j,dJ k o n j p=bG):∀ (ts:List aA) (j:Nat),ji k o n j p ts->∀ u,u∈ts->ko u bG
 | [],_,_,u,hu=>by cases hu
 | t::ts,j,h,u,hu=>by
  rw [jA,hk j] at h;rcases fF.1 hu with rfl|hu
  .exact h.1
  .exact XO hk ts (j+1) h.2 u hu
def agJ {u:aA} {q:aN} (ha:allT AN u) (hp:fA u.other=false) (hL:eT u.kind=true) (h:ko u q):okB u wZ:=by
 rcases h with ⟨h1,_⟩|⟨_,_,h⟩
 .rw [hp] at h1;cases h1
 .exact (abX u ha).1 _ _ (.inr<|abZ hL) h
def axK:∀ t:aA,allT AN t->PrN t:=by
 intro t;induction t using nN with
 | h t ih=>
  intro ha;have a0:=mD ha;have ak:=nO ha;have ihB:∀ u,u∈t.kids->PrN u:=fun u hu=>ih u hu (ak u hu);have mK:∀ u,u∈t.kids->PrA u:=fun u hu=>ant (mD<|ak u hu).g (ihB u hu);obtain ⟨k,o,x,y,ks⟩:=t;have g:=a0.gn;have c:=a0.c;intro l p i hp hok hs;rw [Gv] at hok;obtain ⟨hdr,hok⟩:=hok;have hdr:fH y=false:=hdr;have hok:ji k o ks.length 0 p ks:=hok;have eN:fJ ⟨k,o,x,y,ks⟩=fG k o x (ks.map aI):=by
   rw [uy];show (bif fH y then _ else _)=_;rw [hdr];rfl
  have lv:∀ u,ks[0]?=some u->k=9\/k=10\/k=15->aI u=fJ u:=fun u h1 h2=>by
   unfold aI;rw [a0.lf u h1 h2];rfl
  rw [zf];rw [eN] at hs ⊢;show dH l p i _ ⟨k,o,x,[],ks.map strip⟩;clear hdr eN;rcases kinds g.e with e|e|e|e|e|e|e|e|e|e|e|e|e|e|e<;>(have e:k=_:=e;subst e)
  case inl=>
   have hk0:ks=[]:=Cq.1 (g.a0<|.inl rfl);have ho:o=0:=c.qF rfl;subst hk0 ho;have hs:Sg l i [(⟨6,x,0⟩:aC)]:=hs;have hx:lD l i=x:=hs.tx;rw [<- hx];exact .name hs.kd
  case inr.inl=>
   have hk0:ks=[]:=Cq.1 (g.a0<|.inr<|.inl rfl);have ho:o=0:=c.qF rfl;subst hk0 ho;have hs:Sg l i [(⟨3,x,0⟩:aC)]:=hs;have hx:lD l i=x:=hs.tx;rw [<- hx];exact .leaf 3 (.inl rfl) hs.kd
  case inr.inr.inl=>
   have hk0:ks=[]:=Cq.1 (g.a0<|.inr<|.inr<|.inl rfl);have ho:o=0:=c.qF rfl;subst hk0 ho;have hs:Sg l i [(⟨4,x,0⟩:aC)]:=hs;have hx:lD l i=x:=hs.tx;rw [<- hx];exact .leaf 4 (.inr<|.inl rfl) hs.kd
  case inr.inr.inr.inl=>
   have hk0:ks=[]:=Cq.1 (g.a0<|.inr<|.inr<|.inr rfl);have ho:o=0:=c.qF rfl;subst hk0 ho;have hs:Sg l i [(⟨5,x,0⟩:aC)]:=hs;have hx:lD l i=x:=hs.tx;rw [<- hx];exact .leaf 5 (.inr<|.inr rfl) hs.kd
  case inr.inr.inr.inr.inl=>
   have ho:o=0:=c.qF rfl;subst ho;have hm:ks.length<=6:=c.many (.inl rfl);have hn:ks≠[]:=by
    have:=g.ai (.inl rfl);intro e;subst e;simp at this
   have hs:Sg l i (⟨6,x,0⟩::sg 34::(bW false (ks.map aI)++[sg 35])):=hs;have hx:lD l i=x:=hs.tx;have h2:=hs.tl;have h3:Sg l (i+1+1) (bW false (ks.map aI)++[sg 35]):=h2.tl;have dl:=XM ks _ l (fun u hu=>⟨mK u hu,XO (fun _=>rfl) ks 0 hok u hu⟩) hn h3.left;have h4:=h3.right;have e2:i+(fG 5 0 x<|ks.map aI).length=i+1+1+(bW false<|ks.map aI).length+1:=by
    show i+((⟨6,x,0⟩:aC)::sg 34::(bW false (ks.map aI)++[sg 35])).length=_;simp;omega
   rw [e2,<- hx];have:=dl.lt;exact .index hs.kd h2.kd ah h4.hd.1 h4.kd (by rw [mE];exact hm) dl
  case inr.inr.inr.inr.inr.inl=>
   have ho:o=0:=c.qF rfl;have hx:x=[]:=c.Jo (.inl rfl);subst ho hx;obtain ⟨u,e1⟩:=vM (g.a1<|.inl rfl);have e1:ks=[u]:=e1;subst e1;rw [jA] at hok;have hs:Sg l i (sg 68::aI u):=hs;obtain ⟨h,d⟩:=mK u aF l ⟨14,true,false,false,false⟩ (i+1) rfl ((abX u<|ak u aF).2 (dJ 6 0 1 0 p) _ (.inr ⟨rfl,rfl,rfl,rfl⟩) hok.1) hs.tl;have:=d.lt;have e2:i+(fG 6 0 []<|[u].map aI).length=i+1+(aI u).length:=by
    show i+(sg 68::aI u).length=_;simp;omega
   rw [e2];exact .field hs.kd ah d
  case inr.inr.inr.inr.inr.inr.inl=>
   have ho:o=0:=c.qF rfl;subst ho;have hm:ks.length<=6:=c.many (.inr<|.inl rfl);have hs:Sg l i (⟨7,x,0⟩::sg 32::(bW false (ks.map aI)++[sg 33])):=hs;have hx:lD l i=x:=hs.tx;have h2:=hs.tl;have h3:Sg l (i+1+1) (bW false (ks.map aI)++[sg 33]):=h2.tl;by_cases hn:ks=[]
   .subst hn;have h3:Sg l (i+1+1) ([]++[sg 33]):=h3;rw [<- hx];exact .nI 7 (.inl rfl) hs.kd h2.kd (Sg.kd h3)
   .have dl:=XM ks _ l (fun u hu=>⟨mK u hu,XO (fun _=>rfl) ks 0 hok u hu⟩) hn h3.left;have h4:=h3.right;have e2:i+(fG 7 0 x<|ks.map aI).length=i+1+1+(bW false<|ks.map aI).length+1:=by
     show i+((⟨7,x,0⟩:aC)::sg 32::(bW false (ks.map aI)++[sg 33])).length=_;simp;omega
    rw [e2,<- hx];have:=dl.lt;exact .call 7 (.inl rfl) hs.kd h2.kd ah h4.hd.1 h4.kd (by rw [mE];exact hm) dl
  case inr.inr.inr.inr.inr.inr.inr.inl=>
   have ho:o=0:=c.qF rfl;subst ho;have hm:ks.length<=6:=c.many (.inr<|.inr<|.inl rfl);have hs:Sg l i (⟨8,x,0⟩::sg 32::(bW false (ks.map aI)++[sg 33])):=hs;have hx:lD l i=x:=hs.tx;have h2:=hs.tl;have h3:Sg l (i+1+1) (bW false (ks.map aI)++[sg 33]):=h2.tl;by_cases hn:ks=[]
   .subst hn;have h3:Sg l (i+1+1) ([]++[sg 33]):=h3;rw [<- hx];exact .nI 8 (.inr rfl) hs.kd h2.kd (Sg.kd h3)
   .have dl:=XM ks _ l (fun u hu=>⟨mK u hu,XO (fun _=>rfl) ks 0 hok u hu⟩) hn h3.left;have h4:=h3.right;have e2:i+(fG 8 0 x<|ks.map aI).length=i+1+1+(bW false<|ks.map aI).length+1:=by
     show i+((⟨8,x,0⟩:aC)::sg 32::(bW false (ks.map aI)++[sg 33])).length=_;simp;omega
    rw [e2,<- hx];have:=dl.lt;exact .call 8 (.inr rfl) hs.kd h2.kd ah h4.hd.1 h4.kd (by rw [mE];exact hm) dl
  case inr.inr.inr.inr.inr.inr.inr.inr.inl=>
   have hx:x=[]:=c.Jo (.inr<|.inl rfl);subst hx;obtain ⟨u,e1⟩:=vM (g.a1<|.inr<|.inl rfl);have e1:ks=[u]:=e1;subst e1;have hL:eT u.kind=true:=g.kl u rfl (.inl rfl);have hu:=lv u rfl (.inl rfl);rw [jA] at hok;have hs:Sg l i (sg o::aI u):=hs;rw [hu] at hs;have d:=ihB u aF l wZ (i+1) rfl (agJ (ak u aF) (a0.lf u rfl<|.inl rfl) hL hok.1) hs.tl;have:=d.lt;have e2:i+(fG 9 o []<|[u].map aI).length=i+1+(fJ u).length:=by
    show i+(sg o::aI u).length=_;rw [hu];simp;omega
   rw [e2];exact .pre o (c.k9<|.inl rfl) hs.kd (by rw [Dv];exact hL) ah d
  case inr.inr.inr.inr.inr.inr.inr.inr.inr.inl=>
   have hx:x=[]:=c.Jo (.inr<|.inr<|.inl rfl);subst hx;obtain ⟨u,e1⟩:=vM (g.a1<|.inr<|.inr<|.inl rfl);have e1:ks=[u]:=e1;subst e1;have hL:eT u.kind=true:=g.kl u rfl (.inr<|.inl rfl);have hu:=lv u rfl (.inr<|.inl rfl);rw [jA] at hok;have hs:Sg l i (aI u++[sg o]):=hs;rw [hu] at hs;have d:=ihB u aF l wZ i rfl (agJ (ak u aF) (a0.lf u rfl<|.inr<|.inl rfl) hL hok.1) hs.left;have:=d.lt;have e2:i+(fG 10 o []<|[u].map aI).length=i+(fJ u).length+1:=by
    show i+(aI u++[sg o]).length=_;rw [hu];simp;omega
   rw [e2];exact .post o (c.k9<|.inr rfl) hs.right.kd (by rw [Dv];exact hL) ah d
  case inr.inr.inr.inr.inr.inr.inr.inr.inr.inr.inl=>
   have hx:x=[]:=c.Jo (.inr<|.inr<|.inr<|.inl rfl);subst hx;obtain ⟨u,e1⟩:=vM (g.a1<|.inr<|.inr<|.inr rfl);have e1:ks=[u]:=e1;subst e1;rw [jA] at hok;have hs:Sg l i (sg o::aI u):=hs;obtain ⟨h,d⟩:=mK u aF l ⟨11,false,p.bC,p.bE,false⟩ (i+1) rfl hok.1 hs.tl;have:=d.lt;have e2:i+(fG 11 o []<|[u].map aI).length=i+1+(aI u).length:=by
    show i+(sg o::aI u).length=_;simp;omega
   rw [e2];exact .unary o (c.k11 rfl) hs.kd ah d
  case inr.inr.inr.inr.inr.inr.inr.inr.inr.inr.inr.inl=>
   have hx:x=[]:=c.Jo (.inr<|.inr<|.inr<|.inr<|.inl rfl);subst hx;obtain ⟨a,b,e1⟩:=Ab (g.a2<|.inl rfl);have e1:ks=[a,b]:=e1;subst e1;have hlv:bg o≠0:=g.lv;have hpa:posB (dJ 12 o 2 0 p)=true:=Ac rfl;have hpb:posB (dJ 12 o 2 1 p)=true:=Ac rfl;rw [jA,jA] at hok;have hs:Sg l i (aI a++((bif o==99 then [] else [sg o])++aI b)):=hs;have el:(fG 12 o []<|[a,b].map aI).length=(aI a).length+(bif o==99 then 0 else 1)+(aI b).length:=by
    show (aI a++((bif o==99 then [] else [sg o])++aI b)).length=_;cases (o==99)<;>simp<;>omega
   rw [el];by_cases iF:o=99
   .subst iF;have hs:Sg l i (aI a++aI b):=hs;obtain ⟨h1,da⟩:=mK a aF l _ i hpa hok.1 hs.left;obtain ⟨h2,db⟩:=mK b aF l _ _ hpb hok.2.1 hs.right;have ha:=da.lt;have hb:=db.lt;have e2:i+((aI a).length+(bif (99:Int)==99 then 0 else 1)+(aI b).length)=i+(aI a).length+(aI b).length:=by
     show i+((aI a).length+0+(aI b).length)=_;omega
    rw [e2];exact .cat ha.1 hb.1 da db
   .have anu:(o==99)=false:=by simpa using iF
    rw [anu] at hs ⊢;have hs:Sg l i (aI a++sg o::aI b):=hs;obtain ⟨h1,da⟩:=mK a aF l _ i hpa hok.1 hs.left;have hr:=hs.right;obtain ⟨h2,db⟩:=mK b aF l _ _ hpb hok.2.1 hr.tl;have ha:=da.lt;have hb:=db.lt;have hop:=db.first.o
    have e2:i+((aI a).length+(bif false then 0 else 1)+(aI b).length)=i+(aI a).length+1+(aI b).length:=by
     show i+((aI a).length+1+(aI b).length)=_;omega
    rw [e2];have hpos:dJ 12 o 2 1 p=⟨(jk o).2,false,p.bC,p.bE,false⟩:=by
     show (⟨(jk o).2,false,p.bC,p.bE,o==99⟩:aN)=_;rw [anu]
    rw [hpos] at db;refine .bin o hlv iF hr.kd ha.1 hb.1 ?_ da db;by_cases LP:bg o=3\/bg o=4
    .exact .inl ⟨LP,cZ _,fun k h1 h2=>ah,(fun e=>by rw [e] at hop;cases hop),(fun e=>by rw [e] at hop;cases hop)⟩
    .exact .inr ⟨LP,rfl⟩
  case inr.inr.inr.inr.inr.inr.inr.inr.inr.inr.inr.inr.inl=>
   have ho:o=0:=c.qF rfl;subst ho;have hm:ks.length<=6:=c.many (.inr<|.inr<|.inr rfl);have h1:1<=ks.length:=g.ai (.inr rfl);by_cases hn:ks.length=1
   .obtain ⟨u,e1⟩:=vM (t:=⟨13,0,x,[],ks⟩) hn;have e1:ks=[u]:=e1;subst e1;rw [jA] at hok;have hs:Sg l i (aI u++[sg 24,⟨6,x,0⟩]):=hs;obtain ⟨h,d⟩:=mK u aF l ⟨5,false,p.bC,p.bE,p.iZ⟩ i rfl hok.1 hs.left;have hd:=d.lt;have hr:=hs.right;have hr2:=hr.tl;have e2:i+(fG 13 0 x<|[u].map aI).length=i+(aI u).length+2:=by
     show i+(aI u++[sg 24,⟨6,x,0⟩]).length=_;simp;omega
    have hx:lD l (i+(aI u).length+1)=x:=hr2.tx;rw [e2];have:=dH.one (p:=p) hd.1 hr.kd hr2.kd d;rw [hx] at this;exact this
   .have h2:decide ((ks.map aI).length > 1)=true:=by rw [mE];exact fU ah
    have h2k:decide (ks.length > 1)=true:=fU ah;have et:fG 13 0 x (ks.map aI)=sg 32::(bW false (ks.map aI)++sg 33::[sg 24,⟨6,x,0⟩]):=by
     show (bif decide ((ks.map aI).length > 1) then sg 32::(bW false (ks.map aI)++[sg 33]) else (ks.map aI).getD 0 [])++[sg 24,⟨6,x,0⟩]=_;rw [h2,aH];simp
    rw [et] at hs ⊢;have hkp:∀ j,dJ 13 0 ks.length j p=bG:=fun j=>by
     show (bif decide (ks.length > 1) then (⟨1,false,false,false,false⟩:aN) else _)=_;rw [h2k];rfl
    have hnn:ks≠[]:=by intro e;subst e;simp at h1
    have h3:Sg l (i+1) (bW false (ks.map aI)++sg 33::[sg 24,⟨6,x,0⟩]):=hs.tl;have dl:=XM ks _ l (fun u hu=>⟨mK u hu,XO hkp ks 0 hok u hu⟩) hnn h3.left;have hd:=dl.lt;have h4:=h3.right;have h5:=h4.tl;have h6:=h5.tl;have e2:i+(sg 32::(bW false (ks.map aI)++sg 33::[sg 24,⟨6,x,0⟩])).length=i+1+(bW false<|ks.map aI).length+3:=bT;have hx:lD l (i+1+(bW false<|ks.map aI).length+2)=x:=h6.tx;rw [e2];have:=dH.many (p:=p) hs.kd hd.1 h4.kd h5.kd h6.kd (by rw [mE];omega) (by rw [mE];exact hm) dl;rw [hx] at this;exact this
  case inr.inr.inr.inr.inr.inr.inr.inr.inr.inr.inr.inr.inr.inl=>
   have ho:o=0:=c.qF rfl;have hx:x=[]:=c.Jo (.inr<|.inr<|.inr<|.inr<|.inr<|.inl rfl);subst ho hx;obtain ⟨a,b,cc,e1⟩:=Pm (g.a3 rfl);have e1:ks=[a,b,cc]:=e1;subst e1;rw [jA,jA,jA] at hok;have hs:Sg l i (aI a++sg 65::(aI b++sg 66::aI cc)):=hs;obtain ⟨h1,da⟩:=mK a aF l _ i rfl hok.1 hs.left;have hr:=hs.right;obtain ⟨h2,db⟩:=mK b aF l _ _ rfl hok.2.1 hr.tl.left;have hr2:=hr.tl.right;obtain ⟨h3,dc⟩:=mK cc aF l _ _ rfl hok.2.2.1 hr2.tl;have ha:=da.lt;have hb:=db.lt;have hcc:=dc.lt;have e2:i+(fG 14 0 []<|[a,b,cc].map aI).length=i+(aI a).length+1+(aI b).length+1+(aI cc).length:=by
    show i+(aI a++sg 65::(aI b++sg 66::aI cc)).length=_;simp;omega
   rw [e2];exact .cond ha.1 hr.kd hb.1 hr2.kd hcc.1 da db dc
  case inr.inr.inr.inr.inr.inr.inr.inr.inr.inr.inr.inr.inr.inr=>
   have hx:x=[]:=c.Jo (.inr<|.inr<|.inr<|.inr<|.inr<|.inr rfl);subst hx;obtain ⟨a,b,e1⟩:=Ab (g.a2<|.inr rfl);have e1:ks=[a,b]:=e1;subst e1;have hL:eT a.kind=true:=g.kl a rfl (.inr<|.inr rfl);have iF:(o==99)=false:=by
    have:=g.op rfl;simpa using this
   have hu:=lv a rfl (.inr<|.inr rfl);rw [jA,jA] at hok;have et:fG 15 o [] ([a,b].map aI)=fJ a++sg o::aI b:=by
    show aI a++((bif o==99 then [] else [sg o])++aI b)=_;rw [iF,hu];rfl
   rw [et] at hs ⊢;have da:=ihB a aF l wZ i rfl (agJ (ak a aF) (a0.lf a rfl<|.inr<|.inr rfl) hL hok.1) hs.left;have hr:=hs.right;obtain ⟨h2,db⟩:=mK b aF l _ _ rfl hok.2.1 hr.tl;have ha:=da.lt;have hb:=db.lt;have e2:i+(fJ a++sg o::aI b).length=i+(fJ a).length+1+(aI b).length:=bT;rw [e2];exact .assign o (c.k15 rfl) hr.kd ha hb.1 (by rw [Dv];exact hL) da db
mutual
def pz:aA->List aA
 | ⟨k,o,x,y,ks⟩=>(bif fA y then [⟨k,o,x,mJ false<|fH y,ks⟩] else [])++((bif k==13&&(decide (ks.length > 1)&&!fH y) then [⟨k,o,x,mJ (fA y) true,ks⟩] else [])++(vO ks).map fun us=>⟨k,o,x,y,us⟩)
def vO:List aA->List (List aA)
 | []=>[]
 | t::ts=>(pz t).map (fun u=>u::ts)++(vO ts).map fun us=>t::us
end
mutual
def Gw:aA->aN->Prop
 | ⟨k,o,_,y,ks⟩,p=>fH y=false/\xY k o ks.length 0 p ks
def xY (k o:Int) (n j:Nat) (p:aN):List aA->Prop
 | []=>True
 | t::ts=>((dD t.kind t.op (dJ k o n j p)=true/\Gw t (dJ k o n j p))\/(dD t.kind t.op (dJ k o n j p)=false/\fA t.other=true/\Gw t bG))/\xY k o n (j+1) p ts
end
def BJ (t:aA) (p:aN):Prop:=(dD t.kind t.op p=true/\Gw t p)\/(dD t.kind t.op p=false/\fA t.other=true/\Gw t bG)
def Pn (k o:Int) (n j:Nat) (p:aN) (t:aA) (ts:List aA):xY k o n j p (t::ts)=(BJ t (dJ k o n j p)/\xY k o n (j+1) p ts):=by rw [xY];rfl
def Po (t:aA) (p:aN):Gw t p=(fH t.other=false/\xY t.kind t.op t.kids.length 0 p t.kids):=by
 obtain ⟨k,o,x,y,ks⟩:=t;rw [Gw]
def Wq (p q:aN):Prop:=q=bG\/Wk p q
def Wq.fl {p q:aN} (h:Wq p q):(q.bC=true->p.bC=true)/\(q.bE=true->p.bE=true)/\(q.iZ=true->p.iZ=true):=by
 rcases h with rfl|h
 .exact ⟨(fun h=>by cases h),(fun h=>by cases h),(fun h=>by cases h)⟩
 .exact ⟨h.2.2.1,h.2.2.2.1,h.2.2.2.2⟩
def axL {p q:aN} (h:Wq p q) (k o:Int) (n j:Nat):Wq (dJ k o n j p) (dJ k o n j q):=by
 obtain ⟨h1,h2,h3⟩:=h.fl;have no:false=true->false=true:=fun h=>h;refine .inr ?_;unfold dJ;cases (k==15)<;>cases (k==14)<;>cases (k==13)<;>cases (k==12)<;>cases (k==11)<;>cases (k==9||k==10)<;>cases (k==6)<;>cases decide (j > 0)<;>cases decide (n > 1)<;>first
  | exact ⟨rfl,rfl,h1,h2,h3⟩
  | exact ⟨rfl,rfl,h1,h2,fun h=>h⟩
  | exact ⟨rfl,rfl,no,no,no⟩
def XP:∀ t:aA,allT AN t->∀ p q,Wq p q->(Gw t p->okB t q)/\(BJ t p->ko t q):=by
 intro t;induction t using nN with
 | h t ih=>
  intro ha;have g:=(mD ha).g;have ak:=nO ha;have hB:∀ p q,Wq p q->Gw t p->okB t q:=fun p q w h=>by
   rw [Po] at h;rw [Gv];refine ⟨h.1,?_⟩;have key:∀ (ts:List aA) (j:Nat),(∀ u,u∈ts->u∈t.kids)->xY t.kind t.op t.kids.length j p ts->ji t.kind t.op t.kids.length j q ts:=by
    intro ts;induction ts with
    | nil=>intro j _ _;rw [ji];trivial
    | cons u ts ih2=>
     intro j hm h;rw [Pn] at h;rw [jA];have hu:=hm u aF;exact ⟨(ih u hu (ak u hu) _ _<|axL w t.kind t.op t.kids.length j).2 h.1,ih2 (j+1) (fun v hv=>hm v<|by simp [hv]) h.2⟩
   exact key t.kids 0 (fun u hu=>hu) h.2
  intro p q w;refine ⟨hB p q w,fun h=>?_⟩;rcases h with ⟨h1,h2⟩|⟨h1,h2,h3⟩
  .cases hp:fA t.other with
   | true=>exact .inl ⟨hp,hB p bG (.inl rfl) h2⟩
   | false=>
    refine .inr ⟨hp,?_,hB p q w h2⟩;rcases w with rfl|w
    .exact amW g.lv
    .exact anh h1 w
  .exact .inl ⟨h2,hB bG bG (.inl rfl) h3⟩
def Wq.self (p:aN):Wq p p:=.inr ⟨rfl,rfl,(fun h=>h),(fun h=>h),fun h=>h⟩
def anv {α:Type} {P:α->Prop} {a b pre post:List α} {u:α} (h:a++b=pre++u::post) (ha:∀ v,v∈a-> ¬P v) (hu:P u):∃ pre',pre=a++pre'/\b=pre'++u::post:=by
 rcases List.append_eq_append_iff.1 h with ⟨c,e1,e2⟩|⟨c,e1,e2⟩
 .exact ⟨c,e1,e2⟩
 .cases c with
  | nil=>
   rw [pQ] at e1;exact ⟨[],by rw [pQ];exact e1.symm,e2.symm⟩
  | cons w c=>
   obtain ⟨e3,_⟩:=List.cons.inj e2;exact absurd hu (ha u<|by rw [e1,e3];simp)
def axM {α:Type} {a b pre post:List α} {u:α} (h:a++b=pre++u::post):(∃ post',a=pre++u::post')\/∃ pre',pre=a++pre'/\b=pre'++u::post:=by
 rcases List.append_eq_append_iff.1 h with ⟨c,e1,e2⟩|⟨c,e1,e2⟩
 .exact .inr ⟨c,e1,e2⟩
 .cases c with
  | nil=>
   rw [pQ] at e1;exact .inr ⟨[],by rw [pQ];exact e1.symm,e2.symm⟩
  | cons w c=>
   obtain ⟨e3,_⟩:=List.cons.inj e2;exact .inl ⟨c,by rw [e1,e3]⟩
def agK {α β:Type} {f:α->β} {l:List α} {pre post:List β} {u:β} (h:l.map f=pre++u::post):∃ p1 v p2,l=p1++v::p2/\pre=p1.map f/\u=f v:=by
 obtain ⟨l1,l2,e1,e2,e3⟩:=List.map_eq_append_iff.1 h;obtain ⟨v,l3,e4,e5,_⟩:=List.map_eq_cons_iff.1 e3;exact ⟨l1,v,l3,by rw [e1,e4],e2.symm,e5.symm⟩
def Pp:∀ (ts us:List aA),us∈vO ts->us.length=ts.length
 | [],us,h=>by rw [vO] at h;cases h
 | t::ts,us,h=>by
  rw [vO] at h;rcases jo.1 h with h|h
  .obtain ⟨u,_,rfl⟩:=jW.1 h;rfl
  .obtain ⟨vs,hv,rfl⟩:=jW.1 h;rw [fT,Pp ts vs hv,fT]
def agL {k o:Int} {n:Nat} {p:aN}:∀ (ts:List aA) (j:Nat),(∀ u,u∈ts->allT AN u)->xY k o n j p ts->ji k o n j p ts
 | [],_,_,_=>by rw [ji];trivial
 | t::ts,j,ha,h=>by
  rw [Pn] at h;rw [jA];exact ⟨(XP t (ha t aF) _ _<|.self _).2 h.1,agL ts (j+1) (fun u hu=>ha u<|by simp [hu]) h.2⟩
def anw (t:aA):Prop:=∀ p,BJ t p->∀ pre u post,pz t=pre++u::post->(∀ v,v∈pre-> ¬ko v p)->ko u p->BJ u p
def anx {k o:Int} {n:Nat} {p:aN}:∀ (ts:List aA) (j:Nat),(∀ u,u∈ts->allT AN u/\anw u)->xY k o n j p ts->∀ pre us post,vO ts=pre++us::post->(∀ vs,vs∈pre-> ¬ji k o n j p vs)->ji k o n j p us->xY k o n j p us
 | [],_,_,_,pre,us,post,e,_,_=>by
  rw [vO] at e;cases pre<;>cases e
 | t::ts,j,ha,h,pre,us,post,e,hn,ho=>by
  rw [vO] at e;rw [Pn] at h;have ots:ji k o n (j+1) p ts:=agL ts (j+1) (fun u hu=>(ha u<|by simp [hu]).1) h.2;rcases axM e with ⟨post',e1⟩|⟨pre',e1,e2⟩
  .obtain ⟨p1,v,p2,e3,e4,e5⟩:=agK e1;subst e5;rw [jA] at ho;rw [Pn];refine ⟨(ha t aF).2 _ h.1 p1 v p2 e3 (fun w hw hk=>?_) ho.1,h.2⟩;refine hn (w::ts) (by rw [e4];exact jW.2 ⟨w,hw,rfl⟩) ?_;rw [jA];exact ⟨hk,ots⟩
  .obtain ⟨p1,vs,p2,e3,e4,e5⟩:=agK e2;subst e5;rw [jA] at ho;rw [Pn];refine ⟨h.1,anx ts (j+1) (fun u hu=>ha u<|by simp [hu]) h.2 p1 vs p2 e3 (fun ws hw hk=>?_) ho.2⟩;refine hn (t::ws) (by rw [e1,e4];exact List.mem_append_right _<|jW.2 ⟨ws,hw,rfl⟩) ?_;rw [jA];exact ⟨ho.1,hk⟩
def anz {k o:Int} {x y:List UInt8} {ks:List aA} {p:aN} (h:BJ ⟨k,o,x,y,ks⟩ p):∃ q,fH y=false/\xY k o ks.length 0 q ks/\(q=bif dD k o p then p else bG)/\(¬(fA y=true/\dD k o p=true)->∀ us:List aA,(ko ⟨k,o,x,y,us⟩ p↔ji k o us.length 0 q us))/\∀ us:List aA,xY k o us.length 0 q us->BJ ⟨k,o,x,y,us⟩ p:=by
 rcases h with ⟨h1,h2⟩|⟨h1,h2,h3⟩
 .have h1:dD k o p=true:=h1;rw [Po] at h2;obtain ⟨h2,h3⟩:=h2;have h2:fH y=false:=h2;refine ⟨p,h2,h3,(by rw [h1];rfl),fun hn us=>?_,fun us hu=>.inl ⟨h1,by rw [Po];exact ⟨h2,hu⟩⟩⟩;have hp:fA y=false:=by
   cases hp:fA y with
   | false=>rfl
   | true=>exact absurd ⟨hp,h1⟩ hn
  constructor
  .rintro (⟨g1,_⟩|⟨_,_,g⟩)
   .have g1:fA y=true:=g1;rw [hp] at g1;cases g1
   .rw [Gv] at g;exact g.2
  .intro g;exact .inr ⟨hp,h1,by rw [Gv];exact ⟨h2,g⟩⟩
 .have h1:dD k o p=false:=h1;have h2:fA y=true:=h2;rw [Po] at h3;obtain ⟨h3,h4⟩:=h3;have h3:fH y=false:=h3;refine ⟨bG,h3,h4,(by rw [h1];rfl),fun _ us=>?_,fun us hu=>.inr ⟨h1,h2,by rw [Po];exact ⟨h3,hu⟩⟩⟩;constructor
  .rintro (⟨_,g⟩|⟨g1,_,_⟩)
   .rw [Gv] at g;exact g.2
   .have g1:fA y=false:=g1;rw [h2] at g1;cases g1
  .intro g;exact .inl ⟨h2,by rw [Gv];exact ⟨h3,g⟩⟩
def axN {k o:Int} {x:List UInt8} {a:Bool} {ks:List aA} {p:aN}: ¬ko ⟨k,o,x,mJ a true,ks⟩ p:=by
 have hd:fH (mJ a true)=true:=Gu a true;rintro (⟨_,g⟩|⟨_,_,g⟩)<;>
 .rw [Gv] at g;have g:=g.1;rw [show fH (⟨k,o,x,mJ a true,ks⟩:aA).other=fH (mJ a true) from rfl,hd] at g;cases g
def axO {k o:Int} {x:List UInt8} {d:Bool} {ks:List aA} {p:aN} (h:dD k o p=false): ¬ko ⟨k,o,x,mJ false d,ks⟩ p:=by
 rintro (⟨g,_⟩|⟨_,g,_⟩)
 .have g:fA (mJ false d)=true:=g;rw [BG] at g;cases g
 .have g:dD k o p=true:=g;rw [h] at g;cases g
def anA {k o:Int} {x y:List UInt8} {ks:List aA} {p:aN} (h1:dD k o p=true) (h:BJ ⟨k,o,x,y,ks⟩ p):BJ ⟨k,o,x,mJ false<|fH y,ks⟩ p:=by
 rcases h with ⟨_,h2⟩|⟨h2,_⟩
 .refine .inl ⟨h1,?_⟩;rw [Po] at h2 ⊢;refine ⟨?_,h2.2⟩;show fH (mJ false<|fH y)=false;rw [Gu];exact h2.1
 .have h2:dD k o p=false:=h2;rw [h1] at h2;cases h2
def agN {k o:Int} {x y:List UInt8} {ks:List aA} (h:allT AN ⟨k,o,x,y,ks⟩):allT AN ⟨k,o,x,mJ false<|fH y,ks⟩:=by
 rw [allT] at h ⊢;obtain ⟨⟨g,c,lf,dr,fp⟩,h2⟩:=h;refine ⟨⟨⟨g.e,g.lv,g.a0,g.a1,g.a2,g.a3,g.ai,g.le,g.ke,g.kl,g.op⟩,c,lf,fun h=>dr ?_,fun h=>?_⟩,h2⟩
 .have h:fH (mJ false<|fH y)=true:=h;rw [Gu] at h;exact h
 .have h:fA (mJ false<|fH y)=true:=h;rw [BG] at h;cases h
def axP:∀ t:aA,allT AN t->anw t:=by
 intro t;induction t using nN with
 | h t ih=>
  intro ha p h pre u post e hn ho;have ak:=nO ha;obtain ⟨k,o,x,y,ks⟩:=t;obtain ⟨q,hd,hk,hq,okq,geq⟩:=anz h;rw [pz] at e;have rest:∀ pre,(∀ v,v∈pre-> ¬ko v p)-> ¬(fA y=true/\dD k o p=true)->((bif k==13&&(decide (ks.length > 1)&&!fH y) then [(⟨k,o,x,mJ (fA y) true,ks⟩:aA)] else [])++(vO ks).map fun us=>(⟨k,o,x,y,us⟩:aA))=pre++u::post->BJ u p:=fun pre hn hne e=>by
   obtain ⟨pre',e1,e2⟩:=anv (P:=fun v=>ko v p) e (fun v hv=>by
    cases hc:(k==13&&(decide (ks.length > 1)&&!fH y)) with
    | false=>rw [hc] at hv;cases hv
    | true=>
     rw [hc] at hv;rw [nG.1 hv];exact axN) ho
   obtain ⟨p1,us,p2,e3,e4,e5⟩:=agK e2;subst e5;have hl:us.length=ks.length:=Pp ks us (by rw [e3];simp);refine geq us ?_;rw [hl];refine anx ks 0 (fun v hv=>⟨ak v hv,ih v hv<|ak v hv⟩) hk p1 us p2 e3 (fun vs hv hok=>?_) (by rw [<- hl];exact (okq hne us).1 ho);have hl2:vs.length=ks.length:=Pp ks vs (by rw [e3];simp [hv]);refine hn ⟨k,o,x,y,vs⟩ (by rw [e1,e4];exact List.mem_append_right _<|jW.2 ⟨vs,hv,rfl⟩) ((okq hne vs).2 ?_);rw [hl2];exact hok
  cases hp:fA y with
  | false=>
   rw [hp,aG,uS] at e;exact rest pre hn (fun h=>by rw [hp] at h;cases h.1) (by rw [hp];exact e)
  | true=>
   rw [hp,aH] at e;cases hf:dD k o p with
   | true=>
    have g0:=anA hf h;have o0:=(XP _ (agN ha) p p<|.self p).2 g0;cases pre with
    | nil=>
     obtain ⟨e0,_⟩:=List.cons.inj e;rw [<- e0];exact g0
    | cons v pre=>
     obtain ⟨e0,_⟩:=List.cons.inj e;exact absurd o0 (hn _<|by rw [e0];simp)
   | false=>
    obtain ⟨pre',e1,e2⟩:=anv (P:=fun v=>ko v p) e (fun v hv=>by rw [nG.1 hv];exact axO hf) ho;exact rest pre' (fun v hv=>hn v<|by rw [e1];exact List.mem_append_right _ hv) (fun h=>by rw [hf] at h;cases h.2) (by rw [hp];exact e2)
def agO {α:Type} {P:α->Prop} {a b:List α} (h:∀ v,v∈a++b-> ¬P v):(∀ v,v∈a-> ¬P v)/\∀ v,v∈b-> ¬P v:=
 ⟨fun v hv=>h v<|List.mem_append_left _ hv,fun v hv=>h v<|List.mem_append_right _ hv⟩
def agP {k:Int} {j:Nat} (h:tgt k j=true):j=0/\(k=9\/k=10\/k=15):=by
 unfold tgt at h;simp only [dL,lH,mR] at h;exact ⟨ah,h.2⟩
def anC {k o:Int} {n:Nat} {p:aN}:∀ (ts:List aA) (j:Nat),(∀ u,u∈ts->allT AN u/\∀ q,BJ u q->(∀ v,v∈pz u-> ¬ko v q)->aI u=gq false (strip u) q)->(∀ u,j=0->ts[0]?=some u->k=9\/k=10\/k=15->fA u.other=false)->xY k o n j p ts->(∀ us,us∈vO ts-> ¬ji k o n j p us)->ts.map aI=dI false k o n j p (ts.map strip)
 | [],_,_,_,_,_=>by
  show []=dI false k o n _ p [];rw [dI]
 | t::ts,j,ha,hl,h,hn=>by
  rw [Pn] at h;rw [vO] at hn;obtain ⟨h1,h2⟩:=agO (P:=fun us=>ji k o n j p us) hn;have ots:ji k o n (j+1) p ts:=agL ts (j+1) (fun u hu=>(ha u<|by simp [hu]).1) h.2;have ot:ko t (dJ k o n j p):=(XP t (ha t aF).1 _ _<|.self _).2 h.1;have e1:=(ha t aF).2 _ h.1 fun v hv hk=>h1 (v::ts) (jW.2 ⟨v,hv,rfl⟩) (by rw [jA];exact ⟨hk,ots⟩);have e2:=anC ts (j+1) (fun u hu=>ha u<|by simp [hu]) (fun u h=>ah) h.2 fun us hu hk=>h2 (t::us) (jW.2 ⟨us,hu,rfl⟩) (by rw [jA];exact ⟨ot,hk⟩);show aI t::ts.map aI=dI false k o n j p (strip t::ts.map strip);rw [rD,e1,e2];congr 1;unfold jM;cases ht:tgt k j with
  | false=>rfl
  | true=>
   obtain ⟨q1,q2⟩:=agP ht;have hp:=hl t q1 rfl q2;have hf:dD t.kind t.op (dJ k o n j p)=true:=by
    rcases h.1 with g|⟨_,g,_⟩
    .exact g.1
    .rw [hp] at g;cases g
   unfold gq BK;rw [Dv,TL,hf];rfl
def axQ:∀ t:aA,allT AN t->∀ p,BJ t p->(∀ v,v∈pz t-> ¬ko v p)->aI t=gq false (strip t) p:=by
 intro t;induction t using nN with
 | h t ih=>
  intro ha p h hn;have ak:=nO ha;have a:=mD ha;obtain ⟨k,o,x,y,ks⟩:=t;obtain ⟨q,hd,hk,hq,okq,geq⟩:=anz h;rw [pz] at hn;obtain ⟨h1,h2⟩:=agO (P:=fun u=>ko u p) hn;obtain ⟨_,h3⟩:=agO (P:=fun u=>ko u p) h2;have hne: ¬(fA y=true/\dD k o p=true):=fun ⟨g1,g2⟩=>by
   rw [g1] at h1;exact h1 _ (nG.2 rfl) ((XP _ (agN ha) p p<|.self p).2<|anA g2 h)
  have hks:ks.map aI=dI false k o ks.length 0 q (ks.map strip):=anC ks 0 (fun u hu=>⟨ak u hu,ih u hu<|ak u hu⟩) (fun u _ h1 h2=>a.lf u h1 h2) hk fun us hu hok=>by
   have hl:=Pp ks us hu;exact h3 ⟨k,o,x,y,us⟩ (jW.2 ⟨us,hu,rfl⟩) ((okq hne us).2<|by rw [hl];exact hok)
  have eN:fJ ⟨k,o,x,y,ks⟩=lU false (strip ⟨k,o,x,y,ks⟩) q:=by
   rw [uy,zf,Jq];show (bif fH y then _ else fG k o x (ks.map aI))=fG k o x (dI false k o (ks.map strip).length 0 q<|ks.map strip);rw [hd,hks,mE];rfl
  unfold aI gq BK;rw [Dv,TL,eN,hq];show qj (fA y) _ _=qj (!dD k o p) _ _;cases hf:dD k o p with
  | true=>
   have hp:fA y=false:=by
    cases hp:fA y with
    | false=>rfl
    | true=>exact absurd ⟨hp,hf⟩ hne
   rw [hp];rfl
  | false=>
   have hp:fA y=true:=by
    rcases h with ⟨g,_⟩|⟨_,g,_⟩
    .have g:dD k o p=true:=g;rw [hf] at g;cases g
    .exact g
   rw [hp];rfl
structure XQ (t v:aA):Prop where
 a:allT AN v
 s:strip v=strip t
 k:v.kind=t.kind
 p:fA t.other=false->fA v.other=false
def Lk:List aA->List aA->Prop
 | [],[]=>True
 | t::ts,u::us=>(u=t\/XQ t u)/\Lk ts us
 | _,_=>False
def Lk.refl:∀ ts,Lk ts ts
 | []=>trivial
 | t::ts=>⟨.inl rfl,Lk.refl ts⟩
def anD:∀ (ts:List aA),(∀ t,t∈ts->∀ v,v∈pz t->XQ t v)->∀ us,us∈vO ts->Lk ts us
 | [],_,us,h=>by rw [vO] at h;cases h
 | t::ts,hR,us,h=>by
  rw [vO] at h;rcases jo.1 h with h|h
  .obtain ⟨u,hu,rfl⟩:=jW.1 h;exact ⟨.inr<|hR t aF u hu,.refl ts⟩
  .obtain ⟨vs,hv,rfl⟩:=jW.1 h;exact ⟨.inl rfl,anD ts (fun t ht=>hR t<|by simp [ht]) vs hv⟩
def Lk.len:∀ {ts us:List aA},Lk ts us->us.length=ts.length
 | [],[],_=>rfl
 | t::ts,u::us,h=>by rw [fT,fT,Lk.len h.2]
 | [],_::_,h=>h.elim
 | _::_,[],h=>h.elim
def Lk.mem:∀ {ts us:List aA},Lk ts us->∀ u,u∈us->∃ t,t∈ts/\(u=t\/XQ t u)
 | [],[],_,u,hu=>by cases hu
 | t::ts,v::us,h,u,hu=>by
  rcases fF.1 hu with rfl|hu
  .exact ⟨t,aF,h.1⟩
  .obtain ⟨w,w1,w2⟩:=Lk.mem h.2 u hu;exact ⟨w,by simp [w1],w2⟩
 | [],_::_,h,_,_=>h.elim
 | _::_,[],h,_,_=>h.elim
def Lk.st:∀ {ts us:List aA},Lk ts us->us.map strip=ts.map strip
 | [],[],_=>rfl
 | t::ts,u::us,h=>by
  show _::us.map strip=_::ts.map strip;rw [Lk.st h.2];rcases h.1 with e|e
  .rw [e]
  .rw [e.s]
 | [],_::_,h=>h.elim
 | _::_,[],h=>h.elim
def Lk.hd {ts us:List aA} (h:Lk ts us) (u:aA) (hu:us[0]?=some u):∃ t,ts[0]?=some t/\(u=t\/XQ t u):=by
 cases ts with
 | nil=>cases us with
  | nil=>cases hu
  | cons=>exact h.elim
 | cons t ts=>cases us with
  | nil=>exact h.elim
  | cons v us=>
   cases hu;exact ⟨t,rfl,h.1⟩
def axR {k o:Int} {x y:List UInt8} {ks us:List aA} (h:allT AN ⟨k,o,x,y,ks⟩) (hl:Lk ks us):allT AN ⟨k,o,x,y,us⟩:=by
 have ak:=nO h;obtain ⟨g,c,lf,dr,fp⟩:=mD h;have e:=hl.len;have kd:∀ u,u∈us->∃ t,t∈ks/\u.kind=t.kind:=fun u hu=>by
  obtain ⟨t,h1,h2⟩:=hl.mem u hu;refine ⟨t,h1,?_⟩;rcases h2 with e|e
  .rw [e]
  .exact e.k
 refine XG (t:=⟨k,o,x,y,us⟩) ⟨⟨g.e,g.lv,(fun h=>e.trans<|g.a0 h),(fun h=>e.trans<|g.a1 h),(fun h=>e.trans<|g.a2 h),(fun h=>e.trans<|g.a3 h),(fun h=>sH (g.ai h)<|Nat.le_of_eq e.symm),sH (Nat.le_of_eq e) g.le,(fun u hu=>?_),(fun u hu hk=>?_),g.op⟩,⟨c.qF,rfl,c.Jo,c.k9,c.k11,c.k15,fun h=>sH (Nat.le_of_eq e)<|c.many h⟩,(fun u hu hk=>?_),(fun h=>⟨(dr h).1,sH (dr h).2<|Nat.le_of_eq e.symm⟩),fp⟩ fun u hu=>?_
 .obtain ⟨t,h1,h2⟩:=kd u hu;rw [h2];exact g.ke t h1
 .obtain ⟨t,h1,h2⟩:=hl.hd u hu;have:=g.kl t h1 hk;rcases h2 with e|e
  .rw [e];exact this
  .rw [e.k];exact this
 .obtain ⟨t,h1,h2⟩:=hl.hd u hu;have:=lf t h1 hk;rcases h2 with e|e
  .rw [e];exact this
  .exact e.p this
 .obtain ⟨t,h1,h2⟩:=hl.mem u hu;rcases h2 with e|e
  .rw [e];exact ak t h1
  .exact e.a
def axS:∀ t:aA,allT AN t->∀ v,v∈pz t->XQ t v:=by
 intro t;induction t using nN with
 | h t ih=>
  intro ha v hv;have ak:=nO ha;obtain ⟨k,o,x,y,ks⟩:=t;rw [pz] at hv;rcases jo.1 hv with hv|hv
  .cases hp:fA y with
   | false=>rw [hp] at hv;cases hv
   | true=>
    rw [hp] at hv;rw [nG.1 hv];exact ⟨agN ha,by rw [zf,zf],rfl,fun _=>BG false _⟩
  .rcases jo.1 hv with hv|hv
   .cases hc:(k==13&&(decide (ks.length > 1)&&!fH y)) with
    | false=>rw [hc] at hv;cases hv
    | true=>
     rw [hc] at hv;rw [nG.1 hv];simp only [dL,mR,lG] at hc;obtain ⟨g,c,lf,dr,fp⟩:=mD ha;exact ⟨XG ⟨⟨g.e,g.lv,g.a0,g.a1,g.a2,g.a3,g.ai,g.le,g.ke,g.kl,g.op⟩,c,lf,(fun _=>⟨hc.1,hc.2.1⟩),fun h=>fp (by
      have h:fA (mJ (fA y) true)=true:=h;rw [BG] at h;exact h)⟩ ak,by rw [zf,zf],rfl,fun h=>by
      show fA (mJ (fA y) true)=false;rw [BG];exact h⟩
   .obtain ⟨us,hu,rfl⟩:=jW.1 hv;have hl:=anD ks (fun t ht w hw=>ih t ht (ak t ht) w hw) us hu;exact ⟨axR ha hl,by rw [zf,zf];show (⟨k,o,x,[],us.map strip⟩:aA)=⟨k,o,x,[],ks.map strip⟩;rw [hl.st],rfl,fun h=>h⟩
mutual
def EU:aA->aA
 | ⟨k,o,x,_,ks⟩=>⟨k,o,x,mJ false false,rE k 0 ks⟩
def rE (k:Int) (j:Nat):List aA->List aA
 | []=>[]
 | t::ts=>(bif tgt k j then EU t else ⟨t.kind,t.op,t.text,mJ (lv t.kind t.op !=15||t.kind==4) false,(EU t).kids⟩)::rE k (j+1) ts
end
def vV (t:aA):aA:=⟨t.kind,t.op,t.text,mJ (lv t.kind t.op !=15||t.kind==4) false,(EU t).kids⟩
def Jr (k:Int) (j:Nat) (t:aA):aA:=bif tgt k j then EU t else vV t
def TR (k:Int) (j:Nat) (t:aA) (ts:List aA):rE k j (t::ts)=Jr k j t::rE k (j+1) ts:=by rw [rE];rfl
def EW (t:aA):EU t=⟨t.kind,t.op,t.text,mJ false false,rE t.kind 0 t.kids⟩:=by
 obtain ⟨k,o,x,y,ks⟩:=t;rw [EU]
def anF (t:aA):fJ (vV t)=fJ (EU t):=by
 rw [uy,uy,EW];unfold vV;rw [EW];dsimp only;rw [Gu,Gu]
def agQ (k:Int):∀ (ts:List aA) (j:Nat),(rE k j ts).length=ts.length
 | [],j=>by rw [rE]
 | t::ts,j=>by rw [TR,fT,agQ k ts,fT]
def agR:∀ t:aA,∀ p,fJ (EU t)=lU true t p:=by
 intro t;induction t using nN with
 | h t ih=>
  intro p;rw [uy,Jq,EW];dsimp only;rw [Gu,aG];congr 1;have key:∀ (ts:List aA) (j:Nat),(∀ u,u∈ts->u∈t.kids)->(rE t.kind j ts).map aI=dI true t.kind t.op t.kids.length j p ts:=by
   intro ts;induction ts with
   | nil=>intro j _;rw [rE,dI];rfl
   | cons u ts ih2=>
    intro j hm;have hu:=hm u aF;rw [TR,rD,jV,ih2 (j+1) fun v hv=>hm v<|by simp [hv]];congr 1;unfold Jr jM;cases tgt t.kind j with
    | true=>
     rw [aH,aH,<- ih u hu];unfold aI;rw [EW];dsimp only;rw [BG];rfl
    | false=>
     rw [aG,aG];unfold aI gq BK;rw [anF,<- ih u hu,<- ih u hu bG];unfold vV;dsimp only;rw [BG];rfl
  exact key t.kids 0 fun u hu=>hu
def ajm (t:aA) (p:aN):aI (vV t)=gq true t p:=by
 unfold aI gq BK;rw [anF,agR t p];have e:lU true t p=lU true t bG:=by rw [<- agR t p,agR t bG]
 rw [<- e];unfold vV;dsimp only;rw [BG];rfl
def axT:∀ t:aA,allT CN t->strip (EU t)=t/\strip (vV t)=t:=by
 intro t;induction t using nN with
 | h t ih=>
  intro hc;have c:=mD hc;have ck:=nO hc;have key:∀ (ts:List aA) (j:Nat),(∀ u,u∈ts->u∈t.kids)->(rE t.kind j ts).map strip=ts:=by
   intro ts;induction ts with
   | nil=>intro j _;rw [rE];rfl
   | cons u ts ih2=>
    intro j hm;have hu:=hm u aF;rw [TR,jV,ih2 (j+1) fun v hv=>hm v<|by simp [hv]];congr 1;unfold Jr;cases tgt t.kind j with
    | true=>exact (ih u hu<|ck u hu).1
    | false=>exact (ih u hu<|ck u hu).2
  have kk:=key t.kids 0 fun u hu=>hu;obtain ⟨k,o,x,y,ks⟩:=t;have hy:y=[]:=c.oth;subst hy;unfold vV;rw [zf,zf,EW];dsimp only at kk ⊢;rw [kk];exact ⟨rfl,rfl⟩
def anG (k:Int) (j:Nat) (t:aA):(Jr k j t).kind=t.kind:=by
 unfold Jr vV;rw [EW];cases tgt k j<;>rfl
def adD:∀ t:aA,allT GN t->allT CN t->allT AN (EU t)/\allT AN (vV t):=by
 intro t;induction t using nN with
 | h t ih=>
  intro hg hc;have g:=mD hg;have c:=mD hc;have gk:=nO hg;have ck:=nO hc;have key:∀ (ts:List aA) (j:Nat),(∀ u,u∈ts->u∈t.kids)->∀ v,v∈rE t.kind j ts->∃ u,u∈t.kids/\v.kind=u.kind/\allT AN v:=by
   intro ts;induction ts with
   | nil=>intro j _ v hv;rw [rE] at hv;cases hv
   | cons u ts ih2=>
    intro j hm v hv;have hu:=hm u aF;rw [TR] at hv;rcases fF.1 hv with rfl|hv
    .refine ⟨u,hu,anG _ _ u,?_⟩;unfold Jr;cases tgt t.kind j with
     | true=>exact (ih u hu (gk u hu)<|ck u hu).1
     | false=>exact (ih u hu (gk u hu)<|ck u hu).2
    .exact ih2 (j+1) (fun v hv=>hm v<|by simp [hv]) v hv
  have kk:=key t.kids 0 fun u hu=>hu;have hd:∀ v,(rE t.kind 0 t.kids)[0]?=some v->∃ u,t.kids[0]?=some u/\v=Jr t.kind 0 u:=fun v hv=>by
   match e:t.kids with
   | []=>rw [e,rE] at hv;cases hv
   | u::ts=>
    rw [e,TR] at hv;cases hv;exact ⟨u,rfl,rfl⟩
  have e:=agQ t.kind t.kids 0;have all:∀ a:Bool,(a=true->(lv t.kind t.op !=15||t.kind==4)=true)->allT AN ⟨t.kind,t.op,t.text,mJ a false,rE t.kind 0 t.kids⟩:=fun a hfp=>by
   refine XG ⟨⟨g.e,g.lv,(fun h=>e.trans<|g.a0 h),(fun h=>e.trans<|g.a1 h),(fun h=>e.trans<|g.a2 h),(fun h=>e.trans<|g.a3 h),(fun h=>sH (g.ai h)<|Nat.le_of_eq e.symm),sH (Nat.le_of_eq e) g.le,(fun v hv=>?_),(fun v hv hk=>?_),g.op⟩,⟨c.qF,rfl,c.Jo,c.k9,c.k11,c.k15,fun h=>sH (Nat.le_of_eq e)<|c.many h⟩,(fun v hv hk=>?_),(fun h=>?_),fun h=>?_⟩ fun v hv=>?_
   .obtain ⟨u,h1,h2,_⟩:=kk v hv;rw [h2];exact g.ke u h1
   .obtain ⟨u,h1,h2⟩:=hd v hv;rw [h2,anG];exact g.kl u h1 hk
   .obtain ⟨u,h1,h2⟩:=hd v hv;have ht:tgt t.kind 0=true:=by
     have hk:t.kind=9\/t.kind=10\/t.kind=15:=hk;rcases hk with e|e|e<;>rw [e]<;>rfl
    rw [h2];unfold Jr;rw [ht,EW];exact BG false false
   .have h:fH (mJ a false)=true:=h;rw [Gu] at h;cases h
   .have h:fA (mJ a false)=true:=h;rw [BG] at h;exact hfp h
   .obtain ⟨_,_,_,h3⟩:=kk v hv;exact h3
  unfold vV;rw [EW];exact ⟨all false (fun h=>by cases h),all _ fun h=>h⟩
def axU:∀ t:aA,allT GN t->∀ p,posB p=true->Gw (EU t) p/\BJ (vV t) p:=by
 intro t;induction t using nN with
 | h t ih=>
  intro hg;have g:=mD hg;have gk:=nO hg;have hB:∀ p,posB p=true->∀ a,Gw ⟨t.kind,t.op,t.text,mJ a false,rE t.kind 0 t.kids⟩ p:=fun p hp a=>by
   rw [Po];refine ⟨Gu a false,?_⟩;have key:∀ (ts:List aA) (j:Nat),(∀ u,u∈ts->u∈t.kids)->(∀ u,j=0->ts[0]?=some u->t.kids[0]?=some u)->xY t.kind t.op t.kids.length j p (rE t.kind j ts):=by
    intro ts;induction ts with
    | nil=>intro j _ _;rw [rE,xY];trivial
    | cons u ts ih2=>
     intro j hm h0;have hu:=hm u aF;rw [TR,Pn];refine ⟨?_,ih2 (j+1) (fun v hv=>hm v<|by simp [hv]) fun v h=>ah⟩;have hkp:posB (dJ t.kind t.op t.kids.length j p)=true:=Ac g.e;unfold Jr;cases ht:tgt t.kind j with
     | false=>exact (ih u hu (gk u hu) _ hkp).2
     | true=>
      obtain ⟨q1,q2⟩:=agP ht;refine .inl ⟨?_,(ih u hu (gk u hu) _ hkp).1⟩;rw [aH,EW,q1];exact anr (g.kl u (h0 u q1 rfl) q2) q2
   show xY t.kind t.op (rE t.kind 0 t.kids).length 0 p (rE t.kind 0 t.kids);rw [agQ];exact key t.kids 0 (fun u hu=>hu) fun u _ h=>h
  intro p hp;refine ⟨by rw [EW];exact hB p hp false,?_⟩;unfold vV;rw [EW];cases hf:dD t.kind t.op p with
  | true=>exact .inl ⟨hf,hB p hp _⟩
  | false=>
   refine .inr ⟨hf,?_,hB bG rfl _⟩;show fA (mJ _ false)=true;rw [BG];cases h4:(t.kind==4) with
   | true=>rw [Bool.or_true]
   | false=>
    cases TS:(lv t.kind t.op !=15) with
    | true=>rfl
    | false=>
     have:=awW hp g.e (bne_eq_false_iff_eq.1 TS) (by simpa using h4);rw [this] at hf;cases hf
def jN (k:Int):Bool:=k==7||k==8
def iq:Nat->List aC->Option (List aC)
 | _,[]=>none
 | d,t::r=>bif t.Kind==32 then (iq (d+1) r).map (fun z=>t::z) else bif t.Kind==33 then (bif d==0 then some r else (iq (d - 1) r).map fun z=>t::z) else (iq d r).map (fun z=>t::z)
def fZ:Bool->List aC->List (List aC)
 | _,[]=>[]
 | b,t::r=>(bif t.Kind==32&&!b then (iq 0 r).toList else [])++(fZ (jN t.Kind) r).map fun z=>t::z
def XR {t:aC} (h:t.Kind=32) (d:Nat) (r:List aC):iq d (t::r)=(iq (d+1) r).map fun z=>t::z:=by rw [iq,h];rfl
def XT {t:aC} (h1:t.Kind≠32) (h2:t.Kind≠33) (d:Nat) (r:List aC):iq d (t::r)=(iq d r).map fun z=>t::z:=by
 have e1:(t.Kind==32)=false:=by simpa using h1
 have e2:(t.Kind==33)=false:=by simpa using h2
 rw [iq,e1,e2];rfl
def Gx {t:aC} (h:t.Kind=33) (r:List aC):iq 0 (t::r)=some r/\∀ d,iq (d+1) (t::r)=(iq d r).map fun z=>t::z:=by
 constructor
 .rw [iq,h];rfl
 .intro d;rw [iq,h];rfl
def anH:∀ (r:List aC) (d:Nat) (r' y:List aC),iq d r=some r'->iq d (r++y)=some (r'++y)
 | [],d,r',y,h=>by rw [iq] at h;cases h
 | t::r,d,r',y,h=>by
  rw [wm];have go:∀ d,(iq d r).map (fun z=>t::z)=some r'->(iq d<|r++y).map (fun z=>t::z)=some (r'++y):=fun d h=>by
   obtain ⟨z,h1,h2⟩:=eD.1 h;rw [anH r d z y h1,<- h2];rfl
  by_cases h1:t.Kind=32
  .rw [XR h1] at h ⊢;exact go _ h
  .by_cases h2:t.Kind=33
   .cases d with
    | zero=>
     rw [(Gx h2 _).1] at h ⊢;cases h;rfl
    | succ d=>
     rw [(Gx h2 _).2] at h ⊢;exact go _ h
   .rw [XT h1 h2] at h ⊢;exact go _ h
def anI:∀ (x:List aC) (d:Nat) (y:List aC),(∀ a b,x=a++b->0<=(d:Int)+dq a)->iq d (x++y)=(iq ((d:Int)+dq x).toNat y).map fun z=>x++z
 | [],d,y,h=>by
  show iq d y=(iq ((d:Int)+0).toNat y).map fun z=>z;rw [show ((d:Int)+0).toNat=d by omega];cases iq d y<;>rfl
 | t::x,d,y,h=>by
  have h1:0<=(d:Int)+dq [t]:=h [t] x rfl;rw [wm];have go:∀ e:Nat,(e:Int)=(d:Int)+dq [t]->((iq e<|x++y).map fun z=>t::z)=(iq ((d:Int)+dq (t::x)).toNat y).map fun z=>t::x++z:=fun e he=>by
   have hs:∀ z,dq (t::z)=dq [t]+dq z:=fun z=>LG [t] z;rw [anI x e y fun a b hab=>by
    have:=h (t::a) b (by rw [hab];rfl);rw [hs] at this;omega]
   rw [hs x,show (d:Int)+(dq [t]+dq x)=(e:Int)+dq x by omega,Option.map_map];rfl
  by_cases k1:t.Kind=32
  .rw [XR k1];exact go (d+1) (by rw [(LH k1 []).1];show ((d+1:Nat):Int)=(d:Int)+(1+0);omega)
  .by_cases k2:t.Kind=33
   .rw [(TM k2 []).1] at h1;have h1:0<=(d:Int)+(-1+0):=h1;obtain ⟨e,rfl⟩:∃ e,d=e+1:=⟨d - 1,ah⟩
    rw [(Gx k2 _).2];exact go e (by rw [(TM k2 []).1];show (e:Int)=((e+1:Nat):Int)+(-1+0);omega)
   .rw [XT k1 k2];exact go d (by rw [(LJ k1 k2 []).1];show (d:Int)=(d:Int)+0;omega)
def LM.cut {x:List aC} {n:Nat} (h:LM x n) {u:aC} (hu:u.Kind=33) (y:List aC):iq 0 (x++u::y)=some (x++y):=by
 rw [anI x 0 _ fun a b e=>by have:=h.p a b e;omega,h.d];show (iq 0<|u::y).map _=_;rw [(Gx hu y).1];rfl
def aci:∀ (r:List aC) (d:Nat),iq d r=none->0<=(d:Int)+dq r
 | [],d,_=>by show 0<=(d:Int)+0;omega
 | t::r,d,h=>by
  by_cases k1:t.Kind=32
  .rw [XR k1] at h;have:=aci r _ (Option.map_eq_none_iff.1 h);rw [(LH k1 r).1];omega
  .by_cases k2:t.Kind=33
   .cases d with
    | zero=>rw [(Gx k2 r).1] at h;cases h
    | succ d=>
     rw [(Gx k2 r).2] at h;have:=aci r _ (Option.map_eq_none_iff.1 h);rw [(TM k2 r).1];omega
   .rw [XT k1 k2] at h;have:=aci r _ (Option.map_eq_none_iff.1 h);rw [(LJ k1 k2 r).1];omega
def Mt (x:List aC):Prop:=∀ a t r,x=a++t::r->t.Kind=32->iq 0 r≠none
def LM.mt {x:List aC} {n:Nat} (h:LM x n):Mt x:=fun a t r e ht hc=>by
 have h1:=aci r 0 hc;have h2:=h.p a _ e;have h3:=h.d;rw [e,LG,(LH ht r).1] at h3;omega
def Mt.tl {t:aC} {x:List aC} (h:Mt (t::x)):Mt x:=fun a u r e hu=>h (t::a) u r (by rw [e];rfl) hu
def pE:Bool->List aC->Bool
 | b,[]=>b
 | _,t::r=>pE (jN t.Kind) r
def Ad:∀ (x:List aC) (b:Bool) (y:List aC),pE b (x++y)=pE (pE b x) y
 | [],_,_=>rfl
 | t::x,b,y=>by rw [wm,pE,pE,Ad x]
def agS:∀ (x:List aC) (b:Bool) (y:List aC),Mt x->fZ b (x++y)=(fZ b x).map (fun z=>z++y)++(fZ (pE b x) y).map fun z=>x++z
 | [],b,y,_=>by
  show fZ b y=[]++(fZ b y).map fun z=>z;simp
 | t::x,b,y,h=>by
  rw [wm,fZ,fZ,pE,agS x _ y h.tl,vZ,vZ,nW,nW,nW,<- kC];congr 1;congr 1;cases hc:(t.Kind==32&&!b) with
  | false=>rfl
  | true=>
   simp only [dL,mR] at hc;cases hx:iq 0 x with
   | none=>exact absurd hx (h [] t x rfl hc.1)
   | some z=>
    rw [aH,aH,anH x 0 z y hx];rfl
def axV {t:aC} (h1:t.Kind≠32) (h2:jN t.Kind=false) (b:Bool) (y:List aC):fZ b (t::y)=(fZ false y).map fun z=>t::z:=by
 have e1:(t.Kind==32)=false:=by simpa using h1
 rw [fZ,e1,h2];rfl
def anJ {t u:aC} (h:jN t.Kind=true) (hu:u.Kind=32) (b:Bool) (y:List aC):fZ b (t::u::y)=(fZ false y).map fun z=>t::u::z:=by
 have e1:(t.Kind==32)=false:=by
  unfold jN at h;simp only [lH,mR] at h;simp;omega
 rw [fZ,e1,h,fZ,hu];show []++([]++(fZ false y).map _).map _=_;rw [uS,uS,nW];rfl
def Dw (sep:Nat->List aC):List aA->List aC
 | []=>[]
 | t::ts=>aI t++(sep ts.length++Dw sep ts)
structure Fm (c0:List aC) (sep:Nat->List aC) (c1:List aC):Prop where
 h0:∀ y,fZ false (c0++y)=(fZ false y).map fun z=>c0++z
 h1:∀ r y,fZ false (sep r++y)=(fZ false y).map fun z=>sep r++z
 h2:fZ false c1=[]
def acj {c0 c1:List aC} {sep:Nat->List aC} (F:Fm c0 sep c1):∀ ks:List aA,(∀ u,u∈ks->Mt (aI u)/\pE false (aI u)=false/\fZ false (aI u)=(pz u).map aI)->fZ false (Dw sep ks++c1)=(vO ks).map fun us=>Dw sep us++c1
 | [],_=>by
  show fZ false ([]++c1)=_;rw [uS,F.h2,vO];rfl
 | t::ts,h=>by
  obtain ⟨g1,g2,g3⟩:=h t aF;have ih:=acj F ts fun u hu=>h u (by simp [hu]);show fZ false ((aI t++(sep ts.length++Dw sep ts))++c1)=_;rw [kC,agS _ _ _ g1,g2,g3,kC,F.h1,ih,vO,vZ,nW,nW,nW,nW,nW];congr 1
  .refine qx fun u _=>?_;show aI u++(sep ts.length++(Dw sep ts++c1))=(aI u++(sep ts.length++Dw sep ts))++c1;simp
  .refine qx fun us hu=>?_;show aI t++(sep ts.length++(Dw sep us++c1))=(aI t++(sep us.length++Dw sep us))++c1;rw [Pp ts us hu];simp
def Js:∀ ks:List aA,bW false (ks.map aI)=Dw (fun r=>bif r==0 then [] else [sg 36]) ks
 | []=>rfl
 | [t]=>rfl
 | t::u::ts=>by
  have ih:=Js (u::ts);show []++(aI t++([sg 36]++(aI u++bW true (ts.map aI))))=aI t++([sg 36]++Dw _ (u::ts));rw [<- ih];show []++(aI t++([sg 36]++(aI u++bW true (ts.map aI))))=aI t++([sg 36]++([]++(aI u++bW true (ts.map aI))));simp
def axW (l:List (List aC)):l=l.map fun z=>[]++z:=aF
def XU {l:List aC} (h:∀ t,t∈l->t.Kind≠32/\jN t.Kind=false):∀ y,fZ false (l++y)=(fZ false y).map fun z=>l++z:=by
 induction l with
 | nil=>exact fun y=>axW _
 | cons t l ih=>
  intro y;obtain ⟨h1,h2⟩:=h t aF;rw [wm,axV h1 h2,ih (fun u hu=>h u<|by simp [hu]),nW];rfl
def agT {l:List aC} (h:∀ t,t∈l->t.Kind≠32/\jN t.Kind=false):fZ false l=[]:=by
 have:=XU h [];rw [pQ] at this;rw [this];rfl
def Fm.quiet {c0 c1:List aC} {sep:Nat->List aC} (h0:∀ t,t∈c0->t.Kind≠32/\jN t.Kind=false) (h1:∀ r t,t∈sep r->t.Kind≠32/\jN t.Kind=false) (h2:∀ t,t∈c1->t.Kind≠32/\jN t.Kind=false):Fm c0 sep c1:=
 ⟨XU h0,fun r=>XU<|h1 r,agT h2⟩
def axX {o:Int} (h:bg o≠0):o≠32/\jN o=false:=by
 rcases Jp h with e|e|e|e|e|e|e|e|e|e|e|e|e|e|e|e|e<;>subst e<;>exact ⟨aD,rfl⟩
def axY {o:Int} (h:nM o=true):o≠32/\jN o=false:=by
 have:=LD h;exact ⟨ah,by unfold jN;simp;omega⟩
def q1 {o:Int} (h1:o≠32/\jN o=false) {x:List UInt8}:∀ t:aC,t∈[(⟨o,x,0⟩:aC)]->t.Kind≠32/\jN t.Kind=false:=fun t ht=>by
 rw [nG.1 ht];exact h1
def q0:∀ t:aC,t∈([]:List aC)->t.Kind≠32/\jN t.Kind=false:=fun t ht=>by cases ht
def q36 (r:Nat):∀ t:aC,t∈(bif r==0 then [] else [sg 36])->t.Kind≠32/\jN t.Kind=false:=by
 cases (r==0) with
 | true=>exact q0
 | false=>exact q1 ⟨aD,rfl⟩
def axZ (k o:Int) (x:List UInt8) (ks:List aA) (g:GN ⟨k,o,x,[],ks⟩) (c:CN ⟨k,o,x,[],ks⟩) (Gy: ¬(k=13/\ks.length > 1)):∃ c0 sep c1,Fm c0 sep c1/\∀ us:List aA,us.length=ks.length->fG k o x (us.map aI)=c0++(Dw sep us++c1):=by
 have Jt:∀ r t,t∈(fun _:Nat=>([]:List aC)) r->t.Kind≠32/\jN t.Kind=false:=fun _=>q0;have z:∀ us:List aA,us.length=0->us=[]:=fun us=>Cq.1;have n1:∀ us:List aA,us.length=1->∃ u,us=[u]:=fun us h=>by
  match us,h with
  | [u],_=>exact ⟨u,rfl⟩
 rcases kinds g.e with e|e|e|e|e|e|e|e|e|e|e|e|e|e|e<;>(have e:k=_:=e;subst e)
 .have a:=g.a0 (.inl rfl);exact ⟨[⟨6,x,0⟩],fun _=>[],[],.quiet (q1 ⟨aD,rfl⟩) Jt q0,fun us hu=>by rw [z us<|hu.trans a];rfl⟩
 .have a:=g.a0 (.inr<|.inl rfl);exact ⟨[⟨3,x,0⟩],fun _=>[],[],.quiet (q1 ⟨aD,rfl⟩) Jt q0,fun us hu=>by rw [z us<|hu.trans a];rfl⟩
 .have a:=g.a0 (.inr<|.inr<|.inl rfl);exact ⟨[⟨4,x,0⟩],fun _=>[],[],.quiet (q1 ⟨aD,rfl⟩) Jt q0,fun us hu=>by rw [z us<|hu.trans a];rfl⟩
 .have a:=g.a0 (.inr<|.inr<|.inr rfl);exact ⟨[⟨5,x,0⟩],fun _=>[],[],.quiet (q1 ⟨aD,rfl⟩) Jt q0,fun us hu=>by rw [z us<|hu.trans a];rfl⟩
 .refine ⟨[⟨6,x,0⟩,sg 34],fun r=>bif r==0 then [] else [sg 36],[sg 35],.quiet (fun t ht=>?_) q36<|q1 ⟨aD,rfl⟩,fun us hu=>?_⟩
  .rcases fF.1 ht with rfl|ht
   .exact ⟨by show (6:Int)≠32;decide,rfl⟩
   .exact q1 ⟨aD,rfl⟩ t ht
  .show (⟨6,x,0⟩:aC)::sg 34::(bW false (us.map aI)++[sg 35])=_;rw [Js];rfl
 .have a:=g.a1 (.inl rfl);exact ⟨[sg 68],fun _=>[],[],.quiet (q1 ⟨aD,rfl⟩) Jt q0,fun us hu=>by
   obtain ⟨u,rfl⟩:=n1 us (hu.trans a);show sg 68::aI u=sg 68::((aI u++([]++[]))++[]);simp⟩
 .refine ⟨[⟨7,x,0⟩,sg 32],fun r=>bif r==0 then [] else [sg 36],[sg 33],⟨fun y=>anJ (t:=⟨7,x,0⟩) (u:=sg 32) rfl rfl false y,fun r=>XU<|q36 r,agT<|q1 ⟨aD,rfl⟩⟩,fun us hu=>?_⟩;show (⟨7,x,0⟩:aC)::sg 32::(bW false (us.map aI)++[sg 33])=_;rw [Js];rfl
 .refine ⟨[⟨8,x,0⟩,sg 32],fun r=>bif r==0 then [] else [sg 36],[sg 33],⟨fun y=>anJ (t:=⟨8,x,0⟩) (u:=sg 32) rfl rfl false y,fun r=>XU<|q36 r,agT<|q1 ⟨aD,rfl⟩⟩,fun us hu=>?_⟩;show (⟨8,x,0⟩:aC)::sg 32::(bW false (us.map aI)++[sg 33])=_;rw [Js];rfl
 .have a:=g.a1 (.inr<|.inl rfl);have ho:o=51\/o=52:=c.k9 (.inl rfl);exact ⟨[sg o],fun _=>[],[],.quiet (q1<|by rcases ho with rfl|rfl<;>exact ⟨aD,rfl⟩) Jt q0,fun us hu=>by
   obtain ⟨u,rfl⟩:=n1 us (hu.trans a);show sg o::aI u=sg o::((aI u++([]++[]))++[]);simp⟩
 .have a:=g.a1 (.inr<|.inr<|.inl rfl);have ho:o=51\/o=52:=c.k9 (.inr rfl);exact ⟨[],fun _=>[],[sg o],.quiet q0 Jt (q1<|by rcases ho with rfl|rfl<;>exact ⟨aD,rfl⟩),fun us hu=>by
   obtain ⟨u,rfl⟩:=n1 us (hu.trans a);show aI u++[sg o]=[]++((aI u++([]++[]))++[sg o]);simp⟩
 .have a:=g.a1 (.inr<|.inr<|.inr rfl);have ho:o=55\/o=56\/o=61:=c.k11 rfl;exact ⟨[sg o],fun _=>[],[],.quiet (q1<|by rcases ho with rfl|rfl|rfl<;>exact ⟨aD,rfl⟩) Jt q0,fun us hu=>by
   obtain ⟨u,rfl⟩:=n1 us (hu.trans a);show sg o::aI u=sg o::((aI u++([]++[]))++[]);simp⟩
 .have a:=g.a2 (.inl rfl);have ho:bg o≠0:=g.lv;refine ⟨[],fun r=>bif r==0 then [] else (bif o==99 then [] else [sg o]),[],.quiet q0 (fun r=>?_) q0,fun us hu=>?_⟩
  .show ∀ t:aC,t∈(bif r==0 then [] else (bif o==99 then [] else [sg o]))->_;cases (r==0) with
   | true=>exact q0
   | false=>
    rw [aG];cases (o==99) with
    | true=>exact q0
    | false=>exact q1 (axX ho)
  .obtain ⟨u,v,rfl⟩:=Ab (hu.trans a);show aI u++((bif o==99 then [] else [sg o])++aI v)=[]++((aI u++((bif o==99 then [] else [sg o])++(aI v++([]++[]))))++[]);simp
 .have a:1<=ks.length:=g.ai (.inr rfl);have n13: ¬ks.length > 1:=fun h=>Gy ⟨rfl,h⟩;refine ⟨[],fun _=>[],[sg 24,⟨6,x,0⟩],.quiet q0 Jt fun t ht=>?_,fun us hu=>?_⟩
  .rcases fF.1 ht with rfl|ht
   .exact ⟨aD,rfl⟩
   .exact q1 ⟨aD,rfl⟩ t ht
  .obtain ⟨u,rfl⟩:=n1 us ah;show aI u++[sg 24,⟨6,x,0⟩]=[]++((aI u++([]++[]))++[sg 24,⟨6,x,0⟩]);simp
 .have a:=g.a3 rfl;refine ⟨[],fun r=>bif r==0 then [] else (bif r==1 then [sg 66] else [sg 65]),[],.quiet q0 (fun r=>?_) q0,fun us hu=>?_⟩
  .show ∀ t:aC,t∈(bif r==0 then [] else (bif r==1 then [sg 66] else [sg 65]))->_;cases (r==0) with
   | true=>exact q0
   | false=>
    rw [aG];cases (r==1) with
    | true=>exact q1 ⟨aD,rfl⟩
    | false=>exact q1 ⟨aD,rfl⟩
  .obtain ⟨u,v,w,rfl⟩:=Pm (hu.trans a);show aI u++(sg 65::(aI v++(sg 66::aI w)))=[]++((aI u++([sg 65]++(aI v++([sg 66]++(aI w++([]++[]))))))++[]);simp
 .have a:=g.a2 (.inr rfl);have hk:nM o=true:=c.k15 rfl;have iF:(o==99)=false:=by
   have:=g.op rfl;simpa using this
  refine ⟨[],fun r=>bif r==0 then [] else [sg o],[],.quiet q0 (fun r=>?_) q0,fun us hu=>?_⟩
  .show ∀ t:aC,t∈(bif r==0 then [] else [sg o])->_;cases (r==0) with
   | true=>exact q0
   | false=>exact q1 (axY hk)
  .obtain ⟨u,v,rfl⟩:=Ab (hu.trans a);show aI u++((bif o==99 then [] else [sg o])++aI v)=[]++((aI u++([sg o]++(aI v++([]++[]))))++[]);rw [iF];simp
def aya (k o:Int) (x:List UInt8) (ks:List aA) (g:GN ⟨k,o,x,[],ks⟩) (c:CN ⟨k,o,x,[],ks⟩) (h:∀ u,u∈ks->∀ b,pE b (aI u)=false):∀ b,pE b (fG k o x<|ks.map aI)=false:=by
 intro b;have cl:∀ (t:aC) (r:List aC) (b:Bool),pE b (t::r)=pE (jN t.Kind) r:=fun _ _ _=>rfl;rcases kinds g.e with e|e|e|e|e|e|e|e|e|e|e|e|e|e|e<;>(have e:k=_:=e;subst e)
 .rfl
 .rfl
 .rfl
 .rfl
 .show pE b (⟨6,x,0⟩::sg 34::(bW false (ks.map aI)++[sg 35]))=false;rw [cl,cl,Ad];rfl
 .obtain ⟨u,e1⟩:=vM (g.a1<|.inl rfl);have e1:ks=[u]:=e1;subst e1;exact h u aF _
 .show pE b (⟨7,x,0⟩::sg 32::(bW false (ks.map aI)++[sg 33]))=false;rw [cl,cl,Ad];rfl
 .show pE b (⟨8,x,0⟩::sg 32::(bW false (ks.map aI)++[sg 33]))=false;rw [cl,cl,Ad];rfl
 .obtain ⟨u,e1⟩:=vM (g.a1<|.inr<|.inl rfl);have e1:ks=[u]:=e1;subst e1;exact h u aF _
 .obtain ⟨u,e1⟩:=vM (g.a1<|.inr<|.inr<|.inl rfl);have e1:ks=[u]:=e1;subst e1;have ho:o=51\/o=52:=c.k9 (.inr rfl);show pE b (aI u++[sg o])=false;rw [Ad];rcases ho with rfl|rfl<;>rfl
 .obtain ⟨u,e1⟩:=vM (g.a1<|.inr<|.inr<|.inr rfl);have e1:ks=[u]:=e1;subst e1;exact h u aF _
 .obtain ⟨u,v,e1⟩:=Ab (g.a2<|.inl rfl);have e1:ks=[u,v]:=e1;subst e1;show pE b (aI u++((bif o==99 then [] else [sg o])++aI v))=false;rw [Ad,Ad];exact h v aF _
 .show pE b ((bif decide ((ks.map aI).length > 1) then sg 32::(bW false (ks.map aI)++[sg 33]) else (ks.map aI).getD 0 [])++[sg 24,⟨6,x,0⟩])=false;rw [Ad];rfl
 .obtain ⟨u,v,w,e1⟩:=Pm (g.a3 rfl);have e1:ks=[u,v,w]:=e1;subst e1;show pE b (aI u++(sg 65::(aI v++(sg 66::aI w))))=false;rw [Ad,cl,Ad,cl];exact h w aF _
 .obtain ⟨u,v,e1⟩:=Ab (g.a2<|.inr rfl);have e1:ks=[u,v]:=e1;subst e1;show pE b (aI u++((bif o==99 then [] else [sg o])++aI v))=false;rw [Ad,Ad];exact h v aF _
def ayb:∀ t:aA,allT AN t->∀ b,pE b (aI t)=false:=by
 intro t;induction t using nN with
 | h t ih=>
  intro ha b;have ak:=nO ha;have hN:∀ b,pE b (fJ t)=false:=fun b=>by
   rw [uy];cases hd:fH t.other with
   | true=>
    rw [aH,Ad];rfl
   | false=>
    obtain ⟨k,o,x,y,ks⟩:=t;exact aya k o x ks (mD ha).gn (mD ha).c (fun u hu=>ih u hu<|ak u hu) b
  unfold aI;cases fA t.other with
  | false=>exact hN b
  | true=>
   show pE (jN 32) (fJ t++[sg 33])=false;rw [Ad];rfl
def XV (t:aA):List aA:=(bif t.kind==13&&(decide (t.kids.length > 1)&&!fH t.other) then [⟨t.kind,t.op,t.text,mJ (fA t.other) true,t.kids⟩] else [])++(vO t.kids).map fun us=>⟨t.kind,t.op,t.text,t.other,us⟩
def ayc (t:aA):pz t=(bif fA t.other then [⟨t.kind,t.op,t.text,mJ false<|fH t.other,t.kids⟩] else [])++XV t:=by
 obtain ⟨k,o,x,y,ks⟩:=t;rw [pz];rfl
def ayd:∀ t:aA,allT AN t->fZ false (aI t)=(pz t).map aI:=by
 intro t;induction t using nN with
 | h t ih=>
  intro ha;have ak:=nO ha;have a:=mD ha;have hk:∀ u,u∈t.kids->Mt (aI u)/\pE false (aI u)=false/\fZ false (aI u)=(pz u).map aI:=fun u hu=>⟨(GZ u<|ak u hu).2.mt,ayb u (ak u hu) false,ih u hu<|ak u hu⟩
  have cf:∀ b:List aC,(∀ t,t∈b->t.Kind≠32/\jN t.Kind=false)->Fm [] (fun r=>bif r==0 then [] else [sg 36]) b:=fun b hb=>.quiet q0 q36 hb;have q24:∀ u:aC,u∈[sg 24,(⟨6,t.text,0⟩:aC)]->u.Kind≠32/\jN u.Kind=false:=fun u hu=>by
   rcases fF.1 hu with rfl|hu
   .exact ⟨aD,rfl⟩
   .exact q1 ⟨aD,rfl⟩ u hu
  have hN:fZ false (fJ t)=(XV t).map fJ:=by
   unfold XV;rw [uy];cases hd:fH t.other with
   | true=>
    rw [aH,Js,acj (cf _ q24) t.kids hk,kE,MK,MK,aG,uS,nW];refine qx fun us _=>?_;show _=fJ ⟨t.kind,t.op,t.text,t.other,us⟩;rw [uy];show _=bif fH t.other then _ else _;rw [hd,aH,Js]
   | false=>
    rw [aG];by_cases Gy:t.kind=13/\t.kids.length > 1
    .have hc:(t.kind==13&&(decide (t.kids.length > 1)&&!false))=true:=by
      rw [Gy.1,fU Gy.2];rfl
     have ea:∀ us:List aA,us.length=t.kids.length->fG t.kind t.op t.text (us.map aI)=sg 32::(Dw (fun r=>bif r==0 then [] else [sg 36]) us++sg 33::[sg 24,⟨6,t.text,0⟩]):=fun us hu=>by
      have h2:decide ((us.map aI).length > 1)=true:=by rw [mE];exact fU ah
      rw [Gy.1];show (bif decide ((us.map aI).length > 1) then sg 32::(bW false (us.map aI)++[sg 33]) else (us.map aI).getD 0 [])++[sg 24,⟨6,t.text,0⟩]=_;rw [h2,aH,Js];simp
     have li:=XK t.kids false fun u hu=>(GZ u<|ak u hu).2;rw [Js] at li;have q33:∀ u:aC,u∈sg 33::[sg 24,(⟨6,t.text,0⟩:aC)]->u.Kind≠32/\jN u.Kind=false:=fun u hu=>by
      rcases fF.1 hu with rfl|hu
      .exact ⟨aD,rfl⟩
      .exact q24 u hu
     rw [hc,aH,ea _ rfl,fZ];show (bif true&&!false then _ else _)++_=_;rw [li.cut rfl];show [_]++(fZ false _).map _=_;rw [acj (cf _ q33) t.kids hk,vZ,nW,nW];congr 1
     .show [_]=[fJ _];congr 1;rw [uy];show _=bif fH (mJ (fA t.other) true) then _ else _;rw [Gu,aH,Js]
     .refine qx fun us hu=>?_;show _=fJ ⟨t.kind,t.op,t.text,t.other,us⟩;rw [uy];show _=bif fH t.other then _ else fG t.kind t.op t.text (us.map aI);rw [hd,aG,ea us<|Pp _ _ hu];rfl
    .have hc:(t.kind==13&&(decide (t.kids.length > 1)&&!false))=false:=by
      by_cases h:t.kind=13
      .have: ¬t.kids.length > 1:=fun g=>Gy ⟨h,g⟩;rw [nE this,Ec,MK]
      .have:(t.kind==13)=false:=by simpa using h
       rw [this,Ec]
     obtain ⟨k,o,x,y,ks⟩:=t;obtain ⟨c0,sep,c1,F,e⟩:=axZ k o x ks a.gn a.c Gy;rw [hc,aG,uS,nW];show fZ false (fG k o x<|ks.map aI)=_;rw [e ks rfl,F.h0,acj F ks hk,nW];refine qx fun us hu=>?_;show _=fJ ⟨k,o,x,y,us⟩;rw [uy];show _=bif fH y then _ else fG k o x (us.map aI);have hd:fH y=false:=hd;rw [hd,aG,e us<|Pp _ _ hu];rfl
  have lm:=(GZ t ha).1;have pN:∀ v,v∈XV t->fA v.other=fA t.other:=fun v hv=>by
   unfold XV at hv;rcases jo.1 hv with hv|hv
   .cases hc:(t.kind==13&&(decide (t.kids.length > 1)&&!fH t.other)) with
    | false=>rw [hc] at hv;cases hv
    | true=>
     rw [hc] at hv;rw [nG.1 hv];exact BG _ _
   .obtain ⟨us,_,rfl⟩:=jW.1 hv;rfl
  rw [ayc,vZ];have eA:aI t=qj (fA t.other) (fJ t) (fJ t):=rfl;rw [eA];cases hp:fA t.other with
  | false=>
   show fZ false (fJ t)=[]++_;rw [hN,uS];refine qx fun v hv=>?_;unfold aI;rw [pN v hv,hp];rfl
  | true=>
   show fZ false (sg 32::(fJ t++[sg 33]))=_;rw [fZ];show (bif true&&!false then _ else _)++(fZ false<|fJ t++[sg 33]).map _=_;have e33:∀ b,fZ b [sg 33]=[]:=fun _=>rfl;rw [lm.cut rfl,agS _ _ _ lm.mt,e33,hN,zD,pQ,pQ,nW,nW];congr 1
   .show [fJ t]=[aI _];congr 1;unfold aI;dsimp only;rw [BG,uy,uy];dsimp only;rw [Gu];rfl
   .refine qx fun v hv=>?_;unfold aI;rw [pN v hv,hp];rfl
structure ExR (N:Nat) (L:List aK) (t:aA):Prop where
 eq:L=bN 0 t
 ta:TA L t 0 (L.length - 1)
 sz:aZ t<=400
 dep:jU t<=40
 tx:txT t
 g:allT GN t
 c:allT (fun u=>CN u/\TN N u) t
 sh:za L=true
 ok:zL N L=some true
def ayf (N:Nat) (L:List aK) (hN:1048577 < N) (hs:∀ x,x∈L->yF x) (hsh:za L=true) {t:aA} (hT:TA L t 0 (L.length - 1)) (h:zL N L=some true):jU t<=40:=by
 unfold zL at h;obtain ⟨y,h1,h⟩:=dB.1 h;cases y with
 | true=>cases h
 | false=>
  rw [anL N L hN hs hsh hT] at h1;obtain ⟨r,_,h1⟩:=dB.1 h1;cases r with
  | false=>cases h1
  | true=>
   simp only [kE,aG,av] at h1;have:=QG (kD h1);omega
def asl (N:Nat) (L:List aK) (hN:1048777 < N) (hS:∀ x,x∈L->yF x) (hok:zL N L=some true) (hsh:za L=true) (hE:∀ t,TA L t 0 (L.length - 1)->nR t.kind=true):∃ t,ExR N L t:=by
 obtain ⟨l1,l2,_,_,_,_,_,t,ht⟩:=Kj hsh;have hp:=ht.part;have hg:=axo N L ah hsh hok t 0 _ ht (hE t ht);refine ⟨t,?_,ht,ah,ayf N L ah hS hsh ht hok,ayg hS ht,hg,axx N L ah hsh hok ht hg,hsh,hok⟩;have e:L.length - 1+1=L.length:=ah;rw [e] at hp;rw [<- hp.2.2,anM]
def asB (N:Nat) (L:List aK) (t:aA) (hN:1048777 < N) (r:ExR N L t) (hex:Ki N L=some true) (p:aN) (hp:posB p=true):XA N L p=some (gq false t p):=by
 obtain ⟨l1,l2,_⟩:=Kj r.sh;have hT:=r.ta;obtain ⟨n,hn,e1,_⟩:=hT.node;have hsz:=r.sz;unfold XA;rw [hex,agV,hp,wrap64 ah ah,show (L.length:Int) - 1=((L.length - 1:Nat):Int) by omega,QC hn];have hk:(n.Kind==16)=false:=by
  have g:=(mD r.g).e;rw [e1] at g;unfold nR at g;simp only [dL,lG] at g;simp;omega
 simp only [av,kE,aG,hk];have:=zw (spB L false t r.g) 0 (L.length - 1) N p hT hp ah ah;have e:gu N (⟨L,false⟩:gV) ((L.length - 1:Nat):Int) p=some (gq false t p):=this;rw [e,av]
def anN (G:Nat) (t:aA) (ht:aZ t<=1000000) (ih:∀ k,k∈t.kids->(OP G).zV k=some (aZ k:Int)):∀ (ts:List aA) (n j m:Nat),t.kids.drop j=ts->ts.length < n->j<=t.kids.length->m+aW ts<=1000000->
  Lm G (OP G) n (t,(m:Int),(j:Int))=some ((m+aW ts:Nat):Int)
 | [],n,j,m,hd,hn,hj,hm=>by
  obtain ⟨n,rfl⟩:∃ q,n=q+1:=⟨n - 1,by simp at hn;omega⟩
  have hlt: ¬j < t.kids.length:=by
   intro h;rw [drop_cons h] at hd;cases hd
  rw [Lm];simp only [iW hlt,aG,aW,Ht]
 | k::ts,n,j,m,hd,hn,hj,hm=>by
  simp only [fT] at hn;rw [aW] at hm;obtain ⟨n,rfl⟩:∃ q,n=q+1:=⟨n - 1,ah⟩
  have hlt:j < t.kids.length:=by
   cases xA j t.kids.length with
   | inl h=>exact h
   | inr h=>rw [AJ h] at hd;cases hd
  have htl:=BL t.kids;have hs:=Pq t;rw [drop_cons hlt] at hd;injection hd with hd1 hd2;rw [Lm];simp only [gJ hlt,aH,bS hlt,av,hd1,ih k<|by rw [<- hd1];exact mQ hlt];rw [wrap64 (n:=(m:Int)+(aZ k:Int)) ah ah,Nh hlt<|by simp only [maxLen];omega];have:=anN G t ht ih ts n (j+1) (m+aZ k) hd2 ah ah ah;refine Hw this ?_;rw [aW,Kn]
def anO:∀ (t:aA) (N:Nat),2*aZ t+2<=N->aZ t<=1000000->(OP N).zV t=some (aZ t:Int):=by
 intro t;induction t using nN with
 | h t ih=>
  intro N hN hsz;obtain ⟨M,rfl⟩:∃ M,N=M+1:=⟨N - 1,ah⟩
  have hs:=Pq t;have htl:=BL t.kids;have:=anN M t hsz (fun k hk=>ih k hk M (by have:=Ju hk;omega) (by have:=Ju hk;omega)) t.kids M 0 1 rfl ah ah ah;refine Hw this ?_;rw [hs,Nat.add_comm]
mutual
def aco (f:Bool):∀ (t:aA) (p:aN),(lU f t p).length+3<=7*aZ t
 | ⟨k,o,x,y,ks⟩,p=>by
  have h1:=anP k o x (dI f k o ks.length 0 p ks);have h2:=anQ f k o ks.length p ks 0;have h3:=TT f k o ks.length p ks 0;rw [lU,aZ];omega
def anQ (f:Bool) (k o:Int) (n:Nat) (p:aN):∀ (ts:List aA) (j:Nat),((dI f k o n j p ts).map List.length).sum+ts.length<=7*aW ts
 | [],j=>by rw [dI];simp
 | t::ts,j=>by
  have h1:=anQ f k o n p ts (j+1);have h2:=aco f t (dJ k o n j p);have h3:=aco f t bG;rw [dI,aW];simp only [jV,MO,fT];cases tgt k j<;>simp only [aH,aG]
  .unfold qj;cases BK f t.kind t.op (dJ k o n j p)<;>simp only [aH,aG,fT,jQ,zA]<;>omega
  .omega
end
def asz (f:Bool) (t:aA) (p:aN):(gq f t p).length+1<=7*aZ t:=by
 have h2:=aco f t p;have h3:=aco f t bG;unfold gq qj;cases BK f t.kind t.op p<;>simp only [aH,aG,fT,jQ,zA]<;>omega
def ayh (k:Int):(spl k).length<=10:=by
 have key:∃ x:List UInt8,CX k=some x/\x.length<=10:=by
  unfold CX;rw [zX,zX,abO,agq];simp only [av];cases h1:(k==1) with
  | true=>exact ⟨[10],rfl,aF⟩
  | false=>
   cases h2:(decide (k>=10)&&decide (k<=26)) with
   | true=>
    simp only [dL,lG] at h2;obtain ⟨j,rfl⟩:∃ j:Nat,k=(j:Int)+10:=⟨(k - 10).toNat,ah⟩
    have hl:sF.length=17:=rfl;have hw:IntKind.wrap .i64 ((j:Int)+10 - 10)=(j:Int):=by rw [wrap64 ah ah];omega
    have ha:(sF.all fun x=>decide<|x.length<=10)=true:=rfl;rw [aG,aH,hw,bS ah];exact ⟨_,rfl,nU<|kW.1 ha _<|mQ _⟩
   | false=>
    cases h3:(decide (k>=30)&&decide (k<=68)) with
    | true=>
     simp only [dL,lG] at h3;obtain ⟨j,rfl⟩:∃ j:Nat,k=(j:Int)+30:=⟨(k - 30).toNat,ah⟩
     have hl:zx.length=39:=rfl;have hw:IntKind.wrap .i64 ((j:Int)+30 - 30)=(j:Int):=by rw [wrap64 ah ah];omega
     have ha:(zx.all fun x=>decide<|x.length<=10)=true:=rfl;rw [aG,aG,aH,hw,bS ah];exact ⟨_,rfl,nU<|kW.1 ha _<|mQ _⟩
    | false=>exact ⟨[],rfl,aF⟩
 obtain ⟨x,h1,h2⟩:=key;have:=agz k;rw [h1] at this;rw [<- kD this];exact h2
def jG (x:List aC):Prop:=∀ t,t∈x->TJ t
def jG.nil:jG []:=fun t h=>by cases h
def jG.app {x y:List aC} (hx:jG x) (hy:jG y):jG (x++y):=fun t h=>by
 rcases jo.1 h with h|h
 .exact hx t h
 .exact hy t h
def jG.one {k:Int} {x:List UInt8} (hx:x.length<=1048576):jG [⟨k,x,0⟩]:=fun u h=>by rw [nG.1 h];exact hx
def jG.sg (k:Int):jG [sg k]:=.one (by have:=ayh k;omega)
def jG.cons {t:aC} {x:List aC} (ht:jG [t]) (hx:jG x):jG (t::x):=.app (x:=[t]) ht hx
def jG.getD {l:List (List aC)} (h:∀ x,x∈l->jG x) (j:Nat):jG (l.getD j []):=by
 rw [Hl];cases e:l[j]? with
 | none=>exact .nil
 | some x=>exact h x (nT e)
def anR:∀ (l:List (List aC)) (b:Bool),(∀ x,x∈l->jG x)->jG (bW b l)
 | [],b,_=>by rw [bW];exact .nil
 | x::l,b,h=>by
  rw [bW];refine .app ?_ (.app (h x aF)<|anR l true fun y hy=>h y<|by simp [hy]);cases b with
  | false=>exact .nil
  | true=>exact .sg 36
def jG.par {b:Bool} {x y:List aC} (hx:jG x) (hy:jG y):jG (qj b x y):=by
 cases b with
 | false=>exact hx
 | true=>exact .cons (.sg 32) (.app hy<|.sg 33)
def ayi (k o:Int) (x:List UInt8) (hx:x.length<=1048576) (l:List (List aC)) (hl:∀ x,x∈l->jG x):jG (fG k o x l):=by
 have d:=jG.getD hl;have li:=anR l false hl;have cd:∀ (b:Bool) (u v:List aC),jG u->jG v->jG (bif b then u else v):=fun b u v h1 h2=>by cases b<;>assumption
 unfold fG;exact cd _ _ _ (.one hx) <| cd _ _ _ (.one hx) <| cd _ _ _ (.one hx) <| cd _ _ _ (.one hx)
  <| cd _ _ _ (.cons (.one hx)<|.cons (.sg _)<|.app li<|.sg _) <| cd _ _ _ (.cons (.one hx)<|.cons (.sg _)<|.app li<|.sg _) <| cd _ _ _ (.cons (.one hx)<|.cons (.sg _)<|.app li<|.sg _)
  <| cd _ _ _ (.cons (.sg _)<|d 0) <| cd _ _ _ (.cons (.sg _)<|d 0) <| cd _ _ _ (.cons (.sg _)<|d 0) <| cd _ _ _ (.app (d 0)<|.sg _)
  <| cd _ _ _ (.app (cd _ _ _ (.cons (.sg _)<|.app li<|.sg _)<|d 0)<|.cons (.sg _)<|.one hx)
  <| cd _ _ _ (.app (d 0)<|.cons (.sg _)<|.app (d 1)<|.cons (.sg _)<|d 2) (.app (d 0)<|.app (cd _ _ _ .nil<|.sg _)<|d 1)
def TxA (t:aA):Prop:=t.text.length<=1048576
mutual
def anS:∀ (t:aA) (b:Nat),(∀ x,x∈bN b t->tx x)->allT TxA t
 | ⟨k,o,x,y,ks⟩,b,h=>by
  rw [bN] at h;rw [allT];exact ⟨(h ⟨k,o,x,y,lW b ks⟩ aF).1,anT ks b fun x hx=>h x<|by simp [hx]⟩
def anT:∀ (ts:List aA) (b:Nat),(∀ x,x∈jB b ts->tx x)->zZ TxA ts
 | [],b,h=>by rw [zZ];trivial
 | t::ts,b,h=>by
  rw [jB] at h;rw [zZ];exact ⟨anS t b fun x hx=>h x (by simp [hx]),anT ts _ fun x hx=>h x<|List.mem_append_right _ hx⟩
end
def anU (f:Bool):∀ t:aA,allT TxA t->∀ p,jG (lU f t p):=by
 intro t;induction t using nN with
 | h t ih=>
  intro hg p;rw [Jq];refine ayi _ _ _ (mD hg) _ ?_;have key:∀ (ts:List aA) (j:Nat),(∀ u,u∈ts->u∈t.kids)->∀ x,x∈dI f t.kind t.op t.kids.length j p ts->jG x:=by
   intro ts;induction ts with
   | nil=>intro j _ x hx;rw [dI] at hx;cases hx
   | cons u ts ih2=>
    intro j hm x hx;rw [rD] at hx;rcases fF.1 hx with rfl|hx
    .have hu:=hm u aF;have hB:=ih u hu (nO hg u hu);unfold jM gq;cases tgt t.kind j with
     | true=>exact hB _
     | false=>exact jG.par (hB _) (hB _)
    .exact ih2 (j+1) (fun v hv=>hm v<|by simp [hv]) x hx
  exact key t.kids 0 fun u hu=>hu
def asv (f:Bool) (t:aA) (hx:txT t) (p:aN):jG (gq f t p):=by
 have h:=anS t 0 hx;unfold gq;exact jG.par (anU f t h p) (anU f t h bG)
def ayj (k:Int):Gj k=some (jL k):=by
 unfold Gj jL;cases (k==32)<;>cases (k==34)<;>rfl
def ayk (k:Int):Gl k=some (lS k):=by
 unfold Gl lS;cases (k==33)<;>cases (k==35)<;>rfl
def ayl (N:Nat) (a:List aC) (ha:a.length<=3000):∀ (n i d:Nat),a.length - i < n->i<=a.length->d<=40->∃ r,EG N n (a,(d:Int),(i:Int))=some r/\(fK d (a.drop i)=true->r= -1)/\(fK d (a.drop i)=false->0<=r/\r < (a.length:Int)):=by
 intro n;induction n with
 | zero=>intro i d h;omega
 | succ n ih=>
  intro i d hn hi hd;rw [EG];by_cases hlt:i < a.length
  .have k2:∀ (d':Nat) (v:Int),v=(d':Int)->d'=om d a[i].Kind->∃ r,OB N (EG N n) ((i:Int),a,v)=some r/\(fK d (a.drop i)=true->r= -1)/\(fK d (a.drop i)=false->0<=r/\r < (a.length:Int)):=fun d' v hv hd'=>by
    subst hv;unfold OB;dsimp only;rw [zB hlt,fK,<- hd'];by_cases ER:d'<=40
    .rw [nE (show¬(d':Int) > 40 by omega),fU ER,aG,wrap64 ah ah,show (i:Int)+1=((i+1:Nat):Int) by omega,rO];exact ih (i+1) d' ah ah ER
    .rw [fU (show (d':Int) > 40 by omega),nE ER,aH,Ec];exact ⟨_,rfl,(fun h=>by cases h),fun _=>⟨ah,ah⟩⟩
   rw [gJ hlt,aH,bS hlt,av,ayj,av,ayk,av];cases ho:jL a[i].Kind with
   | true=>
    rw [aH,wrap64 ah ah];exact k2 (d+1) _ ah (by unfold om;rw [ho,(Pf ho).1];rfl)
   | false=>
    rw [aG];cases hc:lS a[i].Kind with
    | true=>
     rw [aH,wrap64 ah ah];exact k2 (d - 1) _ (by split<;>omega) (by unfold om;rw [ho,hc];rfl)
    | false=>
     rw [aG];exact k2 d _ rfl (by unfold om;rw [ho,hc];rfl)
  .rw [iW hlt,aG];exact ⟨-1,rfl,fun _=>rfl,fun h=>by rw [AJ ah] at h;cases h⟩
def aym (N:Nat) (a:List aC) (ha:a.length<=3000) (hN:3000 < N):∃ r,abD N a=some r/\(fK 0 a=true->r= -1)/\(fK 0 a=false->0<=r/\r < (a.length:Int)):=by
 have:=ayl N a ha N 0 0 ah ah ah;rw [zC] at this;exact this
def anV (N:Nat) (a:List aC) (ha:a.length<=3000) (hN:3000 < N) (h:OA N a=some true):∃ c,OD N a=some c/\(fK 0 a=true->c=⟨0,0⟩)/\(fK 0 a=false->c.Kind=4):=by
 obtain ⟨r,r1,r2,r3⟩:=aym N a ha hN;unfold OD;rw [h,av,r1];simp only [kE,aG,av];cases hn:fK 0 a with
 | true=>
  rw [r2 hn];exact ⟨_,rfl,fun _=>rfl,fun h=>by cases h⟩
 | false=>
  obtain ⟨g1,g2⟩:=r3 hn;obtain ⟨j,rfl⟩:∃ j:Nat,r=(j:Int):=⟨r.toNat,ah⟩
  have hj:j < a.length:=ah;rw [fU (show (j:Int)>=0 by omega),aH];unfold OC;rw [gJ hj,aH,bS hj];exact ⟨_,rfl,(fun h=>by cases h),fun _=>rfl⟩
def ayn (N:Nat) (hN:2000000<=N) (l:List aC) (hl:l.length<=3000) (t:aA) (h:Bool) (d:bV l bG 0 l.length t h) (hz:aZ t<=400) (hd:jU t<=40) (hto:OA N l=some true):∃ r,Jk N l bG=some r/\(fK 0 l=true->r=(bN 0 t,(l.length:Int),⟨0,0⟩))/\(fK 0 l=false->r.2.2.Kind=4):=by
 obtain ⟨c,c1,c2,c3⟩:=anV N l hl ah hto;unfold Jk;rw [agX,show posB bG=true from rfl,c1];simp only [av,kE,aG];cases hn:fK 0 l with
 | false=>
  have h4:=c3 hn;rw [h4];exact ⟨_,rfl,(fun h=>by cases h),fun _=>h4⟩
 | true=>
  have e0:=c2 hn;subst e0;have hk:kd l l.length=0:=by unfold kd;rw [AA<|cZ _];rfl
  have hr:=ayo l hl d hz bG rfl rfl 1 ah ah (d.lvl rfl) (by rw [hk];exact ayp _);have n1:(1:Int).toNat=1:=rfl;have e:=hr N (by show _+4*(16 - (1:Int).toNat)<=N;omega) [];have e':Ji N bG l 0 false []=some (eY t h,(l.length:Int),false,[]):=by
   have e2:oW N ⟨false,false⟩ l 0 false []=some (eY t h,(l.length:Int),false,[]):=e;unfold Ji;show Option.bind (oW N ⟨false,false⟩ l 0 false []) _=_;rw [e2];rfl
  rw [e'];simp only [av,aG];have hb:Tx N (eY t h).tree=some ⟨0,0⟩:=by
   unfold Tx;have e1:zV N t=some (aZ t:Int):=anO t N ah ah;have e2:zW N t=some (jU t:Int):=anW t N ah ah;show Option.bind (zV N t) _=_;rw [e1,av,nE (show¬(aZ t:Int) > 400 by omega),aG];show Option.bind (zW N t) _=_;rw [e2,av,nE (show¬(jU t:Int) > 40 by omega),aG]
  have hL:Lu N (eY t h).tree=some (bN 0 t):=agY N t ah ah;rw [hb,hL];exact ⟨_,rfl,fun _=>rfl,fun h=>by cases h⟩
def ayq {k o v v':Int} {a g:Bool} (h:dD k o ⟨v,false,a,g,false⟩=true) (h1:1<=v') (h2:v'<=v):dD k o ⟨v',false,a,g,false⟩=true:=by
 unfold dD posB at h ⊢;simp only [dL,lH,kX,ME,Bool.not_eq_false',lG,Ec,MK,dN,rO,Kt,Bool.true_or] at h ⊢;obtain ⟨⟨⟨⟨p1,p2⟩,p3⟩,p4⟩,p5,p6,p7⟩:=h;exact ⟨⟨⟨⟨h1,ah⟩,trivial⟩,p4⟩,p5,p6,ah⟩
def bV.down {l:List aC} {v v':Int} {a g:Bool} {i j:Nat} {t:aA} {h:Bool} (d:bV l ⟨v,false,a,g,false⟩ i j t h) (h1:1<=v') (h2:v'<=v):bV l ⟨v',false,a,g,false⟩ i j t h:=by
 cases d with
 | par g1 g2 g3 g4 g5=>exact .par g1 g2 g3 g4 g5
 | bare g1 g2 g3 g4=>exact .bare (ayq g1 h1 h2) g2 g3 ((abT l (j - i) i j<|cZ _).1 ⟨v,false,a,g,false⟩ ⟨v',false,a,g,false⟩ t g2 (fun h=>h) (fun h=>h) (fun h=>h) g4)
def anX (l:List aC):∀ (n i j:Nat),j - i<=n->qm (kd l i)=true->(∀ v a g t,i < j->dH l ⟨v,false,a,g,false⟩ i j t->dH l ⟨v,false,a,g,true⟩ i j t)/\(∀ v a g t h,bV l ⟨v,false,a,g,false⟩ i j t h->bV l ⟨v,false,a,g,true⟩ i j t h):=by
 intro n;induction n with
 | zero=>exact fun i j hn hb=>⟨fun v a g t hij=>ah,fun v a g t h d=>by have:=d.lt;omega⟩
 | succ n ih=>
  intro i j hn hb;have hN:∀ v a g t,i < j->dH l ⟨v,false,a,g,false⟩ i j t->dH l ⟨v,false,a,g,true⟩ i j t:=by
   intro v a g t hij d;cases d with
   | leaf k h1 h2=>exact .leaf k h1 h2
   | name h1=>exact .name h1
   | index h1 h2 h3 h4 h5 h6 h7=>exact .index h1 h2 h3 h4 h5 h6 h7
   | nI k h1 h2 h3 h4=>exact .nI k h1 h2 h3 h4
   | call k h1 h2 h3 h4 h5 h6 h7 h8=>exact .call k h1 h2 h3 h4 h5 h6 h7 h8
   | len h1 h2 h3=>exact .len h1 h2 h3
   | field h1 h2 h3=>exact .field h1 h2 h3
   | pre o h1 h2 h3 h4 h5=>exact .pre o h1 h2 h3 h4 h5
   | post o h1 h2 h3 h4 h5=>exact .post o h1 h2 h3 h4 h5
   | unary o h1 h2 h3 h4=>exact .unary o h1 h2 h3 h4
   | bin o h1 h2 h3 h4 h5 h6 h7 h8=>
    have:=zY h6;have:=h8.lt;have:=h7.lt;exact .bin o h1 h2 h3 h4 h5 h6 ((ih _ _ ah hb).2 _ _ _ _ _ h7) h8
   | cat h1 h2 h3 h4=>exact .cat h1 h2 ((ih _ _ ah hb).2 _ _ _ _ _ h3) h4
   | one h1 h2 h3 h4=>exact .one h1 h2 h3 ((ih _ _ ah hb).2 _ _ _ _ _ h4)
   | many h1 h2 h3 h4 h5 h6 h7 h8=>exact .many h1 h2 h3 h4 h5 h6 h7 h8
   | cond h1 h2 h3 h4 h5 h6 h7 h8=>exact .cond h1 h2 h3 h4 h5 ((ih _ _ ah hb).2 _ _ _ _ _ h6) h7 h8
   | assign o h1 h2 h3 h4 h5 h6 h7=>exact .assign o h1 h2 h3 h4 h5 h6 h7
  refine ⟨hN,fun v a g t h d=>?_⟩;cases d with
  | par h1 h2 h3 h4 h5=>exact .par h1 h2 h3 h4 h5
  | bare h1 h2 h3 h4=>
   have no:=ayr hb;have k11:t.kind≠11/\t.kind≠9/\t.kind≠4:=by
    cases h4 with
    | leaf k e1 e2=>
     refine ⟨by show k - 1≠11;omega,by show k - 1≠9;omega,?_⟩;show k - 1≠4;intro e;have:k=5:=ah;rw [e2,this] at hb;cases hb
    | unary o e1 e2=>omega
    | pre o e1 e2=>omega
    | name=>exact ⟨by show (1:Int)≠11;decide,by show (1:Int)≠9;decide,by show (1:Int)≠4;decide⟩
    | index=>exact ⟨by show (5:Int)≠11;decide,by show (5:Int)≠9;decide,by show (5:Int)≠4;decide⟩
    | nI k e1|call k e1=>exact ⟨by show k≠11;omega,by show k≠9;omega,by show k≠4;omega⟩
    | len=>exact ⟨by show (8:Int)≠11;decide,by show (8:Int)≠9;decide,by show (8:Int)≠4;decide⟩
    | field=>exact ⟨by show (6:Int)≠11;decide,by show (6:Int)≠9;decide,by show (6:Int)≠4;decide⟩
    | post=>exact ⟨by show (10:Int)≠11;decide,by show (10:Int)≠9;decide,by show (10:Int)≠4;decide⟩
    | bin|cat=>exact ⟨by show (12:Int)≠11;decide,by show (12:Int)≠9;decide,by show (12:Int)≠4;decide⟩
    | one|many=>exact ⟨by show (13:Int)≠11;decide,by show (13:Int)≠9;decide,by show (13:Int)≠4;decide⟩
    | cond=>exact ⟨by show (14:Int)≠11;decide,by show (14:Int)≠9;decide,by show (14:Int)≠4;decide⟩
    | assign=>exact ⟨by show (15:Int)≠11;decide,by show (15:Int)≠9;decide,by show (15:Int)≠4;decide⟩
   refine .bare ?_ h2 h3 (hN v a g t h2 h4);obtain ⟨q1,q2,q3⟩:=k11;have f:∀ {z:Int},t.kind≠z->(t.kind==z)=false:=fun h=>by simpa using h
   unfold dD posB at h1 ⊢;simp only [f q1,f q2,f q3,MK,Bool.or_false,dL] at h1 ⊢;exact h1
def Pt {l:List aC} {v:Int} {a g:Bool} {i m f j:Nat} {x y:aA} {h1 h2:Bool} (o:Int) (ho:bg o=v) (hv:1<=v/\v<=15) (iF:o≠99) (hgt:g=true->o≠62) (hk:kd l m=o) (hln:(bg o=3\/bg o=4)/\Ln l (m+1) f\/ ¬(bg o=3\/bg o=4)/\f=m+1) (hx:bV l ⟨(jk o).1,false,a,g,false⟩ i m x h1) (hy:bV l ⟨(jk o).2,false,a,g,false⟩ f j y h2):bV l ⟨v,false,a,g,false⟩ i j ⟨12,o,[],[],[x,y]⟩ false:=by
 have lx:=hx.lt;have ly:=hy.lt;have:=zY hln;refine .bare ?_ ah ly.2 (.bin o ah iF hk lx.1 ly.1 hln hx hy);have hl:lv 12 o=v:=ho;have h1:(v==0)=false:=by rw [QJ];omega
 have hg:(g&&o==62)=false:=by
  cases g with
  | false=>rfl
  | true=>have:=hgt rfl;simpa using this
 unfold dD posB;rw [hl];have d1:decide (v>=1)=true:=fU hv.1;have d2:decide (v<=15)=true:=fU hv.2;show (!(!((decide (v>=1)&&decide (v<=15))&&(!false||v==14))||v==0)&&(!(a&&(12:Int)==13)&&(!(g&&((12:Int)==12&&o==62))&&(!(false&&_)&&((false&&_)||decide (v>=v))))))=true;have e1:((12:Int)==13)=false:=rfl;have e2:((12:Int)==12)=true:=rfl;rw [d1,d2,h1,e1,e2,fU<|Cu v];simp only [rO,hg];simp
def agZ (l:List aC) (hl:l.length<=3000) (hc:∀ k,kd l k≠2) (N':Nat) (ns:List (List UInt8)):∀ (fuel a:Nat) (f:Int) (ns':List (List UInt8)),a<=l.length->Bv N' l false fuel ((a:Int),ns)=some (f,ns')->ns'=ns/\∃ b:Nat,f=(b:Int)/\Ln l a b/\b<=l.length:=by
 intro fuel;induction fuel with
 | zero=>intro a f ns' _ h;cases h
 | succ n ih=>
  intro a f ns' ha h;rw [Bv,dN,aH,bL,av] at h;cases h1:(kd l a==1) with
  | true=>
   have e:=eq_of_beq h1;have hlt:=dG (l:=l) (i:=a) (by rw [e];decide);rw [h1,aH] at h;unfold Tm at h;dsimp only at h;rw [dR (kG hlt)<|show l.length<=100000 by omega] at h;obtain ⟨q1,b,q2,q3,q4⟩:=ih (a+1) f ns' ah h;refine ⟨q1,b,q2,⟨by have:=q3.1;omega,fun k g1 g2=>?_,q3.2.2⟩,q4⟩;by_cases ek:k=a
   .subst ek;exact e
   .exact q3.2.1 k ah g2
  | false=>
   have e1:kd l a≠1:=by simpa using h1
   have h2:(kd l a==2)=false:=by simpa using hc a
   rw [h1,h2,aG,aG] at h;cases h;exact ⟨rfl,a,rfl,⟨cZ _,fun k g1 g2=>ah,e1,hc a⟩,ha⟩
section
variable (l:List aC) (hl:l.length<=3000) (hc:∀ k,kd l k≠2)
def Sn (l:List aC) (v:Int) (a g:Bool) (i:Nat) (x:Option (dx×Int×Bool×List (List UInt8))):Prop:=∀ (t:aA) (tg:Bool) (j:Int) (ns:List (List UInt8)),x=some (⟨t,tg⟩,j,false,ns)->∃ (k:Nat) (h:Bool),j=(k:Int)/\bV l ⟨v,false,a,g,false⟩ i k t h/\tg=(!h&&eT t.kind)
def SnL (l:List aC) (i:Nat) (x:Option (dx×Int×Bool×List (List UInt8))):Prop:=∀ (t:aA) (tg:Bool) (j:Int) (ns:List (List UInt8)),x=some (⟨t,tg⟩,j,false,ns)->∃ k:Nat,j=(k:Int)/\i < k/\k<=l.length/\dH l wZ i k t/\eT t.kind=true/\tg=true
def SnV (l:List aC) (i:Nat) (x:Option (dx×Int×Bool×List (List UInt8))):Prop:=∀ (t:aA) (tg:Bool) (j:Int) (ns:List (List UInt8)),x=some (⟨t,tg⟩,j,false,ns)->∃ k:Nat,j=(k:Int)/\i < k/\k<=l.length/\dH l wZ i k t/\(t.kind=1\/t.kind=5)/\tg=true
def SnB (l:List aC) (i:Nat) (x:Option (dx×Int×Bool×List (List UInt8))):Prop:=∀ (t:aA) (tg:Bool) (j:Int) (ns:List (List UInt8)),x=some (⟨t,tg⟩,j,false,ns)->∃ k:Nat,j=(k:Int)/\i < k/\k<=l.length/\dH l wZ i k t/\t.kind=9/\tg=false
def SnI (l:List aC) (i:Nat) (x:Option (List aA×Int×Bool×List (List UInt8))):Prop:=∀ (ts:List aA) (j:Int) (ns:List (List UInt8)),x=some (ts,j,false,ns)->∃ k:Nat,j=(k:Int)/\oZ l i k ts/\ts.length<=6
def SnS (l:List aC) (en:Int) (i:Nat) (x:Option (List aA×Int×Bool×List (List UInt8))):Prop:=∀ (ts:List aA) (j:Int) (ns:List (List UInt8)),x=some (ts,j,false,ns)->(ts=[]/\en=33/\kd l i=33/\j=((i+1:Nat):Int))\/∃ k:Nat,j=((k+1:Nat):Int)/\kd l k=en/\oZ l i k ts/\ts.length<=6
structure mM (l:List aC) (M:Nat):Prop where
 Jv:∀ (i:Nat) ns a g,i<=l.length->Sn l 1 a g i ((aL M).oW ⟨a,g⟩ l (i:Int) false ns)
 cd:∀ (i:Nat) ns a g,i<=l.length->Sn l 2 a g i ((aL M).tq ⟨a,g⟩ l (i:Int) false ns)
 orr:∀ (i:Nat) ns a g,i<=l.length->Sn l 3 a g i ((aL M).zR ⟨a,g⟩ l (i:Int) false ns)
 an:∀ (i:Nat) ns a g,i<=l.length->Sn l 4 a g i ((aL M).xU ⟨a,g⟩ l (i:Int) false ns)
 inn:∀ (i:Nat) ns a g,i<=l.length->Sn l 5 a g i ((aL M).xS ⟨a,g⟩ l (i:Int) false ns)
 ma:∀ (i:Nat) ns a g,i<=l.length->Sn l 6 a g i ((aL M).yQ ⟨a,g⟩ l (i:Int) false ns)
 cm:∀ (i:Nat) ns a g,i<=l.length->Sn l 7 a g i ((aL M).wU ⟨a,g⟩ l (i:Int) false ns)
 ct:∀ (i:Nat) ns a g,i<=l.length->Sn l 8 a g i ((aL M).vE ⟨a,g⟩ l (i:Int) false ns)
 ad:∀ (i:Nat) ns a g,i<=l.length->Sn l 9 a g i ((aL M).xQ ⟨a,g⟩ l (i:Int) false ns)
 mu:∀ (i:Nat) ns a g,i<=l.length->Sn l 10 a g i ((aL M).xP ⟨a,g⟩ l (i:Int) false ns)
 un:∀ (i:Nat) ns a g,i<=l.length->Sn l 11 a g i ((aL M).ru ⟨a,g⟩ l (i:Int) false ns)
 pw:∀ (i:Nat) ns a g,i<=l.length->Sn l 12 a g i ((aL M).zQ ⟨a,g⟩ l (i:Int) false ns)
 ic:∀ (i:Nat) ns a g,i<=l.length->Sn l 13 a g i ((aL M).zP l (i:Int) false ns)
 fd:∀ (i:Nat) ns a g,i<=l.length->Sn l 14 a g i ((aL M).qh l (i:Int) false ns)
 pr:∀ (i:Nat) ns a g,i<=l.length->Sn l 15 a g i ((aL M).Bw l (i:Int) false ns)
 bf:∀ (i:Nat) ns,kd l i=51\/kd l i=52->SnB l i ((aL M).xO l (i:Int) false ns)
 lvl:∀ (i:Nat) ns,i<=l.length->SnL l i ((aL M).IW l (i:Int) false ns)
 vr:∀ (i:Nat) ns,kd l i=6->SnV l i ((aL M).xM l (i:Int) false ns)
 f8:∀ (i:Nat) ns,kd l i=68->SnL l i ((aL M).qh l (i:Int) false ns)
 it:∀ (i:Nat) ns,i<=l.length->SnI l i ((aL M).Dj ⟨false,false⟩ l (i:Int) false ns)
 ls:∀ (i:Nat) ns en,en=33\/en=35->i<=l.length->SnS l en i ((aL M).xR en l (i:Int) false ns)
theorem Sn.down {v v':Int} {a g:Bool} {i:Nat} {x:Option (dx×Int×Bool×List (List UInt8))} (h:Sn l v a g i x) (h1:1<=v') (h2:v'<=v):Sn l v' a g i x:=fun t tg j ns e=>by
 obtain ⟨k,hh,q1,q2,q3⟩:=h t tg j ns e;exact ⟨k,hh,q1,q2.down h1 h2,q3⟩
theorem ahb {p:aN} {i j:Nat} {t:aA} (hv:dD t.kind t.op p=true) (d:dH l wZ i j t) (hk:t.kind<=9) (h1:i < j) (h2:j<=l.length):bV l p i j t false:=.bare hv h1 h2 (d.low hk p)
theorem Dx {k o v:Int} {a g:Bool} (hl:lv k o>=v) (h0:lv k o≠0) (hv:1<=v/\v<=15) (hk:k≠13/\k≠12):dD k o ⟨v,false,a,g,false⟩=true:=by
 have e0:(lv k o==0)=false:=by simpa using h0
 have e1:(k==13)=false:=by simpa using hk.1
 have e2:(k==12)=false:=by simpa using hk.2
 unfold dD posB;rw [e0,e1,e2,fU hv.1,fU hv.2];simp only [MK,Ec,dN,rO,kE,Bool.or_false,Kt,Bool.true_or];exact fU hl
include hl
theorem ays {M:Nat} (S:mM l M) (i:Nat) (ns:List (List UInt8)) (hk:kd l i=6):SnV l i (EH M (aL M) l (i:Int) false ns):=by
 intro t tg j ns' h;have hlt:=dG (l:=l) (i:=i) (by rw [hk];decide);unfold EH uh at h;rw [bS hlt,av,dR (kG hlt) (show l.length<=100000 by omega),av] at h;dsimp only at h;rw [bL,av] at h;cases LP:(kd l (i+1)==34) with
 | true=>
  have e34:=eq_of_beq LP;have hlt2:=dG (l:=l) (i:=i+1) (by rw [e34];decide);rw [LP,aH,dR (kG hlt2)<|show l.length<=100000 by omega] at h;obtain ⟨⟨ts,j1,b1,n1⟩,hr,h⟩:=dB.1 h;unfold Tp at h;dsimp only at h;cases h;rcases S.ls (i+1+1) ns 35 (.inr rfl) ah _ _ _ hr with ⟨_,e,_⟩|⟨k,q1,q2,q3,q4⟩
  .cases e
  .have:=q3.lt;have hkl:=dG (l:=l) (i:=k) (by rw [q2];decide);refine ⟨k+1,q1,ah,ah,?_,.inr rfl,rfl⟩;rw [<- ze hlt];exact .index hk e34 ah hkl q2 q4 q3
 | false=>
  rw [LP,aG] at h;unfold Tp at h;dsimp only at h;cases h;refine ⟨i+1,rfl,ah,hlt,?_,.inl rfl,rfl⟩;rw [<- ze hlt];exact .name hk
theorem XW {en:Int} {k:Nat} {b:Bool} {ns:List (List UInt8)} {x:Bool} {j:Int} (hk:k<=l.length) (h:ug en l (k:Int) b ns=some (x,j,false)):x=true/\b=false/\kd l k=en/\j=((k+1:Nat):Int):=by
 cases b with
 | true=>rw [aob] at h;cases h
 | false=>
  by_cases e:kd l k=en
  .rw [LQ ns ah e] at h;cases h;exact ⟨rfl,rfl,e,rfl⟩
  .rw [acs false ns e] at h;cases h
theorem ayt {M:Nat} (S:mM l M) (i:Nat) (ns:List (List UInt8)) (en:Int) (hen:en=33\/en=35) (hi:i<=l.length):SnS l en i (Dn M (aL M) en l (i:Int) false ns):=by
 intro ts j ns' h;unfold Dn at h;rw [bL,av] at h;have go:Option.bind ((aL M).Dj ⟨false,false⟩ l (i:Int) false ns) (fun r8=>(ug en l r8.2.1 r8.2.2.1 r8.2.2.2).bind fun bJ=>some (r8.1,bJ.2.1,bJ.2.2,r8.2.2.2))=some (ts,j,false,ns')->∃ k:Nat,j=((k+1:Nat):Int)/\kd l k=en/\oZ l i k ts/\ts.length<=6:=fun h=>by
  obtain ⟨⟨ts1,j1,b1,n1⟩,hr,h⟩:=dB.1 h;obtain ⟨⟨x,j2,b2⟩,ht,h⟩:=dB.1 h;cases h;cases b1 with
  | true=>
   exfalso;unfold ug at ht;cases ht
  | false=>
   obtain ⟨k,q1,q2,q3⟩:=S.it i ns hi _ _ _ hr;have:=q2.lt;dsimp only at ht;rw [q1] at ht;obtain ⟨_,_,e1,e2⟩:=XW l hl ah ht;exact ⟨k,e2,e1,q2,q3⟩
 cases h1:(kd l i==en) with
 | true=>
  rw [h1,aH,av] at h;cases h3:(en==33) with
  | true=>
   rw [h3,aH] at h;have e1:=eq_of_beq h1;have e3:=eq_of_beq h3;have hlt:=dG (l:=l) (i:=i) (by rw [e1,e3];decide);rw [dR hi<|show l.length<=100000 by omega] at h;cases h;exact .inl ⟨rfl,e3,by rw [e1,e3],rfl⟩
  | false=>
   rw [h3,aG] at h;exact .inr (go h)
 | false=>
  rw [h1,aG,av,aG] at h;exact .inr (go h)
end
def ayu {l:List aC} {i j:Nat} {t:aA} {h:Bool} (d:bV l ⟨14,false,false,false,false⟩ i j t h):bV l ⟨14,true,false,false,false⟩ i j t h:=by
 cases d with
 | par g1 g2 g3 g4 g5=>exact .par g1 g2 g3 g4 g5
 | bare g1 g2 g3 g4=>
  refine .bare ?_ g2 g3 ((abT l (j - i) i j<|cZ _).1 ⟨14,false,false,false,false⟩ ⟨14,true,false,false,false⟩ t g2 (fun h=>h) (fun h=>h) (fun h=>h) g4);have hlv:(14:Int)<=lv t.kind t.op:=rF g1 rfl;have e0:(lv t.kind t.op==0)=false:=by rw [QJ];omega
  unfold dD posB;rw [e0];simp only [Ec,dN,rO,fU hlv,Bool.or_true,FC];rfl
section
variable (l:List aC) (hl:l.length<=3000)
include hl
theorem ayv {a g:Bool} {i:Nat} (k:Int) (hk:k=3\/k=4\/k=5) (h:kd l i=k):bV l ⟨15,false,a,g,false⟩ i (i+1) ⟨k - 1,0,lD l i,[],[]⟩ false:=by
 have hlt:=dG (l:=l) (i:=i) (by rw [h];omega);refine .bare ?_ ah hlt (.leaf k hk h);rcases hk with rfl|rfl|rfl
 .show dD 2 0 ⟨15,false,a,g,false⟩=true;exact Dx aD aD aD aD
 .show dD 3 0 ⟨15,false,a,g,false⟩=true;exact Dx aD aD aD aD
 .show dD 4 0 ⟨15,false,a,g,false⟩=true;exact Dx aD aD aD aD
theorem ayw {M:Nat} (S:mM l M) (i:Nat) (ns:List (List UInt8)) (a g:Bool) (hi:i<=l.length):Sn l 15 a g i (rX M (aL M) l (i:Int) false ns):=by
 intro t tg j ns' h;unfold rX at h;rw [aG,bL,av] at h;have text:∀ (h0:kd l i≠0),uh l (i:Int) false ns=some (lD l i,((i+1:Nat):Int)):=fun h0=>by
  have hlt:=dG (l:=l) (i:=i) h0;unfold uh;rw [bS hlt,av,dR hi (show l.length<=100000 by omega),ze hlt]
 have leaf:∀ k:Int,(k=3\/k=4\/k=5)->(kd l i==k)=true->Option.bind (uh l (i:Int) false ns) (fun qg=>some ((⟨(⟨k - 1,0,qg.1,[],[]⟩:aA),false⟩:dx),qg.2,false,ns))=some (⟨t,tg⟩,j,false,ns')->∃ (k:Nat) (h:Bool),j=(k:Int)/\bV l ⟨15,false,a,g,false⟩ i k t h/\tg=(!h&&eT t.kind):=fun k hk e h=>by
  have e:=eq_of_beq e;rw [text ah,av] at h;cases h;refine ⟨i+1,false,rfl,ayv l hl k hk e,?_⟩;rcases hk with rfl|rfl|rfl<;>rfl
 have call:∀ k:Int,(k=7\/k=8)->kd l i=k->Gn M (aL M) l ((lD l i,((i+1:Nat):Int)),false,ns,k)=some (⟨t,tg⟩,j,false,ns')->∃ (k:Nat) (h:Bool),j=(k:Int)/\bV l ⟨15,false,a,g,false⟩ i k t h/\tg=(!h&&eT t.kind):=fun k hk e h=>by
  have hlt:=dG (l:=l) (i:=i) ah;have hf:dD k 0 ⟨15,false,a,g,false⟩=true:=by rcases hk with rfl|rfl<;>exact Dx aD aD aD aD
  have hnl:(false:Bool)=(!false&&eT k):=by rcases hk with rfl|rfl<;>rfl
  unfold Gn at h;obtain ⟨⟨x,j2,b2⟩,ht,h⟩:=dB.1 h;dsimp only at ht h;cases x with
  | false=>
   exfalso;rw [aG] at h;unfold OI at h;dsimp only at h;cases h;obtain ⟨e1,_⟩:=XW l hl ah ht;cases e1
  | true=>
   rw [aH] at h;obtain ⟨⟨ts,j3,b3,n3⟩,hr,h⟩:=dB.1 h;unfold OI at h;dsimp only at h;cases h;cases b2 with
   | true=>
    exfalso;by_cases e:kd l (i+1)=32
    .rw [LQ ns ah e] at ht;cases ht
    .rw [acs false ns e] at ht;cases ht
   | false=>
    obtain ⟨_,_,e1,e2⟩:=XW l hl ah ht;have hlt2:=dG (l:=l) (i:=i+1) (by rw [e1];decide);subst e2;rcases S.ls (i+1+1) ns 33 (.inl rfl) ah _ _ _ hr with ⟨q0,_,q1,q2⟩|⟨k2,q1,q2,q3,q4⟩
    .subst q0;have hlt3:=dG (l:=l) (i:=i+1+1) (by rw [q1];decide);exact ⟨i+3,false,q2,.bare hf ah ah<|.nI k hk e e1 q1,hnl⟩
    .have:=q3.lt;have hkl:=dG (l:=l) (i:=k2) (by rw [q2];decide);exact ⟨k2+1,false,q1,.bare hf ah ah<|.call k hk e e1 ah hkl q2 q4 q3,hnl⟩
 cases h3:(kd l i==3) with
 | true=>rw [h3,aH] at h;exact leaf 3 (.inl rfl) h3 h
 | false=>
  rw [h3,aG] at h;cases h4:(kd l i==4) with
  | true=>rw [h4,aH] at h;exact leaf 4 (.inr<|.inl rfl) h4 h
  | false=>
   rw [h4,aG] at h;cases h5:(kd l i==5) with
   | true=>rw [h5,aH] at h;exact leaf 5 (.inr<|.inr rfl) h5 h
   | false=>
    rw [h5,aG] at h;cases h6:(kd l i==6) with
    | true=>
     rw [h6,aH,EX] at h;obtain ⟨k,q1,q2,q3,q4,q5,q6⟩:=S.vr i ns (eq_of_beq h6) _ _ _ _ h;refine ⟨k,false,q1,ahb l ?_ q4 ah q2 q3,?_⟩
     .rcases q5 with e|e<;>rw [e]<;>exact Dx (Cu 15) (show (15:Int)≠0 by decide) aD aD
     .rw [q6];rcases q5 with e|e<;>rw [e]<;>rfl
    | false=>
     rw [h6,aG] at h;unfold Dl at h;dsimp only at h;cases h7:(kd l i==7) with
     | true=>
      have e7:=eq_of_beq h7;have h8:(kd l i==8)=false:=by rw [e7];rfl
      rw [h7,aH,aH,text ah,av,h8,aG] at h;exact call 7 (.inl rfl) e7 h
     | false=>
      rw [h7,aG] at h;cases h8:(kd l i==8) with
      | true=>
       have e8:=eq_of_beq h8;have hlt:=dG (l:=l) (i:=i) ah;rw [h8,aH,text ah,av,aH] at h;dsimp only at h;cases hlen:(lD l i==[108,101,110,103,116,104]) with
       | false=>
        rw [hlen,aG,av,aG] at h;exact call 8 (.inr rfl) e8 h
       | true=>
        rw [hlen,aH,bL,av,av] at h;cases h32:(kd l (i+1) !=32) with
        | false=>
         rw [h32,aG] at h;exact call 8 (.inr rfl) e8 h
        | true=>
         rw [h32,aH] at h;cases h;exact ⟨i+1,false,rfl,.bare (show dD 8 0 ⟨15,false,a,g,false⟩=true from Dx aD aD aD aD) ah hlt (.len e8 (by simpa using h32)<|eq_of_beq hlen),rfl⟩
      | false=>
       rw [h8,aG] at h;cases h32:(kd l i==32) with
       | false=>
        rw [h32,aG] at h;cases h
       | true=>
        have e32:=eq_of_beq h32;have hlt:=dG (l:=l) (i:=i) ah;rw [h32,aH,dR hi<|show l.length<=100000 by omega] at h;obtain ⟨⟨⟨t1,pG⟩,j1,b1,n1⟩,hr,h⟩:=dB.1 h;obtain ⟨⟨x,j2,b2⟩,ht,h⟩:=dB.1 h;cases h;cases b1 with
        | true=>
         exfalso;unfold ug at ht;cases ht
        | false=>
         obtain ⟨k,hh,q1,q2,q3⟩:=S.Jv (i+1) ns false false hlt _ _ _ _ hr;have:=q2.lt;dsimp only at ht;rw [q1] at ht;obtain ⟨_,_,e1,e2⟩:=XW l hl ah ht;have hkl:=dG (l:=l) (i:=k) (by rw [e1];decide);exact ⟨k+1,true,e2,.par e32 ah hkl q2 e1,rfl⟩
end
section
variable (l:List aC) (hl:l.length<=3000)
include hl
theorem aoc {M:Nat} (S:mM l M) (i:Nat) (ns:List (List UInt8)) (hk:kd l i=68):SnL l i (wW M (aL M) l (i:Int) false ns):=by
 intro t tg j ns' h;have hlt:=dG (l:=l) (i:=i) ah;unfold wW at h;have e68:(kd l i !=68)=false:=by rw [hk];rfl
 rw [aG,bL,av,e68,av,aG,dR (kG hlt) (show l.length<=100000 by omega),bL,av,Dy,av] at h;cases hs:(kd l (i+1)==51||kd l (i+1)==52) with
 | true=>
  have hs':kd l (i+1)=51\/kd l (i+1)=52:=by simpa using hs
  rw [hs,aH] at h;obtain ⟨⟨⟨⟨kk,oo,xx,yy,kks⟩,pG⟩,j1,b1,n1⟩,hr,h⟩:=dB.1 h;unfold Tq at h;dsimp only at h;cases h;obtain ⟨k,q1,q2,q3,q4,q5,q6⟩:=S.bf (i+1) ns hs' _ _ _ _ hr;refine ⟨k,q1,ah,q3,?_,rfl,rfl⟩;have q5:kk=9:=q5;subst q5;exact .field hk q2 (h:=false) (.bare (show dD 9 oo ⟨14,true,false,false,false⟩=true from rfl) q2 q3<|q4.low (show (9:Int)<=9 by decide) _)
 | false=>
  rw [hs,aG] at h;obtain ⟨⟨⟨⟨kk,oo,xx,yy,kks⟩,pG⟩,j1,b1,n1⟩,hr,h⟩:=dB.1 h;unfold Tq at h;dsimp only at h;cases h;obtain ⟨k,hh,q1,q2,q3⟩:=S.fd (i+1) ns false false hlt _ _ _ _ hr;have:=q2.lt;exact ⟨k,q1,ah,this.2,.field hk this.1<|ayu q2,rfl,rfl⟩
theorem ayy {v:Int} {a g:Bool} {i k:Nat} {t:aA} (hv:1<=v/\v<=14) (d:dH l wZ i k t) (hL:eT t.kind=true) (h1:i < k) (h2:k<=l.length):bV l ⟨v,false,a,g,false⟩ i k t false:=by
 obtain ⟨g1,g2⟩:=acu hL;have hk:t.kind≠13/\t.kind≠12:=ah;exact ahb l (Dx ah ah ⟨hv.1,ah⟩ hk) d g2 h1 h2
theorem ayz {M:Nat} (S:mM l M) (i:Nat) (ns:List (List UInt8)) (a g:Bool) (hi:i<=l.length):Sn l 14 a g i (wW M (aL M) l (i:Int) false ns):=by
 intro t tg j ns' h;by_cases h68:kd l i=68
 .obtain ⟨k,q1,q2,q3,q4,q5,q6⟩:=aoc l hl S i ns h68 _ _ _ _ h;exact ⟨k,false,q1,ayy l hl aD q4 q5 q2 q3,by rw [q6,q5];rfl⟩
 .have e68:(kd l i !=68)=true:=by simpa using h68
  unfold wW at h;rw [aG,bL,av,e68,av,aH,EX] at h;exact Sn.down l (S.pr i ns a g hi) aD aD _ _ _ _ h
theorem ayA {M:Nat} (S:mM l M) (i:Nat) (ns:List (List UInt8)):SnL l i (IX M (aL M) l (i:Int) false ns):=by
 intro t tg j ns' h;unfold IX at h;rw [aG,bL,av] at h;cases h68:(kd l i==68) with
 | true=>
  rw [h68,aH,EX] at h;exact S.f8 i ns (eq_of_beq h68) _ _ _ _ h
 | false=>
  rw [h68,aG,av] at h;cases h6:(kd l i==6) with
  | true=>
   rw [h6,aH,EX] at h;obtain ⟨k,q1,q2,q3,q4,q5,q6⟩:=S.vr i ns (eq_of_beq h6) _ _ _ _ h;exact ⟨k,q1,q2,q3,q4,by rcases q5 with e|e<;>rw [e]<;>rfl,q6⟩
  | false=>
   rw [h6,aG] at h;unfold Xk at h;cases h
theorem ayB {M:Nat} (S:mM l M) (i:Nat) (ns:List (List UInt8)) (hk:kd l i=51\/kd l i=52):SnB l i (IY M (aL M) l (i:Int) false ns):=by
 intro t tg j ns' h;have hlt:=dG (l:=l) (i:=i) ah;unfold IY at h;rw [bL,av,dR (kG hlt)<|show l.length<=100000 by omega] at h;obtain ⟨⟨⟨t1,pG⟩,j1,b1,n1⟩,hr,h⟩:=dB.1 h;cases h;obtain ⟨k,q1,q2,q3,q4,q5,q6⟩:=S.lvl (i+1) ns hlt _ _ _ _ hr;exact ⟨k,q1,ah,q3,.pre (kd l i) hk rfl q5 q2 q4,rfl,rfl⟩
theorem ayC {M:Nat} (S:mM l M) (i:Nat) (ns:List (List UInt8)) (a g:Bool) (hi:i<=l.length):Sn l 13 a g i (Bz M (aL M) l (i:Int) false ns):=by
 intro t tg j ns' h;unfold Bz at h;rw [dN,aH,bL,av,Dy,av,av] at h;cases hs:(kd l i==51||kd l i==52) with
 | true=>
  have hs':kd l i=51\/kd l i=52:=by simpa using hs
  rw [hs,aH,EX] at h;obtain ⟨k,q1,q2,q3,q4,q5,q6⟩:=S.bf i ns hs' _ _ _ _ h;refine ⟨k,false,q1,ahb l ?_ q4 ah q2 q3,by rw [q6,q5];rfl⟩;rw [q5];exact Dx (Cu 13) (show (13:Int)≠0 by decide) aD aD
 | false=>
  rw [hs,aG] at h;obtain ⟨⟨⟨t1,pG⟩,j1,b1,n1⟩,hr,h⟩:=dB.1 h;cases b1 with
  | true=>
   exfalso;rw [show (bif true then some true else _:Option Bool)=some true from rfl,av,aH] at h;cases h
  | false=>
   obtain ⟨k,hh,q1,q2,q3⟩:=S.fd i ns a g hi _ _ _ _ hr;have hq:=q2.lt;subst q1;rw [aG] at h;cases pG with
   | false=>
    rw [show (bif (!false) then some true else _:Option Bool)=some true from rfl,av,aH] at h;cases h;exact ⟨k,hh,rfl,q2.down aD aD,q3⟩
   | true=>
    dsimp only at h;rw [kE,aG,bL,av,Dy,av,av] at h;cases hs2:(kd l k==51||kd l k==52) with
    | false=>
     rw [hs2,dN,aH] at h;cases h;exact ⟨k,hh,rfl,q2.down aD aD,q3⟩
    | true=>
     have hs3:kd l k=51\/kd l k=52:=by simpa using hs2
     have hkl:=dG (l:=l) (i:=k) ah;rw [hs2,kE,aG,av,dR (kG hkl)<|show l.length<=100000 by omega] at h;cases h;cases q2 with
     | par=>cases q3
     | bare g1 g2 g3 g4=>
      have hL:eT t1.kind=true:=by
       rw [dN,rO] at q3;exact q3.symm
      obtain ⟨_,Gz⟩:=acu hL;refine ⟨k+1,false,rfl,.bare ?_ ah hkl (.post (kd l k) hs3 rfl hL g2<|g4.low Gz wZ),rfl⟩;exact Dx (Cu 13) (show (13:Int)≠0 by decide) aD (show (10:Int)≠13/\(10:Int)≠12 by decide)
theorem ayD {M:Nat} (S:mM l M) (i:Nat) (ns:List (List UInt8)) (a g:Bool) (hi:i<=l.length):Sn l 12 a g i (EJ M (aL M) ⟨a,g⟩ l (i:Int) false ns):=by
 intro t tg j ns' h;unfold EJ at h;obtain ⟨⟨⟨t1,pG⟩,j1,b1,n1⟩,hr,h⟩:=dB.1 h;cases b1 with
 | true=>
  exfalso;rw [show (bif true then some true else _:Option Bool)=some true from rfl,av,aH] at h;cases h
 | false=>
  obtain ⟨k,hh,q1,q2,q3⟩:=S.ic i ns a g hi _ _ _ _ hr;have hq:=q2.lt;subst q1;dsimp only at h;rw [aG,bL,av,av] at h;cases TU:(kd l k !=60) with
  | true=>
   rw [TU,aH] at h;cases h;exact ⟨k,hh,rfl,q2.down aD aD,q3⟩
  | false=>
   have e60:kd l k=60:=by simpa using TU
   have hkl:=dG (l:=l) (i:=k) ah;rw [TU,aG,dR (kG hkl)<|show l.length<=100000 by omega] at h;obtain ⟨⟨⟨t2,zh⟩,j2,b2,n2⟩,hr2,h⟩:=dB.1 h;cases h;obtain ⟨k2,Nk,w1,w2,w3⟩:=S.un (k+1) n1 a g hkl _ _ _ _ hr2;have ho:bg 60=12:=rfl;exact ⟨k2,false,w1,Pt 60 ho aD aD (fun _=>aD) e60 (.inr ⟨by rw [ho];decide,rfl⟩) q2 w2,rfl⟩
theorem ayE {M:Nat} (S:mM l M) (i:Nat) (ns:List (List UInt8)) (a g:Bool) (hi:i<=l.length):Sn l 11 a g i (BA M (aL M) ⟨a,g⟩ l (i:Int) false ns):=by
 intro t tg j ns' h;unfold BA at h;rw [bL,av,aG] at h;by_cases ho:kd l i=55\/kd l i=56\/kd l i=61
 .have e:(bif (kd l i !=55) then bif (kd l i !=56) then some (kd l i !=61) else some false else some false)=some false:=by
   rcases ho with e|e|e<;>rw [e]<;>rfl
  have hlt:=dG (l:=l) (i:=i) ah;rw [e,av,aG,dR hi<|show l.length<=100000 by omega] at h;obtain ⟨⟨⟨t2,zh⟩,j2,b2,n2⟩,hr2,h⟩:=dB.1 h;cases h;obtain ⟨k,hh,w1,w2,w3⟩:=S.un (i+1) ns a g hlt _ _ _ _ hr2;have:=w2.lt;refine ⟨k,false,w1,.bare ?_ ah this.2 (.unary (kd l i) ho rfl this.1 w2),rfl⟩;exact Dx (Cu 11) (show (11:Int)≠0 by decide) aD (show (11:Int)≠13/\(11:Int)≠12 by decide)
 .have e:(bif (kd l i !=55) then bif (kd l i !=56) then some (kd l i !=61) else some false else some false)=some true:=by
   have f:∀ {z:Int},kd l i≠z->(kd l i !=z)=true:=fun h=>by simpa using h
   rw [f fun e=>ho<|.inl e,f fun e=>ho<|.inr<|.inl e,f fun e=>ho<|.inr<|.inr e];rfl
  rw [e,av,aH,EX] at h;exact Sn.down l (S.pw i ns a g hi) aD aD _ _ _ _ h
end
end Go.Proofs.Tryz
