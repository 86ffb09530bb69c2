/-
  Spans: for all arguments the law returns true: the program's function returns what the reference's returns.
  The tables that the row lists are tied to the program's text.
-/
import Derived.Test.YtginnhpghngjiaaGreatDoorRows
import Derived.Test.YtginnhpghngjiaaGreatDoorCards
import Derived.Test.YtginnhpghngjiaaGreatDoorTie
import Derived.WalkKit
import Derived.ProofKit
import Derived.OpenShut
import Derived.Lay
import Derived.MakeChecks
import Derived.SevenTiedAt
import Derived.Test.YtginnhpghngjiaaGreatDoorSpGW8
import Derived.Test.YtginnhpghngjiaaGreatDoorSpGP16
import Derived.Test.YtginnhpghngjiaaGreatDoorGCore6
namespace Go.Proofs.YtginnhpghngjiaaGreatDoor.fnSpans
open Go.ChangeShapes Go.WideShapes Go.ChangeAt Go.RowKit Go.Av Go.Proofs.Tryz
set_option linter.all false
set_option maxRecDepth 100000
theorem own:ownKnob Tryz.prog.godebug=none:=ak
theorem laidOut:laidOutB Tryz.prog=true:=ak
theorem aeL {l:LT} {a:Nat} {x:LT} (h:Sg l a x) (hl:a+x.length<=l.length):cut l (a:Int) ((a+x.length:Nat):Int)=some x:=by
  rw [aaF ah hl];obtain ⟨r,hr⟩:=h;rw [hr,show a+x.length - a=x.length by omega,List.take_left' rfl]
def Iz (sp:List aR) (k:Int) (b:Int):Prop:=b= -1\/∃ (j:Nat) (s:aR),b=(j:Int)/\sp[j]?=some s/\s.From<=k/\k < s.To
def Ns (s:aR):Prop:=0<=s.From/\s.From < s.To/\s.To<=100000
theorem aeM (N N':Nat) (sp:List aR) (hsp:sp.length<=400) (hs:∀ s,s∈sp->Ns s) (k:Int) (hk: -10<=k/\k<=1000000):∀ (n n' i:Nat) (b least:Int),sp.length - i < n->sp.length - i < n'->i<=sp.length->Iz sp k b->(∀ (j:Nat) (s:aR),b=(j:Int)->sp[j]?=some s->least=s.To - s.From)->
    ∃ r,wH N n (k,sp,b,least,(i:Int))=some r/\yY N' n' (k,sp,b,(i:Int))=some r/\Iz sp k r:=by
  intro n;induction n with
  | zero=>intro n' i b least h;omega
  | succ n ih=>
    intro n' i b least hn hn' hi hb hl;cases n' with
    | zero=>omega
    | succ n'=>
      rw [wH,yY];by_cases hlt:i < sp.length
      · have hx:ix sp (i:Int)=some sp[i]:=bX hlt
        obtain ⟨f0,f1,f2⟩:=hs _ (List.getElem_mem hlt);have hget:sp[i]?=some sp[i]:=List.getElem?_eq_getElem hlt;have hw:IntKind.wrap .i64 ((i:Int)+1)=((i+1:Nat):Int):=by rw [wrap64 ah ah];omega
        have hlen:IntKind.wrap .i64 (sp[i].To - sp[i].From)=sp[i].To - sp[i].From:=wrap64 ah ah;have keep:∃ r,CV N (wH N n) (k,sp,(i:Int),b,least)=some r/\CW N' (yY N' n') (k,(i:Int),sp,b)=some r/\Iz sp k r:=by
          unfold CV CW;dsimp only;rw [hw];exact ih n' (i+1) b least ah ah ah hb hl
        have take:sp[i].From<=k->k < sp[i].To->∃ r,CV N (wH N n) (k,sp,(i:Int),(i:Int),IntKind.wrap .i64 (sp[i].To - sp[i].From))=some r/\CW N' (yY N' n') (k,(i:Int),sp,(i:Int))=some r/\Iz sp k r:=fun g1 g2=>by
          unfold CV CW;dsimp only;rw [hw,hlen];refine ih n' (i+1) (i:Int) _ ah ah ah (.inr ⟨i,_,rfl,hget,g1,g2⟩) fun j s hj hs=>?_;have:i=j:=ah;subst this;rw [hget] at hs;cases hs;rfl
        have hw1:IntKind.wrap .i64 (sp[i].To - 1)=sp[i].To - 1:=wrap64 ah ah;simp only [iT hlt,cond_true,hx,av,Gn,hw1];by_cases g1:sp[i].From<=k
        · by_cases g2:k < sp[i].To
          · have e1:(decide (k>=sp[i].From)&&decide (k<=sp[i].To - 1))=true:=aU
            rw [e1,decide_eq_true g1,decide_eq_true g2];simp only [cond_true];rcases hb with hb|⟨j,s,hj,hsj,_,_⟩
            · rw [decide_eq_true (show b < 0 by omega)]
              simp only [cond_true,av];exact take g1 g2
            · have hs':=hs s (List.mem_of_getElem? hsj)
              unfold Ns at hs';have hlj:=hl j s hj hsj;have hjx:ix sp b=some s:=by rw [hj];exact wI hsj
              rw [decide_eq_false (show¬b < 0 by omega)];simp only [cond_false,hjx,av,hlen];rw [wrap64 (n:=s.To - s.From) ah ah,hlj];cases decide (sp[i].To - sp[i].From < s.To - s.From) with
              | true=>
                simp only [cond_true];have:=take g1 g2;rw [hlen] at this;exact this
              | false=>
                simp only [cond_false];rw [<- hlj];exact keep
          · have e1:(decide (k>=sp[i].From)&&decide (k<=sp[i].To - 1))=false:=aU
            rw [e1,decide_eq_true g1,decide_eq_false g2];simp only [cond_true,cond_false,av];exact keep
        · have e1:(decide (k>=sp[i].From)&&decide (k<=sp[i].To - 1))=false:=aU
          rw [e1,decide_eq_false g1];simp only [cond_false,av];exact keep
      · simp only [kG hlt,cond_false]
        exact ⟨b,rfl,rfl,hb⟩
theorem aeO (N:Nat) (hN:2000000<=N) (L:LN) (t:aC) (R:RG N L t) (hS:∀ x,x∈L->mW x) (p:aF) (k:Int) (hk: -10<=k/\k<=1000000) (sp:List aR) (hsp:wL (EA false (dh false t p)) sp (iZ t)) (hsm:∀ s,s∈sp->Ns s)
    (hi1:xV N L p=some sp) (hs1:Nt N L p=some sp):∀ (n i:Nat),sp.length - i < n->i<=sp.length->EB N n ((L,p,k),dh false t p,sp,(i:Int))=some true:=by
  have hnd:=RH t;have hlen:=hsp.len;have hsz:=R.sz;have VN:L.length=aQ t:=by rw [R.eq,rV]
  have htl:=Kw false t p;intro n;induction n with
  | zero=>intro i h;omega
  | succ n ih=>
    intro i hn hi;rw [EB];by_cases hlt:i < sp.length
    · have hx:ix sp (i:Int)=some sp[i]:=bX hlt
      have hu:(iZ t)[i]?=some ((iZ t)[i]' ah):=List.getElem?_eq_getElem ah;obtain ⟨a,q,q1,q2,q3,q4⟩:=hsp.get i _ _ (List.getElem?_eq_getElem hlt) hu;have hmem:(iZ t)[i]' ah∈iZ t:=List.getElem_mem _;generalize hgu:(iZ t)[i]' ah=u at hu q2 q3 q4 hmem;have hdz:=alj t u hmem;have Nu:=Ky t R.g u hmem;have Nv:=Ky t R.c u hmem;obtain ⟨s',Nw⟩:=alk L t 0 _ R.ta i u hu;rw [Nat.zero_add] at Nw;have hxu:Gp u:=aeP hS Nw;have hpos:0 < (bT false u q).length:=by
        have d:=VO false u Nu (RI (fun _ h=>h.1) u Nv) (bT false u q) q 0 q1 (Sg.all _);have:=d.lt;omega
      simp only [iT hlt,cond_true,hx,av,q4];rw [decide_eq_false (show¬(a:Int) < 0 by omega),decide_eq_false (show¬((a+(bT false u q).length:Nat):Int) > ((dh false t p).length:Int) by omega),decide_eq_false (show¬(a:Int)>=((a+(bT false u q).length:Nat):Int) by omega)];simp only [cond_false,av,aeL q2 q3];have hnext:EB N n ((L,p,k),dh false t p,sp,IntKind.wrap .i64 ((i:Int)+1))=some true:=by
        rw [wrap64 ah ah,show (i:Int)+1=((i+1:Nat):Int) by omega];exact ih (i+1) ah ah
      have htop:qY=some dB:=rfl;rw [htop,av];by_cases fH:(dh false t p).length < 120
      · have hP:=aaG N hN u Nu Nv q q1 ah (by have:=R.dep;omega) hxu ah
        rw [hP,av,decide_eq_true (show ((dh false t p).length:Int) < 120 by omega),cond_true];simp only [bne_self_eq_false,cond_false];have hw:IntKind.wrap .i64 (((a+(bT false u q).length:Nat):Int) - (a:Int))=((bT false u q).length:Int):=by rw [wrap64 ah ah];omega
        rw [hw];have hpart:Ny N L (i:Int)=some (bf 0 u):=by
          have hsh:IB N L=some true:=by
            have:=R.ok;unfold tN at this;obtain ⟨y,h1,_⟩:=Option.bind_eq_some_iff.1 this;obtain ⟨r,h2,h3⟩:=Option.bind_eq_some_iff.1 h1;cases r with
            | true=>exact h2
            | false=>
              simp only [Bool.not_false,cond_true] at h3;cases h3;have aeQ:some false=some true:=by
                have e:=this;rw [h1] at e;exact e
              cases aeQ
          unfold Ny;rw [hsh,Ad,wrap64 ah ah];have:(decide ((i:Int)>=0)&&decide ((i:Int)<=(L.length:Int) - 1))=true:=aU;simp only [av,Bool.not_true,cond_false,this];rw [alm N L ah hS R.sh Nw,av]
        have hsame:Nz N (bf 0 u) (bf 0 u)=some true:=aln N (bf 0 u) ah (by rw [rV];omega) (aeR ah hxu 0);simp only [bne_self_eq_false,cond_false,hpart,hsame,av,Bool.not_true];exact hnext
      · have hP:∃ r,Gq N (bT false u q) dB=some r:=by
          by_cases h3:(bT false u q).length<=3000
          · exact ⟨_,aaG N hN u Nu Nv q q1 ah (by have:=R.dep;omega) hxu h3⟩
          · unfold Gq Kz
            rw [EC,show posB dB=true from rfl,decide_eq_true (show ((bT false u q).length:Int) > 3000 by omega)];exact ⟨_,rfl⟩
        obtain ⟨r,hP⟩:=hP;rw [hP,av,decide_eq_false (show¬((dh false t p).length:Int) < 120 by omega),cond_false,av,cond_false];exact hnext
    · simp only [kG hlt,cond_false]
      obtain ⟨r,r1,r2,r3⟩:=aeM N N sp ah hsm k hk N N 0 (-1) 0 ah ah ah (.inl rfl) (fun j s hj _=>ah);have e1:Ae N L p k=some r:=by unfold Ae;rw [hi1,av];exact r1
      have e2:NA N L p k=some r:=by unfold NA;rw [hs1,av];exact r2
      rw [e1,e2];simp only [av,beq_self_eq_true,cond_true];rcases r3 with rfl|⟨j,s,rfl,hs,g1,g2⟩
      · rfl
      · rw [decide_eq_false (show¬(j:Int) < 0 by omega),wI hs]
        simp only [cond_false,av,decide_eq_true g1,cond_true,decide_eq_true g2]
theorem plain (b:LU) (kb:(∀ z,z∈b->True)/\b.length<=maxLen):∃ N,RJ N b=some true:=by
  refine ⟨18446744073709551657+3000000,?_⟩;obtain ⟨N,hN⟩:∃ N,N=18446744073709551657+3000000:=⟨_,rfl⟩
  rw [<- hN];unfold RJ;rw [alo,av];by_cases hb:b.length<=1048576
  · have hd:decide ((b.length:Int) > 1048576)=false:=aU
    rw [hd,cond_false];obtain ⟨h,e1⟩:=alp b hb N ah;obtain ⟨L,i1,h1,e2,hL,a0,a1⟩:=alq b hb N ah 0 h ah ah;obtain ⟨p,i2,h2,e3,_,b0,b1⟩:=alr b hb i1 h1 a0 a1;have hS:=als hL.1;obtain ⟨c,c1,c2⟩:=alu N L ah hS;have aeS:∃ l:LT,CX N L p=some l/\l.length<=100000/\(c=true->posB p=true->∃ t,RG N L t/\l=dh false t p):=by
      cases c with
      | false=>exact ⟨[],by unfold CX;rw [c1];rfl,aA,fun h=>by cases h⟩
      | true=>
        obtain ⟨g1,g2,g3⟩:=c2 rfl;obtain ⟨t,R⟩:=alv N L ah hS g1 g2 g3;cases hp:posB p with
        | false=>exact ⟨[],by unfold CX;rw [c1,EC,hp];rfl,aA,fun _ h=>by cases h⟩
        | true=>
          have:=Kw false t p;have:=R.sz;exact ⟨_,alx N L t ah R c1 p hp,ah,fun _ _=>⟨t,R,rfl⟩⟩
    obtain ⟨l,l1,l2,l3⟩:=aeS;obtain ⟨r,i3,h3,e4,hr,_,_⟩:=Af b hb ((l.length:Int)+3) i2 h2 b0 b1;have aaH:NC N b=some (L,p,r - 1):=by
      unfold NC;rw [e1,av];dsimp only;rw [e2,av];dsimp only;rw [e3,av];dsimp only;rw [l1,av,wrap64 ah ah,e4,av];dsimp only;rw [wrap64 ah ah]
    obtain ⟨sp,s1,s2,s3⟩:=aly N L p ah hS;rw [aaH,av];dsimp only;rw [s2,av,l1,av,c1,EC];simp only [av];have no:(c=false\/posB p=false)->xV N L p=some []:=fun hh=>by
      obtain ⟨c',d1,d2,d3⟩:=VP N L ah hS;rw [c1] at d1;cases d1;unfold xV KC;rw [d2,ND];rcases hh with rfl|hp
      · rfl
      · rw [hp];cases c<;>rfl
    have nothing:(c=false\/posB p=false)->(Option.bind (Option.bind (bif ((sp.length:Int)==0) then Option.bind (Ae N L p (r - 1)) fun dA=>some (dA==(-1)) else (some false)) fun y25=>some y25) fun x=>some x)=some true:=fun hh=>by
      have:=no hh;rw [s2] at this;cases this;have e:Ae N L p (r - 1)=some (-1):=by
        unfold Ae;rw [s2,av];obtain ⟨m,rfl⟩:∃ m,N=m+1:=⟨N - 1,ah⟩
        rw [wH];rfl
      rw [e];rfl
    have VQ:∀ x:Option Bool,(Option.bind x fun y=>some y)=x:=fun x=>by cases x<;>rfl
    cases c with
    | false=>
      have:=nothing (.inl rfl);rw [VQ] at this;exact this
    | true=>
      simp only [Bool.not_true,cond_false,av];cases hp:posB p with
      | false=>
        have:=nothing (.inr hp);rw [VQ] at this;exact this
      | true=>
        obtain ⟨t,R,rfl⟩:=l3 rfl hp;simp only [Bool.not_true,cond_false];have VN:L.length=aQ t:=by rw [R.eq,rV]
        have hsz:=R.sz;have hpz:=kN t;have aeT:=aeU (wM R.g) (imB false t R.g) N p [] [] hp ah aU aU;obtain ⟨CY,w1,w2,sp',w3,w4⟩:=aeT;have hsp:xV N L p=some CY:=by
          obtain ⟨c',d1,d2,d3⟩:=VP N L ah hS;rw [c1] at d1;cases d1;obtain ⟨q1,q2,_⟩:=Bw R.sh;unfold xV KC;rw [d2,ND,hp,aaI N L ah R.ta q1 q2];have w1':xW N t p false [] []=some ([]++dh false t p,CY):=w1;simp only [av,Bool.not_true,cond_false,w1']
        rw [s2] at hsp;cases hsp;rw [List.nil_append] at w3;subst w3;have w4:wL (EA false (dh false t p)) sp (iZ t):=w4;have hlen:sp.length=L.length:=by rw [w4.len,RH,VN]
        have hne:((sp.length:Int) !=(L.length:Int))=false:=by rw [hlen];simp
        rw [hne,cond_false];have htl:=Kw false t p;refine aeO N ah L t R hS p (r - 1) ah sp w4 (fun s hs=>?_) s2 s1 N 0 ah ah;obtain ⟨j,hj⟩:=List.getElem?_of_mem hs;have hjl:=(List.getElem?_eq_some_iff.1 hj).1;have hu:(iZ t)[j]?=some ((iZ t)[j]'(by rw [<- w4.len];exact hjl)):=List.getElem?_eq_getElem _;obtain ⟨a,q,q1,q2,q3,q4⟩:=w4.get j _ _ hj hu;have hmem:(iZ t)[j]'(by rw [<- w4.len];exact hjl)∈iZ t:=List.getElem_mem _;have d:=VO false _ (Ky t R.g _ hmem) (RI (fun _ h=>h.1) _ (Ky t R.c _ hmem)) _ q 0 q1 (Sg.all _);have:=d.lt;rw [q4];refine ⟨?_,?_,?_⟩
        · show (0:Int)<=(a:Int);omega
        · show (a:Int) < ((a+_:Nat):Int);omega
        · show ((a+_:Nat):Int)<=100000;omega
  · have hd:decide ((b.length:Int) > 1048576)=true:=aU
    rw [hd];rfl
theorem kids:Go.Kids Tryz.prog (· < Tryz.prog.types.size):=kids_rows ak ak
theorem full:∀ t e,t < Tryz.prog.types.size->Tryz.prog.underlying t=some (.slice e)->0 < Tryz.prog.cellsOf e:=slices_full_of Tryz.prog ak
def lay:List (String×DataW Unit):=[("loop.example/g01543/impl.keywords",Rows.laid_loop_example_g01543_impl_keywords),("loop.example/g01543/impl.signs",Rows.laid_loop_example_g01543_impl_signs),("loop.example/g01543/impl.builtins",Rows.laid_loop_example_g01543_impl_builtins)]
theorem tables {W:World} (h:laidMetH Tryz.prog lay W):W.var? Tryz.prog "loop.example/g01543/impl.keywords" =some (strCells vF)/\W.var? Tryz.prog "loop.example/g01543/impl.signs" =some (strCells CZ)/\W.var? Tryz.prog "loop.example/g01543/impl.builtins" =some (strCells Ag):=by
  rw [MakeChecks.laidMetH_plain _ _ _ ak] at h;obtain ⟨ps,⟨g0,t0,cs0,aJY,p0,q0,hg0,ht0,hv0,hd0,r0,_⟩,_,_⟩:=h;obtain ⟨g1,t1,cs1,fuel1,p1,q1,hg1,ht1,hv1,hd1,r1,_⟩:=r0;obtain ⟨g2,t2,cs2,fuel2,p2,q2,hg2,ht2,hv2,hd2,r2,_⟩:=r1;obtain rfl:=Option.some.inj ((show Tryz.prog.globalNamed "loop.example/g01543/impl.keywords" =some 0 by kernel_rfl).symm.trans hg0);obtain rfl:=Option.some.inj ((show (Tryz.prog.globals[0]?).map (·.type)=some 147 by kernel_rfl).symm.trans ht0);have e0:cs0=strCells vF:=aeV (l:=vF) (p:=p0) (by rw [show (DataW.agg (vF.map fun s=>.lit (.string s)):DataW Unit)=Rows.laid_loop_example_g01543_impl_keywords by kernel_rfl];exact hd0) Tryz.underlying147 Tryz.underlying9 ak ak;rw [e0] at hv0;obtain rfl:=Option.some.inj ((show Tryz.prog.globalNamed "loop.example/g01543/impl.signs" =some 1 by kernel_rfl).symm.trans hg1);obtain rfl:=Option.some.inj ((show (Tryz.prog.globals[1]?).map (·.type)=some 148 by kernel_rfl).symm.trans ht1);have e1:cs1=strCells CZ:=aeV (l:=CZ) (p:=p1) (by rw [show (DataW.agg (CZ.map fun s=>.lit (.string s)):DataW Unit)=Rows.laid_loop_example_g01543_impl_signs by kernel_rfl];exact hd1) Tryz.underlying148 Tryz.underlying9 ak ak;rw [e1] at hv1;obtain rfl:=Option.some.inj ((show Tryz.prog.globalNamed "loop.example/g01543/impl.builtins" =some 2 by kernel_rfl).symm.trans hg2);obtain rfl:=Option.some.inj ((show (Tryz.prog.globals[2]?).map (·.type)=some 157 by kernel_rfl).symm.trans ht2);have e2:cs2=strCells Ag:=aeV (l:=Ag) (p:=p2) (by rw [show (DataW.agg (Ag.map fun s=>.lit (.string s)):DataW Unit)=Rows.laid_loop_example_g01543_impl_builtins by kernel_rfl];exact hd2) Tryz.underlying157 Tryz.underlying9 ak ak;rw [e2] at hv2;exact ⟨hv0,hv1,hv2⟩
theorem aun {W:World} {S:Nat->Prop} (h0:W.var? Tryz.prog "loop.example/g01543/impl.keywords" =some (strCells vF)) (h1:W.var? Tryz.prog "loop.example/g01543/impl.signs" =some (strCells CZ)) (h2:W.var? Tryz.prog "loop.example/g01543/impl.builtins" =some (strCells Ag)) (s0:S 0) (s1:S 1) (s2:S 2):Gr (GS [0,1,2]) S W:=by
  intro g cs hg;have hc:([0,1,2]:List Nat).contains g=true:=by
    cases h:([0,1,2]:List Nat).contains g with
    | true=>rfl
    | false=>unfold GS at hg;rw [h] at hg;cases hg
  have hm:=List.contains_iff_mem.1 hc;simp only [List.mem_cons,List.mem_nil_iff,or_false] at hm;rcases hm with rfl|rfl|rfl
  · obtain rfl:=Option.some.inj ((show GS [0,1,2] 0=some (vF.map V.s) by kernel_rfl).symm.trans hg)
    exact aeW (show Tryz.prog.globalNamed "loop.example/g01543/impl.keywords" =some 0 by kernel_rfl) h0 s0
  · obtain rfl:=Option.some.inj ((show GS [0,1,2] 1=some (CZ.map V.s) by kernel_rfl).symm.trans hg)
    exact aeW (show Tryz.prog.globalNamed "loop.example/g01543/impl.signs" =some 1 by kernel_rfl) h1 s1
  · obtain rfl:=Option.some.inj ((show GS [0,1,2] 2=some (Ag.map V.s) by kernel_rfl).symm.trans hg)
    exact aeW (show Tryz.prog.globalNamed "loop.example/g01543/impl.builtins" =some 2 by kernel_rfl) h2 s2
theorem lifted (os:Os) (started:os.Started) (H:Type) (enc:TypeId×Value->H):
    ReturnsInHanded {} Tryz.checked os 3 .any (fun w args=>(Rows.fnSpansSpec.pre enc Tryz.prog Tryz.f3 Rows.fnSpansRow.domain false w args/\laidMetH Tryz.prog lay w)/\sizedMet enc Tryz.prog Tryz.f3 (OpenSpec.ofChange Rows.fnSpansSpec) false w args) (Rows.fnSpansSpec.post enc Tryz.prog Tryz.f3 false true false false):=by
  refine returnsInHanded_of_change_and (C:=Tryz.checked) (X:=fun w _=>laidMetH Tryz.prog lay w) (fun _ _ _ hh h=>h.of_heap hh) own started ak Tryz.func3
    (ChangeSpec.witness_at (enc:=enc) (C:=Tryz.checked) (os:=os) (X:=fun w _=>laidMetH Tryz.prog lay w) false (World.laidAll Tryz.prog os lay) #[.slice none 0 0] 12 (World.laidAll_os _ _ _) ak ak ak ak ak
      (by rw [MakeChecks.laidMetH_plain _ _ _ ak];exact laidMet_laidAll _ ak ak)) ?_
  intro W base args ds gs before hval0 hW hcnd _ hL _;have hval:∀ (j:Nat) t v,Tryz.f3.params[j]?=some t->args[j]?=some v->Value.okWide Tryz.prog W .any base t v:=hval0;have hW':=hW;obtain ⟨p,q,hA0,hV0,rfl,hfz,hnd⟩:=hW;have hA:DataW.TrodAll enc Tryz.prog W 0 (fun _=>true) true Tryz.f3.params.toList args.toList ds p:=hA0;have hV:DataW.TrodVars enc Tryz.prog W (fun _=>true) ["loop.example/g01543/impl.keywords", "loop.example/g01543/impl.builtins", "loop.example/g01543/impl.signs"] gs q:=hV0;rw [Tryz.params3] at hA hval;have hA1:=hA;obtain ⟨v0,vs0,d0,ds0,p0,q0,hargs,rfl,rfl,h0,r0⟩:=trodAll_cons hA;obtain ⟨rfl,rfl,rfl⟩:=trodAll_nil r0;obtain rfl:args=#[v0]:=by cases args;simp_all
  have hA2:DataW.TrodAll enc Tryz.prog W 0 (fun _=>true) true [22] [v0] [d0] (p0++[]):=hA1;have hgl:=alA hV;obtain ⟨y0,y1,y2,rfl⟩:∃ y0 y1 y2,gs=[y0,y1,y2]:=by
    match gs,hgl with
    | [y0,y1,y2],_=>exact ⟨y0,y1,y2,rfl⟩
  obtain ⟨fu0,hf0⟩:=h0;obtain ⟨a0,k0,c0⟩:=(Reader.slice Tryz.underlying22 (Reader.u8 Tryz.underlying5) 1 ak aM (fun _=>rfl)) enc W fu0 _ _ hf0;obtain ⟨s0,l0,m0,rfl⟩:=okWide_slice Tryz.underlying22 (hval 0 22 v0 rfl rfl);have htab:=tables hL;have tv0:=htab.1;have tv1:=htab.2.1;have tv2:=htab.2.2;have hlt:∀ b,(fun b=>alE (p0++[]) b\/b=0\/b=1\/b=2) b->b < W.heap.size:=by
    intro b hb;rcases hb with ⟨m,hm,rfl⟩|rfl|rfl|rfl
    · exact DataW.TrodAll.lt hA1 m (by simpa using hm)
    · exact aaJ (show Tryz.prog.globalNamed "loop.example/g01543/impl.keywords" =some 0 by kernel_rfl) tv0
    · exact aaJ (show Tryz.prog.globalNamed "loop.example/g01543/impl.signs" =some 1 by kernel_rfl) tv1
    · exact aaJ (show Tryz.prog.globalNamed "loop.example/g01543/impl.builtins" =some 2 by kernel_rfl) tv2
  obtain ⟨N,hN⟩:=plain a0 k0;refine (auq (aur N a0 hN) (fun b=>alE (p0++[]) b\/b=0\/b=1\/b=2) hlt (aun tv0 tv1 tv2 (.inr (.inl rfl)) (.inr (.inr (.inl rfl))) (.inr (.inr (.inr rfl)))) rfl fun i x hx=>?_).mono ?_
  · match i with
    | 0=>
      simp only [List.getElem?_cons_succ,List.getElem?_cons_zero,Option.some.injEq] at hx;subst hx;exact aus rfl (c0 _ fun p hp=>(.inl ⟨p,by simp [hp],rfl⟩))
    | i+1=>simp at hx
  · rintro e W' ⟨x,S',rfl,hx,hb⟩
    have hxt:=hx.jq;subst hxt;exact ⟨_,rfl,Av.aut (pa:=(p0++[])) (pv:=q) hW' (fun _ _ _=>(trodAll_cons_mk (shut_bool Tryz.underlying4 _) trodAll_mk0))
      (fun sp hsp=>auu kids full hb mX hA2 (fun m hm=>hsp m (by simp only [List.mem_append];exact .inl (by simpa using hm)))) (fun sp hsp=>alF laidOut hb ak hV (fun m hm=>hsp m (by simp [hm]))) aA hb (ok_one ak rfl (okWide_bool_mk Tryz.underlying4 _))⟩
theorem over:Rows.fnSpansRow.holds Tryz.pinned (OpenSpec.ofChange Rows.fnSpansSpec):=
  OpenClaim.holds_of_wide 3 Tryz.f3 rfl rfl rfl rfl rfl rfl rfl ⟨rfl,rfl,rfl,rfl,rfl⟩ rfl rfl rfl rfl rfl ak Tryz.func3 ak
    (of_decide_eq_true ak) (by unfold Func.isWrapper;first|(rw [if_pos mX];kernel_rfl)|(rw [if_neg mX];exact ⟨rfl,rfl⟩))
    (fun os started H enc _=>lifted os started H enc)
theorem proved:Rows.FnSpansCardSaid:=
  Claim7.holds_tied_plain_at .later [] [.widerDeep,.data,.widerDeep] true (true, "5d63ee9a290f5e610549d85afd59371f723a8c08fbe68c9ff3b2e9e36b3991b3") false
    over (fun _ h=>by cases h) ak (fun _ h=>by cases h) fnSpans_row_tie rfl ⟨rfl,rfl⟩ ak rfl
    (fun f fn hf hfn=>by
      obtain rfl:f=3:=Option.some.inj ((show Tryz.prog.funcNamed "loop.example/g01543/laws.FnSpans" =some 3 by kernel_rfl).symm.trans hf) |>.symm;obtain rfl:fn=Tryz.f3:=(Option.some.inj (Tryz.func3.symm.trans hfn)).symm;exact ⟨ak,fun j t ht=>by
        rw [Tryz.params3] at ht;have hm:t∈[22]:=by simpa using Array.mem_of_getElem? ht
        have hall:([22].all fun u=>!Tryz.prog.wantsStandIn u)=true:=ak;exact (show Tryz.prog.wantsStandIn t=false by simpa using List.all_eq_true.1 hall t hm)⟩)
    ak
#print axioms proved
end Go.Proofs.YtginnhpghngjiaaGreatDoor.fnSpans
