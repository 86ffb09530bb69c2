/-
  Full: for all arguments the law returns true: the program's function returns what the reference's returns.
  The tables that the row lists are tied to the program's text.
-/
import Derived.Test.YtobpmdjghijneaaGreatDoorRows
import Derived.Test.YtobpmdjghijneaaGreatDoorCards
import Derived.Test.YtobpmdjghijneaaGreatDoorTie
import Derived.WalkKit
import Derived.ProofKit
import Derived.OpenShut
import Derived.Lay
import Derived.MakeChecks
import Derived.SevenTiedAt
import Derived.Test.YtobpmdjghijneaaGreatDoorFuGW7
import Derived.Test.YtobpmdjghijneaaGreatDoorFuGP18
import Derived.Test.YtobpmdjghijneaaGreatDoorGCore6
namespace Go.Proofs.YtobpmdjghijneaaGreatDoor.fnFull
open Go.ChangeShapes Go.WideShapes Go.ChangeAt Go.RowKit Go.Av Go.Proofs.Tryz
set_option linter.all false
set_option maxRecDepth 100000
theorem own:ownKnob Tryz.prog.godebug=none:=ak
theorem laidOut:laidOutB Tryz.prog=true:=ak
theorem abM (N:Nat) (hN:2000000<=N) (t:av) (hx:Ta t) (hg:allT GN t) (hc:allT (fun u=>CN u/\TN N u) t) (f:Bool) (p:aL) (hl:(bT f t p).length<=3000) (q:aL) (h:Bool) (d:fZ (bT f t p) q 0 (bT f t p).length t h):FP N (bT f t p)=some true:=by
  have adj:=(ahi (bT f t p) _ 0 _ (Nat.le_refl _)).2.1 _ _ _ d;have e:=ahj N _ hl ah adj.a (ahk N f t hg hc p);obtain ⟨b,b1,b2,_⟩:=ahl N (bT f t p) ah (ahm f t hx p);rw [b1] at e;rw [b2];exact e
theorem plain (b:LU) (kb:(∀ z,z∈b->True)/\b.length<=maxLen):∃ N,OZ N b=some true:=by
  refine ⟨18446744073709551657+3000000,?_⟩;obtain ⟨N,hN⟩:∃ N,N=18446744073709551657+3000000:=⟨_,rfl⟩
  rw [<- hN];unfold OZ;rw [ahn,aB];by_cases hb:b.length<=1048576
  · have hd:decide ((b.length:Int) > 1048576)=false:=bE
    rw [hd,cond_false];obtain ⟨h,e1⟩:=aho b hb N ah;obtain ⟨L,i1,h1,e2,hL,a0,a1⟩:=ahp b hb N ah 0 h ah ah;have hS:=ahq hL.1;have XZ:KZ N b=some L:=by
      unfold KZ;rw [e1,aB];dsimp only;rw [e2,aB]
    obtain ⟨c,c1,d2,c2⟩:=ahr N L ah hS;have htop:Ee=some bU:=rfl;rw [XZ,aB];unfold Td Te;rw [htop];simp only [aB];cases c with
    | false=>
      have e:AX N L bU true=some ([],[]):=by
        unfold AX;rw [d2];rfl
      rw [e,c1];rfl
    | true=>
      obtain ⟨g1,g3⟩:=c2 rfl;have g2:xI N L=some true:=by
        have h:=c1;unfold La at h;obtain ⟨y,h1,h2⟩:=Option.bind_eq_some_iff.1 h;obtain ⟨r,h3,h4⟩:=Option.bind_eq_some_iff.1 h1;cases r with
        | true=>exact h3
        | false=>
          cases h4;cases h2
      obtain ⟨t,R⟩:=ahs N L ah hS g2 g1 g3;have hsz:=R.sz;have hpz:=vB t;have hLl:L.length=aX t:=by rw [R.eq,AY]
      have Tf:∀ f,∃ wO,AX N L bU f=some (bT f t bU,wO):=fun f=>by
        obtain ⟨q1,q2,_⟩:=IX R.sh;obtain ⟨wO,w1,w2,_⟩:=abO (sM R.g) (imB f t R.g) N bU [] [] rfl ah bE bE;have w1':zR N t bU f [] []=some ([]++bT f t bU,wO):=w1;refine ⟨wO,?_⟩;unfold AX;rw [d2,Ti,show posB bU=true from rfl,abP N L ah R.ta q1 q2];simp only [aB,Bool.not_true,cond_false,w1',List.nil_append]
      obtain ⟨s1,p1⟩:=Tf true;obtain ⟨s2,p2⟩:=Tf false;rw [p1,p2,c1];simp only [aB,Bool.not_true,cond_false];have hc1:allT CN t:=abQ (fun _ h=>h.1) t R.c;have l1:=Ya true t bU;have l2:=Ya false t bU;obtain ⟨hh,d⟩:=abR (sM R.g) (ahu true t R.g hc1) (bT true t bU) bU 0 rfl (Sg.all _);rw [Nat.zero_add] at d;have hto:=abM N ah t R.tx R.g R.c true bU ah bU hh d;obtain ⟨r,r1,r2,r3⟩:=ahv N ah _ ah t hh d hsz R.dep hto;rw [r1,aB];cases hn:jW 0 (bT true t bU) with
      | false=>
        obtain ⟨q,q1,_,q3⟩:=ahw N (bT true t bU) ah ah;rw [r3 hn,q1];have:=(q3 hn).1;show some (decide (q>=0))=_;rw [decide_eq_true ah]
      | true=>
        have:=r2 hn;subst this;have hsame:Lb N L (bX 0 t)=some true:=by
          rw [<- R.eq];exact ahx N L ah ah hS
        have hP:uo false (bT false t bU)<=uo false (bT true t bU):=by
          have hr:Rl (bT true t bU) (bT false t bU):=by
            have k:=ahy t R.g hc1 bU bU rfl rfl;exact .par (sM R.g).e rfl k k k
          obtain ⟨n,m,a1,a2,a3⟩:=hr;have b1:=a1 [];have b2:=a2 [];rw [List.append_nil] at b1 b2;rw [b1,b2];show m+0<=n+0;omega
        have e1:FQ N (bT true t bU)=some (uo false (bT true t bU):Int):=Yb N _ ah ah;have e2:FQ N (bT false t bU)=some (uo false (bT false t bU):Int):=Yb N _ ah ah;have k4:((0:Int)==4)=false:=rfl;simp only [k4,cond_false,beq_self_eq_true,cond_true,hsame,aB,e1,e2];rw [decide_eq_true ah]
  · have hd:decide ((b.length:Int) > 1048576)=true:=bE
    rw [hd];rfl
theorem kids:Go.Kids Tryz.prog (· < Tryz.prog.types.size):=kids_rows ak ak
theorem full:∀ t e,t < Tryz.prog.types.size->Tryz.prog.underlying t=some (.slice e)->0 < Tryz.prog.cellsOf e:=slices_full_of Tryz.prog ak
def lay:List (String×DataW Unit):=[("loop.example/g01543/impl.keywords",Rows.laid_loop_example_g01543_impl_keywords),("loop.example/g01543/impl.signs",Rows.laid_loop_example_g01543_impl_signs),("loop.example/g01543/impl.builtins",Rows.laid_loop_example_g01543_impl_builtins)]
theorem tables {W:World} (h:laidMetH Tryz.prog lay W):W.var? Tryz.prog "loop.example/g01543/impl.keywords" =some (strCells qX)/\W.var? Tryz.prog "loop.example/g01543/impl.signs" =some (strCells yP)/\W.var? Tryz.prog "loop.example/g01543/impl.builtins" =some (strCells yQ):=by
  rw [MakeChecks.laidMetH_plain _ _ _ ak] at h;obtain ⟨ps,⟨g0,t0,cs0,aFt,p0,q0,hg0,ht0,hv0,hd0,r0,_⟩,_,_⟩:=h;obtain ⟨g1,t1,cs1,fuel1,p1,q1,hg1,ht1,hv1,hd1,r1,_⟩:=r0;obtain ⟨g2,t2,cs2,fuel2,p2,q2,hg2,ht2,hv2,hd2,r2,_⟩:=r1;obtain rfl:=Option.some.inj ((show Tryz.prog.globalNamed "loop.example/g01543/impl.keywords" =some 0 by kernel_rfl).symm.trans hg0);obtain rfl:=Option.some.inj ((show (Tryz.prog.globals[0]?).map (·.type)=some 126 by kernel_rfl).symm.trans ht0);have e0:cs0=strCells qX:=abS (l:=qX) (p:=p0) (by rw [show (DataW.agg (qX.map fun s=>.lit (.string s)):DataW Unit)=Rows.laid_loop_example_g01543_impl_keywords by kernel_rfl];exact hd0) Tryz.underlying126 Tryz.underlying9 ak ak;rw [e0] at hv0;obtain rfl:=Option.some.inj ((show Tryz.prog.globalNamed "loop.example/g01543/impl.signs" =some 1 by kernel_rfl).symm.trans hg1);obtain rfl:=Option.some.inj ((show (Tryz.prog.globals[1]?).map (·.type)=some 127 by kernel_rfl).symm.trans ht1);have e1:cs1=strCells yP:=abS (l:=yP) (p:=p1) (by rw [show (DataW.agg (yP.map fun s=>.lit (.string s)):DataW Unit)=Rows.laid_loop_example_g01543_impl_signs by kernel_rfl];exact hd1) Tryz.underlying127 Tryz.underlying9 ak ak;rw [e1] at hv1;obtain rfl:=Option.some.inj ((show Tryz.prog.globalNamed "loop.example/g01543/impl.builtins" =some 2 by kernel_rfl).symm.trans hg2);obtain rfl:=Option.some.inj ((show (Tryz.prog.globals[2]?).map (·.type)=some 134 by kernel_rfl).symm.trans ht2);have e2:cs2=strCells yQ:=abS (l:=yQ) (p:=p2) (by rw [show (DataW.agg (yQ.map fun s=>.lit (.string s)):DataW Unit)=Rows.laid_loop_example_g01543_impl_builtins by kernel_rfl];exact hd2) Tryz.underlying134 Tryz.underlying9 ak ak;rw [e2] at hv2;exact ⟨hv0,hv1,hv2⟩
theorem apD {W:World} {S:Nat->Prop} (h0:W.var? Tryz.prog "loop.example/g01543/impl.keywords" =some (strCells qX)) (h1:W.var? Tryz.prog "loop.example/g01543/impl.signs" =some (strCells yP)) (h2:W.var? Tryz.prog "loop.example/g01543/impl.builtins" =some (strCells yQ)) (s0:S 0) (s1:S 1) (s2:S 2):FR (GS [0,1,2]) S W:=by
  intro g cs hg;have hc:([0,1,2]:List Nat).contains g=true:=by
    cases h:([0,1,2]:List Nat).contains g with
    | true=>rfl
    | false=>unfold GS at hg;rw [h] at hg;cases hg
  have hm:=List.contains_iff_mem.1 hc;simp only [List.mem_cons,List.mem_nil_iff,or_false] at hm;rcases hm with rfl|rfl|rfl
  · obtain rfl:=Option.some.inj ((show GS [0,1,2] 0=some (qX.map V.s) by kernel_rfl).symm.trans hg)
    exact abT (show Tryz.prog.globalNamed "loop.example/g01543/impl.keywords" =some 0 by kernel_rfl) h0 s0
  · obtain rfl:=Option.some.inj ((show GS [0,1,2] 1=some (yP.map V.s) by kernel_rfl).symm.trans hg)
    exact abT (show Tryz.prog.globalNamed "loop.example/g01543/impl.signs" =some 1 by kernel_rfl) h1 s1
  · obtain rfl:=Option.some.inj ((show GS [0,1,2] 2=some (yQ.map V.s) by kernel_rfl).symm.trans hg)
    exact abT (show Tryz.prog.globalNamed "loop.example/g01543/impl.builtins" =some 2 by kernel_rfl) h2 s2
theorem lifted (os:Os) (started:os.Started) (H:Type) (enc:TypeId×Value->H):
    ReturnsInHanded {} Tryz.checked os 3 .any (fun w args=>(Rows.fnFullSpec.pre enc Tryz.prog Tryz.f3 Rows.fnFullRow.domain false w args/\laidMetH Tryz.prog lay w)/\sizedMet enc Tryz.prog Tryz.f3 (OpenSpec.ofChange Rows.fnFullSpec) false w args) (Rows.fnFullSpec.post enc Tryz.prog Tryz.f3 false true false false):=by
  refine returnsInHanded_of_change_and (C:=Tryz.checked) (X:=fun w _=>laidMetH Tryz.prog lay w) (fun _ _ _ hh h=>h.of_heap hh) own started ak Tryz.func3
    (ChangeSpec.witness_at (enc:=enc) (C:=Tryz.checked) (os:=os) (X:=fun w _=>laidMetH Tryz.prog lay w) false (World.laidAll Tryz.prog os lay) #[.slice none 0 0] 12 (World.laidAll_os _ _ _) ak ak ak ak ak
      (by rw [MakeChecks.laidMetH_plain _ _ _ ak];exact laidMet_laidAll _ ak ak)) ?_
  intro W base args ds gs before hval0 hW hcnd _ hL _;have hval:∀ (j:Nat) t v,Tryz.f3.params[j]?=some t->args[j]?=some v->Value.okWide Tryz.prog W .any base t v:=hval0;have hW':=hW;obtain ⟨p,q,hA0,hV0,rfl,hfz,hnd⟩:=hW;have hA:DataW.TrodAll enc Tryz.prog W 0 (fun _=>true) true Tryz.f3.params.toList args.toList ds p:=hA0;have hV:DataW.TrodVars enc Tryz.prog W (fun _=>true) ["loop.example/g01543/impl.keywords", "loop.example/g01543/impl.builtins", "loop.example/g01543/impl.signs"] gs q:=hV0;rw [Tryz.params3] at hA hval;have hA1:=hA;obtain ⟨v0,vs0,d0,ds0,p0,q0,hargs,rfl,rfl,h0,r0⟩:=trodAll_cons hA;obtain ⟨rfl,rfl,rfl⟩:=trodAll_nil r0;obtain rfl:args=#[v0]:=by cases args;simp_all
  have hA2:DataW.TrodAll enc Tryz.prog W 0 (fun _=>true) true [22] [v0] [d0] (p0++[]):=hA1;have hgl:=ahz hV;obtain ⟨y0,y1,y2,rfl⟩:∃ y0 y1 y2,gs=[y0,y1,y2]:=by
    match gs,hgl with
    | [y0,y1,y2],_=>exact ⟨y0,y1,y2,rfl⟩
  obtain ⟨fu0,hf0⟩:=h0;obtain ⟨a0,k0,c0⟩:=(Reader.slice Tryz.underlying22 (Reader.u8 Tryz.underlying5) 1 ak aJ (fun _=>rfl)) enc W fu0 _ _ hf0;obtain ⟨s0,l0,m0,rfl⟩:=okWide_slice Tryz.underlying22 (hval 0 22 v0 rfl rfl);have htab:=tables hL;have tv0:=htab.1;have tv1:=htab.2.1;have tv2:=htab.2.2;have hlt:∀ b,(fun b=>ahD (p0++[]) b\/b=0\/b=1\/b=2) b->b < W.heap.size:=by
    intro b hb;rcases hb with ⟨m,hm,rfl⟩|rfl|rfl|rfl
    · exact DataW.TrodAll.lt hA1 m (by simpa using hm)
    · exact Yc (show Tryz.prog.globalNamed "loop.example/g01543/impl.keywords" =some 0 by kernel_rfl) tv0
    · exact Yc (show Tryz.prog.globalNamed "loop.example/g01543/impl.signs" =some 1 by kernel_rfl) tv1
    · exact Yc (show Tryz.prog.globalNamed "loop.example/g01543/impl.builtins" =some 2 by kernel_rfl) tv2
  obtain ⟨N,hN⟩:=plain a0 k0;refine (apH (apI N a0 hN) (fun b=>ahD (p0++[]) b\/b=0\/b=1\/b=2) hlt (apD tv0 tv1 tv2 (.inr (.inl rfl)) (.inr (.inr (.inl rfl))) (.inr (.inr (.inr rfl)))) rfl fun i x hx=>?_).mono ?_
  · match i with
    | 0=>
      simp only [List.getElem?_cons_succ,List.getElem?_cons_zero,Option.some.injEq] at hx;subst hx;exact apJ rfl (c0 _ fun p hp=>(.inl ⟨p,by simp [hp],rfl⟩))
    | i+1=>simp at hx
  · rintro e W' ⟨x,S',rfl,hx,hb⟩
    have hxt:=hx.gW;subst hxt;exact ⟨_,rfl,Av.apK (pa:=(p0++[])) (pv:=q) hW' (fun _ _ _=>(trodAll_cons_mk (shut_bool Tryz.underlying4 _) trodAll_mk0))
      (fun sp hsp=>apL kids full hb lQ hA2 (fun m hm=>hsp m (by simp only [List.mem_append];exact .inl (by simpa using hm)))) (fun sp hsp=>ahE laidOut hb ak hV (fun m hm=>hsp m (by simp [hm]))) aA hb (ok_one ak rfl (okWide_bool_mk Tryz.underlying4 _))⟩
theorem over:Rows.fnFullRow.holds Tryz.pinned (OpenSpec.ofChange Rows.fnFullSpec):=
  OpenClaim.holds_of_wide 3 Tryz.f3 rfl rfl rfl rfl rfl rfl rfl ⟨rfl,rfl,rfl,rfl,rfl⟩ rfl rfl rfl rfl rfl ak Tryz.func3 ak
    (of_decide_eq_true ak) (by unfold Func.isWrapper;first|(rw [if_pos lQ];kernel_rfl)|(rw [if_neg lQ];exact ⟨rfl,rfl⟩))
    (fun os started H enc _=>lifted os started H enc)
theorem proved:Rows.FnFullCardSaid:=
  Claim7.holds_tied_plain_at .later [] [.widerDeep,.data,.widerDeep] true (true, "1739298f31bad33a4298de0b2fa0c50950b40ea2296f8dfa2b0e28dc6d7b0951") false
    over (fun _ h=>by cases h) ak (fun _ h=>by cases h) fnFull_row_tie rfl ⟨rfl,rfl⟩ ak rfl
    (fun f fn hf hfn=>by
      obtain rfl:f=3:=Option.some.inj ((show Tryz.prog.funcNamed "loop.example/g01543/laws.FnFull" =some 3 by kernel_rfl).symm.trans hf) |>.symm;obtain rfl:fn=Tryz.f3:=(Option.some.inj (Tryz.func3.symm.trans hfn)).symm;exact ⟨ak,fun j t ht=>by
        rw [Tryz.params3] at ht;have hm:t∈[22]:=by simpa using Array.mem_of_getElem? ht
        have hall:([22].all fun u=>!Tryz.prog.wantsStandIn u)=true:=ak;exact (show Tryz.prog.wantsStandIn t=false by simpa using List.all_eq_true.1 hall t hm)⟩)
    ak
#print axioms proved
end Go.Proofs.YtobpmdjghijneaaGreatDoor.fnFull
