/-
  One: for all arguments the law returns true: the program's function returns what the reference's returns.
  The tables that the row lists are tied to the program's text.
-/
import Derived.Test.YtpehbmgfhfpgbaaGreatDoorRows
import Derived.Test.YtpehbmgfhfpgbaaGreatDoorCards
import Derived.Test.YtpehbmgfhfpgbaaGreatDoorTie
import Derived.WalkKit
import Derived.ProofKit
import Derived.OpenShut
import Derived.Lay
import Derived.MakeChecks
import Derived.SevenTiedAt
import Derived.Test.YtpehbmgfhfpgbaaGreatDoorOnGW7
import Derived.Test.YtpehbmgfhfpgbaaGreatDoorOnGP17
import Derived.Test.YtpehbmgfhfpgbaaGreatDoorGCore6
namespace Go.Proofs.YtpehbmgfhfpgbaaGreatDoor.fnOne
open Go.ChangeShapes Go.WideShapes Go.ChangeAt Go.RowKit Go.Av Go.Proofs.Tryz
set_option linter.all false
set_option maxRecDepth 100000
theorem own:ownKnob Tryz.prog.godebug=none:=ak
theorem laidOut:laidOutB Tryz.prog=true:=ak
theorem acD (N:Nat) (hN:2000000<=N) (t:av) (hx:TS t) (hg:allT GN t) (hc:allT (fun u=>CN u/\TN N u) t) (f:Bool) (p:aK) (hl:(bY f t p).length<=3000) (q:aK) (h:Bool) (d:gy (bY f t p) q 0 (bY f t p).length t h):Ey N (bY f t p)=some true:=by
  have TT:=(acE (bY f t p) _ 0 _ (Nat.le_refl _)).2.1 _ _ _ d;have e:=aif N _ hl ah TT.a (aii N f t hg hc p);obtain ⟨b,b1,b2,_⟩:=aij N (bY f t p) ah (aik f t hx p);rw [b1] at e;rw [b2];exact e
theorem TU (b:LU) (hb:b.length<=1048576) (N:Nat) (hN:18446744073709551657+2097152<=N):∃ (L:LN) (p:aK),Jh N b=some (L,p)/\Ez L:=by
  obtain ⟨h,e1⟩:=ail b hb N ah;obtain ⟨L,i1,h1,e2,hL,a0,a1⟩:=ain b hb N ah 0 h ah ah;obtain ⟨p,i2,h2,e3,_,b0,b1⟩:=aio b hb i1 h1 a0 a1;refine ⟨L,p,?_,hL⟩;unfold Jh;rw [e1,aB];dsimp only;rw [e2,aB];dsimp only;rw [e3,aB]
theorem plain (b:LU) (kb:(∀ z,z∈b->True)/\b.length<=maxLen):∃ N,PU N b=some true:=by
  refine ⟨18446744073709551657+3000000,?_⟩;obtain ⟨N,hN⟩:∃ N,N=18446744073709551657+3000000:=⟨_,rfl⟩
  rw [<- hN];unfold PU;rw [aip,aB];by_cases hb:b.length<=1048576
  · have hd:decide ((b.length:Int) > 1048576)=false:=bF
    rw [hd,cond_false];obtain ⟨L,p,e1,hL⟩:=TU b hb N ah;obtain ⟨fr,f1,f2⟩:=aiq N ah b;obtain ⟨L2,p2,e2,hL2⟩:=TU fr ah N ah;have hS:=YA hL.1.1;have hS2:=YA hL2.1.1;rw [e1,f1,aB,aB,e2,aB];dsimp only;obtain ⟨c,c1,d2,c2⟩:=YB N L ah hS;obtain ⟨c',c1',d2',c2'⟩:=YB N L2 ah hS2;unfold TV;rw [c1,air];have none':(c=false\/posB p=false)->CU N L p false=some ([],[]):=fun hh=>by
      unfold CU;rw [d2,LD];rcases hh with rfl|hp
      · rfl
      · rw [hp];cases c<;>rfl
    cases c with
    | false=>rw [none' (.inl rfl)];rfl
    | true=>
      cases hp:posB p with
      | false=>rw [none' (.inr hp)];rfl
      | true=>
        obtain ⟨g1,g3⟩:=c2 rfl;have g2:yh N L=some true:=by
          have h:=c1;unfold LG at h;obtain ⟨y,h1,h2⟩:=Option.bind_eq_some_iff.1 h;obtain ⟨r,h3,h4⟩:=Option.bind_eq_some_iff.1 h1;cases r with
          | true=>exact h3
          | false=>
            cases h4;cases h2
        obtain ⟨t,R⟩:=ais N L ah hS g2 g1 g3;have hsz:=R.sz;have hpz:=uK t;have hLl:L.length=aV t:=by rw [R.eq,vU]
        obtain ⟨s1,p1⟩:∃ xC,CU N L p false=some (bY false t p,xC):=by
          obtain ⟨q1,q2,_⟩:=Ji R.sh;obtain ⟨xC,w1,w2,_⟩:=acG (vV R.g) (imB false t R.g) N p [] [] hp ah bF bF;have w1':Ao N t p false [] []=some ([]++bY false t p,xC):=w1;refine ⟨xC,?_⟩;unfold CU;rw [d2,LD,hp,acH N L ah R.ta q1 q2];simp only [aB,Bool.not_true,cond_false,w1',List.nil_append]
        rw [p1];simp only [aB,Bool.not_true,cond_false];by_cases hl:(bY false t p).length<=300
        · have LH:decide (((bY false t p).length:Int) > 300)=false:=bF
          rw [LH,cond_false];have hc1:allT CN t:=acI (fun _ h=>h.1) t R.c;obtain ⟨hh,d⟩:=acJ (vV R.g) (aiu false t R.g hc1) (bY false t p) p 0 hp (Sg.all _);rw [Nat.zero_add] at d;have hto:=acD N ah t R.tx R.g R.c false p ah p hh d;have aqt:eB t<=25+1:=hL.2.dep R.ta;have hn:oW 0 (bY false t p)=true:=(acK (aiv t R.g hc1) p).nest ah;have D:=fun x c hc=>aiw N ah _ ah t p hp hh d hsz R.dep hto hn x c hc;have hk:∀ x,x∈L->x.Kids.length<=1048576:=fun x hx=>by have:=hL.1.1 x hx;omega
          rw [D L true d2,<- R.eq,PV N L L ah ah hk,decide_eq_true rfl];simp only [aB,cond_true];rw [PV N L L2 ah ah hk,aB];cases hs:decide (L=L2) with
          | true=>rfl
          | false=>
            rw [cond_false,D L2 c' d2',<- R.eq,PV N L L2 ah ah hk,hs];cases c'<;>rfl
        · have LH:decide (((bY false t p).length:Int) > 300)=true:=bF
          rw [LH];rfl
  · have hd:decide ((b.length:Int) > 1048576)=true:=bF
    rw [hd];rfl
theorem kids:Go.Kids Tryz.prog (· < Tryz.prog.types.size):=kids_rows ak ak
theorem full:∀ t e,t < Tryz.prog.types.size->Tryz.prog.underlying t=some (.slice e)->0 < Tryz.prog.cellsOf e:=slices_full_of Tryz.prog ak
def lay:List (String×DataW Unit):=[("loop.example/g01543/impl.keywords",Rows.laid_loop_example_g01543_impl_keywords),("loop.example/g01543/impl.signs",Rows.laid_loop_example_g01543_impl_signs),("loop.example/g01543/impl.builtins",Rows.laid_loop_example_g01543_impl_builtins)]
theorem tables {W:World} (h:laidMetH Tryz.prog lay W):W.var? Tryz.prog "loop.example/g01543/impl.keywords" =some (strCells rR)/\W.var? Tryz.prog "loop.example/g01543/impl.signs" =some (strCells zo)/\W.var? Tryz.prog "loop.example/g01543/impl.builtins" =some (strCells zq):=by
  rw [MakeChecks.laidMetH_plain _ _ _ ak] at h;obtain ⟨ps,⟨g0,t0,cs0,aGE,p0,q0,hg0,ht0,hv0,hd0,r0,_⟩,_,_⟩:=h;obtain ⟨g1,t1,cs1,fuel1,p1,q1,hg1,ht1,hv1,hd1,r1,_⟩:=r0;obtain ⟨g2,t2,cs2,fuel2,p2,q2,hg2,ht2,hv2,hd2,r2,_⟩:=r1;obtain rfl:=Option.some.inj ((show Tryz.prog.globalNamed "loop.example/g01543/impl.keywords" =some 0 by kernel_rfl).symm.trans hg0);obtain rfl:=Option.some.inj ((show (Tryz.prog.globals[0]?).map (·.type)=some 127 by kernel_rfl).symm.trans ht0);have e0:cs0=strCells rR:=acL (l:=rR) (p:=p0) (by rw [show (DataW.agg (rR.map fun s=>.lit (.string s)):DataW Unit)=Rows.laid_loop_example_g01543_impl_keywords by kernel_rfl];exact hd0) Tryz.underlying127 Tryz.underlying9 ak ak;rw [e0] at hv0;obtain rfl:=Option.some.inj ((show Tryz.prog.globalNamed "loop.example/g01543/impl.signs" =some 1 by kernel_rfl).symm.trans hg1);obtain rfl:=Option.some.inj ((show (Tryz.prog.globals[1]?).map (·.type)=some 128 by kernel_rfl).symm.trans ht1);have e1:cs1=strCells zo:=acL (l:=zo) (p:=p1) (by rw [show (DataW.agg (zo.map fun s=>.lit (.string s)):DataW Unit)=Rows.laid_loop_example_g01543_impl_signs by kernel_rfl];exact hd1) Tryz.underlying128 Tryz.underlying9 ak ak;rw [e1] at hv1;obtain rfl:=Option.some.inj ((show Tryz.prog.globalNamed "loop.example/g01543/impl.builtins" =some 2 by kernel_rfl).symm.trans hg2);obtain rfl:=Option.some.inj ((show (Tryz.prog.globals[2]?).map (·.type)=some 147 by kernel_rfl).symm.trans ht2);have e2:cs2=strCells zq:=acL (l:=zq) (p:=p2) (by rw [show (DataW.agg (zq.map fun s=>.lit (.string s)):DataW Unit)=Rows.laid_loop_example_g01543_impl_builtins by kernel_rfl];exact hd2) Tryz.underlying147 Tryz.underlying9 ak ak;rw [e2] at hv2;exact ⟨hv0,hv1,hv2⟩
theorem aqu {W:World} {S:Nat->Prop} (h0:W.var? Tryz.prog "loop.example/g01543/impl.keywords" =some (strCells rR)) (h1:W.var? Tryz.prog "loop.example/g01543/impl.signs" =some (strCells zo)) (h2:W.var? Tryz.prog "loop.example/g01543/impl.builtins" =some (strCells zq)) (s0:S 0) (s1:S 1) (s2:S 2):EA (GS [0,1,2]) S W:=by
  intro g cs hg;have hc:([0,1,2]:List Nat).contains g=true:=by
    cases h:([0,1,2]:List Nat).contains g with
    | true=>rfl
    | false=>unfold GS at hg;rw [h] at hg;cases hg
  have hm:=List.contains_iff_mem.1 hc;simp only [List.mem_cons,List.mem_nil_iff,or_false] at hm;rcases hm with rfl|rfl|rfl
  · obtain rfl:=Option.some.inj ((show GS [0,1,2] 0=some (rR.map V.s) by kernel_rfl).symm.trans hg)
    exact acM (show Tryz.prog.globalNamed "loop.example/g01543/impl.keywords" =some 0 by kernel_rfl) h0 s0
  · obtain rfl:=Option.some.inj ((show GS [0,1,2] 1=some (zo.map V.s) by kernel_rfl).symm.trans hg)
    exact acM (show Tryz.prog.globalNamed "loop.example/g01543/impl.signs" =some 1 by kernel_rfl) h1 s1
  · obtain rfl:=Option.some.inj ((show GS [0,1,2] 2=some (zq.map V.s) by kernel_rfl).symm.trans hg)
    exact acM (show Tryz.prog.globalNamed "loop.example/g01543/impl.builtins" =some 2 by kernel_rfl) h2 s2
theorem lifted (os:Os) (started:os.Started) (H:Type) (enc:TypeId×Value->H):
    ReturnsInHanded {} Tryz.checked os 3 .any (fun w args=>(Rows.fnOneSpec.pre enc Tryz.prog Tryz.f3 Rows.fnOneRow.domain false w args/\laidMetH Tryz.prog lay w)/\sizedMet enc Tryz.prog Tryz.f3 (OpenSpec.ofChange Rows.fnOneSpec) false w args) (Rows.fnOneSpec.post enc Tryz.prog Tryz.f3 false true false false):=by
  refine returnsInHanded_of_change_and (C:=Tryz.checked) (X:=fun w _=>laidMetH Tryz.prog lay w) (fun _ _ _ hh h=>h.of_heap hh) own started ak Tryz.func3
    (ChangeSpec.witness_at (enc:=enc) (C:=Tryz.checked) (os:=os) (X:=fun w _=>laidMetH Tryz.prog lay w) false (World.laidAll Tryz.prog os lay) #[.slice none 0 0] 12 (World.laidAll_os _ _ _) ak ak ak ak ak
      (by rw [MakeChecks.laidMetH_plain _ _ _ ak];exact laidMet_laidAll _ ak ak)) ?_
  intro W base args ds gs before hval0 hW hcnd _ hL _;have hval:∀ (j:Nat) t v,Tryz.f3.params[j]?=some t->args[j]?=some v->Value.okWide Tryz.prog W .any base t v:=hval0;have hW':=hW;obtain ⟨p,q,hA0,hV0,rfl,hfz,hnd⟩:=hW;have hA:DataW.TrodAll enc Tryz.prog W 0 (fun _=>true) true Tryz.f3.params.toList args.toList ds p:=hA0;have hV:DataW.TrodVars enc Tryz.prog W (fun _=>true) ["loop.example/g01543/impl.keywords", "loop.example/g01543/impl.builtins", "loop.example/g01543/impl.signs"] gs q:=hV0;rw [Tryz.params3] at hA hval;have hA1:=hA;obtain ⟨v0,vs0,d0,ds0,p0,q0,hargs,rfl,rfl,h0,r0⟩:=trodAll_cons hA;obtain ⟨rfl,rfl,rfl⟩:=trodAll_nil r0;obtain rfl:args=#[v0]:=by cases args;simp_all
  have hA2:DataW.TrodAll enc Tryz.prog W 0 (fun _=>true) true [22] [v0] [d0] (p0++[]):=hA1;have hgl:=aix hV;obtain ⟨y0,y1,y2,rfl⟩:∃ y0 y1 y2,gs=[y0,y1,y2]:=by
    match gs,hgl with
    | [y0,y1,y2],_=>exact ⟨y0,y1,y2,rfl⟩
  obtain ⟨fu0,hf0⟩:=h0;obtain ⟨a0,k0,c0⟩:=(Reader.slice Tryz.underlying22 (Reader.u8 Tryz.underlying5) 1 ak aJ (fun _=>rfl)) enc W fu0 _ _ hf0;obtain ⟨s0,l0,m0,rfl⟩:=okWide_slice Tryz.underlying22 (hval 0 22 v0 rfl rfl);have htab:=tables hL;have tv0:=htab.1;have tv1:=htab.2.1;have tv2:=htab.2.2;have hlt:∀ b,(fun b=>aiB (p0++[]) b\/b=0\/b=1\/b=2) b->b < W.heap.size:=by
    intro b hb;rcases hb with ⟨m,hm,rfl⟩|rfl|rfl|rfl
    · exact DataW.TrodAll.lt hA1 m (by simpa using hm)
    · exact YC (show Tryz.prog.globalNamed "loop.example/g01543/impl.keywords" =some 0 by kernel_rfl) tv0
    · exact YC (show Tryz.prog.globalNamed "loop.example/g01543/impl.signs" =some 1 by kernel_rfl) tv1
    · exact YC (show Tryz.prog.globalNamed "loop.example/g01543/impl.builtins" =some 2 by kernel_rfl) tv2
  obtain ⟨N,hN⟩:=plain a0 k0;refine (aqx (aqy N a0 hN) (fun b=>aiB (p0++[]) b\/b=0\/b=1\/b=2) hlt (aqu tv0 tv1 tv2 (.inr (.inl rfl)) (.inr (.inr (.inl rfl))) (.inr (.inr (.inr rfl)))) rfl fun i x hx=>?_).mono ?_
  · match i with
    | 0=>
      simp only [List.getElem?_cons_succ,List.getElem?_cons_zero,Option.some.injEq] at hx;subst hx;exact aqz rfl (c0 _ fun p hp=>(.inl ⟨p,by simp [hp],rfl⟩))
    | i+1=>simp at hx
  · rintro e W' ⟨x,S',rfl,hx,hb⟩
    have hxt:=hx.iw;subst hxt;exact ⟨_,rfl,Av.aqA (pa:=(p0++[])) (pv:=q) hW' (fun _ _ _=>(trodAll_cons_mk (shut_bool Tryz.underlying4 _) trodAll_mk0))
      (fun sp hsp=>aqB kids full hb mE hA2 (fun m hm=>hsp m (by simp only [List.mem_append];exact .inl (by simpa using hm)))) (fun sp hsp=>aiC laidOut hb ak hV (fun m hm=>hsp m (by simp [hm]))) aA hb (ok_one ak rfl (okWide_bool_mk Tryz.underlying4 _))⟩
theorem over:Rows.fnOneRow.holds Tryz.pinned (OpenSpec.ofChange Rows.fnOneSpec):=
  OpenClaim.holds_of_wide 3 Tryz.f3 rfl rfl rfl rfl rfl rfl rfl ⟨rfl,rfl,rfl,rfl,rfl⟩ rfl rfl rfl rfl rfl ak Tryz.func3 ak
    (of_decide_eq_true ak) (by unfold Func.isWrapper;first|(rw [if_pos mE];kernel_rfl)|(rw [if_neg mE];exact ⟨rfl,rfl⟩))
    (fun os started H enc _=>lifted os started H enc)
theorem proved:Rows.FnOneCardSaid:=
  Claim7.holds_tied_plain_at .later [] [.widerDeep,.data,.widerDeep] true (true, "5de6902b3775b42ca6a8a22b42399f9685dfbeb3a5343f5813d2eb519ad96c4c") false
    over (fun _ h=>by cases h) ak (fun _ h=>by cases h) fnOne_row_tie rfl ⟨rfl,rfl⟩ ak rfl
    (fun f fn hf hfn=>by
      obtain rfl:f=3:=Option.some.inj ((show Tryz.prog.funcNamed "loop.example/g01543/laws.FnOne" =some 3 by kernel_rfl).symm.trans hf) |>.symm;obtain rfl:fn=Tryz.f3:=(Option.some.inj (Tryz.func3.symm.trans hfn)).symm;exact ⟨ak,fun j t ht=>by
        rw [Tryz.params3] at ht;have hm:t∈[22]:=by simpa using Array.mem_of_getElem? ht
        have hall:([22].all fun u=>!Tryz.prog.wantsStandIn u)=true:=ak;exact (show Tryz.prog.wantsStandIn t=false by simpa using List.all_eq_true.1 hall t hm)⟩)
    ak
#print axioms proved
end Go.Proofs.YtpehbmgfhfpgbaaGreatDoor.fnOne
