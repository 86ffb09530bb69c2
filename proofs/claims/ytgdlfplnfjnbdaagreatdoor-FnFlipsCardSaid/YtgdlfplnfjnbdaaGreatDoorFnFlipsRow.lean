/-
  Flips: for all arguments the law returns true: the program's function returns what the reference's returns.
  The tables that the row lists are tied to the program's text.
-/
import Derived.Test.YtgdlfplnfjnbdaaGreatDoorRows
import Derived.Test.YtgdlfplnfjnbdaaGreatDoorCards
import Derived.Test.YtgdlfplnfjnbdaaGreatDoorTie
import Derived.WalkKit
import Derived.ProofKit
import Derived.OpenShut
import Derived.Lay
import Derived.MakeChecks
import Derived.SevenTiedAt
import Derived.Test.YtgdlfplnfjnbdaaGreatDoorFlGW4
import Derived.Test.YtgdlfplnfjnbdaaGreatDoorFlGP11
import Derived.Test.YtgdlfplnfjnbdaaGreatDoorGCore6
import Derived.Stop.LaidErr
namespace Go.Proofs.YtgdlfplnfjnbdaaGreatDoor.fnFlips
open Go.ChangeShapes Go.WideShapes Go.ChangeAt Go.RowKit Go.Av Go.Proofs.Tryz
set_option linter.all false
set_option maxRecDepth 100000
theorem own:ownKnob Tryz.prog.godebug=none:=ak
theorem laidOut:laidOutB Tryz.prog=true:=ak
theorem plain (b:LU) (kb:(∀ z,z∈b->True)/\b.length<=maxLen):∃ N,Io N b=some true:=by
  refine ⟨18446744073709551657+3000000,?_⟩;obtain ⟨N,hN⟩:∃ N,N=18446744073709551657+3000000:=⟨_,rfl⟩
  rw [<- hN];unfold Io;rw [Ze,aD];by_cases hb:b.length<=1048576
  · have hd:decide ((b.length:Int) > 1048576)=false:=bI
    rw [hd,cond_false];obtain ⟨L,e1,hL⟩:=Zh b hb N ah;have hS:=Zi hL.1;have hk:∀ x,x∈L->x.Kids.length<=1048576:=fun x hx=>by have:=hL.1 x hx;omega
    have hi:∀ x,x∈L->Qc x:=fun x hx=>hL.2.2 x hx;obtain ⟨⟨X,is⟩,f1,f2,f3,f4⟩:=Zj N L ah (by have:=hL.2.1;omega) hS hi;rw [e1,aD,f2,aD,f1,aD];have TY:(is==is)=true:=by cases is<;>rfl
    dsimp only;rw [TY];simp only [Bool.not_true,cond_false];cases is with
    | false=>
      have e:=f3 rfl;dsimp only at e;subst e;rw [Bool.not_false,cond_true,Qd N X X ah (by have:=hL.2.1;omega) hk,decide_eq_true rfl];rfl
    | true=>
      obtain ⟨hok,o,t0,t1,vY,hf,hsz,hX⟩:=f4 rfl;dsimp only at hX;subst hX;simp only [Bool.not_true,cond_false,aD];rw [vY] at hS hok hi hk;have hsm:=hL.1;have hi2:=hL.2.1;rw [vY] at hsm;obtain ⟨htx,hok'⟩:=Zk N ah o t0 t1 hS hsz hok hf;have hsz':bA ⟨12,bJ o,[],[],[t1,t0]⟩<=400:=by
        rw [bA,aJ,aJ,aJ] at hsz ⊢;omega
      have MI:bJ (bJ o)=o/\bJ (bJ o)≠0:=by
        rcases MG hf with ⟨e,e2⟩|⟨e,e2⟩|⟨e,e2⟩|⟨e,e2⟩|⟨e,e2⟩|⟨e,e2⟩|⟨e,e2⟩|⟨e,e2⟩<;>rw [e2]<;>subst e<;>exact ⟨rfl,aI⟩
      have h2:=Zl N ah (bJ o) t1 t0 hsz' hok' MI.2;rw [MI.1] at h2;obtain ⟨v0,a0⟩:=Qb b 0;obtain ⟨v1,a1⟩:=Qb b 1;have a0:xQ b 0=some v0:=a0;have a1:xQ b 1=some v1:=a1;rw [h2,aD,a0,aD,a1,aD];have BP:rT N (aP 0 ⟨12,o,[],[],[t0,t1]⟩)=some true:=by
        unfold uN at hok;obtain ⟨y,h1,h2⟩:=Option.bind_eq_some_iff.1 hok;obtain ⟨r,h3,h4⟩:=Option.bind_eq_some_iff.1 h1;cases r with
        | true=>exact h3
        | false=>
          cases h4;cases h2
      have hsh:=Qe ⟨12,o,[],[],[t0,t1]⟩ hsz;have uS:=zF ⟨12,o,[],[],[t0,t1]⟩;have hn:=Ua N _ ah hsh BP;have hall:allT EG ⟨12,o,[],[],[t0,t1]⟩:=Qf (fun t s i h=>YW N _ hn (fun x hx=>(hsm x hx).2.1) t s i h) _ _ _ uS;have k0:=BO hall t0 aF;have k1:=BO hall t1 aF;have Uc:=Ud N _ ah hS hsh uS BP;rw [eu,dz,dz,dz] at Uc;generalize Ue:[(⟨[120],v0⟩:fE),(⟨[121],(IntKind.wrap .i64 (v1 - 99))⟩:fE)]=env;have hel:env.length<=10:=by rw [<- Ue];simp
      obtain ⟨r,r1,r2⟩:=Zd env hel o t0 t1 k0 k1 hf N ah ah;have hpos:=rW ⟨12,o,[],[],[t0,t1]⟩;have hpos':=rW ⟨12,bJ o,[],[],[t1,t0]⟩;have Uf:xM N (aP 0 ⟨12,o,[],[],[t0,t1]⟩)=some true:=by
        obtain ⟨c,c1,c2,_⟩:=Qg N (aP 0 ⟨12,o,[],[],[t0,t1]⟩) ah hS;rw [hok] at c1;cases c1;exact c2
      have be:∀ x:Option (Int×Bool),(Option.bind x fun r=>some (r.1,r.2))=x:=fun x=>by cases x<;>rfl
      have E1:uO N L env=some r:=by
        rw [vY];unfold uO;rw [Uf,EH N _ ah uS (by rw [gG];omega) (by rw [gG];omega)];simp only [aD,Bool.not_true,cond_false,be];exact r1
      have E2:uO N (aP 0 ⟨12,bJ o,[],[],[t1,t0]⟩) env=some r:=by
        unfold uO;rw [hok',EH N _ ah (zF ⟨12,bJ o,[],[],[t1,t0]⟩) (by rw [gG];omega) (by rw [gG];omega)];simp only [aD,Bool.not_true,cond_false,be];exact r2
      rw [E1,aD,E2,aD];dsimp only;have hlen:(aP 0 ⟨12,bJ o,[],[],[t1,t0]⟩).length=L.length:=by
        rw [vY,gG,gG,bA,aJ,aJ,aJ,bA,aJ,aJ,aJ];omega
      have hsame:BK N (aP 0 ⟨12,o,[],[],[t0,t1]⟩) L=some true:=by
        rw [vY,Qd N _ _ ah (by rw [gG];omega) hk,decide_eq_true rfl]
      rw [hsame,hlen];simp
  · have hd:decide ((b.length:Int) > 1048576)=true:=bI
    rw [hd];rfl
theorem kids:Go.Kids Tryz.prog (· < Tryz.prog.types.size):=kids_rows ak ak
theorem full:∀ t e,t < Tryz.prog.types.size->Tryz.prog.underlying t=some (.slice e)->0 < Tryz.prog.cellsOf e:=slices_full_of Tryz.prog ak
def lay:List (String×DataW Unit):=[("math/bits.deBruijn32tab",Rows.laid_math_bits_deBruijn32tab),("math/bits.deBruijn64tab",Rows.laid_math_bits_deBruijn64tab),("internal/strconv.uint64pow10",Rows.laid_internal_strconv_uint64pow10),("strconv.ErrRange",Rows.laid_strconv_ErrRange),("strconv.ErrSyntax",Rows.laid_strconv_ErrSyntax),("loop.example/g01543/impl.keywords",Rows.laid_loop_example_g01543_impl_keywords),("loop.example/g01543/impl.signs",Rows.laid_loop_example_g01543_impl_signs),("loop.example/g01543/impl.builtins",Rows.laid_loop_example_g01543_impl_builtins)]
theorem acI: "*" ++ "errors.errorString" = "*errors.errorString" :=aI
theorem aoh (u:TypeId) (h:Tryz.prog.typeName? 3 u=some "*errors.errorString"):u=128:=
  typeName_ptr_named (nm:= "errors.errorString") (by rw [acI];kernel_rfl) ak aI u (by rw [acI];exact h)
theorem aoi {W:World} (h:laidMetH Tryz.prog lay W):∃ p,W.var? Tryz.prog "strconv.ErrSyntax" =some #[.iface 128 p]:=by
  rw [MakeChecks.laidMetH_plain _ _ _ ak] at h;obtain ⟨a,s,hv,_⟩:=laid_sentinel (h.tail.tail.tail.tail) (show Tryz.prog.globalNamed "strconv.ErrSyntax" =some 3 by kernel_rfl) (show (Tryz.prog.globals[3]?).map (·.type)=some 86 by kernel_rfl) Tryz.underlying86 aoh Tryz.underlying128 Tryz.underlying130 rfl rfl Tryz.underlying9 ak ak;exact ⟨_,hv⟩
theorem tables {W:World} (h:laidMetH Tryz.prog lay W):W.var? Tryz.prog "internal/strconv.uint64pow10" =some (vB .u64 Lib.pow10Tab)/\W.var? Tryz.prog "loop.example/g01543/impl.keywords" =some (strCells oC)/\W.var? Tryz.prog "loop.example/g01543/impl.signs" =some (strCells vK)/\W.var? Tryz.prog "loop.example/g01543/impl.builtins" =some (strCells rA):=by
  rw [MakeChecks.laidMetH_plain _ _ _ ak] at h;obtain ⟨ps,⟨g0,t0,cs0,asq,p0,q0,hg0,ht0,hv0,hd0,r0,_⟩,_,_⟩:=h;obtain ⟨g1,t1,cs1,fuel1,p1,q1,hg1,ht1,hv1,hd1,r1,_⟩:=r0;obtain ⟨g2,t2,cs2,fuel2,p2,q2,hg2,ht2,hv2,hd2,r2,_⟩:=r1;obtain ⟨g3,t3,cs3,asu,p3,q3,hg3,ht3,hv3,hd3,r3,_⟩:=r2;obtain ⟨g4,t4,cs4,asw,p4,q4,hg4,ht4,hv4,hd4,r4,_⟩:=r3;obtain ⟨g5,t5,cs5,asy,p5,q5,hg5,ht5,hv5,hd5,r5,_⟩:=r4;obtain ⟨g6,t6,cs6,asz,p6,q6,hg6,ht6,hv6,hd6,r6,_⟩:=r5;obtain ⟨g7,t7,cs7,asA,p7,q7,hg7,ht7,hv7,hd7,r7,_⟩:=r6;obtain rfl:=Option.some.inj ((show Tryz.prog.globalNamed "internal/strconv.uint64pow10" =some 6 by kernel_rfl).symm.trans hg2);obtain rfl:=Option.some.inj ((show (Tryz.prog.globals[6]?).map (·.type)=some 137 by kernel_rfl).symm.trans ht2);have e2:cs2=vB .u64 Lib.pow10Tab:=aor (k:=.u64) (l:=Lib.pow10Tab) (p:=p2) (by rw [show (DataW.agg (Lib.pow10Tab.map fun s=>.lit (.int .u64 s)):DataW Unit)=Rows.laid_internal_strconv_uint64pow10 by kernel_rfl];exact hd2) Tryz.underlying137 Tryz.underlying118 ak ak;rw [e2] at hv2;obtain rfl:=Option.some.inj ((show Tryz.prog.globalNamed "loop.example/g01543/impl.keywords" =some 1 by kernel_rfl).symm.trans hg5);obtain rfl:=Option.some.inj ((show (Tryz.prog.globals[1]?).map (·.type)=some 114 by kernel_rfl).symm.trans ht5);have e5:cs5=strCells oC:=Wq (l:=oC) (p:=p5) (by rw [show (DataW.agg (oC.map fun s=>.lit (.string s)):DataW Unit)=Rows.laid_loop_example_g01543_impl_keywords by kernel_rfl];exact hd5) Tryz.underlying114 Tryz.underlying9 ak ak;rw [e5] at hv5;obtain rfl:=Option.some.inj ((show Tryz.prog.globalNamed "loop.example/g01543/impl.signs" =some 2 by kernel_rfl).symm.trans hg6);obtain rfl:=Option.some.inj ((show (Tryz.prog.globals[2]?).map (·.type)=some 117 by kernel_rfl).symm.trans ht6);have e6:cs6=strCells vK:=Wq (l:=vK) (p:=p6) (by rw [show (DataW.agg (vK.map fun s=>.lit (.string s)):DataW Unit)=Rows.laid_loop_example_g01543_impl_signs by kernel_rfl];exact hd6) Tryz.underlying117 Tryz.underlying9 ak ak;rw [e6] at hv6;obtain rfl:=Option.some.inj ((show Tryz.prog.globalNamed "loop.example/g01543/impl.builtins" =some 0 by kernel_rfl).symm.trans hg7);obtain rfl:=Option.some.inj ((show (Tryz.prog.globals[0]?).map (·.type)=some 105 by kernel_rfl).symm.trans ht7);have e7:cs7=strCells rA:=Wq (l:=rA) (p:=p7) (by rw [show (DataW.agg (rA.map fun s=>.lit (.string s)):DataW Unit)=Rows.laid_loop_example_g01543_impl_builtins by kernel_rfl];exact hd7) Tryz.underlying105 Tryz.underlying9 ak ak;rw [e7] at hv7;exact ⟨hv2,hv5,hv6,hv7⟩
theorem aos [EV] {W:World} {S:Nat->Prop} (h0:W.var? Tryz.prog "internal/strconv.uint64pow10" =some (vB .u64 Lib.pow10Tab)) (h1:W.var? Tryz.prog "loop.example/g01543/impl.keywords" =some (strCells oC)) (h2:W.var? Tryz.prog "loop.example/g01543/impl.signs" =some (strCells vK)) (h3:W.var? Tryz.prog "loop.example/g01543/impl.builtins" =some (strCells rA)) (hE:W.var? Tryz.prog "strconv.ErrSyntax" =some #[xB]) (s0:S 6) (s1:S 1) (s2:S 2) (s3:S 0) (sE:S 3):yG (GS [0,1,2,3,6]) S W:=by
  intro g cs hg;have hc:([0,1,2,3,6]:List Nat).contains g=true:=by
    cases h:([0,1,2,3,6]:List Nat).contains g with
    | true=>rfl
    | false=>unfold GS at hg;rw [h] at hg;cases hg
  have hm:=List.contains_iff_mem.1 hc;simp only [List.mem_cons,List.mem_nil_iff,or_false] at hm;rcases hm with rfl|rfl|rfl|rfl|rfl
  · obtain rfl:=Option.some.inj ((show GS [0,1,2,3,6] 0=some (rA.map aG) by kernel_rfl).symm.trans hg)
    exact Ws (show Tryz.prog.globalNamed "loop.example/g01543/impl.builtins" =some 0 by kernel_rfl) h3 s3
  · obtain rfl:=Option.some.inj ((show GS [0,1,2,3,6] 1=some (oC.map aG) by kernel_rfl).symm.trans hg)
    exact Ws (show Tryz.prog.globalNamed "loop.example/g01543/impl.keywords" =some 1 by kernel_rfl) h1 s1
  · obtain rfl:=Option.some.inj ((show GS [0,1,2,3,6] 2=some (vK.map aG) by kernel_rfl).symm.trans hg)
    exact Ws (show Tryz.prog.globalNamed "loop.example/g01543/impl.signs" =some 2 by kernel_rfl) h2 s2
  · obtain rfl:=Option.some.inj ((show GS [0,1,2,3,6] 3=some [.c xB] by rfl).symm.trans hg)
    exact aot (show Tryz.prog.globalNamed "strconv.ErrSyntax" =some 3 by kernel_rfl) hE sE
  · obtain rfl:=Option.some.inj ((show GS [0,1,2,3,6] 6=some (Lib.pow10Tab.map (rC .u64)) by kernel_rfl).symm.trans hg)
    exact aou (show Tryz.prog.globalNamed "internal/strconv.uint64pow10" =some 6 by kernel_rfl) h0 s0
theorem lifted (os:Os) (started:os.Started) (H:Type) (enc:TypeId×Value->H):
    ReturnsInHanded {} Tryz.checked os 3 .any (fun w args=>(Rows.fnFlipsSpec.pre enc Tryz.prog Tryz.f3 Rows.fnFlipsRow.domain false w args/\laidMetH Tryz.prog lay w)/\sizedMet enc Tryz.prog Tryz.f3 (OpenSpec.ofChange Rows.fnFlipsSpec) false w args) (Rows.fnFlipsSpec.post enc Tryz.prog Tryz.f3 false true false false):=by
  refine returnsInHanded_of_change_and (C:=Tryz.checked) (X:=fun w _=>laidMetH Tryz.prog lay w) (fun _ _ _ hh h=>h.of_heap hh) own started ak Tryz.func3
    (ChangeSpec.witness_at (enc:=enc) (C:=Tryz.checked) (os:=os) (X:=fun w _=>laidMetH Tryz.prog lay w) false (World.laidAll Tryz.prog os lay) #[.slice none 0 0] 12 (World.laidAll_os _ _ _) ak ak ak ak ak
      (by rw [MakeChecks.laidMetH_plain _ _ _ ak];exact laidMet_laidAll _ ak ak)) ?_
  intro W base args ds gs before hval0 hW hcnd _ hL _;have hval:∀ (j:Nat) t v,Tryz.f3.params[j]?=some t->args[j]?=some v->Value.okWide Tryz.prog W .any base t v:=hval0;have hW':=hW;obtain ⟨p,q,hA0,hV0,rfl,hfz,hnd⟩:=hW;have hA:DataW.TrodAll enc Tryz.prog W 0 (fun _=>true) true Tryz.f3.params.toList args.toList ds p:=hA0;have hV:DataW.TrodVars enc Tryz.prog W (fun _=>true) ["loop.example/g01543/impl.keywords", "loop.example/g01543/impl.builtins", "loop.example/g01543/impl.signs"] gs q:=hV0;rw [Tryz.params3] at hA hval;have hA1:=hA;obtain ⟨v0,vs0,d0,ds0,p0,q0,hargs,rfl,rfl,h0,r0⟩:=trodAll_cons hA;obtain ⟨rfl,rfl,rfl⟩:=trodAll_nil r0;obtain rfl:args=#[v0]:=by cases args;simp_all
  have hA2:DataW.TrodAll enc Tryz.prog W 0 (fun _=>true) true [22] [v0] [d0] (p0++[]):=hA1;have hgl:=acJ hV;obtain ⟨y0,y1,y2,rfl⟩:∃ y0 y1 y2,gs=[y0,y1,y2]:=by
    match gs,hgl with
    | [y0,y1,y2],_=>exact ⟨y0,y1,y2,rfl⟩
  obtain ⟨fu0,hf0⟩:=h0;obtain ⟨a0,k0,c0⟩:=(Reader.slice Tryz.underlying22 (Reader.u8 Tryz.underlying5) 1 ak aI (fun _=>rfl)) enc W fu0 _ _ hf0;obtain ⟨s0,l0,m0,rfl⟩:=okWide_slice Tryz.underlying22 (hval 0 22 v0 rfl rfl);have htab:=tables hL;have tv0:=htab.1;have tv1:=htab.2.1;have tv2:=htab.2.2.1;have tv3:=htab.2.2.2;obtain ⟨ep,tE0⟩:=aoi hL
  letI:EV:=⟨⟨(128,ep)⟩⟩
  have tE:W.var? Tryz.prog "strconv.ErrSyntax" =some #[xB]:=tE0;have hlt:∀ b,(fun b=>acO (p0++[]) b\/b=6\/b=1\/b=2\/b=0\/b=3) b->b < W.heap.size:=by
    intro b hb;rcases hb with ⟨m,hm,rfl⟩|rfl|rfl|rfl|rfl|rfl
    · exact DataW.TrodAll.lt hA1 m (by simpa using hm)
    · exact Jw (show Tryz.prog.globalNamed "internal/strconv.uint64pow10" =some 6 by kernel_rfl) tv0
    · exact Jw (show Tryz.prog.globalNamed "loop.example/g01543/impl.keywords" =some 1 by kernel_rfl) tv1
    · exact Jw (show Tryz.prog.globalNamed "loop.example/g01543/impl.signs" =some 2 by kernel_rfl) tv2
    · exact Jw (show Tryz.prog.globalNamed "loop.example/g01543/impl.builtins" =some 0 by kernel_rfl) tv3
    · exact Jw (show Tryz.prog.globalNamed "strconv.ErrSyntax" =some 3 by kernel_rfl) tE
  obtain ⟨N,hN⟩:=plain a0 k0;refine (aoz (aog N a0 hN) (fun b=>acO (p0++[]) b\/b=6\/b=1\/b=2\/b=0\/b=3) hlt (aos tv0 tv1 tv2 tv3 tE (.inr (.inl rfl)) (.inr (.inr (.inl rfl))) (.inr (.inr (.inr (.inl rfl)))) (.inr (.inr (.inr (.inr (.inl rfl))))) (.inr (.inr (.inr (.inr (.inr rfl)))))) rfl fun i x hx=>?_).mono ?_
  · match i with
    | 0=>
      simp only [List.getElem?_cons_succ,List.getElem?_cons_zero,Option.some.injEq] at hx;subst hx;exact aoA rfl (c0 _ fun p hp=>(.inl ⟨p,by simp [hp],rfl⟩))
    | i+1=>simp at hx
  · rintro e W' ⟨x,S',rfl,hx,hb⟩
    have hxt:=hx.eU;subst hxt;exact ⟨_,rfl,Av.aoB (pa:=(p0++[])) (pv:=q) hW' (fun _ _ _=>(trodAll_cons_mk (shut_bool Tryz.underlying4 _) trodAll_mk0))
      (fun sp hsp=>aoC kids full hb iT hA2 (fun m hm=>hsp m (by simp only [List.mem_append];exact .inl (by simpa using hm)))) (fun sp hsp=>acP laidOut hb ak hV (fun m hm=>hsp m (by simp [hm]))) aF hb (ok_one ak rfl (okWide_bool_mk Tryz.underlying4 _))⟩
theorem over:Rows.fnFlipsRow.holds Tryz.pinned (OpenSpec.ofChange Rows.fnFlipsSpec):=
  OpenClaim.holds_of_wide 3 Tryz.f3 rfl rfl rfl rfl rfl rfl rfl ⟨rfl,rfl,rfl,rfl,rfl⟩ rfl rfl rfl rfl rfl ak Tryz.func3 ak
    (of_decide_eq_true ak) (by unfold Func.isWrapper;first|(rw [if_pos iT];kernel_rfl)|(rw [if_neg iT];exact ⟨rfl,rfl⟩))
    (fun os started H enc _=>lifted os started H enc)
theorem proved:Rows.FnFlipsCardSaid:=
  Claim7.holds_tied_plain_at .later [] [.data,.data,.data,.sentinel,.sentinel,.widerDeep,.data,.widerDeep] true (true, "6887a44f772b5ed503b048fb3a0fab79fc357dac9e5fbf95c73ad260edd9753b") true
    over (fun _ h=>by cases h) ak (fun _ h=>by cases h) fnFlips_row_tie rfl ⟨rfl,rfl⟩ ak rfl
    (fun f fn hf hfn=>by
      obtain rfl:f=3:=Option.some.inj ((show Tryz.prog.funcNamed "loop.example/g01543/laws.FnFlips" =some 3 by kernel_rfl).symm.trans hf) |>.symm;obtain rfl:fn=Tryz.f3:=(Option.some.inj (Tryz.func3.symm.trans hfn)).symm;exact ⟨ak,fun j t ht=>by
        rw [Tryz.params3] at ht;have hm:t∈[22]:=by simpa using Array.mem_of_getElem? ht
        have hall:([22].all fun u=>!Tryz.prog.wantsStandIn u)=true:=ak;exact (show Tryz.prog.wantsStandIn t=false by simpa using List.all_eq_true.1 hall t hm)⟩)
    ak
#print axioms proved
end Go.Proofs.YtgdlfplnfjnbdaaGreatDoor.fnFlips
