/-
  Reduced: for all arguments the law returns true: the program's function returns what the reference's returns.
  The tables that the row lists are tied to the program's text.
-/
import Derived.Test.YtaobbpcbeopddaaGreatDoorRows
import Derived.Test.YtaobbpcbeopddaaGreatDoorCards
import Derived.Test.YtaobbpcbeopddaaGreatDoorTie
import Derived.WalkKit
import Derived.ProofKit
import Derived.OpenShut
import Derived.Lay
import Derived.MakeChecks
import Derived.SevenTiedAt
import Derived.Test.YtaobbpcbeopddaaGreatDoorRxGW6
import Derived.Test.YtaobbpcbeopddaaGreatDoorRxGP31
import Derived.Test.YtaobbpcbeopddaaGreatDoorGCore6
namespace Go.Proofs.YtaobbpcbeopddaaGreatDoor.fnReduced
open Go.ChangeShapes Go.WideShapes Go.ChangeAt Go.RowKit Go.Av Go.Proofs.Tryz
set_option linter.all false
set_option maxRecDepth 100000
theorem own:ownKnob Tryz.prog.godebug=none:=au
theorem laidOut:laidOutB Tryz.prog=true:=au
theorem asb (N:Nat) (L:LN) (t:aA) (hN:1048777 < N) (r:ExR N L t) (hex:Ki N L=some true):Mw N L=some (gq true t bG):=by
  obtain ⟨l1,l2,_⟩:=Kj r.sh;have hT:=r.ta;obtain ⟨n,hn,e1,_⟩:=hT.node;have hsz:=r.sz;unfold Mw;rw [hex,wrap64 ah ah,show (L.length:Int) - 1=((L.length - 1:Nat):Int) by omega,QC hn];have hk:(n.Kind==16)=false:=by
    have g:=(mD r.g).e;rw [e1] at g;unfold nR at g;simp only [Bool.and_eq_true,decide_eq_true_eq] at g;simp;omega
  have htop:Ay=some bG:=rfl;simp only [av,Bool.not_true,cond_false,hk,htop];have:=zw (spB L true t r.g) 0 (L.length - 1) N bG hT rfl ah ah;have e:gu N (⟨L,true⟩:gV) ((L.length - 1:Nat):Int) bG=some (gq true t bG):=this;rw [e,av]
theorem asc (N:Nat) (a:LT) (hl:a.length<=3000) (hN:3001 < N):UJ N a a=some true:=by
  have key:∀ (n i:Nat),a.length - i < n->i<=a.length->Mx N n (a,a,(i:Int))=some true:=by
    intro n;induction n with
    | zero=>intro i h;omega
    | succ n ih=>
      intro i hn hi;rw [Mx];by_cases h:i < a.length
      · have e1:(a[i].Kind !=a[i].Kind)=false:=bne_self_eq_false _
        simp only [gJ h,cond_true,bS h,av,e1,cond_false,beq_self_eq_true,Bool.not_true];rw [wrap64 ah ah,show (i:Int)+1=((i+1:Nat):Int) by omega];exact ih (i+1) ah ah
      · rw [iW h];rfl
  unfold UJ;rw [bne_self_eq_false,cond_false];exact key N 0 ah ah
theorem plain (b:LU) (kb:(∀ z,z∈b->True)/\b.length<=maxLen):∃ N,Zv N b=some true:=by
  refine ⟨18446744073709551657+3000000,?_⟩;obtain ⟨N,hN⟩:∃ N,N=18446744073709551657+3000000:=⟨_,rfl⟩
  rw [<- hN];unfold Zv;rw [ase,av];by_cases hb:b.length<=1048576
  · have hd:decide ((b.length:Int) > 1048576)=false:=bT
    rw [hd,cond_false];obtain ⟨h,e1⟩:=asf b hb N ah;obtain ⟨L,i1,h1,e2,hL,a0,a1⟩:=asg b hb N ah 0 h ah ah;have hS:=ash hL.1;have asi:UK N b=some L:=by
      unfold UK;rw [e1,av];dsimp only;rw [e2,av]
    obtain ⟨c,c1,c2⟩:=asj N L ah hS;rw [asi,av];cases c with
    | false=>
      have e:Mw N L=some []:=by
        unfold Mw;rw [c1];rfl
      rw [e];rfl
    | true=>
      obtain ⟨g1,g2,g3⟩:=c2 rfl;obtain ⟨t,R⟩:=asl N L ah hS g1 g2 g3;have hc:allT CN t:=ajl (fun _ h=>h.1) t R.c;have lm:=(GZ (vV t) (adD t R.g hc).2).2;have ne:=(Zw (vV t) (adD t R.g hc).2).2.ne;rw [ajm t bG] at lm ne;rw [asb N L t ah R c1,av];obtain ⟨l,hl⟩:∃ l,l=gq true t bG:=⟨_,rfl⟩
      rw [<- hl] at lm ne ⊢;have h0:((l.length:Int)==0)=false:=by
        have:l.length≠0:=fun e=>ne (List.length_eq_zero_iff.1 e);rw [beq_eq_false_iff_ne];omega
      rw [h0,cond_false];by_cases h90:l.length<=90
      · rw [decide_eq_false (show¬(l.length:Int) > 90 by omega),cond_false]
        obtain ⟨r,r1,r2,r3⟩:=asq N l ah ah;rw [r1,av];cases hn:fK 0 l with
        | false=>
          have:=(r3 hn).1;rw [decide_eq_true (show r>=0 by omega)];rfl
        | true=>
          rw [r2 hn,decide_eq_false (show¬(-1:Int)>=0 by decide),cond_false];obtain ⟨P,p1,_,_⟩:=asr N N l ah ah ah;rw [p1,av,av];cases decide ((P.length:Int) > 40) with
          | true=>rfl
          | false=>
            have F:Full N t:=⟨R.sz,R.dep,asu N true t R.g R.c bG,asv true t R.tx bG,asw true t R.g hc bG,by rw [<- hl];exact hn⟩
            have ajn:=asx N ah F R.g hc (by rw [<- hl];exact h90);rw [<- hl] at ajn;have htop:Zx=some bG:=rfl;have asy:Ay=some bG:=rfl;have l2:=asz false t bG;have hsz:=R.sz;have e5:=asc N (gq false t bG) ah ah;have e6:=ajo N l ah ah;have e7:=asA N l ah ah;have e8:(pos false l 0).length=He false l:=by
              have:=congrArg List.length (adE l false 0).1;rw [List.length_map] at this;rw [this];exact ajp l false lm.mt
            rw [cond_false,htop,av,ajn,av,asy,av,asB N L t ah R c1 bG rfl,av,e5,av,cond_true,e6,av,e7,av,e8,beq_self_eq_true];rfl
      · rw [decide_eq_true (show (l.length:Int) > 90 by omega)];rfl
  · have hd:decide ((b.length:Int) > 1048576)=true:=bT
    rw [hd];rfl
theorem kids:Go.Kids Tryz.prog (· < Tryz.prog.types.size):=kids_rows au au
theorem full:∀ t e,t < Tryz.prog.types.size->Tryz.prog.underlying t=some (.slice e)->0 < Tryz.prog.cellsOf e:=slices_full_of Tryz.prog au
def lay:List (String×DataW Unit):=[("loop.example/g01543/impl.keywords",Rows.laid_loop_example_g01543_impl_keywords),("loop.example/g01543/impl.signs",Rows.laid_loop_example_g01543_impl_signs),("loop.example/g01543/impl.builtins",Rows.laid_loop_example_g01543_impl_builtins)]
theorem tables {W:World} (h:laidMetH Tryz.prog lay W):W.var? Tryz.prog "loop.example/g01543/impl.keywords" =some (strCells sF)/\W.var? Tryz.prog "loop.example/g01543/impl.signs" =some (strCells zx)/\W.var? Tryz.prog "loop.example/g01543/impl.builtins" =some (strCells zy):=by
  rw [MakeChecks.laidMetH_plain _ _ _ au] at h;obtain ⟨ps,⟨g0,t0,cs0,aJz,p0,q0,hg0,ht0,hv0,hd0,r0,_⟩,_,_⟩:=h;obtain ⟨g1,t1,cs1,fuel1,p1,q1,hg1,ht1,hv1,hd1,r1,_⟩:=r0;obtain ⟨g2,t2,cs2,fuel2,p2,q2,hg2,ht2,hv2,hd2,r2,_⟩:=r1;obtain rfl:=Option.some.inj ((show Tryz.prog.globalNamed "loop.example/g01543/impl.keywords" =some 1 by kernel_rfl).symm.trans hg0);obtain rfl:=Option.some.inj ((show (Tryz.prog.globals[1]?).map (·.type)=some 140 by kernel_rfl).symm.trans ht0);have e0:cs0=strCells sF:=adF (l:=sF) (p:=p0) (by rw [show (DataW.agg (sF.map fun s=>.lit (.string s)):DataW Unit)=Rows.laid_loop_example_g01543_impl_keywords by kernel_rfl];exact hd0) Tryz.underlying140 Tryz.underlying9 au au;rw [e0] at hv0;obtain rfl:=Option.some.inj ((show Tryz.prog.globalNamed "loop.example/g01543/impl.signs" =some 2 by kernel_rfl).symm.trans hg1);obtain rfl:=Option.some.inj ((show (Tryz.prog.globals[2]?).map (·.type)=some 141 by kernel_rfl).symm.trans ht1);have e1:cs1=strCells zx:=adF (l:=zx) (p:=p1) (by rw [show (DataW.agg (zx.map fun s=>.lit (.string s)):DataW Unit)=Rows.laid_loop_example_g01543_impl_signs by kernel_rfl];exact hd1) Tryz.underlying141 Tryz.underlying9 au au;rw [e1] at hv1;obtain rfl:=Option.some.inj ((show Tryz.prog.globalNamed "loop.example/g01543/impl.builtins" =some 0 by kernel_rfl).symm.trans hg2);obtain rfl:=Option.some.inj ((show (Tryz.prog.globals[0]?).map (·.type)=some 139 by kernel_rfl).symm.trans ht2);have e2:cs2=strCells zy:=adF (l:=zy) (p:=p2) (by rw [show (DataW.agg (zy.map fun s=>.lit (.string s)):DataW Unit)=Rows.laid_loop_example_g01543_impl_builtins by kernel_rfl];exact hd2) Tryz.underlying139 Tryz.underlying9 au au;rw [e2] at hv2;exact ⟨hv0,hv1,hv2⟩
theorem asC {W:World} {S:Nat->Prop} (h0:W.var? Tryz.prog "loop.example/g01543/impl.keywords" =some (strCells sF)) (h1:W.var? Tryz.prog "loop.example/g01543/impl.signs" =some (strCells zx)) (h2:W.var? Tryz.prog "loop.example/g01543/impl.builtins" =some (strCells zy)) (s0:S 1) (s1:S 2) (s2:S 0):Hf (GS [0,1,2]) S W:=by
  intro g cs hg;have hc:([0,1,2]:List Nat).contains g=true:=by
    cases h:([0,1,2]:List Nat).contains g with
    | true=>rfl
    | false=>unfold GS at hg;rw [h] at hg;cases hg
  have hm:=List.contains_iff_mem.1 hc;simp only [List.mem_cons,List.mem_nil_iff,or_false] at hm;rcases hm with rfl|rfl|rfl
  · obtain rfl:=Option.some.inj ((show GS [0,1,2] 0=some (zy.map V.s) by kernel_rfl).symm.trans hg)
    exact adG (show Tryz.prog.globalNamed "loop.example/g01543/impl.builtins" =some 0 by kernel_rfl) h2 s2
  · obtain rfl:=Option.some.inj ((show GS [0,1,2] 1=some (sF.map V.s) by kernel_rfl).symm.trans hg)
    exact adG (show Tryz.prog.globalNamed "loop.example/g01543/impl.keywords" =some 1 by kernel_rfl) h0 s0
  · obtain rfl:=Option.some.inj ((show GS [0,1,2] 2=some (zx.map V.s) by kernel_rfl).symm.trans hg)
    exact adG (show Tryz.prog.globalNamed "loop.example/g01543/impl.signs" =some 2 by kernel_rfl) h1 s1
theorem lifted (os:Os) (started:os.Started) (H:Type) (enc:TypeId×Value->H):
    ReturnsInHanded {} Tryz.checked os 3 .any (fun w args=>(Rows.fnReducedSpec.pre enc Tryz.prog Tryz.f3 Rows.fnReducedRow.domain false w args/\laidMetH Tryz.prog lay w)/\sizedMet enc Tryz.prog Tryz.f3 (OpenSpec.ofChange Rows.fnReducedSpec) false w args) (Rows.fnReducedSpec.post enc Tryz.prog Tryz.f3 false true false false):=by
  refine returnsInHanded_of_change_and (C:=Tryz.checked) (X:=fun w _=>laidMetH Tryz.prog lay w) (fun _ _ _ hh h=>h.of_heap hh) own started au Tryz.func3
    (ChangeSpec.witness_at (enc:=enc) (C:=Tryz.checked) (os:=os) (X:=fun w _=>laidMetH Tryz.prog lay w) false (World.laidAll Tryz.prog os lay) #[.slice none 0 0] 12 (World.laidAll_os _ _ _) au au au au au
      (by rw [MakeChecks.laidMetH_plain _ _ _ au];exact laidMet_laidAll _ au au)) ?_
  intro W base args ds gs before hval0 hW hcnd _ hL _;have hval:∀ (j:Nat) t v,Tryz.f3.params[j]?=some t->args[j]?=some v->Value.okWide Tryz.prog W .any base t v:=hval0;have hW':=hW;obtain ⟨p,q,hA0,hV0,rfl,hfz,hnd⟩:=hW;have hA:DataW.TrodAll enc Tryz.prog W 0 (fun _=>true) true Tryz.f3.params.toList args.toList ds p:=hA0;have hV:DataW.TrodVars enc Tryz.prog W (fun _=>true) ["loop.example/g01543/impl.keywords", "loop.example/g01543/impl.builtins", "loop.example/g01543/impl.signs"] gs q:=hV0;rw [Tryz.params3] at hA hval;have hA1:=hA;obtain ⟨v0,vs0,d0,ds0,p0,q0,hargs,rfl,rfl,h0,r0⟩:=trodAll_cons hA;obtain ⟨rfl,rfl,rfl⟩:=trodAll_nil r0;obtain rfl:args=#[v0]:=by cases args;simp_all
  have hA2:DataW.TrodAll enc Tryz.prog W 0 (fun _=>true) true [22] [v0] [d0] (p0++[]):=hA1;have hgl:=ajq hV;obtain ⟨y0,y1,y2,rfl⟩:∃ y0 y1 y2,gs=[y0,y1,y2]:=by
    match gs,hgl with
    | [y0,y1,y2],_=>exact ⟨y0,y1,y2,rfl⟩
  obtain ⟨fu0,hf0⟩:=h0;obtain ⟨a0,k0,c0⟩:=(Reader.slice Tryz.underlying22 (Reader.u8 Tryz.underlying5) 1 au aD (fun _=>rfl)) enc W fu0 _ _ hf0;obtain ⟨s0,l0,m0,rfl⟩:=okWide_slice Tryz.underlying22 (hval 0 22 v0 rfl rfl);have htab:=tables hL;have tv0:=htab.1;have tv1:=htab.2.1;have tv2:=htab.2.2;have hlt:∀ b,(fun b=>aju (p0++[]) b\/b=1\/b=2\/b=0) b->b < W.heap.size:=by
    intro b hb;rcases hb with ⟨m,hm,rfl⟩|rfl|rfl|rfl
    · exact DataW.TrodAll.lt hA1 m (by simpa using hm)
    · exact Zy (show Tryz.prog.globalNamed "loop.example/g01543/impl.keywords" =some 1 by kernel_rfl) tv0
    · exact Zy (show Tryz.prog.globalNamed "loop.example/g01543/impl.signs" =some 2 by kernel_rfl) tv1
    · exact Zy (show Tryz.prog.globalNamed "loop.example/g01543/impl.builtins" =some 0 by kernel_rfl) tv2
  obtain ⟨N,hN⟩:=plain a0 k0;refine (asG (asH N a0 hN) (fun b=>aju (p0++[]) b\/b=1\/b=2\/b=0) hlt (asC tv0 tv1 tv2 (.inr (.inl rfl)) (.inr (.inr (.inl rfl))) (.inr (.inr (.inr rfl)))) rfl fun i x hx=>?_).mono ?_
  · match i with
    | 0=>
      simp only [List.getElem?_cons_succ,List.getElem?_cons_zero,Option.some.injEq] at hx;subst hx;exact asI rfl (c0 _ fun p hp=>(.inl ⟨p,by simp [hp],rfl⟩))
    | i+1=>simp at hx
  · rintro e W' ⟨x,S',rfl,hx,hb⟩
    have hxt:=hx.iX;subst hxt;exact ⟨_,rfl,Av.asJ (pa:=(p0++[])) (pv:=q) hW' (fun _ _ _=>(trodAll_cons_mk (shut_bool Tryz.underlying4 _) trodAll_mk0))
      (fun sp hsp=>asK kids full hb mO hA2 (fun m hm=>hsp m (by simp only [List.mem_append];exact .inl (by simpa using hm)))) (fun sp hsp=>ajv laidOut hb au hV (fun m hm=>hsp m (by simp [hm]))) aF hb (ok_one au rfl (okWide_bool_mk Tryz.underlying4 _))⟩
theorem over:Rows.fnReducedRow.holds Tryz.pinned (OpenSpec.ofChange Rows.fnReducedSpec):=
  OpenClaim.holds_of_wide 3 Tryz.f3 rfl rfl rfl rfl rfl rfl rfl ⟨rfl,rfl,rfl,rfl,rfl⟩ rfl rfl rfl rfl rfl au Tryz.func3 au
    (of_decide_eq_true au) (by unfold Func.isWrapper;first|(rw [if_pos mO];kernel_rfl)|(rw [if_neg mO];exact ⟨rfl,rfl⟩))
    (fun os started H enc _=>lifted os started H enc)
theorem proved:Rows.FnReducedCardSaid:=
  Claim7.holds_tied_plain_at .later [] [.widerDeep,.data,.widerDeep] true (true, "9608095943e5bc33917b1520f8c48e0d684d2d1d0a2d73f940515afbfa441d4f") false
    over (fun _ h=>by cases h) au (fun _ h=>by cases h) fnReduced_row_tie rfl ⟨rfl,rfl⟩ au rfl
    (fun f fn hf hfn=>by
      obtain rfl:f=3:=Option.some.inj ((show Tryz.prog.funcNamed "loop.example/g01543/laws.FnReduced" =some 3 by kernel_rfl).symm.trans hf) |>.symm;obtain rfl:fn=Tryz.f3:=(Option.some.inj (Tryz.func3.symm.trans hfn)).symm;exact ⟨au,fun j t ht=>by
        rw [Tryz.params3] at ht;have hm:t∈[22]:=by simpa using Array.mem_of_getElem? ht
        have hall:([22].all fun u=>!Tryz.prog.wantsStandIn u)=true:=au;exact (show Tryz.prog.wantsStandIn t=false by simpa using List.all_eq_true.1 hall t hm)⟩)
    au
#print axioms proved
end Go.Proofs.YtaobbpcbeopddaaGreatDoor.fnReduced
