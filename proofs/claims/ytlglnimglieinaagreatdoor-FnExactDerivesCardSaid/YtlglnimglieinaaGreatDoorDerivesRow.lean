/-
  ExactDerives: for all arguments the law returns true: the program's function returns what the reference's returns.
  The tables that the row lists are tied to the program's text.
-/
import Derived.Test.YtlglnimglieinaaGreatDoorRows
import Derived.Test.YtlglnimglieinaaGreatDoorCards
import Derived.Test.YtlglnimglieinaaGreatDoorTie
import Derived.WalkKit
import Derived.ProofKit
import Derived.OpenShut
import Derived.Lay
import Derived.MakeChecks
import Derived.SevenTiedAt
import Derived.Test.YtlglnimglieinaaGreatDoorDeGW7
import Derived.Test.YtlglnimglieinaaGreatDoorDeGP29
import Derived.Test.YtlglnimglieinaaGreatDoorGCore6
namespace Go.Proofs.YtlglnimglieinaaGreatDoor.fnExactDerives
open Go.ChangeShapes Go.WideShapes Go.ChangeAt Go.RowKit Go.Av Go.Proofs.Tryz
set_option linter.all false
set_option maxRecDepth 100000
theorem own:ownKnob Tryz.prog.godebug=none:=au
theorem laidOut:laidOutB Tryz.prog=true:=au
def anD (x:av):Prop:=((Lit.int .i64 x.Kind).wf=true)/\(x.Text.length<=maxLen)/\((Lit.int .i64 x.At).wf=true)
theorem aDH:Reader Tryz.prog 40 (aM) anD:=by
  intro H e w fuel cs x h;obtain ⟨xs,n,rfl,rfl,hl,hxl,hf⟩:=DataW.trod_struct Tryz.underlying40 h;have hl:cs.length=3:=hl.trans au;have hxl:xs.length=3:=hxl;obtain ⟨y0,e0⟩:∃ y,xs[0]?=some y:=⟨_,List.getElem?_eq_getElem ah⟩
  have h0:DataW.trod e Tryz.prog w 0 (fun _=>true) true n 3 ((cs.drop 0).take (Tryz.prog.cellsOf 3))=some y0:=(hf 0 _ rfl).trans e0;have c0:Tryz.prog.cellsOf 3=1:=au;rw [c0] at h0;obtain ⟨a0,k0,r0⟩:=(Reader.i64 Tryz.underlying3) e w n _ _ h0;obtain ⟨y1,e1⟩:∃ y,xs[1]?=some y:=⟨_,List.getElem?_eq_getElem ah⟩
  have h1:DataW.trod e Tryz.prog w 0 (fun _=>true) true n 9 ((cs.drop 1).take (Tryz.prog.cellsOf 9))=some y1:=(hf 1 _ rfl).trans e1;have c1:Tryz.prog.cellsOf 9=1:=au;rw [c1] at h1;obtain ⟨a1,k1,r1⟩:=(Reader.str Tryz.underlying9) e w n _ _ h1;obtain ⟨y2,e2⟩:∃ y,xs[2]?=some y:=⟨_,List.getElem?_eq_getElem ah⟩
  have h2:DataW.trod e Tryz.prog w 0 (fun _=>true) true n 3 ((cs.drop 2).take (Tryz.prog.cellsOf 3))=some y2:=(hf 2 _ rfl).trans e2;have c2:Tryz.prog.cellsOf 3=1:=au;rw [c2] at h2;obtain ⟨a2,k2,r2⟩:=(Reader.i64 Tryz.underlying3) e w n _ _ h2;refine ⟨⟨a0,a1,a2⟩,⟨k0,k1,k2⟩,fun S hS=>?_⟩;have hcs:cs=(cs.drop 0).take 1++((cs.drop 1).take 1++((cs.drop 2).take 1++[])):=by
    match cs,hl with
    | [x0,x1,x2],_=>rfl
  rw [hcs];exact jQ.append (r0 S fun p hp=>hS p (List.mem_flatMap.2 ⟨y0,List.mem_of_getElem? e0,hp⟩)) (jQ.append (r1 S fun p hp=>hS p (List.mem_flatMap.2 ⟨y1,List.mem_of_getElem? e1,hp⟩)) (jQ.append (r2 S fun p hp=>hS p (List.mem_flatMap.2 ⟨y2,List.mem_of_getElem? e2,hp⟩)) (jQ.nil)))
def anE (x:aG):Prop:=((Lit.int .i64 x.Kind).wf=true)/\((Lit.int .i64 x.Op).wf=true)/\(x.Text.length<=maxLen)/\(x.Other.length<=maxLen)/\((∀ z,z∈x.Kids->((Lit.int .i64 z).wf=true))/\x.Kids.length<=maxLen)
theorem aDI:Reader Tryz.prog 44 (aS false) anE:=by
  intro H e w fuel cs x h;obtain ⟨xs,n,rfl,rfl,hl,hxl,hf⟩:=DataW.trod_struct Tryz.underlying44 h;have hl:cs.length=5:=hl.trans au;have hxl:xs.length=5:=hxl;obtain ⟨y0,e0⟩:∃ y,xs[0]?=some y:=⟨_,List.getElem?_eq_getElem ah⟩
  have h0:DataW.trod e Tryz.prog w 0 (fun _=>true) true n 3 ((cs.drop 0).take (Tryz.prog.cellsOf 3))=some y0:=(hf 0 _ rfl).trans e0;have c0:Tryz.prog.cellsOf 3=1:=au;rw [c0] at h0;obtain ⟨a0,k0,r0⟩:=(Reader.i64 Tryz.underlying3) e w n _ _ h0;obtain ⟨y1,e1⟩:∃ y,xs[1]?=some y:=⟨_,List.getElem?_eq_getElem ah⟩
  have h1:DataW.trod e Tryz.prog w 0 (fun _=>true) true n 3 ((cs.drop 1).take (Tryz.prog.cellsOf 3))=some y1:=(hf 1 _ rfl).trans e1;have c1:Tryz.prog.cellsOf 3=1:=au;rw [c1] at h1;obtain ⟨a1,k1,r1⟩:=(Reader.i64 Tryz.underlying3) e w n _ _ h1;obtain ⟨y2,e2⟩:∃ y,xs[2]?=some y:=⟨_,List.getElem?_eq_getElem ah⟩
  have h2:DataW.trod e Tryz.prog w 0 (fun _=>true) true n 9 ((cs.drop 2).take (Tryz.prog.cellsOf 9))=some y2:=(hf 2 _ rfl).trans e2;have c2:Tryz.prog.cellsOf 9=1:=au;rw [c2] at h2;obtain ⟨a2,k2,r2⟩:=(Reader.str Tryz.underlying9) e w n _ _ h2;obtain ⟨y3,e3⟩:∃ y,xs[3]?=some y:=⟨_,List.getElem?_eq_getElem ah⟩
  have h3:DataW.trod e Tryz.prog w 0 (fun _=>true) true n 9 ((cs.drop 3).take (Tryz.prog.cellsOf 9))=some y3:=(hf 3 _ rfl).trans e3;have c3:Tryz.prog.cellsOf 9=1:=au;rw [c3] at h3;obtain ⟨a3,k3,r3⟩:=(Reader.str Tryz.underlying9) e w n _ _ h3;obtain ⟨y4,e4⟩:∃ y,xs[4]?=some y:=⟨_,List.getElem?_eq_getElem ah⟩
  have h4:DataW.trod e Tryz.prog w 0 (fun _=>true) true n 42 ((cs.drop 4).take (Tryz.prog.cellsOf 42))=some y4:=(hf 4 _ rfl).trans e4;have c4:Tryz.prog.cellsOf 42=1:=au;rw [c4] at h4;obtain ⟨a4,k4,r4⟩:=(Reader.slice Tryz.underlying42 (Reader.i64 Tryz.underlying3) 1 au aH (fun _=>rfl)) e w n _ _ h4;refine ⟨⟨a0,a1,a2,a3,a4⟩,⟨k0,k1,k2,k3,k4⟩,fun S hS=>?_⟩;have hcs:cs=(cs.drop 0).take 1++((cs.drop 1).take 1++((cs.drop 2).take 1++((cs.drop 3).take 1++((cs.drop 4).take 1++[])))):=by
    match cs,hl with
    | [x0,x1,x2,x3,x4],_=>rfl
  rw [hcs];exact jQ.append (r0 S fun p hp=>hS p (List.mem_flatMap.2 ⟨y0,List.mem_of_getElem? e0,hp⟩)) (jQ.append (r1 S fun p hp=>hS p (List.mem_flatMap.2 ⟨y1,List.mem_of_getElem? e1,hp⟩)) (jQ.append (r2 S fun p hp=>hS p (List.mem_flatMap.2 ⟨y2,List.mem_of_getElem? e2,hp⟩)) (jQ.append (r3 S fun p hp=>hS p (List.mem_flatMap.2 ⟨y3,List.mem_of_getElem? e3,hp⟩)) (jQ.append (r4 S fun p hp=>hS p (List.mem_flatMap.2 ⟨y4,List.mem_of_getElem? e4,hp⟩)) (jQ.nil)))))
def anF (x:aI):Prop:=((Lit.int .i64 x.Level).wf=true)/\True/\True/\True/\True
theorem aDJ:Reader Tryz.prog 25 (aql) anF:=by
  intro H e w fuel cs x h;obtain ⟨xs,n,rfl,rfl,hl,hxl,hf⟩:=DataW.trod_struct Tryz.underlying25 h;have hl:cs.length=5:=hl.trans au;have hxl:xs.length=5:=hxl;obtain ⟨y0,e0⟩:∃ y,xs[0]?=some y:=⟨_,List.getElem?_eq_getElem ah⟩
  have h0:DataW.trod e Tryz.prog w 0 (fun _=>true) true n 3 ((cs.drop 0).take (Tryz.prog.cellsOf 3))=some y0:=(hf 0 _ rfl).trans e0;have c0:Tryz.prog.cellsOf 3=1:=au;rw [c0] at h0;obtain ⟨a0,k0,r0⟩:=(Reader.i64 Tryz.underlying3) e w n _ _ h0;obtain ⟨y1,e1⟩:∃ y,xs[1]?=some y:=⟨_,List.getElem?_eq_getElem ah⟩
  have h1:DataW.trod e Tryz.prog w 0 (fun _=>true) true n 4 ((cs.drop 1).take (Tryz.prog.cellsOf 4))=some y1:=(hf 1 _ rfl).trans e1;have c1:Tryz.prog.cellsOf 4=1:=au;rw [c1] at h1;obtain ⟨a1,k1,r1⟩:=(Reader.bool Tryz.underlying4) e w n _ _ h1;obtain ⟨y2,e2⟩:∃ y,xs[2]?=some y:=⟨_,List.getElem?_eq_getElem ah⟩
  have h2:DataW.trod e Tryz.prog w 0 (fun _=>true) true n 4 ((cs.drop 2).take (Tryz.prog.cellsOf 4))=some y2:=(hf 2 _ rfl).trans e2;have c2:Tryz.prog.cellsOf 4=1:=au;rw [c2] at h2;obtain ⟨a2,k2,r2⟩:=(Reader.bool Tryz.underlying4) e w n _ _ h2;obtain ⟨y3,e3⟩:∃ y,xs[3]?=some y:=⟨_,List.getElem?_eq_getElem ah⟩
  have h3:DataW.trod e Tryz.prog w 0 (fun _=>true) true n 4 ((cs.drop 3).take (Tryz.prog.cellsOf 4))=some y3:=(hf 3 _ rfl).trans e3;have c3:Tryz.prog.cellsOf 4=1:=au;rw [c3] at h3;obtain ⟨a3,k3,r3⟩:=(Reader.bool Tryz.underlying4) e w n _ _ h3;obtain ⟨y4,e4⟩:∃ y,xs[4]?=some y:=⟨_,List.getElem?_eq_getElem ah⟩
  have h4:DataW.trod e Tryz.prog w 0 (fun _=>true) true n 4 ((cs.drop 4).take (Tryz.prog.cellsOf 4))=some y4:=(hf 4 _ rfl).trans e4;have c4:Tryz.prog.cellsOf 4=1:=au;rw [c4] at h4;obtain ⟨a4,k4,r4⟩:=(Reader.bool Tryz.underlying4) e w n _ _ h4;refine ⟨⟨a0,a1,a2,a3,a4⟩,⟨k0,k1,k2,k3,k4⟩,fun S hS=>?_⟩;have hcs:cs=(cs.drop 0).take 1++((cs.drop 1).take 1++((cs.drop 2).take 1++((cs.drop 3).take 1++((cs.drop 4).take 1++[])))):=by
    match cs,hl with
    | [x0,x1,x2,x3,x4],_=>rfl
  rw [hcs];exact jQ.append (r0 S fun p hp=>hS p (List.mem_flatMap.2 ⟨y0,List.mem_of_getElem? e0,hp⟩)) (jQ.append (r1 S fun p hp=>hS p (List.mem_flatMap.2 ⟨y1,List.mem_of_getElem? e1,hp⟩)) (jQ.append (r2 S fun p hp=>hS p (List.mem_flatMap.2 ⟨y2,List.mem_of_getElem? e2,hp⟩)) (jQ.append (r3 S fun p hp=>hS p (List.mem_flatMap.2 ⟨y3,List.mem_of_getElem? e3,hp⟩)) (jQ.append (r4 S fun p hp=>hS p (List.mem_flatMap.2 ⟨y4,List.mem_of_getElem? e4,hp⟩)) (jQ.nil)))))
theorem plain (a:LT) (x:LN) (p:aI) (ka:(∀ z,z∈a->anD z)/\a.length<=maxLen) (kx:(∀ z,z∈x->anE z)/\x.length<=maxLen) (kp:anF p):∃ N,Zg N a x p=some true:=by
  obtain ⟨za,la⟩:=ka;obtain ⟨zx,lx⟩:=kx;refine ⟨a.length+x.length+3000001,?_⟩;obtain ⟨N,hN⟩:∃ N,N=a.length+x.length+3000001:=⟨_,rfl⟩
  rw [<- hN];unfold Zg;obtain ⟨r,r1,r2⟩:=apV N a ah la (fun z hz=>by obtain ⟨_,h1,_⟩:=za z hz;exact h1) 1048576 ah ah;rw [r1,ak];rcases r2 with ⟨r2,_⟩|⟨r2,r0⟩
  · have:decide (r < 0)=true:=by simpa using r2
    rw [this];rfl
  · have d0:decide (r < 0)=false:=bZ
    rw [d0,cond_false];obtain ⟨q,q1,q2⟩:=aqe N x ah lx (fun z hz=>by obtain ⟨_,_,h1,h2,_,h3⟩:=zx z hz;exact ⟨h1,h2,h3⟩) r ah ah;rw [q1,ak];rcases q2 with ⟨q2,_⟩|⟨q2,q0⟩
    · have:decide (q < 0)=true:=by simpa using q2
      rw [this];rfl
    · have d1:decide (q < 0)=false:=bZ
      have hsa:=apW a ah;have hsx:=aqf x ah;have ha:a.length<=1048576:=ah;have hx:x.length<=1048576:=ah;obtain ⟨b,b1,b2⟩:=avE N ah a hsa x hsx hx p;have ta:=apY N a ah ha hsa;have ea:=aqa N a ah ha hsa;have tx:=aqh N x ah hx hsx;have ex:=aqj N x ah hx hsx;have tp:Tv p=some p:=rfl;rw [d1,cond_false,ta,tx,tp];simp only [ak,b1,b2,ea,ex,beq_self_eq_true,Bool.not_true,cond_false]
theorem kids:Go.Kids Tryz.prog (· < Tryz.prog.types.size):=kids_rows au au
theorem full:∀ t e,t < Tryz.prog.types.size->Tryz.prog.underlying t=some (.slice e)->0 < Tryz.prog.cellsOf e:=slices_full_of Tryz.prog au
def lay:List (String×DataW Unit):=[("loop.example/g01543/impl.keywords",Rows.laid_loop_example_g01543_impl_keywords),("loop.example/g01543/impl.signs",Rows.laid_loop_example_g01543_impl_signs),("loop.example/g01543/impl.builtins",Rows.laid_loop_example_g01543_impl_builtins)]
theorem tables {W:World} (h:laidMetH Tryz.prog lay W):W.var? Tryz.prog "loop.example/g01543/impl.keywords" =some (strCells qK)/\W.var? Tryz.prog "loop.example/g01543/impl.signs" =some (strCells yO)/\W.var? Tryz.prog "loop.example/g01543/impl.builtins" =some (strCells yN):=by
  rw [MakeChecks.laidMetH_plain _ _ _ au] at h;obtain ⟨ps,⟨g0,t0,cs0,aHw,p0,q0,hg0,ht0,hv0,hd0,r0,_⟩,_,_⟩:=h;obtain ⟨g1,t1,cs1,fuel1,p1,q1,hg1,ht1,hv1,hd1,r1,_⟩:=r0;obtain ⟨g2,t2,cs2,fuel2,p2,q2,hg2,ht2,hv2,hd2,r2,_⟩:=r1;obtain rfl:=Option.some.inj ((show Tryz.prog.globalNamed "loop.example/g01543/impl.keywords" =some 1 by kernel_rfl).symm.trans hg0);obtain rfl:=Option.some.inj ((show (Tryz.prog.globals[1]?).map (·.type)=some 139 by kernel_rfl).symm.trans ht0);have e0:cs0=strCells qK:=afS (l:=qK) (p:=p0) (by rw [show (DataW.agg (qK.map fun s=>.lit (.string s)):DataW Unit)=Rows.laid_loop_example_g01543_impl_keywords by kernel_rfl];exact hd0) Tryz.underlying139 Tryz.underlying9 au au;rw [e0] at hv0;obtain rfl:=Option.some.inj ((show Tryz.prog.globalNamed "loop.example/g01543/impl.signs" =some 2 by kernel_rfl).symm.trans hg1);obtain rfl:=Option.some.inj ((show (Tryz.prog.globals[2]?).map (·.type)=some 141 by kernel_rfl).symm.trans ht1);have e1:cs1=strCells yO:=afS (l:=yO) (p:=p1) (by rw [show (DataW.agg (yO.map fun s=>.lit (.string s)):DataW Unit)=Rows.laid_loop_example_g01543_impl_signs by kernel_rfl];exact hd1) Tryz.underlying141 Tryz.underlying9 au au;rw [e1] at hv1;obtain rfl:=Option.some.inj ((show Tryz.prog.globalNamed "loop.example/g01543/impl.builtins" =some 0 by kernel_rfl).symm.trans hg2);obtain rfl:=Option.some.inj ((show (Tryz.prog.globals[0]?).map (·.type)=some 137 by kernel_rfl).symm.trans ht2);have e2:cs2=strCells yN:=afS (l:=yN) (p:=p2) (by rw [show (DataW.agg (yN.map fun s=>.lit (.string s)):DataW Unit)=Rows.laid_loop_example_g01543_impl_builtins by kernel_rfl];exact hd2) Tryz.underlying137 Tryz.underlying9 au au;rw [e2] at hv2;exact ⟨hv0,hv1,hv2⟩
theorem aDK {W:World} {S:Nat->Prop} (h0:W.var? Tryz.prog "loop.example/g01543/impl.keywords" =some (strCells qK)) (h1:W.var? Tryz.prog "loop.example/g01543/impl.signs" =some (strCells yO)) (h2:W.var? Tryz.prog "loop.example/g01543/impl.builtins" =some (strCells yN)) (s0:S 1) (s1:S 2) (s2:S 0):Im (GS [0,1,2]) S W:=by
  intro g cs hg;have hc:([0,1,2]:List Nat).contains g=true:=by
    cases h:([0,1,2]:List Nat).contains g with
    | true=>rfl
    | false=>unfold GS at hg;rw [h] at hg;cases hg
  have hm:=List.contains_iff_mem.1 hc;simp only [List.mem_cons,List.mem_nil_iff,or_false] at hm;rcases hm with rfl|rfl|rfl
  · obtain rfl:=Option.some.inj ((show GS [0,1,2] 0=some (yN.map V.s) by kernel_rfl).symm.trans hg)
    exact afT (show Tryz.prog.globalNamed "loop.example/g01543/impl.builtins" =some 0 by kernel_rfl) h2 s2
  · obtain rfl:=Option.some.inj ((show GS [0,1,2] 1=some (qK.map V.s) by kernel_rfl).symm.trans hg)
    exact afT (show Tryz.prog.globalNamed "loop.example/g01543/impl.keywords" =some 1 by kernel_rfl) h0 s0
  · obtain rfl:=Option.some.inj ((show GS [0,1,2] 2=some (yO.map V.s) by kernel_rfl).symm.trans hg)
    exact afT (show Tryz.prog.globalNamed "loop.example/g01543/impl.signs" =some 2 by kernel_rfl) h1 s1
theorem lifted (os:Os) (started:os.Started) (H:Type) (enc:TypeId×Value->H):
    ReturnsInHanded {} Tryz.checked os 3 .any (fun w args=>(Rows.fnExactDerivesSpec.pre enc Tryz.prog Tryz.f3 Rows.fnExactDerivesRow.domain false w args/\laidMetH Tryz.prog lay w)/\sizedMet enc Tryz.prog Tryz.f3 (OpenSpec.ofChange Rows.fnExactDerivesSpec) false w args) (Rows.fnExactDerivesSpec.post enc Tryz.prog Tryz.f3 false true false false):=by
  refine returnsInHanded_of_change_and (C:=Tryz.checked) (X:=fun w _=>laidMetH Tryz.prog lay w) (fun _ _ _ hh h=>h.of_heap hh) own started au Tryz.func3
    (ChangeSpec.witness_at (enc:=enc) (C:=Tryz.checked) (os:=os) (X:=fun w _=>laidMetH Tryz.prog lay w) false (World.laidAll Tryz.prog os lay) #[.slice none 0 0,.slice none 0 0,.agg #[.int .i64 0,.bool false,.bool false,.bool false,.bool false]] 12 (World.laidAll_os _ _ _) au au au au au
      (by rw [MakeChecks.laidMetH_plain _ _ _ au];exact laidMet_laidAll _ au au)) ?_
  intro W base args ds gs before hval0 hW hcnd _ hL _;have hval:∀ (j:Nat) t v,Tryz.f3.params[j]?=some t->args[j]?=some v->Value.okWide Tryz.prog W .any base t v:=hval0;have hW':=hW;obtain ⟨p,q,hA0,hV0,rfl,hfz,hnd⟩:=hW;have hA:DataW.TrodAll enc Tryz.prog W 0 (fun _=>true) true Tryz.f3.params.toList args.toList ds p:=hA0;have hV:DataW.TrodVars enc Tryz.prog W (fun _=>true) ["loop.example/g01543/impl.keywords", "loop.example/g01543/impl.builtins", "loop.example/g01543/impl.signs"] gs q:=hV0;rw [Tryz.params3] at hA hval;have hA1:=hA;obtain ⟨v0,vs0,d0,ds0,p0,q0,hargs,rfl,rfl,h0,r0⟩:=trodAll_cons hA;obtain ⟨v1,vs1,d1,ds1,p1,q1,rfl,rfl,rfl,h1,r1⟩:=trodAll_cons r0;obtain ⟨v2,vs2,d2,ds2,p2,q2,rfl,rfl,rfl,h2,r2⟩:=trodAll_cons r1;obtain ⟨rfl,rfl,rfl⟩:=trodAll_nil r2;obtain rfl:args=#[v0,v1,v2]:=by cases args;simp_all
  have hA2:DataW.TrodAll enc Tryz.prog W 0 (fun _=>true) true [22,23,25] [v0,v1,v2] [d0,d1,d2] (p0++(p1++(p2++[]))):=hA1;have hgl:=anG hV;obtain ⟨y0,y1,y2,rfl⟩:∃ y0 y1 y2,gs=[y0,y1,y2]:=by
    match gs,hgl with
    | [y0,y1,y2],_=>exact ⟨y0,y1,y2,rfl⟩
  obtain ⟨fu0,hf0⟩:=h0;obtain ⟨a0,k0,c0⟩:=(Reader.slice Tryz.underlying22 aDH 3 au aH (fun _=>rfl)) enc W fu0 _ _ hf0;obtain ⟨s0,l0,m0,rfl⟩:=okWide_slice Tryz.underlying22 (hval 0 22 v0 rfl rfl);obtain ⟨fu1,hf1⟩:=h1;obtain ⟨a1,k1,c1⟩:=(Reader.slice Tryz.underlying23 aDI 5 au aH (fun _=>rfl)) enc W fu1 _ _ hf1;obtain ⟨s1,l1,m1,rfl⟩:=okWide_slice Tryz.underlying23 (hval 1 23 v1 rfl rfl);obtain ⟨fu2,hf2⟩:=h2;obtain ⟨a2,k2,c2⟩:=aDJ enc W fu2 _ _ hf2;obtain ⟨n2,rfl,_⟩:=okWide_struct Tryz.underlying25 (hval 2 25 v2 rfl rfl);have htab:=tables hL;have tv0:=htab.1;have tv1:=htab.2.1;have tv2:=htab.2.2;have hlt:∀ b,(fun b=>anK (p0++(p1++(p2++[]))) b\/b=1\/b=2\/b=0) b->b < W.heap.size:=by
    intro b hb;rcases hb with ⟨m,hm,rfl⟩|rfl|rfl|rfl
    · exact DataW.TrodAll.lt hA1 m (by simpa using hm)
    · exact aaN (show Tryz.prog.globalNamed "loop.example/g01543/impl.keywords" =some 1 by kernel_rfl) tv0
    · exact aaN (show Tryz.prog.globalNamed "loop.example/g01543/impl.signs" =some 2 by kernel_rfl) tv1
    · exact aaN (show Tryz.prog.globalNamed "loop.example/g01543/impl.builtins" =some 0 by kernel_rfl) tv2
  obtain ⟨N,hN⟩:=plain a0 a1 a2 k0 k1 k2;refine (aDQ (aDG N a0 a1 a2 hN) (fun b=>anK (p0++(p1++(p2++[]))) b\/b=1\/b=2\/b=0) hlt (aDK tv0 tv1 tv2 (.inr (.inl rfl)) (.inr (.inr (.inl rfl))) (.inr (.inr (.inr rfl)))) rfl fun i x hx=>?_).mono ?_
  · match i with
    | 0=>
      simp only [List.getElem?_cons_succ,List.getElem?_cons_zero,Option.some.injEq] at hx;subst hx;exact anL rfl (c0 _ fun p hp=>(.inl ⟨p,by simp [hp],rfl⟩))
    | 1=>
      simp only [List.getElem?_cons_succ,List.getElem?_cons_zero,Option.some.injEq] at hx;subst hx;exact anL rfl (c1 _ fun p hp=>(.inl ⟨p,by simp [hp],rfl⟩))
    | 2=>
      simp only [List.getElem?_cons_succ,List.getElem?_cons_zero,Option.some.injEq] at hx;subst hx;exact aDR (c2 _ fun p hp=>(.inl ⟨p,by simp [hp],rfl⟩))
    | i+3=>simp at hx
  · rintro e W' ⟨x,S',rfl,hx,hb⟩
    have hxt:=hx.iK;subst hxt;exact ⟨_,rfl,Av.aDS (pa:=(p0++(p1++(p2++[])))) (pv:=q) hW' (fun _ _ _=>(trodAll_cons_mk (shut_bool Tryz.underlying4 _) trodAll_mk0))
      (fun sp hsp=>aDT kids full hb afU hA2 (fun m hm=>hsp m (by simp only [List.mem_append];exact .inl (by simpa using hm)))) (fun sp hsp=>anM laidOut hb au hV (fun m hm=>hsp m (by simp [hm]))) aF hb (ok_one au rfl (okWide_bool_mk Tryz.underlying4 _))⟩
theorem over:Rows.fnExactDerivesRow.holds Tryz.pinned (OpenSpec.ofChange Rows.fnExactDerivesSpec):=
  OpenClaim.holds_of_wide 3 Tryz.f3 rfl rfl rfl rfl rfl rfl rfl ⟨rfl,rfl,rfl,rfl,rfl⟩ rfl rfl rfl rfl rfl au Tryz.func3 au
    (of_decide_eq_true au) (by unfold Func.isWrapper;first|(rw [if_pos afU];kernel_rfl)|(rw [if_neg afU];exact ⟨rfl,rfl⟩))
    (fun os started H enc _=>lifted os started H enc)
theorem proved:Rows.FnExactDerivesCardSaid:=
  Claim7.holds_tied_plain_at .later [] [.widerDeep,.data,.widerDeep] true (true, "c54f63d08f98fe52607ee7b514798a80528263e81be44e084c8fdf9af708ede0") false
    over (fun _ h=>by cases h) au (fun _ h=>by cases h) fnExactDerives_row_tie rfl ⟨rfl,rfl⟩ au rfl
    (fun f fn hf hfn=>by
      obtain rfl:f=3:=Option.some.inj ((show Tryz.prog.funcNamed "loop.example/g01543/laws.FnExactDerives" =some 3 by kernel_rfl).symm.trans hf) |>.symm;obtain rfl:fn=Tryz.f3:=(Option.some.inj (Tryz.func3.symm.trans hfn)).symm;exact ⟨au,fun j t ht=>by
        rw [Tryz.params3] at ht;have hm:t∈[22,23,25]:=by simpa using Array.mem_of_getElem? ht
        have hall:([22,23,25].all fun u=>!Tryz.prog.wantsStandIn u)=true:=au;exact (show Tryz.prog.wantsStandIn t=false by simpa using List.all_eq_true.1 hall t hm)⟩)
    au
#print axioms proved
end Go.Proofs.YtlglnimglieinaaGreatDoor.fnExactDerives
