/-
  The walks that show that the code computes the models, part 4.
-/
import Derived.Test.YtllanibkffnogaaGreatDoorRwXW3
namespace Go.Proofs.Tryz
open Go.Av
set_option maxRecDepth 100000
set_option maxHeartbeats 8000000
set_option linter.unusedSimpArgs false
set_option linter.unusedVariables false

structure RecOk8 (R : Rec8) : Prop where
  mi_tree__matches : ∀ (a0 : STree) (a1 : STree) (p0 : List SFilling) (r : ((List SFilling) × Bool)), R.mi_tree__matches a0 a1 p0 = some r → AC Tryz.prog (GS []) 47 [.agg [V.i a0.kind, V.i a0.op, V.s a0.text, V.s a0.other, .sl false false (a0.kids.map eST)], .agg [V.i a1.kind, V.i a1.op, V.s a1.text, V.s a1.other, .sl false false (a1.kids.map eST)], .own 0] [(0, .vec false 76 6 (p0.map encSFilling))] (.tup [.own 100, V.b r.2]) [(100, .vec false 76 6 (r.1.map encSFilling))]

theorem mi_tree__matches_F_ok (N : Nat) (R : Rec8) (HR : RecOk8 R) (a0 : STree) (a1 : STree) (p0 : List SFilling) {r : ((List SFilling) × Bool)} (h : mi_tree__matches_F N R a0 a1 p0 = some r) :
    AC Tryz.prog (GS []) 47 [.agg [V.i a0.kind, V.i a0.op, V.s a0.text, V.s a0.other, .sl false false (a0.kids.map eST)], .agg [V.i a1.kind, V.i a1.op, V.s a1.text, V.s a1.other, .sl false false (a1.kids.map eST)], .own 0] [(0, .vec false 76 6 (p0.map encSFilling))] (.tup [.own 100, V.b r.2]) [(100, .vec false 76 6 (r.1.map encSFilling))] := by
 rw [mi_tree__matches_F] at h
 refine AC.enter Tryz.func47 rfl ?_
 refine cU 4 100 (tl 73 [(2, .own 0), (3, .loc 100 0), (4, .loc 101 0)]) [(101, .cells 68 [V.i a1.kind, V.i a1.op, V.s a1.text, V.s a1.other, .sl false false (a1.kids.map eST)]), (100, .cells 68 [V.i a0.kind, V.i a0.op, V.s a0.text, V.s a0.other, .sl false false (a0.kids.map eST)]), (0, .vec false 76 6 (p0.map encSFilling))] ?_
 refine CO.seq' ?_
 refine bB h fun r62 hx89 h => ?_
 refine CO.cutR (tl 73 [(2, .own 0), (3, .loc 100 0), (4, .loc 101 0), (14, V.b r62)]) [(101, .cells 68 [V.i a1.kind, V.i a1.op, V.s a1.text, V.s a1.other, .sl false false (a1.kids.map eST)]), (100, .cells 68 [V.i a0.kind, V.i a0.op, V.s a0.text, V.s a0.other, .sl false false (a0.kids.map eST)]), (0, .vec false 76 6 (p0.map encSFilling))] mix (by
  refine wR 1 102 ?_
  refine W.call0 (mi_tree__isHole_ok a0 hx89) cok86 rfl (by kernel_rfl) ?_
  exact fI
  ) ?_
 refine bC h (fun hc90 h => ?_) (fun hc90 h => ?_)
 ·refine iT hc90 ?_
  refine CO.seq' ?_
  refine bB h fun r66 hx95 h => ?_
  refine CO.cutR (tl 73 [(2, .own 0), (3, .loc 100 0), (4, .loc 101 0), (18, V.b (!r66))]) [(101, .cells 68 [V.i a1.kind, V.i a1.op, V.s a1.text, V.s a1.other, .sl false false (a1.kids.map eST)]), (100, .cells 68 [V.i a0.kind, V.i a0.op, V.s a0.text, V.s a0.other, .sl false false (a0.kids.map eST)]), (0, .vec false 76 6 (p0.map encSFilling))] mix (by
   refine wR 2 102 ?_
   refine W.call0 (mi_IsExpr_ok a1.kind hx95) cok46 rfl (by kernel_rfl) ?_
   refine wR 1 102 ?_
   exact fI
   ) ?_
  refine bC h (fun hc96 h => ?_) (fun hc96 h => ?_)
  ·refine iT hc96 ?_
   refine cU 2 102 (tl 73 [(6, .c (.slice none 0 0)), (7, V.b false)]) [(0, .vec false 76 6 (p0.map encSFilling))] ?_
   refine CO.weak (Weak.nil 6 102 76 6 (by kernel_rfl) (by kernel_rfl)) ?_
   refine CO.ret ?_
   have h := sI h
   subst h
   exact eG [(102, 100)] (.inr rfl) (RetV.two rfl (oT (t := 6) (r := .own 102)) (oT (t := 7) (r := V.b false)))
  refine iF hc96 ?_
  refine CO.skip ?_
  refine CO.seq' ?_
  refine CO.cutR (tl 73 [(2, .own 0), (3, .loc 100 0), (4, .loc 101 0), (19, .own 0), (20, V.i (p0.length : Int)), (21, V.i 0)]) [(101, .cells 68 [V.i a1.kind, V.i a1.op, V.s a1.text, V.s a1.other, .sl false false (a1.kids.map eST)]), (100, .cells 68 [V.i a0.kind, V.i a0.op, V.s a0.text, V.s a0.other, .sl false false (a0.kids.map eST)]), (0, .vec false 76 6 (p0.map encSFilling))] mix (by
   refine wR 1 102 ?_
   refine W.len Dk encSFilling p0 [0] (by kernel_rfl) (by kernel_rfl) ?_
   refine wR 1 102 ?_
   exact fI
   ) ?_
  refine CO.block' ?_
  refine CO.loopJ (fun (⟨p0, a0, a1, y101⟩ : ((List SFilling) × STree × STree × Int)) => ⟨tl 73 [(2, .own 0), (3, .loc 100 0), (4, .loc 101 0), (19, .own 0), (20, V.i (p0.length : Int)), (21, V.i y101)], [(0, .vec false 76 6 (p0.map encSFilling)), (100, .cells 68 [V.i a0.kind, V.i a0.op, V.s a0.text, V.s a0.other, .sl false false (a0.kids.map eST)]), (101, .cells 68 [V.i a1.kind, V.i a1.op, V.s a1.text, V.s a1.other, .sl false false (a1.kids.map eST)])]⟩) (fun n i => mi_tree__matches_l1 N R n i = some r) (n0 := N) (i0 := (p0, a0, a1, 0)) (wS [(0, 0), (100, 100), (101, 101)] [2, 3, 4, 19, 20, 21]) h (fun i h => by simp [mi_tree__matches_l1] at h) ?_
  rintro n1 ⟨p0, a0, a1, y101⟩ h159 ih160
  rw [mi_tree__matches_l1] at h159
  refine cU 1 164 (tl 73 [(2, .own 0), (3, .loc 100 0), (4, .loc 101 0), (19, .own 0), (20, V.i (p0.length : Int)), (21, V.i y101), (22, V.b (decide (y101 < (p0.length : Int))))]) [(0, .vec false 76 6 (p0.map encSFilling)), (100, .cells 68 [V.i a0.kind, V.i a0.op, V.s a0.text, V.s a0.other, .sl false false (a0.kids.map eST)]), (101, .cells 68 [V.i a1.kind, V.i a1.op, V.s a1.text, V.s a1.other, .sl false false (a1.kids.map eST)])] ?_
  refine CO.seq' ?_
  refine bC h159 (fun hc162 h159 => ?_) (fun hc162 h159 => ?_)
  ·refine iT hc162 ?_
   refine CO.skip ?_
   refine CO.seq' ?_
   refine CO.block' ?_
   refine bB h159 fun e116 hx169 h159 => ?_
   refine CO.cutR (tl 73 [(2, .own 0), (3, .loc 100 0), (4, .loc 101 0), (9, .loc 164 0), (19, .own 0), (20, V.i (p0.length : Int)), (21, V.i y101)]) [(164, .cells 76 [V.s e116.name, V.i e116.tree.kind, V.i e116.tree.op, V.s e116.tree.text, V.s e116.tree.other, .sl false false (e116.tree.kids.map eST)]), (0, .vec false 76 6 (p0.map encSFilling)), (100, .cells 68 [V.i a0.kind, V.i a0.op, V.s a0.text, V.s a0.other, .sl false false (a0.kids.map eST)]), (101, .cells 68 [V.i a1.kind, V.i a1.op, V.s a1.text, V.s a1.other, .sl false false (a1.kids.map eST)])] mix (by
    refine W.ixO Dk encSFilling hx169 0 6 (by kernel_rfl) ?_
    refine W.ldO Dk encSFilling hx169 76 0 0 (.agg [V.s e116.name, V.i e116.tree.kind, V.i e116.tree.op, V.s e116.tree.text, V.s e116.tree.other, .sl false false (e116.tree.kids.map eST)]) (by kernel_rfl) (by kernel_rfl) ?_
    refine wR 2 164 ?_
    exact fI
    ) ?_
   refine cU 5 165 (tl 73 [(2, .own 0), (3, .loc 100 0), (4, .loc 101 0), (9, .loc 164 0), (19, .own 0), (20, V.i (p0.length : Int)), (21, V.i y101), (29, V.b (e116.name == a0.text))]) [(164, .cells 76 [V.s e116.name, V.i e116.tree.kind, V.i e116.tree.op, V.s e116.tree.text, V.s e116.tree.other, .sl false false (e116.tree.kids.map eST)]), (0, .vec false 76 6 (p0.map encSFilling)), (100, .cells 68 [V.i a0.kind, V.i a0.op, V.s a0.text, V.s a0.other, .sl false false (a0.kids.map eST)]), (101, .cells 68 [V.i a1.kind, V.i a1.op, V.s a1.text, V.s a1.other, .sl false false (a1.kids.map eST)])] ?_
   refine bC h159 (fun hc170 h159 => ?_) (fun hc170 h159 => ?_)
   ·refine iT hc170 ?_
    refine bB h159 fun r118 hx172 h159 => ?_
    refine CO.cutR (tl 73 [(6, .own 0), (7, V.b r118)]) [(0, .vec false 76 6 (p0.map encSFilling))] mix (by
     refine wR 4 165 ?_
     refine W.call0 (mi_tree__same_ok N e116.tree a1 hx172) cok87 rfl (by kernel_rfl) ?_
     refine wR 2 165 ?_
     exact fI
     ) ?_
    refine CO.ret ?_
    have h159 := sI h159
    subst h159
    exact eG [(0, 100)] (.inr rfl) (RetV.two rfl (oT (t := 6) (r := .own 0)) (oT (t := 7) (r := V.b r118)))
   refine iF hc170 ?_
   refine CO.skip ?_
   refine cE 2 165 (tl 73 [(2, .own 0), (3, .loc 100 0), (4, .loc 101 0), (19, .own 0), (20, V.i (p0.length : Int)), (21, V.i (IntKind.wrap .i64 (y101 + 1)))]) [(0, .vec false 76 6 (p0.map encSFilling)), (100, .cells 68 [V.i a0.kind, V.i a0.op, V.s a0.text, V.s a0.other, .sl false false (a0.kids.map eST)]), (101, .cells 68 [V.i a1.kind, V.i a1.op, V.s a1.text, V.s a1.other, .sl false false (a1.kids.map eST)])] (fun st hw => ?_)
   exact ih160 (p0, a0, a1, (IntKind.wrap .i64 (y101 + 1))) h159 _ (hw.trans (wS [(0, 0), (100, 100), (101, 101)] [2, 3, 4, 19, 20, 21]))
  refine iF hc162 ?_
  refine CO.exit ?_
  refine bB h159 fun x120 hx174 h159 => ?_
  refine CO.cutR (tl 73 [(6, .own 165), (7, V.b true)]) [(165, .vec false 76 6 (x120.map encSFilling))] mix (by
   refine wR 5 164 ?_
   refine W.layop Dk (show LayOk _ [] from trivial) (by kernel_rfl) 164 { v := .own 164, R := [], new := [(164, .vec true 76 6 [[V.s a0.text, V.i a1.kind, V.i a1.op, V.s a1.text, V.s a1.other, .sl false false (a1.kids.map eST)]])], N := [164] } (by kernel_rfl) ?_
   refine W.vecEq 164 (nn := true) (e := 76) (k := 6) (rows := [[V.s a0.text, V.i a1.kind, V.i a1.op, V.s a1.text, V.s a1.other, .sl false false (a1.kids.map eST)]]) (rows' := [(⟨a0.text, a1⟩ : SFilling)].map encSFilling) (by kernel_rfl) (by kernel_rfl) ?_
   refine W.appO Dk encSFilling (a := 0) (c := 164) (el := 76) (sz := 6) 88 hx174 rfl 165 (by kernel_rfl) ?_
   refine wR 2 166 ?_
   exact fI
   ) ?_
  refine CO.ret ?_
  have h159 := sI h159
  subst h159
  exact eG [(165, 100)] (.inr rfl) (RetV.two rfl (oT (t := 6) (r := .own 165)) (oT (t := 7) (r := V.b true)))
 refine iF hc90 ?_
 refine CO.skip ?_
 refine CO.seq' ?_
 refine bB h fun r124 hx179 h => ?_
 refine CO.cutR (tl 73 [(2, .own 0), (3, .loc 100 0), (4, .loc 101 0), (46, V.b (!r124))]) [(101, .cells 68 [V.i a1.kind, V.i a1.op, V.s a1.text, V.s a1.other, .sl false false (a1.kids.map eST)]), (100, .cells 68 [V.i a0.kind, V.i a0.op, V.s a0.text, V.s a0.other, .sl false false (a0.kids.map eST)]), (0, .vec false 76 6 (p0.map encSFilling))] mix (by
  refine wR 2 102 ?_
  refine W.call0 (mi_tree__alike_ok a0 a1 hx179) cok88 rfl (by kernel_rfl) ?_
  refine wR 1 102 ?_
  exact fI
  ) ?_
 refine bC h (fun hc180 h => ?_) (fun hc180 h => ?_)
 ·refine iT hc180 ?_
  refine cU 2 102 (tl 73 [(6, .c (.slice none 0 0)), (7, V.b false)]) [(0, .vec false 76 6 (p0.map encSFilling))] ?_
  refine CO.weak (Weak.nil 6 102 76 6 (by kernel_rfl) (by kernel_rfl)) ?_
  refine CO.ret ?_
  have h := sI h
  subst h
  exact eG [(102, 100)] (.inr rfl) (RetV.two rfl (oT (t := 6) (r := .own 102)) (oT (t := 7) (r := V.b false)))
 refine iF hc180 ?_
 refine CO.skip ?_
 refine CO.seq' ?_
 refine CO.cutR (tl 73 [(2, .own 0), (3, .loc 100 0), (4, .loc 101 0), (49, V.i (a0.kids.length : Int)), (50, V.i 0)]) [(101, .cells 68 [V.i a1.kind, V.i a1.op, V.s a1.text, V.s a1.other, .sl false false (a1.kids.map eST)]), (100, .cells 68 [V.i a0.kind, V.i a0.op, V.s a0.text, V.s a0.other, .sl false false (a0.kids.map eST)]), (0, .vec false 76 6 (p0.map encSFilling))] mix (by
  refine wR 2 102 ?_
  refine W.len Dk eST a0.kids [] (by kernel_rfl) (by kernel_rfl) ?_
  refine wR 1 102 ?_
  exact fI
  ) ?_
 refine CO.block' ?_
 refine CO.loopJ (fun (⟨a0, a1, y177, y178⟩ : (STree × STree × Int × (List SFilling))) => ⟨tl 73 [(2, .own 100), (3, .loc 101 0), (4, .loc 102 0), (49, V.i (a0.kids.length : Int)), (50, V.i y177)], [(100, .vec false 76 6 (y178.map encSFilling)), (101, .cells 68 [V.i a0.kind, V.i a0.op, V.s a0.text, V.s a0.other, .sl false false (a0.kids.map eST)]), (102, .cells 68 [V.i a1.kind, V.i a1.op, V.s a1.text, V.s a1.other, .sl false false (a1.kids.map eST)])]⟩) (fun n i => mi_tree__matches_l2 N R n i = some r) (n0 := N) (i0 := (a0, a1, 0, p0)) (wS [(0, 100), (100, 101), (101, 102)] [2, 3, 4, 49, 50]) h (fun i h => by simp [mi_tree__matches_l2] at h) ?_
 rintro n2 ⟨a0, a1, y177, y178⟩ h273 ih274
 rw [mi_tree__matches_l2] at h273
 refine cU 1 164 (tl 73 [(2, .own 100), (3, .loc 101 0), (4, .loc 102 0), (49, V.i (a0.kids.length : Int)), (50, V.i y177), (51, V.b (decide (y177 < (a0.kids.length : Int))))]) [(100, .vec false 76 6 (y178.map encSFilling)), (101, .cells 68 [V.i a0.kind, V.i a0.op, V.s a0.text, V.s a0.other, .sl false false (a0.kids.map eST)]), (102, .cells 68 [V.i a1.kind, V.i a1.op, V.s a1.text, V.s a1.other, .sl false false (a1.kids.map eST)])] ?_
 refine CO.seq' ?_
 refine bC h273 (fun hc276 h273 => ?_) (fun hc276 h273 => ?_)
 ·refine iT hc276 ?_
  refine CO.skip ?_
  refine CO.seq' ?_
  refine CO.block' ?_
  refine cU 2 164 (tl 73 [(2, .own 100), (3, .loc 101 0), (4, .loc 102 0), (10, V.i y177), (49, V.i (a0.kids.length : Int)), (50, V.i y177)]) [(100, .vec false 76 6 (y178.map encSFilling)), (101, .cells 68 [V.i a0.kind, V.i a0.op, V.s a0.text, V.s a0.other, .sl false false (a0.kids.map eST)]), (102, .cells 68 [V.i a1.kind, V.i a1.op, V.s a1.text, V.s a1.other, .sl false false (a1.kids.map eST)])] ?_
  refine bB h273 fun e202 hx288 h273 => ?_
  refine bB h273 fun e203 hx289 h273 => ?_
  refine bB h273 fun r204 hx290 h273 => ?_
  refine CO.cutR (tl 73 [(3, .loc 101 0), (4, .loc 102 0), (11, .own 164), (12, V.b r204.2), (49, V.i (a0.kids.length : Int)), (50, V.i y177)]) [(164, .vec false 76 6 (r204.1.map encSFilling)), (101, .cells 68 [V.i a0.kind, V.i a0.op, V.s a0.text, V.s a0.other, .sl false false (a0.kids.map eST)]), (102, .cells 68 [V.i a1.kind, V.i a1.op, V.s a1.text, V.s a1.other, .sl false false (a1.kids.map eST)])] mix (by
   refine wR 3 164 ?_
   refine W.ixDr Dk eST hx288 5 (by kernel_rfl) (encSTree_eq e202) (by kernel_rfl) ?_
   refine wR 4 164 ?_
   refine W.ixDr Dk eST hx289 5 (by kernel_rfl) (encSTree_eq e203) (by kernel_rfl) ?_
   refine wR 2 164 ?_
   refine W.call (HR.mi_tree__matches e202 e203 y178 _ hx290) cok47 [(100, 0)] [(100, 164)] [164] (show LayOk _ [] from trivial) (by kernel_rfl) (by kernel_rfl) ?_
   refine wR 5 165 ?_
   exact fI
   ) ?_
  refine CO.seq' ?_
  refine cU 2 165 (tl 73 [(3, .loc 101 0), (4, .loc 102 0), (11, .own 164), (49, V.i (a0.kids.length : Int)), (50, V.i y177), (69, V.b (!r204.2))]) [(164, .vec false 76 6 (r204.1.map encSFilling)), (101, .cells 68 [V.i a0.kind, V.i a0.op, V.s a0.text, V.s a0.other, .sl false false (a0.kids.map eST)]), (102, .cells 68 [V.i a1.kind, V.i a1.op, V.s a1.text, V.s a1.other, .sl false false (a1.kids.map eST)])] ?_
  refine bC h273 (fun hc292 h273 => ?_) (fun hc292 h273 => ?_)
  ·refine iT hc292 ?_
   refine cU 2 165 (tl 73 [(6, .c (.slice none 0 0)), (7, V.b false)]) [] ?_
   refine CO.weak (Weak.nil 6 165 76 6 (by kernel_rfl) (by kernel_rfl)) ?_
   refine CO.ret ?_
   have h273 := sI h273
   subst h273
   exact eG [(165, 100)] (.inr rfl) (RetV.two rfl (oT (t := 6) (r := .own 165)) (oT (t := 7) (r := V.b false)))
  refine iF hc292 ?_
  refine CO.skip ?_
  refine cE 2 165 (tl 73 [(2, .own 164), (3, .loc 101 0), (4, .loc 102 0), (49, V.i (a0.kids.length : Int)), (50, V.i y177)]) [(164, .vec false 76 6 (r204.1.map encSFilling)), (101, .cells 68 [V.i a0.kind, V.i a0.op, V.s a0.text, V.s a0.other, .sl false false (a0.kids.map eST)]), (102, .cells 68 [V.i a1.kind, V.i a1.op, V.s a1.text, V.s a1.other, .sl false false (a1.kids.map eST)])] (fun st hw => ?_)
  refine CO.weak hw ?_
  refine cE 2 165 (tl 73 [(2, .own 164), (3, .loc 101 0), (4, .loc 102 0), (49, V.i (a0.kids.length : Int)), (50, V.i (IntKind.wrap .i64 (y177 + 1)))]) [(164, .vec false 76 6 (r204.1.map encSFilling)), (101, .cells 68 [V.i a0.kind, V.i a0.op, V.s a0.text, V.s a0.other, .sl false false (a0.kids.map eST)]), (102, .cells 68 [V.i a1.kind, V.i a1.op, V.s a1.text, V.s a1.other, .sl false false (a1.kids.map eST)])] (fun st hw => ?_)
  exact ih274 (a0, a1, (IntKind.wrap .i64 (y177 + 1)), r204.1) h273 _ (hw.trans (wS [(164, 100), (101, 101), (102, 102)] [2, 3, 4, 49, 50]))
 refine iF hc276 ?_
 refine CO.exit ?_
 refine cU 3 164 (tl 73 [(6, .own 100), (7, V.b true)]) [(100, .vec false 76 6 (y178.map encSFilling))] ?_
 refine CO.ret ?_
 have h273 := sI h273
 subst h273
 exact eG [(100, 100)] (.inr rfl) (RetV.two rfl (oT (t := 6) (r := .own 100)) (oT (t := 7) (r := V.b true)))

theorem scc8_ok : ∀ N, RecOk8 (scc8 N)
  | 0 => ⟨fun _ _ _ _ h => (by cases h)⟩
  | N + 1 => ⟨fun a0 a1 p0 _ h => mi_tree__matches_F_ok N (scc8 N) (scc8_ok N) a0 a1 p0 h⟩

theorem mi_tree__matches_ok (N : Nat) (a0 : STree) (a1 : STree) (p0 : List SFilling) {r : ((List SFilling) × Bool)} (h : mi_tree__matches N a0 a1 p0 = some r) :
    AC Tryz.prog (GS []) 47 [.agg [V.i a0.kind, V.i a0.op, V.s a0.text, V.s a0.other, .sl false false (a0.kids.map eST)], .agg [V.i a1.kind, V.i a1.op, V.s a1.text, V.s a1.other, .sl false false (a1.kids.map eST)], .own 0] [(0, .vec false 76 6 (p0.map encSFilling))] (.tup [.own 100, V.b r.2]) [(100, .vec false 76 6 (r.1.map encSFilling))] :=
  (scc8_ok N).mi_tree__matches a0 a1 p0 r h

theorem mi_tree__with_ok (a0 : STree) (a1 : List STree) {r : STree} (h : mi_tree__with a0 a1 = some r) :
    AC Tryz.prog (GS []) 97 [.agg [V.i a0.kind, V.i a0.op, V.s a0.text, V.s a0.other, .sl false false (a0.kids.map eST)], .sl false false (a1.map eST)] [] (.agg [V.i r.kind, V.i r.op, V.s r.text, V.s r.other, .sl false false (r.kids.map eST)]) [] := by
 rw [mi_tree__with] at h
 refine AC.enter Tryz.func97 rfl ?_
 refine cU 2 100 (tl 8 [(1, .sl false false (a1.map eST)), (2, .loc 100 0), (4, .loc 101 0)]) [(101, .cells 68 [V.i 0, V.i 0, V.s [], V.s [], .c (.slice none 0 0)]), (100, .cells 68 [V.i a0.kind, V.i a0.op, V.s a0.text, V.s a0.other, .sl false false (a0.kids.map eST)])] ?_
 refine cU 3 102 (tl 8 [(2, .loc 100 0), (4, .loc 101 0)]) [(100, .cells 68 [V.i a0.kind, V.i a0.op, V.s a0.text, V.s a0.other, .sl false false (a1.map eST)]), (101, .cells 68 [V.i 0, V.i 0, V.s [], V.s [], .c (.slice none 0 0)])] ?_
 refine cU 2 102 (tl 8 [(4, .loc 101 0)]) [(101, .cells 68 [V.i a0.kind, V.i a0.op, V.s a0.text, V.s a0.other, .sl false false (a1.map eST)])] ?_
 refine CO.ret ?_
 have h := sI h
 subst h
 exact eG [] (.inr rfl) (RetV.one rfl (OneR.cell Dk (r := .agg [V.i a0.kind, V.i a0.op, V.s a0.text, V.s a0.other, .sl false false (a1.map eST)]) (i := 101) (ety := 68) (cs := [V.i a0.kind, V.i a0.op, V.s a0.text, V.s a0.other, .sl false false (a1.map eST)]) (by kernel_rfl) (by kernel_rfl) (by kernel_rfl)))

structure RecOk9 (R : Rec9) : Prop where
  mi_tree__filled : ∀ (a0 : STree) (a1 : List SFilling) (r : STree), R.mi_tree__filled a0 a1 = some r → AC Tryz.prog (GS []) 66 [.agg [V.i a0.kind, V.i a0.op, V.s a0.text, V.s a0.other, .sl false false (a0.kids.map eST)], .sl false false (a1.map encSFilling)] [] (.agg [V.i r.kind, V.i r.op, V.s r.text, V.s r.other, .sl false false (r.kids.map eST)]) []

theorem mi_tree__filled_F_ok (N : Nat) (R : Rec9) (HR : RecOk9 R) (a0 : STree) (a1 : List SFilling) {r : STree} (h : mi_tree__filled_F N R a0 a1 = some r) :
    AC Tryz.prog (GS []) 66 [.agg [V.i a0.kind, V.i a0.op, V.s a0.text, V.s a0.other, .sl false false (a0.kids.map eST)], .sl false false (a1.map encSFilling)] [] (.agg [V.i r.kind, V.i r.op, V.s r.text, V.s r.other, .sl false false (r.kids.map eST)]) [] := by
 rw [mi_tree__filled_F] at h
 refine AC.enter Tryz.func66 rfl ?_
 refine cU 2 100 (tl 45 [(1, .sl false false (a1.map encSFilling)), (2, .loc 100 0), (4, .loc 101 0)]) [(101, .cells 68 [V.i 0, V.i 0, V.s [], V.s [], .c (.slice none 0 0)]), (100, .cells 68 [V.i a0.kind, V.i a0.op, V.s a0.text, V.s a0.other, .sl false false (a0.kids.map eST)])] ?_
 refine CO.seq' ?_
 refine bB h fun r32 hx57 h => ?_
 refine CO.cutR (tl 45 [(1, .sl false false (a1.map encSFilling)), (2, .loc 100 0), (4, .loc 101 0), (11, V.b r32)]) [(101, .cells 68 [V.i 0, V.i 0, V.s [], V.s [], .c (.slice none 0 0)]), (100, .cells 68 [V.i a0.kind, V.i a0.op, V.s a0.text, V.s a0.other, .sl false false (a0.kids.map eST)])] mix (by
  refine wR 1 102 ?_
  refine W.call0 (mi_tree__isHole_ok a0 hx57) cok86 rfl (by kernel_rfl) ?_
  exact fI
  ) ?_
 refine bC h (fun hc58 h => ?_) (fun hc58 h => ?_)
 ·refine iT hc58 ?_
  refine CO.seq' ?_
  refine CO.cutR (tl 45 [(2, .loc 100 0), (4, .loc 101 0), (12, .sl false false (a1.map encSFilling)), (13, V.i (a1.length : Int)), (14, V.i 0)]) [(101, .cells 68 [V.i 0, V.i 0, V.s [], V.s [], .c (.slice none 0 0)]), (100, .cells 68 [V.i a0.kind, V.i a0.op, V.s a0.text, V.s a0.other, .sl false false (a0.kids.map eST)])] mix (by
   refine wR 1 102 ?_
   refine W.len Dk encSFilling a1 [] (by kernel_rfl) (by kernel_rfl) ?_
   refine wR 1 102 ?_
   exact fI
   ) ?_
  refine CO.block' ?_
  refine CO.loopJ (fun (⟨a1, a0, y51⟩ : ((List SFilling) × STree × Int)) => ⟨tl 45 [(2, .loc 100 0), (4, .loc 101 0), (12, .sl false false (a1.map encSFilling)), (13, V.i (a1.length : Int)), (14, V.i y51)], [(100, .cells 68 [V.i a0.kind, V.i a0.op, V.s a0.text, V.s a0.other, .sl false false (a0.kids.map eST)]), (101, .cells 68 [V.i 0, V.i 0, V.s [], V.s [], .c (.slice none 0 0)])]⟩) (fun n i => mi_tree__filled_l1 N R n i = some r) (n0 := N) (i0 := (a1, a0, 0)) (wS [(100, 100), (101, 101)] [2, 4, 12, 13, 14]) h (fun i h => by simp [mi_tree__filled_l1] at h) ?_
  rintro n1 ⟨a1, a0, y51⟩ h101 ih102
  rw [mi_tree__filled_l1] at h101
  refine cU 1 164 (tl 45 [(2, .loc 100 0), (4, .loc 101 0), (12, .sl false false (a1.map encSFilling)), (13, V.i (a1.length : Int)), (14, V.i y51), (15, V.b (decide (y51 < (a1.length : Int))))]) [(100, .cells 68 [V.i a0.kind, V.i a0.op, V.s a0.text, V.s a0.other, .sl false false (a0.kids.map eST)]), (101, .cells 68 [V.i 0, V.i 0, V.s [], V.s [], .c (.slice none 0 0)])] ?_
  refine CO.seq' ?_
  refine bC h101 (fun hc104 h101 => ?_) (fun hc104 h101 => ?_)
  ·refine iT hc104 ?_
   refine CO.skip ?_
   refine CO.seq' ?_
   refine CO.block' ?_
   refine bB h101 fun e60 hx109 h101 => ?_
   refine CO.cutR (tl 45 [(2, .loc 100 0), (4, .loc 101 0), (6, .loc 164 0), (12, .sl false false (a1.map encSFilling)), (13, V.i (a1.length : Int)), (14, V.i y51)]) [(164, .cells 76 [V.s e60.name, V.i e60.tree.kind, V.i e60.tree.op, V.s e60.tree.text, V.s e60.tree.other, .sl false false (e60.tree.kids.map eST)]), (100, .cells 68 [V.i a0.kind, V.i a0.op, V.s a0.text, V.s a0.other, .sl false false (a0.kids.map eST)]), (101, .cells 68 [V.i 0, V.i 0, V.s [], V.s [], .c (.slice none 0 0)])] mix (by
    refine W.ixD Dk encSFilling hx109 6 (by kernel_rfl) (by kernel_rfl) ?_
    refine wR 3 164 ?_
    exact fI
    ) ?_
   refine cU 5 165 (tl 45 [(2, .loc 100 0), (4, .loc 101 0), (6, .loc 164 0), (12, .sl false false (a1.map encSFilling)), (13, V.i (a1.length : Int)), (14, V.i y51), (22, V.b (e60.name == a0.text))]) [(164, .cells 76 [V.s e60.name, V.i e60.tree.kind, V.i e60.tree.op, V.s e60.tree.text, V.s e60.tree.other, .sl false false (e60.tree.kids.map eST)]), (100, .cells 68 [V.i a0.kind, V.i a0.op, V.s a0.text, V.s a0.other, .sl false false (a0.kids.map eST)]), (101, .cells 68 [V.i 0, V.i 0, V.s [], V.s [], .c (.slice none 0 0)])] ?_
   refine bC h101 (fun hc110 h101 => ?_) (fun hc110 h101 => ?_)
   ·refine iT hc110 ?_
    refine cU 3 165 (tl 45 [(4, .loc 101 0)]) [(101, .cells 68 [V.i e60.tree.kind, V.i e60.tree.op, V.s e60.tree.text, V.s e60.tree.other, .sl false false (e60.tree.kids.map eST)])] ?_
    refine CO.ret ?_
    have h101 := sI h101
    subst h101
    exact eG [] (.inr rfl) (RetV.one rfl (OneR.cell Dk (r := .agg [V.i e60.tree.kind, V.i e60.tree.op, V.s e60.tree.text, V.s e60.tree.other, .sl false false (e60.tree.kids.map eST)]) (i := 101) (ety := 68) (cs := [V.i e60.tree.kind, V.i e60.tree.op, V.s e60.tree.text, V.s e60.tree.other, .sl false false (e60.tree.kids.map eST)]) (by kernel_rfl) (by kernel_rfl) (by kernel_rfl)))
   refine iF hc110 ?_
   refine CO.skip ?_
   refine cE 2 165 (tl 45 [(2, .loc 100 0), (4, .loc 101 0), (12, .sl false false (a1.map encSFilling)), (13, V.i (a1.length : Int)), (14, V.i (IntKind.wrap .i64 (y51 + 1)))]) [(100, .cells 68 [V.i a0.kind, V.i a0.op, V.s a0.text, V.s a0.other, .sl false false (a0.kids.map eST)]), (101, .cells 68 [V.i 0, V.i 0, V.s [], V.s [], .c (.slice none 0 0)])] (fun st hw => ?_)
   exact ih102 (a1, a0, (IntKind.wrap .i64 (y51 + 1))) h101 _ (hw.trans (wS [(100, 100), (101, 101)] [2, 4, 12, 13, 14]))
  refine iF hc104 ?_
  refine CO.exit ?_
  refine cU 2 164 (tl 45 [(4, .loc 101 0)]) [(101, .cells 68 [V.i a0.kind, V.i a0.op, V.s a0.text, V.s a0.other, .sl false false (a0.kids.map eST)])] ?_
  refine CO.ret ?_
  have h101 := sI h101
  subst h101
  exact eG [] (.inr rfl) (RetV.one rfl (OneR.cell Dk (r := .agg [V.i a0.kind, V.i a0.op, V.s a0.text, V.s a0.other, .sl false false (a0.kids.map eST)]) (i := 101) (ety := 68) (cs := [V.i a0.kind, V.i a0.op, V.s a0.text, V.s a0.other, .sl false false (a0.kids.map eST)]) (by kernel_rfl) (by kernel_rfl) (by kernel_rfl)))
 refine iF hc58 ?_
 refine CO.skip ?_
 refine CO.cutR (tl 45 [(1, .sl false false (a1.map encSFilling)), (2, .loc 100 0), (4, .loc 101 0), (7, .own 102)]) [(102, .vec false 68 5 ([].map eST)), (101, .cells 68 [V.i 0, V.i 0, V.s [], V.s [], .c (.slice none 0 0)]), (100, .cells 68 [V.i a0.kind, V.i a0.op, V.s a0.text, V.s a0.other, .sl false false (a0.kids.map eST)])] mix (by
  refine W.layop Dk (show LayOk _ [] from trivial) (by kernel_rfl) 102 { v := .own 102, R := [], new := [(102, .vec true 68 5 [])], N := [102] } (by kernel_rfl) ?_
  refine W.vecEq 102 (nn := true) (e := 68) (k := 5) (rows := []) (rows' := [].map eST) (by kernel_rfl) rfl ?_
  refine wR 1 103 ?_
  exact fI
  ) ?_
 refine CO.seq' ?_
 refine CO.cutR (tl 45 [(1, .sl false false (a1.map encSFilling)), (2, .loc 100 0), (4, .loc 101 0), (7, .own 102), (29, .sl false false (a0.kids.map eST)), (30, V.i (a0.kids.length : Int)), (31, V.i 0)]) [(102, .vec false 68 5 ([].map eST)), (101, .cells 68 [V.i 0, V.i 0, V.s [], V.s [], .c (.slice none 0 0)]), (100, .cells 68 [V.i a0.kind, V.i a0.op, V.s a0.text, V.s a0.other, .sl false false (a0.kids.map eST)])] mix (by
  refine wR 2 103 ?_
  refine W.len Dk eST a0.kids [] (by kernel_rfl) (by kernel_rfl) ?_
  refine wR 1 103 ?_
  exact fI
  ) ?_
 refine CO.block' ?_
 refine CO.loopJ (fun (⟨a1, a0, y113, y114⟩ : ((List SFilling) × STree × Int × (List STree))) => ⟨tl 45 [(1, .sl false false (a1.map encSFilling)), (2, .loc 100 0), (4, .loc 101 0), (7, .own 102), (29, .sl false false (a0.kids.map eST)), (30, V.i (a0.kids.length : Int)), (31, V.i y113)], [(100, .cells 68 [V.i a0.kind, V.i a0.op, V.s a0.text, V.s a0.other, .sl false false (a0.kids.map eST)]), (101, .cells 68 [V.i 0, V.i 0, V.s [], V.s [], .c (.slice none 0 0)]), (102, .vec false 68 5 (y114.map eST))]⟩) (fun n i => mi_tree__filled_l2 N R n i = some r) (n0 := N) (i0 := (a1, a0, 0, [])) (wS [(100, 100), (101, 101), (102, 102)] [1, 2, 4, 7, 29, 30, 31]) h (fun i h => by simp [mi_tree__filled_l2] at h) ?_
 rintro n2 ⟨a1, a0, y113, y114⟩ h183 ih184
 rw [mi_tree__filled_l2] at h183
 refine cU 1 169 (tl 45 [(1, .sl false false (a1.map encSFilling)), (2, .loc 100 0), (4, .loc 101 0), (7, .own 102), (29, .sl false false (a0.kids.map eST)), (30, V.i (a0.kids.length : Int)), (31, V.i y113), (32, V.b (decide (y113 < (a0.kids.length : Int))))]) [(100, .cells 68 [V.i a0.kind, V.i a0.op, V.s a0.text, V.s a0.other, .sl false false (a0.kids.map eST)]), (101, .cells 68 [V.i 0, V.i 0, V.s [], V.s [], .c (.slice none 0 0)]), (102, .vec false 68 5 (y114.map eST))] ?_
 refine CO.seq' ?_
 refine bC h183 (fun hc186 h183 => ?_) (fun hc186 h183 => ?_)
 ·refine iT hc186 ?_
  refine CO.skip ?_
  refine CO.seq' ?_
  refine CO.block' ?_
  refine bB h183 fun e136 hx194 h183 => ?_
  refine CO.cutR (tl 45 [(1, .sl false false (a1.map encSFilling)), (2, .loc 100 0), (4, .loc 101 0), (7, .own 102), (9, .loc 169 0), (29, .sl false false (a0.kids.map eST)), (30, V.i (a0.kids.length : Int)), (31, V.i y113)]) [(169, .cells 68 [V.i e136.kind, V.i e136.op, V.s e136.text, V.s e136.other, .sl false false (e136.kids.map eST)]), (100, .cells 68 [V.i a0.kind, V.i a0.op, V.s a0.text, V.s a0.other, .sl false false (a0.kids.map eST)]), (101, .cells 68 [V.i 0, V.i 0, V.s [], V.s [], .c (.slice none 0 0)]), (102, .vec false 68 5 (y114.map eST))] mix (by
   refine W.ixDr Dk eST hx194 5 (by kernel_rfl) (encSTree_eq e136) (by kernel_rfl) ?_
   refine wR 3 169 ?_
   exact fI
   ) ?_
  refine bB h183 fun r139 hx197 h183 => ?_
  refine bB h183 fun x140 hx198 h183 => ?_
  refine CO.endR (tl 45 [(1, .sl false false (a1.map encSFilling)), (2, .loc 100 0), (4, .loc 101 0), (7, .own 171), (29, .sl false false (a0.kids.map eST)), (30, V.i (a0.kids.length : Int)), (31, V.i y113)]) [(171, .vec false 68 5 (x140.map eST)), (100, .cells 68 [V.i a0.kind, V.i a0.op, V.s a0.text, V.s a0.other, .sl false false (a0.kids.map eST)]), (101, .cells 68 [V.i 0, V.i 0, V.s [], V.s [], .c (.slice none 0 0)])] mix (by
   refine wR 3 170 ?_
   refine W.call0 (HR.mi_tree__filled e136 a1 _ hx197) cok66 rfl (by kernel_rfl) ?_
   refine W.layop Dk (show LayOk _ [] from trivial) (by kernel_rfl) 170 { v := .own 170, R := [], new := [(170, .vec true 68 5 [[V.i r139.kind, V.i r139.op, V.s r139.text, V.s r139.other, .sl false false (r139.kids.map eST)]])], N := [170] } (by kernel_rfl) ?_
   refine W.vecEq 170 (nn := true) (e := 68) (k := 5) (rows := [[V.i r139.kind, V.i r139.op, V.s r139.text, V.s r139.other, .sl false false (r139.kids.map eST)]]) (rows' := [r139].map eST) (by kernel_rfl) (by simp only [List.map_cons, List.map_nil, encSTree_eq]) ?_
   refine W.appO Dk eST (a := 102) (c := 170) (el := 68) (sz := 5) 72 hx198 rfl 171 (by kernel_rfl) ?_
   refine wR 1 172 ?_
   exact fI
   ) (fun st hw => ?_)
  refine CO.weak hw ?_
  refine cE 2 172 (tl 45 [(1, .sl false false (a1.map encSFilling)), (2, .loc 100 0), (4, .loc 101 0), (7, .own 171), (29, .sl false false (a0.kids.map eST)), (30, V.i (a0.kids.length : Int)), (31, V.i (IntKind.wrap .i64 (y113 + 1)))]) [(171, .vec false 68 5 (x140.map eST)), (100, .cells 68 [V.i a0.kind, V.i a0.op, V.s a0.text, V.s a0.other, .sl false false (a0.kids.map eST)]), (101, .cells 68 [V.i 0, V.i 0, V.s [], V.s [], .c (.slice none 0 0)])] (fun st hw => ?_)
  exact ih184 (a1, a0, (IntKind.wrap .i64 (y113 + 1)), x140) h183 _ (hw.trans (wS [(100, 100), (101, 101), (171, 102)] [1, 2, 4, 7, 29, 30, 31]))
 refine iF hc186 ?_
 refine CO.exit ?_
 refine bB h183 fun r142 hx200 h183 => ?_
 refine CO.cutR (tl 45 [(4, .loc 101 0)]) [(101, .cells 68 [V.i r142.kind, V.i r142.op, V.s r142.text, V.s r142.other, .sl false false (r142.kids.map eST)])] mix (by
  refine wR 2 169 ?_
  refine W.call (mi_tree__with_ok a0 y114 hx200) cok97 [] [] [] (LayOk.cons (j := 102) eST eST y114 (by kernel_rfl) (share_encSTree) (show LayOk _ [] from trivial)) (by kernel_rfl) (by kernel_rfl) ?_
  refine wR 1 169 ?_
  exact fI
  ) ?_
 refine CO.ret ?_
 have h183 := sI h183
 subst h183
 exact eG [] (.inr rfl) (RetV.one rfl (OneR.cell Dk (r := .agg [V.i r142.kind, V.i r142.op, V.s r142.text, V.s r142.other, .sl false false (r142.kids.map eST)]) (i := 101) (ety := 68) (cs := [V.i r142.kind, V.i r142.op, V.s r142.text, V.s r142.other, .sl false false (r142.kids.map eST)]) (by kernel_rfl) (by kernel_rfl) (by kernel_rfl)))

theorem scc9_ok : ∀ N, RecOk9 (scc9 N)
  | 0 => ⟨fun _ _ _ h => (by cases h)⟩
  | N + 1 => ⟨fun a0 a1 _ h => mi_tree__filled_F_ok N (scc9 N) (scc9_ok N) a0 a1 h⟩

theorem mi_tree__filled_ok (N : Nat) (a0 : STree) (a1 : List SFilling) {r : STree} (h : mi_tree__filled N a0 a1 = some r) :
    AC Tryz.prog (GS []) 66 [.agg [V.i a0.kind, V.i a0.op, V.s a0.text, V.s a0.other, .sl false false (a0.kids.map eST)], .sl false false (a1.map encSFilling)] [] (.agg [V.i r.kind, V.i r.op, V.s r.text, V.s r.other, .sl false false (r.kids.map eST)]) [] :=
  (scc9_ok N).mi_tree__filled a0 a1 r h

theorem mi_Rewrite_1_ok (N : Nat) (a0 : Int) (a1 : STree) (p0_0 : Bool) (p1_0 : Int) (p1_1 : Int) (p1_2 : List UInt8) (p1_3 : List UInt8) (p1_4 : List STree) (p2_0 : Int) (p2_1 : Int) (p2_2 : List UInt8) (p2_3 : List UInt8) (p2_4 : List STree) {r : ((List STree) × Bool)} (h : mi_Rewrite_1 N a0 a1 p0_0 p1_0 p1_1 p1_2 p1_3 p1_4 p2_0 p2_1 p2_2 p2_3 p2_4 = some r) :
    AC Tryz.prog (GS []) 64 [V.i a0, .agg [V.i a1.kind, V.i a1.op, V.s a1.text, V.s a1.other, .sl false false (a1.kids.map eST)], .loc 0 0, .loc 1 0, .loc 2 0] [(0, .cells 4 [V.b p0_0]), (1, .cells 68 [V.i p1_0, V.i p1_1, V.s p1_2, V.s p1_3, .sl false false (p1_4.map eST)]), (2, .cells 68 [V.i p2_0, V.i p2_1, V.s p2_2, V.s p2_3, .sl false false (p2_4.map eST)])] (.own 100) [(0, .cells 4 [V.b r.2]), (1, .cells 68 [V.i p1_0, V.i p1_1, V.s p1_2, V.s p1_3, .sl false false (p1_4.map eST)]), (2, .cells 68 [V.i p2_0, V.i p2_1, V.s p2_2, V.s p2_3, .sl false false (p2_4.map eST)]), (100, .vec false 68 5 (r.1.map eST))] := by
 rw [mi_Rewrite_1] at h
 refine AC.enter Tryz.func64 rfl ?_
 refine cU 2 100 (tl 39 [(2, .loc 0 0), (3, .loc 1 0), (4, .loc 2 0), (6, .loc 100 0)]) [(100, .cells 68 [V.i a1.kind, V.i a1.op, V.s a1.text, V.s a1.other, .sl false false (a1.kids.map eST)]), (0, .cells 4 [V.b p0_0]), (1, .cells 68 [V.i p1_0, V.i p1_1, V.s p1_2, V.s p1_3, .sl false false (p1_4.map eST)]), (2, .cells 68 [V.i p2_0, V.i p2_1, V.s p2_2, V.s p2_3, .sl false false (p2_4.map eST)])] ?_
 refine bB h fun y2 hv3 h => ?_
 refine CO.cutR (tl 39 [(2, .loc 0 0), (3, .loc 1 0), (4, .loc 2 0), (6, .loc 100 0)]) [(0, .cells 4 [V.b y2]), (1, .cells 68 [V.i p1_0, V.i p1_1, V.s p1_2, V.s p1_3, .sl false false (p1_4.map eST)]), (2, .cells 68 [V.i p2_0, V.i p2_1, V.s p2_2, V.s p2_3, .sl false false (p2_4.map eST)]), (100, .cells 68 [V.i a1.kind, V.i a1.op, V.s a1.text, V.s a1.other, .sl false false (a1.kids.map eST)])] mix (by
  refine wR 2 101 ?_
  refine bC hv3 (fun hc4 hv3 => ?_) (fun hc4 hv3 => ?_)
  ·refine wI 12 hc4 ?_
   refine wR 1 101 ?_
   refine bB hv3 fun r3 hx5 hv3 => ?_
   refine W.call0 (mi_tree__size_ok N a1 hx5) cok65 rfl (by kernel_rfl) ?_
   refine wR 3 101 ?_
   have hv3 := sI hv3
   subst hv3
   exact fS [(0, 0), (1, 1), (2, 2), (100, 100)] [2, 3, 4, 6]
  refine wI 12 hc4 ?_
  refine wR 5 101 ?_
  have hv3 := sI hv3
  subst hv3
  exact fS [(0, 0), (1, 1), (2, 2), (100, 100)] [2, 3, 4, 6]
  ) ?_
 refine CO.seq' ?_
 refine cU 2 101 (tl 39 [(2, .loc 0 0), (3, .loc 1 0), (4, .loc 2 0), (6, .loc 100 0), (18, V.b (!y2))]) [(0, .cells 4 [V.b y2]), (1, .cells 68 [V.i p1_0, V.i p1_1, V.s p1_2, V.s p1_3, .sl false false (p1_4.map eST)]), (2, .cells 68 [V.i p2_0, V.i p2_1, V.s p2_2, V.s p2_3, .sl false false (p2_4.map eST)]), (100, .cells 68 [V.i a1.kind, V.i a1.op, V.s a1.text, V.s a1.other, .sl false false (a1.kids.map eST)])] ?_
 refine bC h (fun hc7 h => ?_) (fun hc7 h => ?_)
 ·refine iT hc7 ?_
  refine CO.cutR (tl 39 [(7, .own 101)]) [(101, .vec false 68 5 ([a1].map eST)), (0, .cells 4 [V.b y2]), (1, .cells 68 [V.i p1_0, V.i p1_1, V.s p1_2, V.s p1_3, .sl false false (p1_4.map eST)]), (2, .cells 68 [V.i p2_0, V.i p2_1, V.s p2_2, V.s p2_3, .sl false false (p2_4.map eST)])] mix (by
   refine wR 1 101 ?_
   refine W.layop Dk (show LayOk _ [] from trivial) (by kernel_rfl) 101 { v := .own 101, R := [], new := [(101, .vec true 68 5 [[V.i a1.kind, V.i a1.op, V.s a1.text, V.s a1.other, .sl false false (a1.kids.map eST)]])], N := [101] } (by kernel_rfl) ?_
   refine W.vecEq 101 (nn := true) (e := 68) (k := 5) (rows := [[V.i a1.kind, V.i a1.op, V.s a1.text, V.s a1.other, .sl false false (a1.kids.map eST)]]) (rows' := [a1].map eST) (by kernel_rfl) (by simp only [List.map_cons, List.map_nil, encSTree_eq]) ?_
   refine wR 1 102 ?_
   exact fI
   ) ?_
  refine CO.ret ?_
  have h := sI h
  subst h
  exact eG [(0, 0), (1, 1), (2, 2), (101, 100)] (.inr rfl) (RetV.one rfl (oT (t := 7) (r := .own 101)))
 refine iF hc7 ?_
 refine CO.skip ?_
 refine bB h fun r5 hx9 h => ?_
 refine CO.cutR (tl 39 [(2, .loc 0 0), (4, .loc 2 0), (6, .loc 100 0), (8, .own 101), (9, V.b r5.2)]) [(101, .vec false 76 6 (r5.1.map encSFilling)), (0, .cells 4 [V.b y2]), (1, .cells 68 [V.i p1_0, V.i p1_1, V.s p1_2, V.s p1_3, .sl false false (p1_4.map eST)]), (2, .cells 68 [V.i p2_0, V.i p2_1, V.s p2_2, V.s p2_3, .sl false false (p2_4.map eST)]), (100, .cells 68 [V.i a1.kind, V.i a1.op, V.s a1.text, V.s a1.other, .sl false false (a1.kids.map eST)])] mix (by
  refine wR 2 101 ?_
  refine W.callK (AC.nilArg 2 0 76 6 (mi_tree__matches_ok N (⟨p1_0, p1_1, p1_2, p1_3, p1_4⟩ : STree) a1 [] hx9) (by kernel_rfl) (by kernel_rfl) (by kernel_rfl) (by kernel_rfl) rfl) cok47 [] [(100, 101)] [2] [101] (show LayOk _ [] from trivial) (by kernel_rfl) (by kernel_rfl) ?_
  refine wR 5 102 ?_
  exact fI
  ) ?_
 refine CO.seq' ?_
 refine cU 2 102 (tl 39 [(2, .loc 0 0), (4, .loc 2 0), (6, .loc 100 0), (8, .own 101), (28, V.b (!r5.2))]) [(101, .vec false 76 6 (r5.1.map encSFilling)), (0, .cells 4 [V.b y2]), (1, .cells 68 [V.i p1_0, V.i p1_1, V.s p1_2, V.s p1_3, .sl false false (p1_4.map eST)]), (2, .cells 68 [V.i p2_0, V.i p2_1, V.s p2_2, V.s p2_3, .sl false false (p2_4.map eST)]), (100, .cells 68 [V.i a1.kind, V.i a1.op, V.s a1.text, V.s a1.other, .sl false false (a1.kids.map eST)])] ?_
 refine bC h (fun hc11 h => ?_) (fun hc11 h => ?_)
 ·refine iT hc11 ?_
  refine CO.cutR (tl 39 [(7, .own 102)]) [(102, .vec false 68 5 ([a1].map eST)), (0, .cells 4 [V.b y2]), (1, .cells 68 [V.i p1_0, V.i p1_1, V.s p1_2, V.s p1_3, .sl false false (p1_4.map eST)]), (2, .cells 68 [V.i p2_0, V.i p2_1, V.s p2_2, V.s p2_3, .sl false false (p2_4.map eST)])] mix (by
   refine wR 1 102 ?_
   refine W.layop Dk (show LayOk _ [] from trivial) (by kernel_rfl) 102 { v := .own 102, R := [], new := [(102, .vec true 68 5 [[V.i a1.kind, V.i a1.op, V.s a1.text, V.s a1.other, .sl false false (a1.kids.map eST)]])], N := [102] } (by kernel_rfl) ?_
   refine W.vecEq 102 (nn := true) (e := 68) (k := 5) (rows := [[V.i a1.kind, V.i a1.op, V.s a1.text, V.s a1.other, .sl false false (a1.kids.map eST)]]) (rows' := [a1].map eST) (by kernel_rfl) (by simp only [List.map_cons, List.map_nil, encSTree_eq]) ?_
   refine wR 1 103 ?_
   exact fI
   ) ?_
  refine CO.ret ?_
  have h := sI h
  subst h
  exact eG [(0, 0), (1, 1), (2, 2), (102, 100)] (.inr rfl) (RetV.one rfl (oT (t := 7) (r := .own 102)))
 refine iF hc11 ?_
 refine CO.skip ?_
 refine bB h fun r7 hx13 h => ?_
 refine CO.cutR (tl 39 [(2, .loc 0 0), (10, .loc 102 0)]) [(102, .cells 68 [V.i r7.kind, V.i r7.op, V.s r7.text, V.s r7.other, .sl false false (r7.kids.map eST)]), (0, .cells 4 [V.b y2]), (1, .cells 68 [V.i p1_0, V.i p1_1, V.s p1_2, V.s p1_3, .sl false false (p1_4.map eST)]), (2, .cells 68 [V.i p2_0, V.i p2_1, V.s p2_2, V.s p2_3, .sl false false (p2_4.map eST)])] mix (by
  refine wR 2 102 ?_
  refine W.call (mi_tree__filled_ok N (⟨p2_0, p2_1, p2_2, p2_3, p2_4⟩ : STree) r5.1 hx13) cok66 [] [] [] (LayOk.cons (j := 101) encSFilling encSFilling r5.1 (by kernel_rfl) (share_encSFilling) (show LayOk _ [] from trivial)) (by kernel_rfl) (by kernel_rfl) ?_
  refine wR 2 102 ?_
  exact fI
  ) ?_
 refine bB h fun r9 hx15 h => ?_
 refine CO.cutR (tl 39 [(10, .loc 102 0)]) [(0, .cells 4 [V.b (decide (r9 ≤ 400))]), (102, .cells 68 [V.i r7.kind, V.i r7.op, V.s r7.text, V.s r7.other, .sl false false (r7.kids.map eST)]), (1, .cells 68 [V.i p1_0, V.i p1_1, V.s p1_2, V.s p1_3, .sl false false (p1_4.map eST)]), (2, .cells 68 [V.i p2_0, V.i p2_1, V.s p2_2, V.s p2_3, .sl false false (p2_4.map eST)])] mix (by
  refine wR 1 103 ?_
  refine W.call0 (mi_tree__size_ok N r7 hx15) cok65 rfl (by kernel_rfl) ?_
  refine wR 2 103 ?_
  exact fI
  ) ?_
 refine CO.cutR (tl 39 [(7, .own 103)]) [(103, .vec false 68 5 ([r7].map eST)), (0, .cells 4 [V.b (decide (r9 ≤ 400))]), (1, .cells 68 [V.i p1_0, V.i p1_1, V.s p1_2, V.s p1_3, .sl false false (p1_4.map eST)]), (2, .cells 68 [V.i p2_0, V.i p2_1, V.s p2_2, V.s p2_3, .sl false false (p2_4.map eST)])] mix (by
  refine wR 1 103 ?_
  refine W.layop Dk (show LayOk _ [] from trivial) (by kernel_rfl) 103 { v := .own 103, R := [], new := [(103, .vec true 68 5 [[V.i r7.kind, V.i r7.op, V.s r7.text, V.s r7.other, .sl false false (r7.kids.map eST)]])], N := [103] } (by kernel_rfl) ?_
  refine W.vecEq 103 (nn := true) (e := 68) (k := 5) (rows := [[V.i r7.kind, V.i r7.op, V.s r7.text, V.s r7.other, .sl false false (r7.kids.map eST)]]) (rows' := [r7].map eST) (by kernel_rfl) (by simp only [List.map_cons, List.map_nil, encSTree_eq]) ?_
  refine wR 1 104 ?_
  exact fI
  ) ?_
 refine CO.ret ?_
 have h := sI h
 subst h
 exact eG [(0, 0), (1, 1), (2, 2), (103, 100)] (.inr rfl) (RetV.one rfl (oT (t := 7) (r := .own 103)))

structure RecOk10 (R : Rec10) : Prop where
  mi_edited : ∀ (a0 : List SNode) (a1 : Int) (p0_0 : Bool) (p1_0 : Int) (p1_1 : Int) (p1_2 : List UInt8) (p1_3 : List UInt8) (p1_4 : List STree) (p2_0 : Int) (p2_1 : Int) (p2_2 : List UInt8) (p2_3 : List UInt8) (p2_4 : List STree) (r : ((List STree) × Bool)), R.mi_edited a0 a1 p0_0 p1_0 p1_1 p1_2 p1_3 p1_4 p2_0 p2_1 p2_2 p2_3 p2_4 = some r → AC Tryz.prog (GS []) 93 [.sl false false (a0.map (eSN false)), V.i a1, .fn 64 [.loc 0 0, .loc 1 0, .loc 2 0]] [(0, .cells 4 [V.b p0_0]), (1, .cells 68 [V.i p1_0, V.i p1_1, V.s p1_2, V.s p1_3, .sl false false (p1_4.map eST)]), (2, .cells 68 [V.i p2_0, V.i p2_1, V.s p2_2, V.s p2_3, .sl false false (p2_4.map eST)])] (.own 100) [(0, .cells 4 [V.b r.2]), (1, .cells 68 [V.i p1_0, V.i p1_1, V.s p1_2, V.s p1_3, .sl false false (p1_4.map eST)]), (2, .cells 68 [V.i p2_0, V.i p2_1, V.s p2_2, V.s p2_3, .sl false false (p2_4.map eST)]), (100, .vec false 68 5 (r.1.map eST))]

theorem mi_edited_F_ok (N : Nat) (R : Rec10) (HR : RecOk10 R) (a0 : List SNode) (a1 : Int) (p0_0 : Bool) (p1_0 : Int) (p1_1 : Int) (p1_2 : List UInt8) (p1_3 : List UInt8) (p1_4 : List STree) (p2_0 : Int) (p2_1 : Int) (p2_2 : List UInt8) (p2_3 : List UInt8) (p2_4 : List STree) {r : ((List STree) × Bool)} (h : mi_edited_F N R a0 a1 p0_0 p1_0 p1_1 p1_2 p1_3 p1_4 p2_0 p2_1 p2_2 p2_3 p2_4 = some r) :
    AC Tryz.prog (GS []) 93 [.sl false false (a0.map (eSN false)), V.i a1, .fn 64 [.loc 0 0, .loc 1 0, .loc 2 0]] [(0, .cells 4 [V.b p0_0]), (1, .cells 68 [V.i p1_0, V.i p1_1, V.s p1_2, V.s p1_3, .sl false false (p1_4.map eST)]), (2, .cells 68 [V.i p2_0, V.i p2_1, V.s p2_2, V.s p2_3, .sl false false (p2_4.map eST)])] (.own 100) [(0, .cells 4 [V.b r.2]), (1, .cells 68 [V.i p1_0, V.i p1_1, V.s p1_2, V.s p1_3, .sl false false (p1_4.map eST)]), (2, .cells 68 [V.i p2_0, V.i p2_1, V.s p2_2, V.s p2_3, .sl false false (p2_4.map eST)]), (100, .vec false 68 5 (r.1.map eST))] := by
 rw [mi_edited_F] at h
 refine AC.enter Tryz.func93 rfl ?_
 refine cU 1 100 (tl 44 [(0, .sl false false (a0.map (eSN false))), (1, V.i a1), (2, .fn 64 [.loc 0 0, .loc 1 0, .loc 2 0])]) [(0, .cells 4 [V.b p0_0]), (1, .cells 68 [V.i p1_0, V.i p1_1, V.s p1_2, V.s p1_3, .sl false false (p1_4.map eST)]), (2, .cells 68 [V.i p2_0, V.i p2_1, V.s p2_2, V.s p2_3, .sl false false (p2_4.map eST)])] ?_
 refine bB h fun e2 hx2 h => ?_
 refine CO.cutR (tl 44 [(0, .sl false false (a0.map (eSN false))), (1, V.i a1), (2, .fn 64 [.loc 0 0, .loc 1 0, .loc 2 0]), (7, .loc 100 0)]) [(100, .cells 48 [V.i e2.Kind, V.i e2.Op, V.s e2.Text, V.s e2.Other, .sl false false (e2.Kids.map encI)]), (0, .cells 4 [V.b p0_0]), (1, .cells 68 [V.i p1_0, V.i p1_1, V.s p1_2, V.s p1_3, .sl false false (p1_4.map eST)]), (2, .cells 68 [V.i p2_0, V.i p2_1, V.s p2_2, V.s p2_3, .sl false false (p2_4.map eST)])] mix (by
  refine wR 2 100 ?_
  refine W.ixD Dk (eSN false) hx2 5 (by kernel_rfl) (by kernel_rfl) ?_
  refine wR 3 100 ?_
  exact fI
  ) ?_
 refine cU 11 101 (tl 44 [(0, .sl false false (a0.map (eSN false))), (1, V.i a1), (2, .fn 64 [.loc 0 0, .loc 1 0, .loc 2 0]), (7, .loc 100 0), (8, .loc 101 0)]) [(101, .cells 68 [V.i e2.Kind, V.i e2.Op, V.s e2.Text, V.s e2.Other, .c (.slice none 0 0)]), (100, .cells 48 [V.i e2.Kind, V.i e2.Op, V.s e2.Text, V.s e2.Other, .sl false false (e2.Kids.map encI)]), (0, .cells 4 [V.b p0_0]), (1, .cells 68 [V.i p1_0, V.i p1_1, V.s p1_2, V.s p1_3, .sl false false (p1_4.map eST)]), (2, .cells 68 [V.i p2_0, V.i p2_1, V.s p2_2, V.s p2_3, .sl false false (p2_4.map eST)])] ?_
 refine CO.seq' ?_
 refine CO.cutR (tl 44 [(0, .sl false false (a0.map (eSN false))), (1, V.i a1), (2, .fn 64 [.loc 0 0, .loc 1 0, .loc 2 0]), (8, .loc 101 0), (25, .sl false false (e2.Kids.map encI)), (26, V.i (e2.Kids.length : Int)), (27, V.i 0)]) [(101, .cells 68 [V.i e2.Kind, V.i e2.Op, V.s e2.Text, V.s e2.Other, .c (.slice none 0 0)]), (0, .cells 4 [V.b p0_0]), (1, .cells 68 [V.i p1_0, V.i p1_1, V.s p1_2, V.s p1_3, .sl false false (p1_4.map eST)]), (2, .cells 68 [V.i p2_0, V.i p2_1, V.s p2_2, V.s p2_3, .sl false false (p2_4.map eST)])] mix (by
  refine wR 2 102 ?_
  refine W.len Dk encI e2.Kids [] (by kernel_rfl) (by kernel_rfl) ?_
  refine wR 1 102 ?_
  exact fI
  ) ?_
 refine CO.block' ?_
 refine CO.loopJ (fun (⟨a0, a1, e2, y65, y66, y67⟩ : ((List SNode) × Int × SNode × Int × Bool × (List STree))) => ⟨tl 44 [(0, .sl false false (a0.map (eSN false))), (1, V.i a1), (2, .fn 64 [.loc 0 0, .loc 1 0, .loc 2 0]), (8, .loc 100 0), (25, .sl false false (e2.Kids.map encI)), (26, V.i (e2.Kids.length : Int)), (27, V.i y65)], [(0, .cells 4 [V.b y66]), (1, .cells 68 [V.i p1_0, V.i p1_1, V.s p1_2, V.s p1_3, .sl false false (p1_4.map eST)]), (2, .cells 68 [V.i p2_0, V.i p2_1, V.s p2_2, V.s p2_3, .sl false false (p2_4.map eST)]), (100, .cells 68 [V.i e2.Kind, V.i e2.Op, V.s e2.Text, V.s e2.Other, .own 101]), (101, .vec false 68 5 (y67.map eST))]⟩) (fun n i => mi_edited_l1 N R p0_0 p1_0 p1_1 p1_2 p1_3 p1_4 p2_0 p2_1 p2_2 p2_3 p2_4 n i = some r) (n0 := N) (i0 := (a0, a1, e2, 0, p0_0, [])) ((Weak.nilCell 101 4 102 68 5 (ety := 68) (cs := [V.i e2.Kind, V.i e2.Op, V.s e2.Text, V.s e2.Other, .c (.slice none 0 0)]) (by kernel_rfl) (by kernel_rfl) (by kernel_rfl)).trans (wS [(0, 0), (1, 1), (2, 2), (101, 100), (102, 101)] [0, 1, 2, 8, 25, 26, 27])) h (fun i h => by simp [mi_edited_l1] at h) ?_
 rintro n1 ⟨a0, a1, e2, y65, y66, y67⟩ h83 ih84
 rw [mi_edited_l1] at h83
 refine cU 1 167 (tl 44 [(0, .sl false false (a0.map (eSN false))), (1, V.i a1), (2, .fn 64 [.loc 0 0, .loc 1 0, .loc 2 0]), (8, .loc 100 0), (25, .sl false false (e2.Kids.map encI)), (26, V.i (e2.Kids.length : Int)), (27, V.i y65), (28, V.b (decide (y65 < (e2.Kids.length : Int))))]) [(0, .cells 4 [V.b y66]), (1, .cells 68 [V.i p1_0, V.i p1_1, V.s p1_2, V.s p1_3, .sl false false (p1_4.map eST)]), (2, .cells 68 [V.i p2_0, V.i p2_1, V.s p2_2, V.s p2_3, .sl false false (p2_4.map eST)]), (100, .cells 68 [V.i e2.Kind, V.i e2.Op, V.s e2.Text, V.s e2.Other, .own 101]), (101, .vec false 68 5 (y67.map eST))] ?_
 refine CO.seq' ?_
 refine bC h83 (fun hc86 h83 => ?_) (fun hc86 h83 => ?_)
 ·refine iT hc86 ?_
  refine CO.skip ?_
  refine CO.seq' ?_
  refine CO.block' ?_
  refine bB h83 fun e90 hx94 h83 => ?_
  refine CO.cutR (tl 44 [(0, .sl false false (a0.map (eSN false))), (1, V.i a1), (2, .fn 64 [.loc 0 0, .loc 1 0, .loc 2 0]), (8, .loc 100 0), (10, V.i e90), (25, .sl false false (e2.Kids.map encI)), (26, V.i (e2.Kids.length : Int)), (27, V.i y65)]) [(0, .cells 4 [V.b y66]), (1, .cells 68 [V.i p1_0, V.i p1_1, V.s p1_2, V.s p1_3, .sl false false (p1_4.map eST)]), (2, .cells 68 [V.i p2_0, V.i p2_1, V.s p2_2, V.s p2_3, .sl false false (p2_4.map eST)]), (100, .cells 68 [V.i e2.Kind, V.i e2.Op, V.s e2.Text, V.s e2.Other, .own 101]), (101, .vec false 68 5 (y67.map eST))] mix (by
   refine W.ixD Dk encI hx94 1 (by kernel_rfl) (by kernel_rfl) ?_
   refine wR 2 167 ?_
   exact fI
   ) ?_
  refine bB h83 fun r93 hx97 h83 => ?_
  refine bB h83 fun x94 hx98 h83 => ?_
  refine CO.endR (tl 44 [(0, .sl false false (a0.map (eSN false))), (1, V.i a1), (2, .fn 64 [.loc 0 0, .loc 1 0, .loc 2 0]), (8, .loc 100 0), (25, .sl false false (e2.Kids.map encI)), (26, V.i (e2.Kids.length : Int)), (27, V.i y65)]) [(100, .cells 68 [V.i e2.Kind, V.i e2.Op, V.s e2.Text, V.s e2.Other, .own 168]), (168, .vec false 68 5 (x94.map eST)), (0, .cells 4 [V.b r93.2]), (1, .cells 68 [V.i p1_0, V.i p1_1, V.s p1_2, V.s p1_3, .sl false false (p1_4.map eST)]), (2, .cells 68 [V.i p2_0, V.i p2_1, V.s p2_2, V.s p2_3, .sl false false (p2_4.map eST)])] mix (by
   refine wR 5 167 ?_
   refine W.call (HR.mi_edited a0 e90 y66 p1_0 p1_1 p1_2 p1_3 p1_4 p2_0 p2_1 p2_2 p2_3 p2_4 _ hx97) cok93 [(0, 0), (1, 1), (2, 2)] [(0, 0), (1, 1), (2, 2), (100, 167)] [167] (show LayOk _ [] from trivial) (by kernel_rfl) (by kernel_rfl) ?_
   refine W.appO Dk eST (a := 101) (c := 167) (el := 68) (sz := 5) 72 hx98 rfl 168 (by kernel_rfl) ?_
   refine wR 2 169 ?_
   exact fI
   ) (fun st hw => ?_)
  refine CO.weak hw ?_
  refine cE 2 169 (tl 44 [(0, .sl false false (a0.map (eSN false))), (1, V.i a1), (2, .fn 64 [.loc 0 0, .loc 1 0, .loc 2 0]), (8, .loc 100 0), (25, .sl false false (e2.Kids.map encI)), (26, V.i (e2.Kids.length : Int)), (27, V.i (IntKind.wrap .i64 (y65 + 1)))]) [(100, .cells 68 [V.i e2.Kind, V.i e2.Op, V.s e2.Text, V.s e2.Other, .own 168]), (168, .vec false 68 5 (x94.map eST)), (0, .cells 4 [V.b r93.2]), (1, .cells 68 [V.i p1_0, V.i p1_1, V.s p1_2, V.s p1_3, .sl false false (p1_4.map eST)]), (2, .cells 68 [V.i p2_0, V.i p2_1, V.s p2_2, V.s p2_3, .sl false false (p2_4.map eST)])] (fun st hw => ?_)
  exact ih84 (a0, a1, e2, (IntKind.wrap .i64 (y65 + 1)), r93.2, x94) h83 _ (hw.trans (wS [(0, 0), (1, 1), (2, 2), (100, 100), (168, 101)] [0, 1, 2, 8, 25, 26, 27]))
 refine iF hc86 ?_
 refine CO.exit ?_
 refine bB h83 fun r96 hx100 h83 => ?_
 refine CO.cutR (tl 44 [(6, .own 167)]) [(167, .vec false 68 5 (r96.1.map eST)), (0, .cells 4 [V.b r96.2]), (1, .cells 68 [V.i p1_0, V.i p1_1, V.s p1_2, V.s p1_3, .sl false false (p1_4.map eST)]), (2, .cells 68 [V.i p2_0, V.i p2_1, V.s p2_2, V.s p2_3, .sl false false (p2_4.map eST)])] mix (by
  refine wR 3 167 ?_
  refine W.call (mi_Rewrite_1_ok N a1 (⟨e2.Kind, e2.Op, e2.Text, e2.Other, y67⟩ : STree) y66 p1_0 p1_1 p1_2 p1_3 p1_4 p2_0 p2_1 p2_2 p2_3 p2_4 hx100) cok64 [(0, 0), (1, 1), (2, 2)] [(0, 0), (1, 1), (2, 2), (100, 167)] [167] (LayOk.cons (j := 101) eST eST y67 (by kernel_rfl) (share_encSTree) (show LayOk _ [] from trivial)) (by kernel_rfl) (by kernel_rfl) ?_
  refine wR 1 168 ?_
  exact fI
  ) ?_
 refine CO.ret ?_
 have h83 := sI h83
 subst h83
 exact eG [(0, 0), (1, 1), (2, 2), (167, 100)] (.inr rfl) (RetV.one rfl (oT (t := 6) (r := .own 167)))

theorem scc10_ok : ∀ N, RecOk10 (scc10 N)
  | 0 => ⟨fun _ _ _ _ _ _ _ _ _ _ _ _ _ _ h => (by cases h)⟩
  | N + 1 => ⟨fun a0 a1 p0_0 p1_0 p1_1 p1_2 p1_3 p1_4 p2_0 p2_1 p2_2 p2_3 p2_4 _ h => mi_edited_F_ok N (scc10 N) (scc10_ok N) a0 a1 p0_0 p1_0 p1_1 p1_2 p1_3 p1_4 p2_0 p2_1 p2_2 p2_3 p2_4 h⟩

theorem mi_edited_ok (N : Nat) (a0 : List SNode) (a1 : Int) (p0_0 : Bool) (p1_0 : Int) (p1_1 : Int) (p1_2 : List UInt8) (p1_3 : List UInt8) (p1_4 : List STree) (p2_0 : Int) (p2_1 : Int) (p2_2 : List UInt8) (p2_3 : List UInt8) (p2_4 : List STree) {r : ((List STree) × Bool)} (h : mi_edited N a0 a1 p0_0 p1_0 p1_1 p1_2 p1_3 p1_4 p2_0 p2_1 p2_2 p2_3 p2_4 = some r) :
    AC Tryz.prog (GS []) 93 [.sl false false (a0.map (eSN false)), V.i a1, .fn 64 [.loc 0 0, .loc 1 0, .loc 2 0]] [(0, .cells 4 [V.b p0_0]), (1, .cells 68 [V.i p1_0, V.i p1_1, V.s p1_2, V.s p1_3, .sl false false (p1_4.map eST)]), (2, .cells 68 [V.i p2_0, V.i p2_1, V.s p2_2, V.s p2_3, .sl false false (p2_4.map eST)])] (.own 100) [(0, .cells 4 [V.b r.2]), (1, .cells 68 [V.i p1_0, V.i p1_1, V.s p1_2, V.s p1_3, .sl false false (p1_4.map eST)]), (2, .cells 68 [V.i p2_0, V.i p2_1, V.s p2_2, V.s p2_3, .sl false false (p2_4.map eST)]), (100, .vec false 68 5 (r.1.map eST))] :=
  (scc10_ok N).mi_edited a0 a1 p0_0 p1_0 p1_1 p1_2 p1_3 p1_4 p2_0 p2_1 p2_2 p2_3 p2_4 r h

structure RecOk11 (R : Rec11) : Prop where
  mi_tree__add : ∀ (a0 : STree) (p0 : List SNode) (r : (List SNode)), R.mi_tree__add a0 p0 = some r → AC Tryz.prog (GS []) 89 [.agg [V.i a0.kind, V.i a0.op, V.s a0.text, V.s a0.other, .sl false false (a0.kids.map eST)], .own 0] [(0, .vec false 48 5 (p0.map (eSN true)))] (.own 100) [(100, .vec false 48 5 (r.map (eSN true)))]

theorem mi_tree__add_F_ok (N : Nat) (R : Rec11) (HR : RecOk11 R) (a0 : STree) (p0 : List SNode) {r : (List SNode)} (h : mi_tree__add_F N R a0 p0 = some r) :
    AC Tryz.prog (GS []) 89 [.agg [V.i a0.kind, V.i a0.op, V.s a0.text, V.s a0.other, .sl false false (a0.kids.map eST)], .own 0] [(0, .vec false 48 5 (p0.map (eSN true)))] (.own 100) [(100, .vec false 48 5 (r.map (eSN true)))] := by
 rw [mi_tree__add_F] at h
 refine AC.enter Tryz.func89 rfl ?_
 refine cU 2 100 (tl 40 [(1, .own 0), (2, .loc 100 0)]) [(100, .cells 68 [V.i a0.kind, V.i a0.op, V.s a0.text, V.s a0.other, .sl false false (a0.kids.map eST)]), (0, .vec false 48 5 (p0.map (eSN true)))] ?_
 refine cU 11 101 (tl 40 [(1, .own 0), (2, .loc 100 0), (5, .loc 101 0)]) [(101, .cells 48 [V.i a0.kind, V.i a0.op, V.s a0.text, V.s a0.other, .c (.slice none 0 0)]), (100, .cells 68 [V.i a0.kind, V.i a0.op, V.s a0.text, V.s a0.other, .sl false false (a0.kids.map eST)]), (0, .vec false 48 5 (p0.map (eSN true)))] ?_
 refine CO.seq' ?_
 refine CO.cutR (tl 40 [(1, .own 0), (5, .loc 101 0), (18, .sl false false (a0.kids.map eST)), (19, V.i (a0.kids.length : Int)), (20, V.i 0)]) [(101, .cells 48 [V.i a0.kind, V.i a0.op, V.s a0.text, V.s a0.other, .c (.slice none 0 0)]), (0, .vec false 48 5 (p0.map (eSN true)))] mix (by
  refine wR 2 102 ?_
  refine W.len Dk eST a0.kids [] (by kernel_rfl) (by kernel_rfl) ?_
  refine wR 1 102 ?_
  exact fI
  ) ?_
 refine CO.block' ?_
 refine CO.loopJ (fun (⟨a0, y59, y60, y61⟩ : (STree × Int × (List SNode) × (List Int))) => ⟨tl 40 [(1, .own 100), (5, .loc 101 0), (18, .sl false false (a0.kids.map eST)), (19, V.i (a0.kids.length : Int)), (20, V.i y59)], [(100, .vec false 48 5 (y60.map (eSN true))), (101, .cells 48 [V.i a0.kind, V.i a0.op, V.s a0.text, V.s a0.other, .own 102]), (102, .vec false 3 1 (y61.map encI))]⟩) (fun n i => mi_tree__add_l1 N R n i = some r) (n0 := N) (i0 := (a0, 0, p0, [])) ((Weak.nilCell 101 4 102 3 1 (ety := 48) (cs := [V.i a0.kind, V.i a0.op, V.s a0.text, V.s a0.other, .c (.slice none 0 0)]) (by kernel_rfl) (by kernel_rfl) (by kernel_rfl)).trans (wS [(0, 100), (101, 101), (102, 102)] [1, 5, 18, 19, 20])) h (fun i h => by simp [mi_tree__add_l1] at h) ?_
 rintro n1 ⟨a0, y59, y60, y61⟩ h77 ih78
 rw [mi_tree__add_l1] at h77
 refine cU 1 171 (tl 40 [(1, .own 100), (5, .loc 101 0), (18, .sl false false (a0.kids.map eST)), (19, V.i (a0.kids.length : Int)), (20, V.i y59), (21, V.b (decide (y59 < (a0.kids.length : Int))))]) [(100, .vec false 48 5 (y60.map (eSN true))), (101, .cells 48 [V.i a0.kind, V.i a0.op, V.s a0.text, V.s a0.other, .own 102]), (102, .vec false 3 1 (y61.map encI))] ?_
 refine CO.seq' ?_
 refine bC h77 (fun hc80 h77 => ?_) (fun hc80 h77 => ?_)
 ·refine iT hc80 ?_
  refine CO.skip ?_
  refine CO.seq' ?_
  refine CO.block' ?_
  refine bB h77 fun e84 hx88 h77 => ?_
  refine CO.cutR (tl 40 [(1, .own 100), (5, .loc 101 0), (7, .loc 171 0), (18, .sl false false (a0.kids.map eST)), (19, V.i (a0.kids.length : Int)), (20, V.i y59)]) [(171, .cells 68 [V.i e84.kind, V.i e84.op, V.s e84.text, V.s e84.other, .sl false false (e84.kids.map eST)]), (100, .vec false 48 5 (y60.map (eSN true))), (101, .cells 48 [V.i a0.kind, V.i a0.op, V.s a0.text, V.s a0.other, .own 102]), (102, .vec false 3 1 (y61.map encI))] mix (by
   refine W.ixDr Dk eST hx88 5 (by kernel_rfl) (encSTree_eq e84) (by kernel_rfl) ?_
   refine wR 3 171 ?_
   exact fI
   ) ?_
  refine bB h77 fun r86 hx90 h77 => ?_
  refine CO.cutR (tl 40 [(1, .own 172), (5, .loc 101 0), (18, .sl false false (a0.kids.map eST)), (19, V.i (a0.kids.length : Int)), (20, V.i y59)]) [(172, .vec false 48 5 (r86.map (eSN true))), (101, .cells 48 [V.i a0.kind, V.i a0.op, V.s a0.text, V.s a0.other, .own 102]), (102, .vec false 3 1 (y61.map encI))] mix (by
   refine wR 2 172 ?_
   refine W.call (HR.mi_tree__add e84 y60 _ hx90) cok89 [(100, 0)] [(100, 172)] [172] (show LayOk _ [] from trivial) (by kernel_rfl) (by kernel_rfl) ?_
   refine wR 1 173 ?_
   exact fI
   ) ?_
  refine bB h77 fun x88 hx92 h77 => ?_
  refine CO.endR (tl 40 [(1, .own 172), (5, .loc 101 0), (18, .sl false false (a0.kids.map eST)), (19, V.i (a0.kids.length : Int)), (20, V.i y59)]) [(101, .cells 48 [V.i a0.kind, V.i a0.op, V.s a0.text, V.s a0.other, .own 174]), (174, .vec false 3 1 (x88.map encI)), (172, .vec false 48 5 (r86.map (eSN true)))] mix (by
   refine wR 3 173 ?_
   refine W.len Dk (eSN true) r86 [172] (by kernel_rfl) (by kernel_rfl) ?_
   refine wR 2 173 ?_
   refine W.appO Dk encI (a := 102) (c := 173) (el := 3) (sz := 1) 8 hx92 rfl 174 (by kernel_rfl) ?_
   refine wR 2 175 ?_
   exact fI
   ) (fun st hw => ?_)
  refine CO.weak hw ?_
  refine cE 2 175 (tl 40 [(1, .own 172), (5, .loc 101 0), (18, .sl false false (a0.kids.map eST)), (19, V.i (a0.kids.length : Int)), (20, V.i (IntKind.wrap .i64 (y59 + 1)))]) [(101, .cells 48 [V.i a0.kind, V.i a0.op, V.s a0.text, V.s a0.other, .own 174]), (174, .vec false 3 1 (x88.map encI)), (172, .vec false 48 5 (r86.map (eSN true)))] (fun st hw => ?_)
  exact ih78 (a0, (IntKind.wrap .i64 (y59 + 1)), r86, x88) h77 _ (hw.trans (wS [(172, 100), (101, 101), (174, 102)] [1, 5, 18, 19, 20]))
 refine iF hc80 ?_
 refine CO.exit ?_
 refine bB h77 fun x90 hx94 h77 => ?_
 refine CO.cutR (tl 40 [(4, .own 172)]) [(172, .vec false 48 5 (x90.map (eSN true)))] mix (by
  refine wR 3 171 ?_
  refine W.appO Dk (eSN true) (a := 100) (c := 171) (el := 48) (sz := 5) 72 hx94 rfl 172 (by kernel_rfl) ?_
  refine wR 1 173 ?_
  exact fI
  ) ?_
 refine CO.ret ?_
 have h77 := sI h77
 subst h77
 exact eG [(172, 100)] (.inr rfl) (RetV.one rfl (oT (t := 4) (r := .own 172)))

theorem scc11_ok : ∀ N, RecOk11 (scc11 N)
  | 0 => ⟨fun _ _ _ h => (by cases h)⟩
  | N + 1 => ⟨fun a0 p0 _ h => mi_tree__add_F_ok N (scc11 N) (scc11_ok N) a0 p0 h⟩

theorem mi_tree__add_ok (N : Nat) (a0 : STree) (p0 : List SNode) {r : (List SNode)} (h : mi_tree__add N a0 p0 = some r) :
    AC Tryz.prog (GS []) 89 [.agg [V.i a0.kind, V.i a0.op, V.s a0.text, V.s a0.other, .sl false false (a0.kids.map eST)], .own 0] [(0, .vec false 48 5 (p0.map (eSN true)))] (.own 100) [(100, .vec false 48 5 (r.map (eSN true)))] :=
  (scc11_ok N).mi_tree__add a0 p0 r h

theorem mi_tree__list_ok (N : Nat) (a0 : STree) {r : (List SNode)} (h : mi_tree__list N a0 = some r) :
    AC Tryz.prog (GS []) 49 [.agg [V.i a0.kind, V.i a0.op, V.s a0.text, V.s a0.other, .sl false false (a0.kids.map eST)]] [] (.own 100) [(100, .vec false 48 5 (r.map (eSN true)))] := by
 rw [mi_tree__list] at h
 refine AC.enter Tryz.func49 rfl ?_
 refine cU 2 100 (tl 5 [(1, .loc 100 0)]) [(100, .cells 68 [V.i a0.kind, V.i a0.op, V.s a0.text, V.s a0.other, .sl false false (a0.kids.map eST)])] ?_
 refine bB h fun r2 hx2 h => ?_
 refine CO.cutR (tl 5 [(2, .own 101)]) [(101, .vec false 48 5 (r2.map (eSN true)))] mix (by
  refine wR 1 101 ?_
  refine W.callK (AC.nilArg 1 0 48 5 (mi_tree__add_ok N a0 [] hx2) (by kernel_rfl) (by kernel_rfl) (by kernel_rfl) (by kernel_rfl) rfl) cok89 [] [(100, 101)] [1] [101] (show LayOk _ [] from trivial) (by kernel_rfl) (by kernel_rfl) ?_
  refine wR 1 102 ?_
  exact fI
  ) ?_
 refine CO.ret ?_
 have h := sI h
 subst h
 exact eG [(101, 100)] (.inr rfl) (RetV.one rfl (oT (t := 2) (r := .own 101)))

theorem mi_edit_ok (N : Nat) (a0 : List SNode) (a1 : Int) (p0_0 : Bool) (p1_0 : Int) (p1_1 : Int) (p1_2 : List UInt8) (p1_3 : List UInt8) (p1_4 : List STree) (p2_0 : Int) (p2_1 : Int) (p2_2 : List UInt8) (p2_3 : List UInt8) (p2_4 : List STree) {r : ((List SNode) × Bool × Bool)} (h : mi_edit N a0 a1 p0_0 p1_0 p1_1 p1_2 p1_3 p1_4 p2_0 p2_1 p2_2 p2_3 p2_4 = some r) :
    AC Tryz.prog (GS [0, 1, 2]) 57 [.sl false false (a0.map (eSN false)), V.i a1, .fn 64 [.loc 0 0, .loc 1 0, .loc 2 0]] [(0, .cells 4 [V.b p0_0]), (1, .cells 68 [V.i p1_0, V.i p1_1, V.s p1_2, V.s p1_3, .sl false false (p1_4.map eST)]), (2, .cells 68 [V.i p2_0, V.i p2_1, V.s p2_2, V.s p2_3, .sl false false (p2_4.map eST)])] (.tup [.own 100, V.b r.2.1]) [(0, .cells 4 [V.b r.2.2]), (1, .cells 68 [V.i p1_0, V.i p1_1, V.s p1_2, V.s p1_3, .sl false false (p1_4.map eST)]), (2, .cells 68 [V.i p2_0, V.i p2_1, V.s p2_2, V.s p2_3, .sl false false (p2_4.map eST)]), (100, .vec false 48 5 (r.1.map (eSN true)))] := by
 rw [mi_edit] at h
 refine AC.enter Tryz.func57 rfl ?_
 refine cU 2 100 (tl 44 [(0, .sl false false (a0.map (eSN false))), (1, V.i a1), (2, .fn 64 [.loc 0 0, .loc 1 0, .loc 2 0])]) [(0, .cells 4 [V.b p0_0]), (1, .cells 68 [V.i p1_0, V.i p1_1, V.s p1_2, V.s p1_3, .sl false false (p1_4.map eST)]), (2, .cells 68 [V.i p2_0, V.i p2_1, V.s p2_2, V.s p2_3, .sl false false (p2_4.map eST)])] ?_
 refine CO.seq' ?_
 refine bB h fun y10 hv14 h => ?_
 refine CO.cutR (tl 44 [(0, .sl false false (a0.map (eSN false))), (2, .fn 64 [.loc 0 0, .loc 1 0, .loc 2 0]), (20, V.b y10)]) [(0, .cells 4 [V.b p0_0]), (1, .cells 68 [V.i p1_0, V.i p1_1, V.s p1_2, V.s p1_3, .sl false false (p1_4.map eST)]), (2, .cells 68 [V.i p2_0, V.i p2_1, V.s p2_2, V.s p2_3, .sl false false (p2_4.map eST)])] mix (by
  refine wR 1 100 ?_
  refine bB hv14 fun r11 hx15 hv14 => ?_
  refine W.call0 (mi_TreeOk_ok N a0 hx15) cok36 rfl (by kernel_rfl) ?_
  refine wR 2 100 ?_
  refine bC hv14 (fun hc16 hv14 => ?_) (fun hc16 hv14 => ?_)
  ·refine wI 13 hc16 ?_
   refine wR 7 100 ?_
   have hv14 := sI hv14
   subst hv14
   exact fS [(0, 0), (1, 1), (2, 2)] [0, 2, 20]
  refine wI 13 hc16 ?_
  refine wR 2 100 ?_
  refine W.len Dk (eSN false) a0 [] (by kernel_rfl) (by kernel_rfl) ?_
  refine wR 1 100 ?_
  refine bB hv14 fun r12 hx17 hv14 => ?_
  refine W.call0 (AC.gs (mi_within_ok a1 0 (IntKind.wrap .i64 ((a0.length : Int) - 1)) hx17) (by decide)) cok55 rfl (by kernel_rfl) ?_
  refine wR 2 100 ?_
  have hv14 := sI hv14
  subst hv14
  exact fS [(0, 0), (1, 1), (2, 2)] [0, 2, 20]
  ) ?_
 refine bC h (fun hc18 h => ?_) (fun hc18 h => ?_)
 ·refine iT hc18 ?_
  refine bB h fun r14 hx20 h => ?_
  refine CO.cutR (tl 44 [(6, .own 100), (7, V.b false)]) [(100, .vec false 48 5 (r14.map (eSN true))), (0, .cells 4 [V.b p0_0]), (1, .cells 68 [V.i p1_0, V.i p1_1, V.s p1_2, V.s p1_3, .sl false false (p1_4.map eST)]), (2, .cells 68 [V.i p2_0, V.i p2_1, V.s p2_2, V.s p2_3, .sl false false (p2_4.map eST)])] mix (by
   refine wR 1 100 ?_
   refine W.call (AC.gs (mi_copyNodes_ok N a0 hx20) (by decide)) cok56 [] [(100, 100)] [100] (show LayOk _ [] from trivial) (by kernel_rfl) (by kernel_rfl) ?_
   refine wR 2 101 ?_
   exact fI
   ) ?_
  refine CO.ret ?_
  have h := sI h
  subst h
  exact eG [(0, 0), (1, 1), (2, 2), (100, 100)] (.inr rfl) (RetV.two rfl (oT (t := 6) (r := .own 100)) (oT (t := 7) (r := V.b false)))
 refine iF hc18 ?_
 refine CO.skip ?_
 refine bB h fun r16 hx22 h => ?_
 refine CO.cutR (tl 44 [(0, .sl false false (a0.map (eSN false))), (8, .own 100)]) [(100, .vec false 68 5 (r16.1.map eST)), (0, .cells 4 [V.b r16.2]), (1, .cells 68 [V.i p1_0, V.i p1_1, V.s p1_2, V.s p1_3, .sl false false (p1_4.map eST)]), (2, .cells 68 [V.i p2_0, V.i p2_1, V.s p2_2, V.s p2_3, .sl false false (p2_4.map eST)])] mix (by
  refine wR 2 100 ?_
  refine W.len Dk (eSN false) a0 [] (by kernel_rfl) (by kernel_rfl) ?_
  refine wR 2 100 ?_
  refine W.call (AC.gs (mi_edited_ok N a0 (IntKind.wrap .i64 ((a0.length : Int) - 1)) p0_0 p1_0 p1_1 p1_2 p1_3 p1_4 p2_0 p2_1 p2_2 p2_3 p2_4 hx22) (by decide)) cok93 [(0, 0), (1, 1), (2, 2)] [(0, 0), (1, 1), (2, 2), (100, 100)] [100] (show LayOk _ [] from trivial) (by kernel_rfl) (by kernel_rfl) ?_
  refine wR 1 101 ?_
  exact fI
  ) ?_
 refine CO.seq' ?_
 refine CO.cutR (tl 44 [(0, .sl false false (a0.map (eSN false))), (8, .own 100), (31, V.b ((r16.1.length : Int) != 1))]) [(100, .vec false 68 5 (r16.1.map eST)), (0, .cells 4 [V.b r16.2]), (1, .cells 68 [V.i p1_0, V.i p1_1, V.s p1_2, V.s p1_3, .sl false false (p1_4.map eST)]), (2, .cells 68 [V.i p2_0, V.i p2_1, V.s p2_2, V.s p2_3, .sl false false (p2_4.map eST)])] mix (by
  refine wR 1 101 ?_
  refine W.len Dk eST r16.1 [100] (by kernel_rfl) (by kernel_rfl) ?_
  refine wR 1 101 ?_
  exact fI
  ) ?_
 refine bC h (fun hc26 h => ?_) (fun hc26 h => ?_)
 ·refine iT hc26 ?_
  refine bB h fun r20 hx28 h => ?_
  refine CO.cutR (tl 44 [(6, .own 101), (7, V.b false)]) [(101, .vec false 48 5 (r20.map (eSN true))), (0, .cells 4 [V.b r16.2]), (1, .cells 68 [V.i p1_0, V.i p1_1, V.s p1_2, V.s p1_3, .sl false false (p1_4.map eST)]), (2, .cells 68 [V.i p2_0, V.i p2_1, V.s p2_2, V.s p2_3, .sl false false (p2_4.map eST)])] mix (by
   refine wR 1 101 ?_
   refine W.call (AC.gs (mi_copyNodes_ok N a0 hx28) (by decide)) cok56 [] [(100, 101)] [101] (show LayOk _ [] from trivial) (by kernel_rfl) (by kernel_rfl) ?_
   refine wR 2 102 ?_
   exact fI
   ) ?_
  refine CO.ret ?_
  have h := sI h
  subst h
  exact eG [(0, 0), (1, 1), (2, 2), (101, 100)] (.inr rfl) (RetV.two rfl (oT (t := 6) (r := .own 101)) (oT (t := 7) (r := V.b false)))
 refine iF hc26 ?_
 refine CO.skip ?_
 refine CO.lay (tl 44 [(0, .sl false false (a0.map (eSN false))), (8, .sl false false (r16.1.map eST)), (31, V.b ((r16.1.length : Int) != 1))]) [(0, .cells 4 [V.b r16.2]), (1, .cells 68 [V.i p1_0, V.i p1_1, V.s p1_2, V.s p1_3, .sl false false (p1_4.map eST)]), (2, .cells 68 [V.i p2_0, V.i p2_1, V.s p2_2, V.s p2_3, .sl false false (p2_4.map eST)])] (LayOk.cons (j := 100) eST eST r16.1 (by kernel_rfl) (share_encSTree) (show LayOk _ [] from trivial)) (by kernel_rfl) (by kernel_rfl) (by kernel_rfl) ?_
 refine bB h fun e25 hx33 h => ?_
 refine bB h fun r26 hx34 h => ?_
 refine CO.cutR (tl 44 [(0, .sl false false (a0.map (eSN false))), (9, .own 101)]) [(101, .vec false 48 5 (r26.map (eSN true))), (0, .cells 4 [V.b r16.2]), (1, .cells 68 [V.i p1_0, V.i p1_1, V.s p1_2, V.s p1_3, .sl false false (p1_4.map eST)]), (2, .cells 68 [V.i p2_0, V.i p2_1, V.s p2_2, V.s p2_3, .sl false false (p2_4.map eST)])] mix (by
  refine wR 1 101 ?_
  refine W.ixDr Dk eST hx33 5 (by kernel_rfl) (encSTree_eq e25) (by kernel_rfl) ?_
  refine wR 1 101 ?_
  refine W.call (AC.gs (mi_tree__list_ok N e25 hx34) (by decide)) cok49 [] [(100, 101)] [101] (show LayOk _ [] from trivial) (by kernel_rfl) (by kernel_rfl) ?_
  refine wR 1 102 ?_
  exact fI
  ) ?_
 refine CO.seq' ?_
 refine bB h fun r32 hx41 h => ?_
 refine CO.cutR (tl 44 [(0, .sl false false (a0.map (eSN false))), (9, .own 101), (40, V.b (!r32))]) [(101, .vec false 48 5 (r26.map (eSN true))), (0, .cells 4 [V.b r16.2]), (1, .cells 68 [V.i p1_0, V.i p1_1, V.s p1_2, V.s p1_3, .sl false false (p1_4.map eST)]), (2, .cells 68 [V.i p2_0, V.i p2_1, V.s p2_2, V.s p2_3, .sl false false (p2_4.map eST)])] mix (by
  refine wR 1 102 ?_
  refine W.lend (mi_TreeOk_ok N r26 hx41) cok36 [] [] (LayOk.cons (j := 101) (eSN true) (eSN false) r26 (by kernel_rfl) (sh_eSN _) (show LayOk _ [] from trivial)) (.c _) .nil (by kernel_rfl) (by kernel_rfl) ?_
  refine wR 1 102 ?_
  exact fI
  ) ?_
 refine bC h (fun hc42 h => ?_) (fun hc42 h => ?_)
 ·refine iT hc42 ?_
  refine bB h fun r34 hx44 h => ?_
  refine CO.cutR (tl 44 [(6, .own 102), (7, V.b false)]) [(102, .vec false 48 5 (r34.map (eSN true))), (0, .cells 4 [V.b r16.2]), (1, .cells 68 [V.i p1_0, V.i p1_1, V.s p1_2, V.s p1_3, .sl false false (p1_4.map eST)]), (2, .cells 68 [V.i p2_0, V.i p2_1, V.s p2_2, V.s p2_3, .sl false false (p2_4.map eST)])] mix (by
   refine wR 1 102 ?_
   refine W.call (AC.gs (mi_copyNodes_ok N a0 hx44) (by decide)) cok56 [] [(100, 102)] [102] (show LayOk _ [] from trivial) (by kernel_rfl) (by kernel_rfl) ?_
   refine wR 2 103 ?_
   exact fI
   ) ?_
  refine CO.ret ?_
  have h := sI h
  subst h
  exact eG [(0, 0), (1, 1), (2, 2), (102, 100)] (.inr rfl) (RetV.two rfl (oT (t := 6) (r := .own 102)) (oT (t := 7) (r := V.b false)))
 refine iF hc42 ?_
 refine CO.skip ?_
 refine cU 3 102 (tl 44 [(6, .own 101), (7, V.b true)]) [(101, .vec false 48 5 (r26.map (eSN true))), (0, .cells 4 [V.b r16.2]), (1, .cells 68 [V.i p1_0, V.i p1_1, V.s p1_2, V.s p1_3, .sl false false (p1_4.map eST)]), (2, .cells 68 [V.i p2_0, V.i p2_1, V.s p2_2, V.s p2_3, .sl false false (p2_4.map eST)])] ?_
 refine CO.ret ?_
 have h := sI h
 subst h
 exact eG [(0, 0), (1, 1), (2, 2), (101, 100)] (.inr rfl) (RetV.two rfl (oT (t := 6) (r := .own 101)) (oT (t := 7) (r := V.b true)))

theorem mi_Rewrite_ok (N : Nat) (a0 : List SNode) (a1 : List SNode) (a2 : List SNode) {r : ((List SNode) × Bool)} (h : mi_Rewrite N a0 a1 a2 = some r) :
    AC Tryz.prog (GS [0, 1, 2]) 28 [.sl false false (a0.map (eSN false)), .sl false false (a1.map (eSN false)), .sl false false (a2.map (eSN false))] [] (.tup [.own 100, V.b r.2]) [(100, .vec false 48 5 (r.1.map (eSN true)))] := by
 rw [mi_Rewrite] at h
 refine AC.enter Tryz.func28 rfl ?_
 refine cU 2 100 (tl 56 [(0, .sl false false (a0.map (eSN false))), (1, .sl false false (a1.map (eSN false))), (2, .sl false false (a2.map (eSN false)))]) [] ?_
 refine CO.seq' ?_
 refine bB h fun y19 hv29 h => ?_
 refine CO.cutR (tl 56 [(0, .sl false false (a0.map (eSN false))), (1, .sl false false (a1.map (eSN false))), (2, .sl false false (a2.map (eSN false))), (34, V.b y19)]) [] mix (by
  refine wR 1 100 ?_
  refine bB hv29 fun r20 hx30 hv29 => ?_
  refine W.call0 (mi_TreeOk_ok N a0 hx30) cok36 rfl (by kernel_rfl) ?_
  refine wR 2 100 ?_
  refine bC hv29 (fun hc31 hv29 => ?_) (fun hc31 hv29 => ?_)
  ·refine wI 16 hc31 ?_
   refine wR 18 100 ?_
   have hv29 := sI hv29
   subst hv29
   exact fS [] [0, 1, 2, 34]
  refine wI 16 hc31 ?_
  refine wR 1 100 ?_
  refine bB hv29 fun r21 hx32 hv29 => ?_
  refine W.call0 (mi_ExprOk_ok N a1 hx32) cok44 rfl (by kernel_rfl) ?_
  refine wR 3 100 ?_
  refine bC hv29 (fun hc33 hv29 => ?_) (fun hc33 hv29 => ?_)
  ·refine wI 21 hc33 ?_
   refine wR 13 100 ?_
   have hv29 := sI hv29
   subst hv29
   exact fS [] [0, 1, 2, 34]
  refine wI 21 hc33 ?_
  refine wR 1 100 ?_
  refine bB hv29 fun r22 hx34 hv29 => ?_
  refine W.call0 (mi_ExprOk_ok N a2 hx34) cok44 rfl (by kernel_rfl) ?_
  refine wR 3 100 ?_
  refine bC hv29 (fun hc35 hv29 => ?_) (fun hc35 hv29 => ?_)
  ·refine wI 26 hc35 ?_
   refine wR 8 100 ?_
   have hv29 := sI hv29
   subst hv29
   exact fS [] [0, 1, 2, 34]
  refine wI 26 hc35 ?_
  refine wR 2 100 ?_
  refine W.len Dk (eSN false) a1 [] (by kernel_rfl) (by kernel_rfl) ?_
  refine wR 1 100 ?_
  refine bB hv29 fun e23 hx36 hv29 => ?_
  refine W.ixD Dk (eSN false) hx36 5 (by kernel_rfl) (by kernel_rfl) ?_
  refine wR 1 100 ?_
  refine bB hv29 fun r24 hx37 hv29 => ?_
  refine W.call0 (AC.gs (mi_IsHole_ok e23 hx37) (by decide)) cok63 rfl (by kernel_rfl) ?_
  refine wR 1 100 ?_
  have hv29 := sI hv29
  subst hv29
  exact fS [] [0, 1, 2, 34]
  ) ?_
 refine bC h (fun hc38 h => ?_) (fun hc38 h => ?_)
 ·refine iT hc38 ?_
  refine bB h fun r26 hx40 h => ?_
  refine CO.cutR (tl 56 [(6, .own 100), (7, V.b false)]) [(100, .vec false 48 5 (r26.map (eSN true)))] mix (by
   refine wR 1 100 ?_
   refine W.call (AC.gs (mi_copyNodes_ok N a0 hx40) (by decide)) cok56 [] [(100, 100)] [100] (show LayOk _ [] from trivial) (by kernel_rfl) (by kernel_rfl) ?_
   refine wR 2 101 ?_
   exact fI
   ) ?_
  refine CO.ret ?_
  have h := sI h
  subst h
  exact eG [(100, 100)] (.inr rfl) (RetV.two rfl (oT (t := 6) (r := .own 100)) (oT (t := 7) (r := V.b false)))
 refine iF hc38 ?_
 refine CO.skip ?_
 refine bB h fun r29 hx43 h => ?_
 refine bB h fun r30 hx44 h => ?_
 refine CO.cutR (tl 56 [(0, .sl false false (a0.map (eSN false))), (8, .loc 100 0), (9, .loc 101 0), (10, .loc 102 0)]) [(102, .cells 4 [V.b true]), (101, .cells 68 [V.i r30.kind, V.i r30.op, V.s r30.text, V.s r30.other, .sl false false (r30.kids.map eST)]), (100, .cells 68 [V.i r29.kind, V.i r29.op, V.s r29.text, V.s r29.other, .sl false false (r29.kids.map eST)])] mix (by
  refine wR 1 100 ?_
  refine W.call0 (AC.gs (mi_rootOf_ok N a1 hx43) (by decide)) cok45 rfl (by kernel_rfl) ?_
  refine wR 1 100 ?_
  refine W.call0 (AC.gs (mi_rootOf_ok N a2 hx44) (by decide)) cok45 rfl (by kernel_rfl) ?_
  refine wR 6 100 ?_
  exact fI
  ) ?_
 refine bB h fun r32 hx46 h => ?_
 refine CO.cutR (tl 56 [(0, .sl false false (a0.map (eSN false))), (10, .loc 102 0), (11, .own 103), (12, V.b r32.2.1)]) [(103, .vec false 48 5 (r32.1.map (eSN true))), (102, .cells 4 [V.b r32.2.2])] mix (by
  refine wR 2 103 ?_
  refine W.call (mi_edit_ok N a0 0 true r29.kind r29.op r29.text r29.other r29.kids r30.kind r30.op r30.text r30.other r30.kids hx46) cok57 [(102, 0), (100, 1), (101, 2)] [(0, 102), (1, 100), (2, 101), (100, 103)] [103] (show LayOk _ [] from trivial) (by kernel_rfl) (by kernel_rfl) ?_
  refine wR 5 104 ?_
  exact fI
  ) ?_
 refine CO.seq' ?_
 refine bB h fun y36 hv54 h => ?_
 refine CO.cutR (tl 56 [(0, .sl false false (a0.map (eSN false))), (11, .own 100), (52, V.b y36)]) [(100, .vec false 48 5 (r32.1.map (eSN true)))] mix (by
  refine wR 3 104 ?_
  refine bC hv54 (fun hc55 hv54 => ?_) (fun hc55 hv54 => ?_)
  ·refine wI 49 hc55 ?_
   refine wR 3 104 ?_
   have hv54 := sI hv54
   subst hv54
   exact fS [(103, 100)] [0, 11, 52]
  refine wI 49 hc55 ?_
  refine wR 3 104 ?_
  have hv54 := sI hv54
  subst hv54
  exact fS [(103, 100)] [0, 11, 52]
  ) ?_
 refine bC h (fun hc56 h => ?_) (fun hc56 h => ?_)
 ·refine iT hc56 ?_
  refine bB h fun r38 hx58 h => ?_
  refine CO.cutR (tl 56 [(6, .own 104), (7, V.b false)]) [(104, .vec false 48 5 (r38.map (eSN true)))] mix (by
   refine wR 1 104 ?_
   refine W.call (AC.gs (mi_copyNodes_ok N a0 hx58) (by decide)) cok56 [] [(100, 104)] [104] (show LayOk _ [] from trivial) (by kernel_rfl) (by kernel_rfl) ?_
   refine wR 2 105 ?_
   exact fI
   ) ?_
  refine CO.ret ?_
  have h := sI h
  subst h
  exact eG [(104, 100)] (.inr rfl) (RetV.two rfl (oT (t := 6) (r := .own 104)) (oT (t := 7) (r := V.b false)))
 refine iF hc56 ?_
 refine CO.skip ?_
 refine cU 3 104 (tl 56 [(6, .own 100), (7, V.b true)]) [(100, .vec false 48 5 (r32.1.map (eSN true)))] ?_
 refine CO.ret ?_
 have h := sI h
 subst h
 exact eG [(100, 100)] (.inr rfl) (RetV.two rfl (oT (t := 6) (r := .own 100)) (oT (t := 7) (r := V.b true)))

theorem ml_eqIntS_ok (N : Nat) (a0 : List Int) (a1 : List Int) {r : Bool} (h : ml_eqIntS N a0 a1 = some r) :
    AC Tryz.prog (GS []) 17 [.sl false false (a0.map encI), .sl false false (a1.map encI)] [] (V.b r) [] := by
 rw [ml_eqIntS] at h
 refine AC.enter Tryz.func17 rfl ?_
 refine cU 1 100 (tl 26 [(0, .sl false false (a0.map encI)), (1, .sl false false (a1.map encI))]) [] ?_
 refine CO.seq' ?_
 refine CO.cutR (tl 26 [(0, .sl false false (a0.map encI)), (1, .sl false false (a1.map encI)), (10, V.b ((a0.length : Int) != (a1.length : Int)))]) [] mix (by
  refine wR 1 100 ?_
  refine W.len Dk encI a0 [] (by kernel_rfl) (by kernel_rfl) ?_
  refine wR 1 100 ?_
  refine W.len Dk encI a1 [] (by kernel_rfl) (by kernel_rfl) ?_
  refine wR 1 100 ?_
  exact fI
  ) ?_
 refine bC h (fun hc2 h => ?_) (fun hc2 h => ?_)
 ·refine iT hc2 ?_
  refine cU 1 100 (tl 26 [(4, V.b false)]) [] ?_
  refine CO.ret ?_
  have h := sI h
  subst h
  exact eG [] (.inr rfl) (RetV.one rfl (oT (t := 4) (r := V.b false)))
 refine iF hc2 ?_
 refine CO.skip ?_
 refine CO.seq' ?_
 refine cU 1 100 (tl 26 [(0, .sl false false (a0.map encI)), (1, .sl false false (a1.map encI)), (5, V.i 0)]) [] ?_
 refine CO.block' ?_
 refine CO.loopJ (fun (⟨a0, a1, y35⟩ : ((List Int) × (List Int) × Int)) => ⟨tl 26 [(0, .sl false false (a0.map encI)), (1, .sl false false (a1.map encI)), (5, V.i y35)], []⟩) (fun n i => ml_eqIntS_l1 N n i = some r) (n0 := N) (i0 := (a0, a1, 0)) (wS [] [0, 1, 5]) h (fun i h => by simp [ml_eqIntS_l1] at h) ?_
 rintro n1 ⟨a0, a1, y35⟩ h65 ih66
 rw [ml_eqIntS_l1] at h65
 refine CO.seq' ?_
 refine CO.cutR (tl 26 [(0, .sl false false (a0.map encI)), (1, .sl false false (a1.map encI)), (5, V.i y35), (14, V.b (decide (y35 < (a0.length : Int))))]) [] mix (by
  refine wR 2 160 ?_
  refine W.len Dk encI a0 [] (by kernel_rfl) (by kernel_rfl) ?_
  refine wR 1 160 ?_
  exact fI
  ) ?_
 refine bC h65 (fun hc68 h65 => ?_) (fun hc68 h65 => ?_)
 ·refine iT hc68 ?_
  refine CO.skip ?_
  refine CO.seq' ?_
  refine CO.block' ?_
  refine bB h65 fun e51 hx76 h65 => ?_
  refine bB h65 fun e52 hx77 h65 => ?_
  refine CO.cutR (tl 26 [(0, .sl false false (a0.map encI)), (1, .sl false false (a1.map encI)), (5, V.i y35), (25, V.b (e51 != e52))]) [] mix (by
   refine wR 2 160 ?_
   refine W.ixD Dk encI hx76 1 (by kernel_rfl) (by kernel_rfl) ?_
   refine wR 3 160 ?_
   refine W.ixD Dk encI hx77 1 (by kernel_rfl) (by kernel_rfl) ?_
   refine wR 2 160 ?_
   exact fI
   ) ?_
  refine bC h65 (fun hc78 h65 => ?_) (fun hc78 h65 => ?_)
  ·refine iT hc78 ?_
   refine cU 1 160 (tl 26 [(4, V.b false)]) [] ?_
   refine CO.ret ?_
   have h65 := sI h65
   subst h65
   exact eG [] (.inr rfl) (RetV.one rfl (oT (t := 4) (r := V.b false)))
  refine iF hc78 ?_
  refine CO.skip ?_
  refine cE 3 160 (tl 26 [(0, .sl false false (a0.map encI)), (1, .sl false false (a1.map encI)), (5, V.i (IntKind.wrap .i64 (y35 + 1)))]) [] (fun st hw => ?_)
  exact ih66 (a0, a1, (IntKind.wrap .i64 (y35 + 1))) h65 _ (hw.trans (wS [] [0, 1, 5]))
 refine iF hc68 ?_
 refine CO.exit ?_
 refine cU 1 160 (tl 26 [(4, V.b true)]) [] ?_
 refine CO.ret ?_
 have h65 := sI h65
 subst h65
 exact eG [] (.inr rfl) (RetV.one rfl (oT (t := 4) (r := V.b true)))

theorem ml_eqNode_ok (N : Nat) (a0 : SNode) (a1 : SNode) {r : Bool} (h : ml_eqNode N a0 a1 = some r) :
    AC Tryz.prog (GS []) 38 [.agg [V.i a0.Kind, V.i a0.Op, V.s a0.Text, V.s a0.Other, .sl false false (a0.Kids.map encI)], .agg [V.i a1.Kind, V.i a1.Op, V.s a1.Text, V.s a1.Other, .sl false false (a1.Kids.map encI)]] [] (V.b r) [] := by
 rw [ml_eqNode] at h
 refine AC.enter Tryz.func38 rfl ?_
 refine cU 3 100 (tl 31 [(2, .loc 100 0), (3, .loc 101 0)]) [(101, .cells 48 [V.i a1.Kind, V.i a1.Op, V.s a1.Text, V.s a1.Other, .sl false false (a1.Kids.map encI)]), (100, .cells 48 [V.i a0.Kind, V.i a0.Op, V.s a0.Text, V.s a0.Other, .sl false false (a0.Kids.map encI)])] ?_
 refine CO.seq' ?_
 refine cU 5 102 (tl 31 [(2, .loc 100 0), (3, .loc 101 0), (9, V.b (a0.Kind != a1.Kind))]) [(101, .cells 48 [V.i a1.Kind, V.i a1.Op, V.s a1.Text, V.s a1.Other, .sl false false (a1.Kids.map encI)]), (100, .cells 48 [V.i a0.Kind, V.i a0.Op, V.s a0.Text, V.s a0.Other, .sl false false (a0.Kids.map encI)])] ?_
 refine bC h (fun hc2 h => ?_) (fun hc2 h => ?_)
 ·refine iT hc2 ?_
  refine cU 1 102 (tl 31 [(4, V.b false)]) [] ?_
  refine CO.ret ?_
  have h := sI h
  subst h
  exact eG [] (.inr rfl) (RetV.one rfl (oT (t := 4) (r := V.b false)))
 refine iF hc2 ?_
 refine CO.skip ?_
 refine CO.seq' ?_
 refine cU 5 102 (tl 31 [(2, .loc 100 0), (3, .loc 101 0), (14, V.b (a0.Op != a1.Op))]) [(101, .cells 48 [V.i a1.Kind, V.i a1.Op, V.s a1.Text, V.s a1.Other, .sl false false (a1.Kids.map encI)]), (100, .cells 48 [V.i a0.Kind, V.i a0.Op, V.s a0.Text, V.s a0.Other, .sl false false (a0.Kids.map encI)])] ?_
 refine bC h (fun hc4 h => ?_) (fun hc4 h => ?_)
 ·refine iT hc4 ?_
  refine cU 1 102 (tl 31 [(4, V.b false)]) [] ?_
  refine CO.ret ?_
  have h := sI h
  subst h
  exact eG [] (.inr rfl) (RetV.one rfl (oT (t := 4) (r := V.b false)))
 refine iF hc4 ?_
 refine CO.skip ?_
 refine CO.seq' ?_
 refine cU 5 102 (tl 31 [(2, .loc 100 0), (3, .loc 101 0), (19, V.b (!(a0.Text == a1.Text)))]) [(101, .cells 48 [V.i a1.Kind, V.i a1.Op, V.s a1.Text, V.s a1.Other, .sl false false (a1.Kids.map encI)]), (100, .cells 48 [V.i a0.Kind, V.i a0.Op, V.s a0.Text, V.s a0.Other, .sl false false (a0.Kids.map encI)])] ?_
 refine bC h (fun hc6 h => ?_) (fun hc6 h => ?_)
 ·refine iT hc6 ?_
  refine cU 1 102 (tl 31 [(4, V.b false)]) [] ?_
  refine CO.ret ?_
  have h := sI h
  subst h
  exact eG [] (.inr rfl) (RetV.one rfl (oT (t := 4) (r := V.b false)))
 refine iF hc6 ?_
 refine CO.skip ?_
 refine CO.seq' ?_
 refine cU 5 102 (tl 31 [(2, .loc 100 0), (3, .loc 101 0), (24, V.b (!(a0.Other == a1.Other)))]) [(101, .cells 48 [V.i a1.Kind, V.i a1.Op, V.s a1.Text, V.s a1.Other, .sl false false (a1.Kids.map encI)]), (100, .cells 48 [V.i a0.Kind, V.i a0.Op, V.s a0.Text, V.s a0.Other, .sl false false (a0.Kids.map encI)])] ?_
 refine bC h (fun hc8 h => ?_) (fun hc8 h => ?_)
 ·refine iT hc8 ?_
  refine cU 1 102 (tl 31 [(4, V.b false)]) [] ?_
  refine CO.ret ?_
  have h := sI h
  subst h
  exact eG [] (.inr rfl) (RetV.one rfl (oT (t := 4) (r := V.b false)))
 refine iF hc8 ?_
 refine CO.skip ?_
 refine CO.seq' ?_
 refine bB h fun r4 hx13 h => ?_
 refine CO.cutR (tl 31 [(30, V.b (!r4))]) [] mix (by
  refine wR 4 102 ?_
  refine W.call0 (ml_eqIntS_ok N a0.Kids a1.Kids hx13) cok17 rfl (by kernel_rfl) ?_
  refine wR 1 102 ?_
  exact fI
  ) ?_
 refine bC h (fun hc14 h => ?_) (fun hc14 h => ?_)
 ·refine iT hc14 ?_
  refine cU 1 102 (tl 31 [(4, V.b false)]) [] ?_
  refine CO.ret ?_
  have h := sI h
  subst h
  exact eG [] (.inr rfl) (RetV.one rfl (oT (t := 4) (r := V.b false)))
 refine iF hc14 ?_
 refine CO.skip ?_
 refine cU 1 102 (tl 31 [(4, V.b true)]) [] ?_
 refine CO.ret ?_
 have h := sI h
 subst h
 exact eG [] (.inr rfl) (RetV.one rfl (oT (t := 4) (r := V.b true)))

theorem ml_eqNodeS_ok (N : Nat) (a0 : List SNode) (a1 : List SNode) {r : Bool} (h : ml_eqNodeS N a0 a1 = some r) :
    AC Tryz.prog (GS []) 10 [.sl false false (a0.map (eSN false)), .sl false false (a1.map (eSN false))] [] (V.b r) [] := by
 rw [ml_eqNodeS] at h
 refine AC.enter Tryz.func10 rfl ?_
 refine cU 1 100 (tl 27 [(0, .sl false false (a0.map (eSN false))), (1, .sl false false (a1.map (eSN false)))]) [] ?_
 refine CO.seq' ?_
 refine CO.cutR (tl 27 [(0, .sl false false (a0.map (eSN false))), (1, .sl false false (a1.map (eSN false))), (10, V.b ((a0.length : Int) != (a1.length : Int)))]) [] mix (by
  refine wR 1 100 ?_
  refine W.len Dk (eSN false) a0 [] (by kernel_rfl) (by kernel_rfl) ?_
  refine wR 1 100 ?_
  refine W.len Dk (eSN false) a1 [] (by kernel_rfl) (by kernel_rfl) ?_
  refine wR 1 100 ?_
  exact fI
  ) ?_
 refine bC h (fun hc2 h => ?_) (fun hc2 h => ?_)
 ·refine iT hc2 ?_
  refine cU 1 100 (tl 27 [(4, V.b false)]) [] ?_
  refine CO.ret ?_
  have h := sI h
  subst h
  exact eG [] (.inr rfl) (RetV.one rfl (oT (t := 4) (r := V.b false)))
 refine iF hc2 ?_
 refine CO.skip ?_
 refine CO.seq' ?_
 refine cU 1 100 (tl 27 [(0, .sl false false (a0.map (eSN false))), (1, .sl false false (a1.map (eSN false))), (5, V.i 0)]) [] ?_
 refine CO.block' ?_
 refine CO.loopJ (fun (⟨a0, a1, y51⟩ : ((List SNode) × (List SNode) × Int)) => ⟨tl 27 [(0, .sl false false (a0.map (eSN false))), (1, .sl false false (a1.map (eSN false))), (5, V.i y51)], []⟩) (fun n i => ml_eqNodeS_l1 N n i = some r) (n0 := N) (i0 := (a0, a1, 0)) (wS [] [0, 1, 5]) h (fun i h => by simp [ml_eqNodeS_l1] at h) ?_
 rintro n1 ⟨a0, a1, y51⟩ h85 ih86
 rw [ml_eqNodeS_l1] at h85
 refine CO.seq' ?_
 refine CO.cutR (tl 27 [(0, .sl false false (a0.map (eSN false))), (1, .sl false false (a1.map (eSN false))), (5, V.i y51), (14, V.b (decide (y51 < (a0.length : Int))))]) [] mix (by
  refine wR 2 160 ?_
  refine W.len Dk (eSN false) a0 [] (by kernel_rfl) (by kernel_rfl) ?_
  refine wR 1 160 ?_
  exact fI
  ) ?_
 refine bC h85 (fun hc88 h85 => ?_) (fun hc88 h85 => ?_)
 ·refine iT hc88 ?_
  refine CO.skip ?_
  refine CO.seq' ?_
  refine CO.block' ?_
  refine bB h85 fun e74 hx99 h85 => ?_
  refine bB h85 fun e75 hx100 h85 => ?_
  refine bB h85 fun r76 hx101 h85 => ?_
  refine CO.cutR (tl 27 [(0, .sl false false (a0.map (eSN false))), (1, .sl false false (a1.map (eSN false))), (5, V.i y51), (26, V.b (!r76))]) [] mix (by
   refine wR 2 160 ?_
   refine W.ixD Dk (eSN false) hx99 5 (by kernel_rfl) (by kernel_rfl) ?_
   refine wR 3 160 ?_
   refine W.ixD Dk (eSN false) hx100 5 (by kernel_rfl) (by kernel_rfl) ?_
   refine wR 1 160 ?_
   refine W.call0 (ml_eqNode_ok N e74 e75 hx101) cok38 rfl (by kernel_rfl) ?_
   refine wR 1 160 ?_
   exact fI
   ) ?_
  refine bC h85 (fun hc102 h85 => ?_) (fun hc102 h85 => ?_)
  ·refine iT hc102 ?_
   refine cU 1 160 (tl 27 [(4, V.b false)]) [] ?_
   refine CO.ret ?_
   have h85 := sI h85
   subst h85
   exact eG [] (.inr rfl) (RetV.one rfl (oT (t := 4) (r := V.b false)))
  refine iF hc102 ?_
  refine CO.skip ?_
  refine cE 3 160 (tl 27 [(0, .sl false false (a0.map (eSN false))), (1, .sl false false (a1.map (eSN false))), (5, V.i (IntKind.wrap .i64 (y51 + 1)))]) [] (fun st hw => ?_)
  exact ih86 (a0, a1, (IntKind.wrap .i64 (y51 + 1))) h85 _ (hw.trans (wS [] [0, 1, 5]))
 refine iF hc88 ?_
 refine CO.exit ?_
 refine cU 1 160 (tl 27 [(4, V.b true)]) [] ?_
 refine CO.ret ?_
 have h85 := sI h85
 subst h85
 exact eG [] (.inr rfl) (RetV.one rfl (oT (t := 4) (r := V.b true)))

theorem ml_markText_ok (N : Nat) (a0 : Int) {r : (List UInt8)} (h : ml_markText N a0 = some r) :
    AC Tryz.prog (GS []) 39 [V.i a0] [] (V.s r) [] := by
 rw [ml_markText] at h
 refine AC.enter Tryz.func39 rfl ?_
 refine cU 1 100 (tl 20 [(0, V.i a0)]) [] ?_
 refine CO.seq' ?_
 refine cU 2 100 (tl 20 [(0, V.i a0), (5, V.b (decide (a0 ≤ 0)))]) [] ?_
 refine bC h (fun hc2 h => ?_) (fun hc2 h => ?_)
 ·refine iT hc2 ?_
  refine cU 1 100 (tl 20 [(2, V.s [109, 48])]) [] ?_
  refine CO.ret ?_
  have h := sI h
  subst h
  exact eG [] (.inr rfl) (RetV.one rfl (oT (t := 2) (r := V.s [109, 48])))
 refine iF hc2 ?_
 refine CO.skip ?_
 refine cU 1 100 (tl 20 [(0, V.i a0), (3, V.s [])]) [] ?_
 refine CO.seq' ?_
 refine CO.block' ?_
 refine CO.loopJ (fun (⟨y13, y14⟩ : (Int × (List UInt8))) => ⟨tl 20 [(0, V.i y13), (3, V.s y14)], []⟩) (fun n i => ml_markText_l1 N n i = some r) (n0 := N) (i0 := (a0, [])) (wS [] [0, 3]) h (fun i h => by simp [ml_markText_l1] at h) ?_
 rintro n1 ⟨y13, y14⟩ h25 ih26
 rw [ml_markText_l1] at h25
 refine CO.seq' ?_
 refine cU 2 162 (tl 20 [(0, V.i y13), (3, V.s y14), (7, V.b (decide (y13 > 0)))]) [] ?_
 refine bC h25 (fun hc28 h25 => ?_) (fun hc28 h25 => ?_)
 ·refine iT hc28 ?_
  refine CO.skip ?_
  refine CO.block' ?_
  refine bB h25 fun s20 hx30 h25 => ?_
  refine CO.cutR (tl 20 [(0, V.i y13), (3, V.s s20)]) [] mix (by
   refine wR 4 162 ?_
   refine wR 1 162 ?_
   refine W.vecEq 162 (nn := true) (e := 5) (k := 1) (rows := [[.c (.int .u8 (IntKind.wrap .u8 (IntKind.wrap .i64 (48 + (Int.tmod y13 10)))))]]) (rows' := [(bytI (IntKind.wrap .i64 (48 + (Int.tmod y13 10))))].map byteRow) (by kernel_rfl) (by first | (simp only [List.map_cons, List.map_nil, ← bytI_row]; done) | (simp only [List.map_cons, List.map_nil, ← bytI_row]; rfl)) ?_
   refine W.strO Dk ([(bytI (IntKind.wrap .i64 (48 + (Int.tmod y13 10))))] : List UInt8) (a := 162) (by kernel_rfl) ?_
   refine wR 1 163 ?_
   refine W.cat hx30 (by kernel_rfl) ?_
   refine wR 1 163 ?_
   exact fI
   ) ?_
  refine cE 3 163 (tl 20 [(0, V.i (IntKind.wrap .i64 (Int.tdiv y13 10))), (3, V.s s20)]) [] (fun st hw => ?_)
  exact ih26 ((IntKind.wrap .i64 (Int.tdiv y13 10)), s20) h25 _ (hw.trans (wS [] [0, 3]))
 refine iF hc28 ?_
 refine CO.exit ?_
 refine bB h25 fun s22 hx32 h25 => ?_
 refine CO.cutR (tl 20 [(2, V.s s22)]) [] mix (by
  refine wR 1 162 ?_
  refine W.cat hx32 (by kernel_rfl) ?_
  refine wR 1 162 ?_
  exact fI
  ) ?_
 refine CO.ret ?_
 have h25 := sI h25
 subst h25
 exact eG [] (.inr rfl) (RetV.one rfl (oT (t := 2) (r := V.s s22)))

theorem ml_markIntS_ok (e0 : TypeId) (N : Nat) (a1 : Int) (p0 : List Int) {r : (Int × (List Int))} (h : ml_markIntS N a1 p0 = some r) :
    AC Tryz.prog (GS []) 18 [.own 0, V.i a1] [(0, .vec false e0 1 (p0.map encI))] (V.i r.1) [(0, .vec false e0 1 (r.2.map encI))] := by
 rw [ml_markIntS] at h
 refine AC.enter Tryz.func18 rfl ?_
 refine cU 1 100 (tl 19 [(0, .own 0), (1, V.i a1)]) [(0, .vec false e0 1 (p0.map encI))] ?_
 refine CO.seq' ?_
 refine cU 1 100 (tl 19 [(0, .own 0), (1, V.i a1), (5, V.i 0)]) [(0, .vec false e0 1 (p0.map encI))] ?_
 refine CO.block' ?_
 refine CO.loopJ (fun (⟨y39, y40, y41⟩ : (Int × Int × (List Int))) => ⟨tl 19 [(0, .own 0), (1, V.i y39), (5, V.i y40)], [(0, .vec false e0 1 (y41.map encI))]⟩) (fun n i => ml_markIntS_l1 N n i = some r) (n0 := N) (i0 := (a1, 0, p0)) (wS [(0, 0)] [0, 1, 5]) h (fun i h => by simp [ml_markIntS_l1] at h) ?_
 rintro n1 ⟨y39, y40, y41⟩ h53 ih54
 rw [ml_markIntS_l1] at h53
 refine CO.seq' ?_
 refine CO.cutR (tl 19 [(0, .own 0), (1, V.i y39), (5, V.i y40), (9, V.b (decide (y40 < (y41.length : Int))))]) [(0, .vec false e0 1 (y41.map encI))] mix (by
  refine wR 2 160 ?_
  refine W.len Dk encI y41 [0] (by kernel_rfl) (by kernel_rfl) ?_
  refine wR 1 160 ?_
  exact fI
  ) ?_
 refine bC h53 (fun hc56 h53 => ?_) (fun hc56 h53 => ?_)
 ·refine iT hc56 ?_
  refine CO.skip ?_
  refine CO.seq' ?_
  refine CO.block' ?_
  refine bB h53 fun e59 hx63 h53 => ?_
  refine bB h53 fun x60 hu64 h53 => ?_
  refine CO.cutR (tl 19 [(0, .own 0), (1, V.i y39), (5, V.i y40)]) [(0, .vec false e0 1 (x60.map encI))] mix (by
   refine wR 3 160 ?_
   refine W.ixO Dk encI hx63 0 1 (by kernel_rfl) ?_
   refine W.stO Dk encI (x' := y39) hx63 hu64 (j := 0) (nn := false) (ety := e0) (sz := 1) (b := 0) (ys := [V.i y39]) (C := []) (R := []) (by kernel_rfl) (by kernel_rfl) ?_
   exact fI
   ) ?_
  refine cE 3 160 (tl 19 [(0, .own 0), (1, V.i (IntKind.wrap .i64 (y39 + 1))), (5, V.i y40)]) [(0, .vec false e0 1 (x60.map encI))] (fun st hw => ?_)
  refine CO.weak hw ?_
  refine cE 3 160 (tl 19 [(0, .own 0), (1, V.i (IntKind.wrap .i64 (y39 + 1))), (5, V.i (IntKind.wrap .i64 (y40 + 1)))]) [(0, .vec false e0 1 (x60.map encI))] (fun st hw => ?_)
  exact ih54 ((IntKind.wrap .i64 (y39 + 1)), (IntKind.wrap .i64 (y40 + 1)), x60) h53 _ (hw.trans (wS [(0, 0)] [0, 1, 5]))
 refine iF hc56 ?_
 refine CO.exit ?_
 refine cU 2 160 (tl 19 [(4, V.i y39)]) [(0, .vec false e0 1 (y41.map encI))] ?_
 refine CO.ret ?_
 have h53 := sI h53
 subst h53
 exact eG [(0, 0)] (.inr rfl) (RetV.one rfl (oT (t := 4) (r := V.i y39)))

theorem ml_markIntS_v2_ok (N : Nat) (a1 : Int) {r : Int} (h : ml_markIntS_v2 N a1 = some r) :
    AC Tryz.prog (GS []) 18 [.sl false false ([].map encI), V.i a1] [] (V.i r) [] := by
 rw [ml_markIntS_v2] at h
 refine AC.enter Tryz.func18 rfl ?_
 refine cU 1 100 (tl 19 [(0, .sl false false ([].map encI)), (1, V.i a1)]) [] ?_
 refine CO.seq' ?_
 refine cU 1 100 (tl 19 [(0, .sl false false ([].map encI)), (1, V.i a1), (5, V.i 0)]) [] ?_
 refine CO.block' ?_
 refine CO.loopJ (fun (a1 : Int) => ⟨tl 19 [(0, .sl false false ([].map encI)), (1, V.i a1), (5, V.i 0)], []⟩) (fun n i => ml_markIntS_v2_l1 N n i = some r) (n0 := N) (i0 := a1) (wS [] [0, 1, 5]) h (fun i h => by simp [ml_markIntS_v2_l1] at h) ?_
 rintro n1 a1 h3 ih4
 rw [ml_markIntS_v2_l1] at h3
 refine CO.seq' ?_
 refine CO.cutR (tl 19 [(0, .sl false false ([].map encI)), (1, V.i a1), (5, V.i 0), (9, V.b false)]) [] mix (by
  refine wR 2 120 ?_
  refine W.len Dk encI [] [] (by kernel_rfl) (by kernel_rfl) ?_
  refine wR 1 120 ?_
  exact fI
  ) ?_
 refine CO.ifF (c := false) rfl (by kernel_rfl) ?_
 refine CO.exit ?_
 refine cU 2 120 (tl 19 [(4, V.i a1)]) [] ?_
 refine CO.ret ?_
 have h3 := sI h3
 subst h3
 exact eG [] (.inr rfl) (RetV.one rfl (oT (t := 4) (r := V.i a1)))

theorem ml_markIntS_nil (N : Nat) (k : Int) (l : List Int) {r : (Int × (List Int))} (h : ml_markIntS N k l = some r) (hl : l = []) :
    r.2.map encI = [] ∧ AC Tryz.prog (GS []) 18 [.sl false false [], V.i k] [] (V.i r.1) [] := by
  subst hl
  have h2 : r.2 = [] ∧ ml_markIntS_v2 N k = some r.1 := by
    cases N with
    | zero => simp [ml_markIntS_l1, ml_markIntS] at h
    | succ N =>
      simp [ml_markIntS_l1, ml_markIntS] at h
      subst h
      simp [ml_markIntS_v2_l1, ml_markIntS_v2]
  exact ⟨by rw [h2.1]; rfl, ml_markIntS_v2_ok N k h2.2⟩

theorem ml_markNodeS_ok (e0 : TypeId) (N : Nat) (a1 : Int) (p0 : List SNode) {r : (Int × (List SNode))} (h : ml_markNodeS N a1 p0 = some r) :
    AC Tryz.prog (GS []) 11 [.own 0, V.i a1] [(0, .vec false e0 5 (p0.map (eSN true)))] (V.i r.1) [(0, .vec false e0 5 (r.2.map (eSN true)))] := by
 rw [ml_markNodeS] at h
 refine AC.enter Tryz.func11 rfl ?_
 refine cU 1 100 (tl 50 [(0, .own 0), (1, V.i a1)]) [(0, .vec false e0 5 (p0.map (eSN true)))] ?_
 refine CO.seq' ?_
 refine cU 1 100 (tl 50 [(0, .own 0), (1, V.i a1), (5, V.i 0)]) [(0, .vec false e0 5 (p0.map (eSN true)))] ?_
 refine CO.block' ?_
 refine CO.loopJ (fun (⟨y191, y192, y193⟩ : (Int × Int × (List SNode))) => ⟨tl 50 [(0, .own 0), (1, V.i y191), (5, V.i y192)], [(0, .vec false e0 5 (y193.map (eSN true)))]⟩) (fun n i => ml_markNodeS_l1 N n i = some r) (n0 := N) (i0 := (a1, 0, p0)) (wS [(0, 0)] [0, 1, 5]) h (fun i h => by simp [ml_markNodeS_l1] at h) ?_
 rintro n1 ⟨y191, y192, y193⟩ h243 ih244
 rw [ml_markNodeS_l1] at h243
 refine CO.seq' ?_
 refine CO.cutR (tl 50 [(0, .own 0), (1, V.i y191), (5, V.i y192), (9, V.b (decide (y192 < (y193.length : Int))))]) [(0, .vec false e0 5 (y193.map (eSN true)))] mix (by
  refine wR 2 160 ?_
  refine W.len Dk (eSN true) y193 [0] (by kernel_rfl) (by kernel_rfl) ?_
  refine wR 1 160 ?_
  exact fI
  ) ?_
 refine bC h243 (fun hc246 h243 => ?_) (fun hc246 h243 => ?_)
 ·refine iT hc246 ?_
  refine CO.skip ?_
  refine CO.seq' ?_
  refine CO.block' ?_
  refine bB h243 fun e268 hx272 h243 => ?_
  refine bB h243 fun x269 hu273 h243 => ?_
  refine CO.cutR (tl 50 [(0, .own 0), (1, V.i y191), (5, V.i y192)]) [(0, .vec false e0 5 (x269.map (eSN true)))] mix (by
   refine wR 3 160 ?_
   refine W.ixO Dk (eSN true) hx272 0 5 (by kernel_rfl) ?_
   refine wR 1 160 ?_
   refine W.stO Dk (eSN true) (x' := (⟨y191, e268.Op, e268.Text, e268.Other, e268.Kids⟩ : SNode)) hx272 hu273 (j := 0) (nn := false) (ety := e0) (sz := 5) (b := 0) (ys := [V.i y191]) (C := []) (R := []) (by kernel_rfl) (by kernel_rfl) ?_
   exact fI
   ) ?_
  refine cU 3 160 (tl 50 [(0, .own 0), (1, V.i (IntKind.wrap .i64 (y191 + 1))), (5, V.i y192)]) [(0, .vec false e0 5 (x269.map (eSN true)))] ?_
  refine bB h243 fun e272 hx276 h243 => ?_
  refine bB h243 fun x273 hu277 h243 => ?_
  refine CO.cutR (tl 50 [(0, .own 0), (1, V.i (IntKind.wrap .i64 (y191 + 1))), (5, V.i y192)]) [(0, .vec false e0 5 (x273.map (eSN true)))] mix (by
   refine wR 3 160 ?_
   refine W.ixO Dk (eSN true) hx276 0 5 (by kernel_rfl) ?_
   refine wR 1 160 ?_
   refine W.stO Dk (eSN true) (x' := (⟨e272.Kind, (IntKind.wrap .i64 (y191 + 1)), e272.Text, e272.Other, e272.Kids⟩ : SNode)) hx276 hu277 (j := 0) (nn := false) (ety := e0) (sz := 5) (b := 1) (ys := [V.i (IntKind.wrap .i64 (y191 + 1))]) (C := []) (R := []) (by kernel_rfl) (by kernel_rfl) ?_
   exact fI
   ) ?_
  refine cU 3 160 (tl 50 [(0, .own 0), (1, V.i (IntKind.wrap .i64 ((IntKind.wrap .i64 (y191 + 1)) + 1))), (5, V.i y192)]) [(0, .vec false e0 5 (x273.map (eSN true)))] ?_
  refine bB h243 fun r277 hx281 h243 => ?_
  refine bB h243 fun e278 hx282 h243 => ?_
  refine bB h243 fun x279 hu283 h243 => ?_
  refine CO.cutR (tl 50 [(0, .own 0), (1, V.i (IntKind.wrap .i64 ((IntKind.wrap .i64 (y191 + 1)) + 1))), (5, V.i y192)]) [(0, .vec false e0 5 (x279.map (eSN true)))] mix (by
   refine wR 3 160 ?_
   refine W.call0 (ml_markText_ok N (IntKind.wrap .i64 ((IntKind.wrap .i64 (y191 + 1)) + 1)) hx281) cok39 rfl (by kernel_rfl) ?_
   refine W.ixO Dk (eSN true) hx282 0 5 (by kernel_rfl) ?_
   refine wR 1 160 ?_
   refine W.stO Dk (eSN true) (x' := (⟨e278.Kind, e278.Op, r277, e278.Other, e278.Kids⟩ : SNode)) hx282 hu283 (j := 0) (nn := false) (ety := e0) (sz := 5) (b := 2) (ys := [V.s r277]) (C := []) (R := []) (by kernel_rfl) (by kernel_rfl) ?_
   exact fI
   ) ?_
  refine cU 3 160 (tl 50 [(0, .own 0), (1, V.i (IntKind.wrap .i64 ((IntKind.wrap .i64 ((IntKind.wrap .i64 (y191 + 1)) + 1)) + 1))), (5, V.i y192)]) [(0, .vec false e0 5 (x279.map (eSN true)))] ?_
  refine bB h243 fun r283 hx287 h243 => ?_
  refine bB h243 fun e284 hx288 h243 => ?_
  refine bB h243 fun x285 hu289 h243 => ?_
  refine CO.cutR (tl 50 [(0, .own 0), (1, V.i (IntKind.wrap .i64 ((IntKind.wrap .i64 ((IntKind.wrap .i64 (y191 + 1)) + 1)) + 1))), (5, V.i y192)]) [(0, .vec false e0 5 (x285.map (eSN true)))] mix (by
   refine wR 3 160 ?_
   refine W.call0 (ml_markText_ok N (IntKind.wrap .i64 ((IntKind.wrap .i64 ((IntKind.wrap .i64 (y191 + 1)) + 1)) + 1)) hx287) cok39 rfl (by kernel_rfl) ?_
   refine W.ixO Dk (eSN true) hx288 0 5 (by kernel_rfl) ?_
   refine wR 1 160 ?_
   refine W.stO Dk (eSN true) (x' := (⟨e284.Kind, e284.Op, e284.Text, r283, e284.Kids⟩ : SNode)) hx288 hu289 (j := 0) (nn := false) (ety := e0) (sz := 5) (b := 3) (ys := [V.s r283]) (C := []) (R := []) (by kernel_rfl) (by kernel_rfl) ?_
   exact fI
   ) ?_
  refine cU 3 160 (tl 50 [(0, .own 0), (1, V.i (IntKind.wrap .i64 ((IntKind.wrap .i64 ((IntKind.wrap .i64 ((IntKind.wrap .i64 (y191 + 1)) + 1)) + 1)) + 1))), (5, V.i y192)]) [(0, .vec false e0 5 (x285.map (eSN true)))] ?_
  refine bB h243 fun e286 hx290 h243 => ?_
  refine bB h243 fun r287 hx291 h243 => ?_
  refine bB h243 fun x288 hu292 h243 => ?_
  refine CO.nestEnd Dk 4 (tl 50 [(0, .own 0), (1, V.i (IntKind.wrap .i64 ((IntKind.wrap .i64 ((IntKind.wrap .i64 ((IntKind.wrap .i64 (y191 + 1)) + 1)) + 1)) + 1))), (5, V.i y192), (45, .vp 0 5 y192.toNat 4)]) [(0, .vec false e0 5 (x285.map (eSN true)))] (tl 50 [(0, .own 0), (1, V.i r287.1), (5, V.i y192)]) [(0, .vec false e0 5 (x288.map (eSN true)))] (by kernel_rfl) (by
      refine wR 2 160 ?_
      refine W.ixO Dk (eSN true) hx290 0 5 (by kernel_rfl) ?_
      refine wR 1 160 ?_
      exact W.fin (by decide) (by kernel_rfl) (wS [(0, 0)] [0, 1, 5, 45])
      ) ⟨_, rfl, rfl, rfl⟩ ⟨_, rfl, rfl, rfl⟩ ⟨_, rfl, rfl, rfl⟩ cok18 (by kernel_rfl) (by kernel_rfl) (i := 0) (k := 5) (m := y192.toNat) (b := 4) (u := .int .i64 (IntKind.wrap .i64 ((IntKind.wrap .i64 ((IntKind.wrap .i64 ((IntKind.wrap .i64 (y191 + 1)) + 1)) + 1)) + 1))) (by kernel_rfl) (by kernel_rfl) (nn := false) (nn2 := false) (ety := e0) (eSN true) (x' := (⟨e286.Kind, e286.Op, e286.Text, e286.Other, r287.2⟩ : SNode)) hx290 hu292 rfl (by kernel_rfl) (srows := e286.Kids.map encI) (srows' := r287.2.map encI) (by kernel_rfl) (by kernel_rfl) (u' := .int .i64 r287.1) (k2 := 1) (fun _ e => ml_markIntS_ok e N (IntKind.wrap .i64 ((IntKind.wrap .i64 ((IntKind.wrap .i64 ((IntKind.wrap .i64 (y191 + 1)) + 1)) + 1)) + 1)) e286.Kids hx291) (fun h0 => ml_markIntS_nil N (IntKind.wrap .i64 ((IntKind.wrap .i64 ((IntKind.wrap .i64 ((IntKind.wrap .i64 (y191 + 1)) + 1)) + 1)) + 1)) e286.Kids hx291 (List.map_eq_nil_iff.1 h0)) (fun r hr => by obtain ⟨a, _, rfl⟩ := List.mem_map.1 hr; rfl) (by
      refine wR 1 160 ?_
      exact W.fin (by decide) (by kernel_rfl) (wS [(0, 0)] [0, 1, 5])
   ) (fun st hw => ?_)
  refine CO.weak hw ?_
  refine cE 3 160 (tl 50 [(0, .own 0), (1, V.i r287.1), (5, V.i (IntKind.wrap .i64 (y192 + 1)))]) [(0, .vec false e0 5 (x288.map (eSN true)))] (fun st hw => ?_)
  exact ih244 (r287.1, (IntKind.wrap .i64 (y192 + 1)), x288) h243 _ (hw.trans (wS [(0, 0)] [0, 1, 5]))
 refine iF hc246 ?_
 refine CO.exit ?_
 refine cU 2 160 (tl 50 [(4, V.i y191)]) [(0, .vec false e0 5 (y193.map (eSN true)))] ?_
 refine CO.ret ?_
 have h243 := sI h243
 subst h243
 exact eG [(0, 0)] (.inr rfl) (RetV.one rfl (oT (t := 4) (r := V.i y191)))

theorem ml_heldIntS_ok (N : Nat) (a0 : List Int) (a1 : Int) {r : Int} (h : ml_heldIntS N a0 a1 = some r) :
    AC Tryz.prog (GS []) 19 [.sl false false (a0.map encI), V.i a1] [] (V.i r) [] := by
 rw [ml_heldIntS] at h
 refine AC.enter Tryz.func19 rfl ?_
 refine cU 1 100 (tl 21 [(0, .sl false false (a0.map encI)), (1, V.i a1)]) [] ?_
 refine CO.seq' ?_
 refine cU 1 100 (tl 21 [(0, .sl false false (a0.map encI)), (1, V.i a1), (5, V.i 0)]) [] ?_
 refine CO.block' ?_
 refine CO.loopJ (fun (⟨a0, y37, y38⟩ : ((List Int) × Int × Int)) => ⟨tl 21 [(0, .sl false false (a0.map encI)), (1, V.i y37), (5, V.i y38)], []⟩) (fun n i => ml_heldIntS_l1 N n i = some r) (n0 := N) (i0 := (a0, a1, 0)) (wS [] [0, 1, 5]) h (fun i h => by simp [ml_heldIntS_l1] at h) ?_
 rintro n1 ⟨a0, y37, y38⟩ h73 ih74
 rw [ml_heldIntS_l1] at h73
 refine CO.seq' ?_
 refine CO.cutR (tl 21 [(0, .sl false false (a0.map encI)), (1, V.i y37), (5, V.i y38), (9, V.b (decide (y38 < (a0.length : Int))))]) [] mix (by
  refine wR 2 160 ?_
  refine W.len Dk encI a0 [] (by kernel_rfl) (by kernel_rfl) ?_
  refine wR 1 160 ?_
  exact fI
  ) ?_
 refine bC h73 (fun hc76 h73 => ?_) (fun hc76 h73 => ?_)
 ·refine iT hc76 ?_
  refine CO.skip ?_
  refine CO.seq' ?_
  refine CO.block' ?_
  refine CO.seq' ?_
  refine bB h73 fun e56 hx87 h73 => ?_
  refine CO.cutR (tl 21 [(0, .sl false false (a0.map encI)), (1, V.i y37), (5, V.i y38), (17, V.b (e56 != y37))]) [] mix (by
   refine wR 2 160 ?_
   refine W.ixD Dk encI hx87 1 (by kernel_rfl) (by kernel_rfl) ?_
   refine wR 3 160 ?_
   exact fI
   ) ?_
  refine bC h73 (fun hc88 h73 => ?_) (fun hc88 h73 => ?_)
  ·refine iT hc88 ?_
   refine cU 1 160 (tl 21 [(4, V.i (-1))]) [] ?_
   refine CO.ret ?_
   have h73 := sI h73
   subst h73
   exact eG [] (.inr rfl) (RetV.one rfl (oT (t := 4) (r := V.i (-1))))
  refine iF hc88 ?_
  refine CO.skip ?_
  refine cE 3 160 (tl 21 [(0, .sl false false (a0.map encI)), (1, V.i (IntKind.wrap .i64 (y37 + 1))), (5, V.i y38)]) [] (fun st hw => ?_)
  refine CO.weak hw ?_
  refine cE 3 160 (tl 21 [(0, .sl false false (a0.map encI)), (1, V.i (IntKind.wrap .i64 (y37 + 1))), (5, V.i (IntKind.wrap .i64 (y38 + 1)))]) [] (fun st hw => ?_)
  exact ih74 (a0, (IntKind.wrap .i64 (y37 + 1)), (IntKind.wrap .i64 (y38 + 1))) h73 _ (hw.trans (wS [] [0, 1, 5]))
 refine iF hc76 ?_
 refine CO.exit ?_
 refine cU 2 160 (tl 21 [(4, V.i y37)]) [] ?_
 refine CO.ret ?_
 have h73 := sI h73
 subst h73
 exact eG [] (.inr rfl) (RetV.one rfl (oT (t := 4) (r := V.i y37)))

theorem ml_heldNodeS_ok (N : Nat) (a0 : List SNode) (a1 : Int) {r : Int} (h : ml_heldNodeS N a0 a1 = some r) :
    AC Tryz.prog (GS []) 12 [.sl false false (a0.map (eSN false)), V.i a1] [] (V.i r) [] := by
 rw [ml_heldNodeS] at h
 refine AC.enter Tryz.func12 rfl ?_
 refine cU 1 100 (tl 60 [(0, .sl false false (a0.map (eSN false))), (1, V.i a1)]) [] ?_
 refine CO.seq' ?_
 refine cU 1 100 (tl 60 [(0, .sl false false (a0.map (eSN false))), (1, V.i a1), (5, V.i 0)]) [] ?_
 refine CO.block' ?_
 refine CO.loopJ (fun (⟨a0, y229, y230⟩ : ((List SNode) × Int × Int)) => ⟨tl 60 [(0, .sl false false (a0.map (eSN false))), (1, V.i y229), (5, V.i y230)], []⟩) (fun n i => ml_heldNodeS_l1 N n i = some r) (n0 := N) (i0 := (a0, a1, 0)) (wS [] [0, 1, 5]) h (fun i h => by simp [ml_heldNodeS_l1] at h) ?_
 rintro n1 ⟨a0, y229, y230⟩ h383 ih384
 rw [ml_heldNodeS_l1] at h383
 refine CO.seq' ?_
 refine CO.cutR (tl 60 [(0, .sl false false (a0.map (eSN false))), (1, V.i y229), (5, V.i y230), (9, V.b (decide (y230 < (a0.length : Int))))]) [] mix (by
  refine wR 2 160 ?_
  refine W.len Dk (eSN false) a0 [] (by kernel_rfl) (by kernel_rfl) ?_
  refine wR 1 160 ?_
  exact fI
  ) ?_
 refine bC h383 (fun hc386 h383 => ?_) (fun hc386 h383 => ?_)
 ·refine iT hc386 ?_
  refine CO.skip ?_
  refine CO.seq' ?_
  refine CO.block' ?_
  refine CO.seq' ?_
  refine bB h383 fun e320 hx428 h383 => ?_
  refine CO.cutR (tl 60 [(0, .sl false false (a0.map (eSN false))), (1, V.i y229), (5, V.i y230), (18, V.b (e320.Kind != y229))]) [] mix (by
   refine wR 2 160 ?_
   refine W.ixD Dk (eSN false) hx428 5 (by kernel_rfl) (by kernel_rfl) ?_
   refine wR 4 160 ?_
   exact fI
   ) ?_
  refine bC h383 (fun hc429 h383 => ?_) (fun hc429 h383 => ?_)
  ·refine iT hc429 ?_
   refine cU 1 160 (tl 60 [(4, V.i (-1))]) [] ?_
   refine CO.ret ?_
   have h383 := sI h383
   subst h383
   exact eG [] (.inr rfl) (RetV.one rfl (oT (t := 4) (r := V.i (-1))))
  refine iF hc429 ?_
  refine CO.skip ?_
  refine cU 3 160 (tl 60 [(0, .sl false false (a0.map (eSN false))), (1, V.i (IntKind.wrap .i64 (y229 + 1))), (5, V.i y230)]) [] ?_
  refine CO.seq' ?_
  refine bB h383 fun e324 hx434 h383 => ?_
  refine CO.cutR (tl 60 [(0, .sl false false (a0.map (eSN false))), (1, V.i (IntKind.wrap .i64 (y229 + 1))), (5, V.i y230), (27, V.b (e324.Op != (IntKind.wrap .i64 (y229 + 1))))]) [] mix (by
   refine wR 2 160 ?_
   refine W.ixD Dk (eSN false) hx434 5 (by kernel_rfl) (by kernel_rfl) ?_
   refine wR 4 160 ?_
   exact fI
   ) ?_
  refine bC h383 (fun hc435 h383 => ?_) (fun hc435 h383 => ?_)
  ·refine iT hc435 ?_
   refine cU 1 160 (tl 60 [(4, V.i (-1))]) [] ?_
   refine CO.ret ?_
   have h383 := sI h383
   subst h383
   exact eG [] (.inr rfl) (RetV.one rfl (oT (t := 4) (r := V.i (-1))))
  refine iF hc435 ?_
  refine CO.skip ?_
  refine cU 3 160 (tl 60 [(0, .sl false false (a0.map (eSN false))), (1, V.i (IntKind.wrap .i64 ((IntKind.wrap .i64 (y229 + 1)) + 1))), (5, V.i y230)]) [] ?_
  refine CO.seq' ?_
  refine bB h383 fun e331 hx443 h383 => ?_
  refine bB h383 fun r332 hx444 h383 => ?_
  refine CO.cutR (tl 60 [(0, .sl false false (a0.map (eSN false))), (1, V.i (IntKind.wrap .i64 ((IntKind.wrap .i64 (y229 + 1)) + 1))), (5, V.i y230), (37, V.b (!(e331.Text == r332)))]) [] mix (by
   refine wR 2 160 ?_
   refine W.ixD Dk (eSN false) hx443 5 (by kernel_rfl) (by kernel_rfl) ?_
   refine wR 3 160 ?_
   refine W.call0 (ml_markText_ok N (IntKind.wrap .i64 ((IntKind.wrap .i64 (y229 + 1)) + 1)) hx444) cok39 rfl (by kernel_rfl) ?_
   refine wR 1 160 ?_
   exact fI
   ) ?_
  refine bC h383 (fun hc445 h383 => ?_) (fun hc445 h383 => ?_)
  ·refine iT hc445 ?_
   refine cU 1 160 (tl 60 [(4, V.i (-1))]) [] ?_
   refine CO.ret ?_
   have h383 := sI h383
   subst h383
   exact eG [] (.inr rfl) (RetV.one rfl (oT (t := 4) (r := V.i (-1))))
  refine iF hc445 ?_
  refine CO.skip ?_
  refine cU 3 160 (tl 60 [(0, .sl false false (a0.map (eSN false))), (1, V.i (IntKind.wrap .i64 ((IntKind.wrap .i64 ((IntKind.wrap .i64 (y229 + 1)) + 1)) + 1))), (5, V.i y230)]) [] ?_
  refine CO.seq' ?_
  refine bB h383 fun e339 hx453 h383 => ?_
  refine bB h383 fun r340 hx454 h383 => ?_
  refine CO.cutR (tl 60 [(0, .sl false false (a0.map (eSN false))), (1, V.i (IntKind.wrap .i64 ((IntKind.wrap .i64 ((IntKind.wrap .i64 (y229 + 1)) + 1)) + 1))), (5, V.i y230), (47, V.b (!(e339.Other == r340)))]) [] mix (by
   refine wR 2 160 ?_
   refine W.ixD Dk (eSN false) hx453 5 (by kernel_rfl) (by kernel_rfl) ?_
   refine wR 3 160 ?_
   refine W.call0 (ml_markText_ok N (IntKind.wrap .i64 ((IntKind.wrap .i64 ((IntKind.wrap .i64 (y229 + 1)) + 1)) + 1)) hx454) cok39 rfl (by kernel_rfl) ?_
   refine wR 1 160 ?_
   exact fI
   ) ?_
  refine bC h383 (fun hc455 h383 => ?_) (fun hc455 h383 => ?_)
  ·refine iT hc455 ?_
   refine cU 1 160 (tl 60 [(4, V.i (-1))]) [] ?_
   refine CO.ret ?_
   have h383 := sI h383
   subst h383
   exact eG [] (.inr rfl) (RetV.one rfl (oT (t := 4) (r := V.i (-1))))
  refine iF hc455 ?_
  refine CO.skip ?_
  refine cU 3 160 (tl 60 [(0, .sl false false (a0.map (eSN false))), (1, V.i (IntKind.wrap .i64 ((IntKind.wrap .i64 ((IntKind.wrap .i64 ((IntKind.wrap .i64 (y229 + 1)) + 1)) + 1)) + 1))), (5, V.i y230)]) [] ?_
  refine bB h383 fun e343 hx458 h383 => ?_
  refine bB h383 fun r344 hx459 h383 => ?_
  refine CO.cutR (tl 60 [(0, .sl false false (a0.map (eSN false))), (1, V.i r344), (5, V.i y230)]) [] mix (by
   refine wR 2 160 ?_
   refine W.ixD Dk (eSN false) hx458 5 (by kernel_rfl) (by kernel_rfl) ?_
   refine wR 3 160 ?_
   refine W.call0 (ml_heldIntS_ok N e343.Kids (IntKind.wrap .i64 ((IntKind.wrap .i64 ((IntKind.wrap .i64 ((IntKind.wrap .i64 (y229 + 1)) + 1)) + 1)) + 1)) hx459) cok19 rfl (by kernel_rfl) ?_
   refine wR 1 160 ?_
   exact fI
   ) ?_
  refine cU 2 160 (tl 60 [(0, .sl false false (a0.map (eSN false))), (1, V.i r344), (5, V.i y230), (58, V.b (decide (r344 < 0)))]) [] ?_
  refine bC h383 (fun hc460 h383 => ?_) (fun hc460 h383 => ?_)
  ·refine iT hc460 ?_
   refine cU 1 160 (tl 60 [(4, V.i (-1))]) [] ?_
   refine CO.ret ?_
   have h383 := sI h383
   subst h383
   exact eG [] (.inr rfl) (RetV.one rfl (oT (t := 4) (r := V.i (-1))))
  refine iF hc460 ?_
  refine CO.skip ?_
  refine cE 3 160 (tl 60 [(0, .sl false false (a0.map (eSN false))), (1, V.i r344), (5, V.i (IntKind.wrap .i64 (y230 + 1)))]) [] (fun st hw => ?_)
  exact ih384 (a0, r344, (IntKind.wrap .i64 (y230 + 1))) h383 _ (hw.trans (wS [] [0, 1, 5]))
 refine iF hc386 ?_
 refine CO.exit ?_
 refine cU 2 160 (tl 60 [(4, V.i y229)]) [] ?_
 refine CO.ret ?_
 have h383 := sI h383
 subst h383
 exact eG [] (.inr rfl) (RetV.one rfl (oT (t := 4) (r := V.i y229)))

theorem ml_FnExactRewrite_ok (N : Nat) (a0 : List SNode) (a1 : List SNode) (a2 : List SNode) {r : Bool} (h : ml_FnExactRewrite N a0 a1 a2 = some r) :
    AC Tryz.prog (GS [0, 1, 2]) 7 [.sl false false (a0.map (eSN false)), .sl false false (a1.map (eSN false)), .sl false false (a2.map (eSN false))] [] (V.b r) [] := by
 rw [ml_FnExactRewrite] at h
 refine AC.enter Tryz.func7 rfl ?_
 refine cU 1 100 (tl 142 [(0, .sl false false (a0.map (eSN false))), (1, .sl false false (a1.map (eSN false))), (2, .sl false false (a2.map (eSN false)))]) [] ?_
 refine cU 1 100 (tl 142 [(0, .sl false false (a0.map (eSN false))), (1, .sl false false (a1.map (eSN false))), (2, .sl false false (a2.map (eSN false))), (7, V.i 1048576)]) [] ?_
 refine bB h fun r2 hx2 h => ?_
 refine CO.cutR (tl 142 [(0, .sl false false (a0.map (eSN false))), (1, .sl false false (a1.map (eSN false))), (2, .sl false false (a2.map (eSN false))), (7, V.i r2)]) [] mix (by
  refine wR 2 100 ?_
  refine W.call0 (AC.gs (ml_szNodeS_ok N a0 1048576 hx2) (by decide)) cok13 rfl (by kernel_rfl) ?_
  refine wR 1 100 ?_
  exact fI
  ) ?_
 refine CO.seq' ?_
 refine cU 2 100 (tl 142 [(0, .sl false false (a0.map (eSN false))), (1, .sl false false (a1.map (eSN false))), (2, .sl false false (a2.map (eSN false))), (7, V.i r2), (24, V.b (decide (r2 < 0)))]) [] ?_
 refine bC h (fun hc4 h => ?_) (fun hc4 h => ?_)
 ·refine iT hc4 ?_
  refine cU 1 100 (tl 142 [(6, V.b true)]) [] ?_
  refine CO.ret ?_
  have h := sI h
  subst h
  exact eG [] (.inr rfl) (RetV.one rfl (oT (t := 6) (r := V.b true)))
 refine iF hc4 ?_
 refine CO.skip ?_
 refine bB h fun r4 hx6 h => ?_
 refine CO.cutR (tl 142 [(0, .sl false false (a0.map (eSN false))), (1, .sl false false (a1.map (eSN false))), (2, .sl false false (a2.map (eSN false))), (7, V.i r4)]) [] mix (by
  refine wR 2 100 ?_
  refine W.call0 (AC.gs (ml_szNodeS_ok N a1 r2 hx6) (by decide)) cok13 rfl (by kernel_rfl) ?_
  refine wR 1 100 ?_
  exact fI
  ) ?_
 refine CO.seq' ?_
 refine cU 2 100 (tl 142 [(0, .sl false false (a0.map (eSN false))), (1, .sl false false (a1.map (eSN false))), (2, .sl false false (a2.map (eSN false))), (7, V.i r4), (29, V.b (decide (r4 < 0)))]) [] ?_
 refine bC h (fun hc8 h => ?_) (fun hc8 h => ?_)
 ·refine iT hc8 ?_
  refine cU 1 100 (tl 142 [(6, V.b true)]) [] ?_
  refine CO.ret ?_
  have h := sI h
  subst h
  exact eG [] (.inr rfl) (RetV.one rfl (oT (t := 6) (r := V.b true)))
 refine iF hc8 ?_
 refine CO.skip ?_
 refine bB h fun r6 hx10 h => ?_
 refine CO.cutR (tl 142 [(0, .sl false false (a0.map (eSN false))), (1, .sl false false (a1.map (eSN false))), (2, .sl false false (a2.map (eSN false))), (7, V.i r6)]) [] mix (by
  refine wR 2 100 ?_
  refine W.call0 (AC.gs (ml_szNodeS_ok N a2 r4 hx10) (by decide)) cok13 rfl (by kernel_rfl) ?_
  refine wR 1 100 ?_
  exact fI
  ) ?_
 refine CO.seq' ?_
 refine cU 2 100 (tl 142 [(0, .sl false false (a0.map (eSN false))), (1, .sl false false (a1.map (eSN false))), (2, .sl false false (a2.map (eSN false))), (34, V.b (decide (r6 < 0)))]) [] ?_
 refine bC h (fun hc12 h => ?_) (fun hc12 h => ?_)
 ·refine iT hc12 ?_
  refine cU 1 100 (tl 142 [(6, V.b true)]) [] ?_
  refine CO.ret ?_
  have h := sI h
  subst h
  exact eG [] (.inr rfl) (RetV.one rfl (oT (t := 6) (r := V.b true)))
 refine iF hc12 ?_
 refine CO.skip ?_
 refine bB h fun r11 hx17 h => ?_
 refine bB h fun r12 hx18 h => ?_
 refine bB h fun r13 hx19 h => ?_
 refine bB h fun r14 hx20 h => ?_
 refine CO.cutR (tl 142 [(0, .sl false false (a0.map (eSN false))), (1, .sl false false (a1.map (eSN false))), (2, .sl false false (a2.map (eSN false))), (8, .sl false false (r14.1.map (eSN false))), (9, V.b r14.2)]) [] mix (by
  refine wR 1 100 ?_
  refine W.call (AC.gs (ml_toNodeS_ok N a0 hx17) (by decide)) cok15 [] [(100, 100)] [100] (show LayOk _ [] from trivial) (by kernel_rfl) (by kernel_rfl) ?_
  refine wR 1 101 ?_
  refine W.call (AC.gs (ml_toNodeS_ok N a1 hx18) (by decide)) cok15 [] [(100, 101)] [101] (show LayOk _ [] from trivial) (by kernel_rfl) (by kernel_rfl) ?_
  refine wR 1 102 ?_
  refine W.call (AC.gs (ml_toNodeS_ok N a2 hx19) (by decide)) cok15 [] [(100, 102)] [102] (show LayOk _ [] from trivial) (by kernel_rfl) (by kernel_rfl) ?_
  refine W.call (AC.gs (ms_Rewrite_ok N r11 r12 r13 hx20) (by decide)) cok27 [] [] [] (LayOk.cons (j := 100) (eSN true) (eSN false) r11 (by kernel_rfl) (sh_eSN _) (LayOk.cons (j := 101) (eSN true) (eSN false) r12 (by kernel_rfl) (sh_eSN _) (LayOk.cons (j := 102) (eSN true) (eSN false) r13 (by kernel_rfl) (sh_eSN _) (show LayOk _ [] from trivial)))) (by kernel_rfl) (by kernel_rfl) ?_
  refine wR 5 103 ?_
  exact fI
  ) ?_
 refine bB h fun r16 hx22 h => ?_
 refine CO.cutR (tl 142 [(0, .sl false false (a0.map (eSN false))), (1, .sl false false (a1.map (eSN false))), (2, .sl false false (a2.map (eSN false))), (8, .sl false false (r14.1.map (eSN false))), (9, V.b r14.2), (10, .own 103)]) [(103, .vec false 48 5 (r16.map (eSN true)))] mix (by
  refine wR 1 103 ?_
  refine W.call (AC.gs (ml_toNodeS_ok N a0 hx22) (by decide)) cok15 [] [(100, 103)] [103] (show LayOk _ [] from trivial) (by kernel_rfl) (by kernel_rfl) ?_
  refine wR 1 104 ?_
  exact fI
  ) ?_
 refine bB h fun r18 hx24 h => ?_
 refine CO.cutR (tl 142 [(0, .sl false false (a0.map (eSN false))), (1, .sl false false (a1.map (eSN false))), (2, .sl false false (a2.map (eSN false))), (8, .sl false false (r14.1.map (eSN false))), (9, V.b r14.2), (10, .own 103), (11, .own 104)]) [(104, .vec false 48 5 (r18.map (eSN true))), (103, .vec false 48 5 (r16.map (eSN true)))] mix (by
  refine wR 1 104 ?_
  refine W.call (AC.gs (ml_toNodeS_ok N a1 hx24) (by decide)) cok15 [] [(100, 104)] [104] (show LayOk _ [] from trivial) (by kernel_rfl) (by kernel_rfl) ?_
  refine wR 1 105 ?_
  exact fI
  ) ?_
 refine bB h fun r20 hx26 h => ?_
 refine CO.cutR (tl 142 [(0, .sl false false (a0.map (eSN false))), (1, .sl false false (a1.map (eSN false))), (2, .sl false false (a2.map (eSN false))), (8, .sl false false (r14.1.map (eSN false))), (9, V.b r14.2), (10, .own 103), (11, .own 104), (12, .own 105)]) [(105, .vec false 48 5 (r20.map (eSN true))), (104, .vec false 48 5 (r18.map (eSN true))), (103, .vec false 48 5 (r16.map (eSN true)))] mix (by
  refine wR 1 105 ?_
  refine W.call (AC.gs (ml_toNodeS_ok N a2 hx26) (by decide)) cok15 [] [(100, 105)] [105] (show LayOk _ [] from trivial) (by kernel_rfl) (by kernel_rfl) ?_
  refine wR 1 106 ?_
  exact fI
  ) ?_
 refine bB h fun r22 hx28 h => ?_
 refine CO.cutR (tl 142 [(0, .sl false false (a0.map (eSN false))), (1, .sl false false (a1.map (eSN false))), (2, .sl false false (a2.map (eSN false))), (8, .sl false false (r14.1.map (eSN false))), (9, V.b r14.2), (10, .own 103), (11, .own 104), (12, .own 105), (13, .own 106), (14, V.b r22.2)]) [(106, .vec false 48 5 (r22.1.map (eSN true))), (105, .vec false 48 5 (r20.map (eSN true))), (104, .vec false 48 5 (r18.map (eSN true))), (103, .vec false 48 5 (r16.map (eSN true)))] mix (by
  refine wR 3 106 ?_
  refine W.lend (mi_Rewrite_ok N r16 r18 r20 hx28) cok28 [(100, 106)] [106] (LayOk.cons (j := 103) (eSN true) (eSN false) r16 (by kernel_rfl) (sh_eSN _) (LayOk.cons (j := 104) (eSN true) (eSN false) r18 (by kernel_rfl) (sh_eSN _) (LayOk.cons (j := 105) (eSN true) (eSN false) r20 (by kernel_rfl) (sh_eSN _) (show LayOk _ [] from trivial)))) (.tup _ (.cons (.own _) (.cons (.c _) .nil))) (.cons (DeepR.map (fun _ => (.cons (.c _) (.cons (.c _) (.cons (.c _) (.cons (.c _) (.cons (.sl _ _ (DeepR.map (fun _ => (.cons (.c _) .nil)) _)) .nil)))))) _) .nil) (by kernel_rfl) (by kernel_rfl) ?_
  refine wR 5 107 ?_
  exact fI
  ) ?_
 refine CO.seq' ?_
 refine bB h fun y27 hv37 h => ?_
 refine CO.cutR (tl 142 [(0, .sl false false (a0.map (eSN false))), (1, .sl false false (a1.map (eSN false))), (2, .sl false false (a2.map (eSN false))), (8, .sl false false (r14.1.map (eSN false))), (9, V.b r14.2), (10, .own 100), (11, .own 101), (12, .own 102), (13, .own 103), (14, V.b r22.2), (66, V.b y27)]) [(100, .vec false 48 5 (r16.map (eSN true))), (101, .vec false 48 5 (r18.map (eSN true))), (102, .vec false 48 5 (r20.map (eSN true))), (103, .vec false 48 5 (r22.1.map (eSN true)))] mix (by
  refine wR 2 107 ?_
  refine bB hv37 fun r28 hx38 hv37 => ?_
  refine W.lend (AC.gs (ml_eqNodeS_ok N r22.1 r14.1 hx38) (by decide)) cok10 [] [] (LayOk.cons (j := 106) (eSN true) (eSN false) r22.1 (by kernel_rfl) (sh_eSN _) (show LayOk _ [] from trivial)) (.c _) .nil (by kernel_rfl) (by kernel_rfl) ?_
  refine wR 2 107 ?_
  refine bC hv37 (fun hc39 hv37 => ?_) (fun hc39 hv37 => ?_)
  ·refine wI 62 hc39 ?_
   refine wR 4 107 ?_
   have hv37 := sI hv37
   subst hv37
   exact fS [(103, 100), (104, 101), (105, 102), (106, 103)] [0, 1, 2, 8, 9, 10, 11, 12, 13, 14, 66]
  refine wI 62 hc39 ?_
  refine wR 4 107 ?_
  have hv37 := sI hv37
  subst hv37
  exact fS [(103, 100), (104, 101), (105, 102), (106, 103)] [0, 1, 2, 8, 9, 10, 11, 12, 13, 14, 66]
  ) ?_
 refine bC h (fun hc40 h => ?_) (fun hc40 h => ?_)
 ·refine iT hc40 ?_
  refine cU 1 107 (tl 142 [(6, V.b false)]) [] ?_
  refine CO.ret ?_
  have h := sI h
  subst h
  exact eG [] (.inr rfl) (RetV.one rfl (oT (t := 6) (r := V.b false)))
 refine iF hc40 ?_
 refine CO.skip ?_
 refine CO.seq' ?_
 refine bB h fun r35 hx48 h => ?_
 refine bB h fun r36 hx49 h => ?_
 refine CO.cutR (tl 142 [(0, .sl false false (a0.map (eSN false))), (1, .sl false false (a1.map (eSN false))), (2, .sl false false (a2.map (eSN false))), (8, .sl false false (r14.1.map (eSN false))), (9, V.b r14.2), (10, .own 100), (11, .own 101), (12, .own 102), (13, .own 103), (14, V.b r22.2), (71, V.b (!r36))]) [(100, .vec false 48 5 (r16.map (eSN true))), (101, .vec false 48 5 (r18.map (eSN true))), (102, .vec false 48 5 (r20.map (eSN true))), (103, .vec false 48 5 (r22.1.map (eSN true)))] mix (by
  refine wR 2 107 ?_
  refine W.call (AC.gs (ml_toNodeS_ok N a0 hx48) (by decide)) cok15 [] [(100, 107)] [107] (show LayOk _ [] from trivial) (by kernel_rfl) (by kernel_rfl) ?_
  refine W.lend (AC.gs (ml_eqNodeS_ok N r16 r35 hx49) (by decide)) cok10 [] [] (LayOk.cons (j := 100) (eSN true) (eSN false) r16 (by kernel_rfl) (sh_eSN _) (LayOk.cons (j := 107) (eSN true) (eSN false) r35 (by kernel_rfl) (sh_eSN _) (show LayOk _ [] from trivial))) (.c _) .nil (by kernel_rfl) (by kernel_rfl) ?_
  refine wR 1 108 ?_
  exact fI
  ) ?_
 refine bC h (fun hc50 h => ?_) (fun hc50 h => ?_)
 ·refine iT hc50 ?_
  refine cU 1 108 (tl 142 [(6, V.b false)]) [] ?_
  refine CO.ret ?_
  have h := sI h
  subst h
  exact eG [] (.inr rfl) (RetV.one rfl (oT (t := 6) (r := V.b false)))
 refine iF hc50 ?_
 refine CO.skip ?_
 refine CO.seq' ?_
 refine bB h fun r43 hx58 h => ?_
 refine bB h fun r44 hx59 h => ?_
 refine CO.cutR (tl 142 [(0, .sl false false (a0.map (eSN false))), (1, .sl false false (a1.map (eSN false))), (2, .sl false false (a2.map (eSN false))), (8, .sl false false (r14.1.map (eSN false))), (9, V.b r14.2), (10, .own 100), (11, .own 101), (12, .own 102), (13, .own 103), (14, V.b r22.2), (76, V.b (!r44))]) [(100, .vec false 48 5 (r16.map (eSN true))), (101, .vec false 48 5 (r18.map (eSN true))), (102, .vec false 48 5 (r20.map (eSN true))), (103, .vec false 48 5 (r22.1.map (eSN true)))] mix (by
  refine wR 2 108 ?_
  refine W.call (AC.gs (ml_toNodeS_ok N a1 hx58) (by decide)) cok15 [] [(100, 108)] [108] (show LayOk _ [] from trivial) (by kernel_rfl) (by kernel_rfl) ?_
  refine W.lend (AC.gs (ml_eqNodeS_ok N r18 r43 hx59) (by decide)) cok10 [] [] (LayOk.cons (j := 101) (eSN true) (eSN false) r18 (by kernel_rfl) (sh_eSN _) (LayOk.cons (j := 108) (eSN true) (eSN false) r43 (by kernel_rfl) (sh_eSN _) (show LayOk _ [] from trivial))) (.c _) .nil (by kernel_rfl) (by kernel_rfl) ?_
  refine wR 1 109 ?_
  exact fI
  ) ?_
 refine bC h (fun hc60 h => ?_) (fun hc60 h => ?_)
 ·refine iT hc60 ?_
  refine cU 1 109 (tl 142 [(6, V.b false)]) [] ?_
  refine CO.ret ?_
  have h := sI h
  subst h
  exact eG [] (.inr rfl) (RetV.one rfl (oT (t := 6) (r := V.b false)))
 refine iF hc60 ?_
 refine CO.skip ?_
 refine CO.seq' ?_
 refine bB h fun r51 hx68 h => ?_
 refine bB h fun r52 hx69 h => ?_
 refine CO.cutR (tl 142 [(0, .sl false false (a0.map (eSN false))), (1, .sl false false (a1.map (eSN false))), (2, .sl false false (a2.map (eSN false))), (8, .sl false false (r14.1.map (eSN false))), (9, V.b r14.2), (10, .own 100), (11, .own 101), (12, .own 102), (13, .own 103), (14, V.b r22.2), (81, V.b (!r52))]) [(100, .vec false 48 5 (r16.map (eSN true))), (101, .vec false 48 5 (r18.map (eSN true))), (102, .vec false 48 5 (r20.map (eSN true))), (103, .vec false 48 5 (r22.1.map (eSN true)))] mix (by
  refine wR 2 109 ?_
  refine W.call (AC.gs (ml_toNodeS_ok N a2 hx68) (by decide)) cok15 [] [(100, 109)] [109] (show LayOk _ [] from trivial) (by kernel_rfl) (by kernel_rfl) ?_
  refine W.lend (AC.gs (ml_eqNodeS_ok N r20 r51 hx69) (by decide)) cok10 [] [] (LayOk.cons (j := 102) (eSN true) (eSN false) r20 (by kernel_rfl) (sh_eSN _) (LayOk.cons (j := 109) (eSN true) (eSN false) r51 (by kernel_rfl) (sh_eSN _) (show LayOk _ [] from trivial))) (.c _) .nil (by kernel_rfl) (by kernel_rfl) ?_
  refine wR 1 110 ?_
  exact fI
  ) ?_
 refine bC h (fun hc70 h => ?_) (fun hc70 h => ?_)
 ·refine iT hc70 ?_
  refine cU 1 110 (tl 142 [(6, V.b false)]) [] ?_
  refine CO.ret ?_
  have h := sI h
  subst h
  exact eG [] (.inr rfl) (RetV.one rfl (oT (t := 6) (r := V.b false)))
 refine iF hc70 ?_
 refine CO.skip ?_
 refine cU 1 110 (tl 142 [(0, .sl false false (a0.map (eSN false))), (1, .sl false false (a1.map (eSN false))), (2, .sl false false (a2.map (eSN false))), (8, .sl false false (r14.1.map (eSN false))), (9, V.b r14.2), (10, .own 100), (11, .own 101), (12, .own 102), (13, .own 103), (14, V.b r22.2), (15, V.i 1)]) [(100, .vec false 48 5 (r16.map (eSN true))), (101, .vec false 48 5 (r18.map (eSN true))), (102, .vec false 48 5 (r20.map (eSN true))), (103, .vec false 48 5 (r22.1.map (eSN true)))] ?_
 refine bB h fun r54 hx72 h => ?_
 refine CO.cutR (tl 142 [(0, .sl false false (a0.map (eSN false))), (1, .sl false false (a1.map (eSN false))), (2, .sl false false (a2.map (eSN false))), (8, .sl false false (r14.1.map (eSN false))), (9, V.b r14.2), (11, .own 101), (12, .own 102), (13, .own 103), (14, V.b r22.2), (15, V.i r54.1)]) [(101, .vec false 48 5 (r18.map (eSN true))), (102, .vec false 48 5 (r20.map (eSN true))), (103, .vec false 48 5 (r22.1.map (eSN true)))] mix (by
  refine wR 2 110 ?_
  refine W.call (AC.gs (ml_markNodeS_ok 48 N 1 r16 hx72) (by decide)) cok11 [(100, 0)] [(0, 100)] [] (show LayOk _ [] from trivial) (by kernel_rfl) (by kernel_rfl) ?_
  refine wR 1 110 ?_
  exact fI
  ) ?_
 refine bB h fun r56 hx74 h => ?_
 refine CO.cutR (tl 142 [(0, .sl false false (a0.map (eSN false))), (1, .sl false false (a1.map (eSN false))), (2, .sl false false (a2.map (eSN false))), (8, .sl false false (r14.1.map (eSN false))), (9, V.b r14.2), (12, .own 102), (13, .own 103), (14, V.b r22.2), (15, V.i r56.1)]) [(102, .vec false 48 5 (r20.map (eSN true))), (103, .vec false 48 5 (r22.1.map (eSN true)))] mix (by
  refine wR 2 110 ?_
  refine W.call (AC.gs (ml_markNodeS_ok 48 N r54.1 r18 hx74) (by decide)) cok11 [(101, 0)] [(0, 101)] [] (show LayOk _ [] from trivial) (by kernel_rfl) (by kernel_rfl) ?_
  refine wR 1 110 ?_
  exact fI
  ) ?_
 refine bB h fun r58 hx76 h => ?_
 refine CO.cutR (tl 142 [(0, .sl false false (a0.map (eSN false))), (1, .sl false false (a1.map (eSN false))), (2, .sl false false (a2.map (eSN false))), (8, .sl false false (r14.1.map (eSN false))), (9, V.b r14.2), (13, .own 103), (14, V.b r22.2), (15, V.i r58.1)]) [(103, .vec false 48 5 (r22.1.map (eSN true)))] mix (by
  refine wR 2 110 ?_
  refine W.call (AC.gs (ml_markNodeS_ok 48 N r56.1 r20 hx76) (by decide)) cok11 [(102, 0)] [(0, 102)] [] (show LayOk _ [] from trivial) (by kernel_rfl) (by kernel_rfl) ?_
  refine wR 1 110 ?_
  exact fI
  ) ?_
 refine CO.seq' ?_
 refine bB h fun y63 hv88 h => ?_
 refine CO.cutR (tl 142 [(0, .sl false false (a0.map (eSN false))), (1, .sl false false (a1.map (eSN false))), (2, .sl false false (a2.map (eSN false))), (8, .sl false false (r14.1.map (eSN false))), (9, V.b r14.2), (13, .own 100), (103, V.b y63)]) [(100, .vec false 48 5 (r22.1.map (eSN true)))] mix (by
  refine wR 3 110 ?_
  refine bC hv88 (fun hc89 hv88 => ?_) (fun hc89 hv88 => ?_)
  ·refine wI 93 hc89 ?_
   refine wR 10 110 ?_
   have hv88 := sI hv88
   subst hv88
   exact fS [(103, 100)] [0, 1, 2, 8, 9, 13, 103]
  refine wI 93 hc89 ?_
  refine wR 2 110 ?_
  refine bB hv88 fun r64 hx90 hv88 => ?_
  refine W.lend (AC.gs (ml_eqNodeS_ok N r22.1 r14.1 hx90) (by decide)) cok10 [] [] (LayOk.cons (j := 103) (eSN true) (eSN false) r22.1 (by kernel_rfl) (sh_eSN _) (show LayOk _ [] from trivial)) (.c _) .nil (by kernel_rfl) (by kernel_rfl) ?_
  refine wR 3 110 ?_
  refine bC hv88 (fun hc91 hv88 => ?_) (fun hc91 hv88 => ?_)
  ·refine wI 99 hc91 ?_
   refine wR 4 110 ?_
   have hv88 := sI hv88
   subst hv88
   exact fS [(103, 100)] [0, 1, 2, 8, 9, 13, 103]
  refine wI 99 hc91 ?_
  refine wR 4 110 ?_
  have hv88 := sI hv88
  subst hv88
  exact fS [(103, 100)] [0, 1, 2, 8, 9, 13, 103]
  ) ?_
 refine bC h (fun hc92 h => ?_) (fun hc92 h => ?_)
 ·refine iT hc92 ?_
  refine cU 1 110 (tl 142 [(6, V.b false)]) [] ?_
  refine CO.ret ?_
  have h := sI h
  subst h
  exact eG [] (.inr rfl) (RetV.one rfl (oT (t := 6) (r := V.b false)))
 refine iF hc92 ?_
 refine CO.skip ?_
 refine cU 1 110 (tl 142 [(0, .sl false false (a0.map (eSN false))), (1, .sl false false (a1.map (eSN false))), (2, .sl false false (a2.map (eSN false))), (8, .sl false false (r14.1.map (eSN false))), (9, V.b r14.2), (13, .own 100), (16, V.i 1)]) [(100, .vec false 48 5 (r22.1.map (eSN true)))] ?_
 refine bB h fun r66 hx94 h => ?_
 refine CO.cutR (tl 142 [(0, .sl false false (a0.map (eSN false))), (1, .sl false false (a1.map (eSN false))), (2, .sl false false (a2.map (eSN false))), (8, .sl false false (r14.1.map (eSN false))), (9, V.b r14.2), (13, .own 100), (16, V.i r66.1)]) [(100, .vec false 48 5 (r66.2.map (eSN true)))] mix (by
  refine wR 2 110 ?_
  refine W.call (AC.gs (ml_markNodeS_ok 48 N 1 r22.1 hx94) (by decide)) cok11 [(100, 0)] [(0, 100)] [] (show LayOk _ [] from trivial) (by kernel_rfl) (by kernel_rfl) ?_
  refine wR 1 110 ?_
  exact fI
  ) ?_
 refine cU 1 110 (tl 142 [(0, .sl false false (a0.map (eSN false))), (1, .sl false false (a1.map (eSN false))), (2, .sl false false (a2.map (eSN false))), (8, .sl false false (r14.1.map (eSN false))), (9, V.b r14.2), (13, .own 100), (16, V.i r66.1), (17, V.i 1)]) [(100, .vec false 48 5 (r66.2.map (eSN true)))] ?_
 refine bB h fun r68 hx96 h => ?_
 refine CO.cutR (tl 142 [(0, .sl false false (a0.map (eSN false))), (1, .sl false false (a1.map (eSN false))), (2, .sl false false (a2.map (eSN false))), (8, .sl false false (r14.1.map (eSN false))), (9, V.b r14.2), (13, .own 100), (16, V.i r66.1), (17, V.i r68)]) [(100, .vec false 48 5 (r66.2.map (eSN true)))] mix (by
  refine wR 2 110 ?_
  refine W.lend (AC.gs (ml_heldNodeS_ok N r66.2 1 hx96) (by decide)) cok12 [] [] (LayOk.cons (j := 100) (eSN true) (eSN false) r66.2 (by kernel_rfl) (sh_eSN _) (show LayOk _ [] from trivial)) (.c _) .nil (by kernel_rfl) (by kernel_rfl) ?_
  refine wR 1 110 ?_
  exact fI
  ) ?_
 refine CO.seq' ?_
 refine cU 2 110 (tl 142 [(0, .sl false false (a0.map (eSN false))), (1, .sl false false (a1.map (eSN false))), (2, .sl false false (a2.map (eSN false))), (8, .sl false false (r14.1.map (eSN false))), (9, V.b r14.2), (13, .own 100), (16, V.i r66.1), (17, V.i r68), (111, V.b (decide (r68 < 0)))]) [(100, .vec false 48 5 (r66.2.map (eSN true)))] ?_
 refine bC h (fun hc98 h => ?_) (fun hc98 h => ?_)
 ·refine iT hc98 ?_
  refine cU 1 110 (tl 142 [(6, V.b false)]) [] ?_
  refine CO.ret ?_
  have h := sI h
  subst h
  exact eG [] (.inr rfl) (RetV.one rfl (oT (t := 6) (r := V.b false)))
 refine iF hc98 ?_
 refine CO.skip ?_
 refine CO.seq' ?_
 refine cU 3 110 (tl 142 [(0, .sl false false (a0.map (eSN false))), (1, .sl false false (a1.map (eSN false))), (2, .sl false false (a2.map (eSN false))), (8, .sl false false (r14.1.map (eSN false))), (9, V.b r14.2), (13, .own 100), (16, V.i r66.1), (114, V.b (r68 != r66.1))]) [(100, .vec false 48 5 (r66.2.map (eSN true)))] ?_
 refine bC h (fun hc100 h => ?_) (fun hc100 h => ?_)
 ·refine iT hc100 ?_
  refine cU 1 110 (tl 142 [(6, V.b false)]) [] ?_
  refine CO.ret ?_
  have h := sI h
  subst h
  exact eG [] (.inr rfl) (RetV.one rfl (oT (t := 6) (r := V.b false)))
 refine iF hc100 ?_
 refine CO.skip ?_
 refine bB h fun r73 hx105 h => ?_
 refine bB h fun r74 hx106 h => ?_
 refine bB h fun r75 hx107 h => ?_
 refine bB h fun r76 hx108 h => ?_
 refine CO.cutR (tl 142 [(8, .sl false false (r14.1.map (eSN false))), (9, V.b r14.2), (13, .own 100), (16, V.i r66.1), (18, .own 113), (19, V.b r76.2)]) [(113, .vec false 48 5 (r76.1.map (eSN true))), (100, .vec false 48 5 (r66.2.map (eSN true)))] mix (by
  refine wR 1 110 ?_
  refine W.call (AC.gs (ml_toNodeS_ok N a0 hx105) (by decide)) cok15 [] [(100, 110)] [110] (show LayOk _ [] from trivial) (by kernel_rfl) (by kernel_rfl) ?_
  refine wR 1 111 ?_
  refine W.call (AC.gs (ml_toNodeS_ok N a1 hx106) (by decide)) cok15 [] [(100, 111)] [111] (show LayOk _ [] from trivial) (by kernel_rfl) (by kernel_rfl) ?_
  refine wR 1 112 ?_
  refine W.call (AC.gs (ml_toNodeS_ok N a2 hx107) (by decide)) cok15 [] [(100, 112)] [112] (show LayOk _ [] from trivial) (by kernel_rfl) (by kernel_rfl) ?_
  refine W.lend (mi_Rewrite_ok N r73 r74 r75 hx108) cok28 [(100, 113)] [113] (LayOk.cons (j := 110) (eSN true) (eSN false) r73 (by kernel_rfl) (sh_eSN _) (LayOk.cons (j := 111) (eSN true) (eSN false) r74 (by kernel_rfl) (sh_eSN _) (LayOk.cons (j := 112) (eSN true) (eSN false) r75 (by kernel_rfl) (sh_eSN _) (show LayOk _ [] from trivial)))) (.tup _ (.cons (.own _) (.cons (.c _) .nil))) (.cons (DeepR.map (fun _ => (.cons (.c _) (.cons (.c _) (.cons (.c _) (.cons (.c _) (.cons (.sl _ _ (DeepR.map (fun _ => (.cons (.c _) .nil)) _)) .nil)))))) _) .nil) (by kernel_rfl) (by kernel_rfl) ?_
  refine wR 5 114 ?_
  exact fI
  ) ?_
 refine CO.seq' ?_
 refine bB h fun y81 hv117 h => ?_
 refine CO.cutR (tl 142 [(13, .own 100), (16, V.i r66.1), (133, V.b y81)]) [(100, .vec false 48 5 (r66.2.map (eSN true)))] mix (by
  refine wR 2 114 ?_
  refine bB hv117 fun r82 hx118 hv117 => ?_
  refine W.lend (AC.gs (ml_eqNodeS_ok N r76.1 r14.1 hx118) (by decide)) cok10 [] [] (LayOk.cons (j := 113) (eSN true) (eSN false) r76.1 (by kernel_rfl) (sh_eSN _) (show LayOk _ [] from trivial)) (.c _) .nil (by kernel_rfl) (by kernel_rfl) ?_
  refine wR 2 114 ?_
  refine bC hv117 (fun hc119 hv117 => ?_) (fun hc119 hv117 => ?_)
  ·refine wI 129 hc119 ?_
   refine wR 4 114 ?_
   have hv117 := sI hv117
   subst hv117
   exact fS [(100, 100)] [13, 16, 133]
  refine wI 129 hc119 ?_
  refine wR 4 114 ?_
  have hv117 := sI hv117
  subst hv117
  exact fS [(100, 100)] [13, 16, 133]
  ) ?_
 refine bC h (fun hc120 h => ?_) (fun hc120 h => ?_)
 ·refine iT hc120 ?_
  refine cU 1 114 (tl 142 [(6, V.b false)]) [] ?_
  refine CO.ret ?_
  have h := sI h
  subst h
  exact eG [] (.inr rfl) (RetV.one rfl (oT (t := 6) (r := V.b false)))
 refine iF hc120 ?_
 refine CO.skip ?_
 refine cU 1 114 (tl 142 [(13, .own 100), (16, V.i r66.1), (17, V.i 1)]) [(100, .vec false 48 5 (r66.2.map (eSN true)))] ?_
 refine bB h fun r84 hx122 h => ?_
 refine CO.cutR (tl 142 [(16, V.i r66.1), (17, V.i r84)]) [] mix (by
  refine wR 2 114 ?_
  refine W.lend (AC.gs (ml_heldNodeS_ok N r66.2 1 hx122) (by decide)) cok12 [] [] (LayOk.cons (j := 100) (eSN true) (eSN false) r66.2 (by kernel_rfl) (sh_eSN _) (show LayOk _ [] from trivial)) (.c _) .nil (by kernel_rfl) (by kernel_rfl) ?_
  refine wR 1 114 ?_
  exact fI
  ) ?_
 refine CO.seq' ?_
 refine cU 2 114 (tl 142 [(16, V.i r66.1), (17, V.i r84), (138, V.b (decide (r84 < 0)))]) [] ?_
 refine bC h (fun hc124 h => ?_) (fun hc124 h => ?_)
 ·refine iT hc124 ?_
  refine cU 1 114 (tl 142 [(6, V.b false)]) [] ?_
  refine CO.ret ?_
  have h := sI h
  subst h
  exact eG [] (.inr rfl) (RetV.one rfl (oT (t := 6) (r := V.b false)))
 refine iF hc124 ?_
 refine CO.skip ?_
 refine CO.seq' ?_
 refine cU 3 114 (tl 142 [(141, V.b (r84 != r66.1))]) [] ?_
 refine bC h (fun hc126 h => ?_) (fun hc126 h => ?_)
 ·refine iT hc126 ?_
  refine cU 1 114 (tl 142 [(6, V.b false)]) [] ?_
  refine CO.ret ?_
  have h := sI h
  subst h
  exact eG [] (.inr rfl) (RetV.one rfl (oT (t := 6) (r := V.b false)))
 refine iF hc126 ?_
 refine CO.skip ?_
 refine cU 1 114 (tl 142 [(6, V.b true)]) [] ?_
 refine CO.ret ?_
 have h := sI h
 subst h
 exact eG [] (.inr rfl) (RetV.one rfl (oT (t := 6) (r := V.b true)))

end Go.Proofs.Tryz
