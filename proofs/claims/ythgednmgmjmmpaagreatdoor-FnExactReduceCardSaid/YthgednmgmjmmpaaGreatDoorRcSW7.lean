/-
 The walks that show that the code computes the models, part 7.
-/
import Derived.Test.YthgednmgmjmmpaaGreatDoorRcSW6
namespace Go.Proofs.Tryz
open Go.Av
set_option maxRecDepth 100000
set_option maxHeartbeats 8000000
set_option linter.unusedSimpArgs false
set_option linter.unusedVariables false

theorem mp_level_ok (N : Nat) (a1 : SPos) (pa : LT) (pb : Int) (pc : Bool) (p1 : LLU) {r : T1} (h : mp_level N a1 pa pb pc p1 = some r) :
    AC0 70 [.loc 0 0, .agg [V.i a1.Level, V.b a1.Dollar, V.b a1.NoIn, V.b a1.NoGt, V.b a1.NoSign]] [(0, cP 98 pa pb pc 1), (1, vN p1)] (.agg (aP r.1)) [(0, cP 98 pa r.2.1 r.2.2.1 100), (100, vN r.2.2.2)] := by
 rw [mp_level] at h
 refine AC.enter Tryz.func70 rfl (cV 100 (cV 102 (CO.seq' (bB h fun y10 hv14 h => ?_))))
 refine CO.cutR (tl 102 [(0, .loc 0 0), (3, .loc 100 0), (4, .loc 101 0), (5, .loc 102 0), (18, V.b y10)]) [(0, cP 98 pa pb pc 1), (100, .cells 30 [V.i a1.Level, V.b a1.Dollar, V.b a1.NoIn, V.b a1.NoGt, V.b a1.NoSign]), (101, .cells 103 [V.i 0, V.i 0, V.s [], V.s [], .c (.slice none 0 0), V.b false]), (102, .cells 121 [V.b a1.NoIn, V.b a1.NoGt]), (1, vN p1)] mix (by
  refine wR 3 103 ?_
  refine wJ 13 hv14 (fun hv14 => ?_) (fun hv14 => ?_)
  ·refine wR 1 103 (bB hv14 fun r11 hx16 hv14 => (W.call (mp_kind_ok pa pb pc p1 hx16) cok111 [(0, 0), (1, 1)] [(0, 0), (1, 1)] [] lO (by kernel_rfl) (by kernel_rfl) (bB hv14 fun r12 hx17 hv14 => (W.call0 (mi_BeginsOperand_ok r11 hx17) cok110 rfl (by kernel_rfl) (wR 2 103 ?_)))))
   cases hv14
   exact fS [(0, 0), (100, 100), (101, 101), (102, 102), (1, 1)] [0, 3, 4, 5, 18]
  refine wR 5 103 ?_
  cases hv14
  exact fS [(0, 0), (100, 100), (101, 101), (102, 102), (1, 1)] [0, 3, 4, 5, 18]
  ) ?_
 refine cI h (fun _ h => ?_) (fun _ h => ?_)
 ·refine bB h fun r14 hx20 h => (CO.sw mix (wR 1 103 (W.call (mp_fail_ok pa pb pc p1 hx20) cok112 [(0, 0), (1, 1)] [(0, 0), (1, 1)] [] lO (by kernel_rfl) (by kernel_rfl) (wR 1 103 (wF (CO.ret ?_))))))
  have h := sI h
  subst h
  exact eG [(0, 0), (1, 100)] (.inr rfl) (RetV.one rfl (OneR.cell Dk (r := .agg (aP r14.1)) (i := 101) (ety := 103) (cs := (aP r14.1)) (by kernel_rfl) (by kernel_rfl) (by kernel_rfl)))
 refine CO.skip (CO.seq' (cV 103 (CO.block' (cV 103 ?_))))
 refine cI h (fun _ h => ?_) (fun _ h => ?_)
 ·refine bB h fun r58 hx85 h => (CO.sw mix (wR 2 103 (W.call (mp_assign_ok N (⟨a1.NoIn, a1.NoGt⟩ : SRules) pa pb pc p1 hx85) cok113 [(0, 0), (1, 1)] [(0, 0), (100, 103)] [103] lO (by kernel_rfl) (by kernel_rfl) (wR 1 104 (wF (CO.ret ?_))))))
  have h := sI h
  subst h
  exact eG [(0, 0), (103, 100)] (.inr rfl) (RetV.one rfl (OneR.cell Dk (r := .agg (aP r58.1)) (i := 101) (ety := 103) (cs := (aP r58.1)) (by kernel_rfl) (by kernel_rfl) (by kernel_rfl)))
 refine cV 103 ?_
 refine cI h (fun _ h => ?_) (fun _ h => ?_)
 ·refine bB h fun r60 hx88 h => (CO.sw mix (wR 2 103 (W.call (mp_cond_ok N (⟨a1.NoIn, a1.NoGt⟩ : SRules) pa pb pc p1 hx88) cok114 [(0, 0), (1, 1)] [(0, 0), (100, 103)] [103] lO (by kernel_rfl) (by kernel_rfl) (wR 1 104 (wF (CO.ret ?_))))))
  have h := sI h
  subst h
  exact eG [(0, 0), (103, 100)] (.inr rfl) (RetV.one rfl (OneR.cell Dk (r := .agg (aP r60.1)) (i := 101) (ety := 103) (cs := (aP r60.1)) (by kernel_rfl) (by kernel_rfl) (by kernel_rfl)))
 refine cV 103 ?_
 refine cI h (fun _ h => ?_) (fun _ h => ?_)
 ·refine bB h fun r62 hx91 h => (CO.sw mix (wR 2 103 (W.call (mp_or_ok N (⟨a1.NoIn, a1.NoGt⟩ : SRules) pa pb pc p1 hx91) cok115 [(0, 0), (1, 1)] [(0, 0), (100, 103)] [103] lO (by kernel_rfl) (by kernel_rfl) (wR 1 104 (wF (CO.ret ?_))))))
  have h := sI h
  subst h
  exact eG [(0, 0), (103, 100)] (.inr rfl) (RetV.one rfl (OneR.cell Dk (r := .agg (aP r62.1)) (i := 101) (ety := 103) (cs := (aP r62.1)) (by kernel_rfl) (by kernel_rfl) (by kernel_rfl)))
 refine cV 103 ?_
 refine cI h (fun _ h => ?_) (fun _ h => ?_)
 ·refine bB h fun r64 hx94 h => (CO.sw mix (wR 2 103 (W.call (mp_and_ok N (⟨a1.NoIn, a1.NoGt⟩ : SRules) pa pb pc p1 hx94) cok116 [(0, 0), (1, 1)] [(0, 0), (100, 103)] [103] lO (by kernel_rfl) (by kernel_rfl) (wR 1 104 (wF (CO.ret ?_))))))
  have h := sI h
  subst h
  exact eG [(0, 0), (103, 100)] (.inr rfl) (RetV.one rfl (OneR.cell Dk (r := .agg (aP r64.1)) (i := 101) (ety := 103) (cs := (aP r64.1)) (by kernel_rfl) (by kernel_rfl) (by kernel_rfl)))
 refine cV 103 ?_
 refine cI h (fun _ h => ?_) (fun _ h => ?_)
 ·refine bB h fun r66 hx97 h => (CO.sw mix (wR 2 103 (W.call (mp_in_ok N (⟨a1.NoIn, a1.NoGt⟩ : SRules) pa pb pc p1 hx97) cok117 [(0, 0), (1, 1)] [(0, 0), (100, 103)] [103] lO (by kernel_rfl) (by kernel_rfl) (wR 1 104 (wF (CO.ret ?_))))))
  have h := sI h
  subst h
  exact eG [(0, 0), (103, 100)] (.inr rfl) (RetV.one rfl (OneR.cell Dk (r := .agg (aP r66.1)) (i := 101) (ety := 103) (cs := (aP r66.1)) (by kernel_rfl) (by kernel_rfl) (by kernel_rfl)))
 refine cV 103 ?_
 refine cI h (fun _ h => ?_) (fun _ h => ?_)
 ·refine bB h fun r68 hx100 h => (CO.sw mix (wR 2 103 (W.call (mp_match_ok N (⟨a1.NoIn, a1.NoGt⟩ : SRules) pa pb pc p1 hx100) cok118 [(0, 0), (1, 1)] [(0, 0), (100, 103)] [103] lO (by kernel_rfl) (by kernel_rfl) (wR 1 104 (wF (CO.ret ?_))))))
  have h := sI h
  subst h
  exact eG [(0, 0), (103, 100)] (.inr rfl) (RetV.one rfl (OneR.cell Dk (r := .agg (aP r68.1)) (i := 101) (ety := 103) (cs := (aP r68.1)) (by kernel_rfl) (by kernel_rfl) (by kernel_rfl)))
 refine cV 103 ?_
 refine cI h (fun _ h => ?_) (fun _ h => ?_)
 ·refine bB h fun r70 hx103 h => (CO.sw mix (wR 2 103 (W.call (mp_compare_ok N (⟨a1.NoIn, a1.NoGt⟩ : SRules) pa pb pc p1 hx103) cok119 [(0, 0), (1, 1)] [(0, 0), (100, 103)] [103] lO (by kernel_rfl) (by kernel_rfl) (wR 1 104 (wF (CO.ret ?_))))))
  have h := sI h
  subst h
  exact eG [(0, 0), (103, 100)] (.inr rfl) (RetV.one rfl (OneR.cell Dk (r := .agg (aP r70.1)) (i := 101) (ety := 103) (cs := (aP r70.1)) (by kernel_rfl) (by kernel_rfl) (by kernel_rfl)))
 refine cV 103 ?_
 refine cI h (fun _ h => ?_) (fun _ h => ?_)
 ·refine bB h fun r72 hx106 h => (CO.sw mix (wR 2 103 (W.call (mp_cat_ok N (⟨a1.NoIn, a1.NoGt⟩ : SRules) pa pb pc p1 hx106) cok120 [(0, 0), (1, 1)] [(0, 0), (100, 103)] [103] lO (by kernel_rfl) (by kernel_rfl) (wR 1 104 (wF (CO.ret ?_))))))
  have h := sI h
  subst h
  exact eG [(0, 0), (103, 100)] (.inr rfl) (RetV.one rfl (OneR.cell Dk (r := .agg (aP r72.1)) (i := 101) (ety := 103) (cs := (aP r72.1)) (by kernel_rfl) (by kernel_rfl) (by kernel_rfl)))
 refine cV 103 ?_
 refine cI h (fun _ h => ?_) (fun _ h => ?_)
 ·refine bB h fun r74 hx109 h => (CO.sw mix (wR 2 103 (W.call (mp_add_ok N (⟨a1.NoIn, a1.NoGt⟩ : SRules) pa pb pc p1 hx109) cok121 [(0, 0), (1, 1)] [(0, 0), (100, 103)] [103] lO (by kernel_rfl) (by kernel_rfl) (wR 1 104 (wF (CO.ret ?_))))))
  have h := sI h
  subst h
  exact eG [(0, 0), (103, 100)] (.inr rfl) (RetV.one rfl (OneR.cell Dk (r := .agg (aP r74.1)) (i := 101) (ety := 103) (cs := (aP r74.1)) (by kernel_rfl) (by kernel_rfl) (by kernel_rfl)))
 refine cV 103 ?_
 refine cI h (fun _ h => ?_) (fun _ h => ?_)
 ·refine bB h fun r76 hx112 h => (CO.sw mix (wR 2 103 (W.call (mp_mul_ok N (⟨a1.NoIn, a1.NoGt⟩ : SRules) pa pb pc p1 hx112) cok122 [(0, 0), (1, 1)] [(0, 0), (100, 103)] [103] lO (by kernel_rfl) (by kernel_rfl) (wR 1 104 (wF (CO.ret ?_))))))
  have h := sI h
  subst h
  exact eG [(0, 0), (103, 100)] (.inr rfl) (RetV.one rfl (OneR.cell Dk (r := .agg (aP r76.1)) (i := 101) (ety := 103) (cs := (aP r76.1)) (by kernel_rfl) (by kernel_rfl) (by kernel_rfl)))
 refine cV 103 ?_
 refine cI h (fun _ h => ?_) (fun _ h => ?_)
 ·refine bB h fun r78 hx115 h => (CO.sw mix (wR 2 103 (W.call (mp_unary_ok N (⟨a1.NoIn, a1.NoGt⟩ : SRules) pa pb pc p1 hx115) cok123 [(0, 0), (1, 1)] [(0, 0), (100, 103)] [103] lO (by kernel_rfl) (by kernel_rfl) (wR 1 104 (wF (CO.ret ?_))))))
  have h := sI h
  subst h
  exact eG [(0, 0), (103, 100)] (.inr rfl) (RetV.one rfl (OneR.cell Dk (r := .agg (aP r78.1)) (i := 101) (ety := 103) (cs := (aP r78.1)) (by kernel_rfl) (by kernel_rfl) (by kernel_rfl)))
 refine cV 103 ?_
 refine cI h (fun _ h => ?_) (fun _ h => ?_)
 ·refine bB h fun r80 hx118 h => (CO.sw mix (wR 2 103 (W.call (mp_pow_ok N (⟨a1.NoIn, a1.NoGt⟩ : SRules) pa pb pc p1 hx118) cok124 [(0, 0), (1, 1)] [(0, 0), (100, 103)] [103] lO (by kernel_rfl) (by kernel_rfl) (wR 1 104 (wF (CO.ret ?_))))))
  have h := sI h
  subst h
  exact eG [(0, 0), (103, 100)] (.inr rfl) (RetV.one rfl (OneR.cell Dk (r := .agg (aP r80.1)) (i := 101) (ety := 103) (cs := (aP r80.1)) (by kernel_rfl) (by kernel_rfl) (by kernel_rfl)))
 refine cV 103 ?_
 refine cI h (fun _ h => ?_) (fun _ h => ?_)
 ·refine bB h fun r82 hx121 h => (CO.sw mix (wR 1 103 (W.call (mp_incr_ok N pa pb pc p1 hx121) cok125 [(0, 0), (1, 1)] [(0, 0), (100, 103)] [103] lO (by kernel_rfl) (by kernel_rfl) (wR 1 104 (wF (CO.ret ?_))))))
  have h := sI h
  subst h
  exact eG [(0, 0), (103, 100)] (.inr rfl) (RetV.one rfl (OneR.cell Dk (r := .agg (aP r82.1)) (i := 101) (ety := 103) (cs := (aP r82.1)) (by kernel_rfl) (by kernel_rfl) (by kernel_rfl)))
 refine cV 103 ?_
 refine cI h (fun _ h => ?_) (fun _ h => ?_)
 ·refine CO.seq' (bB h fun y92 hv136 h => ?_)
  refine CO.cutR (tl 102 [(0, .loc 0 0), (4, .loc 100 0), (95, V.b y92)]) [(0, cP 98 pa pb pc 1), (100, .cells 103 [V.i 0, V.i 0, V.s [], V.s [], .c (.slice none 0 0), V.b false]), (1, vN p1)] mix (by
   refine wR 3 103 ?_
   refine wJ 91 hv136 (fun hv136 => ?_) (fun hv136 => ?_)
   ·refine wR 1 103 (bB hv136 fun r93 hx138 hv136 => (W.call (mp_kind_ok pa pb pc p1 hx138) cok111 [(0, 0), (1, 1)] [(0, 0), (1, 1)] [] lO (by kernel_rfl) (by kernel_rfl) (bB hv136 fun r94 hx139 hv136 => (W.call0 (mi_isStep_ok r93 hx139) cok126 rfl (by kernel_rfl) (wR 1 103 ?_)))))
    cases hv136
    exact fS [(0, 0), (101, 100), (1, 1)] [0, 4, 95]
   refine wR 4 103 ?_
   cases hv136
   exact fS [(0, 0), (101, 100), (1, 1)] [0, 4, 95]
   ) ?_
  refine cI h (fun _ h => ?_) (fun _ h => ?_)
  ·refine bB h fun r96 hx142 h => (CO.sw mix (wR 1 103 (W.call (mp_before_ok N pa pb pc p1 hx142) cok127 [(0, 0), (1, 1)] [(0, 0), (100, 103)] [103] lO (by kernel_rfl) (by kernel_rfl) (wR 1 104 (wF (CO.ret ?_))))))
   have h := sI h
   subst h
   exact eG [(0, 0), (103, 100)] (.inr rfl) (RetV.one rfl (OneR.cell Dk (r := .agg (aP r96.1)) (i := 100) (ety := 103) (cs := (aP r96.1)) (by kernel_rfl) (by kernel_rfl) (by kernel_rfl)))
  refine CO.skip (bB h fun r98 hx144 h => (CO.sw mix (wR 1 103 (W.call (mp_field_ok N pa pb pc p1 hx144) cok128 [(0, 0), (1, 1)] [(0, 0), (100, 103)] [103] lO (by kernel_rfl) (by kernel_rfl) (wR 1 104 (wF (CO.ret ?_)))))))
  have h := sI h
  subst h
  exact eG [(0, 0), (103, 100)] (.inr rfl) (RetV.one rfl (OneR.cell Dk (r := .agg (aP r98.1)) (i := 100) (ety := 103) (cs := (aP r98.1)) (by kernel_rfl) (by kernel_rfl) (by kernel_rfl)))
 refine CO.skip (bB h fun r100 hx146 h => (CO.sw mix (wR 1 103 (W.call (mp_primary_ok N pa pb pc p1 hx146) cok129 [(0, 0), (1, 1)] [(0, 0), (100, 103)] [103] lO (by kernel_rfl) (by kernel_rfl) (wR 1 104 (wF (CO.ret ?_)))))))
 have h := sI h
 subst h
 exact eG [(0, 0), (103, 100)] (.inr rfl) (RetV.one rfl (OneR.cell Dk (r := .agg (aP r100.1)) (i := 101) (ety := 103) (cs := (aP r100.1)) (by kernel_rfl) (by kernel_rfl) (by kernel_rfl)))

structure RecOk3 (R : Rec3) : Prop where
 mi_tree__size : ∀ (a0 : STree) (r : Int), R.mi_tree__size a0 = some r → AC0 130 [.agg [V.i a0.kind, V.i a0.op, V.s a0.text, V.s a0.other, sL eST a0.kids]] [] (V.i r) []

theorem mi_tree__size_F_ok (N : Nat) (R : Rec3) (HR : RecOk3 R) (a0 : STree) {r : Int} (h : mi_tree__size_F N R a0 = some r) :
    AC0 130 [.agg [V.i a0.kind, V.i a0.op, V.s a0.text, V.s a0.other, sL eST a0.kids]] [] (V.i r) [] := by
 rw [mi_tree__size_F] at h
 refine AC.enter Tryz.func130 rfl (cV 100 (cV 101 (CO.seq' (CO.sw mix (wR 2 101 (W.len Dk eST a0.kids [] (by kernel_rfl) (by kernel_rfl) (wR 1 101 (wF ?_))))))))
 refine CO.block' (CO.loopJ (fun (⟨a0, y37, y38⟩ : (STree × Int × Int)) => ⟨tl 19 [(3, V.i y37), (7, sL eST a0.kids), (8, V.i (a0.kids.length : Int)), (9, V.i y38)], []⟩) (fun n i => mi_tree__size_l1 N R n i = some r) (n0 := N) (i0 := (a0, 1, 0)) (wS [] [3, 7, 8, 9]) h (fun i h => by simp [mi_tree__size_l1] at h) ?_)
 rintro n1 ⟨a0, y37, y38⟩ h53 ih54
 rw [mi_tree__size_l1] at h53
 refine cV 163 (CO.seq' ?_)
 refine cI h53 (fun _ h53 => ?_) (fun _ h53 => ?_)
 ·refine CO.skip (CO.seq' (CO.block' (bB h53 fun e54 hx62 h53 => (CO.sw mix (W.ixDr Dk eST hx62 5 (by kernel_rfl) (encSTree_eq e54) (by kernel_rfl) (wR 3 163 (wF (bB h53 fun r56 hx64 h53 => ?_))))))))
  refine CO.endR (tl 19 [(3, V.i (IntKind.wrap .i64 (y37 + r56))), (7, sL eST a0.kids), (8, V.i (a0.kids.length : Int)), (9, V.i y38)]) [] mix (by
   refine wR 2 164 (W.call0 (HR.mi_tree__size e54 _ hx64) cok130 rfl (by kernel_rfl) (wR 2 164 ?_))
   exact fI
   ) (fun st hw => ?_)
  refine CO.weak hw ?_
  exact cK 164 ih54 (a0, (IntKind.wrap .i64 (y37 + r56)), (IntKind.wrap .i64 (y38 + 1))) h53 [] [3, 7, 8, 9]
 refine CO.exit (cV 163 ?_)
 cases h53
 exact e1 2 id

theorem scc3_ok : ∀ N, RecOk3 (scc3 N)
 | 0 => ⟨fun _ _ h => (by cases h)⟩
 | N + 1 => ⟨fun a0 _ h => mi_tree__size_F_ok N (scc3 N) (scc3_ok N) a0 h⟩

theorem mi_tree__size_ok (N : Nat) (a0 : STree) {r : Int} (h : mi_tree__size N a0 = some r) :
  AC0 130 [.agg [V.i a0.kind, V.i a0.op, V.s a0.text, V.s a0.other, sL eST a0.kids]] [] (V.i r) [] :=
 (scc3_ok N).mi_tree__size a0 r h

structure RecOk4 (R : Rec4) : Prop where
 mi_tree__depth : ∀ (a0 : STree) (r : Int), R.mi_tree__depth a0 = some r → AC0 131 [.agg [V.i a0.kind, V.i a0.op, V.s a0.text, V.s a0.other, sL eST a0.kids]] [] (V.i r) []

theorem mi_tree__depth_F_ok (N : Nat) (R : Rec4) (HR : RecOk4 R) (a0 : STree) {r : Int} (h : mi_tree__depth_F N R a0 = some r) :
    AC0 131 [.agg [V.i a0.kind, V.i a0.op, V.s a0.text, V.s a0.other, sL eST a0.kids]] [] (V.i r) [] := by
 rw [mi_tree__depth_F] at h
 refine AC.enter Tryz.func131 rfl (cV 100 (cV 101 (CO.seq' (CO.sw mix (wR 2 101 (W.len Dk eST a0.kids [] (by kernel_rfl) (by kernel_rfl) (wR 1 101 (wF ?_))))))))
 refine CO.block' (CO.loopJ (fun (⟨a0, y37, y38⟩ : (STree × Int × Int)) => ⟨tl 20 [(3, V.i y37), (7, sL eST a0.kids), (8, V.i (a0.kids.length : Int)), (9, V.i y38)], []⟩) (fun n i => mi_tree__depth_l1 N R n i = some r) (n0 := N) (i0 := (a0, 0, 0)) (wS [] [3, 7, 8, 9]) h (fun i h => by simp [mi_tree__depth_l1] at h) ?_)
 rintro n1 ⟨a0, y37, y38⟩ h53 ih54
 rw [mi_tree__depth_l1] at h53
 refine cV 163 (CO.seq' ?_)
 refine cI h53 (fun _ h53 => ?_) (fun _ h53 => ?_)
 ·refine CO.skip (CO.seq' (CO.block' (bB h53 fun e54 hx62 h53 => (CO.sw mix (W.ixDr Dk eST hx62 5 (by kernel_rfl) (encSTree_eq e54) (by kernel_rfl) (wR 3 163 (wF (bB h53 fun r56 hx64 h53 => ?_))))))))
  refine CO.endR (tl 20 [(3, V.i (if r56 > y37 then r56 else y37)), (7, sL eST a0.kids), (8, V.i (a0.kids.length : Int)), (9, V.i y38)]) [] mix (by
   refine wR 2 164 (W.call0 (HR.mi_tree__depth e54 _ hx64) cok131 rfl (by kernel_rfl) (wR 2 164 ?_))
   exact fI
   ) (fun st hw => ?_)
  refine CO.weak hw ?_
  exact cK 164 ih54 (a0, (if r56 > y37 then r56 else y37), (IntKind.wrap .i64 (y38 + 1))) h53 [] [3, 7, 8, 9]
 refine CO.exit (cV 163 ?_)
 cases h53
 exact e1 2 id

theorem scc4_ok : ∀ N, RecOk4 (scc4 N)
 | 0 => ⟨fun _ _ h => (by cases h)⟩
 | N + 1 => ⟨fun a0 _ h => mi_tree__depth_F_ok N (scc4 N) (scc4_ok N) a0 h⟩

theorem mi_tree__depth_ok (N : Nat) (a0 : STree) {r : Int} (h : mi_tree__depth N a0 = some r) :
  AC0 131 [.agg [V.i a0.kind, V.i a0.op, V.s a0.text, V.s a0.other, sL eST a0.kids]] [] (V.i r) [] :=
 (scc4_ok N).mi_tree__depth a0 r h

theorem mi_bounded_ok (N : Nat) (a0 : STree) {r : SFault} (h : mi_bounded N a0 = some r) :
    AC0 71 [.agg [V.i a0.kind, V.i a0.op, V.s a0.text, V.s a0.other, sL eST a0.kids]] [] (.agg [V.i r.Kind, V.i r.At]) [] := by
 rw [mi_bounded] at h
 refine AC.enter Tryz.func71 rfl (cV 100 (CO.seq' (CO.block' (bB h fun r6 hx8 h => (cC 1 102 (mi_tree__size_ok N a0 hx8) cok130 ?_)))))
 refine cI h (fun _ h => ?_) (fun _ h => ?_)
 ·refine cV 102 (CO.ret ?_)
  cases h
  exact eG [] (.inr rfl) (RetV.one rfl (OneR.cell Dk (r := .agg [V.i 1, V.i 0]) (i := 101) (ety := 40) (cs := [V.i 1, V.i 0]) (by kernel_rfl) (by kernel_rfl) (by kernel_rfl)))
 refine bB h fun r8 hx11 h => (cC 1 102 (mi_tree__depth_ok N a0 hx11) cok131 ?_)
 refine cI h (fun _ h => ?_) (fun _ h => ?_)
 ·refine cV 102 (CO.ret ?_)
  cases h
  exact eG [] (.inr rfl) (RetV.one rfl (OneR.cell Dk (r := .agg [V.i 4, V.i 0]) (i := 101) (ety := 40) (cs := [V.i 4, V.i 0]) (by kernel_rfl) (by kernel_rfl) (by kernel_rfl)))
 refine CO.skip (cV 102 (CO.ret ?_))
 cases h
 exact eG [] (.inr rfl) (RetV.one rfl (OneR.cell Dk (r := .agg [V.i 0, V.i 0]) (i := 101) (ety := 40) (cs := [V.i 0, V.i 0]) (by kernel_rfl) (by kernel_rfl) (by kernel_rfl)))

structure RecOk5 (R : Rec5) : Prop where
 mi_tree__add : ∀ (a0 : STree) (p0 : LN) (r : LN), R.mi_tree__add a0 p0 = some r → AC0 132 [.agg [V.i a0.kind, V.i a0.op, V.s a0.text, V.s a0.other, sL eST a0.kids], .own 0] [(0, .vec false 73 5 (p0.map (eSN true)))] (.own 100) [(100, .vec false 73 5 (r.map (eSN true)))]

theorem mi_tree__add_F_ok (N : Nat) (R : Rec5) (HR : RecOk5 R) (a0 : STree) (p0 : LN) {r : LN} (h : mi_tree__add_F N R a0 p0 = some r) :
    AC0 132 [.agg [V.i a0.kind, V.i a0.op, V.s a0.text, V.s a0.other, sL eST a0.kids], .own 0] [(0, .vec false 73 5 (p0.map (eSN true)))] (.own 100) [(100, .vec false 73 5 (r.map (eSN true)))] := by
 rw [mi_tree__add_F] at h
 refine AC.enter Tryz.func132 rfl (cV 100 (cV 101 (CO.seq' (CO.sw mix (wR 2 102 (W.len Dk eST a0.kids [] (by kernel_rfl) (by kernel_rfl) (wR 1 102 (wF ?_))))))))
 refine CO.block' (CO.loopJ (fun (⟨a0, y59, y60, y61⟩ : (STree × Int × LN × (List Int))) => ⟨tl 40 [(1, .own 100), (5, .loc 101 0), (18, sL eST a0.kids), (19, V.i (a0.kids.length : Int)), (20, V.i y59)], [(100, .vec false 73 5 (y60.map (eSN true))), (101, .cells 73 [V.i a0.kind, V.i a0.op, V.s a0.text, V.s a0.other, .own 102]), (102, vX 3 1 eNI y61)]⟩) (fun n i => mi_tree__add_l1 N R n i = some r) (n0 := N) (i0 := (a0, 0, p0, [])) ((Weak.nilCell 101 4 102 3 1 (ety := 73) (cs := [V.i a0.kind, V.i a0.op, V.s a0.text, V.s a0.other, .c (.slice none 0 0)]) (by kernel_rfl) (by kernel_rfl) (by kernel_rfl)).trans (wS [(0, 100), (101, 101), (102, 102)] [1, 5, 18, 19, 20])) h (fun i h => by simp [mi_tree__add_l1] at h) ?_)
 rintro n1 ⟨a0, y59, y60, y61⟩ h77 ih78
 rw [mi_tree__add_l1] at h77
 refine cV 171 (CO.seq' ?_)
 refine cI h77 (fun _ h77 => ?_) (fun _ h77 => ?_)
 ·refine CO.skip (CO.seq' (CO.block' (bB h77 fun e84 hx88 h77 => (CO.sw mix (W.ixDr Dk eST hx88 5 (by kernel_rfl) (encSTree_eq e84) (by kernel_rfl) (wR 3 171 (wF (bB h77 fun r86 hx90 h77 => ?_))))))))
  refine CO.sw mix (wR 2 172 (W.call (HR.mi_tree__add e84 y60 _ hx90) cok132 [(100, 0)] [(100, 172)] [172] lO (by kernel_rfl) (by kernel_rfl) (wR 1 173 (wF (bB h77 fun x88 hx92 h77 => ?_)))))
  refine CO.endR (tl 40 [(1, .own 172), (5, .loc 101 0), (18, sL eST a0.kids), (19, V.i (a0.kids.length : Int)), (20, V.i y59)]) [(101, .cells 73 [V.i a0.kind, V.i a0.op, V.s a0.text, V.s a0.other, .own 174]), (174, vX 3 1 eNI x88), (172, .vec false 73 5 (r86.map (eSN true)))] mix (by
   refine wR 3 173 (W.len Dk (eSN true) r86 [172] (by kernel_rfl) (by kernel_rfl) (wR 2 173 (W.appO Dk eNI (a := 102) (c := 173) (el := 3) (sz := 1) 8 hx92 rfl 174 (by kernel_rfl) (wR 2 175 ?_))))
   exact fI
   ) (fun st hw => ?_)
  refine CO.weak hw ?_
  exact cK 175 ih78 (a0, (IntKind.wrap .i64 (y59 + 1)), r86, x88) h77 [(172, 100), (101, 101), (174, 102)] [1, 5, 18, 19, 20]
 refine CO.exit (bB h77 fun x90 hx94 h77 => (CO.sw mix (wR 3 171 (W.appO Dk (eSN true) (a := 100) (c := 171) (el := 73) (sz := 5) 72 hx94 rfl 172 (by kernel_rfl) (wR 1 173 (wF (CO.ret ?_)))))))
 cases h77
 exact eG [(172, 100)] (.inr rfl) (RetV.one rfl (oT (t := 4) (r := .own 172)))

theorem scc5_ok : ∀ N, RecOk5 (scc5 N)
 | 0 => ⟨fun _ _ _ h => (by cases h)⟩
 | N + 1 => ⟨fun a0 p0 _ h => mi_tree__add_F_ok N (scc5 N) (scc5_ok N) a0 p0 h⟩

theorem mi_tree__add_ok (N : Nat) (a0 : STree) (p0 : LN) {r : LN} (h : mi_tree__add N a0 p0 = some r) :
  AC0 132 [.agg [V.i a0.kind, V.i a0.op, V.s a0.text, V.s a0.other, sL eST a0.kids], .own 0] [(0, .vec false 73 5 (p0.map (eSN true)))] (.own 100) [(100, .vec false 73 5 (r.map (eSN true)))] :=
 (scc5_ok N).mi_tree__add a0 p0 r h

theorem mi_tree__list_ok (N : Nat) (a0 : STree) {r : LN} (h : mi_tree__list N a0 = some r) :
    AC0 72 [.agg [V.i a0.kind, V.i a0.op, V.s a0.text, V.s a0.other, sL eST a0.kids]] [] (.own 100) [(100, .vec false 73 5 (r.map (eSN true)))] := by
 rw [mi_tree__list] at h
 refine AC.enter Tryz.func72 rfl (cV 100 (bB h fun r2 hx2 h => (CO.sw mix (wR 1 101 (W.callK (AC.nilArg 1 0 73 5 (mi_tree__add_ok N a0 [] hx2) (by kernel_rfl) (by kernel_rfl) (by kernel_rfl) (by kernel_rfl) rfl) cok132 [] [(100, 101)] [1] [101] lO (by kernel_rfl) (by kernel_rfl) (wR 1 102 (wF (CO.ret ?_))))))))
 cases h
 exact eG [(101, 100)] (.inr rfl) (RetV.one rfl (oT (t := 2) (r := .own 101)))

theorem mi_ParseExpr_ok (N : Nat) (a0 : LT) (a1 : SPos) {r : (LN × Int × SFault)} (h : mi_ParseExpr N a0 a1 = some r) :
    AC Tryz.prog (GS [0, 1, 2]) 44 [sL eTk a0, .agg [V.i a1.Level, V.b a1.Dollar, V.b a1.NoIn, V.b a1.NoGt, V.b a1.NoSign]] [] (.tup [.own 100, V.i r.2.1, .agg [V.i r.2.2.Kind, V.i r.2.2.At]]) [(100, .vec false 73 5 (r.1.map (eSN true)))] := by
 rw [mi_ParseExpr] at h
 refine AC.enter Tryz.func44 rfl (cV 100 (CO.seq' (bB h fun r4 hx5 h => (cC 1 102 (AC.gs (mi_PosOk_ok a1 hx5) (by decide)) cok68 ?_))))
 refine cI h (fun _ h => ?_) (fun _ h => ?_)
 ·refine cV 102 (CO.weak (Weak.nil 4 102 73 5 (by kernel_rfl) (by kernel_rfl)) (CO.ret ?_))
  cases h
  exact eG [(102, 100)] (.inr rfl) (RetV.three rfl (oT (t := 4) (r := .own 102)) (oT (t := 5) (r := V.i 0)) (OneR.cell Dk (r := .agg [V.i 3, V.i 0]) (i := 101) (ety := 40) (cs := [V.i 3, V.i 0]) (by kernel_rfl) (by kernel_rfl) (by kernel_rfl)))
 refine CO.skip (CO.seq' (bB h fun r8 hx11 h => (cC 1 102 (mi_checked_ok N a0 hx11) cok69 (cV 103 ?_))))
 refine cI h (fun _ h => ?_) (fun _ h => ?_)
 ·refine cV 103 (CO.weak (Weak.nil 4 103 73 5 (by kernel_rfl) (by kernel_rfl)) (CO.ret ?_))
  have h := sI h
  subst h
  exact eG [(103, 100)] (.inr rfl) (RetV.three rfl (oT (t := 4) (r := .own 103)) (oT (t := 5) (r := V.i 0)) (OneR.cell Dk (r := .agg [V.i r8.Kind, V.i r8.At]) (i := 101) (ety := 40) (cs := [V.i r8.Kind, V.i r8.At]) (by kernel_rfl) (by kernel_rfl) (by kernel_rfl)))
 refine CO.skip (cU 4 103 (tl 53 [(0, sL eTk a0), (3, .loc 100 0), (6, .loc 101 0), (8, .loc 103 0)]) [(103, .cells 98 [sL eTk a0, V.i 0, V.b false, .c (.slice none 0 0)]), (101, .cells 40 [V.i 0, V.i 0]), (100, .cells 30 [V.i a1.Level, V.b a1.Dollar, V.b a1.NoIn, V.b a1.NoGt, V.b a1.NoSign])] (CO.weak (st' := ⟨tl 53 [(0, sL eTk a0), (3, .loc 100 0), (6, .loc 101 0), (8, .loc 103 0)], [(104, vN []), (103, cP 98 a0 0 false 104), (101, .cells 40 [V.i 0, V.i 0]), (100, .cells 30 [V.i a1.Level, V.b a1.Dollar, V.b a1.NoIn, V.b a1.NoGt, V.b a1.NoSign])]⟩) ((Weak.nilCell 103 3 104 9 1 (ety := 98) (cs := [sL eTk a0, V.i 0, V.b false, .c (.slice none 0 0)]) (by kernel_rfl) (by kernel_rfl) (by kernel_rfl)).trans (Weak.eq (by kernel_rfl) (by kernel_rfl))) (bB h fun r11 hx15 h => (CO.sw mix (wR 2 105 (W.call (AC.gs (mp_level_ok N a1 a0 0 false [] hx15) (by decide)) cok70 [(103, 0), (104, 1)] [(0, 103), (100, 105)] [105] lO (by kernel_rfl) (by kernel_rfl) (wR 2 106 (wF ?_))))))))
 refine CO.seq' (cV 107 ?_)
 refine cI h (fun _ h => ?_) (fun _ h => ?_)
 ·refine bB h fun r15 hx21 h => (cC 5 107 (AC.gs (mi_placeOf_ok a0 r11.2.1 hx21) (by decide)) cok46 (CO.weak (Weak.nil 4 107 73 5 (by kernel_rfl) (by kernel_rfl)) (CO.ret ?_)))
  have h := sI h
  subst h
  exact eG [(107, 100)] (.inr rfl) (RetV.three rfl (oT (t := 4) (r := .own 107)) (oT (t := 5) (r := V.i 0)) (OneR.cell Dk (r := .agg [V.i 3, V.i r15]) (i := 101) (ety := 40) (cs := [V.i 3, V.i r15]) (by kernel_rfl) (by kernel_rfl) (by kernel_rfl)))
 refine CO.skip (CO.seq' (bB h fun r19 hx26 h => (cC 2 107 (AC.gs (mi_bounded_ok N r11.1.tree hx26) (by decide)) cok71 (cV 108 ?_))))
 refine cI h (fun _ h => ?_) (fun _ h => ?_)
 ·refine cV 108 (CO.weak (Weak.nil 4 108 73 5 (by kernel_rfl) (by kernel_rfl)) (CO.ret ?_))
  have h := sI h
  subst h
  exact eG [(108, 100)] (.inr rfl) (RetV.three rfl (oT (t := 4) (r := .own 108)) (oT (t := 5) (r := V.i 0)) (OneR.cell Dk (r := .agg [V.i r19.Kind, V.i r19.At]) (i := 101) (ety := 40) (cs := [V.i r19.Kind, V.i r19.At]) (by kernel_rfl) (by kernel_rfl) (by kernel_rfl)))
 refine CO.skip (bB h fun r21 hx29 h => (CO.sw mix (wR 2 108 (W.call (AC.gs (mi_tree__list_ok N r11.1.tree hx29) (by decide)) cok72 [] [(100, 108)] [108] lO (by kernel_rfl) (by kernel_rfl) (wR 8 109 (wF (CO.ret ?_)))))))
 have h := sI h
 subst h
 exact eG [(108, 100)] (.inr rfl) (RetV.three rfl (oT (t := 4) (r := .own 108)) (oT (t := 5) (r := V.i r11.2.1)) (OneR.cell Dk (r := .agg [V.i 0, V.i 0]) (i := 101) (ety := 40) (cs := [V.i 0, V.i 0]) (by kernel_rfl) (by kernel_rfl) (by kernel_rfl)))

theorem mi_whole_ok (N : Nat) (a0 : LT) (a1 : SPos) {r : (LN × Bool)} (h : mi_whole N a0 a1 = some r) :
    AC Tryz.prog (GS [0, 1, 2]) 52 [sL eTk a0, .agg [V.i a1.Level, V.b a1.Dollar, V.b a1.NoIn, V.b a1.NoGt, V.b a1.NoSign]] [] (.tup [.own 100, V.b r.2]) [(100, .vec false 73 5 (r.1.map (eSN true)))] := by
 rw [mi_whole] at h
 refine AC.enter Tryz.func52 rfl (cV 100 (bB h fun r2 hx2 h => (CO.sw mix (wR 2 101 (W.call (mi_ParseExpr_ok N a0 a1 hx2) cok44 [] [(100, 101)] [101] lO (by kernel_rfl) (by kernel_rfl) (wR 8 102 (wF (bB h fun y3 hv4 h => ?_))))))))
 refine CO.cutR (tl 26 [(4, .own 100), (5, V.b y3)]) [(100, .vec false 73 5 (r2.1.map (eSN true)))] mix (by
  refine wR 5 103 ?_
  refine wJ 20 hv4 (fun hv4 => ?_) (fun hv4 => ?_)
  ·refine wR 2 103 (W.len Dk eTk a0 [] (by kernel_rfl) (by kernel_rfl) (wR 4 103 ?_))
   cases hv4
   exact fS [(101, 100)] [4, 5]
  refine wR 7 103 ?_
  cases hv4
  exact fS [(101, 100)] [4, 5]
  ) ?_
 refine CO.ret ?_
 have h := sI h
 subst h
 exact eG [(100, 100)] (.inr rfl) (RetV.two rfl (oT (t := 4) (r := .own 100)) (oT (t := 5) (r := V.b y3)))

theorem mi_Without_ok (N : Nat) (a0 : LT) (a1 : SSpan) {r : LT} (h : mi_Without N a0 a1 = some r) :
    AC0 38 [sL eTk a0, .agg [V.i a1.From, V.i a1.To]] [] (.own 100) [(100, vX 55 3 eTk r)] := by
 rw [mi_Without] at h
 refine AC.enter Tryz.func38 rfl (cV 100 (cV 101 (CO.seq' (CO.sw mix (wR 1 102 (W.len Dk eTk a0 [] (by kernel_rfl) (by kernel_rfl) (wR 1 102 (wF ?_))))))))
 refine CO.block' (CO.loopJ (fun (⟨a0, a1, y49, y50⟩ : (LT × SSpan × Int × LT)) => ⟨tl 32 [(3, .loc 100 0), (5, .own 101), (9, sL eTk a0), (10, V.i (a0.length : Int)), (11, V.i y49)], [(100, .cells 54 [V.i a1.From, V.i a1.To]), (101, vX 55 3 eTk y50)]⟩) (fun n i => mi_Without_l1 N n i = some r) (n0 := N) (i0 := (a0, a1, 0, [])) (wS [(100, 100), (101, 101)] [3, 5, 9, 10, 11]) h (fun i h => by simp [mi_Without_l1] at h) ?_)
 rintro n1 ⟨a0, a1, y49, y50⟩ h103 ih104
 rw [mi_Without_l1] at h103
 refine cV 168 (CO.seq' ?_)
 refine cI h103 (fun _ h103 => ?_) (fun _ h103 => ?_)
 ·refine CO.skip ?_
  refine CO.join (fun (⟨a0, y49, a1, y69⟩ : (LT × Int × SSpan × LT)) => ⟨tl 32 [(3, .loc 100 0), (5, .own 101), (9, sL eTk a0), (10, V.i (a0.length : Int)), (11, V.i y49)], [(100, .cells 54 [V.i a1.From, V.i a1.To]), (101, vX 55 3 eTk y69)]⟩) (fun i => mi_Without_k2 N (mi_Without_l1 N n1) i = some r) ?_ ?_
  · rintro ⟨a0, y49, a1, y69⟩ h115
    rw [mi_Without_k2] at h115
    exact cK 171 ih104 (a0, a1, (IntKind.wrap .i64 (y49 + 1)), y69) h115 [(100, 100), (101, 101)] [3, 5, 9, 10, 11]
  intro hk116
  refine CO.block' (bB h103 fun e71 hx118 h103 => (CO.sw mix (wR 1 168 (W.ixD Dk eTk hx118 3 (by kernel_rfl) (by kernel_rfl) (wR 4 168 (wF (bB h103 fun y72 hv120 h103 => ?_)))))))
  refine CO.cutR (tl 32 [(3, .loc 100 0), (5, .own 101), (7, .loc 102 0), (9, sL eTk a0), (10, V.i (a0.length : Int)), (11, V.i y49), (25, V.b y72)]) [(100, .cells 54 [V.i a1.From, V.i a1.To]), (101, vX 55 3 eTk y50), (102, .cells 55 [V.i e71.Kind, V.s e71.Text, V.i e71.At])] mix (by
   refine wR 5 169 ?_
   refine wJ 20 hv120 (fun hv120 => ?_) (fun hv120 => ?_)
   ·refine wR 5 169 ?_
    cases hv120
    exact fS [(100, 100), (101, 101), (168, 102)] [3, 5, 7, 9, 10, 11, 25]
   refine wR 5 169 ?_
   cases hv120
   exact fS [(100, 100), (101, 101), (168, 102)] [3, 5, 7, 9, 10, 11, 25]
   ) ?_
  refine cI h103 (fun _ h103 => ?_) (fun _ h103 => ?_)
  ·refine bB h103 fun x74 hx124 h103 => (CO.w mix (wR 3 169 (W.appO Dk eTk (a := 101) (c := 169) (el := 55) (sz := 3) 32 hx124 rfl 170 (by kernel_rfl) (wR 1 171 ?_))))
   exact wK hk116 (a0, y49, a1, x74) h103 [(100, 100), (170, 101)] [3, 5, 9, 10, 11]
  exact sK hk116 (a0, y49, a1, y50) h103 [(100, 100), (101, 101)] [3, 5, 9, 10, 11]
 refine CO.exit (cV 168 (CO.ret ?_))
 cases h103
 exact eG [(101, 100)] (.inr rfl) (RetV.one rfl (oT (t := 4) (r := .own 101)))

theorem m_slices_Equal_int_ok (N : Nat) (a0 : List Int) (a1 : List Int) {r : Bool} (h : m_slices_Equal_int N a0 a1 = some r) :
    AC0 77 [sL eNI a0, sL eNI a1] [] (V.b r) [] := by
 rw [m_slices_Equal_int] at h
 refine AC.enter Tryz.func77 rfl (cV 100 (CO.seq' (CO.sw mix (wR 1 100 (W.len Dk eNI a0 [] (by kernel_rfl) (by kernel_rfl) (wR 1 100 (W.len Dk eNI a1 [] (by kernel_rfl) (by kernel_rfl) (wR 1 100 ?_))))))))
 refine wF ?_
 refine cI h (fun _ h => ?_) (fun _ h => ?_)
 ·refine cV 100 ?_
  cases h
  exact e1 4 id
 refine CO.skip (CO.seq' (CO.sw mix (wR 1 100 (W.len Dk eNI a0 [] (by kernel_rfl) (by kernel_rfl) (wR 1 100 (wF (CO.block' (CO.loopJ (fun (⟨a0, a1, y35⟩ : ((List Int) × (List Int) × Int)) => ⟨tl 26 [(0, sL eNI a0), (1, sL eNI a1), (12, V.i (a0.length : Int)), (13, V.i y35)], []⟩) (fun n i => m_slices_Equal_int_l1 N n i = some r) (n0 := N) (i0 := (a0, a1, 0)) (wS [] [0, 1, 12, 13]) h (fun i h => by simp [m_slices_Equal_int_l1] at h) ?_))))))))
 rintro n1 ⟨a0, a1, y35⟩ h65 ih66
 rw [m_slices_Equal_int_l1] at h65
 refine cV 160 (CO.seq' ?_)
 refine cI h65 (fun _ h65 => ?_) (fun _ h65 => ?_)
 ·refine CO.skip (CO.seq' (CO.block' (cV 160 (bB h65 fun e51 hx76 h65 => (bB h65 fun e52 hx77 h65 => (CO.sw mix (wR 2 160 (W.ixD Dk eNI hx76 1 (by kernel_rfl) (by kernel_rfl) ?_))))))))
  refine wR 3 160 (W.ixD Dk eNI hx77 1 (by kernel_rfl) (by kernel_rfl) (wR 2 160 (wF ?_)))
  refine cI h65 (fun _ h65 => ?_) (fun _ h65 => ?_)
  ·refine cV 160 ?_
   cases h65
   exact e1 4 id
  refine CO.skip ?_
  exact cK 160 ih66 (a0, a1, (IntKind.wrap .i64 (y35 + 1))) h65 [] [0, 1, 12, 13]
 refine CO.exit (cV 160 ?_)
 cases h65
 exact e1 4 id

theorem mi_SameTree_1_ok (N : Nat) (a0 : SNode) (a1 : SNode) {r : Bool} (h : mi_SameTree_1 N a0 a1 = some r) :
    AC0 76 [.agg [V.i a0.Kind, V.i a0.Op, V.s a0.Text, V.s a0.Other, sL eNI a0.Kids], .agg [V.i a1.Kind, V.i a1.Op, V.s a1.Text, V.s a1.Other, sL eNI a1.Kids]] [] (V.b r) [] := by
 rw [mi_SameTree_1] at h
 refine AC.enter Tryz.func76 rfl (cV 100 (bB h fun y2 hv6 h => ?_))
 refine CO.cutR (tl 38 [(4, V.b y2)]) [] mix (by
  refine wR 6 102 ?_
  refine wJ 10 hv6 (fun hv6 => ?_) (fun hv6 => ?_)
  ·refine wR 7 102 ?_
   refine wJ 17 hv6 (fun hv6 => ?_) (fun hv6 => ?_)
   ·refine wR 7 102 ?_
    refine wJ 24 hv6 (fun hv6 => ?_) (fun hv6 => ?_)
    ·refine wR 7 102 ?_
     refine wJ 31 hv6 (fun hv6 => ?_) (fun hv6 => ?_)
     ·refine wR 4 102 (bB hv6 fun r3 hx11 hv6 => (W.call0 (m_slices_Equal_int_ok N a0.Kids a1.Kids hx11) cok77 rfl (by kernel_rfl) (wR 2 102 ?_)))
      cases hv6
      exact fS [] [4]
     refine wR 7 102 ?_
     cases hv6
     exact fS [] [4]
    refine wR 14 102 ?_
    cases hv6
    exact fS [] [4]
   refine wR 21 102 ?_
   cases hv6
   exact fS [] [4]
  refine wR 28 102 ?_
  cases hv6
  exact fS [] [4]
  ) ?_
 cases h
 exact e1 4 id

theorem m_slices_EqualFunc_Node_ok (N : Nat) (a0 : LN) (a1 : LN) {r : Bool} (h : m_slices_EqualFunc_Node N a0 a1 = some r) :
    AC0 75 [.sl false false (a0.map (eSN false)), .sl false false (a1.map (eSN false)), .fn 76 []] [] (V.b r) [] := by
 rw [m_slices_EqualFunc_Node] at h
 refine AC.enter Tryz.func75 rfl (cV 100 (CO.seq' (CO.sw mix (wR 1 100 (W.len Dk (eSN false) a0 [] (by kernel_rfl) (by kernel_rfl) (wR 1 100 (W.len Dk (eSN false) a1 [] (by kernel_rfl) (by kernel_rfl) (wR 1 100 ?_))))))))
 refine wF ?_
 refine cI h (fun _ h => ?_) (fun _ h => ?_)
 ·refine cV 100 ?_
  cases h
  exact e1 6 id
 refine CO.skip (CO.seq' (CO.sw mix (wR 1 100 (W.len Dk (eSN false) a0 [] (by kernel_rfl) (by kernel_rfl) (wR 1 100 (wF (CO.block' (CO.loopJ (fun (⟨a1, a0, y51⟩ : (LN × LN × Int)) => ⟨tl 32 [(1, .sl false false (a1.map (eSN false))), (2, .fn 76 []), (15, .sl false false (a0.map (eSN false))), (16, V.i (a0.length : Int)), (17, V.i y51)], []⟩) (fun n i => m_slices_EqualFunc_Node_l1 N n i = some r) (n0 := N) (i0 := (a1, a0, 0)) (wS [] [1, 2, 15, 16, 17]) h (fun i h => by simp [m_slices_EqualFunc_Node_l1] at h) ?_))))))))
 rintro n1 ⟨a1, a0, y51⟩ h85 ih86
 rw [m_slices_EqualFunc_Node_l1] at h85
 refine cV 164 (CO.seq' ?_)
 refine cI h85 (fun _ h85 => ?_) (fun _ h85 => ?_)
 ·refine CO.skip (CO.seq' (CO.block' (bB h85 fun e72 hx97 h85 => (CO.sw mix (wR 1 164 (W.ixD Dk (eSN false) hx97 5 (by kernel_rfl) (by kernel_rfl) (wR 4 164 (wF ?_))))))))
  refine bB h85 fun e74 hx99 h85 => (CO.sw mix (wR 2 165 (W.ixD Dk (eSN false) hx99 5 (by kernel_rfl) (by kernel_rfl) (wR 3 165 (wF (bB h85 fun r76 hx101 h85 => (cC 3 166 (mi_SameTree_1_ok N e72 e74 hx101) cok76 ?_)))))))
  refine cI h85 (fun _ h85 => ?_) (fun _ h85 => ?_)
  ·refine cV 166 ?_
   cases h85
   exact e1 6 id
  refine CO.skip ?_
  exact cK 166 ih86 (a1, a0, (IntKind.wrap .i64 (y51 + 1))) h85 [] [1, 2, 15, 16, 17]
 refine CO.exit (cV 164 ?_)
 cases h85
 exact e1 6 id

theorem mi_SameTree_ok (N : Nat) (a0 : LN) (a1 : LN) {r : Bool} (h : mi_SameTree N a0 a1 = some r) :
    AC0 53 [.sl false false (a0.map (eSN false)), .sl false false (a1.map (eSN false))] [] (V.b r) [] := by
 rw [mi_SameTree] at h
 refine AC.enter Tryz.func53 rfl (cV 100 (bB h fun r2 hx2 h => (cC 2 100 (m_slices_EqualFunc_Node_ok N a0 a1 hx2) cok75 ?_)))
 cases h
 exact e1 4 id

theorem mi_redundant_ok (N : Nat) (a0 : LT) (a1 : SPos) (a2 : SSpan) {r : Bool} (h : mi_redundant N a0 a1 a2 = some r) :
    AC Tryz.prog (GS [0, 1, 2]) 31 [sL eTk a0, .agg [V.i a1.Level, V.b a1.Dollar, V.b a1.NoIn, V.b a1.NoGt, V.b a1.NoSign], .agg [V.i a2.From, V.i a2.To]] [] (V.b r) [] := by
 rw [mi_redundant] at h
 refine AC.enter Tryz.func31 rfl (cV 100 (bB h fun r2 hx2 h => (CO.sw mix (wR 2 102 (W.call (mi_whole_ok N a0 a1 hx2) cok52 [] [(100, 102)] [102] lO (by kernel_rfl) (by kernel_rfl) (wR 5 103 (wF (bB h fun r5 hx5 h => ?_))))))))
 refine bB h fun r6 hx6 h => (CO.sw mix (wR 2 103 (W.call (AC.gs (mi_Without_ok N a0 a2 hx5) (by decide)) cok38 [] [(100, 103)] [103] lO (by kernel_rfl) (by kernel_rfl) (wR 1 104 (W.lend (mi_whole_ok N r5 a1 hx6) cok52 [(100, 104)] [104] (LayOk.cons (j := 103) eTk eTk r5 (by kernel_rfl) (fun _ => rfl) lO) (.tup _ (.cons (.own _) (.cons (.c _) .nil))) (.cons (DeepR.map (fun _ => (.cons (.c _) (.cons (.c _) (.cons (.c _) (.cons (.c _) (.cons (.sl _ _ (DeepR.map (fun _ => (.cons (.c _) .nil)) _)) .nil)))))) _) .nil) (by kernel_rfl) (by kernel_rfl) (wR 5 105 (wF (bB h fun y8 hv10 h => ?_))))))))
 refine CO.cutR (tl 34 [(6, V.b y8)]) [] mix (by
  refine wR 2 105 ?_
  refine wJ 26 hv10 (fun hv10 => ?_) (fun hv10 => ?_)
  ·refine wR 3 105 ?_
   refine wJ 29 hv10 (fun hv10 => ?_) (fun hv10 => ?_)
   ·refine wR 2 105 (bB hv10 fun r9 hx13 hv10 => (W.lend (AC.gs (mi_SameTree_ok N r2.1 r6.1 hx13) (by decide)) cok53 [] [] (LayOk.cons (j := 102) (eSN true) (eSN false) r2.1 (by kernel_rfl) (sh_eSN _) (LayOk.cons (j := 104) (eSN true) (eSN false) r6.1 (by kernel_rfl) (sh_eSN _) lO)) (.c _) .nil (by kernel_rfl) (by kernel_rfl) (wR 2 105 ?_)))
    cases hv10
    exact fS [] [6]
   refine wR 5 105 ?_
   cases hv10
   exact fS [] [6]
  refine wR 8 105 ?_
  cases hv10
  exact fS [] [6]
  ) ?_
 cases h
 exact e1 6 id

theorem mi_Reduce_1_ok (N : Nat) (a0 : SSpan) (p1_0 : Int) (p1_1 : Bool) (p1_2 : Bool) (p1_3 : Bool) (p1_4 : Bool) (p2 : LT) {r : Bool} (h : mi_Reduce_1 N a0 p1_0 p1_1 p1_2 p1_3 p1_4 p2 = some r) :
    AC Tryz.prog (GS [0, 1, 2]) 37 [.agg [V.i a0.From, V.i a0.To], .loc 0 0, .loc 1 0] [(0, .cells 28 [.own 2]), (1, .cells 30 [V.i p1_0, V.b p1_1, V.b p1_2, V.b p1_3, V.b p1_4]), (2, vX 55 3 eTk p2)] (V.b r) [(0, .cells 28 [.own 2]), (1, .cells 30 [V.i p1_0, V.b p1_1, V.b p1_2, V.b p1_3, V.b p1_4]), (2, vX 55 3 eTk p2)] := by
 rw [mi_Reduce_1] at h
 refine AC.enter Tryz.func37 rfl (cV 100 (bB h fun r2 hx2 h => (CO.sw mix (wR 3 101 (W.lend (mi_redundant_ok N p2 (⟨p1_0, p1_1, p1_2, p1_3, p1_4⟩ : SPos) a0 hx2) cok31 [] [] (LayOk.cons (j := 2) eTk eTk p2 (by kernel_rfl) (fun _ => rfl) lO) (.c _) .nil (by kernel_rfl) (by kernel_rfl) (wR 1 101 (wF (CO.ret ?_))))))))
 have h := sI h
 subst h
 exact eG [(0, 0), (1, 1), (2, 2)] (.inr rfl) (RetV.one rfl (oT (t := 4) (r := V.b r2)))

theorem m_slices_IndexFunc_Span_ok (N : Nat) (a0 : List SSpan) (p1_0 : Int) (p1_1 : Bool) (p1_2 : Bool) (p1_3 : Bool) (p1_4 : Bool) (p2 : LT) {r : Int} (h : m_slices_IndexFunc_Span N a0 p1_0 p1_1 p1_2 p1_3 p1_4 p2 = some r) :
    AC Tryz.prog (GS [0, 1, 2]) 36 [sL encSSpan a0, .fn 37 [.loc 0 0, .loc 1 0]] [(0, .cells 28 [.own 2]), (1, .cells 30 [V.i p1_0, V.b p1_1, V.b p1_2, V.b p1_3, V.b p1_4]), (2, vX 55 3 eTk p2)] (V.i r) [(0, .cells 28 [.own 2]), (1, .cells 30 [V.i p1_0, V.b p1_1, V.b p1_2, V.b p1_3, V.b p1_4]), (2, vX 55 3 eTk p2)] := by
 rw [m_slices_IndexFunc_Span] at h
 refine AC.enter Tryz.func36 rfl (cV 100 (CO.seq' (CO.sw mix (wR 1 100 (W.len Dk encSSpan a0 [] (by kernel_rfl) (by kernel_rfl) (wR 1 100 (wF (CO.block' ?_))))))))
 refine CO.loopJ (fun (⟨a0, y35⟩ : ((List SSpan) × Int)) => ⟨tl 19 [(0, sL encSSpan a0), (1, .fn 37 [.loc 0 0, .loc 1 0]), (7, V.i (a0.length : Int)), (8, V.i y35)], [(0, .cells 28 [.own 2]), (1, .cells 30 [V.i p1_0, V.b p1_1, V.b p1_2, V.b p1_3, V.b p1_4]), (2, vX 55 3 eTk p2)]⟩) (fun n i => m_slices_IndexFunc_Span_l1 N p1_0 p1_1 p1_2 p1_3 p1_4 p2 n i = some r) (n0 := N) (i0 := (a0, 0)) (wS [(0, 0), (1, 1), (2, 2)] [0, 1, 7, 8]) h (fun i h => by simp [m_slices_IndexFunc_Span_l1] at h) ?_
 rintro n1 ⟨a0, y35⟩ h63 ih64
 rw [m_slices_IndexFunc_Span_l1] at h63
 refine cV 160 (CO.seq' ?_)
 refine cI h63 (fun _ h63 => ?_) (fun _ h63 => ?_)
 ·refine CO.skip (CO.seq' (CO.block' (cV 160 (bB h63 fun e51 hx74 h63 => (bB h63 fun r52 hx75 h63 => (CO.sw mix (wR 3 160 (W.ixD Dk encSSpan hx74 2 (by kernel_rfl) (by kernel_rfl) ?_))))))))
  refine wR 1 160 (W.call (mi_Reduce_1_ok N e51 p1_0 p1_1 p1_2 p1_3 p1_4 p2 hx75) cok37 [(0, 0), (1, 1), (2, 2)] [(0, 0), (1, 1), (2, 2)] [] lO (by kernel_rfl) (by kernel_rfl) (wF ?_))
  refine cI h63 (fun _ h63 => ?_) (fun _ h63 => ?_)
  ·refine cV 160 (CO.ret ?_)
   have h63 := sI h63
   subst h63
   exact eG [(0, 0), (1, 1), (2, 2)] (.inr rfl) (RetV.one rfl (oT (t := 4) (r := V.i y35)))
  refine CO.skip ?_
  exact cK 160 ih64 (a0, (IntKind.wrap .i64 (y35 + 1))) h63 [(0, 0), (1, 1), (2, 2)] [0, 1, 7, 8]
 refine CO.exit (cV 160 (CO.ret ?_))
 cases h63
 exact eG [(0, 0), (1, 1), (2, 2)] (.inr rfl) (RetV.one rfl (oT (t := 4) (r := V.i (-1))))

theorem mi_Reduce_ok (N : Nat) (a0 : LT) (a1 : SPos) {r : LT} (h : mi_Reduce N a0 a1 = some r) :
    AC Tryz.prog (GS [0, 1, 2]) 17 [sL eTk a0, .agg [V.i a1.Level, V.b a1.Dollar, V.b a1.NoIn, V.b a1.NoGt, V.b a1.NoSign]] [] (.own 100) [(100, vX 55 3 eTk r)] := by
 rw [mi_Reduce] at h
 refine AC.enter Tryz.func17 rfl (cV 100 (bB h fun r2 hx2 h => (CO.sw mix (wR 1 101 (W.call (AC.gs (m_slices_Clone_Token_ok a0 hx2) (by decide)) cok35 [] [(100, 101)] [101] lO (by kernel_rfl) (by kernel_rfl) (wR 2 102 (wF ?_)))))))
 refine CO.join (fun (y22 : LT) => ⟨tl 27 [(5, .loc 100 0)], [(100, .cells 28 [.own 101]), (101, vX 55 3 eTk y22)]⟩) (fun i => mi_Reduce_k1 N i = some r) ?_ ?_
 · rintro y22 h75
   rw [mi_Reduce_k1] at h75
   refine cV 168 (CO.ret ?_)
   cases h75
   exact eG [(101, 100)] (.inr rfl) (RetV.one rfl (oT (t := 4) (r := .own 101)))
 intro hk76
 refine cV 103 (CO.block' (CO.loopJ (fun (⟨a1, y79, y80⟩ : (SPos × Int × LT)) => ⟨tl 27 [(3, .loc 100 0), (5, .loc 101 0), (10, V.i y79)], [(100, .cells 30 [V.i a1.Level, V.b a1.Dollar, V.b a1.NoIn, V.b a1.NoGt, V.b a1.NoSign]), (101, .cells 28 [.own 102]), (102, vX 55 3 eTk y80)]⟩) (fun n i => mi_Reduce_l2 N n i = some r) (n0 := N) (i0 := (a1, 0, r2)) (wS [(100, 100), (102, 101), (101, 102)] [3, 5, 10]) h (fun i h => by simp [mi_Reduce_l2] at h) ?_))
 rintro n2 ⟨a1, y79, y80⟩ h123 ih124
 rw [mi_Reduce_l2] at h123
 refine cV 167 (CO.seq' ?_)
 refine cI h123 (fun _ h123 => ?_) (fun _ h123 => ?_)
 ·refine CO.skip (CO.seq' (CO.block' (bB h123 fun r111 hx139 h123 => ?_)))
  refine CO.cutR (tl 27 [(3, .loc 100 0), (5, .loc 101 0), (6, .own 167), (10, V.i y79)]) [(167, vX 54 2 encSSpan r111), (100, .cells 30 [V.i a1.Level, V.b a1.Dollar, V.b a1.NoIn, V.b a1.NoGt, V.b a1.NoSign]), (101, .cells 28 [.own 102]), (102, vX 55 3 eTk y80)] mix (by
   refine wR 1 167 (W.lend (AC.gs (mi_PairsOf_ok N y80 hx139) (by decide)) cok30 [(100, 167)] [167] (LayOk.cons (j := 102) eTk eTk y80 (by kernel_rfl) (fun _ => rfl) lO) (.own _) (.cons (DeepR.map (fun _ => (.cons (.c _) (.cons (.c _) .nil))) _) .nil) (by kernel_rfl) (by kernel_rfl) (wR 1 168 ?_))
   exact fI
   ) ?_
  refine CO.lay (tl 27 [(3, .loc 100 0), (5, .loc 101 0), (6, sL encSSpan r111), (10, V.i y79)]) [(100, .cells 30 [V.i a1.Level, V.b a1.Dollar, V.b a1.NoIn, V.b a1.NoGt, V.b a1.NoSign]), (101, .cells 28 [.own 102]), (102, vX 55 3 eTk y80)] (LayOk.cons (j := 167) encSSpan encSSpan r111 (by kernel_rfl) (fun _ => rfl) lO) (by kernel_rfl) (by kernel_rfl) (by kernel_rfl) (bB h123 fun r114 hx142 h123 => (CO.sw mix (wR 2 168 (W.call (m_slices_IndexFunc_Span_ok N r111 a1.Level a1.Dollar a1.NoIn a1.NoGt a1.NoSign y80 hx142) cok36 [(101, 0), (100, 1), (102, 2)] [(0, 101), (1, 100), (2, 102)] [] lO (by kernel_rfl) (by kernel_rfl) (wR 1 168 (wF (CO.seq' (cV 168 ?_))))))))
  refine cI h123 (fun _ h123 => ?_) (fun _ h123 => ?_)
  ·refine CO.exit ?_
   exact hk76 y80 h123 _ (wS [(101, 100), (102, 101)] [5])
  refine CO.skip (bB h123 fun e117 hx147 h123 => (bB h123 fun r118 hx148 h123 => ?_))
  refine CO.endR (tl 27 [(3, .loc 100 0), (5, .loc 101 0), (10, V.i y79)]) [(101, .cells 28 [.own 168]), (168, vX 55 3 eTk r118), (100, .cells 30 [V.i a1.Level, V.b a1.Dollar, V.b a1.NoIn, V.b a1.NoGt, V.b a1.NoSign])] mix (by
   refine wR 3 168 (W.ixD Dk encSSpan hx147 2 (by kernel_rfl) (by kernel_rfl) (wR 1 168 (W.lend (AC.gs (mi_Without_ok N y80 e117 hx148) (by decide)) cok38 [(100, 168)] [168] (LayOk.cons (j := 102) eTk eTk y80 (by kernel_rfl) (fun _ => rfl) lO) (.own _) (.cons (DeepR.map (fun _ => (.cons (.c _) (.cons (.c _) (.cons (.c _) .nil)))) _) .nil) (by kernel_rfl) (by kernel_rfl) (wR 1 169 ?_))))
   exact fI
   ) (fun st hw => ?_)
  refine CO.weak hw ?_
  exact cK 169 ih124 (a1, (IntKind.wrap .i64 (y79 + 1)), r118) h123 [(100, 100), (101, 101), (168, 102)] [3, 5, 10]
 refine CO.exit ?_
 exact hk76 y80 h123 _ (wS [(101, 100), (102, 101)] [5])

theorem ml_eqToken_ok (a0 : SToken) (a1 : SToken) {r : Bool} (h : ml_eqToken a0 a1 = some r) :
    AC0 33 [.agg [V.i a0.Kind, V.s a0.Text, V.i a0.At], .agg [V.i a1.Kind, V.s a1.Text, V.i a1.At]] [] (V.b r) [] := by
 rw [ml_eqToken] at h
 refine AC.enter Tryz.func33 rfl (cV 100 (CO.seq' (cV 102 ?_)))
 refine cI h (fun _ h => ?_) (fun _ h => ?_)
 ·refine cV 102 ?_
  cases h
  exact e1 4 id
 refine CO.skip (CO.seq' (cV 102 ?_))
 refine cI h (fun _ h => ?_) (fun _ h => ?_)
 ·refine cV 102 ?_
  cases h
  exact e1 4 id
 refine CO.skip (CO.seq' (cV 102 ?_))
 refine cI h (fun _ h => ?_) (fun _ h => ?_)
 ·refine cV 102 ?_
  cases h
  exact e1 4 id
 refine CO.skip (cV 102 ?_)
 cases h
 exact e1 4 id

theorem ml_eqTokenS_ok (N : Nat) (a0 : LT) (a1 : LT) {r : Bool} (h : ml_eqTokenS N a0 a1 = some r) :
    AC0 12 [sL eTk a0, sL eTk a1] [] (V.b r) [] := by
 rw [ml_eqTokenS] at h
 refine AC.enter Tryz.func12 rfl (cV 100 (CO.seq' (CO.sw mix (wR 1 100 (W.len Dk eTk a0 [] (by kernel_rfl) (by kernel_rfl) (wR 1 100 (W.len Dk eTk a1 [] (by kernel_rfl) (by kernel_rfl) (wR 1 100 ?_))))))))
 refine wF ?_
 refine cI h (fun _ h => ?_) (fun _ h => ?_)
 ·refine cV 100 ?_
  cases h
  exact e1 4 id
 refine CO.skip (CO.seq' (cV 100 (CO.block' (CO.loopJ (fun (⟨a0, a1, y51⟩ : (LT × LT × Int)) => ⟨tl 27 [(0, sL eTk a0), (1, sL eTk a1), (5, V.i y51)], []⟩) (fun n i => ml_eqTokenS_l1 N n i = some r) (n0 := N) (i0 := (a0, a1, 0)) (wS [] [0, 1, 5]) h (fun i h => by simp [ml_eqTokenS_l1] at h) ?_))))
 rintro n1 ⟨a0, a1, y51⟩ h85 ih86
 rw [ml_eqTokenS_l1] at h85
 refine CO.seq' (CO.sw mix (wR 2 160 (W.len Dk eTk a0 [] (by kernel_rfl) (by kernel_rfl) (wR 1 160 (wF ?_)))))
 refine cI h85 (fun _ h85 => ?_) (fun _ h85 => ?_)
 ·refine CO.skip (CO.seq' (CO.block' (bB h85 fun e74 hx99 h85 => (bB h85 fun e75 hx100 h85 => (bB h85 fun r76 hx101 h85 => (CO.sw mix (wR 2 160 (W.ixD Dk eTk hx99 3 (by kernel_rfl) (by kernel_rfl) ?_))))))))
  refine wR 3 160 (W.ixD Dk eTk hx100 3 (by kernel_rfl) (by kernel_rfl) (wR 1 160 (W.call0 (ml_eqToken_ok e74 e75 hx101) cok33 rfl (by kernel_rfl) (wR 1 160 (wF ?_)))))
  refine cI h85 (fun _ h85 => ?_) (fun _ h85 => ?_)
  ·refine cV 160 ?_
   cases h85
   exact e1 4 id
  refine CO.skip ?_
  exact cK 160 ih86 (a0, a1, (IntKind.wrap .i64 (y51 + 1))) h85 [] [0, 1, 5]
 refine CO.exit (cV 160 ?_)
 cases h85
 exact e1 4 id

theorem ml_markText_ok (N : Nat) (a0 : Int) {r : LU} (h : ml_markText N a0 = some r) :
    AC0 34 [V.i a0] [] (V.s r) [] := by
 rw [ml_markText] at h
 refine AC.enter Tryz.func34 rfl (cV 100 (CO.seq' (cV 100 ?_)))
 refine cI h (fun _ h => ?_) (fun _ h => ?_)
 ·refine cV 100 ?_
  cases h
  exact e1 2 id
 refine CO.skip (cV 100 (CO.seq' (CO.block' (CO.loopJ (fun (⟨y13, y14⟩ : (Int × LU)) => ⟨tl 20 [(0, V.i y13), (3, V.s y14)], []⟩) (fun n i => ml_markText_l1 N n i = some r) (n0 := N) (i0 := (a0, [])) (wS [] [0, 3]) h (fun i h => by simp [ml_markText_l1] at h) ?_))))
 rintro n1 ⟨y13, y14⟩ h25 ih26
 rw [ml_markText_l1] at h25
 refine CO.seq' (cV 162 ?_)
 refine cI h25 (fun _ h25 => ?_) (fun _ h25 => ?_)
 ·refine CO.skip (CO.block' (bB h25 fun s20 hx30 h25 => (CO.sw mix (wR 4 162 (wR 1 162 (W.vecEq 162 (nn := true) (e := 5) (k := 1) (rows := [[.c (.int .u8 (IntKind.wrap .u8 (IntKind.wrap .i64 (48 + (Int.tmod y13 10)))))]]) (rows' := [(bytI (IntKind.wrap .i64 (48 + (Int.tmod y13 10))))].map byteRow) (by kernel_rfl) (by first | (simp only [List.map_cons, List.map_nil, ← bytI_row]; done) | (simp only [List.map_cons, List.map_nil, ← bytI_row]; rfl)) (W.strO Dk ([(bytI (IntKind.wrap .i64 (48 + (Int.tmod y13 10))))] : LU) (a := 162) (by kernel_rfl) (wR 1 163 ?_))))))))
  refine W.cat hx30 (by kernel_rfl) (wR 1 163 (wF ?_))
  exact cK 163 ih26 ((IntKind.wrap .i64 (Int.tdiv y13 10)), s20) h25 [] [0, 3]
 refine CO.exit (bB h25 fun s22 hx32 h25 => (CO.sw mix (wR 1 162 (W.cat hx32 (by kernel_rfl) (wR 1 162 (wF ?_))))))
 cases h25
 exact e1 2 id

theorem ml_markTokenS_ok (e0 : TypeId) (N : Nat) (a1 : Int) (p0 : LT) {r : (Int × LT)} (h : ml_markTokenS N a1 p0 = some r) :
    AC0 13 [.own 0, V.i a1] [(0, .vec false e0 3 (p0.map eTk))] (V.i r.1) [(0, .vec false e0 3 (r.2.map eTk))] := by
 rw [ml_markTokenS] at h
 refine AC.enter Tryz.func13 rfl (cV 100 (CO.seq' (cV 100 (CO.block' (CO.loopJ (fun (⟨y119, y120, y121⟩ : (Int × Int × LT)) => ⟨tl 35 [(0, .own 0), (1, V.i y119), (5, V.i y120)], [(0, .vec false e0 3 (y121.map eTk))]⟩) (fun n i => ml_markTokenS_l1 N n i = some r) (n0 := N) (i0 := (a1, 0, p0)) (wS [(0, 0)] [0, 1, 5]) h (fun i h => by simp [ml_markTokenS_l1] at h) ?_)))))
 rintro n1 ⟨y119, y120, y121⟩ h153 ih154
 rw [ml_markTokenS_l1] at h153
 refine CO.seq' (CO.sw mix (wR 2 160 (W.len Dk eTk y121 [0] (by kernel_rfl) (by kernel_rfl) (wR 1 160 (wF ?_)))))
 refine cI h153 (fun _ h153 => ?_) (fun _ h153 => ?_)
 ·refine CO.skip (CO.seq' (CO.block' (bB h153 fun e169 hx173 h153 => (bB h153 fun x170 hu174 h153 => (CO.sw mix (wR 3 160 (W.ixO Dk eTk hx173 0 3 (by kernel_rfl) (wR 1 160 ?_))))))))
  refine W.stO Dk eTk (x' := (⟨y119, e169.Text, e169.At⟩ : SToken)) hx173 hu174 (j := 0) (nn := false) (ety := e0) (sz := 3) (b := 0) (ys := [V.i y119]) (C := []) (R := []) (by kernel_rfl) (by kernel_rfl) (wF (cV 160 (bB h153 fun r174 hx178 h153 => (bB h153 fun e175 hx179 h153 => (bB h153 fun x176 hu180 h153 => (CO.sw mix (wR 3 160 (W.call0 (ml_markText_ok N (IntKind.wrap .i64 (y119 + 1)) hx178) cok34 rfl (by kernel_rfl) ?_))))))))
  refine W.ixO Dk eTk hx179 0 3 (by kernel_rfl) (wR 1 160 (W.stO Dk eTk (x' := (⟨e175.Kind, r174, e175.At⟩ : SToken)) hx179 hu180 (j := 0) (nn := false) (ety := e0) (sz := 3) (b := 1) (ys := [V.s r174]) (C := []) (R := []) (by kernel_rfl) (by kernel_rfl) (wF (cV 160 (bB h153 fun e179 hx183 h153 => (bB h153 fun x180 hu184 h153 => (CO.sw mix (wR 3 160 ?_))))))))
  refine W.ixO Dk eTk hx183 0 3 (by kernel_rfl) (wR 1 160 (W.stO Dk eTk (x' := (⟨e179.Kind, e179.Text, (IntKind.wrap .i64 ((IntKind.wrap .i64 (y119 + 1)) + 1))⟩ : SToken)) hx183 hu184 (j := 0) (nn := false) (ety := e0) (sz := 3) (b := 2) (ys := [V.i (IntKind.wrap .i64 ((IntKind.wrap .i64 (y119 + 1)) + 1))]) (C := []) (R := []) (by kernel_rfl) (by kernel_rfl) (wF ?_)))
  refine cE 3 160 (tl 35 [(0, .own 0), (1, V.i (IntKind.wrap .i64 ((IntKind.wrap .i64 ((IntKind.wrap .i64 (y119 + 1)) + 1)) + 1))), (5, V.i y120)]) [(0, .vec false e0 3 (x180.map eTk))] (fun st hw => ?_)
  refine CO.weak hw ?_
  exact cK 160 ih154 ((IntKind.wrap .i64 ((IntKind.wrap .i64 ((IntKind.wrap .i64 (y119 + 1)) + 1)) + 1)), (IntKind.wrap .i64 (y120 + 1)), x180) h153 [(0, 0)] [0, 1, 5]
 refine CO.exit (cV 160 (CO.ret ?_))
 have h153 := sI h153
 subst h153
 exact eG [(0, 0)] (.inr rfl) (RetV.one rfl (oT (t := 4) (r := V.i y119)))

theorem ml_heldTokenS_ok (N : Nat) (a0 : LT) (a1 : Int) {r : Int} (h : ml_heldTokenS N a0 a1 = some r) :
    AC0 18 [sL eTk a0, V.i a1] [] (V.i r) [] := by
 rw [ml_heldTokenS] at h
 refine AC.enter Tryz.func18 rfl (cV 100 (CO.seq' (cV 100 (CO.block' (CO.loopJ (fun (⟨a0, y133, y134⟩ : (LT × Int × Int)) => ⟨tl 41 [(0, sL eTk a0), (1, V.i y133), (5, V.i y134)], []⟩) (fun n i => ml_heldTokenS_l1 N n i = some r) (n0 := N) (i0 := (a0, a1, 0)) (wS [] [0, 1, 5]) h (fun i h => by simp [ml_heldTokenS_l1] at h) ?_)))))
 rintro n1 ⟨a0, y133, y134⟩ h233 ih234
 rw [ml_heldTokenS_l1] at h233
 refine CO.seq' (CO.sw mix (wR 2 160 (W.len Dk eTk a0 [] (by kernel_rfl) (by kernel_rfl) (wR 1 160 (wF ?_)))))
 refine cI h233 (fun _ h233 => ?_) (fun _ h233 => ?_)
 ·refine CO.skip (CO.seq' (CO.block' (CO.seq' (bB h233 fun e188 hx263 h233 => (CO.sw mix (wR 2 160 (W.ixD Dk eTk hx263 3 (by kernel_rfl) (by kernel_rfl) (wR 4 160 ?_))))))))
  refine wF ?_
  refine cI h233 (fun _ h233 => ?_) (fun _ h233 => ?_)
  ·refine cV 160 ?_
   cases h233
   exact e1 4 id
  refine CO.skip (cV 160 (CO.seq' (bB h233 fun e195 hx272 h233 => (bB h233 fun r196 hx273 h233 => (CO.sw mix (wR 2 160 (W.ixD Dk eTk hx272 3 (by kernel_rfl) (by kernel_rfl) (wR 3 160 ?_))))))))
  refine W.call0 (ml_markText_ok N (IntKind.wrap .i64 (y133 + 1)) hx273) cok34 rfl (by kernel_rfl) (wR 1 160 (wF ?_))
  refine cI h233 (fun _ h233 => ?_) (fun _ h233 => ?_)
  ·refine cV 160 ?_
   cases h233
   exact e1 4 id
  refine CO.skip (cV 160 (CO.seq' (bB h233 fun e200 hx279 h233 => (CO.sw mix (wR 2 160 (W.ixD Dk eTk hx279 3 (by kernel_rfl) (by kernel_rfl) (wR 4 160 (wF ?_))))))))
  refine cI h233 (fun _ h233 => ?_) (fun _ h233 => ?_)
  ·refine cV 160 ?_
   cases h233
   exact e1 4 id
  refine CO.skip ?_
  refine cE 3 160 (tl 41 [(0, sL eTk a0), (1, V.i (IntKind.wrap .i64 ((IntKind.wrap .i64 ((IntKind.wrap .i64 (y133 + 1)) + 1)) + 1))), (5, V.i y134)]) [] (fun st hw => ?_)
  refine CO.weak hw ?_
  exact cK 160 ih234 (a0, (IntKind.wrap .i64 ((IntKind.wrap .i64 ((IntKind.wrap .i64 (y133 + 1)) + 1)) + 1)), (IntKind.wrap .i64 (y134 + 1))) h233 [] [0, 1, 5]
 refine CO.exit (cV 160 ?_)
 cases h233
 exact e1 4 id

theorem ml_FnExactReduce_ok (N : Nat) (a0 : LT) (a1 : SPos) {r : Bool} (h : ml_FnExactReduce N a0 a1 = some r) :
    AC Tryz.prog (GS [0, 1, 2]) 4 [sL eTk a0, .agg [V.i a1.Level, V.b a1.Dollar, V.b a1.NoIn, V.b a1.NoGt, V.b a1.NoSign]] [] (V.b r) [] := by
 rw [ml_FnExactReduce] at h
 refine AC.enter Tryz.func4 rfl (cV 100 (cV 101 (bB h fun r2 hx2 h => (cC 2 101 (AC.gs (ml_szTokenS_ok N a0 1048576 hx2) (by decide)) cok6 (CO.seq' (cV 101 ?_))))))
 refine cI h (fun _ h => ?_) (fun _ h => ?_)
 ·refine cV 101 ?_
  cases h
  exact e1 4 id
 refine CO.skip (bB h fun r6 hx8 h => (bB h fun r7 hx9 h => (bB h fun r8 hx10 h => (CO.sw mix (wR 1 101 (W.call (AC.gs (ml_toTokenS_ok N a0 hx8) (by decide)) cok8 [] [(100, 101)] [101] lO (by kernel_rfl) (by kernel_rfl) (wR 1 102 (W.call0 (AC.gs (ml_toPos_ok a1 hx9) (by decide)) cok9 rfl (by kernel_rfl) ?_))))))))
 refine W.lend (AC.gs (ms_Reduce_ok N r6 r7 hx10) (by decide)) cok16 [(100, 102)] [102] (LayOk.cons (j := 101) eTk eTk r6 (by kernel_rfl) (fun _ => rfl) lO) (.own _) (.cons (DeepR.map (fun _ => (.cons (.c _) (.cons (.c _) (.cons (.c _) .nil)))) _) .nil) (by kernel_rfl) (by kernel_rfl) (wR 1 103 (wF (bB h fun r10 hx12 h => (CO.sw mix (wR 1 103 (W.call (AC.gs (ml_toTokenS_ok N a0 hx12) (by decide)) cok8 [] [(100, 103)] [103] lO (by kernel_rfl) (by kernel_rfl) (wR 1 104 (wF ?_))))))))
 refine bB h fun r13 hx15 h => (bB h fun r14 hx16 h => (CO.sw mix (wR 2 104 (W.call0 (AC.gs (ml_toPos_ok a1 hx15) (by decide)) cok9 rfl (by kernel_rfl) (W.lend (mi_Reduce_ok N r10 r13 hx16) cok17 [(100, 104)] [104] (LayOk.cons (j := 103) eTk eTk r10 (by kernel_rfl) (fun _ => rfl) lO) (.own _) (.cons (DeepR.map (fun _ => (.cons (.c _) (.cons (.c _) (.cons (.c _) .nil)))) _) .nil) (by kernel_rfl) (by kernel_rfl) (wR 1 105 (wF (CO.seq' ?_))))))))
 refine bB h fun r18 hx21 h => (CO.sw mix (wR 2 105 (W.lend (AC.gs (ml_eqTokenS_ok N r14 r8 hx21) (by decide)) cok12 [] [] (LayOk.cons (j := 104) eTk eTk r14 (by kernel_rfl) (fun _ => rfl) (LayOk.cons (j := 102) eTk eTk r8 (by kernel_rfl) (fun _ => rfl) lO)) (.c _) .nil (by kernel_rfl) (by kernel_rfl) (wR 1 105 (wF ?_)))))
 refine cI h (fun _ h => ?_) (fun _ h => ?_)
 ·refine cV 105 ?_
  cases h
  exact e1 4 id
 refine CO.skip (CO.seq' (bB h fun r25 hx30 h => (bB h fun r26 hx31 h => (CO.sw mix (wR 2 105 (W.call (AC.gs (ml_toTokenS_ok N a0 hx30) (by decide)) cok8 [] [(100, 105)] [105] lO (by kernel_rfl) (by kernel_rfl) (W.lend (AC.gs (ml_eqTokenS_ok N r10 r25 hx31) (by decide)) cok12 [] [] (LayOk.cons (j := 103) eTk eTk r10 (by kernel_rfl) (fun _ => rfl) (LayOk.cons (j := 105) eTk eTk r25 (by kernel_rfl) (fun _ => rfl) lO)) (.c _) .nil (by kernel_rfl) (by kernel_rfl) (wR 1 106 ?_))))))))
 refine wF ?_
 refine cI h (fun _ h => ?_) (fun _ h => ?_)
 ·refine cV 106 ?_
  cases h
  exact e1 4 id
 refine CO.skip (cV 106 (bB h fun r28 hx34 h => (CO.sw mix (wR 2 106 (W.call (AC.gs (ml_markTokenS_ok 55 N 1 r10 hx34) (by decide)) cok13 [(103, 0)] [(0, 103)] [] lO (by kernel_rfl) (by kernel_rfl) (wR 1 106 (wF (CO.seq' ?_))))))))
 refine bB h fun y33 hv43 h => ?_
 refine CO.cutR (tl 77 [(0, sL eTk a0), (3, .loc 100 0), (6, .own 101), (8, .own 102), (48, V.b y33)]) [(100, .cells 24 [V.i a1.Level, V.b a1.Dollar, V.b a1.NoIn, V.b a1.NoGt, V.b a1.NoSign]), (101, vX 55 3 eTk r8), (102, vX 55 3 eTk r14)] mix (by
  refine wR 3 106 ?_
  refine wJ 43 hv43 (fun hv43 => ?_) (fun hv43 => ?_)
  ·refine wR 5 106 ?_
   cases hv43
   exact fS [(100, 100), (102, 101), (104, 102)] [0, 3, 6, 8, 48]
  refine wR 2 106 (bB hv43 fun r34 hx45 hv43 => (W.lend (AC.gs (ml_eqTokenS_ok N r14 r8 hx45) (by decide)) cok12 [] [] (LayOk.cons (j := 104) eTk eTk r14 (by kernel_rfl) (fun _ => rfl) (LayOk.cons (j := 102) eTk eTk r8 (by kernel_rfl) (fun _ => rfl) lO)) (.c _) .nil (by kernel_rfl) (by kernel_rfl) (wR 2 106 ?_)))
  cases hv43
  exact fS [(100, 100), (102, 101), (104, 102)] [0, 3, 6, 8, 48]
  ) ?_
 refine cI h (fun _ h => ?_) (fun _ h => ?_)
 ·refine cV 106 ?_
  cases h
  exact e1 4 id
 refine CO.skip (cV 106 (bB h fun r36 hx48 h => (CO.sw mix (wR 2 106 (W.call (AC.gs (ml_markTokenS_ok 55 N 1 r14 hx48) (by decide)) cok13 [(102, 0)] [(0, 102)] [] lO (by kernel_rfl) (by kernel_rfl) (wR 1 106 (wF (cV 106 ?_))))))))
 refine bB h fun r38 hx50 h => (CO.sw mix (wR 2 106 (W.lend (AC.gs (ml_heldTokenS_ok N r36.2 1 hx50) (by decide)) cok18 [] [] (LayOk.cons (j := 102) eTk eTk r36.2 (by kernel_rfl) (fun _ => rfl) lO) (.c _) .nil (by kernel_rfl) (by kernel_rfl) (wR 1 106 (wF (CO.seq' (cV 106 ?_)))))))
 refine cI h (fun _ h => ?_) (fun _ h => ?_)
 ·refine cV 106 ?_
  cases h
  exact e1 4 id
 refine CO.skip (CO.seq' (cV 106 ?_))
 refine cI h (fun _ h => ?_) (fun _ h => ?_)
 ·refine cV 106 ?_
  cases h
  exact e1 4 id
 refine CO.skip (bB h fun r42 hx58 h => (bB h fun r43 hx59 h => (bB h fun r44 hx60 h => (CO.sw mix (wR 1 106 (W.call (AC.gs (ml_toTokenS_ok N a0 hx58) (by decide)) cok8 [] [(100, 106)] [106] lO (by kernel_rfl) (by kernel_rfl) (wR 1 107 (W.call0 (AC.gs (ml_toPos_ok a1 hx59) (by decide)) cok9 rfl (by kernel_rfl) ?_))))))))
 refine W.lend (mi_Reduce_ok N r42 r43 hx60) cok17 [(100, 107)] [107] (LayOk.cons (j := 106) eTk eTk r42 (by kernel_rfl) (fun _ => rfl) lO) (.own _) (.cons (DeepR.map (fun _ => (.cons (.c _) (.cons (.c _) (.cons (.c _) .nil)))) _) .nil) (by kernel_rfl) (by kernel_rfl) (wR 1 108 (wF (CO.seq' (bB h fun r48 hx65 h => (CO.sw mix (wR 2 108 (W.lend (AC.gs (ml_eqTokenS_ok N r44 r8 hx65) (by decide)) cok12 [] [] (LayOk.cons (j := 107) eTk eTk r44 (by kernel_rfl) (fun _ => rfl) (LayOk.cons (j := 101) eTk eTk r8 (by kernel_rfl) (fun _ => rfl) lO)) (.c _) .nil (by kernel_rfl) (by kernel_rfl) (wR 1 108 ?_))))))))
 refine wF ?_
 refine cI h (fun _ h => ?_) (fun _ h => ?_)
 ·refine cV 108 ?_
  cases h
  exact e1 4 id
 refine CO.skip (cV 108 (bB h fun r50 hx68 h => (CO.sw mix (wR 2 108 (W.lend (AC.gs (ml_heldTokenS_ok N r36.2 1 hx68) (by decide)) cok18 [] [] (LayOk.cons (j := 102) eTk eTk r36.2 (by kernel_rfl) (fun _ => rfl) lO) (.c _) .nil (by kernel_rfl) (by kernel_rfl) (wR 1 108 (wF (CO.seq' ?_))))))))
 refine cV 108 ?_
 refine cI h (fun _ h => ?_) (fun _ h => ?_)
 ·refine cV 108 ?_
  cases h
  exact e1 4 id
 refine CO.skip (CO.seq' (cV 108 ?_))
 refine cI h (fun _ h => ?_) (fun _ h => ?_)
 ·refine cV 108 ?_
  cases h
  exact e1 4 id
 refine CO.skip (cV 108 ?_)
 cases h
 exact e1 4 id

end Go.Proofs.Tryz
