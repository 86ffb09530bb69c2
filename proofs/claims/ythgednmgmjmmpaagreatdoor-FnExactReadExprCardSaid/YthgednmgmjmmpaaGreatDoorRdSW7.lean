/-
 The walks that show that the code computes the models, part 7.
-/
import Derived.Test.YthgednmgmjmmpaaGreatDoorRdSW6
namespace Go.Proofs.Tryz
open Go.Av
set_option maxRecDepth 100000
set_option maxHeartbeats 8000000
set_option linter.unusedSimpArgs false
set_option linter.unusedVariables false

theorem mp_level_ok (N : Nat) (a1 : SPos) (pa : LT) (pb : Int) (pc : Bool) (p1 : LLU) {r : T1} (h : mp_level N a1 pa pb pc p1 = some r) :
    AC0 70 [.loc 0 0, .agg [V.i a1.Level, V.b a1.Dollar, V.b a1.NoIn, V.b a1.NoGt, V.b a1.NoSign]] [(0, cP 98 pa pb pc 1), (1, vN p1)] (.agg (aP r.1)) [(0, cP 98 pa r.2.1 r.2.2.1 100), (100, vN r.2.2.2)] := by
 rw [mp_level] at h
 refine AC.enter Tryz.func70 rfl (cV 100 (cV 102 (CO.seq' (bB h fun y10 hv14 h => ?_))))
 refine CO.cutR (tl 102 [(0, .loc 0 0), (3, .loc 100 0), (4, .loc 101 0), (5, .loc 102 0), (18, V.b y10)]) [(0, cP 98 pa pb pc 1), (100, .cells 30 [V.i a1.Level, V.b a1.Dollar, V.b a1.NoIn, V.b a1.NoGt, V.b a1.NoSign]), (101, .cells 103 [V.i 0, V.i 0, V.s [], V.s [], .c (.slice none 0 0), V.b false]), (102, .cells 121 [V.b a1.NoIn, V.b a1.NoGt]), (1, vN p1)] mix (by
  refine wR 3 103 ?_
  refine wJ 13 hv14 (fun hv14 => ?_) (fun hv14 => ?_)
  ·refine wR 1 103 (bB hv14 fun r11 hx16 hv14 => (W.call (mp_kind_ok pa pb pc p1 hx16) cok111 [(0, 0), (1, 1)] [(0, 0), (1, 1)] [] lO (by kernel_rfl) (by kernel_rfl) (bB hv14 fun r12 hx17 hv14 => (W.call0 (mi_BeginsOperand_ok r11 hx17) cok110 rfl (by kernel_rfl) (wR 2 103 ?_)))))
   cases hv14
   exact fS [(0, 0), (100, 100), (101, 101), (102, 102), (1, 1)] [0, 3, 4, 5, 18]
  refine wR 5 103 ?_
  cases hv14
  exact fS [(0, 0), (100, 100), (101, 101), (102, 102), (1, 1)] [0, 3, 4, 5, 18]
  ) ?_
 refine cI h (fun _ h => ?_) (fun _ h => ?_)
 ·refine bB h fun r14 hx20 h => (CO.sw mix (wR 1 103 (W.call (mp_fail_ok pa pb pc p1 hx20) cok112 [(0, 0), (1, 1)] [(0, 0), (1, 1)] [] lO (by kernel_rfl) (by kernel_rfl) (wR 1 103 (wF (CO.ret ?_))))))
  have h := sI h
  subst h
  exact eG [(0, 0), (1, 100)] (.inr rfl) (RetV.one rfl (OneR.cell Dk (r := .agg (aP r14.1)) (i := 101) (ety := 103) (cs := (aP r14.1)) (by kernel_rfl) (by kernel_rfl) (by kernel_rfl)))
 refine CO.skip (CO.seq' (cV 103 (CO.block' (cV 103 ?_))))
 refine cI h (fun _ h => ?_) (fun _ h => ?_)
 ·refine bB h fun r58 hx85 h => (CO.sw mix (wR 2 103 (W.call (mp_assign_ok N (⟨a1.NoIn, a1.NoGt⟩ : SRules) pa pb pc p1 hx85) cok113 [(0, 0), (1, 1)] [(0, 0), (100, 103)] [103] lO (by kernel_rfl) (by kernel_rfl) (wR 1 104 (wF (CO.ret ?_))))))
  have h := sI h
  subst h
  exact eG [(0, 0), (103, 100)] (.inr rfl) (RetV.one rfl (OneR.cell Dk (r := .agg (aP r58.1)) (i := 101) (ety := 103) (cs := (aP r58.1)) (by kernel_rfl) (by kernel_rfl) (by kernel_rfl)))
 refine cV 103 ?_
 refine cI h (fun _ h => ?_) (fun _ h => ?_)
 ·refine bB h fun r60 hx88 h => (CO.sw mix (wR 2 103 (W.call (mp_cond_ok N (⟨a1.NoIn, a1.NoGt⟩ : SRules) pa pb pc p1 hx88) cok114 [(0, 0), (1, 1)] [(0, 0), (100, 103)] [103] lO (by kernel_rfl) (by kernel_rfl) (wR 1 104 (wF (CO.ret ?_))))))
  have h := sI h
  subst h
  exact eG [(0, 0), (103, 100)] (.inr rfl) (RetV.one rfl (OneR.cell Dk (r := .agg (aP r60.1)) (i := 101) (ety := 103) (cs := (aP r60.1)) (by kernel_rfl) (by kernel_rfl) (by kernel_rfl)))
 refine cV 103 ?_
 refine cI h (fun _ h => ?_) (fun _ h => ?_)
 ·refine bB h fun r62 hx91 h => (CO.sw mix (wR 2 103 (W.call (mp_or_ok N (⟨a1.NoIn, a1.NoGt⟩ : SRules) pa pb pc p1 hx91) cok115 [(0, 0), (1, 1)] [(0, 0), (100, 103)] [103] lO (by kernel_rfl) (by kernel_rfl) (wR 1 104 (wF (CO.ret ?_))))))
  have h := sI h
  subst h
  exact eG [(0, 0), (103, 100)] (.inr rfl) (RetV.one rfl (OneR.cell Dk (r := .agg (aP r62.1)) (i := 101) (ety := 103) (cs := (aP r62.1)) (by kernel_rfl) (by kernel_rfl) (by kernel_rfl)))
 refine cV 103 ?_
 refine cI h (fun _ h => ?_) (fun _ h => ?_)
 ·refine bB h fun r64 hx94 h => (CO.sw mix (wR 2 103 (W.call (mp_and_ok N (⟨a1.NoIn, a1.NoGt⟩ : SRules) pa pb pc p1 hx94) cok116 [(0, 0), (1, 1)] [(0, 0), (100, 103)] [103] lO (by kernel_rfl) (by kernel_rfl) (wR 1 104 (wF (CO.ret ?_))))))
  have h := sI h
  subst h
  exact eG [(0, 0), (103, 100)] (.inr rfl) (RetV.one rfl (OneR.cell Dk (r := .agg (aP r64.1)) (i := 101) (ety := 103) (cs := (aP r64.1)) (by kernel_rfl) (by kernel_rfl) (by kernel_rfl)))
 refine cV 103 ?_
 refine cI h (fun _ h => ?_) (fun _ h => ?_)
 ·refine bB h fun r66 hx97 h => (CO.sw mix (wR 2 103 (W.call (mp_in_ok N (⟨a1.NoIn, a1.NoGt⟩ : SRules) pa pb pc p1 hx97) cok117 [(0, 0), (1, 1)] [(0, 0), (100, 103)] [103] lO (by kernel_rfl) (by kernel_rfl) (wR 1 104 (wF (CO.ret ?_))))))
  have h := sI h
  subst h
  exact eG [(0, 0), (103, 100)] (.inr rfl) (RetV.one rfl (OneR.cell Dk (r := .agg (aP r66.1)) (i := 101) (ety := 103) (cs := (aP r66.1)) (by kernel_rfl) (by kernel_rfl) (by kernel_rfl)))
 refine cV 103 ?_
 refine cI h (fun _ h => ?_) (fun _ h => ?_)
 ·refine bB h fun r68 hx100 h => (CO.sw mix (wR 2 103 (W.call (mp_match_ok N (⟨a1.NoIn, a1.NoGt⟩ : SRules) pa pb pc p1 hx100) cok118 [(0, 0), (1, 1)] [(0, 0), (100, 103)] [103] lO (by kernel_rfl) (by kernel_rfl) (wR 1 104 (wF (CO.ret ?_))))))
  have h := sI h
  subst h
  exact eG [(0, 0), (103, 100)] (.inr rfl) (RetV.one rfl (OneR.cell Dk (r := .agg (aP r68.1)) (i := 101) (ety := 103) (cs := (aP r68.1)) (by kernel_rfl) (by kernel_rfl) (by kernel_rfl)))
 refine cV 103 ?_
 refine cI h (fun _ h => ?_) (fun _ h => ?_)
 ·refine bB h fun r70 hx103 h => (CO.sw mix (wR 2 103 (W.call (mp_compare_ok N (⟨a1.NoIn, a1.NoGt⟩ : SRules) pa pb pc p1 hx103) cok119 [(0, 0), (1, 1)] [(0, 0), (100, 103)] [103] lO (by kernel_rfl) (by kernel_rfl) (wR 1 104 (wF (CO.ret ?_))))))
  have h := sI h
  subst h
  exact eG [(0, 0), (103, 100)] (.inr rfl) (RetV.one rfl (OneR.cell Dk (r := .agg (aP r70.1)) (i := 101) (ety := 103) (cs := (aP r70.1)) (by kernel_rfl) (by kernel_rfl) (by kernel_rfl)))
 refine cV 103 ?_
 refine cI h (fun _ h => ?_) (fun _ h => ?_)
 ·refine bB h fun r72 hx106 h => (CO.sw mix (wR 2 103 (W.call (mp_cat_ok N (⟨a1.NoIn, a1.NoGt⟩ : SRules) pa pb pc p1 hx106) cok120 [(0, 0), (1, 1)] [(0, 0), (100, 103)] [103] lO (by kernel_rfl) (by kernel_rfl) (wR 1 104 (wF (CO.ret ?_))))))
  have h := sI h
  subst h
  exact eG [(0, 0), (103, 100)] (.inr rfl) (RetV.one rfl (OneR.cell Dk (r := .agg (aP r72.1)) (i := 101) (ety := 103) (cs := (aP r72.1)) (by kernel_rfl) (by kernel_rfl) (by kernel_rfl)))
 refine cV 103 ?_
 refine cI h (fun _ h => ?_) (fun _ h => ?_)
 ·refine bB h fun r74 hx109 h => (CO.sw mix (wR 2 103 (W.call (mp_add_ok N (⟨a1.NoIn, a1.NoGt⟩ : SRules) pa pb pc p1 hx109) cok121 [(0, 0), (1, 1)] [(0, 0), (100, 103)] [103] lO (by kernel_rfl) (by kernel_rfl) (wR 1 104 (wF (CO.ret ?_))))))
  have h := sI h
  subst h
  exact eG [(0, 0), (103, 100)] (.inr rfl) (RetV.one rfl (OneR.cell Dk (r := .agg (aP r74.1)) (i := 101) (ety := 103) (cs := (aP r74.1)) (by kernel_rfl) (by kernel_rfl) (by kernel_rfl)))
 refine cV 103 ?_
 refine cI h (fun _ h => ?_) (fun _ h => ?_)
 ·refine bB h fun r76 hx112 h => (CO.sw mix (wR 2 103 (W.call (mp_mul_ok N (⟨a1.NoIn, a1.NoGt⟩ : SRules) pa pb pc p1 hx112) cok122 [(0, 0), (1, 1)] [(0, 0), (100, 103)] [103] lO (by kernel_rfl) (by kernel_rfl) (wR 1 104 (wF (CO.ret ?_))))))
  have h := sI h
  subst h
  exact eG [(0, 0), (103, 100)] (.inr rfl) (RetV.one rfl (OneR.cell Dk (r := .agg (aP r76.1)) (i := 101) (ety := 103) (cs := (aP r76.1)) (by kernel_rfl) (by kernel_rfl) (by kernel_rfl)))
 refine cV 103 ?_
 refine cI h (fun _ h => ?_) (fun _ h => ?_)
 ·refine bB h fun r78 hx115 h => (CO.sw mix (wR 2 103 (W.call (mp_unary_ok N (⟨a1.NoIn, a1.NoGt⟩ : SRules) pa pb pc p1 hx115) cok123 [(0, 0), (1, 1)] [(0, 0), (100, 103)] [103] lO (by kernel_rfl) (by kernel_rfl) (wR 1 104 (wF (CO.ret ?_))))))
  have h := sI h
  subst h
  exact eG [(0, 0), (103, 100)] (.inr rfl) (RetV.one rfl (OneR.cell Dk (r := .agg (aP r78.1)) (i := 101) (ety := 103) (cs := (aP r78.1)) (by kernel_rfl) (by kernel_rfl) (by kernel_rfl)))
 refine cV 103 ?_
 refine cI h (fun _ h => ?_) (fun _ h => ?_)
 ·refine bB h fun r80 hx118 h => (CO.sw mix (wR 2 103 (W.call (mp_pow_ok N (⟨a1.NoIn, a1.NoGt⟩ : SRules) pa pb pc p1 hx118) cok124 [(0, 0), (1, 1)] [(0, 0), (100, 103)] [103] lO (by kernel_rfl) (by kernel_rfl) (wR 1 104 (wF (CO.ret ?_))))))
  have h := sI h
  subst h
  exact eG [(0, 0), (103, 100)] (.inr rfl) (RetV.one rfl (OneR.cell Dk (r := .agg (aP r80.1)) (i := 101) (ety := 103) (cs := (aP r80.1)) (by kernel_rfl) (by kernel_rfl) (by kernel_rfl)))
 refine cV 103 ?_
 refine cI h (fun _ h => ?_) (fun _ h => ?_)
 ·refine bB h fun r82 hx121 h => (CO.sw mix (wR 1 103 (W.call (mp_incr_ok N pa pb pc p1 hx121) cok125 [(0, 0), (1, 1)] [(0, 0), (100, 103)] [103] lO (by kernel_rfl) (by kernel_rfl) (wR 1 104 (wF (CO.ret ?_))))))
  have h := sI h
  subst h
  exact eG [(0, 0), (103, 100)] (.inr rfl) (RetV.one rfl (OneR.cell Dk (r := .agg (aP r82.1)) (i := 101) (ety := 103) (cs := (aP r82.1)) (by kernel_rfl) (by kernel_rfl) (by kernel_rfl)))
 refine cV 103 ?_
 refine cI h (fun _ h => ?_) (fun _ h => ?_)
 ·refine CO.seq' (bB h fun y92 hv136 h => ?_)
  refine CO.cutR (tl 102 [(0, .loc 0 0), (4, .loc 100 0), (95, V.b y92)]) [(0, cP 98 pa pb pc 1), (100, .cells 103 [V.i 0, V.i 0, V.s [], V.s [], .c (.slice none 0 0), V.b false]), (1, vN p1)] mix (by
   refine wR 3 103 ?_
   refine wJ 91 hv136 (fun hv136 => ?_) (fun hv136 => ?_)
   ·refine wR 1 103 (bB hv136 fun r93 hx138 hv136 => (W.call (mp_kind_ok pa pb pc p1 hx138) cok111 [(0, 0), (1, 1)] [(0, 0), (1, 1)] [] lO (by kernel_rfl) (by kernel_rfl) (bB hv136 fun r94 hx139 hv136 => (W.call0 (mi_isStep_ok r93 hx139) cok126 rfl (by kernel_rfl) (wR 1 103 ?_)))))
    cases hv136
    exact fS [(0, 0), (101, 100), (1, 1)] [0, 4, 95]
   refine wR 4 103 ?_
   cases hv136
   exact fS [(0, 0), (101, 100), (1, 1)] [0, 4, 95]
   ) ?_
  refine cI h (fun _ h => ?_) (fun _ h => ?_)
  ·refine bB h fun r96 hx142 h => (CO.sw mix (wR 1 103 (W.call (mp_before_ok N pa pb pc p1 hx142) cok127 [(0, 0), (1, 1)] [(0, 0), (100, 103)] [103] lO (by kernel_rfl) (by kernel_rfl) (wR 1 104 (wF (CO.ret ?_))))))
   have h := sI h
   subst h
   exact eG [(0, 0), (103, 100)] (.inr rfl) (RetV.one rfl (OneR.cell Dk (r := .agg (aP r96.1)) (i := 100) (ety := 103) (cs := (aP r96.1)) (by kernel_rfl) (by kernel_rfl) (by kernel_rfl)))
  refine CO.skip (bB h fun r98 hx144 h => (CO.sw mix (wR 1 103 (W.call (mp_field_ok N pa pb pc p1 hx144) cok128 [(0, 0), (1, 1)] [(0, 0), (100, 103)] [103] lO (by kernel_rfl) (by kernel_rfl) (wR 1 104 (wF (CO.ret ?_)))))))
  have h := sI h
  subst h
  exact eG [(0, 0), (103, 100)] (.inr rfl) (RetV.one rfl (OneR.cell Dk (r := .agg (aP r98.1)) (i := 100) (ety := 103) (cs := (aP r98.1)) (by kernel_rfl) (by kernel_rfl) (by kernel_rfl)))
 refine CO.skip (bB h fun r100 hx146 h => (CO.sw mix (wR 1 103 (W.call (mp_primary_ok N pa pb pc p1 hx146) cok129 [(0, 0), (1, 1)] [(0, 0), (100, 103)] [103] lO (by kernel_rfl) (by kernel_rfl) (wR 1 104 (wF (CO.ret ?_)))))))
 have h := sI h
 subst h
 exact eG [(0, 0), (103, 100)] (.inr rfl) (RetV.one rfl (OneR.cell Dk (r := .agg (aP r100.1)) (i := 101) (ety := 103) (cs := (aP r100.1)) (by kernel_rfl) (by kernel_rfl) (by kernel_rfl)))

structure RecOk3 (R : Rec3) : Prop where
 mi_tree__size : ∀ (a0 : STree) (r : Int), R.mi_tree__size a0 = some r → AC0 130 [.agg [V.i a0.kind, V.i a0.op, V.s a0.text, V.s a0.other, sL eST a0.kids]] [] (V.i r) []

theorem mi_tree__size_F_ok (N : Nat) (R : Rec3) (HR : RecOk3 R) (a0 : STree) {r : Int} (h : mi_tree__size_F N R a0 = some r) :
    AC0 130 [.agg [V.i a0.kind, V.i a0.op, V.s a0.text, V.s a0.other, sL eST a0.kids]] [] (V.i r) [] := by
 rw [mi_tree__size_F] at h
 refine AC.enter Tryz.func130 rfl (cV 100 (cV 101 (CO.seq' (CO.sw mix (wR 2 101 (W.len Dk eST a0.kids [] (by kernel_rfl) (by kernel_rfl) (wR 1 101 (wF ?_))))))))
 refine CO.block' (CO.loopJ (fun (⟨a0, y37, y38⟩ : (STree × Int × Int)) => ⟨tl 19 [(3, V.i y37), (7, sL eST a0.kids), (8, V.i (a0.kids.length : Int)), (9, V.i y38)], []⟩) (fun n i => mi_tree__size_l1 N R n i = some r) (n0 := N) (i0 := (a0, 1, 0)) (wS [] [3, 7, 8, 9]) h (fun i h => by simp [mi_tree__size_l1] at h) ?_)
 rintro n1 ⟨a0, y37, y38⟩ h53 ih54
 rw [mi_tree__size_l1] at h53
 refine cV 163 (CO.seq' ?_)
 refine cI h53 (fun _ h53 => ?_) (fun _ h53 => ?_)
 ·refine CO.skip (CO.seq' (CO.block' (bB h53 fun e54 hx62 h53 => (CO.sw mix (W.ixDr Dk eST hx62 5 (by kernel_rfl) (encSTree_eq e54) (by kernel_rfl) (wR 3 163 (wF (bB h53 fun r56 hx64 h53 => ?_))))))))
  refine CO.endR (tl 19 [(3, V.i (IntKind.wrap .i64 (y37 + r56))), (7, sL eST a0.kids), (8, V.i (a0.kids.length : Int)), (9, V.i y38)]) [] mix (by
   refine wR 2 164 (W.call0 (HR.mi_tree__size e54 _ hx64) cok130 rfl (by kernel_rfl) (wR 2 164 ?_))
   exact fI
   ) (fun st hw => ?_)
  refine CO.weak hw ?_
  exact cK 164 ih54 (a0, (IntKind.wrap .i64 (y37 + r56)), (IntKind.wrap .i64 (y38 + 1))) h53 [] [3, 7, 8, 9]
 refine CO.exit (cV 163 ?_)
 cases h53
 exact e1 2 id

theorem scc3_ok : ∀ N, RecOk3 (scc3 N)
 | 0 => ⟨fun _ _ h => (by cases h)⟩
 | N + 1 => ⟨fun a0 _ h => mi_tree__size_F_ok N (scc3 N) (scc3_ok N) a0 h⟩

theorem mi_tree__size_ok (N : Nat) (a0 : STree) {r : Int} (h : mi_tree__size N a0 = some r) :
  AC0 130 [.agg [V.i a0.kind, V.i a0.op, V.s a0.text, V.s a0.other, sL eST a0.kids]] [] (V.i r) [] :=
 (scc3_ok N).mi_tree__size a0 r h

structure RecOk4 (R : Rec4) : Prop where
 mi_tree__depth : ∀ (a0 : STree) (r : Int), R.mi_tree__depth a0 = some r → AC0 131 [.agg [V.i a0.kind, V.i a0.op, V.s a0.text, V.s a0.other, sL eST a0.kids]] [] (V.i r) []

theorem mi_tree__depth_F_ok (N : Nat) (R : Rec4) (HR : RecOk4 R) (a0 : STree) {r : Int} (h : mi_tree__depth_F N R a0 = some r) :
    AC0 131 [.agg [V.i a0.kind, V.i a0.op, V.s a0.text, V.s a0.other, sL eST a0.kids]] [] (V.i r) [] := by
 rw [mi_tree__depth_F] at h
 refine AC.enter Tryz.func131 rfl (cV 100 (cV 101 (CO.seq' (CO.sw mix (wR 2 101 (W.len Dk eST a0.kids [] (by kernel_rfl) (by kernel_rfl) (wR 1 101 (wF ?_))))))))
 refine CO.block' (CO.loopJ (fun (⟨a0, y37, y38⟩ : (STree × Int × Int)) => ⟨tl 20 [(3, V.i y37), (7, sL eST a0.kids), (8, V.i (a0.kids.length : Int)), (9, V.i y38)], []⟩) (fun n i => mi_tree__depth_l1 N R n i = some r) (n0 := N) (i0 := (a0, 0, 0)) (wS [] [3, 7, 8, 9]) h (fun i h => by simp [mi_tree__depth_l1] at h) ?_)
 rintro n1 ⟨a0, y37, y38⟩ h53 ih54
 rw [mi_tree__depth_l1] at h53
 refine cV 163 (CO.seq' ?_)
 refine cI h53 (fun _ h53 => ?_) (fun _ h53 => ?_)
 ·refine CO.skip (CO.seq' (CO.block' (bB h53 fun e54 hx62 h53 => (CO.sw mix (W.ixDr Dk eST hx62 5 (by kernel_rfl) (encSTree_eq e54) (by kernel_rfl) (wR 3 163 (wF (bB h53 fun r56 hx64 h53 => ?_))))))))
  refine CO.endR (tl 20 [(3, V.i (if r56 > y37 then r56 else y37)), (7, sL eST a0.kids), (8, V.i (a0.kids.length : Int)), (9, V.i y38)]) [] mix (by
   refine wR 2 164 (W.call0 (HR.mi_tree__depth e54 _ hx64) cok131 rfl (by kernel_rfl) (wR 2 164 ?_))
   exact fI
   ) (fun st hw => ?_)
  refine CO.weak hw ?_
  exact cK 164 ih54 (a0, (if r56 > y37 then r56 else y37), (IntKind.wrap .i64 (y38 + 1))) h53 [] [3, 7, 8, 9]
 refine CO.exit (cV 163 ?_)
 cases h53
 exact e1 2 id

theorem scc4_ok : ∀ N, RecOk4 (scc4 N)
 | 0 => ⟨fun _ _ h => (by cases h)⟩
 | N + 1 => ⟨fun a0 _ h => mi_tree__depth_F_ok N (scc4 N) (scc4_ok N) a0 h⟩

theorem mi_tree__depth_ok (N : Nat) (a0 : STree) {r : Int} (h : mi_tree__depth N a0 = some r) :
  AC0 131 [.agg [V.i a0.kind, V.i a0.op, V.s a0.text, V.s a0.other, sL eST a0.kids]] [] (V.i r) [] :=
 (scc4_ok N).mi_tree__depth a0 r h

theorem mi_bounded_ok (N : Nat) (a0 : STree) {r : SFault} (h : mi_bounded N a0 = some r) :
    AC0 71 [.agg [V.i a0.kind, V.i a0.op, V.s a0.text, V.s a0.other, sL eST a0.kids]] [] (.agg [V.i r.Kind, V.i r.At]) [] := by
 rw [mi_bounded] at h
 refine AC.enter Tryz.func71 rfl (cV 100 (CO.seq' (CO.block' (bB h fun r6 hx8 h => (cC 1 102 (mi_tree__size_ok N a0 hx8) cok130 ?_)))))
 refine cI h (fun _ h => ?_) (fun _ h => ?_)
 ·refine cV 102 (CO.ret ?_)
  cases h
  exact eG [] (.inr rfl) (RetV.one rfl (OneR.cell Dk (r := .agg [V.i 1, V.i 0]) (i := 101) (ety := 40) (cs := [V.i 1, V.i 0]) (by kernel_rfl) (by kernel_rfl) (by kernel_rfl)))
 refine bB h fun r8 hx11 h => (cC 1 102 (mi_tree__depth_ok N a0 hx11) cok131 ?_)
 refine cI h (fun _ h => ?_) (fun _ h => ?_)
 ·refine cV 102 (CO.ret ?_)
  cases h
  exact eG [] (.inr rfl) (RetV.one rfl (OneR.cell Dk (r := .agg [V.i 4, V.i 0]) (i := 101) (ety := 40) (cs := [V.i 4, V.i 0]) (by kernel_rfl) (by kernel_rfl) (by kernel_rfl)))
 refine CO.skip (cV 102 (CO.ret ?_))
 cases h
 exact eG [] (.inr rfl) (RetV.one rfl (OneR.cell Dk (r := .agg [V.i 0, V.i 0]) (i := 101) (ety := 40) (cs := [V.i 0, V.i 0]) (by kernel_rfl) (by kernel_rfl) (by kernel_rfl)))

structure RecOk5 (R : Rec5) : Prop where
 mi_tree__add : ∀ (a0 : STree) (p0 : LN) (r : LN), R.mi_tree__add a0 p0 = some r → AC0 132 [.agg [V.i a0.kind, V.i a0.op, V.s a0.text, V.s a0.other, sL eST a0.kids], .own 0] [(0, .vec false 73 5 (p0.map (eSN true)))] (.own 100) [(100, .vec false 73 5 (r.map (eSN true)))]

theorem mi_tree__add_F_ok (N : Nat) (R : Rec5) (HR : RecOk5 R) (a0 : STree) (p0 : LN) {r : LN} (h : mi_tree__add_F N R a0 p0 = some r) :
    AC0 132 [.agg [V.i a0.kind, V.i a0.op, V.s a0.text, V.s a0.other, sL eST a0.kids], .own 0] [(0, .vec false 73 5 (p0.map (eSN true)))] (.own 100) [(100, .vec false 73 5 (r.map (eSN true)))] := by
 rw [mi_tree__add_F] at h
 refine AC.enter Tryz.func132 rfl (cV 100 (cV 101 (CO.seq' (CO.sw mix (wR 2 102 (W.len Dk eST a0.kids [] (by kernel_rfl) (by kernel_rfl) (wR 1 102 (wF ?_))))))))
 refine CO.block' (CO.loopJ (fun (⟨a0, y59, y60, y61⟩ : (STree × Int × LN × (List Int))) => ⟨tl 40 [(1, .own 100), (5, .loc 101 0), (18, sL eST a0.kids), (19, V.i (a0.kids.length : Int)), (20, V.i y59)], [(100, .vec false 73 5 (y60.map (eSN true))), (101, .cells 73 [V.i a0.kind, V.i a0.op, V.s a0.text, V.s a0.other, .own 102]), (102, vX 3 1 eNI y61)]⟩) (fun n i => mi_tree__add_l1 N R n i = some r) (n0 := N) (i0 := (a0, 0, p0, [])) ((Weak.nilCell 101 4 102 3 1 (ety := 73) (cs := [V.i a0.kind, V.i a0.op, V.s a0.text, V.s a0.other, .c (.slice none 0 0)]) (by kernel_rfl) (by kernel_rfl) (by kernel_rfl)).trans (wS [(0, 100), (101, 101), (102, 102)] [1, 5, 18, 19, 20])) h (fun i h => by simp [mi_tree__add_l1] at h) ?_)
 rintro n1 ⟨a0, y59, y60, y61⟩ h77 ih78
 rw [mi_tree__add_l1] at h77
 refine cV 171 (CO.seq' ?_)
 refine cI h77 (fun _ h77 => ?_) (fun _ h77 => ?_)
 ·refine CO.skip (CO.seq' (CO.block' (bB h77 fun e84 hx88 h77 => (CO.sw mix (W.ixDr Dk eST hx88 5 (by kernel_rfl) (encSTree_eq e84) (by kernel_rfl) (wR 3 171 (wF (bB h77 fun r86 hx90 h77 => ?_))))))))
  refine CO.sw mix (wR 2 172 (W.call (HR.mi_tree__add e84 y60 _ hx90) cok132 [(100, 0)] [(100, 172)] [172] lO (by kernel_rfl) (by kernel_rfl) (wR 1 173 (wF (bB h77 fun x88 hx92 h77 => ?_)))))
  refine CO.endR (tl 40 [(1, .own 172), (5, .loc 101 0), (18, sL eST a0.kids), (19, V.i (a0.kids.length : Int)), (20, V.i y59)]) [(101, .cells 73 [V.i a0.kind, V.i a0.op, V.s a0.text, V.s a0.other, .own 174]), (174, vX 3 1 eNI x88), (172, .vec false 73 5 (r86.map (eSN true)))] mix (by
   refine wR 3 173 (W.len Dk (eSN true) r86 [172] (by kernel_rfl) (by kernel_rfl) (wR 2 173 (W.appO Dk eNI (a := 102) (c := 173) (el := 3) (sz := 1) 8 hx92 rfl 174 (by kernel_rfl) (wR 2 175 ?_))))
   exact fI
   ) (fun st hw => ?_)
  refine CO.weak hw ?_
  exact cK 175 ih78 (a0, (IntKind.wrap .i64 (y59 + 1)), r86, x88) h77 [(172, 100), (101, 101), (174, 102)] [1, 5, 18, 19, 20]
 refine CO.exit (bB h77 fun x90 hx94 h77 => (CO.sw mix (wR 3 171 (W.appO Dk (eSN true) (a := 100) (c := 171) (el := 73) (sz := 5) 72 hx94 rfl 172 (by kernel_rfl) (wR 1 173 (wF (CO.ret ?_)))))))
 cases h77
 exact eG [(172, 100)] (.inr rfl) (RetV.one rfl (oT (t := 4) (r := .own 172)))

theorem scc5_ok : ∀ N, RecOk5 (scc5 N)
 | 0 => ⟨fun _ _ _ h => (by cases h)⟩
 | N + 1 => ⟨fun a0 p0 _ h => mi_tree__add_F_ok N (scc5 N) (scc5_ok N) a0 p0 h⟩

theorem mi_tree__add_ok (N : Nat) (a0 : STree) (p0 : LN) {r : LN} (h : mi_tree__add N a0 p0 = some r) :
  AC0 132 [.agg [V.i a0.kind, V.i a0.op, V.s a0.text, V.s a0.other, sL eST a0.kids], .own 0] [(0, .vec false 73 5 (p0.map (eSN true)))] (.own 100) [(100, .vec false 73 5 (r.map (eSN true)))] :=
 (scc5_ok N).mi_tree__add a0 p0 r h

theorem mi_tree__list_ok (N : Nat) (a0 : STree) {r : LN} (h : mi_tree__list N a0 = some r) :
    AC0 72 [.agg [V.i a0.kind, V.i a0.op, V.s a0.text, V.s a0.other, sL eST a0.kids]] [] (.own 100) [(100, .vec false 73 5 (r.map (eSN true)))] := by
 rw [mi_tree__list] at h
 refine AC.enter Tryz.func72 rfl (cV 100 (bB h fun r2 hx2 h => (CO.sw mix (wR 1 101 (W.callK (AC.nilArg 1 0 73 5 (mi_tree__add_ok N a0 [] hx2) (by kernel_rfl) (by kernel_rfl) (by kernel_rfl) (by kernel_rfl) rfl) cok132 [] [(100, 101)] [1] [101] lO (by kernel_rfl) (by kernel_rfl) (wR 1 102 (wF (CO.ret ?_))))))))
 cases h
 exact eG [(101, 100)] (.inr rfl) (RetV.one rfl (oT (t := 2) (r := .own 101)))

theorem mi_ParseExpr_ok (N : Nat) (a0 : LT) (a1 : SPos) {r : (LN × Int × SFault)} (h : mi_ParseExpr N a0 a1 = some r) :
    AC Tryz.prog (GS [0, 1, 2]) 44 [sL eTk a0, .agg [V.i a1.Level, V.b a1.Dollar, V.b a1.NoIn, V.b a1.NoGt, V.b a1.NoSign]] [] (.tup [.own 100, V.i r.2.1, .agg [V.i r.2.2.Kind, V.i r.2.2.At]]) [(100, .vec false 73 5 (r.1.map (eSN true)))] := by
 rw [mi_ParseExpr] at h
 refine AC.enter Tryz.func44 rfl (cV 100 (CO.seq' (bB h fun r4 hx5 h => (cC 1 102 (AC.gs (mi_PosOk_ok a1 hx5) (by decide)) cok68 ?_))))
 refine cI h (fun _ h => ?_) (fun _ h => ?_)
 ·refine cV 102 (CO.weak (Weak.nil 4 102 73 5 (by kernel_rfl) (by kernel_rfl)) (CO.ret ?_))
  cases h
  exact eG [(102, 100)] (.inr rfl) (RetV.three rfl (oT (t := 4) (r := .own 102)) (oT (t := 5) (r := V.i 0)) (OneR.cell Dk (r := .agg [V.i 3, V.i 0]) (i := 101) (ety := 40) (cs := [V.i 3, V.i 0]) (by kernel_rfl) (by kernel_rfl) (by kernel_rfl)))
 refine CO.skip (CO.seq' (bB h fun r8 hx11 h => (cC 1 102 (mi_checked_ok N a0 hx11) cok69 (cV 103 ?_))))
 refine cI h (fun _ h => ?_) (fun _ h => ?_)
 ·refine cV 103 (CO.weak (Weak.nil 4 103 73 5 (by kernel_rfl) (by kernel_rfl)) (CO.ret ?_))
  have h := sI h
  subst h
  exact eG [(103, 100)] (.inr rfl) (RetV.three rfl (oT (t := 4) (r := .own 103)) (oT (t := 5) (r := V.i 0)) (OneR.cell Dk (r := .agg [V.i r8.Kind, V.i r8.At]) (i := 101) (ety := 40) (cs := [V.i r8.Kind, V.i r8.At]) (by kernel_rfl) (by kernel_rfl) (by kernel_rfl)))
 refine CO.skip (cU 4 103 (tl 53 [(0, sL eTk a0), (3, .loc 100 0), (6, .loc 101 0), (8, .loc 103 0)]) [(103, .cells 98 [sL eTk a0, V.i 0, V.b false, .c (.slice none 0 0)]), (101, .cells 40 [V.i 0, V.i 0]), (100, .cells 30 [V.i a1.Level, V.b a1.Dollar, V.b a1.NoIn, V.b a1.NoGt, V.b a1.NoSign])] (CO.weak (st' := ⟨tl 53 [(0, sL eTk a0), (3, .loc 100 0), (6, .loc 101 0), (8, .loc 103 0)], [(104, vN []), (103, cP 98 a0 0 false 104), (101, .cells 40 [V.i 0, V.i 0]), (100, .cells 30 [V.i a1.Level, V.b a1.Dollar, V.b a1.NoIn, V.b a1.NoGt, V.b a1.NoSign])]⟩) ((Weak.nilCell 103 3 104 9 1 (ety := 98) (cs := [sL eTk a0, V.i 0, V.b false, .c (.slice none 0 0)]) (by kernel_rfl) (by kernel_rfl) (by kernel_rfl)).trans (Weak.eq (by kernel_rfl) (by kernel_rfl))) (bB h fun r11 hx15 h => (CO.sw mix (wR 2 105 (W.call (AC.gs (mp_level_ok N a1 a0 0 false [] hx15) (by decide)) cok70 [(103, 0), (104, 1)] [(0, 103), (100, 105)] [105] lO (by kernel_rfl) (by kernel_rfl) (wR 2 106 (wF ?_))))))))
 refine CO.seq' (cV 107 ?_)
 refine cI h (fun _ h => ?_) (fun _ h => ?_)
 ·refine bB h fun r15 hx21 h => (cC 5 107 (AC.gs (mi_placeOf_ok a0 r11.2.1 hx21) (by decide)) cok46 (CO.weak (Weak.nil 4 107 73 5 (by kernel_rfl) (by kernel_rfl)) (CO.ret ?_)))
  have h := sI h
  subst h
  exact eG [(107, 100)] (.inr rfl) (RetV.three rfl (oT (t := 4) (r := .own 107)) (oT (t := 5) (r := V.i 0)) (OneR.cell Dk (r := .agg [V.i 3, V.i r15]) (i := 101) (ety := 40) (cs := [V.i 3, V.i r15]) (by kernel_rfl) (by kernel_rfl) (by kernel_rfl)))
 refine CO.skip (CO.seq' (bB h fun r19 hx26 h => (cC 2 107 (AC.gs (mi_bounded_ok N r11.1.tree hx26) (by decide)) cok71 (cV 108 ?_))))
 refine cI h (fun _ h => ?_) (fun _ h => ?_)
 ·refine cV 108 (CO.weak (Weak.nil 4 108 73 5 (by kernel_rfl) (by kernel_rfl)) (CO.ret ?_))
  have h := sI h
  subst h
  exact eG [(108, 100)] (.inr rfl) (RetV.three rfl (oT (t := 4) (r := .own 108)) (oT (t := 5) (r := V.i 0)) (OneR.cell Dk (r := .agg [V.i r19.Kind, V.i r19.At]) (i := 101) (ety := 40) (cs := [V.i r19.Kind, V.i r19.At]) (by kernel_rfl) (by kernel_rfl) (by kernel_rfl)))
 refine CO.skip (bB h fun r21 hx29 h => (CO.sw mix (wR 2 108 (W.call (AC.gs (mi_tree__list_ok N r11.1.tree hx29) (by decide)) cok72 [] [(100, 108)] [108] lO (by kernel_rfl) (by kernel_rfl) (wR 8 109 (wF (CO.ret ?_)))))))
 have h := sI h
 subst h
 exact eG [(108, 100)] (.inr rfl) (RetV.three rfl (oT (t := 4) (r := .own 108)) (oT (t := 5) (r := V.i r11.2.1)) (OneR.cell Dk (r := .agg [V.i 0, V.i 0]) (i := 101) (ety := 40) (cs := [V.i 0, V.i 0]) (by kernel_rfl) (by kernel_rfl) (by kernel_rfl)))

theorem mi_ReadExpr_ok (N : Nat) (a0 : LU) {r : (LN × SFault)} (h : mi_ReadExpr N a0 = some r) :
    AC Tryz.prog (GS [0, 1, 2]) 20 [V.s a0] [] (.tup [.own 100, .agg [V.i r.2.Kind, V.i r.2.At]]) [(100, .vec false 73 5 (r.1.map (eSN true)))] := by
 rw [mi_ReadExpr] at h
 refine AC.enter Tryz.func20 rfl (cV 100 (bB h fun r2 hx2 h => (CO.sw mix (wR 1 101 (W.call (mi_Lex_ok N a0 hx2) cok43 [] [(100, 101)] [101] lO (by kernel_rfl) (by kernel_rfl) (wR 6 102 (wF (CO.seq' ?_))))))))
 refine cV 103 ?_
 refine cI h (fun _ h => ?_) (fun _ h => ?_)
 ·refine cV 103 (CO.weak (Weak.nil 2 103 73 5 (by kernel_rfl) (by kernel_rfl)) (CO.ret ?_))
  have h := sI h
  subst h
  exact eG [(103, 100)] (.inr rfl) (RetV.two rfl (oT (t := 2) (r := .own 103)) (OneR.cell Dk (r := .agg [V.i r2.2.Kind, V.i r2.2.At]) (i := 100) (ety := 40) (cs := [V.i r2.2.Kind, V.i r2.2.At]) (by kernel_rfl) (by kernel_rfl) (by kernel_rfl)))
 refine CO.skip (bB h fun r5 hx7 h => (bB h fun r6 hx8 h => (CO.sw mix (wR 1 103 (W.call0 (AC.gs (mi_Top_ok  hx7) (by decide)) cok45 rfl (by kernel_rfl) (W.lend (mi_ParseExpr_ok N r2.1 r5 hx8) cok44 [(100, 103)] [103] (LayOk.cons (j := 101) eTk eTk r2.1 (by kernel_rfl) (fun _ => rfl) lO) (.tup _ (.cons (.own _) (.cons (.c _) (.cons (.agg _ (.cons (.c _) (.cons (.c _) .nil))) .nil)))) (.cons (DeepR.map (fun _ => (.cons (.c _) (.cons (.c _) (.cons (.c _) (.cons (.c _) (.cons (.sl _ _ (DeepR.map (fun _ => (.cons (.c _) .nil)) _)) .nil)))))) _) .nil) (by kernel_rfl) (by kernel_rfl) (wR 7 104 (wF ?_))))))))
 refine CO.seq' (cV 104 ?_)
 refine cI h (fun _ h => ?_) (fun _ h => ?_)
 ·refine cV 104 (CO.weak (Weak.nil 2 104 73 5 (by kernel_rfl) (by kernel_rfl)) (CO.ret ?_))
  have h := sI h
  subst h
  exact eG [(104, 100)] (.inr rfl) (RetV.two rfl (oT (t := 2) (r := .own 104)) (OneR.cell Dk (r := .agg [V.i r6.2.2.Kind, V.i r6.2.2.At]) (i := 100) (ety := 40) (cs := [V.i r6.2.2.Kind, V.i r6.2.2.At]) (by kernel_rfl) (by kernel_rfl) (by kernel_rfl)))
 refine CO.skip (CO.seq' (CO.sw mix (wR 2 104 (W.len Dk eTk r2.1 [101] (by kernel_rfl) (by kernel_rfl) (wR 1 104 (wF ?_))))))
 refine cI h (fun _ h => ?_) (fun _ h => ?_)
 ·refine bB h fun r10 hx16 h => (CO.sw mix (wR 2 104 (W.lend (AC.gs (mi_placeOf_ok r2.1 r6.2.1 hx16) (by decide)) cok46 [] [] (LayOk.cons (j := 101) eTk eTk r2.1 (by kernel_rfl) (fun _ => rfl) lO) (.c _) .nil (by kernel_rfl) (by kernel_rfl) (wR 3 104 (wF (CO.weak (Weak.nil 2 104 73 5 (by kernel_rfl) (by kernel_rfl)) (CO.ret ?_)))))))
  have h := sI h
  subst h
  exact eG [(104, 100)] (.inr rfl) (RetV.two rfl (oT (t := 2) (r := .own 104)) (OneR.cell Dk (r := .agg [V.i 3, V.i r10]) (i := 100) (ety := 40) (cs := [V.i 3, V.i r10]) (by kernel_rfl) (by kernel_rfl) (by kernel_rfl)))
 refine CO.skip (cV 104 (CO.ret ?_))
 cases h
 exact eG [(103, 100)] (.inr rfl) (RetV.two rfl (oT (t := 2) (r := .own 103)) (OneR.cell Dk (r := .agg [V.i 0, V.i 0]) (i := 100) (ety := 40) (cs := [V.i 0, V.i 0]) (by kernel_rfl) (by kernel_rfl) (by kernel_rfl)))

theorem ml_eqIntS_ok (N : Nat) (a0 : List Int) (a1 : List Int) {r : Bool} (h : ml_eqIntS N a0 a1 = some r) :
    AC0 73 [sL eNI a0, sL eNI a1] [] (V.b r) [] := by
 rw [ml_eqIntS] at h
 refine AC.enter Tryz.func73 rfl (cV 100 (CO.seq' (CO.sw mix (wR 1 100 (W.len Dk eNI a0 [] (by kernel_rfl) (by kernel_rfl) (wR 1 100 (W.len Dk eNI a1 [] (by kernel_rfl) (by kernel_rfl) (wR 1 100 ?_))))))))
 refine wF ?_
 refine cI h (fun _ h => ?_) (fun _ h => ?_)
 ·refine cV 100 ?_
  cases h
  exact e1 4 id
 refine CO.skip (CO.seq' (cV 100 (CO.block' (CO.loopJ (fun (⟨a0, a1, y35⟩ : ((List Int) × (List Int) × Int)) => ⟨tl 26 [(0, sL eNI a0), (1, sL eNI a1), (5, V.i y35)], []⟩) (fun n i => ml_eqIntS_l1 N n i = some r) (n0 := N) (i0 := (a0, a1, 0)) (wS [] [0, 1, 5]) h (fun i h => by simp [ml_eqIntS_l1] at h) ?_))))
 rintro n1 ⟨a0, a1, y35⟩ h65 ih66
 rw [ml_eqIntS_l1] at h65
 refine CO.seq' (CO.sw mix (wR 2 160 (W.len Dk eNI a0 [] (by kernel_rfl) (by kernel_rfl) (wR 1 160 (wF ?_)))))
 refine cI h65 (fun _ h65 => ?_) (fun _ h65 => ?_)
 ·refine CO.skip (CO.seq' (CO.block' (bB h65 fun e51 hx76 h65 => (bB h65 fun e52 hx77 h65 => (CO.sw mix (wR 2 160 (W.ixD Dk eNI hx76 1 (by kernel_rfl) (by kernel_rfl) (wR 3 160 ?_))))))))
  refine W.ixD Dk eNI hx77 1 (by kernel_rfl) (by kernel_rfl) (wR 2 160 (wF ?_))
  refine cI h65 (fun _ h65 => ?_) (fun _ h65 => ?_)
  ·refine cV 160 ?_
   cases h65
   exact e1 4 id
  refine CO.skip ?_
  exact cK 160 ih66 (a0, a1, (IntKind.wrap .i64 (y35 + 1))) h65 [] [0, 1, 5]
 refine CO.exit (cV 160 ?_)
 cases h65
 exact e1 4 id

theorem ml_eqNode_ok (N : Nat) (a0 : SNode) (a1 : SNode) {r : Bool} (h : ml_eqNode N a0 a1 = some r) :
    AC0 47 [.agg [V.i a0.Kind, V.i a0.Op, V.s a0.Text, V.s a0.Other, sL eNI a0.Kids], .agg [V.i a1.Kind, V.i a1.Op, V.s a1.Text, V.s a1.Other, sL eNI a1.Kids]] [] (V.b r) [] := by
 rw [ml_eqNode] at h
 refine AC.enter Tryz.func47 rfl (cV 100 (CO.seq' (cV 102 ?_)))
 refine cI h (fun _ h => ?_) (fun _ h => ?_)
 ·refine cV 102 ?_
  cases h
  exact e1 4 id
 refine CO.skip (CO.seq' (cV 102 ?_))
 refine cI h (fun _ h => ?_) (fun _ h => ?_)
 ·refine cV 102 ?_
  cases h
  exact e1 4 id
 refine CO.skip (CO.seq' (cV 102 ?_))
 refine cI h (fun _ h => ?_) (fun _ h => ?_)
 ·refine cV 102 ?_
  cases h
  exact e1 4 id
 refine CO.skip (CO.seq' (cV 102 ?_))
 refine cI h (fun _ h => ?_) (fun _ h => ?_)
 ·refine cV 102 ?_
  cases h
  exact e1 4 id
 refine CO.skip (CO.seq' (bB h fun r4 hx13 h => (cC 4 102 (ml_eqIntS_ok N a0.Kids a1.Kids hx13) cok73 ?_)))
 refine cI h (fun _ h => ?_) (fun _ h => ?_)
 ·refine cV 102 ?_
  cases h
  exact e1 4 id
 refine CO.skip (cV 102 ?_)
 cases h
 exact e1 4 id

theorem ml_eqNodeS_ok (N : Nat) (a0 : LN) (a1 : LN) {r : Bool} (h : ml_eqNodeS N a0 a1 = some r) :
    AC0 21 [.sl false false (a0.map (eSN false)), .sl false false (a1.map (eSN false))] [] (V.b r) [] := by
 rw [ml_eqNodeS] at h
 refine AC.enter Tryz.func21 rfl (cV 100 (CO.seq' (CO.sw mix (wR 1 100 (W.len Dk (eSN false) a0 [] (by kernel_rfl) (by kernel_rfl) (wR 1 100 (W.len Dk (eSN false) a1 [] (by kernel_rfl) (by kernel_rfl) (wR 1 100 ?_))))))))
 refine wF ?_
 refine cI h (fun _ h => ?_) (fun _ h => ?_)
 ·refine cV 100 ?_
  cases h
  exact e1 4 id
 refine CO.skip (CO.seq' (cV 100 (CO.block' (CO.loopJ (fun (⟨a0, a1, y51⟩ : (LN × LN × Int)) => ⟨tl 27 [(0, .sl false false (a0.map (eSN false))), (1, .sl false false (a1.map (eSN false))), (5, V.i y51)], []⟩) (fun n i => ml_eqNodeS_l1 N n i = some r) (n0 := N) (i0 := (a0, a1, 0)) (wS [] [0, 1, 5]) h (fun i h => by simp [ml_eqNodeS_l1] at h) ?_))))
 rintro n1 ⟨a0, a1, y51⟩ h85 ih86
 rw [ml_eqNodeS_l1] at h85
 refine CO.seq' (CO.sw mix (wR 2 160 (W.len Dk (eSN false) a0 [] (by kernel_rfl) (by kernel_rfl) (wR 1 160 (wF ?_)))))
 refine cI h85 (fun _ h85 => ?_) (fun _ h85 => ?_)
 ·refine CO.skip (CO.seq' (CO.block' (bB h85 fun e74 hx99 h85 => (bB h85 fun e75 hx100 h85 => (bB h85 fun r76 hx101 h85 => (CO.sw mix (wR 2 160 (W.ixD Dk (eSN false) hx99 5 (by kernel_rfl) (by kernel_rfl) ?_))))))))
  refine wR 3 160 (W.ixD Dk (eSN false) hx100 5 (by kernel_rfl) (by kernel_rfl) (wR 1 160 (W.call0 (ml_eqNode_ok N e74 e75 hx101) cok47 rfl (by kernel_rfl) (wR 1 160 (wF ?_)))))
  refine cI h85 (fun _ h85 => ?_) (fun _ h85 => ?_)
  ·refine cV 160 ?_
   cases h85
   exact e1 4 id
  refine CO.skip ?_
  exact cK 160 ih86 (a0, a1, (IntKind.wrap .i64 (y51 + 1))) h85 [] [0, 1, 5]
 refine CO.exit (cV 160 ?_)
 cases h85
 exact e1 4 id

theorem ml_eqFault_ok (a0 : SFault) (a1 : SFault) {r : Bool} (h : ml_eqFault a0 a1 = some r) :
    AC0 22 [.agg [V.i a0.Kind, V.i a0.At], .agg [V.i a1.Kind, V.i a1.At]] [] (V.b r) [] := by
 rw [ml_eqFault] at h
 refine AC.enter Tryz.func22 rfl (cV 100 (CO.seq' (cV 102 ?_)))
 refine cI h (fun _ h => ?_) (fun _ h => ?_)
 ·refine cV 102 ?_
  cases h
  exact e1 4 id
 refine CO.skip (CO.seq' (cV 102 ?_))
 refine cI h (fun _ h => ?_) (fun _ h => ?_)
 ·refine cV 102 ?_
  cases h
  exact e1 4 id
 refine CO.skip (cV 102 ?_)
 cases h
 exact e1 4 id

theorem ml_markText_ok (N : Nat) (a0 : Int) {r : LU} (h : ml_markText N a0 = some r) :
    AC0 34 [V.i a0] [] (V.s r) [] := by
 rw [ml_markText] at h
 refine AC.enter Tryz.func34 rfl (cV 100 (CO.seq' (cV 100 ?_)))
 refine cI h (fun _ h => ?_) (fun _ h => ?_)
 ·refine cV 100 ?_
  cases h
  exact e1 2 id
 refine CO.skip (cV 100 (CO.seq' (CO.block' (CO.loopJ (fun (⟨y13, y14⟩ : (Int × LU)) => ⟨tl 20 [(0, V.i y13), (3, V.s y14)], []⟩) (fun n i => ml_markText_l1 N n i = some r) (n0 := N) (i0 := (a0, [])) (wS [] [0, 3]) h (fun i h => by simp [ml_markText_l1] at h) ?_))))
 rintro n1 ⟨y13, y14⟩ h25 ih26
 rw [ml_markText_l1] at h25
 refine CO.seq' (cV 162 ?_)
 refine cI h25 (fun _ h25 => ?_) (fun _ h25 => ?_)
 ·refine CO.skip (CO.block' (bB h25 fun s20 hx30 h25 => (CO.sw mix (wR 4 162 (wR 1 162 (W.vecEq 162 (nn := true) (e := 5) (k := 1) (rows := [[.c (.int .u8 (IntKind.wrap .u8 (IntKind.wrap .i64 (48 + (Int.tmod y13 10)))))]]) (rows' := [(bytI (IntKind.wrap .i64 (48 + (Int.tmod y13 10))))].map byteRow) (by kernel_rfl) (by first | (simp only [List.map_cons, List.map_nil, ← bytI_row]; done) | (simp only [List.map_cons, List.map_nil, ← bytI_row]; rfl)) (W.strO Dk ([(bytI (IntKind.wrap .i64 (48 + (Int.tmod y13 10))))] : LU) (a := 162) (by kernel_rfl) (wR 1 163 ?_))))))))
  refine W.cat hx30 (by kernel_rfl) (wR 1 163 (wF ?_))
  exact cK 163 ih26 ((IntKind.wrap .i64 (Int.tdiv y13 10)), s20) h25 [] [0, 3]
 refine CO.exit (bB h25 fun s22 hx32 h25 => (CO.sw mix (wR 1 162 (W.cat hx32 (by kernel_rfl) (wR 1 162 (wF ?_))))))
 cases h25
 exact e1 2 id

theorem ml_markIntS_ok (e0 : TypeId) (N : Nat) (a1 : Int) (p0 : List Int) {r : (Int × (List Int))} (h : ml_markIntS N a1 p0 = some r) :
    AC0 48 [.own 0, V.i a1] [(0, .vec false e0 1 (p0.map eNI))] (V.i r.1) [(0, .vec false e0 1 (r.2.map eNI))] := by
 rw [ml_markIntS] at h
 refine AC.enter Tryz.func48 rfl (cV 100 (CO.seq' (cV 100 (CO.block' (CO.loopJ (fun (⟨y39, y40, y41⟩ : (Int × Int × (List Int))) => ⟨tl 19 [(0, .own 0), (1, V.i y39), (5, V.i y40)], [(0, .vec false e0 1 (y41.map eNI))]⟩) (fun n i => ml_markIntS_l1 N n i = some r) (n0 := N) (i0 := (a1, 0, p0)) (wS [(0, 0)] [0, 1, 5]) h (fun i h => by simp [ml_markIntS_l1] at h) ?_)))))
 rintro n1 ⟨y39, y40, y41⟩ h53 ih54
 rw [ml_markIntS_l1] at h53
 refine CO.seq' (CO.sw mix (wR 2 160 (W.len Dk eNI y41 [0] (by kernel_rfl) (by kernel_rfl) (wR 1 160 (wF ?_)))))
 refine cI h53 (fun _ h53 => ?_) (fun _ h53 => ?_)
 ·refine CO.skip (CO.seq' (CO.block' (bB h53 fun e59 hx63 h53 => (bB h53 fun x60 hu64 h53 => (CO.sw mix (wR 3 160 (W.ixO Dk eNI hx63 0 1 (by kernel_rfl) (W.stO Dk eNI (x' := y39) hx63 hu64 (j := 0) (nn := false) (ety := e0) (sz := 1) (b := 0) (ys := [V.i y39]) (C := []) (R := []) (by kernel_rfl) (by kernel_rfl) ?_))))))))
  refine wF ?_
  refine cE 3 160 (tl 19 [(0, .own 0), (1, V.i (IntKind.wrap .i64 (y39 + 1))), (5, V.i y40)]) [(0, .vec false e0 1 (x60.map eNI))] (fun st hw => ?_)
  refine CO.weak hw ?_
  exact cK 160 ih54 ((IntKind.wrap .i64 (y39 + 1)), (IntKind.wrap .i64 (y40 + 1)), x60) h53 [(0, 0)] [0, 1, 5]
 refine CO.exit (cV 160 (CO.ret ?_))
 have h53 := sI h53
 subst h53
 exact eG [(0, 0)] (.inr rfl) (RetV.one rfl (oT (t := 4) (r := V.i y39)))

theorem ml_markIntS_v2_ok (N : Nat) (a1 : Int) {r : Int} (h : ml_markIntS_v2 N a1 = some r) :
    AC0 48 [sL eNI [], V.i a1] [] (V.i r) [] := by
 rw [ml_markIntS_v2] at h
 refine AC.enter Tryz.func48 rfl (cV 100 (CO.seq' (cV 100 (CO.block' (CO.loopJ (fun (a1 : Int) => ⟨tl 19 [(0, sL eNI []), (1, V.i a1), (5, V.i 0)], []⟩) (fun n i => ml_markIntS_v2_l1 N n i = some r) (n0 := N) (i0 := a1) (wS [] [0, 1, 5]) h (fun i h => by simp [ml_markIntS_v2_l1] at h) ?_)))))
 rintro n1 a1 h3 ih4
 rw [ml_markIntS_v2_l1] at h3
 refine CO.seq' (CO.sw mix (wR 2 120 (W.len Dk eNI [] [] (by kernel_rfl) (by kernel_rfl) (wR 1 120 (wF (CO.ifF (c := false) rfl (by kernel_rfl) (CO.exit (cV 120 ?_))))))))
 cases h3
 exact e1 4 id

theorem ml_markIntS_nil (N : Nat) (k : Int) (l : List Int) {r : (Int × (List Int))} (h : ml_markIntS N k l = some r) (hl : l = []) :
  r.2.map eNI = [] ∧ AC0 48 [.sl false false [], V.i k] [] (V.i r.1) [] := by
 subst hl
 have h2 : r.2 = [] ∧ ml_markIntS_v2 N k = some r.1 := by
  cases N with
  | zero => simp [ml_markIntS_l1, ml_markIntS] at h
  | succ N =>
   simp [ml_markIntS_l1, ml_markIntS] at h
   subst h
   simp [ml_markIntS_v2_l1, ml_markIntS_v2]
 exact ⟨by rw [h2.1]; rfl, ml_markIntS_v2_ok N k h2.2⟩

theorem ml_markNodeS_ok (e0 : TypeId) (N : Nat) (a1 : Int) (p0 : LN) {r : (Int × LN)} (h : ml_markNodeS N a1 p0 = some r) :
    AC0 23 [.own 0, V.i a1] [(0, .vec false e0 5 (p0.map (eSN true)))] (V.i r.1) [(0, .vec false e0 5 (r.2.map (eSN true)))] := by
 rw [ml_markNodeS] at h
 refine AC.enter Tryz.func23 rfl (cV 100 (CO.seq' (cV 100 (CO.block' (CO.loopJ (fun (⟨y191, y192, y193⟩ : (Int × Int × LN)) => ⟨tl 50 [(0, .own 0), (1, V.i y191), (5, V.i y192)], [(0, .vec false e0 5 (y193.map (eSN true)))]⟩) (fun n i => ml_markNodeS_l1 N n i = some r) (n0 := N) (i0 := (a1, 0, p0)) (wS [(0, 0)] [0, 1, 5]) h (fun i h => by simp [ml_markNodeS_l1] at h) ?_)))))
 rintro n1 ⟨y191, y192, y193⟩ h243 ih244
 rw [ml_markNodeS_l1] at h243
 refine CO.seq' (CO.sw mix (wR 2 160 (W.len Dk (eSN true) y193 [0] (by kernel_rfl) (by kernel_rfl) (wR 1 160 (wF ?_)))))
 refine cI h243 (fun _ h243 => ?_) (fun _ h243 => ?_)
 ·refine CO.skip (CO.seq' (CO.block' (bB h243 fun e268 hx272 h243 => (bB h243 fun x269 hu273 h243 => (CO.sw mix (wR 3 160 (W.ixO Dk (eSN true) hx272 0 5 (by kernel_rfl) (wR 1 160 ?_))))))))
  refine W.stO Dk (eSN true) (x' := (⟨y191, e268.Op, e268.Text, e268.Other, e268.Kids⟩ : SNode)) hx272 hu273 (j := 0) (nn := false) (ety := e0) (sz := 5) (b := 0) (ys := [V.i y191]) (C := []) (R := []) (by kernel_rfl) (by kernel_rfl) (wF (cV 160 (bB h243 fun e272 hx276 h243 => (bB h243 fun x273 hu277 h243 => (CO.sw mix (wR 3 160 (W.ixO Dk (eSN true) hx276 0 5 (by kernel_rfl) (wR 1 160 ?_))))))))
  refine W.stO Dk (eSN true) (x' := (⟨e272.Kind, (IntKind.wrap .i64 (y191 + 1)), e272.Text, e272.Other, e272.Kids⟩ : SNode)) hx276 hu277 (j := 0) (nn := false) (ety := e0) (sz := 5) (b := 1) (ys := [V.i (IntKind.wrap .i64 (y191 + 1))]) (C := []) (R := []) (by kernel_rfl) (by kernel_rfl) (wF (cV 160 (bB h243 fun r277 hx281 h243 => (bB h243 fun e278 hx282 h243 => (bB h243 fun x279 hu283 h243 => (CO.sw mix (wR 3 160 (W.call0 (ml_markText_ok N (IntKind.wrap .i64 ((IntKind.wrap .i64 (y191 + 1)) + 1)) hx281) cok34 rfl (by kernel_rfl) ?_))))))))
  refine W.ixO Dk (eSN true) hx282 0 5 (by kernel_rfl) (wR 1 160 (W.stO Dk (eSN true) (x' := (⟨e278.Kind, e278.Op, r277, e278.Other, e278.Kids⟩ : SNode)) hx282 hu283 (j := 0) (nn := false) (ety := e0) (sz := 5) (b := 2) (ys := [V.s r277]) (C := []) (R := []) (by kernel_rfl) (by kernel_rfl) (wF (cV 160 (bB h243 fun r283 hx287 h243 => (bB h243 fun e284 hx288 h243 => (bB h243 fun x285 hu289 h243 => (CO.sw mix ?_))))))))
  refine wR 3 160 (W.call0 (ml_markText_ok N (IntKind.wrap .i64 ((IntKind.wrap .i64 ((IntKind.wrap .i64 (y191 + 1)) + 1)) + 1)) hx287) cok34 rfl (by kernel_rfl) (W.ixO Dk (eSN true) hx288 0 5 (by kernel_rfl) (wR 1 160 (W.stO Dk (eSN true) (x' := (⟨e284.Kind, e284.Op, e284.Text, r283, e284.Kids⟩ : SNode)) hx288 hu289 (j := 0) (nn := false) (ety := e0) (sz := 5) (b := 3) (ys := [V.s r283]) (C := []) (R := []) (by kernel_rfl) (by kernel_rfl) (wF (cV 160 (bB h243 fun e286 hx290 h243 => (bB h243 fun r287 hx291 h243 => ?_))))))))
  refine bB h243 fun x288 hu292 h243 => ?_
  refine CO.nestEnd Dk 4 (tl 50 [(0, .own 0), (1, V.i (IntKind.wrap .i64 ((IntKind.wrap .i64 ((IntKind.wrap .i64 ((IntKind.wrap .i64 (y191 + 1)) + 1)) + 1)) + 1))), (5, V.i y192), (45, .vp 0 5 y192.toNat 4)]) [(0, .vec false e0 5 (x285.map (eSN true)))] (tl 50 [(0, .own 0), (1, V.i r287.1), (5, V.i y192)]) [(0, .vec false e0 5 (x288.map (eSN true)))] (by kernel_rfl) (by
      refine wR 2 160 (W.ixO Dk (eSN true) hx290 0 5 (by kernel_rfl) (wR 1 160 ?_))
      exact W.fin (by decide) (by kernel_rfl) (wS [(0, 0)] [0, 1, 5, 45])
      ) ⟨_, rfl, rfl, rfl⟩ ⟨_, rfl, rfl, rfl⟩ ⟨_, rfl, rfl, rfl⟩ cok48 (by kernel_rfl) (by kernel_rfl) (i := 0) (k := 5) (m := y192.toNat) (b := 4) (u := .int .i64 (IntKind.wrap .i64 ((IntKind.wrap .i64 ((IntKind.wrap .i64 ((IntKind.wrap .i64 (y191 + 1)) + 1)) + 1)) + 1))) (by kernel_rfl) (by kernel_rfl) (nn := false) (nn2 := false) (ety := e0) (eSN true) (x' := (⟨e286.Kind, e286.Op, e286.Text, e286.Other, r287.2⟩ : SNode)) hx290 hu292 rfl (by kernel_rfl) (srows := e286.Kids.map eNI) (srows' := r287.2.map eNI) (by kernel_rfl) (by kernel_rfl) (u' := .int .i64 r287.1) (k2 := 1) (fun _ e => ml_markIntS_ok e N (IntKind.wrap .i64 ((IntKind.wrap .i64 ((IntKind.wrap .i64 ((IntKind.wrap .i64 (y191 + 1)) + 1)) + 1)) + 1)) e286.Kids hx291) (fun h0 => ml_markIntS_nil N (IntKind.wrap .i64 ((IntKind.wrap .i64 ((IntKind.wrap .i64 ((IntKind.wrap .i64 (y191 + 1)) + 1)) + 1)) + 1)) e286.Kids hx291 (List.map_eq_nil_iff.1 h0)) (fun r hr => by obtain ⟨a, _, rfl⟩ := List.mem_map.1 hr; rfl) (by
      refine wR 1 160 ?_
      exact W.fin (by decide) (by kernel_rfl) (wS [(0, 0)] [0, 1, 5])
   ) (fun st hw => ?_)
  refine CO.weak hw ?_
  exact cK 160 ih244 (r287.1, (IntKind.wrap .i64 (y192 + 1)), x288) h243 [(0, 0)] [0, 1, 5]
 refine CO.exit (cV 160 (CO.ret ?_))
 have h243 := sI h243
 subst h243
 exact eG [(0, 0)] (.inr rfl) (RetV.one rfl (oT (t := 4) (r := V.i y191)))

theorem ml_heldIntS_ok (N : Nat) (a0 : List Int) (a1 : Int) {r : Int} (h : ml_heldIntS N a0 a1 = some r) :
    AC0 49 [sL eNI a0, V.i a1] [] (V.i r) [] := by
 rw [ml_heldIntS] at h
 refine AC.enter Tryz.func49 rfl (cV 100 (CO.seq' (cV 100 (CO.block' (CO.loopJ (fun (⟨a0, y37, y38⟩ : ((List Int) × Int × Int)) => ⟨tl 21 [(0, sL eNI a0), (1, V.i y37), (5, V.i y38)], []⟩) (fun n i => ml_heldIntS_l1 N n i = some r) (n0 := N) (i0 := (a0, a1, 0)) (wS [] [0, 1, 5]) h (fun i h => by simp [ml_heldIntS_l1] at h) ?_)))))
 rintro n1 ⟨a0, y37, y38⟩ h73 ih74
 rw [ml_heldIntS_l1] at h73
 refine CO.seq' (CO.sw mix (wR 2 160 (W.len Dk eNI a0 [] (by kernel_rfl) (by kernel_rfl) (wR 1 160 (wF ?_)))))
 refine cI h73 (fun _ h73 => ?_) (fun _ h73 => ?_)
 ·refine CO.skip (CO.seq' (CO.block' (CO.seq' (bB h73 fun e56 hx87 h73 => (CO.sw mix (wR 2 160 (W.ixD Dk eNI hx87 1 (by kernel_rfl) (by kernel_rfl) (wR 3 160 ?_))))))))
  refine wF ?_
  refine cI h73 (fun _ h73 => ?_) (fun _ h73 => ?_)
  ·refine cV 160 ?_
   cases h73
   exact e1 4 id
  refine CO.skip ?_
  refine cE 3 160 (tl 21 [(0, sL eNI a0), (1, V.i (IntKind.wrap .i64 (y37 + 1))), (5, V.i y38)]) [] (fun st hw => ?_)
  refine CO.weak hw ?_
  exact cK 160 ih74 (a0, (IntKind.wrap .i64 (y37 + 1)), (IntKind.wrap .i64 (y38 + 1))) h73 [] [0, 1, 5]
 refine CO.exit (cV 160 ?_)
 cases h73
 exact e1 4 id

theorem ml_heldNodeS_ok (N : Nat) (a0 : LN) (a1 : Int) {r : Int} (h : ml_heldNodeS N a0 a1 = some r) :
    AC0 24 [.sl false false (a0.map (eSN false)), V.i a1] [] (V.i r) [] := by
 rw [ml_heldNodeS] at h
 refine AC.enter Tryz.func24 rfl (cV 100 (CO.seq' (cV 100 (CO.block' (CO.loopJ (fun (⟨a0, y229, y230⟩ : (LN × Int × Int)) => ⟨tl 60 [(0, .sl false false (a0.map (eSN false))), (1, V.i y229), (5, V.i y230)], []⟩) (fun n i => ml_heldNodeS_l1 N n i = some r) (n0 := N) (i0 := (a0, a1, 0)) (wS [] [0, 1, 5]) h (fun i h => by simp [ml_heldNodeS_l1] at h) ?_)))))
 rintro n1 ⟨a0, y229, y230⟩ h383 ih384
 rw [ml_heldNodeS_l1] at h383
 refine CO.seq' (CO.sw mix (wR 2 160 (W.len Dk (eSN false) a0 [] (by kernel_rfl) (by kernel_rfl) (wR 1 160 (wF ?_)))))
 refine cI h383 (fun _ h383 => ?_) (fun _ h383 => ?_)
 ·refine CO.skip (CO.seq' (CO.block' (CO.seq' (bB h383 fun e320 hx428 h383 => (CO.sw mix (wR 2 160 (W.ixD Dk (eSN false) hx428 5 (by kernel_rfl) (by kernel_rfl) (wR 4 160 ?_))))))))
  refine wF ?_
  refine cI h383 (fun _ h383 => ?_) (fun _ h383 => ?_)
  ·refine cV 160 ?_
   cases h383
   exact e1 4 id
  refine CO.skip (cV 160 (CO.seq' (bB h383 fun e324 hx434 h383 => (CO.sw mix (wR 2 160 (W.ixD Dk (eSN false) hx434 5 (by kernel_rfl) (by kernel_rfl) (wR 4 160 (wF ?_))))))))
  refine cI h383 (fun _ h383 => ?_) (fun _ h383 => ?_)
  ·refine cV 160 ?_
   cases h383
   exact e1 4 id
  refine CO.skip (cV 160 (CO.seq' (bB h383 fun e331 hx443 h383 => (bB h383 fun r332 hx444 h383 => (CO.sw mix (wR 2 160 (W.ixD Dk (eSN false) hx443 5 (by kernel_rfl) (by kernel_rfl) (wR 3 160 ?_))))))))
  refine W.call0 (ml_markText_ok N (IntKind.wrap .i64 ((IntKind.wrap .i64 (y229 + 1)) + 1)) hx444) cok34 rfl (by kernel_rfl) (wR 1 160 (wF ?_))
  refine cI h383 (fun _ h383 => ?_) (fun _ h383 => ?_)
  ·refine cV 160 ?_
   cases h383
   exact e1 4 id
  refine CO.skip (cV 160 (CO.seq' (bB h383 fun e339 hx453 h383 => (bB h383 fun r340 hx454 h383 => (CO.sw mix (wR 2 160 (W.ixD Dk (eSN false) hx453 5 (by kernel_rfl) (by kernel_rfl) (wR 3 160 ?_))))))))
  refine W.call0 (ml_markText_ok N (IntKind.wrap .i64 ((IntKind.wrap .i64 ((IntKind.wrap .i64 (y229 + 1)) + 1)) + 1)) hx454) cok34 rfl (by kernel_rfl) (wR 1 160 (wF ?_))
  refine cI h383 (fun _ h383 => ?_) (fun _ h383 => ?_)
  ·refine cV 160 ?_
   cases h383
   exact e1 4 id
  refine CO.skip (cV 160 (bB h383 fun e343 hx458 h383 => (bB h383 fun r344 hx459 h383 => (CO.sw mix (wR 2 160 (W.ixD Dk (eSN false) hx458 5 (by kernel_rfl) (by kernel_rfl) (wR 3 160 (W.call0 (ml_heldIntS_ok N e343.Kids (IntKind.wrap .i64 ((IntKind.wrap .i64 ((IntKind.wrap .i64 ((IntKind.wrap .i64 (y229 + 1)) + 1)) + 1)) + 1)) hx459) cok49 rfl (by kernel_rfl) ?_))))))))
  refine wR 1 160 (wF (cV 160 ?_))
  refine cI h383 (fun _ h383 => ?_) (fun _ h383 => ?_)
  ·refine cV 160 ?_
   cases h383
   exact e1 4 id
  refine CO.skip ?_
  exact cK 160 ih384 (a0, r344, (IntKind.wrap .i64 (y230 + 1))) h383 [] [0, 1, 5]
 refine CO.exit (cV 160 ?_)
 cases h383
 exact e1 4 id

theorem ml_FnExactReadExpr_ok (N : Nat) (a0 : LU) {r : Bool} (h : ml_FnExactReadExpr N a0 = some r) :
    AC Tryz.prog (GS [0, 1, 2]) 5 [V.s a0] [] (V.b r) [] := by
 rw [ml_FnExactReadExpr] at h
 refine AC.enter Tryz.func5 rfl (cV 100 (CO.seq' (cV 100 ?_)))
 refine cI h (fun _ h => ?_) (fun _ h => ?_)
 ·refine cV 100 ?_
  cases h
  exact e1 2 id
 refine CO.skip (bB h fun r2 hx4 h => (CO.sw mix (wR 1 100 (W.call (AC.gs (ms_ReadExpr_ok N a0 hx4) (by decide)) cok19 [] [(100, 100)] [100] lO (by kernel_rfl) (by kernel_rfl) (wR 6 101 (wF (bB h fun r4 hx6 h => (CO.sw mix ?_))))))))
 refine wR 1 102 (W.call (mi_ReadExpr_ok N a0 hx6) cok20 [] [(100, 102)] [102] lO (by kernel_rfl) (by kernel_rfl) (wR 6 103 (wF (CO.seq' (bB h fun y12 hv18 h => ?_)))))
 refine CO.cutR (tl 68 [(0, V.s a0), (3, .own 100), (4, .loc 101 0), (5, .own 102), (33, V.b y12)]) [(100, .vec false 73 5 (r2.1.map (eSN true))), (101, .cells 40 [V.i r2.2.Kind, V.i r2.2.At]), (102, .vec false 73 5 (r4.1.map (eSN true)))] mix (by
  refine wR 2 104 (bB hv18 fun r13 hx19 hv18 => (W.lend (AC.gs (ml_eqNodeS_ok N r4.1 r2.1 hx19) (by decide)) cok21 [] [] (LayOk.cons (j := 102) (eSN true) (eSN false) r4.1 (by kernel_rfl) (sh_eSN _) (LayOk.cons (j := 100) (eSN true) (eSN false) r2.1 (by kernel_rfl) (sh_eSN _) lO)) (.c _) .nil (by kernel_rfl) (by kernel_rfl) (wR 2 104 ?_)))
  refine wJ 28 hv18 (fun hv18 => ?_) (fun hv18 => ?_)
  ·refine wR 5 104 ?_
   cases hv18
   exact fS [(100, 100), (101, 101), (102, 102)] [0, 3, 4, 5, 33]
  refine wR 2 104 (bB hv18 fun r14 hx21 hv18 => (W.call0 (AC.gs (ml_eqFault_ok r4.2 r2.2 hx21) (by decide)) cok22 rfl (by kernel_rfl) (wR 2 104 ?_)))
  cases hv18
  exact fS [(100, 100), (101, 101), (102, 102)] [0, 3, 4, 5, 33]
  ) ?_
 refine cI h (fun _ h => ?_) (fun _ h => ?_)
 ·refine cV 104 ?_
  cases h
  exact e1 2 id
 refine CO.skip (cV 104 (bB h fun r16 hx24 h => (CO.sw mix (wR 2 104 (W.call (AC.gs (ml_markNodeS_ok 73 N 1 r4.1 hx24) (by decide)) cok23 [(102, 0)] [(0, 102)] [] lO (by kernel_rfl) (by kernel_rfl) (wR 1 104 (wF (cV 104 ?_))))))))
 refine bB h fun r18 hx26 h => (CO.sw mix (wR 2 104 (W.lend (AC.gs (ml_heldNodeS_ok N r16.2 1 hx26) (by decide)) cok24 [] [] (LayOk.cons (j := 102) (eSN true) (eSN false) r16.2 (by kernel_rfl) (sh_eSN _) lO) (.c _) .nil (by kernel_rfl) (by kernel_rfl) (wR 1 104 (wF (CO.seq' (cV 104 ?_)))))))
 refine cI h (fun _ h => ?_) (fun _ h => ?_)
 ·refine cV 104 ?_
  cases h
  exact e1 2 id
 refine CO.skip (CO.seq' (cV 104 ?_))
 refine cI h (fun _ h => ?_) (fun _ h => ?_)
 ·refine cV 104 ?_
  cases h
  exact e1 2 id
 refine CO.skip (bB h fun r20 hx32 h => (CO.sw mix (wR 1 104 (W.call (mi_ReadExpr_ok N a0 hx32) cok20 [] [(100, 104)] [104] lO (by kernel_rfl) (by kernel_rfl) (wR 6 105 (wF (CO.seq' (bB h fun y28 hv44 h => ?_))))))))
 refine CO.cutR (tl 68 [(5, .own 100), (7, V.i r16.1), (59, V.b y28)]) [(100, .vec false 73 5 (r16.2.map (eSN true)))] mix (by
  refine wR 2 106 (bB hv44 fun r29 hx45 hv44 => (W.lend (AC.gs (ml_eqNodeS_ok N r20.1 r2.1 hx45) (by decide)) cok21 [] [] (LayOk.cons (j := 104) (eSN true) (eSN false) r20.1 (by kernel_rfl) (sh_eSN _) (LayOk.cons (j := 100) (eSN true) (eSN false) r2.1 (by kernel_rfl) (sh_eSN _) lO)) (.c _) .nil (by kernel_rfl) (by kernel_rfl) (wR 2 106 ?_)))
  refine wJ 54 hv44 (fun hv44 => ?_) (fun hv44 => ?_)
  ·refine wR 5 106 ?_
   cases hv44
   exact fS [(102, 100)] [5, 7, 59]
  refine wR 2 106 (bB hv44 fun r30 hx47 hv44 => (W.call0 (AC.gs (ml_eqFault_ok r20.2 r2.2 hx47) (by decide)) cok22 rfl (by kernel_rfl) (wR 2 106 ?_)))
  cases hv44
  exact fS [(102, 100)] [5, 7, 59]
  ) ?_
 refine cI h (fun _ h => ?_) (fun _ h => ?_)
 ·refine cV 106 ?_
  cases h
  exact e1 2 id
 refine CO.skip (cV 106 (bB h fun r32 hx50 h => (CO.sw mix (wR 2 106 (W.lend (AC.gs (ml_heldNodeS_ok N r16.2 1 hx50) (by decide)) cok24 [] [] (LayOk.cons (j := 100) (eSN true) (eSN false) r16.2 (by kernel_rfl) (sh_eSN _) lO) (.c _) .nil (by kernel_rfl) (by kernel_rfl) (wR 1 106 (wF (CO.seq' ?_))))))))
 refine cV 106 ?_
 refine cI h (fun _ h => ?_) (fun _ h => ?_)
 ·refine cV 106 ?_
  cases h
  exact e1 2 id
 refine CO.skip (CO.seq' (cV 106 ?_))
 refine cI h (fun _ h => ?_) (fun _ h => ?_)
 ·refine cV 106 ?_
  cases h
  exact e1 2 id
 refine CO.skip (cV 106 ?_)
 cases h
 exact e1 2 id

end Go.Proofs.Tryz
