/-
 The walks that show that the code computes the models, part 5.
-/
import Derived.Test.YtpognfncgfaogaaGreatDoorShAW4
namespace Go.Proofs.Tryz
open Go.Av
set_option maxRecDepth 100000
set_option maxHeartbeats 8000000
set_option linter.unusedSimpArgs false
set_option linter.unusedVariables false

theorem mp_level_ok (N : Nat) (a1 : SPos) (pa : LT) (pb : Int) (pc : Bool) (p1 : LLU) {r : T1} (h : mp_level N a1 pa pb pc p1 = some r) :
    AC0 95 [.loc 0 0, .agg [V.i a1.Level, V.b a1.Dollar, V.b a1.NoIn, V.b a1.NoGt, V.b a1.NoSign]] [(0, cP 108 pa pb pc 1), (1, vN p1)] (.agg (aP r.1)) [(0, cP 108 pa r.2.1 r.2.2.1 100), (100, vN r.2.2.2)] := by
 rw [mp_level] at h
 refine AC.enter Tryz.func95 rfl (cV 100 (cV 102 (CO.seq' (bB h fun y10 hv14 h => ?_))))
 refine CO.cutR (tl 102 [(0, .loc 0 0), (3, .loc 100 0), (4, .loc 101 0), (5, .loc 102 0), (18, V.b y10)]) [(0, cP 108 pa pb pc 1), (100, .cells 40 [V.i a1.Level, V.b a1.Dollar, V.b a1.NoIn, V.b a1.NoGt, V.b a1.NoSign]), (101, .cells 110 [V.i 0, V.i 0, V.s [], V.s [], .c (.slice none 0 0), V.b false]), (102, .cells 127 [V.b a1.NoIn, V.b a1.NoGt]), (1, vN p1)] mix (by
  refine wR 3 103 ?_
  refine wJ 13 hv14 (fun hv14 => ?_) (fun hv14 => ?_)
  ·refine wR 1 103 (bB hv14 fun r11 hx16 hv14 => (wC (mp_kind_ok pa pb pc p1 hx16) cok134 [(0, 0), (1, 1)] [(0, 0), (1, 1)] [] (bB hv14 fun r12 hx17 hv14 => (w0 (mi_BeginsOperand_ok r11 hx17) cok133 (wR 2 103 ?_)))))
   cases hv14
   exact fS [(0, 0), (100, 100), (101, 101), (102, 102), (1, 1)] [0, 3, 4, 5, 18]
  refine wR 5 103 ?_
  cases hv14
  exact fS [(0, 0), (100, 100), (101, 101), (102, 102), (1, 1)] [0, 3, 4, 5, 18]
  ) ?_
 refine cI h (fun _ h => ?_) (fun _ h => ?_)
 ·refine bB h fun r14 hx20 h => (CO.sw mix (wR 1 103 (wC (mp_fail_ok pa pb pc p1 hx20) cok135 [(0, 0), (1, 1)] [(0, 0), (1, 1)] [] (wR 1 103 (wF (CO.ret ?_))))))
  have h := sI h
  subst h
  exact eG [(0, 0), (1, 100)] (.inr rfl) (RetV.one rfl (OneR.cell Dk (r := .agg (aP r14.1)) (i := 101) (ety := 110) (cs := (aP r14.1)) (by kernel_rfl) (by kernel_rfl) (by kernel_rfl)))
 refine CO.skip (CO.seq' (cV 103 (CO.block' (cV 103 ?_))))
 refine cI h (fun _ h => ?_) (fun _ h => ?_)
 ·refine bB h fun r58 hx85 h => (CO.sw mix (wR 2 103 (wC (mp_assign_ok N (⟨a1.NoIn, a1.NoGt⟩ : SRules) pa pb pc p1 hx85) cok136 [(0, 0), (1, 1)] [(0, 0), (100, 103)] [103] (wR 1 104 (wF (CO.ret ?_))))))
  have h := sI h
  subst h
  exact eG [(0, 0), (103, 100)] (.inr rfl) (RetV.one rfl (OneR.cell Dk (r := .agg (aP r58.1)) (i := 101) (ety := 110) (cs := (aP r58.1)) (by kernel_rfl) (by kernel_rfl) (by kernel_rfl)))
 refine cV 103 ?_
 refine cI h (fun _ h => ?_) (fun _ h => ?_)
 ·refine bB h fun r60 hx88 h => (CO.sw mix (wR 2 103 (wC (mp_cond_ok N (⟨a1.NoIn, a1.NoGt⟩ : SRules) pa pb pc p1 hx88) cok137 [(0, 0), (1, 1)] [(0, 0), (100, 103)] [103] (wR 1 104 (wF (CO.ret ?_))))))
  have h := sI h
  subst h
  exact eG [(0, 0), (103, 100)] (.inr rfl) (RetV.one rfl (OneR.cell Dk (r := .agg (aP r60.1)) (i := 101) (ety := 110) (cs := (aP r60.1)) (by kernel_rfl) (by kernel_rfl) (by kernel_rfl)))
 refine cV 103 ?_
 refine cI h (fun _ h => ?_) (fun _ h => ?_)
 ·refine bB h fun r62 hx91 h => (CO.sw mix (wR 2 103 (wC (mp_or_ok N (⟨a1.NoIn, a1.NoGt⟩ : SRules) pa pb pc p1 hx91) cok138 [(0, 0), (1, 1)] [(0, 0), (100, 103)] [103] (wR 1 104 (wF (CO.ret ?_))))))
  have h := sI h
  subst h
  exact eG [(0, 0), (103, 100)] (.inr rfl) (RetV.one rfl (OneR.cell Dk (r := .agg (aP r62.1)) (i := 101) (ety := 110) (cs := (aP r62.1)) (by kernel_rfl) (by kernel_rfl) (by kernel_rfl)))
 refine cV 103 ?_
 refine cI h (fun _ h => ?_) (fun _ h => ?_)
 ·refine bB h fun r64 hx94 h => (CO.sw mix (wR 2 103 (wC (mp_and_ok N (⟨a1.NoIn, a1.NoGt⟩ : SRules) pa pb pc p1 hx94) cok139 [(0, 0), (1, 1)] [(0, 0), (100, 103)] [103] (wR 1 104 (wF (CO.ret ?_))))))
  have h := sI h
  subst h
  exact eG [(0, 0), (103, 100)] (.inr rfl) (RetV.one rfl (OneR.cell Dk (r := .agg (aP r64.1)) (i := 101) (ety := 110) (cs := (aP r64.1)) (by kernel_rfl) (by kernel_rfl) (by kernel_rfl)))
 refine cV 103 ?_
 refine cI h (fun _ h => ?_) (fun _ h => ?_)
 ·refine bB h fun r66 hx97 h => (CO.sw mix (wR 2 103 (wC (mp_in_ok N (⟨a1.NoIn, a1.NoGt⟩ : SRules) pa pb pc p1 hx97) cok140 [(0, 0), (1, 1)] [(0, 0), (100, 103)] [103] (wR 1 104 (wF (CO.ret ?_))))))
  have h := sI h
  subst h
  exact eG [(0, 0), (103, 100)] (.inr rfl) (RetV.one rfl (OneR.cell Dk (r := .agg (aP r66.1)) (i := 101) (ety := 110) (cs := (aP r66.1)) (by kernel_rfl) (by kernel_rfl) (by kernel_rfl)))
 refine cV 103 ?_
 refine cI h (fun _ h => ?_) (fun _ h => ?_)
 ·refine bB h fun r68 hx100 h => (CO.sw mix (wR 2 103 (wC (mp_match_ok N (⟨a1.NoIn, a1.NoGt⟩ : SRules) pa pb pc p1 hx100) cok141 [(0, 0), (1, 1)] [(0, 0), (100, 103)] [103] (wR 1 104 (wF (CO.ret ?_))))))
  have h := sI h
  subst h
  exact eG [(0, 0), (103, 100)] (.inr rfl) (RetV.one rfl (OneR.cell Dk (r := .agg (aP r68.1)) (i := 101) (ety := 110) (cs := (aP r68.1)) (by kernel_rfl) (by kernel_rfl) (by kernel_rfl)))
 refine cV 103 ?_
 refine cI h (fun _ h => ?_) (fun _ h => ?_)
 ·refine bB h fun r70 hx103 h => (CO.sw mix (wR 2 103 (wC (mp_compare_ok N (⟨a1.NoIn, a1.NoGt⟩ : SRules) pa pb pc p1 hx103) cok142 [(0, 0), (1, 1)] [(0, 0), (100, 103)] [103] (wR 1 104 (wF (CO.ret ?_))))))
  have h := sI h
  subst h
  exact eG [(0, 0), (103, 100)] (.inr rfl) (RetV.one rfl (OneR.cell Dk (r := .agg (aP r70.1)) (i := 101) (ety := 110) (cs := (aP r70.1)) (by kernel_rfl) (by kernel_rfl) (by kernel_rfl)))
 refine cV 103 ?_
 refine cI h (fun _ h => ?_) (fun _ h => ?_)
 ·refine bB h fun r72 hx106 h => (CO.sw mix (wR 2 103 (wC (mp_cat_ok N (⟨a1.NoIn, a1.NoGt⟩ : SRules) pa pb pc p1 hx106) cok143 [(0, 0), (1, 1)] [(0, 0), (100, 103)] [103] (wR 1 104 (wF (CO.ret ?_))))))
  have h := sI h
  subst h
  exact eG [(0, 0), (103, 100)] (.inr rfl) (RetV.one rfl (OneR.cell Dk (r := .agg (aP r72.1)) (i := 101) (ety := 110) (cs := (aP r72.1)) (by kernel_rfl) (by kernel_rfl) (by kernel_rfl)))
 refine cV 103 ?_
 refine cI h (fun _ h => ?_) (fun _ h => ?_)
 ·refine bB h fun r74 hx109 h => (CO.sw mix (wR 2 103 (wC (mp_add_ok N (⟨a1.NoIn, a1.NoGt⟩ : SRules) pa pb pc p1 hx109) cok144 [(0, 0), (1, 1)] [(0, 0), (100, 103)] [103] (wR 1 104 (wF (CO.ret ?_))))))
  have h := sI h
  subst h
  exact eG [(0, 0), (103, 100)] (.inr rfl) (RetV.one rfl (OneR.cell Dk (r := .agg (aP r74.1)) (i := 101) (ety := 110) (cs := (aP r74.1)) (by kernel_rfl) (by kernel_rfl) (by kernel_rfl)))
 refine cV 103 ?_
 refine cI h (fun _ h => ?_) (fun _ h => ?_)
 ·refine bB h fun r76 hx112 h => (CO.sw mix (wR 2 103 (wC (mp_mul_ok N (⟨a1.NoIn, a1.NoGt⟩ : SRules) pa pb pc p1 hx112) cok145 [(0, 0), (1, 1)] [(0, 0), (100, 103)] [103] (wR 1 104 (wF (CO.ret ?_))))))
  have h := sI h
  subst h
  exact eG [(0, 0), (103, 100)] (.inr rfl) (RetV.one rfl (OneR.cell Dk (r := .agg (aP r76.1)) (i := 101) (ety := 110) (cs := (aP r76.1)) (by kernel_rfl) (by kernel_rfl) (by kernel_rfl)))
 refine cV 103 ?_
 refine cI h (fun _ h => ?_) (fun _ h => ?_)
 ·refine bB h fun r78 hx115 h => (CO.sw mix (wR 2 103 (wC (mp_unary_ok N (⟨a1.NoIn, a1.NoGt⟩ : SRules) pa pb pc p1 hx115) cok146 [(0, 0), (1, 1)] [(0, 0), (100, 103)] [103] (wR 1 104 (wF (CO.ret ?_))))))
  have h := sI h
  subst h
  exact eG [(0, 0), (103, 100)] (.inr rfl) (RetV.one rfl (OneR.cell Dk (r := .agg (aP r78.1)) (i := 101) (ety := 110) (cs := (aP r78.1)) (by kernel_rfl) (by kernel_rfl) (by kernel_rfl)))
 refine cV 103 ?_
 refine cI h (fun _ h => ?_) (fun _ h => ?_)
 ·refine bB h fun r80 hx118 h => (CO.sw mix (wR 2 103 (wC (mp_pow_ok N (⟨a1.NoIn, a1.NoGt⟩ : SRules) pa pb pc p1 hx118) cok147 [(0, 0), (1, 1)] [(0, 0), (100, 103)] [103] (wR 1 104 (wF (CO.ret ?_))))))
  have h := sI h
  subst h
  exact eG [(0, 0), (103, 100)] (.inr rfl) (RetV.one rfl (OneR.cell Dk (r := .agg (aP r80.1)) (i := 101) (ety := 110) (cs := (aP r80.1)) (by kernel_rfl) (by kernel_rfl) (by kernel_rfl)))
 refine cV 103 ?_
 refine cI h (fun _ h => ?_) (fun _ h => ?_)
 ·refine bB h fun r82 hx121 h => (CO.sw mix (wR 1 103 (wC (mp_incr_ok N pa pb pc p1 hx121) cok148 [(0, 0), (1, 1)] [(0, 0), (100, 103)] [103] (wR 1 104 (wF (CO.ret ?_))))))
  have h := sI h
  subst h
  exact eG [(0, 0), (103, 100)] (.inr rfl) (RetV.one rfl (OneR.cell Dk (r := .agg (aP r82.1)) (i := 101) (ety := 110) (cs := (aP r82.1)) (by kernel_rfl) (by kernel_rfl) (by kernel_rfl)))
 refine cV 103 ?_
 refine cI h (fun _ h => ?_) (fun _ h => ?_)
 ·refine CO.seq' (bB h fun y92 hv136 h => ?_)
  refine CO.cutR (tl 102 [(0, .loc 0 0), (4, .loc 100 0), (95, V.b y92)]) [(0, cP 108 pa pb pc 1), (100, .cells 110 [V.i 0, V.i 0, V.s [], V.s [], .c (.slice none 0 0), V.b false]), (1, vN p1)] mix (by
   refine wR 3 103 ?_
   refine wJ 91 hv136 (fun hv136 => ?_) (fun hv136 => ?_)
   ·refine wR 1 103 (bB hv136 fun r93 hx138 hv136 => (wC (mp_kind_ok pa pb pc p1 hx138) cok134 [(0, 0), (1, 1)] [(0, 0), (1, 1)] [] (bB hv136 fun r94 hx139 hv136 => (w0 (mi_isStep_ok r93 hx139) cok149 (wR 1 103 ?_)))))
    cases hv136
    exact fS [(0, 0), (101, 100), (1, 1)] [0, 4, 95]
   refine wR 4 103 ?_
   cases hv136
   exact fS [(0, 0), (101, 100), (1, 1)] [0, 4, 95]
   ) ?_
  refine cI h (fun _ h => ?_) (fun _ h => ?_)
  ·refine bB h fun r96 hx142 h => (CO.sw mix (wR 1 103 (wC (mp_before_ok N pa pb pc p1 hx142) cok150 [(0, 0), (1, 1)] [(0, 0), (100, 103)] [103] (wR 1 104 (wF (CO.ret ?_))))))
   have h := sI h
   subst h
   exact eG [(0, 0), (103, 100)] (.inr rfl) (RetV.one rfl (OneR.cell Dk (r := .agg (aP r96.1)) (i := 100) (ety := 110) (cs := (aP r96.1)) (by kernel_rfl) (by kernel_rfl) (by kernel_rfl)))
  refine CO.skip (bB h fun r98 hx144 h => (CO.sw mix (wR 1 103 (wC (mp_field_ok N pa pb pc p1 hx144) cok151 [(0, 0), (1, 1)] [(0, 0), (100, 103)] [103] (wR 1 104 (wF (CO.ret ?_)))))))
  have h := sI h
  subst h
  exact eG [(0, 0), (103, 100)] (.inr rfl) (RetV.one rfl (OneR.cell Dk (r := .agg (aP r98.1)) (i := 100) (ety := 110) (cs := (aP r98.1)) (by kernel_rfl) (by kernel_rfl) (by kernel_rfl)))
 refine CO.skip (bB h fun r100 hx146 h => (CO.sw mix (wR 1 103 (wC (mp_primary_ok N pa pb pc p1 hx146) cok152 [(0, 0), (1, 1)] [(0, 0), (100, 103)] [103] (wR 1 104 (wF (CO.ret ?_)))))))
 have h := sI h
 subst h
 exact eG [(0, 0), (103, 100)] (.inr rfl) (RetV.one rfl (OneR.cell Dk (r := .agg (aP r100.1)) (i := 101) (ety := 110) (cs := (aP r100.1)) (by kernel_rfl) (by kernel_rfl) (by kernel_rfl)))

structure RecOk2 (R : Rec2) : Prop where
 mi_tree__size : ∀ (a0 : STree) (r : Int), R.mi_tree__size a0 = some r → AC0 153 [.agg [V.i a0.kind, V.i a0.op, V.s a0.text, V.s a0.other, sL eST a0.kids]] [] (V.i r) []

theorem mi_tree__size_F_ok (N : Nat) (R : Rec2) (HR : RecOk2 R) (a0 : STree) {r : Int} (h : mi_tree__size_F N R a0 = some r) :
    AC0 153 [.agg [V.i a0.kind, V.i a0.op, V.s a0.text, V.s a0.other, sL eST a0.kids]] [] (V.i r) [] := by
 rw [mi_tree__size_F] at h
 refine AC.enter Tryz.func153 rfl (cV 100 (cV 101 (CO.seq' (CO.sw mix (wR 2 101 (wN eST a0.kids [] (wR 1 101 (wF ?_))))))))
 refine CO.block' (CO.loopJ (fun (⟨a0, y37, y38⟩ : (STree × Int × Int)) => ⟨tl 19 [(3, V.i y37), (7, sL eST a0.kids), (8, V.i (a0.kids.length : Int)), (9, V.i y38)], []⟩) (fun n i => mi_tree__size_l1 N R n i = some r) (n0 := N) (i0 := (a0, 1, 0)) (wS [] [3, 7, 8, 9]) h (fun i h => by simp [mi_tree__size_l1] at h) ?_)
 rintro n1 ⟨a0, y37, y38⟩ h53 ih54
 rw [mi_tree__size_l1] at h53
 refine cV 163 (CO.seq' ?_)
 refine cI h53 (fun _ h53 => ?_) (fun _ h53 => ?_)
 ·refine CO.skip (CO.seq' (CO.block' (bB h53 fun e54 hx62 h53 => (CO.sw mix (W.ixDr Dk eST hx62 5 (by kernel_rfl) (encSTree_eq e54) (by kernel_rfl) (wR 3 163 (wF (bB h53 fun r56 hx64 h53 => ?_))))))))
  refine CO.endR (tl 19 [(3, V.i (wr (y37 + r56))), (7, sL eST a0.kids), (8, V.i (a0.kids.length : Int)), (9, V.i y38)]) [] mix (by
   refine wR 2 164 (w0 (HR.mi_tree__size e54 _ hx64) cok153 (wR 2 164 ?_))
   exact fI
   ) (fun st hw => ?_)
  refine CO.weak hw ?_
  exact cK 164 ih54 (a0, (wr (y37 + r56)), (wr (y38 + 1))) h53 [] [3, 7, 8, 9]
 refine CO.exit (cV 163 ?_)
 cases h53
 exact e1 2 id

theorem scc2_ok : ∀ N, RecOk2 (scc2 N)
 | 0 => ⟨fun _ _ h => (by cases h)⟩
 | N + 1 => ⟨fun a0 _ h => mi_tree__size_F_ok N (scc2 N) (scc2_ok N) a0 h⟩

theorem mi_tree__size_ok (N : Nat) (a0 : STree) {r : Int} (h : mi_tree__size N a0 = some r) :
  AC0 153 [.agg [V.i a0.kind, V.i a0.op, V.s a0.text, V.s a0.other, sL eST a0.kids]] [] (V.i r) [] :=
 (scc2_ok N).mi_tree__size a0 r h

structure RecOk3 (R : Rec3) : Prop where
 mi_tree__depth : ∀ (a0 : STree) (r : Int), R.mi_tree__depth a0 = some r → AC0 62 [.agg [V.i a0.kind, V.i a0.op, V.s a0.text, V.s a0.other, sL eST a0.kids]] [] (V.i r) []

theorem mi_tree__depth_F_ok (N : Nat) (R : Rec3) (HR : RecOk3 R) (a0 : STree) {r : Int} (h : mi_tree__depth_F N R a0 = some r) :
    AC0 62 [.agg [V.i a0.kind, V.i a0.op, V.s a0.text, V.s a0.other, sL eST a0.kids]] [] (V.i r) [] := by
 rw [mi_tree__depth_F] at h
 refine AC.enter Tryz.func62 rfl (cV 100 (cV 101 (CO.seq' (CO.sw mix (wR 2 101 (wN eST a0.kids [] (wR 1 101 (wF ?_))))))))
 refine CO.block' (CO.loopJ (fun (⟨a0, y37, y38⟩ : (STree × Int × Int)) => ⟨tl 20 [(3, V.i y37), (7, sL eST a0.kids), (8, V.i (a0.kids.length : Int)), (9, V.i y38)], []⟩) (fun n i => mi_tree__depth_l1 N R n i = some r) (n0 := N) (i0 := (a0, 0, 0)) (wS [] [3, 7, 8, 9]) h (fun i h => by simp [mi_tree__depth_l1] at h) ?_)
 rintro n1 ⟨a0, y37, y38⟩ h53 ih54
 rw [mi_tree__depth_l1] at h53
 refine cV 163 (CO.seq' ?_)
 refine cI h53 (fun _ h53 => ?_) (fun _ h53 => ?_)
 ·refine CO.skip (CO.seq' (CO.block' (bB h53 fun e54 hx62 h53 => (CO.sw mix (W.ixDr Dk eST hx62 5 (by kernel_rfl) (encSTree_eq e54) (by kernel_rfl) (wR 3 163 (wF (bB h53 fun r56 hx64 h53 => ?_))))))))
  refine CO.endR (tl 20 [(3, V.i (if r56 > y37 then r56 else y37)), (7, sL eST a0.kids), (8, V.i (a0.kids.length : Int)), (9, V.i y38)]) [] mix (by
   refine wR 2 164 (w0 (HR.mi_tree__depth e54 _ hx64) cok62 (wR 2 164 ?_))
   exact fI
   ) (fun st hw => ?_)
  refine CO.weak hw ?_
  exact cK 164 ih54 (a0, (if r56 > y37 then r56 else y37), (wr (y38 + 1))) h53 [] [3, 7, 8, 9]
 refine CO.exit (cV 163 ?_)
 cases h53
 exact e1 2 id

theorem scc3_ok : ∀ N, RecOk3 (scc3 N)
 | 0 => ⟨fun _ _ h => (by cases h)⟩
 | N + 1 => ⟨fun a0 _ h => mi_tree__depth_F_ok N (scc3 N) (scc3_ok N) a0 h⟩

theorem mi_tree__depth_ok (N : Nat) (a0 : STree) {r : Int} (h : mi_tree__depth N a0 = some r) :
  AC0 62 [.agg [V.i a0.kind, V.i a0.op, V.s a0.text, V.s a0.other, sL eST a0.kids]] [] (V.i r) [] :=
 (scc3_ok N).mi_tree__depth a0 r h

theorem mi_bounded_ok (N : Nat) (a0 : STree) {r : SFault} (h : mi_bounded N a0 = some r) :
    AC0 97 [.agg [V.i a0.kind, V.i a0.op, V.s a0.text, V.s a0.other, sL eST a0.kids]] [] (.agg [V.i r.Kind, V.i r.At]) [] := by
 rw [mi_bounded] at h
 refine AC.enter Tryz.func97 rfl (cV 100 (CO.seq' (CO.block' (bB h fun r6 hx8 h => (cC 1 102 (mi_tree__size_ok N a0 hx8) cok153 ?_)))))
 refine cI h (fun _ h => ?_) (fun _ h => ?_)
 ·refine cV 102 (CO.ret ?_)
  cases h
  exact eG [] (.inr rfl) (RetV.one rfl (OneR.cell Dk (r := .agg [V.i 1, V.i 0]) (i := 101) (ety := 82) (cs := [V.i 1, V.i 0]) (by kernel_rfl) (by kernel_rfl) (by kernel_rfl)))
 refine bB h fun r8 hx11 h => (cC 1 102 (mi_tree__depth_ok N a0 hx11) cok62 ?_)
 refine cI h (fun _ h => ?_) (fun _ h => ?_)
 ·refine cV 102 (CO.ret ?_)
  cases h
  exact eG [] (.inr rfl) (RetV.one rfl (OneR.cell Dk (r := .agg [V.i 4, V.i 0]) (i := 101) (ety := 82) (cs := [V.i 4, V.i 0]) (by kernel_rfl) (by kernel_rfl) (by kernel_rfl)))
 refine CO.skip (cV 102 (CO.ret ?_))
 cases h
 exact eG [] (.inr rfl) (RetV.one rfl (OneR.cell Dk (r := .agg [V.i 0, V.i 0]) (i := 101) (ety := 82) (cs := [V.i 0, V.i 0]) (by kernel_rfl) (by kernel_rfl) (by kernel_rfl)))

structure RecOk4 (R : Rec4) : Prop where
 mi_tree__add : ∀ (a0 : STree) (p0 : LN) (r : LN), R.mi_tree__add a0 p0 = some r → AC0 154 [.agg [V.i a0.kind, V.i a0.op, V.s a0.text, V.s a0.other, sL eST a0.kids], .own 0] [(0, .vec false 54 5 (p0.map (eSN true)))] (.own 100) [(100, .vec false 54 5 (r.map (eSN true)))]

theorem mi_tree__add_F_ok (N : Nat) (R : Rec4) (HR : RecOk4 R) (a0 : STree) (p0 : LN) {r : LN} (h : mi_tree__add_F N R a0 p0 = some r) :
    AC0 154 [.agg [V.i a0.kind, V.i a0.op, V.s a0.text, V.s a0.other, sL eST a0.kids], .own 0] [(0, .vec false 54 5 (p0.map (eSN true)))] (.own 100) [(100, .vec false 54 5 (r.map (eSN true)))] := by
 rw [mi_tree__add_F] at h
 refine AC.enter Tryz.func154 rfl (cV 100 (cV 101 (CO.seq' (CO.sw mix (wR 2 102 (wN eST a0.kids [] (wR 1 102 (wF ?_))))))))
 refine CO.block' (CO.loopJ (fun (⟨a0, y59, y60, y61⟩ : (STree × Int × LN × (List Int))) => ⟨tl 40 [(1, .own 100), (5, .loc 101 0), (18, sL eST a0.kids), (19, V.i (a0.kids.length : Int)), (20, V.i y59)], [(100, .vec false 54 5 (y60.map (eSN true))), (101, .cells 54 [V.i a0.kind, V.i a0.op, V.s a0.text, V.s a0.other, .own 102]), (102, vX 3 1 eNI y61)]⟩) (fun n i => mi_tree__add_l1 N R n i = some r) (n0 := N) (i0 := (a0, 0, p0, [])) ((Weak.nilCell 101 4 102 3 1 (ety := 54) (cs := [V.i a0.kind, V.i a0.op, V.s a0.text, V.s a0.other, .c (.slice none 0 0)]) (by kernel_rfl) (by kernel_rfl) (by kernel_rfl)).trans (wS [(0, 100), (101, 101), (102, 102)] [1, 5, 18, 19, 20])) h (fun i h => by simp [mi_tree__add_l1] at h) ?_)
 rintro n1 ⟨a0, y59, y60, y61⟩ h77 ih78
 rw [mi_tree__add_l1] at h77
 refine cV 171 (CO.seq' ?_)
 refine cI h77 (fun _ h77 => ?_) (fun _ h77 => ?_)
 ·refine CO.skip (CO.seq' (CO.block' (bB h77 fun e84 hx88 h77 => (CO.sw mix (W.ixDr Dk eST hx88 5 (by kernel_rfl) (encSTree_eq e84) (by kernel_rfl) (wR 3 171 (wF (bB h77 fun r86 hx90 h77 => ?_))))))))
  refine CO.sw mix (wR 2 172 (wC (HR.mi_tree__add e84 y60 _ hx90) cok154 [(100, 0)] [(100, 172)] [172] (wR 1 173 (wF (bB h77 fun x88 hx92 h77 => ?_)))))
  refine CO.endR (tl 40 [(1, .own 172), (5, .loc 101 0), (18, sL eST a0.kids), (19, V.i (a0.kids.length : Int)), (20, V.i y59)]) [(101, .cells 54 [V.i a0.kind, V.i a0.op, V.s a0.text, V.s a0.other, .own 174]), (174, vX 3 1 eNI x88), (172, .vec false 54 5 (r86.map (eSN true)))] mix (by
   refine wR 3 173 (wN (eSN true) r86 [172] (wR 2 173 (W.appO Dk eNI (a := 102) (c := 173) (el := 3) (sz := 1) 8 hx92 rfl 174 (by kernel_rfl) (wR 2 175 ?_))))
   exact fI
   ) (fun st hw => ?_)
  refine CO.weak hw ?_
  exact cK 175 ih78 (a0, (wr (y59 + 1)), r86, x88) h77 [(172, 100), (101, 101), (174, 102)] [1, 5, 18, 19, 20]
 refine CO.exit (bB h77 fun x90 hx94 h77 => (CO.sw mix (wR 3 171 (W.appO Dk (eSN true) (a := 100) (c := 171) (el := 54) (sz := 5) 72 hx94 rfl 172 (by kernel_rfl) (wR 1 173 (wF (CO.ret ?_)))))))
 cases h77
 exact eG [(172, 100)] (.inr rfl) (RetV.one rfl (oT (t := 4) (r := .own 172)))

theorem scc4_ok : ∀ N, RecOk4 (scc4 N)
 | 0 => ⟨fun _ _ _ h => (by cases h)⟩
 | N + 1 => ⟨fun a0 p0 _ h => mi_tree__add_F_ok N (scc4 N) (scc4_ok N) a0 p0 h⟩

theorem mi_tree__add_ok (N : Nat) (a0 : STree) (p0 : LN) {r : LN} (h : mi_tree__add N a0 p0 = some r) :
  AC0 154 [.agg [V.i a0.kind, V.i a0.op, V.s a0.text, V.s a0.other, sL eST a0.kids], .own 0] [(0, .vec false 54 5 (p0.map (eSN true)))] (.own 100) [(100, .vec false 54 5 (r.map (eSN true)))] :=
 (scc4_ok N).mi_tree__add a0 p0 r h

theorem mi_tree__list_ok (N : Nat) (a0 : STree) {r : LN} (h : mi_tree__list N a0 = some r) :
    AC0 98 [.agg [V.i a0.kind, V.i a0.op, V.s a0.text, V.s a0.other, sL eST a0.kids]] [] (.own 100) [(100, .vec false 54 5 (r.map (eSN true)))] := by
 rw [mi_tree__list] at h
 refine AC.enter Tryz.func98 rfl (cV 100 (bB h fun r2 hx2 h => (CO.sw mix (wR 1 101 (W.callK (AC.nilArg 1 0 54 5 (mi_tree__add_ok N a0 [] hx2) (by kernel_rfl) (by kernel_rfl) (by kernel_rfl) (by kernel_rfl) rfl) cok154 [] [(100, 101)] [1] [101] lO (by kernel_rfl) (by kernel_rfl) (wR 1 102 (wF (CO.ret ?_))))))))
 cases h
 exact eG [(101, 100)] (.inr rfl) (RetV.one rfl (oT (t := 2) (r := .own 101)))

theorem mi_ParseExpr_ok (N : Nat) (a0 : LT) (a1 : SPos) {r : (LN × Int × SFault)} (h : mi_ParseExpr N a0 a1 = some r) :
    AC Tryz.prog (GS [0, 1, 2]) 57 [sL eTk a0, .agg [V.i a1.Level, V.b a1.Dollar, V.b a1.NoIn, V.b a1.NoGt, V.b a1.NoSign]] [] (.tup [.own 100, V.i r.2.1, .agg [V.i r.2.2.Kind, V.i r.2.2.At]]) [(100, .vec false 54 5 (r.1.map (eSN true)))] := by
 rw [mi_ParseExpr] at h
 refine AC.enter Tryz.func57 rfl (cV 100 (CO.seq' (bB h fun r4 hx5 h => (cC 1 102 (AC.gs (mi_PosOk_ok a1 hx5) (by decide)) cok93 ?_))))
 refine cI h (fun _ h => ?_) (fun _ h => ?_)
 ·refine cV 102 (CO.weak (Weak.nil 4 102 54 5 (by kernel_rfl) (by kernel_rfl)) (CO.ret ?_))
  cases h
  exact eG [(102, 100)] (.inr rfl) (RetV.three rfl (oT (t := 4) (r := .own 102)) (oT (t := 5) (r := V.i 0)) (OneR.cell Dk (r := .agg [V.i 3, V.i 0]) (i := 101) (ety := 82) (cs := [V.i 3, V.i 0]) (by kernel_rfl) (by kernel_rfl) (by kernel_rfl)))
 refine CO.skip (CO.seq' (bB h fun r8 hx11 h => (cC 1 102 (mi_checked_ok N a0 hx11) cok94 (cV 103 ?_))))
 refine cI h (fun _ h => ?_) (fun _ h => ?_)
 ·refine cV 103 (CO.weak (Weak.nil 4 103 54 5 (by kernel_rfl) (by kernel_rfl)) (CO.ret ?_))
  have h := sI h
  subst h
  exact eG [(103, 100)] (.inr rfl) (RetV.three rfl (oT (t := 4) (r := .own 103)) (oT (t := 5) (r := V.i 0)) (OneR.cell Dk (r := .agg [V.i r8.Kind, V.i r8.At]) (i := 101) (ety := 82) (cs := [V.i r8.Kind, V.i r8.At]) (by kernel_rfl) (by kernel_rfl) (by kernel_rfl)))
 refine CO.skip (cU 4 103 (tl 53 [(0, sL eTk a0), (3, .loc 100 0), (6, .loc 101 0), (8, .loc 103 0)]) [(103, .cells 108 [sL eTk a0, V.i 0, V.b false, .c (.slice none 0 0)]), (101, .cells 82 [V.i 0, V.i 0]), (100, .cells 40 [V.i a1.Level, V.b a1.Dollar, V.b a1.NoIn, V.b a1.NoGt, V.b a1.NoSign])] (CO.weak (st' := ⟨tl 53 [(0, sL eTk a0), (3, .loc 100 0), (6, .loc 101 0), (8, .loc 103 0)], [(104, vN []), (103, cP 108 a0 0 false 104), (101, .cells 82 [V.i 0, V.i 0]), (100, .cells 40 [V.i a1.Level, V.b a1.Dollar, V.b a1.NoIn, V.b a1.NoGt, V.b a1.NoSign])]⟩) ((Weak.nilCell 103 3 104 9 1 (ety := 108) (cs := [sL eTk a0, V.i 0, V.b false, .c (.slice none 0 0)]) (by kernel_rfl) (by kernel_rfl) (by kernel_rfl)).trans (Weak.eq (by kernel_rfl) (by kernel_rfl))) (bB h fun r11 hx15 h => (CO.sw mix (wR 2 105 (wC (AC.gs (mp_level_ok N a1 a0 0 false [] hx15) (by decide)) cok95 [(103, 0), (104, 1)] [(0, 103), (100, 105)] [105] (wR 2 106 (wF ?_))))))))
 refine CO.seq' (cV 107 ?_)
 refine cI h (fun _ h => ?_) (fun _ h => ?_)
 ·refine bB h fun r15 hx21 h => (cC 5 107 (AC.gs (mi_placeOf_ok a0 r11.2.1 hx21) (by decide)) cok96 (CO.weak (Weak.nil 4 107 54 5 (by kernel_rfl) (by kernel_rfl)) (CO.ret ?_)))
  have h := sI h
  subst h
  exact eG [(107, 100)] (.inr rfl) (RetV.three rfl (oT (t := 4) (r := .own 107)) (oT (t := 5) (r := V.i 0)) (OneR.cell Dk (r := .agg [V.i 3, V.i r15]) (i := 101) (ety := 82) (cs := [V.i 3, V.i r15]) (by kernel_rfl) (by kernel_rfl) (by kernel_rfl)))
 refine CO.skip (CO.seq' (bB h fun r19 hx26 h => (cC 2 107 (AC.gs (mi_bounded_ok N r11.1.tree hx26) (by decide)) cok97 (cV 108 ?_))))
 refine cI h (fun _ h => ?_) (fun _ h => ?_)
 ·refine cV 108 (CO.weak (Weak.nil 4 108 54 5 (by kernel_rfl) (by kernel_rfl)) (CO.ret ?_))
  have h := sI h
  subst h
  exact eG [(108, 100)] (.inr rfl) (RetV.three rfl (oT (t := 4) (r := .own 108)) (oT (t := 5) (r := V.i 0)) (OneR.cell Dk (r := .agg [V.i r19.Kind, V.i r19.At]) (i := 101) (ety := 82) (cs := [V.i r19.Kind, V.i r19.At]) (by kernel_rfl) (by kernel_rfl) (by kernel_rfl)))
 refine CO.skip (bB h fun r21 hx29 h => (CO.sw mix (wR 2 108 (wC (AC.gs (mi_tree__list_ok N r11.1.tree hx29) (by decide)) cok98 [] [(100, 108)] [108] (wR 8 109 (wF (CO.ret ?_)))))))
 have h := sI h
 subst h
 exact eG [(108, 100)] (.inr rfl) (RetV.three rfl (oT (t := 4) (r := .own 108)) (oT (t := 5) (r := V.i r11.2.1)) (OneR.cell Dk (r := .agg [V.i 0, V.i 0]) (i := 101) (ety := 82) (cs := [V.i 0, V.i 0]) (by kernel_rfl) (by kernel_rfl) (by kernel_rfl)))

theorem mi_whole_ok (N : Nat) (a0 : LT) (a1 : SPos) {r : (LN × Bool)} (h : mi_whole N a0 a1 = some r) :
    AC Tryz.prog (GS [0, 1, 2]) 28 [sL eTk a0, .agg [V.i a1.Level, V.b a1.Dollar, V.b a1.NoIn, V.b a1.NoGt, V.b a1.NoSign]] [] (.tup [.own 100, V.b r.2]) [(100, .vec false 54 5 (r.1.map (eSN true)))] := by
 rw [mi_whole] at h
 refine AC.enter Tryz.func28 rfl (cV 100 (bB h fun r2 hx2 h => (CO.sw mix (wR 2 101 (wC (mi_ParseExpr_ok N a0 a1 hx2) cok57 [] [(100, 101)] [101] (wR 8 102 (wF (bB h fun y3 hv4 h => ?_))))))))
 refine CO.cutR (tl 26 [(4, .own 100), (5, V.b y3)]) [(100, .vec false 54 5 (r2.1.map (eSN true)))] mix (by
  refine wR 5 103 ?_
  refine wJ 20 hv4 (fun hv4 => ?_) (fun hv4 => ?_)
  ·refine wR 2 103 (wN eTk a0 [] (wR 4 103 ?_))
   cases hv4
   exact fS [(101, 100)] [4, 5]
  refine wR 7 103 ?_
  cases hv4
  exact fS [(101, 100)] [4, 5]
  ) ?_
 refine CO.ret ?_
 have h := sI h
 subst h
 exact eG [(100, 100)] (.inr rfl) (RetV.two rfl (oT (t := 4) (r := .own 100)) (oT (t := 5) (r := V.b y3)))

theorem mi_startsOf_ok (N : Nat) (a0 : LN) {r : ((List Int) × Bool)} (h : mi_startsOf N a0 = some r) :
    AC0 99 [.sl false false (a0.map (eSN false))] [] (.tup [.own 100, V.b r.2]) [(100, vX 3 1 eNI r.1)] := by
 rw [mi_startsOf] at h
 refine AC.enter Tryz.func99 rfl (cV 100 (CO.seq' (bB h fun r4 hx5 h => (CO.sw mix (wR 1 102 (wN (eSN false) a0 [] (w0 (mi_within_ok (a0.length : Int) 1 400 hx5) cok103 (wR 1 102 ?_))))))))
 refine wF ?_
 refine cI h (fun _ h => ?_) (fun _ h => ?_)
 ·refine cV 102 (CO.weak (Weak.nilCell 100 0 102 3 1 (ety := 48) (cs := [.c (.slice none 0 0)]) (by kernel_rfl) (by kernel_rfl) (by kernel_rfl)) (CO.ret ?_))
  cases h
  exact eG [(102, 100)] (.inr rfl) (RetV.two rfl (OneR.cell Dk (r := .own 102) (i := 100) (ety := 48) (cs := [.own 102]) (by kernel_rfl) (by kernel_rfl) (by kernel_rfl)) (OneR.cell Dk (r := V.b false) (i := 101) (ety := 4) (cs := [V.b false]) (by kernel_rfl) (by kernel_rfl) (by kernel_rfl)))
 refine CO.skip (bB h fun x6 hx8 h => (CO.sw mix (wR 1 102 (wN (eSN false) a0 [] (W.mk Dk eNI 8 hx8 102 3 1 [.int .i64 0] (by kernel_rfl) (by kernel_rfl) (wR 2 103 (wF (CO.seq' ?_))))))))
 refine CO.sw mix (wR 1 104 (wN (eSN false) a0 [] (wR 1 104 (wF (CO.block' (CO.loopJ (fun (⟨a0, y203, y204⟩ : (LN × Int × (List Int))) => ⟨tl 57 [(0, .sl false false (a0.map (eSN false))), (2, .loc 100 0), (3, .loc 101 0), (4, .loc 102 0), (17, .sl false false (a0.map (eSN false))), (18, V.i (a0.length : Int)), (19, V.i y203)], [(100, .cells 48 [.c (.slice none 0 0)]), (101, .cells 4 [V.b false]), (102, .cells 48 [.own 103]), (103, vX 3 1 eNI y204)]⟩) (fun n i => mi_startsOf_l1 N n i = some r) (n0 := N) (i0 := (a0, 0, x6)) (wS [(100, 100), (101, 101), (103, 102), (102, 103)] [0, 2, 3, 4, 17, 18, 19]) h (fun i h => by simp [mi_startsOf_l1] at h) ?_))))))
 rintro n1 ⟨a0, y203, y204⟩ h481 ih482
 rw [mi_startsOf_l1] at h481
 refine cV 272 (CO.seq' ?_)
 refine cI h481 (fun _ h481 => ?_) (fun _ h481 => ?_)
 ·refine CO.skip (CO.seq' (CO.block' (bB h481 fun e322 hx556 h481 => (CO.sw mix (wR 1 272 (wX (eSN false) hx556 5 (wR 4 272 (wF ?_))))))))
  refine cV 273 (CO.seq' (CO.sw mix (wR 2 274 (wC (back155 e322.Kids) cok155 [] [(100, 274)] [274] (wF (CO.block' ?_))))))
  refine CO.rangeB backok189 cok189 V.i e322.Kids [(100, 2), (101, 3), (102, 4), (273, 1), (274, 0), (103, 5)] [0, 2, 3, 4, 5, 7, 17, 18, 19, 28] (tl 57 [(0, .sl false false (a0.map (eSN false))), (2, .loc 2 0), (3, .loc 3 0), (4, .loc 4 0), (5, V.i y203), (7, .loc 1 0), (17, .sl false false (a0.map (eSN false))), (18, V.i (a0.length : Int)), (19, V.i y203), (28, .fn 189 [.loc 0 0])]) (wr (y203 - 1)) (fun (y345 : Int) => [(2, .cells 48 [.c (.slice none 0 0)]), (3, .cells 4 [V.b false]), (4, .cells 48 [.own 5]), (1, .cells 3 [V.i y345]), (0, .cells 48 [sL eNI e322.Kids]), (5, vX 3 1 eNI y204)]) (fun es i => mi_startsOf_r2 N (mi_startsOf_l1 N n1) a0 y203 e322 y204 es i = some r) 0 48 false 29 30 (by kernel_rfl) (by kernel_rfl) (by kernel_rfl) (by kernel_rfl) (by rintro y345; kernel_rfl) h481 ?_ ?_
  ·rintro e339 es340 y345 h609 L
   rw [mi_startsOf_r2] at h609
   refine ⟨tl 57 [(0, .sl false false (a0.map (eSN false))), (2, .loc 2 0), (3, .loc 3 0), (4, .loc 4 0), (5, V.i y203), (7, .loc 1 0), (9, V.i e339), (17, .sl false false (a0.map (eSN false))), (18, V.i (a0.length : Int)), (19, V.i y203), (28, .fn 189 [.loc 0 0])], [(2, .cells 48 [.c (.slice none 0 0)]), (3, .cells 4 [V.b false]), (4, .cells 48 [.own 5]), (1, .cells 3 [V.i y345]), (0, .cells 48 [sL eNI e322.Kids]), (5, vX 3 1 eNI y204)], ?_, ?_⟩
   ·refine cE 1 316 (tl 57 [(0, .sl false false (a0.map (eSN false))), (2, .loc 2 0), (3, .loc 3 0), (4, .loc 4 0), (5, V.i y203), (7, .loc 1 0), (9, V.i e339), (17, .sl false false (a0.map (eSN false))), (18, V.i (a0.length : Int)), (19, V.i y203), (28, .fn 189 [.loc 0 0])]) [(2, .cells 48 [.c (.slice none 0 0)]), (3, .cells 4 [V.b false]), (4, .cells 48 [.own 5]), (1, .cells 3 [V.i y345]), (0, .cells 48 [sL eNI e322.Kids]), (5, vX 3 1 eNI y204)] (fun st hw => ?_)
    exact ⟨rfl, hw⟩
   ·refine CO.block' (CO.seq' (bB h609 fun y352 hv616 h609 => ?_))
    refine CO.cutR (tl 57 [(0, .sl false false (a0.map (eSN false))), (2, .loc 2 0), (3, .loc 3 0), (4, .loc 4 0), (5, V.i y203), (7, .loc 1 0), (9, V.i e339), (17, .sl false false (a0.map (eSN false))), (18, V.i (a0.length : Int)), (19, V.i y203), (28, .fn 189 [.loc 0 0]), (37, V.b y352)]) [(2, .cells 48 [.c (.slice none 0 0)]), (3, .cells 4 [V.b false]), (4, .cells 48 [.own 5]), (1, .cells 3 [V.i y345]), (0, .cells 48 [sL eNI e322.Kids]), (5, vX 3 1 eNI y204)] mix (by
     refine wR 3 316 ?_
     refine wJ 33 hv616 (fun hv616 => ?_) (fun hv616 => ?_)
     ·refine wR 4 316 ?_
      cases hv616
      exact fS [(2, 2), (3, 3), (4, 4), (1, 1), (0, 0), (5, 5)] [0, 2, 3, 4, 5, 7, 9, 17, 18, 19, 28, 37]
     refine wR 4 316 ?_
     cases hv616
     exact fS [(2, 2), (3, 3), (4, 4), (1, 1), (0, 0), (5, 5)] [0, 2, 3, 4, 5, 7, 9, 17, 18, 19, 28, 37]
     ) ?_
    refine cI h609 (fun _ h609 => ?_) (fun _ h609 => ?_)
    ·refine cV 316 (CO.weak (Weak.nilCell 2 0 316 3 1 (ety := 48) (cs := [.c (.slice none 0 0)]) (by kernel_rfl) (by kernel_rfl) (by kernel_rfl)) (CO.ret (Fin.mk' [(316, 316), (3, 101), (2, 100), (4, 102), (1, 273), (0, 274), (5, 103)] [0, 2, 3, 4, 5, 7, 17, 18, 19, 28] (tl 57 [(0, .sl false false (a0.map (eSN false))), (2, .loc 100 0), (3, .loc 101 0), (4, .loc 102 0), (5, V.i y203), (7, .loc 273 0), (17, .sl false false (a0.map (eSN false))), (18, V.i (a0.length : Int)), (19, V.i y203), (28, .fn 189 [.loc 274 0])]) [(316, vX 3 1 eNI []), (101, .cells 4 [V.b false]), (100, .cells 48 [.own 316]), (102, .cells 48 [.own 103]), (273, .cells 3 [V.i y345]), (274, .cells 48 [sL eNI e322.Kids]), (103, vX 3 1 eNI y204)] (by kernel_rfl) (by kernel_rfl) (by kernel_rfl) ?_)))
     cases h609
     exact eG [(316, 100)] (.inr rfl) (RetV.two rfl (OneR.cell Dk (r := .own 316) (i := 100) (ety := 48) (cs := [.own 316]) (by kernel_rfl) (by kernel_rfl) (by kernel_rfl)) (OneR.cell Dk (r := V.b false) (i := 101) (ety := 4) (cs := [V.b false]) (by kernel_rfl) (by kernel_rfl) (by kernel_rfl)))
    refine CO.skip (bB h609 fun e354 hx620 h609 => ?_)
    refine CO.endR (tl 57 [(0, .sl false false (a0.map (eSN false))), (2, .loc 2 0), (3, .loc 3 0), (4, .loc 4 0), (5, V.i y203), (7, .loc 1 0), (17, .sl false false (a0.map (eSN false))), (18, V.i (a0.length : Int)), (19, V.i y203), (28, .fn 189 [.loc 0 0])]) [(1, .cells 3 [V.i (wr (e354 - 1))]), (2, .cells 48 [.c (.slice none 0 0)]), (3, .cells 4 [V.b false]), (4, .cells 48 [.own 5]), (0, .cells 48 [sL eNI e322.Kids]), (5, vX 3 1 eNI y204)] mix (by
     refine wR 2 316 (W.ixO Dk eNI hx620 5 1 (by kernel_rfl) (W.ldO Dk eNI hx620 3 5 0 (V.i e354) (by kernel_rfl) (by kernel_rfl) (wR 2 316 ?_)))
     exact fI
     ) (fun st hw => ?_)
    exact ⟨tl 57 [], _, (hw.trans (wS [(2, 2), (3, 3), (4, 4), (1, 1), (0, 0), (5, 5)] [])), (wr (e354 - 1)), h609, rfl⟩
  ·rintro y345 h610
   rw [mi_startsOf_r2] at h610
   refine Fin.mk' [(2, 100), (3, 101), (4, 102), (1, 273), (0, 274), (5, 103)] [0, 2, 3, 4, 5, 7, 17, 18, 19, 28] (tl 57 [(0, .sl false false (a0.map (eSN false))), (2, .loc 100 0), (3, .loc 101 0), (4, .loc 102 0), (5, V.i y203), (7, .loc 273 0), (17, .sl false false (a0.map (eSN false))), (18, V.i (a0.length : Int)), (19, V.i y203), (28, .fn 189 [.loc 274 0])]) [(100, .cells 48 [.c (.slice none 0 0)]), (101, .cells 4 [V.b false]), (102, .cells 48 [.own 103]), (273, .cells 3 [V.i y345]), (274, .cells 48 [sL eNI e322.Kids]), (103, vX 3 1 eNI y204)] (by kernel_rfl) (by kernel_rfl) (by kernel_rfl) (bB h610 fun e357 hx623 h610 => (bB h610 fun x358 hu624 h610 => ?_))
   refine CO.endR (tl 57 [(0, .sl false false (a0.map (eSN false))), (2, .loc 100 0), (3, .loc 101 0), (4, .loc 102 0), (17, .sl false false (a0.map (eSN false))), (18, V.i (a0.length : Int)), (19, V.i y203)]) [(103, vX 3 1 eNI x358), (100, .cells 48 [.c (.slice none 0 0)]), (101, .cells 4 [V.b false]), (102, .cells 48 [.own 103])] mix (by
    refine wR 4 336 (W.ixO Dk eNI hx623 103 1 (by kernel_rfl) (W.stO Dk eNI (x' := (wr (y345 + 1))) hx623 hu624 (j := 103) (nn := false) (ety := 3) (sz := 1) (b := 0) (ys := [V.i (wr (y345 + 1))]) (C := []) (R := []) (by kernel_rfl) (by kernel_rfl) ?_))
    exact fI
    ) (fun st hw => ?_)
   refine CO.weak hw ?_
   exact cK 336 ih482 (a0, (wr (y203 + 1)), x358) h610 [(100, 100), (101, 101), (102, 102), (103, 103)] [0, 2, 3, 4, 17, 18, 19]
 refine CO.exit (bB h481 fun e360 hx626 h481 => (CO.sw mix (wR 3 272 (wN (eSN false) a0 [] (wR 1 272 (W.ixO Dk eNI hx626 103 1 (by kernel_rfl) (W.ldO Dk eNI hx626 3 103 0 (V.i e360) (by kernel_rfl) (by kernel_rfl) (wR 3 272 ?_))))))))
 refine wF (CO.ret ?_)
 have h481 := sI h481
 subst h481
 exact eG [(103, 100)] (.inr rfl) (RetV.two rfl (OneR.cell Dk (r := .own 103) (i := 100) (ety := 48) (cs := [.own 103]) (by kernel_rfl) (by kernel_rfl) (by kernel_rfl)) (OneR.cell Dk (r := V.b (e360 == 0)) (i := 101) (ety := 4) (cs := [V.b (e360 == 0)]) (by kernel_rfl) (by kernel_rfl) (by kernel_rfl)))

theorem mi_ShapeOk_ok (N : Nat) (a0 : LN) {r : Bool} (h : mi_ShapeOk N a0 = some r) :
    AC0 58 [.sl false false (a0.map (eSN false))] [] (V.b r) [] := by
 rw [mi_ShapeOk] at h
 refine AC.enter Tryz.func58 rfl (cV 100 (bB h fun r2 hx2 h => (CO.sw mix (wR 1 100 (wC (mi_startsOf_ok N a0 hx2) cok99 [] [(100, 100)] [100] (wR 5 101 (wF (cV 101 ?_))))))))
 cases h
 exact e1 2 id

theorem mi_IsExpr_ok (a0 : Int) {r : Bool} (h : mi_IsExpr a0 = some r) :
    AC0 79 [V.i a0] [] (V.b r) [] := by
 rw [mi_IsExpr] at h
 refine AC.enter Tryz.func79 rfl (cV 100 (bB h fun r2 hx2 h => (cC 1 100 (mi_within_ok a0 1 15 hx2) cok103 ?_)))
 cases h
 exact e1 2 id

theorem mi_exprForm_ok (N : Nat) (a0 : SNode) {r : SForm} (h : mi_exprForm N a0 = some r) :
    AC Tryz.prog (GS [0, 1, 2]) 100 [.agg [V.i a0.Kind, V.i a0.Op, V.s a0.Text, V.s a0.Other, sL eNI a0.Kids]] [] (.agg [V.b r.op, V.b r.text, V.b r.other, V.i r.least, V.i r.most]) [] := by
 rw [mi_exprForm] at h
 refine AC.enter Tryz.func100 rfl (cV 100 (CO.seq' (cV 102 (CO.block' (cV 102 ?_)))))
 refine cI h (fun _ h => ?_) (fun _ h => ?_)
 ·refine bB h fun r22 hx48 h => (cC 5 102 (AC.gs (mi_NameOk_ok N a0.Text hx48) (by decide)) cok129 (CO.ret ?_))
  have h := sI h
  subst h
  exact eG [] (.inr rfl) (RetV.one rfl (OneR.cell Dk (r := .agg [V.b (a0.Op == 0), V.b r22, V.b false, V.i 0, V.i 0]) (i := 101) (ety := 115) (cs := [V.b (a0.Op == 0), V.b r22, V.b false, V.i 0, V.i 0]) (by kernel_rfl) (by kernel_rfl) (by kernel_rfl)))
 refine CO.join (fun (⟨a0, y23⟩ : (SNode × Bool)) => ⟨tl 123 [(1, .loc 100 0), (2, .loc 101 0), (4, V.i a0.Kind), (14, V.b y23)], [(100, .cells 54 [V.i a0.Kind, V.i a0.Op, V.s a0.Text, V.s a0.Other, sL eNI a0.Kids]), (101, .cells 115 [V.b false, V.b false, V.b false, V.i 0, V.i 0])]⟩) (fun i => mi_exprForm_k1 N i = some r) ?_ ?_
 · rintro ⟨a0, y23⟩ h51
   rw [mi_exprForm_k1] at h51
   refine cI h51 (fun _ h51 => ?_) (fun _ h51 => ?_)
   ·refine bB h51 fun e26 hx55 h51 => (bB h51 fun r27 hx56 h51 => (CO.sw mix (wR 7 102 (W.ixA Dk V.i hx55 (by kernel_rfl) (wR 3 102 (w0 (mi_TokenOk_ok N (⟨e26, a0.Text, 0⟩ : SToken) hx56) cok91 (wR 2 102 (wF ?_))))))))
    refine CO.ret ?_
    have h51 := sI h51
    subst h51
    exact eG [] (.inr rfl) (RetV.one rfl (OneR.cell Dk (r := .agg [V.b (a0.Op == 0), V.b r27, V.b false, V.i 0, V.i 0]) (i := 101) (ety := 115) (cs := [V.b (a0.Op == 0), V.b r27, V.b false, V.i 0, V.i 0]) (by kernel_rfl) (by kernel_rfl) (by kernel_rfl)))
   refine CO.join (fun (⟨a0, y28⟩ : (SNode × Bool)) => ⟨tl 123 [(1, .loc 100 0), (2, .loc 101 0), (4, V.i a0.Kind), (31, V.b y28)], [(100, .cells 54 [V.i a0.Kind, V.i a0.Op, V.s a0.Text, V.s a0.Other, sL eNI a0.Kids]), (101, .cells 115 [V.b false, V.b false, V.b false, V.i 0, V.i 0])]⟩) (fun i => mi_exprForm_k2 N i = some r) ?_ ?_
   · rintro ⟨a0, y28⟩ h58
     rw [mi_exprForm_k2] at h58
     refine cI h58 (fun _ h58 => ?_) (fun _ h58 => ?_)
     ·refine bB h58 fun r30 hx61 h58 => (cC 5 102 (AC.gs (mi_NameOk_ok N a0.Text hx61) (by decide)) cok129 (CO.ret ?_))
      have h58 := sI h58
      subst h58
      exact eG [] (.inr rfl) (RetV.one rfl (OneR.cell Dk (r := .agg [V.b (a0.Op == 0), V.b r30, V.b false, V.i 1, V.i 6]) (i := 101) (ety := 115) (cs := [V.b (a0.Op == 0), V.b r30, V.b false, V.i 1, V.i 6]) (by kernel_rfl) (by kernel_rfl) (by kernel_rfl)))
     refine cV 102 ?_
     refine cI h58 (fun _ h58 => ?_) (fun _ h58 => ?_)
     ·refine cV 102 (CO.ret ?_)
      have h58 := sI h58
      subst h58
      exact eG [] (.inr rfl) (RetV.one rfl (OneR.cell Dk (r := .agg [V.b (a0.Op == 0), V.b (a0.Text == []), V.b false, V.i 1, V.i 1]) (i := 101) (ety := 115) (cs := [V.b (a0.Op == 0), V.b (a0.Text == []), V.b false, V.i 1, V.i 1]) (by kernel_rfl) (by kernel_rfl) (by kernel_rfl)))
     refine cV 102 ?_
     refine cI h58 (fun _ h58 => ?_) (fun _ h58 => ?_)
     ·refine bB h58 fun r32 hx65 h58 => (cC 5 102 (AC.gs (mi_NameOk_ok N a0.Text hx65) (by decide)) cok129 (CO.ret ?_))
      have h58 := sI h58
      subst h58
      exact eG [] (.inr rfl) (RetV.one rfl (OneR.cell Dk (r := .agg [V.b (a0.Op == 0), V.b r32, V.b false, V.i 0, V.i 6]) (i := 101) (ety := 115) (cs := [V.b (a0.Op == 0), V.b r32, V.b false, V.i 0, V.i 6]) (by kernel_rfl) (by kernel_rfl) (by kernel_rfl)))
     refine cV 102 ?_
     refine cI h58 (fun _ h58 => ?_) (fun _ h58 => ?_)
     ·refine bB h58 fun r34 hx68 h58 => (cC 5 102 (AC.gs (mi_IsBuiltin_ok N a0.Text hx68) (by decide)) cok130 (CO.ret ?_))
      have h58 := sI h58
      subst h58
      exact eG [] (.inr rfl) (RetV.one rfl (OneR.cell Dk (r := .agg [V.b (a0.Op == 0), V.b r34, V.b false, V.i 0, V.i 6]) (i := 101) (ety := 115) (cs := [V.b (a0.Op == 0), V.b r34, V.b false, V.i 0, V.i 6]) (by kernel_rfl) (by kernel_rfl) (by kernel_rfl)))
     refine CO.join (fun (⟨a0, y35⟩ : (SNode × Bool)) => ⟨tl 123 [(1, .loc 100 0), (2, .loc 101 0), (4, V.i a0.Kind), (68, V.b y35)], [(100, .cells 54 [V.i a0.Kind, V.i a0.Op, V.s a0.Text, V.s a0.Other, sL eNI a0.Kids]), (101, .cells 115 [V.b false, V.b false, V.b false, V.i 0, V.i 0])]⟩) (fun i => mi_exprForm_k3 N i = some r) ?_ ?_
     · rintro ⟨a0, y35⟩ h70
       rw [mi_exprForm_k3] at h70
       refine cI h70 (fun _ h70 => ?_) (fun _ h70 => ?_)
       ·refine bB h70 fun r37 hx73 h70 => (cC 2 102 (AC.gs (mi_isStep_ok a0.Op hx73) (by decide)) cok149 (CO.ret ?_))
        have h70 := sI h70
        subst h70
        exact eG [] (.inr rfl) (RetV.one rfl (OneR.cell Dk (r := .agg [V.b r37, V.b (a0.Text == []), V.b false, V.i 1, V.i 1]) (i := 101) (ety := 115) (cs := [V.b r37, V.b (a0.Text == []), V.b false, V.i 1, V.i 1]) (by kernel_rfl) (by kernel_rfl) (by kernel_rfl)))
       refine cV 102 ?_
       refine cI h70 (fun _ h70 => ?_) (fun _ h70 => ?_)
       ·refine bB h70 fun y38 hv77 h70 => ?_
        refine CO.cutR (tl 123 [(2, .loc 100 0)]) [(100, .cells 115 [V.b y38, V.b (a0.Text == []), V.b false, V.i 1, V.i 1])] mix (by
         refine wR 4 102 ?_
         refine wJ 83 hv77 (fun hv77 => ?_) (fun hv77 => ?_)
         ·refine wR 14 102 ?_
          cases hv77
          exact fS [(101, 100)] [2]
         refine wR 5 102 ?_
         refine wJ 88 hv77 (fun hv77 => ?_) (fun hv77 => ?_)
         ·refine wR 9 102 ?_
          cases hv77
          exact fS [(101, 100)] [2]
         refine wR 9 102 ?_
         cases hv77
         exact fS [(101, 100)] [2]
         ) ?_
        refine CO.ret ?_
        have h70 := sI h70
        subst h70
        exact eG [] (.inr rfl) (RetV.one rfl (OneR.cell Dk (r := .agg [V.b y38, V.b (a0.Text == []), V.b false, V.i 1, V.i 1]) (i := 100) (ety := 115) (cs := [V.b y38, V.b (a0.Text == []), V.b false, V.i 1, V.i 1]) (by kernel_rfl) (by kernel_rfl) (by kernel_rfl)))
       refine cV 102 ?_
       refine cI h70 (fun _ h70 => ?_) (fun _ h70 => ?_)
       ·refine bB h70 fun r40 hx82 h70 => (cC 2 102 (AC.gs (mi_OpLevel_ok a0.Op hx82) (by decide)) cok56 (CO.ret ?_))
        have h70 := sI h70
        subst h70
        exact eG [] (.inr rfl) (RetV.one rfl (OneR.cell Dk (r := .agg [V.b (r40 != 0), V.b (a0.Text == []), V.b false, V.i 2, V.i 2]) (i := 101) (ety := 115) (cs := [V.b (r40 != 0), V.b (a0.Text == []), V.b false, V.i 2, V.i 2]) (by kernel_rfl) (by kernel_rfl) (by kernel_rfl)))
       refine cV 102 ?_
       refine cI h70 (fun _ h70 => ?_) (fun _ h70 => ?_)
       ·refine cV 102 (CO.ret ?_)
        have h70 := sI h70
        subst h70
        exact eG [] (.inr rfl) (RetV.one rfl (OneR.cell Dk (r := .agg [V.b (a0.Op == 0), V.b (a0.Text == []), V.b false, V.i 3, V.i 3]) (i := 101) (ety := 115) (cs := [V.b (a0.Op == 0), V.b (a0.Text == []), V.b false, V.i 3, V.i 3]) (by kernel_rfl) (by kernel_rfl) (by kernel_rfl)))
       refine CO.skip (bB h70 fun r42 hx85 h70 => (cC 2 102 (AC.gs (mi_isAssign_ok a0.Op hx85) (by decide)) cok156 (CO.ret ?_)))
       have h70 := sI h70
       subst h70
       exact eG [] (.inr rfl) (RetV.one rfl (OneR.cell Dk (r := .agg [V.b r42, V.b (a0.Text == []), V.b false, V.i 2, V.i 2]) (i := 101) (ety := 115) (cs := [V.b r42, V.b (a0.Text == []), V.b false, V.i 2, V.i 2]) (by kernel_rfl) (by kernel_rfl) (by kernel_rfl)))
     intro hk86
     refine cV 102 ?_
     refine cI h58 (fun _ h58 => ?_) (fun _ h58 => ?_)
     ·exact sK hk86 (a0, (a0.Kind == 9)) h58 [(100, 100), (101, 101)] [1, 2, 4, 68]
     exact cK 102 hk86 (a0, (a0.Kind == 10)) h58 [(100, 100), (101, 101)] [1, 2, 4, 68]
   intro hk88
   refine cV 102 ?_
   refine cI h51 (fun _ h51 => ?_) (fun _ h51 => ?_)
   ·exact sK hk88 (a0, (a0.Kind == 5)) h51 [(100, 100), (101, 101)] [1, 2, 4, 31]
   exact cK 102 hk88 (a0, (a0.Kind == 13)) h51 [(100, 100), (101, 101)] [1, 2, 4, 31]
 intro hk90
 refine cV 102 ?_
 refine cI h (fun _ h => ?_) (fun _ h => ?_)
 ·exact sK hk90 (a0, (a0.Kind == 2)) h [(100, 100), (101, 101)] [1, 2, 4, 14]
 refine cV 102 ?_
 refine cI h (fun _ h => ?_) (fun _ h => ?_)
 ·exact sK hk90 (a0, (a0.Kind == 3)) h [(100, 100), (101, 101)] [1, 2, 4, 14]
 exact cK 102 hk90 (a0, (a0.Kind == 4)) h [(100, 100), (101, 101)] [1, 2, 4, 14]

theorem mi_IsStmt_ok (a0 : Int) {r : Bool} (h : mi_IsStmt a0 = some r) :
    AC0 101 [V.i a0] [] (V.b r) [] := by
 rw [mi_IsStmt] at h
 refine AC.enter Tryz.func101 rfl (cV 100 (bB h fun r2 hx2 h => (cC 1 100 (mi_within_ok a0 20 34 hx2) cok103 ?_)))
 cases h
 exact e1 2 id

theorem mi_stmtForm_ok (N : Nat) (a0 : SNode) {r : SForm} (h : mi_stmtForm N a0 = some r) :
    AC Tryz.prog (GS [0, 1, 2]) 102 [.agg [V.i a0.Kind, V.i a0.Op, V.s a0.Text, V.s a0.Other, sL eNI a0.Kids]] [] (.agg [V.b r.op, V.b r.text, V.b r.other, V.i r.least, V.i r.most]) [] := by
 rw [mi_stmtForm] at h
 refine AC.enter Tryz.func102 rfl (cV 100 (cV 102 ?_))
 refine CO.join (fun (⟨y14, y15, y16, y17, y18⟩ : (Bool × Bool × Bool × Int × Int)) => ⟨tl 98 [(2, .loc 100 0), (3, .loc 101 0)], [(100, .cells 115 [V.b false, V.b false, V.b false, V.i 0, V.i 0]), (101, .cells 115 [V.b y14, V.b y15, V.b y16, V.i y17, V.i y18])]⟩) (fun i => mi_stmtForm_k1 N i = some r) ?_ ?_
 · rintro ⟨y14, y15, y16, y17, y18⟩ h33
   rw [mi_stmtForm_k1] at h33
   refine cV 104 (CO.ret ?_)
   have h33 := sI h33
   subst h33
   exact eG [] (.inr rfl) (RetV.one rfl (OneR.cell Dk (r := .agg [V.b y14, V.b y15, V.b y16, V.i y17, V.i y18]) (i := 100) (ety := 115) (cs := [V.b y14, V.b y15, V.b y16, V.i y17, V.i y18]) (by kernel_rfl) (by kernel_rfl) (by kernel_rfl)))
 intro hk34
 refine cV 103 (CO.block' (cV 103 ?_))
 refine cI h (fun _ h => ?_) (fun _ h => ?_)
 ·exact cK 103 hk34 ((a0.Op == 0), (a0.Text == []), (a0.Other == []), 1, 1) h [(101, 100), (102, 101)] [2, 3]
 refine cV 103 ?_
 refine cI h (fun _ h => ?_) (fun _ h => ?_)
 ·refine bB h fun y19 hv38 h => ?_
  refine CO.cutR (tl 98 [(1, .loc 100 0), (2, .loc 101 0), (3, .loc 102 0)]) [(100, .cells 54 [V.i a0.Kind, V.i a0.Op, V.s a0.Text, V.s a0.Other, sL eNI a0.Kids]), (101, .cells 115 [V.b false, V.b false, V.b false, V.i 0, V.i 0]), (102, .cells 115 [V.b y19, V.b (a0.Text == []), V.b (a0.Other == []), V.i 0, V.i 0])] mix (by
   refine wR 4 103 ?_
   refine wJ 25 hv38 (fun hv38 => ?_) (fun hv38 => ?_)
   ·refine wR 6 103 ?_
    cases hv38
    exact fS [(100, 100), (101, 101), (102, 102)] [1, 2, 3]
   refine wR 6 103 ?_
   cases hv38
   exact fS [(100, 100), (101, 101), (102, 102)] [1, 2, 3]
   ) ?_
  refine bB h fun r21 hx41 h => (CO.sw mix (wR 3 103 (W.lend (AC.gs (m_slices_Contains_string_ok N [[], [62], [62, 62], [124]] a0.Other hx41) (by decide)) cok157 [] [] (LayOk.cons (j := 103) eNS eNS ([[], [62], [62, 62], [124]] : LLU) (by kernel_rfl) (fun _ => rfl) lO) (.c _) .nil (by kernel_rfl) (by kernel_rfl) (wR 2 104 (wF (cV 104 (cV 104 ?_)))))))
  refine cI h (fun _ h => ?_) (fun _ h => ?_)
  ·exact cK 104 hk34 (y19, (a0.Text == []), r21, (wr (a0.Op + 1)), 7) h [(101, 100), (102, 101)] [2, 3]
  exact sK hk34 (y19, (a0.Text == []), r21, a0.Op, 6) h [(101, 100), (102, 101)] [2, 3]
 refine CO.join (fun (⟨a0, y22⟩ : (SNode × Bool)) => ⟨tl 98 [(1, .loc 100 0), (2, .loc 101 0), (3, .loc 102 0), (15, V.i a0.Kind), (51, V.b y22)], [(100, .cells 54 [V.i a0.Kind, V.i a0.Op, V.s a0.Text, V.s a0.Other, sL eNI a0.Kids]), (101, .cells 115 [V.b false, V.b false, V.b false, V.i 0, V.i 0]), (102, .cells 115 [V.b (a0.Op == 0), V.b (a0.Text == []), V.b (a0.Other == []), V.i 0, V.i 0])]⟩) (fun i => mi_stmtForm_k2 N i = some r) ?_ ?_
 · rintro ⟨a0, y22⟩ h44
   rw [mi_stmtForm_k2] at h44
   refine cI h44 (fun _ h44 => ?_) (fun _ h44 => ?_)
   ·exact cK 103 hk34 ((a0.Op == 0), (a0.Text == []), (a0.Other == []), 0, 1) h44 [(101, 100), (102, 101)] [2, 3]
   refine cV 103 ?_
   refine cI h44 (fun _ h44 => ?_) (fun _ h44 => ?_)
   ·refine bB h44 fun r24 hx48 h44 => (CO.w mix (wR 2 103 (w0 (AC.gs (mi_NameOk_ok N a0.Text hx48) (by decide)) cok129 (wR 4 103 ?_))))
    exact wK hk34 ((a0.Op == 0), r24, (a0.Other == []), 0, 6) h44 [(101, 100), (102, 101)] [2, 3]
   refine cV 103 ?_
   refine cI h44 (fun _ h44 => ?_) (fun _ h44 => ?_)
   ·exact cK 103 hk34 ((a0.Op == 0), (a0.Text == []), (a0.Other == []), 2, 3) h44 [(101, 100), (102, 101)] [2, 3]
   refine CO.join (fun (⟨a0, y25⟩ : (SNode × Bool)) => ⟨tl 98 [(1, .loc 100 0), (2, .loc 101 0), (3, .loc 102 0), (15, V.i a0.Kind), (66, V.b y25)], [(100, .cells 54 [V.i a0.Kind, V.i a0.Op, V.s a0.Text, V.s a0.Other, sL eNI a0.Kids]), (101, .cells 115 [V.b false, V.b false, V.b false, V.i 0, V.i 0]), (102, .cells 115 [V.b (a0.Op == 0), V.b (a0.Text == []), V.b (a0.Other == []), V.i 0, V.i 0])]⟩) (fun i => mi_stmtForm_k3 N i = some r) ?_ ?_
   · rintro ⟨a0, y25⟩ h51
     rw [mi_stmtForm_k3] at h51
     refine cI h51 (fun _ h51 => ?_) (fun _ h51 => ?_)
     ·exact cK 103 hk34 ((a0.Op == 0), (a0.Text == []), (a0.Other == []), 2, 2) h51 [(101, 100), (102, 101)] [2, 3]
     refine cV 103 ?_
     refine cI h51 (fun _ h51 => ?_) (fun _ h51 => ?_)
     ·exact cK 103 hk34 ((a0.Op == 0), (a0.Text == []), (a0.Other == []), 4, 4) h51 [(101, 100), (102, 101)] [2, 3]
     refine cV 103 ?_
     refine cI h51 (fun _ h51 => ?_) (fun _ h51 => ?_)
     ·refine bB h51 fun r28 hx57 h51 => (bB h51 fun r29 hx58 h51 => (CO.w mix (wR 2 103 (w0 (AC.gs (mi_NameOk_ok N a0.Text hx57) (by decide)) cok129 (wR 2 103 (w0 (AC.gs (mi_NameOk_ok N a0.Other hx58) (by decide)) cok129 (wR 8 103 ?_)))))))
      exact wK hk34 ((a0.Op == 0), r28, r29, 1, 1) h51 [(101, 100), (102, 101)] [2, 3]
     refine cV 103 ?_
     refine cI h51 (fun _ h51 => ?_) (fun _ h51 => ?_)
     ·exact cK 103 hk34 ((a0.Op == 0), (a0.Text == []), (a0.Other == []), 0, 400) h51 [(101, 100), (102, 101)] [2, 3]
     refine cV 103 ?_
     refine cI h51 (fun _ h51 => ?_) (fun _ h51 => ?_)
     ·refine bB h51 fun r31 hx62 h51 => (CO.w mix (wR 3 103 (w0 (mi_TokenOk_ok N (⟨2, a0.Text, 0⟩ : SToken) hx62) cok91 (wR 2 103 ?_))))
      exact wK hk34 ((a0.Op == 0), r31, (a0.Other == []), 0, 0) h51 [(101, 100), (102, 101)] [2, 3]
     exact sK hk34 ((a0.Op == 0), (a0.Text == []), (a0.Other == []), 0, 0) h51 [(101, 100), (102, 101)] [2, 3]
   intro hk63
   refine cV 103 ?_
   refine cI h44 (fun _ h44 => ?_) (fun _ h44 => ?_)
   ·exact sK hk63 (a0, (a0.Kind == 29)) h44 [(100, 100), (101, 101), (102, 102)] [1, 2, 3, 15, 66]
   exact cK 103 hk63 (a0, (a0.Kind == 30)) h44 [(100, 100), (101, 101), (102, 102)] [1, 2, 3, 15, 66]
 intro hk65
 refine cV 103 ?_
 refine cI h (fun _ h => ?_) (fun _ h => ?_)
 ·exact sK hk65 (a0, (a0.Kind == 23)) h [(100, 100), (101, 101), (102, 102)] [1, 2, 3, 15, 51]
 exact cK 103 hk65 (a0, (a0.Kind == 24)) h [(100, 100), (101, 101), (102, 102)] [1, 2, 3, 15, 51]

theorem mi_itemForm_ok (N : Nat) (a0 : SNode) {r : SForm} (h : mi_itemForm N a0 = some r) :
    AC Tryz.prog (GS [0, 1]) 104 [.agg [V.i a0.Kind, V.i a0.Op, V.s a0.Text, V.s a0.Other, sL eNI a0.Kids]] [] (.agg [V.b r.op, V.b r.text, V.b r.other, V.i r.least, V.i r.most]) [] := by
 rw [mi_itemForm] at h
 refine AC.enter Tryz.func104 rfl (cV 100 (cV 102 ?_))
 refine CO.join (fun (⟨a0, y9, y10, y11, y12⟩ : (SNode × Bool × Bool × Int × Int)) => ⟨tl 64 [(2, .loc 100 0), (3, .loc 101 0)], [(100, .cells 115 [V.b false, V.b false, V.b false, V.i 0, V.i 0]), (101, .cells 115 [V.b y9, V.b y10, V.b (a0.Other == []), V.i y11, V.i y12])]⟩) (fun i => mi_itemForm_k1 N i = some r) ?_ ?_
 · rintro ⟨a0, y9, y10, y11, y12⟩ h24
   rw [mi_itemForm_k1] at h24
   refine cV 103 (CO.ret ?_)
   have h24 := sI h24
   subst h24
   exact eG [] (.inr rfl) (RetV.one rfl (OneR.cell Dk (r := .agg [V.b y9, V.b y10, V.b (a0.Other == []), V.i y11, V.i y12]) (i := 100) (ety := 115) (cs := [V.b y9, V.b y10, V.b (a0.Other == []), V.i y11, V.i y12]) (by kernel_rfl) (by kernel_rfl) (by kernel_rfl)))
 intro hk25
 refine cV 103 (CO.block' ?_)
 refine CO.join (fun (⟨a0, y13⟩ : (SNode × Bool)) => ⟨tl 64 [(1, .loc 100 0), (2, .loc 101 0), (3, .loc 102 0), (15, V.i a0.Kind), (17, V.b y13)], [(100, .cells 54 [V.i a0.Kind, V.i a0.Op, V.s a0.Text, V.s a0.Other, sL eNI a0.Kids]), (101, .cells 115 [V.b false, V.b false, V.b false, V.i 0, V.i 0]), (102, .cells 115 [V.b (a0.Op == 0), V.b (a0.Text == []), V.b (a0.Other == []), V.i 0, V.i 0])]⟩) (fun i => mi_itemForm_k2 N i = some r) ?_ ?_
 · rintro ⟨a0, y13⟩ h27
   rw [mi_itemForm_k2] at h27
   refine cI h27 (fun _ h27 => ?_) (fun _ h27 => ?_)
   ·exact cK 103 hk25 (a0, (a0.Op == 0), (a0.Text == []), 1, 1) h27 [(101, 100), (102, 101)] [2, 3]
   refine cV 103 ?_
   refine cI h27 (fun _ h27 => ?_) (fun _ h27 => ?_)
   ·refine bB h27 fun r15 hx31 h27 => (cC 2 103 (AC.gs (mi_within_ok a0.Op 1 3 hx31) (by decide)) cok103 ?_)
    refine CO.join (fun (⟨r15, a0, y16⟩ : (Bool × SNode × Int)) => ⟨tl 64 [(2, .loc 100 0), (3, .loc 101 0)], [(100, .cells 115 [V.b false, V.b false, V.b false, V.i 0, V.i 0]), (101, .cells 115 [V.b r15, V.b (a0.Text == []), V.b (a0.Other == []), V.i y16, V.i 0])]⟩) (fun i => mi_itemForm_k3 N i = some r) ?_ ?_
    · rintro ⟨r15, a0, y16⟩ h33
      rw [mi_itemForm_k3] at h33
      exact cK 103 hk25 (a0, r15, (a0.Text == []), y16, y16) h33 [(100, 100), (101, 101)] [2, 3]
    intro hk34
    refine cV 103 ?_
    refine cI h27 (fun _ h27 => ?_) (fun _ h27 => ?_)
    ·exact cK 103 hk34 (r15, a0, 2) h27 [(101, 100), (102, 101)] [2, 3]
    exact sK hk34 (r15, a0, 1) h27 [(101, 100), (102, 101)] [2, 3]
   refine cV 103 ?_
   refine cI h27 (fun _ h27 => ?_) (fun _ h27 => ?_)
   ·refine bB h27 fun y17 hv38 h27 => ?_
    refine CO.cutR (tl 64 [(1, .loc 100 0), (2, .loc 101 0), (3, .loc 102 0)]) [(100, .cells 54 [V.i a0.Kind, V.i a0.Op, V.s a0.Text, V.s a0.Other, sL eNI a0.Kids]), (101, .cells 115 [V.b false, V.b false, V.b false, V.i 0, V.i 0]), (102, .cells 115 [V.b y17, V.b (a0.Text == []), V.b (a0.Other == []), V.i 2, V.i 0])] mix (by
     refine wR 4 103 ?_
     refine wJ 41 hv38 (fun hv38 => ?_) (fun hv38 => ?_)
     ·refine wR 8 103 ?_
      cases hv38
      exact fS [(100, 100), (101, 101), (102, 102)] [1, 2, 3]
     refine wR 8 103 ?_
     cases hv38
     exact fS [(100, 100), (101, 101), (102, 102)] [1, 2, 3]
     ) ?_
    refine CO.join (fun (⟨y17, a0, y18⟩ : (Bool × SNode × Int)) => ⟨tl 64 [(2, .loc 100 0), (3, .loc 101 0)], [(100, .cells 115 [V.b false, V.b false, V.b false, V.i 0, V.i 0]), (101, .cells 115 [V.b y17, V.b (a0.Text == []), V.b (a0.Other == []), V.i y18, V.i 0])]⟩) (fun i => mi_itemForm_k4 N i = some r) ?_ ?_
    · rintro ⟨y17, a0, y18⟩ h41
      rw [mi_itemForm_k4] at h41
      exact cK 103 hk25 (a0, y17, (a0.Text == []), y18, y18) h41 [(100, 100), (101, 101)] [2, 3]
    intro hk42
    refine cV 103 ?_
    refine cI h27 (fun _ h27 => ?_) (fun _ h27 => ?_)
    ·exact cK 103 hk42 (y17, a0, 3) h27 [(101, 100), (102, 101)] [2, 3]
    exact sK hk42 (y17, a0, 2) h27 [(101, 100), (102, 101)] [2, 3]
   refine cV 103 ?_
   refine cI h27 (fun _ h27 => ?_) (fun _ h27 => ?_)
   ·refine bB h27 fun r20 hx46 h27 => (CO.w mix (wR 2 103 (w0 (mi_NameOk_ok N a0.Text hx46) cok129 (wR 6 103 ?_))))
    exact wK hk25 (a0, (a0.Op == 0), r20, 1, 7) h27 [(101, 100), (102, 101)] [2, 3]
   exact cK 103 hk25 (a0, (a0.Op == 0), (a0.Text == []), 0, 400) h27 [(101, 100), (102, 101)] [2, 3]
 intro hk47
 refine cV 103 ?_
 refine cI h (fun _ h => ?_) (fun _ h => ?_)
 ·exact sK hk47 (a0, (a0.Kind == 40)) h [(100, 100), (101, 101), (102, 102)] [1, 2, 3, 15, 17]
 exact cK 103 hk47 (a0, (a0.Kind == 41)) h [(100, 100), (101, 101), (102, 102)] [1, 2, 3, 15, 17]

theorem mi_FieldsOk_ok (N : Nat) (a0 : SNode) {r : Bool} (h : mi_FieldsOk N a0 = some r) :
    AC Tryz.prog (GS [0, 1, 2]) 59 [.agg [V.i a0.Kind, V.i a0.Op, V.s a0.Text, V.s a0.Other, sL eNI a0.Kids]] [] (V.b r) [] := by
 rw [mi_FieldsOk] at h
 refine AC.enter Tryz.func59 rfl (cV 100 (cV 101 ?_))
 refine CO.join (fun (⟨a0, y13, y14, y15, y16, y17⟩ : (SNode × Bool × Bool × Bool × Int × Int)) => ⟨tl 61 [(1, .loc 100 0), (3, .loc 101 0)], [(100, .cells 54 [V.i a0.Kind, V.i a0.Op, V.s a0.Text, V.s a0.Other, sL eNI a0.Kids]), (101, .cells 115 [V.b y13, V.b y14, V.b y15, V.i y16, V.i y17])]⟩) (fun i => mi_FieldsOk_k1 N i = some r) ?_ ?_
 · rintro ⟨a0, y13, y14, y15, y16, y17⟩ h17
   rw [mi_FieldsOk_k1] at h17
   refine bB h17 fun y19 hv22 h17 => ?_
   refine CO.cutR (tl 61 [(2, V.b y19)]) [] mix (by
    refine wR 3 102 ?_
    refine wJ 43 hv22 (fun hv22 => ?_) (fun hv22 => ?_)
    ·refine wR 4 102 ?_
     refine wJ 47 hv22 (fun hv22 => ?_) (fun hv22 => ?_)
     ·refine wR 4 102 ?_
      refine wJ 51 hv22 (fun hv22 => ?_) (fun hv22 => ?_)
      ·refine wR 2 102 (wN eNI a0.Kids [] (wR 4 102 (bB hv22 fun r20 hx26 hv22 => (w0 (AC.gs (mi_within_ok (a0.Kids.length : Int) y16 y17 hx26) (by decide)) cok103 (wR 2 102 ?_)))))
       cases hv22
       exact fS [] [2]
      refine wR 10 102 ?_
      cases hv22
      exact fS [] [2]
     refine wR 14 102 ?_
     cases hv22
     exact fS [] [2]
    refine wR 18 102 ?_
    cases hv22
    exact fS [] [2]
    ) ?_
   cases h17
   exact e1 2 id
 intro hk27
 refine CO.block' (bB h fun r22 hx29 h => (cC 2 102 (AC.gs (mi_IsExpr_ok a0.Kind hx29) (by decide)) cok79 ?_))
 refine cI h (fun _ h => ?_) (fun _ h => ?_)
 ·refine bB h fun r24 hx32 h => (cC 1 102 (mi_exprForm_ok N a0 hx32) cok100 ?_)
  exact cK 102 hk27 (a0, r24.op, r24.text, (a0.Other == []), r24.least, r24.most) h [(100, 100), (101, 101)] [1, 3]
 refine cV 102 ?_
 refine cI h (fun _ h => ?_) (fun _ h => ?_)
 ·exact cK 102 hk27 (a0, (a0.Op == 0), (a0.Text == []), (a0.Other == []), 0, 0) h [(100, 100), (101, 101)] [1, 3]
 refine bB h fun r26 hx35 h => (cC 2 102 (AC.gs (mi_IsStmt_ok a0.Kind hx35) (by decide)) cok101 ?_)
 refine cI h (fun _ h => ?_) (fun _ h => ?_)
 ·refine bB h fun r28 hx38 h => (CO.w mix (wR 1 102 (w0 (mi_stmtForm_ok N a0 hx38) cok102 (wR 1 102 ?_))))
  exact wK hk27 (a0, r28.op, r28.text, r28.other, r28.least, r28.most) h [(100, 100), (101, 101)] [1, 3]
 refine bB h fun r30 hx40 h => (cC 2 102 (AC.gs (mi_within_ok a0.Kind 40 45 hx40) (by decide)) cok103 ?_)
 refine cI h (fun _ h => ?_) (fun _ h => ?_)
 ·refine bB h fun r32 hx43 h => (CO.w mix (wR 1 102 (w0 (AC.gs (mi_itemForm_ok N a0 hx43) (by decide)) cok104 (wR 1 102 ?_))))
  exact wK hk27 (a0, r32.op, r32.text, r32.other, r32.least, r32.most) h [(100, 100), (101, 101)] [1, 3]
 refine cV 102 ?_
 cases h
 exact e1 2 id

theorem mi_IsLvalue_ok (a0 : Int) {r : Bool} (h : mi_IsLvalue a0 = some r) :
    AC0 105 [V.i a0] [] (V.b r) [] := by
 rw [mi_IsLvalue] at h
 refine AC.enter Tryz.func105 rfl (cV 100 (bB h fun y1 hv3 h => ?_))
 refine CO.cutR (tl 13 [(2, V.b y1)]) [] mix (by
  refine wR 3 100 ?_
  refine wJ 5 hv3 (fun hv3 => ?_) (fun hv3 => ?_)
  ·refine wR 8 100 ?_
   cases hv3
   exact fS [] [2]
  refine wR 4 100 ?_
  refine wJ 9 hv3 (fun hv3 => ?_) (fun hv3 => ?_)
  ·refine wR 4 100 ?_
   cases hv3
   exact fS [] [2]
  refine wR 4 100 ?_
  cases hv3
  exact fS [] [2]
  ) ?_
 cases h
 exact e1 2 id

theorem mi_isItem_ok (a0 : Int) {r : Bool} (h : mi_isItem a0 = some r) :
    AC0 106 [V.i a0] [] (V.b r) [] := by
 rw [mi_isItem] at h
 refine AC.enter Tryz.func106 rfl (cV 100 (bB h fun r2 hx2 h => (cC 1 100 (mi_within_ok a0 40 44 hx2) cok103 ?_)))
 cases h
 exact e1 2 id

theorem mi_kidOk_ok (a0 : SNode) (a1 : Int) (a2 : Int) {r : Bool} (h : mi_kidOk a0 a1 a2 = some r) :
    AC0 60 [.agg [V.i a0.Kind, V.i a0.Op, V.s a0.Text, V.s a0.Other, sL eNI a0.Kids], V.i a1, V.i a2] [] (V.b r) [] := by
 rw [mi_kidOk] at h
 refine AC.enter Tryz.func60 rfl (cV 100 (CO.sw mix (wR 3 101 (wN eNI a0.Kids [] (wR 3 101 (wF (cV 101 ?_)))))))
 refine CO.join (fun (⟨a2, y22⟩ : (Int × Bool)) => ⟨tl 99 [(2, V.i a2), (8, V.b y22)], []⟩) (fun i => mi_kidOk_k1 i = some r) ?_ ?_
 · rintro ⟨a2, y22⟩ h66
   rw [mi_kidOk_k1] at h66
   refine CO.seq' (cV 101 ?_)
   refine cI h66 (fun _ h66 => ?_) (fun _ h66 => ?_)
   ·refine cV 101 ?_
    cases h66
    exact e1 6 id
   refine CO.skip (bB h66 fun r24 hx70 h66 => (cC 1 101 (mi_IsExpr_ok a2 hx70) cok79 ?_))
   cases h66
   exact e1 6 id
 intro hk71
 refine cV 101 (CO.block' ?_)
 refine CO.join (fun (⟨a1, a2, a0, y25⟩ : (Int × Int × SNode × Bool)) => ⟨tl 99 [(1, V.i a1), (2, V.i a2), (3, .loc 100 0), (7, V.b (a1 == (wr ((a0.Kids.length : Int) - 1)))), (8, V.b false), (16, V.i a0.Kind), (17, V.b y25)], [(100, .cells 54 [V.i a0.Kind, V.i a0.Op, V.s a0.Text, V.s a0.Other, sL eNI a0.Kids])]⟩) (fun i => mi_kidOk_k2 i = some r) ?_ ?_
 · rintro ⟨a1, a2, a0, y25⟩ h73
   rw [mi_kidOk_k2] at h73
   refine cI h73 (fun _ h73 => ?_) (fun _ h73 => ?_)
   ·refine bB h73 fun r27 hx76 h73 => (cC 1 101 (mi_IsLvalue_ok a2 hx76) cok105 ?_)
    cases h73
    exact e1 6 id
   refine cV 101 ?_
   refine cI h73 (fun _ h73 => ?_) (fun _ h73 => ?_)
   ·refine bB h73 fun y31 hv85 h73 => ?_
    refine CO.cutR (tl 99 [(6, V.b y31)]) [] mix (by
     refine wR 3 101 ?_
     refine wJ 26 hv85 (fun hv85 => ?_) (fun hv85 => ?_)
     ·refine wR 1 101 (bB hv85 fun r32 hx87 hv85 => (w0 (mi_IsLvalue_ok a2 hx87) cok105 (wR 2 101 ?_)))
      refine wJ 30 hv85 (fun hv85 => ?_) (fun hv85 => ?_)
      ·refine wR 8 101 ?_
       cases hv85
       exact fS [] [6]
      refine wR 3 101 ?_
      refine wJ 33 hv85 (fun hv85 => ?_) (fun hv85 => ?_)
      ·refine wR 1 101 (bB hv85 fun r33 hx90 hv85 => (w0 (mi_IsExpr_ok a2 hx90) cok79 (wR 3 101 ?_)))
       cases hv85
       exact fS [] [6]
      refine wR 5 101 ?_
      cases hv85
      exact fS [] [6]
     refine wR 7 101 ?_
     refine wJ 33 hv85 (fun hv85 => ?_) (fun hv85 => ?_)
     ·refine wR 1 101 (bB hv85 fun r34 hx92 hv85 => (w0 (mi_IsExpr_ok a2 hx92) cok79 (wR 3 101 ?_)))
      cases hv85
      exact fS [] [6]
     refine wR 5 101 ?_
     cases hv85
     exact fS [] [6]
     ) ?_
    cases h73
    exact e1 6 id
   refine CO.join (fun (⟨a1, a2, a0, y35⟩ : (Int × Int × SNode × Bool)) => ⟨tl 99 [(1, V.i a1), (2, V.i a2), (3, .loc 100 0), (7, V.b (a1 == (wr ((a0.Kids.length : Int) - 1)))), (8, V.b false), (16, V.i a0.Kind), (38, V.b y35)], [(100, .cells 54 [V.i a0.Kind, V.i a0.Op, V.s a0.Text, V.s a0.Other, sL eNI a0.Kids])]⟩) (fun i => mi_kidOk_k3 i = some r) ?_ ?_
   · rintro ⟨a1, a2, a0, y35⟩ h94
     rw [mi_kidOk_k3] at h94
     refine cI h94 (fun _ h94 => ?_) (fun _ h94 => ?_)
     ·exact cK 101 hk71 (a2, (decide (a1 > 0))) h94 [] [2, 8]
     refine cV 101 ?_
     refine cI h94 (fun _ h94 => ?_) (fun _ h94 => ?_)
     ·refine CO.seq' (bB h94 fun y37 hv102 h94 => ?_)
      refine CO.cutR (tl 99 [(2, V.i a2), (7, V.b (a1 == (wr ((a0.Kids.length : Int) - 1)))), (50, V.b y37)]) [] mix (by
       refine wR 3 101 ?_
       refine wJ 47 hv102 (fun hv102 => ?_) (fun hv102 => ?_)
       ·refine wR 3 101 ?_
        cases hv102
        exact fS [] [2, 7, 50]
       refine wR 3 101 ?_
       cases hv102
       exact fS [] [2, 7, 50]
       ) ?_
      refine cI h94 (fun _ h94 => ?_) (fun _ h94 => ?_)
      ·refine cV 101 ?_
       cases h94
       exact e1 6 id
      refine CO.skip ?_
      exact cK 101 hk71 (a2, (a1 == (wr ((a0.Kids.length : Int) - 1)))) h94 [] [2, 8]
     refine cV 101 ?_
     refine cI h94 (fun _ h94 => ?_) (fun _ h94 => ?_)
     ·exact cK 101 hk71 (a2, (a1 == 0)) h94 [] [2, 8]
     refine CO.join (fun (⟨a2, a1, a0, y38⟩ : (Int × Int × SNode × Bool)) => ⟨tl 99 [(2, V.i a2), (3, .loc 100 0), (7, V.b (a1 == (wr ((a0.Kids.length : Int) - 1)))), (8, V.b false), (16, V.i a0.Kind), (56, V.b y38)], [(100, .cells 54 [V.i a0.Kind, V.i a0.Op, V.s a0.Text, V.s a0.Other, sL eNI a0.Kids])]⟩) (fun i => mi_kidOk_k4 i = some r) ?_ ?_
     · rintro ⟨a2, a1, a0, y38⟩ h108
       rw [mi_kidOk_k4] at h108
       refine cI h108 (fun _ h108 => ?_) (fun _ h108 => ?_)
       ·exact cK 101 hk71 (a2, true) h108 [] [2, 8]
       refine cV 101 ?_
       refine cI h108 (fun _ h108 => ?_) (fun _ h108 => ?_)
       ·refine bB h108 fun r40 hx112 h108 => (cC 1 101 (mi_IsStmt_ok a2 hx112) cok101 ?_)
        cases h108
        exact e1 6 id
       refine cV 101 ?_
       refine cI h108 (fun _ h108 => ?_) (fun _ h108 => ?_)
       ·refine bB h108 fun y41 hv115 h108 => ?_
        refine CO.endR (tl 99 [(2, V.i a2), (8, V.b y41)]) [] mix (by
         refine wR 2 101 ?_
         refine wJ 67 hv115 (fun hv115 => ?_) (fun hv115 => ?_)
         ·refine wR 5 101 ?_
          cases hv115
          exact fS [] [2, 8]
         refine wR 5 101 ?_
         cases hv115
         exact fS [] [2, 8]
         ) (fun st hw => ?_)
        exact hk71 (a2, y41) h108 _ (hw.trans (wS [] [2, 8]))
       refine cV 101 ?_
       refine cI h108 (fun _ h108 => ?_) (fun _ h108 => ?_)
       ·refine bB h108 fun y42 hv119 h108 => ?_
        refine CO.endR (tl 99 [(2, V.i a2), (8, V.b y42)]) [] mix (by
         refine wR 2 101 ?_
         refine wJ 75 hv119 (fun hv119 => ?_) (fun hv119 => ?_)
         ·refine wR 5 101 ?_
          cases hv119
          exact fS [] [2, 8]
         refine wR 5 101 ?_
         cases hv119
         exact fS [] [2, 8]
         ) (fun st hw => ?_)
        exact hk71 (a2, y42) h108 _ (hw.trans (wS [] [2, 8]))
       refine cV 101 ?_
       refine cI h108 (fun _ h108 => ?_) (fun _ h108 => ?_)
       ·refine CO.seq' (cV 101 ?_)
        refine cI h108 (fun _ h108 => ?_) (fun _ h108 => ?_)
        ·refine cV 101 ?_
         cases h108
         exact e1 6 id
        refine CO.skip ?_
        exact cK 101 hk71 (a2, true) h108 [] [2, 8]
       refine cV 101 ?_
       refine cI h108 (fun _ h108 => ?_) (fun _ h108 => ?_)
       ·refine bB h108 fun y44 hv127 h108 => ?_
        refine CO.cutR (tl 99 [(6, V.b y44)]) [] mix (by
         refine wR 1 101 (bB hv127 fun r45 hx128 hv127 => (w0 (mi_isItem_ok a2 hx128) cok106 (wR 1 101 ?_)))
         refine wJ 90 hv127 (fun hv127 => ?_) (fun hv127 => ?_)
         ·refine wR 4 101 ?_
          cases hv127
          exact fS [] [6]
         refine wR 4 101 ?_
         cases hv127
         exact fS [] [6]
         ) ?_
        cases h108
        exact e1 6 id
       exact sK hk71 (a2, false) h108 [] [2, 8]
     intro hk130
     refine cV 101 ?_
     refine cI h94 (fun _ h94 => ?_) (fun _ h94 => ?_)
     ·exact sK hk130 (a2, a1, a0, (a0.Kind == 32)) h94 [(100, 100)] [2, 3, 7, 8, 16, 56]
     refine cV 101 ?_
     refine cI h94 (fun _ h94 => ?_) (fun _ h94 => ?_)
     ·exact sK hk130 (a2, a1, a0, (a0.Kind == 40)) h94 [(100, 100)] [2, 3, 7, 8, 16, 56]
     exact cK 101 hk130 (a2, a1, a0, (a0.Kind == 41)) h94 [(100, 100)] [2, 3, 7, 8, 16, 56]
   intro hk133
   refine cV 101 ?_
   refine cI h73 (fun _ h73 => ?_) (fun _ h73 => ?_)
   ·exact sK hk133 (a1, a2, a0, (a0.Kind == 28)) h73 [(100, 100)] [1, 2, 3, 7, 8, 16, 38]
   exact cK 101 hk133 (a1, a2, a0, (a0.Kind == 29)) h73 [(100, 100)] [1, 2, 3, 7, 8, 16, 38]
 intro hk135
 refine cV 101 ?_
 refine cI h (fun _ h => ?_) (fun _ h => ?_)
 ·exact sK hk135 (a1, a2, a0, (a0.Kind == 9)) h [(100, 100)] [1, 2, 3, 7, 8, 16, 17]
 exact cK 101 hk135 (a1, a2, a0, (a0.Kind == 10)) h [(100, 100)] [1, 2, 3, 7, 8, 16, 17]

structure RecOk5 (R : Rec5) : Prop where
 mi_treeAt : ∀ (a0 : LN) (a1 : Int) (r : STree), R.mi_treeAt a0 a1 = some r → AC0 107 [.sl false false (a0.map (eSN false)), V.i a1] [] (.agg [V.i r.kind, V.i r.op, V.s r.text, V.s r.other, sL eST r.kids]) []

theorem mi_treeAt_F_ok (N : Nat) (R : Rec5) (HR : RecOk5 R) (a0 : LN) (a1 : Int) {r : STree} (h : mi_treeAt_F N R a0 a1 = some r) :
    AC0 107 [.sl false false (a0.map (eSN false)), V.i a1] [] (.agg [V.i r.kind, V.i r.op, V.s r.text, V.s r.other, sL eST r.kids]) [] := by
 rw [mi_treeAt_F] at h
 refine AC.enter Tryz.func107 rfl (cV 100 (bB h fun e2 hx2 h => (CO.sw mix (wR 2 101 (wX (eSN false) hx2 5 (wR 3 101 (wF (cV 102 ?_))))))))
 refine CO.seq' (CO.sw mix (wR 2 103 (wN eNI e2.Kids [] (wR 1 103 (wF (CO.block' (CO.loopJ (fun (⟨a0, e2, y63, y64⟩ : (LN × SNode × Int × LS)) => ⟨tl 39 [(0, .sl false false (a0.map (eSN false))), (4, .loc 100 0), (6, .loc 101 0), (23, sL eNI e2.Kids), (24, V.i (e2.Kids.length : Int)), (25, V.i y63)], [(100, .cells 87 [V.i 0, V.i 0, V.s [], V.s [], .c (.slice none 0 0)]), (101, .cells 87 [V.i e2.Kind, V.i e2.Op, V.s e2.Text, V.s e2.Other, .own 102]), (102, vX 87 5 eST y64)]⟩) (fun n i => mi_treeAt_l1 N R n i = some r) (n0 := N) (i0 := (a0, e2, 0, [])) ((Weak.nilCell 102 4 103 87 5 (ety := 87) (cs := [V.i e2.Kind, V.i e2.Op, V.s e2.Text, V.s e2.Other, .c (.slice none 0 0)]) (by kernel_rfl) (by kernel_rfl) (by kernel_rfl)).trans (wS [(100, 100), (102, 101), (103, 102)] [0, 4, 6, 23, 24, 25])) h (fun i h => by simp [mi_treeAt_l1] at h) ?_)))))))
 rintro n1 ⟨a0, e2, y63, y64⟩ h83 ih84
 rw [mi_treeAt_l1] at h83
 refine cV 168 (CO.seq' ?_)
 refine cI h83 (fun _ h83 => ?_) (fun _ h83 => ?_)
 ·refine CO.skip (CO.seq' (CO.block' (bB h83 fun e86 hx94 h83 => (CO.sw mix (wX eNI hx94 1 (wR 2 168 (wF (bB h83 fun r89 hx97 h83 => ?_))))))))
  refine bB h83 fun x90 hx98 h83 => ?_
  refine CO.endR (tl 39 [(0, .sl false false (a0.map (eSN false))), (4, .loc 100 0), (6, .loc 101 0), (23, sL eNI e2.Kids), (24, V.i (e2.Kids.length : Int)), (25, V.i y63)]) [(101, .cells 87 [V.i e2.Kind, V.i e2.Op, V.s e2.Text, V.s e2.Other, .own 169]), (169, vX 87 5 eST x90), (100, .cells 87 [V.i 0, V.i 0, V.s [], V.s [], .c (.slice none 0 0)])] mix (by
   refine wR 4 168 (w0 (HR.mi_treeAt a0 e86 _ hx97) cok107 (W.layop Dk lO (by kernel_rfl) 168 { v := .own 168, R := [], new := [(168, .vec true 87 5 [[V.i r89.kind, V.i r89.op, V.s r89.text, V.s r89.other, sL eST r89.kids]])], N := [168] } (by kernel_rfl) (W.vecEq 168 (nn := true) (e := 87) (k := 5) (rows := [[V.i r89.kind, V.i r89.op, V.s r89.text, V.s r89.other, sL eST r89.kids]]) (rows' := [r89].map eST) (by kernel_rfl) (by simp only [List.map_cons, List.map_nil, encSTree_eq]) (W.appO Dk eST (a := 102) (c := 168) (el := 87) (sz := 5) 72 hx98 rfl 169 (by kernel_rfl) (wR 2 170 ?_)))))
   exact fI
   ) (fun st hw => ?_)
  refine CO.weak hw ?_
  exact cK 170 ih84 (a0, e2, (wr (y63 + 1)), x90) h83 [(100, 100), (101, 101), (169, 102)] [0, 4, 6, 23, 24, 25]
 refine CO.exit (cU 2 168 (tl 39 [(4, .loc 100 0)]) [(100, .cells 87 [V.i e2.Kind, V.i e2.Op, V.s e2.Text, V.s e2.Other, .own 102]), (102, vX 87 5 eST y64)] (CO.lay (tl 39 [(4, .loc 100 0)]) [(100, .cells 87 [V.i e2.Kind, V.i e2.Op, V.s e2.Text, V.s e2.Other, sL eST y64])] (LayOk.cons (j := 102) eST eST y64 (by kernel_rfl) (share_encSTree) lO) (by kernel_rfl) (by kernel_rfl) (by kernel_rfl) (CO.ret ?_)))
 have h83 := sI h83
 subst h83
 exact eG [] (.inr rfl) (RetV.one rfl (OneR.cell Dk (r := .agg [V.i e2.Kind, V.i e2.Op, V.s e2.Text, V.s e2.Other, sL eST y64]) (i := 100) (ety := 87) (cs := [V.i e2.Kind, V.i e2.Op, V.s e2.Text, V.s e2.Other, sL eST y64]) (by kernel_rfl) (by kernel_rfl) (by kernel_rfl)))

theorem scc5_ok : ∀ N, RecOk5 (scc5 N)
 | 0 => ⟨fun _ _ _ h => (by cases h)⟩
 | N + 1 => ⟨fun a0 a1 _ h => mi_treeAt_F_ok N (scc5 N) (scc5_ok N) a0 a1 h⟩

theorem mi_treeAt_ok (N : Nat) (a0 : LN) (a1 : Int) {r : STree} (h : mi_treeAt N a0 a1 = some r) :
  AC0 107 [.sl false false (a0.map (eSN false)), V.i a1] [] (.agg [V.i r.kind, V.i r.op, V.s r.text, V.s r.other, sL eST r.kids]) [] :=
 (scc5_ok N).mi_treeAt a0 a1 r h

theorem mi_rootOf_ok (N : Nat) (a0 : LN) {r : STree} (h : mi_rootOf N a0 = some r) :
    AC0 61 [.sl false false (a0.map (eSN false))] [] (.agg [V.i r.kind, V.i r.op, V.s r.text, V.s r.other, sL eST r.kids]) [] := by
 rw [mi_rootOf] at h
 refine AC.enter Tryz.func61 rfl (cV 100 (bB h fun r2 hx2 h => (CO.sw mix (wR 2 101 (wN (eSN false) a0 [] (wR 1 101 (w0 (mi_treeAt_ok N a0 (wr ((a0.length : Int) - 1)) hx2) cok107 (wR 1 101 ?_))))))))
 refine wF (CO.ret ?_)
 have h := sI h
 subst h
 exact eG [] (.inr rfl) (RetV.one rfl (OneR.cell Dk (r := .agg [V.i r2.kind, V.i r2.op, V.s r2.text, V.s r2.other, sL eST r2.kids]) (i := 100) (ety := 87) (cs := [V.i r2.kind, V.i r2.op, V.s r2.text, V.s r2.other, sL eST r2.kids]) (by kernel_rfl) (by kernel_rfl) (by kernel_rfl)))

end Go.Proofs.Tryz
