/-
 The walks that show that the code computes the models, part 3.
-/
import Derived.Test.YtjhcdnpbmppkkaaGreatDoorRxUW2
namespace Go.Proofs.Tryz
open Go.Av
set_option maxRecDepth 100000
set_option maxHeartbeats 8000000
set_option linter.unusedSimpArgs false
set_option linter.unusedVariables false

structure RecOk2 (R : Rec2) : Prop where
 ms_l10Sides : ∀ (a0 : SL10W) (a1 : SNode) (a2 : SPos) (r : LT), R.ms_l10Sides a0 a1 a2 = some r → AC Tryz.prog (GS []) 192 [.agg [.sl false false (a0.l.map (eSN false)), V.b a0.full], .agg [V.i a1.Kind, V.i a1.Op, V.s a1.Text, V.s a1.Other, sL eNI a1.Kids], .agg [V.i a2.Level, V.b a2.Dollar, V.b a2.NoIn, V.b a2.NoGt, V.b a2.NoSign]] [] (.own 100) [(100, vX 36 3 eTk r)]
 ms_l10Lvalue : ∀ (a0 : SL10W) (a1 : Int) (r : LT), R.ms_l10Lvalue a0 a1 = some r → AC Tryz.prog (GS []) 190 [.agg [.sl false false (a0.l.map (eSN false)), V.b a0.full], V.i a1] [] (.own 100) [(100, vX 36 3 eTk r)]
 ms_l10List : ∀ (a0 : SL10W) (a1 : List Int) (r : LT), R.ms_l10List a0 a1 = some r → AC Tryz.prog (GS []) 191 [.agg [.sl false false (a0.l.map (eSN false)), V.b a0.full], sL eNI a1] [] (.own 100) [(100, vX 36 3 eTk r)]
 ms_l10Named : ∀ (a0 : SL10W) (a1 : SToken) (a2 : List Int) (a3 : Int) (r : LT), R.ms_l10Named a0 a1 a2 a3 = some r → AC Tryz.prog (GS []) 189 [.agg [.sl false false (a0.l.map (eSN false)), V.b a0.full], .agg [V.i a1.Kind, V.s a1.Text, V.i a1.At], sL eNI a2, V.i a3] [] (.own 100) [(100, vX 36 3 eTk r)]
 ms_l10Node : ∀ (a0 : SL10W) (a1 : Int) (a2 : SPos) (r : LT), R.ms_l10Node a0 a1 a2 = some r → AC Tryz.prog (GS []) 183 [.agg [.sl false false (a0.l.map (eSN false)), V.b a0.full], V.i a1, .agg [V.i a2.Level, V.b a2.Dollar, V.b a2.NoIn, V.b a2.NoGt, V.b a2.NoSign]] [] (.own 100) [(100, vX 36 3 eTk r)]
 ms_l10At : ∀ (a0 : SL10W) (a1 : Int) (a2 : SPos) (r : LT), R.ms_l10At a0 a1 a2 = some r → AC Tryz.prog (GS []) 171 [.agg [.sl false false (a0.l.map (eSN false)), V.b a0.full], V.i a1, .agg [V.i a2.Level, V.b a2.Dollar, V.b a2.NoIn, V.b a2.NoGt, V.b a2.NoSign]] [] (.own 100) [(100, vX 36 3 eTk r)]

theorem ms_l10Sides_F_ok (N : Nat) (R : Rec2) (HR : RecOk2 R) (a0 : SL10W) (a1 : SNode) (a2 : SPos) {r : LT} (h : ms_l10Sides_F N R a0 a1 a2 = some r) :
    AC Tryz.prog (GS []) 192 [.agg [.sl false false (a0.l.map (eSN false)), V.b a0.full], .agg [V.i a1.Kind, V.i a1.Op, V.s a1.Text, V.s a1.Other, sL eNI a1.Kids], .agg [V.i a2.Level, V.b a2.Dollar, V.b a2.NoIn, V.b a2.NoGt, V.b a2.NoSign]] [] (.own 100) [(100, vX 36 3 eTk r)] := by
 rw [ms_l10Sides_F] at h
 refine AC.enter Tryz.func192 rfl (cV 100 (bB h fun e4 hx4 h => (bB h fun r5 hx5 h => (bB h fun r6 hx6 h => (CO.sw mix (wR 3 103 (wX eNI hx4 1 (wR 3 103 ?_))))))))
 refine w0 (ms_KidPos_ok a1 0 a2 hx5) cok169 (wC (HR.ms_l10At a0 e4 r5 _ hx6) cok171 [] [(100, 103)] [103] (wR 1 104 (wF (CO.seq' (cV 104 ?_)))))
 refine cI h (fun _ h => ?_) (fun _ h => ?_)
 ·refine bB h fun r33 hx35 h => (bB h fun x34 hx36 h => (CO.sw mix (wR 1 104 (w0 (ms_l10Tok_ok 65 hx35) cok170 (wR 1 104 (W.appO Dk eTk (a := 103) (c := 104) (el := 36) (sz := 3) 32 hx36 rfl 105 (by kernel_rfl) (wR 1 106 (wF ?_))))))))
  refine bB h fun e39 hx41 h => (bB h fun r40 hx42 h => (bB h fun r41 hx43 h => (bB h fun x42 hx44 h => (CO.sw mix (wR 4 106 (wX eNI hx41 1 (wR 3 106 (w0 (ms_KidPos_ok a1 1 a2 hx42) cok169 ?_))))))))
  refine wC (HR.ms_l10At a0 e39 r40 _ hx43) cok171 [] [(100, 106)] [106] (W.appO Dk eTk (a := 105) (c := 106) (el := 36) (sz := 3) 32 hx44 rfl 107 (by kernel_rfl) (wR 1 108 (wF (bB h fun r45 hx47 h => (bB h fun x46 hx48 h => (CO.sw mix (wR 1 108 (w0 (ms_l10Tok_ok 66 hx47) cok170 ?_))))))))
  refine wR 1 108 (W.appO Dk eTk (a := 107) (c := 108) (el := 36) (sz := 3) 32 hx48 rfl 109 (by kernel_rfl) (wR 1 110 (wF (bB h fun e51 hx53 h => (bB h fun r52 hx54 h => (bB h fun r53 hx55 h => (bB h fun x54 hx56 h => (CO.sw mix ?_))))))))
  refine wR 4 110 (wX eNI hx53 1 (wR 3 110 (w0 (ms_KidPos_ok a1 2 a2 hx54) cok169 (wC (HR.ms_l10At a0 e51 r52 _ hx55) cok171 [] [(100, 110)] [110] (W.appO Dk eTk (a := 109) (c := 110) (el := 36) (sz := 3) 32 hx56 rfl 111 (by kernel_rfl) (wR 1 112 (wF (CO.ret ?_))))))))
  cases h
  exact eG [(111, 100)] (.inr rfl) (RetV.one rfl (oT (t := 6) (r := .own 111)))
 refine CO.skip ?_
 refine CO.join (fun (⟨a0, a1, a2, y59⟩ : (SL10W × SNode × SPos × LT)) => ⟨tl 70 [(3, .loc 100 0), (4, .loc 101 0), (5, .loc 102 0), (7, .own 103)], [(100, .cells 126 [.sl false false (a0.l.map (eSN false)), V.b a0.full]), (101, .cells 108 [V.i a1.Kind, V.i a1.Op, V.s a1.Text, V.s a1.Other, sL eNI a1.Kids]), (102, .cells 93 [V.i a2.Level, V.b a2.Dollar, V.b a2.NoIn, V.b a2.NoGt, V.b a2.NoSign]), (103, vX 36 3 eTk y59)]⟩) (fun i => ms_l10Sides_k1 N R i = some r) ?_ ?_
 · rintro ⟨a0, a1, a2, y59⟩ h62
   rw [ms_l10Sides_k1] at h62
   refine bB h62 fun e64 hx67 h62 => (bB h62 fun r65 hx68 h62 => (bB h62 fun r66 hx69 h62 => (bB h62 fun x67 hx70 h62 => (CO.sw mix (wR 4 106 (wX eNI hx67 1 (wR 3 106 (w0 (ms_KidPos_ok a1 1 a2 hx68) cok169 ?_))))))))
   refine wC (HR.ms_l10At a0 e64 r65 _ hx69) cok171 [] [(100, 106)] [106] (W.appO Dk eTk (a := 103) (c := 106) (el := 36) (sz := 3) 32 hx70 rfl 107 (by kernel_rfl) (wR 1 108 (wF (CO.ret ?_))))
   cases h62
   exact eG [(107, 100)] (.inr rfl) (RetV.one rfl (oT (t := 6) (r := .own 107)))
 intro hk71
 refine cV 104 ?_
 refine cI h (fun _ h => ?_) (fun _ h => ?_)
 ·refine bB h fun r70 hx75 h => (bB h fun x71 hx76 h => (CO.w mix (wR 3 104 (w0 (ms_l10Tok_ok a1.Op hx75) cok170 (wR 1 104 (W.appO Dk eTk (a := 103) (c := 104) (el := 36) (sz := 3) 32 hx76 rfl 105 (by kernel_rfl) (wR 1 106 ?_)))))))
  exact wK hk71 (a0, a1, a2, x71) h [(100, 100), (101, 101), (102, 102), (105, 103)] [3, 4, 5, 7]
 exact sK hk71 (a0, a1, a2, r6) h [(100, 100), (101, 101), (102, 102), (103, 103)] [3, 4, 5, 7]

theorem ms_l10Lvalue_F_ok (N : Nat) (R : Rec2) (HR : RecOk2 R) (a0 : SL10W) (a1 : Int) {r : LT} (h : ms_l10Lvalue_F N R a0 a1 = some r) :
    AC Tryz.prog (GS []) 190 [.agg [.sl false false (a0.l.map (eSN false)), V.b a0.full], V.i a1] [] (.own 100) [(100, vX 36 3 eTk r)] := by
 rw [ms_l10Lvalue_F] at h
 refine AC.enter Tryz.func190 rfl (cV 100 (bB h fun r2 hx2 h => (CO.sw mix (wR 3 101 (wC (HR.ms_l10Node a0 a1 (⟨14, false, false, false, false⟩ : SPos) _ hx2) cok183 [] [(100, 101)] [101] (wR 1 102 (wF (CO.ret ?_))))))))
 cases h
 exact eG [(101, 100)] (.inr rfl) (RetV.one rfl (oT (t := 4) (r := .own 101)))

theorem ms_l10List_F_ok (N : Nat) (R : Rec2) (HR : RecOk2 R) (a0 : SL10W) (a1 : List Int) {r : LT} (h : ms_l10List_F N R a0 a1 = some r) :
    AC Tryz.prog (GS []) 191 [.agg [.sl false false (a0.l.map (eSN false)), V.b a0.full], sL eNI a1] [] (.own 100) [(100, vX 36 3 eTk r)] := by
 rw [ms_l10List_F] at h
 refine AC.enter Tryz.func191 rfl (cV 100 (cV 101 (CO.seq' (cV 102 (CO.block' (CO.loopJ (fun (⟨a1, a0, y105, y106⟩ : ((List Int) × SL10W × Int × LT)) => ⟨tl 30 [(1, sL eNI a1), (2, .loc 100 0), (5, .own 101), (6, V.i y105)], [(100, .cells 126 [.sl false false (a0.l.map (eSN false)), V.b a0.full]), (101, vX 36 3 eTk y106)]⟩) (fun n i => ms_l10List_l1 N R n i = some r) (n0 := N) (i0 := (a1, a0, 0, [])) (wS [(100, 100), (101, 101)] [1, 2, 5, 6]) h (fun i h => by simp [ms_l10List_l1] at h) ?_))))))
 rintro n1 ⟨a1, a0, y105, y106⟩ h165 ih166
 rw [ms_l10List_l1] at h165
 refine CO.seq' (CO.sw mix (wR 2 168 (wN eNI a1 [] (wR 1 168 (wF ?_)))))
 refine cI h165 (fun _ h165 => ?_) (fun _ h165 => ?_)
 ·refine CO.skip (CO.seq' (CO.block' ?_))
  refine CO.join (fun (⟨a1, y105, a0, y164⟩ : ((List Int) × Int × SL10W × LT)) => ⟨tl 30 [(1, sL eNI a1), (2, .loc 100 0), (5, .own 101), (6, V.i y105)], [(100, .cells 126 [.sl false false (a0.l.map (eSN false)), V.b a0.full]), (101, vX 36 3 eTk y164)]⟩) (fun i => ms_l10List_k2 N R (ms_l10List_l1 N R n1) i = some r) ?_ ?_
  · rintro ⟨a1, y105, a0, y164⟩ h194
    rw [ms_l10List_k2] at h194
    refine bB h194 fun e169 hx199 h194 => (bB h194 fun r170 hx200 h194 => (bB h194 fun r171 hx201 h194 => (bB h194 fun x172 hx202 h194 => ?_)))
    refine CO.endR (tl 30 [(1, sL eNI a1), (2, .loc 100 0), (5, .own 171), (6, V.i y105)]) [(171, vX 36 3 eTk x172), (100, .cells 126 [.sl false false (a0.l.map (eSN false)), V.b a0.full])] mix (by
     refine wR 4 170 (wX eNI hx199 1 (wR 1 170 (w0 (ms_Top_ok  hx200) cok111 (wC (HR.ms_l10At a0 e169 r170 _ hx201) cok171 [] [(100, 170)] [170] (W.appO Dk eTk (a := 101) (c := 170) (el := 36) (sz := 3) 32 hx202 rfl 171 (by kernel_rfl) (wR 1 172 ?_))))))
     exact fI
     ) (fun st hw => ?_)
    refine CO.weak hw ?_
    exact cK 172 ih166 (a1, a0, (wr (y105 + 1)), x172) h194 [(100, 100), (171, 101)] [1, 2, 5, 6]
  intro hk203
  refine cV 168 ?_
  refine cI h165 (fun _ h165 => ?_) (fun _ h165 => ?_)
  ·refine bB h165 fun r175 hx207 h165 => (bB h165 fun x176 hx208 h165 => (CO.w mix (wR 1 168 (w0 (ms_l10Tok_ok 36 hx207) cok170 (wR 1 168 (W.appO Dk eTk (a := 101) (c := 168) (el := 36) (sz := 3) 32 hx208 rfl 169 (by kernel_rfl) (wR 1 170 ?_)))))))
   exact wK hk203 (a1, y105, a0, x176) h165 [(100, 100), (169, 101)] [1, 2, 5, 6]
  exact sK hk203 (a1, y105, a0, y106) h165 [(100, 100), (101, 101)] [1, 2, 5, 6]
 refine CO.exit (cV 168 (CO.ret ?_))
 cases h165
 exact eG [(101, 100)] (.inr rfl) (RetV.one rfl (oT (t := 4) (r := .own 101)))

theorem ms_l10Named_F_ok (N : Nat) (R : Rec2) (HR : RecOk2 R) (a0 : SL10W) (a1 : SToken) (a2 : List Int) (a3 : Int) {r : LT} (h : ms_l10Named_F N R a0 a1 a2 a3 = some r) :
    AC Tryz.prog (GS []) 189 [.agg [.sl false false (a0.l.map (eSN false)), V.b a0.full], .agg [V.i a1.Kind, V.s a1.Text, V.i a1.At], sL eNI a2, V.i a3] [] (.own 100) [(100, vX 36 3 eTk r)] := by
 rw [ms_l10Named_F] at h
 refine AC.enter Tryz.func189 rfl (cV 100 (bB h fun r4 hx4 h => (bB h fun r5 hx5 h => (bB h fun x6 hx6 h => (CO.sw mix (wR 2 102 (w0 (ms_l10Tok_ok a3 hx4) cok170 (wR 3 102 ?_))))))))
 refine wC (HR.ms_l10List a0 a2 _ hx5) cok191 [] [(100, 103)] [103] (W.appO Dk eTk (a := 102) (c := 103) (el := 36) (sz := 3) 32 hx6 rfl 104 (by kernel_rfl) (wR 1 105 (wF (bB h fun r9 hx9 h => (bB h fun x10 hx10 h => (CO.sw mix (wR 3 105 (w0 (ms_l10Tok_ok (wr (a3 + 1)) hx9) cok170 ?_))))))))
 refine wR 1 105 (W.appO Dk eTk (a := 104) (c := 105) (el := 36) (sz := 3) 32 hx10 rfl 106 (by kernel_rfl) (wR 1 107 (wF (CO.ret ?_))))
 cases h
 exact eG [(106, 100)] (.inr rfl) (RetV.one rfl (oT (t := 8) (r := .own 106)))

theorem ms_l10Node_F_ok (N : Nat) (R : Rec2) (HR : RecOk2 R) (a0 : SL10W) (a1 : Int) (a2 : SPos) {r : LT} (h : ms_l10Node_F N R a0 a1 a2 = some r) :
    AC Tryz.prog (GS []) 183 [.agg [.sl false false (a0.l.map (eSN false)), V.b a0.full], V.i a1, .agg [V.i a2.Level, V.b a2.Dollar, V.b a2.NoIn, V.b a2.NoGt, V.b a2.NoSign]] [] (.own 100) [(100, vX 36 3 eTk r)] := by
 rw [ms_l10Node_F] at h
 refine AC.enter Tryz.func183 rfl (cV 100 (bB h fun e2 hx2 h => (CO.sw mix (wR 3 102 (wX (eSN false) hx2 5 (wR 3 102 (wF (bB h fun r4 hx4 h => ?_))))))))
 refine cC 1 103 (ms_l10Leaf_ok e2 hx4) cok166 (CO.seq' (cV 104 ?_))
 refine cI h (fun _ h => ?_) (fun _ h => ?_)
 ·refine cV 104 (CO.ret ?_)
  cases h
  exact eG [(104, 100)] (.inr rfl) (RetV.one rfl (oT (t := 6) (r := .own 104)))
 refine CO.skip (CO.seq' (cV 104 (CO.block' (cV 104 ?_))))
 refine cI h (fun _ h => ?_) (fun _ h => ?_)
 ·refine bB h fun r95 hx110 h => (CO.sw mix (wR 6 104 (wC (HR.ms_l10Named a0 (⟨6, e2.Text, 0⟩ : SToken) e2.Kids 34 _ hx110) cok189 [] [(100, 104)] [104] (wR 1 105 (wF (CO.ret ?_))))))
  cases h
  exact eG [(104, 100)] (.inr rfl) (RetV.one rfl (oT (t := 6) (r := .own 104)))
 refine cV 104 ?_
 refine cI h (fun _ h => ?_) (fun _ h => ?_)
 ·refine bB h fun r97 hx113 h => (CO.sw mix (wR 6 104 (wC (HR.ms_l10Named a0 (⟨7, e2.Text, 0⟩ : SToken) e2.Kids 32 _ hx113) cok189 [] [(100, 104)] [104] (wR 1 105 (wF (CO.ret ?_))))))
  cases h
  exact eG [(104, 100)] (.inr rfl) (RetV.one rfl (oT (t := 6) (r := .own 104)))
 refine cV 104 ?_
 refine cI h (fun _ h => ?_) (fun _ h => ?_)
 ·refine bB h fun r99 hx116 h => (CO.sw mix (wR 6 104 (wC (HR.ms_l10Named a0 (⟨8, e2.Text, 0⟩ : SToken) e2.Kids 32 _ hx116) cok189 [] [(100, 104)] [104] (wR 1 105 (wF (CO.ret ?_))))))
  cases h
  exact eG [(104, 100)] (.inr rfl) (RetV.one rfl (oT (t := 6) (r := .own 104)))
 refine cV 104 ?_
 refine cI h (fun _ h => ?_) (fun _ h => ?_)
 ·refine bB h fun r104 hx122 h => (bB h fun e105 hx123 h => (bB h fun r106 hx124 h => (bB h fun x107 hx125 h => (CO.sw mix (wR 2 104 (w0 (ms_l10Tok_ok e2.Op hx122) cok170 (wR 4 104 (wX eNI hx123 1 ?_))))))))
  refine wR 1 105 (wC (HR.ms_l10Lvalue a0 e105 _ hx124) cok190 [] [(100, 105)] [105] (W.appO Dk eTk (a := 104) (c := 105) (el := 36) (sz := 3) 32 hx125 rfl 106 (by kernel_rfl) (wR 1 107 (wF (CO.ret ?_)))))
  cases h
  exact eG [(106, 100)] (.inr rfl) (RetV.one rfl (oT (t := 6) (r := .own 106)))
 refine cV 104 ?_
 refine cI h (fun _ h => ?_) (fun _ h => ?_)
 ·refine bB h fun e112 hx131 h => (bB h fun r113 hx132 h => (bB h fun r114 hx133 h => (bB h fun x115 hx134 h => (CO.sw mix (wR 3 104 (wX eNI hx131 1 (wR 1 104 (wC (HR.ms_l10Lvalue a0 e112 _ hx132) cok190 [] [(100, 104)] [104] ?_))))))))
  refine wR 2 105 (w0 (ms_l10Tok_ok e2.Op hx133) cok170 (wR 1 105 (W.appO Dk eTk (a := 104) (c := 105) (el := 36) (sz := 3) 32 hx134 rfl 106 (by kernel_rfl) (wR 1 107 (wF (CO.ret ?_))))))
  cases h
  exact eG [(106, 100)] (.inr rfl) (RetV.one rfl (oT (t := 6) (r := .own 106)))
 refine cV 104 ?_
 refine cI h (fun _ h => ?_) (fun _ h => ?_)
 ·refine bB h fun e120 hx140 h => (bB h fun r121 hx141 h => (bB h fun r122 hx142 h => (bB h fun x123 hx143 h => (CO.sw mix (wR 3 104 (wX eNI hx140 1 (wR 1 104 (wC (HR.ms_l10Lvalue a0 e120 _ hx141) cok190 [] [(100, 104)] [104] ?_))))))))
  refine wR 2 105 (w0 (ms_l10Tok_ok e2.Op hx142) cok170 (wR 1 105 (W.appO Dk eTk (a := 104) (c := 105) (el := 36) (sz := 3) 32 hx143 rfl 106 (by kernel_rfl) (wR 1 107 (wF (bB h fun e128 hx148 h => (bB h fun r129 hx149 h => (bB h fun r130 hx150 h => ?_))))))))
  refine bB h fun x131 hx151 h => (CO.sw mix (wR 4 107 (wX eNI hx148 1 (wR 3 107 (w0 (ms_KidPos_ok e2 1 a2 hx149) cok169 (wC (HR.ms_l10At a0 e128 r129 _ hx150) cok171 [] [(100, 107)] [107] (W.appO Dk eTk (a := 106) (c := 107) (el := 36) (sz := 3) 32 hx151 rfl 108 (by kernel_rfl) (wR 1 109 ?_))))))))
  refine wF (CO.ret ?_)
  cases h
  exact eG [(108, 100)] (.inr rfl) (RetV.one rfl (oT (t := 6) (r := .own 108)))
 refine cV 104 ?_
 refine cI h (fun _ h => ?_) (fun _ h => ?_)
 ·refine bB h fun r137 hx158 h => (bB h fun e138 hx159 h => (bB h fun r139 hx160 h => (bB h fun r140 hx161 h => (bB h fun x141 hx162 h => (CO.sw mix (w0 (ms_l10Tok_ok 68 hx158) cok170 (wR 4 104 (wX eNI hx159 1 ?_))))))))
  refine wR 3 105 (w0 (ms_KidPos_ok e2 0 a2 hx160) cok169 (wC (HR.ms_l10At a0 e138 r139 _ hx161) cok171 [] [(100, 105)] [105] (W.appO Dk eTk (a := 104) (c := 105) (el := 36) (sz := 3) 32 hx162 rfl 106 (by kernel_rfl) (wR 1 107 (wF (CO.ret ?_))))))
  cases h
  exact eG [(106, 100)] (.inr rfl) (RetV.one rfl (oT (t := 6) (r := .own 106)))
 refine cV 104 ?_
 refine cI h (fun _ h => ?_) (fun _ h => ?_)
 ·refine bB h fun r147 hx169 h => (bB h fun e148 hx170 h => (bB h fun r149 hx171 h => (bB h fun r150 hx172 h => (bB h fun x151 hx173 h => (CO.sw mix (wR 2 104 (w0 (ms_l10Tok_ok e2.Op hx169) cok170 (wR 4 104 ?_))))))))
  refine wX eNI hx170 1 (wR 3 105 (w0 (ms_KidPos_ok e2 0 a2 hx171) cok169 (wC (HR.ms_l10At a0 e148 r149 _ hx172) cok171 [] [(100, 105)] [105] (W.appO Dk eTk (a := 104) (c := 105) (el := 36) (sz := 3) 32 hx173 rfl 106 (by kernel_rfl) (wR 1 107 (wF (CO.ret ?_)))))))
  cases h
  exact eG [(106, 100)] (.inr rfl) (RetV.one rfl (oT (t := 6) (r := .own 106)))
 refine cV 104 ?_
 refine cI h (fun _ h => ?_) (fun _ h => ?_)
 ·refine bB h fun e155 hx178 h => (bB h fun r156 hx179 h => (bB h fun r157 hx180 h => (CO.sw mix (wR 3 104 (wX eNI hx178 1 (wR 3 104 (w0 (ms_KidPos_ok e2 0 a2 hx179) cok169 (wC (HR.ms_l10At a0 e155 r156 _ hx180) cok171 [] [(100, 104)] [104] ?_))))))))
  refine wR 1 105 (wF ?_)
  refine CO.join (fun (⟨e2, y168⟩ : (SNode × LT)) => ⟨tl 169 [(7, .loc 100 0), (10, .own 101)], [(100, .cells 108 [V.i e2.Kind, V.i e2.Op, V.s e2.Text, V.s e2.Other, sL eNI e2.Kids]), (101, vX 36 3 eTk y168)]⟩) (fun i => ms_l10Node_k1 N R i = some r) ?_ ?_
  · rintro ⟨e2, y168⟩ h192
    rw [ms_l10Node_k1] at h192
    refine bB h192 fun r171 hx195 h192 => (bB h192 fun x172 hx196 h192 => (CO.sw mix (wR 1 110 (w0 (ms_l10Tok_ok 24 hx195) cok170 (wR 4 110 (W.appO Dk eTk (a := 101) (c := 110) (el := 36) (sz := 3) 32 hx196 rfl 111 (by kernel_rfl) (wR 1 112 (wF ?_))))))))
    refine CO.ret ?_
    cases h192
    exact eG [(111, 100)] (.inr rfl) (RetV.one rfl (oT (t := 6) (r := .own 111)))
  intro hk197
  refine CO.sw mix (wR 2 105 (wN eNI e2.Kids [] (wR 1 105 (wF ?_))))
  refine cI h (fun _ h => ?_) (fun _ h => ?_)
  ·refine bB h fun r176 hx202 h => (bB h fun r177 hx203 h => (bB h fun x178 hx204 h => (CO.sw mix (w0 (ms_l10Tok_ok 32 hx202) cok170 (wR 4 105 (wC (HR.ms_l10List a0 e2.Kids _ hx203) cok191 [] [(100, 106)] [106] (W.appO Dk eTk (a := 105) (c := 106) (el := 36) (sz := 3) 32 hx204 rfl 107 (by kernel_rfl) (wR 1 108 ?_))))))))
   refine wF (bB h fun r181 hx207 h => (bB h fun x182 hx208 h => (CO.w mix (wR 1 108 (w0 (ms_l10Tok_ok 33 hx207) cok170 (wR 1 108 (W.appO Dk eTk (a := 107) (c := 108) (el := 36) (sz := 3) 32 hx208 rfl 109 (by kernel_rfl) (wR 1 110 ?_))))))))
   exact wK hk197 (e2, x182) h [(102, 100), (109, 101)] [7, 10]
  exact sK hk197 (e2, r157) h [(102, 100), (104, 101)] [7, 10]
 refine CO.skip (bB h fun r184 hx210 h => (CO.sw mix (wR 3 104 (wC (HR.ms_l10Sides a0 e2 a2 _ hx210) cok192 [] [(100, 104)] [104] (wR 1 105 (wF (CO.ret ?_)))))))
 cases h
 exact eG [(104, 100)] (.inr rfl) (RetV.one rfl (oT (t := 6) (r := .own 104)))

theorem ms_l10At_F_ok (N : Nat) (R : Rec2) (HR : RecOk2 R) (a0 : SL10W) (a1 : Int) (a2 : SPos) {r : LT} (h : ms_l10At_F N R a0 a1 a2 = some r) :
    AC Tryz.prog (GS []) 171 [.agg [.sl false false (a0.l.map (eSN false)), V.b a0.full], V.i a1, .agg [V.i a2.Level, V.b a2.Dollar, V.b a2.NoIn, V.b a2.NoGt, V.b a2.NoSign]] [] (.own 100) [(100, vX 36 3 eTk r)] := by
 rw [ms_l10At_F] at h
 refine AC.enter Tryz.func171 rfl (cV 100 (CO.seq' (bB h fun y10 hv14 h => ?_)))
 refine CO.cutR (tl 59 [(1, V.i a1), (3, .loc 100 0), (5, .loc 101 0), (19, V.b y10)]) [(100, .cells 126 [.sl false false (a0.l.map (eSN false)), V.b a0.full]), (101, .cells 93 [V.i a2.Level, V.b a2.Dollar, V.b a2.NoIn, V.b a2.NoGt, V.b a2.NoSign])] mix (by
  refine wR 3 102 (bB hv14 fun e11 hx15 hv14 => (wX (eSN false) hx15 5 (wR 2 102 (bB hv14 fun r12 hx16 hv14 => (w0 (ms_Fits_ok e11 a2 hx16) cok154 (wR 1 102 ?_))))))
  refine wJ 15 hv14 (fun hv14 => ?_) (fun hv14 => ?_)
  ·refine wR 4 102 ?_
   cases hv14
   exact fS [(100, 100), (101, 101)] [1, 3, 5, 19]
  refine wR 4 102 ?_
  cases hv14
  exact fS [(100, 100), (101, 101)] [1, 3, 5, 19]
  ) ?_
 refine cI h (fun _ h => ?_) (fun _ h => ?_)
 ·refine bB h fun r14 hx20 h => (CO.sw mix (wR 3 102 (wC (HR.ms_l10Node a0 a1 a2 _ hx20) cok183 [] [(100, 102)] [102] (wR 1 103 (wF (CO.ret ?_))))))
  cases h
  exact eG [(102, 100)] (.inr rfl) (RetV.one rfl (oT (t := 6) (r := .own 102)))
 refine CO.skip (CO.seq' (bB h fun y27 hv40 h => ?_))
 refine CO.cutR (tl 59 [(1, V.i a1), (3, .loc 100 0), (5, .loc 101 0), (43, V.b y27)]) [(100, .cells 126 [.sl false false (a0.l.map (eSN false)), V.b a0.full]), (101, .cells 93 [V.i a2.Level, V.b a2.Dollar, V.b a2.NoIn, V.b a2.NoGt, V.b a2.NoSign])] mix (by
  refine wR 3 102 ?_
  refine wJ 26 hv40 (fun hv40 => ?_) (fun hv40 => ?_)
  ·refine wR 3 102 (bB hv40 fun e28 hx42 hv40 => (wX (eSN false) hx42 5 (wR 1 102 (bB hv40 fun r29 hx43 hv40 => (w0 (ms_LevelOf_ok e28 hx43) cok165 (wR 3 102 ?_))))))
   refine wJ 35 hv40 (fun hv40 => ?_) (fun hv40 => ?_)
   ·refine wR 3 102 (bB hv40 fun e30 hx45 hv40 => (wX (eSN false) hx45 5 (wR 4 102 ?_)))
    cases hv40
    exact fS [(100, 100), (101, 101)] [1, 3, 5, 43]
   refine wR 8 102 ?_
   cases hv40
   exact fS [(100, 100), (101, 101)] [1, 3, 5, 43]
  refine wR 17 102 ?_
  cases hv40
  exact fS [(100, 100), (101, 101)] [1, 3, 5, 43]
  ) ?_
 refine cI h (fun _ h => ?_) (fun _ h => ?_)
 ·refine bB h fun r32 hx48 h => (CO.sw mix (wR 3 102 (wC (HR.ms_l10Node a0 a1 a2 _ hx48) cok183 [] [(100, 102)] [102] (wR 1 103 (wF (CO.ret ?_))))))
  cases h
  exact eG [(102, 100)] (.inr rfl) (RetV.one rfl (oT (t := 6) (r := .own 102)))
 refine CO.skip (bB h fun r37 hx53 h => (bB h fun r38 hx54 h => (bB h fun r39 hx55 h => (bB h fun x40 hx56 h => (CO.sw mix (w0 (ms_l10Tok_ok 32 hx53) cok170 (wR 3 102 (w0 (ms_Top_ok  hx54) cok111 ?_))))))))
 refine wC (HR.ms_l10Node a0 a1 r38 _ hx55) cok183 [] [(100, 103)] [103] (W.appO Dk eTk (a := 102) (c := 103) (el := 36) (sz := 3) 32 hx56 rfl 104 (by kernel_rfl) (wR 1 105 (wF (bB h fun r43 hx59 h => (bB h fun x44 hx60 h => (CO.sw mix (wR 1 105 (w0 (ms_l10Tok_ok 33 hx59) cok170 ?_))))))))
 refine wR 1 105 (W.appO Dk eTk (a := 104) (c := 105) (el := 36) (sz := 3) 32 hx60 rfl 106 (by kernel_rfl) (wR 1 107 (wF (CO.ret ?_))))
 cases h
 exact eG [(106, 100)] (.inr rfl) (RetV.one rfl (oT (t := 6) (r := .own 106)))

theorem scc2_ok : ∀ N, RecOk2 (scc2 N)
 | 0 => ⟨fun _ _ _ _ h => (by cases h), fun _ _ _ h => (by cases h), fun _ _ _ h => (by cases h), fun _ _ _ _ _ h => (by cases h), fun _ _ _ _ h => (by cases h), fun _ _ _ _ h => (by cases h)⟩
 | N + 1 => ⟨fun a0 a1 a2 _ h => ms_l10Sides_F_ok N (scc2 N) (scc2_ok N) a0 a1 a2 h, fun a0 a1 _ h => ms_l10Lvalue_F_ok N (scc2 N) (scc2_ok N) a0 a1 h, fun a0 a1 _ h => ms_l10List_F_ok N (scc2 N) (scc2_ok N) a0 a1 h, fun a0 a1 a2 a3 _ h => ms_l10Named_F_ok N (scc2 N) (scc2_ok N) a0 a1 a2 a3 h, fun a0 a1 a2 _ h => ms_l10Node_F_ok N (scc2 N) (scc2_ok N) a0 a1 a2 h, fun a0 a1 a2 _ h => ms_l10At_F_ok N (scc2 N) (scc2_ok N) a0 a1 a2 h⟩

theorem ms_l10At_ok (N : Nat) (a0 : SL10W) (a1 : Int) (a2 : SPos) {r : LT} (h : ms_l10At N a0 a1 a2 = some r) :
  AC Tryz.prog (GS []) 171 [.agg [.sl false false (a0.l.map (eSN false)), V.b a0.full], V.i a1, .agg [V.i a2.Level, V.b a2.Dollar, V.b a2.NoIn, V.b a2.NoGt, V.b a2.NoSign]] [] (.own 100) [(100, vX 36 3 eTk r)] :=
 (scc2_ok N).ms_l10At a0 a1 a2 r h

theorem ms_OpAt_ok (N : Nat) (a0 : LU) (a1 : Int) {r : (Int × Int)} (h : ms_OpAt N a0 a1 = some r) :
    AC Tryz.prog (GS []) 61 [V.s a0, V.i a1] [] (.tup [V.i r.1, V.i r.2]) [] := by
 rw [ms_OpAt] at h
 refine AC.enter Tryz.func61 rfl (cV 100 (cV 100 (cV 100 (bB h fun r2 hx2 h => (CO.sw mix (wC (ms_l3Signs_ok  hx2) cok90 [] [(100, 100)] [100] (wR 1 101 (wF ?_))))))))
 refine CO.seq' (cV 101 (CO.block' (CO.loopJ (fun (⟨a0, a1, r2, y73, y74, y75⟩ : (LU × Int × LLU × Int × Int × Int)) => ⟨tl 62 [(0, V.s a0), (1, V.i a1), (6, V.i y73), (7, V.i y74), (8, .own 100), (9, V.i y75)], [(100, vN r2)]⟩) (fun n i => ms_OpAt_l1 N n i = some r) (n0 := N) (i0 := (a0, a1, r2, 0, 0, 0)) (wS [(100, 100)] [0, 1, 6, 7, 8, 9]) h (fun i h => by simp [ms_OpAt_l1] at h) ?_)))
 rintro n1 ⟨a0, a1, r2, y73, y74, y75⟩ h185 ih186
 rw [ms_OpAt_l1] at h185
 refine CO.seq' (CO.sw mix (wR 2 161 (wN eNS r2 [100] (wR 1 161 (wF ?_)))))
 refine cI h185 (fun _ h185 => ?_) (fun _ h185 => ?_)
 ·refine CO.skip ?_
  refine CO.join (fun (⟨a0, a1, y75, r2, y102, y103⟩ : (LU × Int × Int × LLU × Int × Int)) => ⟨tl 62 [(0, V.s a0), (1, V.i a1), (6, V.i y102), (7, V.i y103), (8, .own 100), (9, V.i y75)], [(100, vN r2)]⟩) (fun i => ms_OpAt_k2 N (ms_OpAt_l1 N n1) i = some r) ?_ ?_
  · rintro ⟨a0, a1, y75, r2, y102, y103⟩ h205
    rw [ms_OpAt_k2] at h205
    exact cK 161 ih186 (a0, a1, r2, y102, y103, (wr (y75 + 1))) h205 [(100, 100)] [0, 1, 6, 7, 8, 9]
  intro hk206
  refine CO.block' (bB h185 fun e105 hx208 h185 => (CO.sw mix (wR 2 161 (W.ixO Dk eNS hx208 100 1 (by kernel_rfl) (W.ldO Dk eNS hx208 9 100 0 (V.s e105) (by kernel_rfl) (by kernel_rfl) (wR 2 161 (wF (bB h185 fun y108 hv215 h185 => ?_))))))))
  refine CO.cutR (tl 62 [(0, V.s a0), (1, V.i a1), (6, V.i y73), (7, V.i y74), (8, .own 100), (9, V.i y75), (10, V.i (e105.length : Int)), (56, V.b y108)]) [(100, vN r2)] mix (by
   refine wR 3 161 ?_
   refine wJ 25 hv215 (fun hv215 => ?_) (fun hv215 => ?_)
   ·refine wR 6 161 ?_
    refine wJ 31 hv215 (fun hv215 => ?_) (fun hv215 => ?_)
    ·refine wR 8 161 ?_
     refine wJ 39 hv215 (fun hv215 => ?_) (fun hv215 => ?_)
     ·refine wR 5 161 (bB hv215 fun s109 hx219 hv215 => (W.cutS Dk hx219 (by kernel_rfl) (wR 2 161 (bB hv215 fun e110 hx220 hv215 => (W.ixO Dk eNS hx220 100 1 (by kernel_rfl) (W.ldO Dk eNS hx220 9 100 0 (V.s e110) (by kernel_rfl) (by kernel_rfl) (wR 3 161 ?_)))))))
      refine wJ 52 hv215 (fun hv215 => ?_) (fun hv215 => ?_)
      ·refine wR 4 161 ?_
       cases hv215
       exact fS [(100, 100)] [0, 1, 6, 7, 8, 9, 10, 56]
      refine wR 4 161 ?_
      cases hv215
      exact fS [(100, 100)] [0, 1, 6, 7, 8, 9, 10, 56]
     refine wR 17 161 ?_
     cases hv215
     exact fS [(100, 100)] [0, 1, 6, 7, 8, 9, 10, 56]
    refine wR 25 161 ?_
    cases hv215
    exact fS [(100, 100)] [0, 1, 6, 7, 8, 9, 10, 56]
   refine wR 31 161 ?_
   cases hv215
   exact fS [(100, 100)] [0, 1, 6, 7, 8, 9, 10, 56]
   ) ?_
  refine cI h185 (fun _ h185 => ?_) (fun _ h185 => ?_)
  ·refine cV 161 ?_
   exact cK 161 hk206 (a0, a1, y75, r2, (wr (30 + y75)), (e105.length : Int)) h185 [(100, 100)] [0, 1, 6, 7, 8, 9]
  exact sK hk206 (a0, a1, y75, r2, y73, y74) h185 [(100, 100)] [0, 1, 6, 7, 8, 9]
 refine CO.exit (cV 161 (CO.ret ?_))
 have h185 := sI h185
 subst h185
 exact eG [] (.inr rfl) (RetV.two rfl (oT (t := 4) (r := V.i y73)) (oT (t := 5) (r := V.i y74)))

theorem ms_NeedsGap_ok (N : Nat) (a0 : SToken) (a1 : SToken) {r : Bool} (h : ms_NeedsGap N a0 a1 = some r) :
    AC Tryz.prog (GS []) 96 [.agg [V.i a0.Kind, V.s a0.Text, V.i a0.At], .agg [V.i a1.Kind, V.s a1.Text, V.i a1.At]] [] (V.b r) [] := by
 rw [ms_NeedsGap] at h
 refine AC.enter Tryz.func96 rfl (cV 100 (CO.seq' (bB h fun y2 hv15 h => ?_)))
 refine CO.cutR (tl 91 [(2, .loc 100 0), (3, .loc 101 0), (31, V.b y2)]) [(100, .cells 36 [V.i a0.Kind, V.s a0.Text, V.i a0.At]), (101, .cells 36 [V.i a1.Kind, V.s a1.Text, V.i a1.At])] mix (by
  refine wR 4 102 ?_
  refine wJ 12 hv15 (fun hv15 => ?_) (fun hv15 => ?_)
  ·refine wR 19 102 ?_
   cases hv15
   exact fS [(100, 100), (101, 101)] [2, 3, 31]
  refine wR 5 102 ?_
  refine wJ 17 hv15 (fun hv15 => ?_) (fun hv15 => ?_)
  ·refine wR 14 102 ?_
   cases hv15
   exact fS [(100, 100), (101, 101)] [2, 3, 31]
  refine wR 5 102 ?_
  refine wJ 22 hv15 (fun hv15 => ?_) (fun hv15 => ?_)
  ·refine wR 9 102 ?_
   cases hv15
   exact fS [(100, 100), (101, 101)] [2, 3, 31]
  refine wR 5 102 ?_
  refine wJ 27 hv15 (fun hv15 => ?_) (fun hv15 => ?_)
  ·refine wR 4 102 ?_
   cases hv15
   exact fS [(100, 100), (101, 101)] [2, 3, 31]
  refine wR 4 102 ?_
  cases hv15
  exact fS [(100, 100), (101, 101)] [2, 3, 31]
  ) ?_
 refine cI h (fun _ h => ?_) (fun _ h => ?_)
 ·refine cV 102 ?_
  cases h
  exact e1 4 id
 refine CO.skip (bB h fun b4 hx22 h => (CO.sw mix (wR 2 102 (W.ixS Dk hx22 (by kernel_rfl) (wR 2 102 (wF (bB h fun b6 hx24 h => (CO.sw mix ?_))))))))
 refine wR 6 102 (W.ixS Dk hx24 (by kernel_rfl) (wR 2 102 (wF (CO.seq' (CO.block' (bB h fun y18 hv48 h => ?_))))))
 refine CO.cutR (tl 91 [(2, .loc 100 0), (3, .loc 101 0), (5, V.i (wr ((b4).toNat : Int))), (44, V.b y18)]) [(100, .cells 36 [V.i a0.Kind, V.s a0.Text, V.i a0.At]), (101, .cells 36 [V.i a1.Kind, V.s a1.Text, V.i a1.At])] mix (by
  refine wR 1 102 (bB hv48 fun r19 hx49 hv48 => (w0 (ms_IsWordByte_ok (wr ((b6).toNat : Int)) hx49) cok89 (wR 1 102 ?_)))
  refine wJ 47 hv48 (fun hv48 => ?_) (fun hv48 => ?_)
  ·refine wR 1 102 (bB hv48 fun r20 hx51 hv48 => (w0 (ms_IsWordByte_ok (wr ((b4).toNat : Int)) hx51) cok89 (wR 2 102 ?_)))
   cases hv48
   exact fS [(100, 100), (101, 101)] [2, 3, 5, 44]
  refine wR 4 102 ?_
  cases hv48
  exact fS [(100, 100), (101, 101)] [2, 3, 5, 44]
  ) ?_
 refine cI h (fun _ h => ?_) (fun _ h => ?_)
 ·refine cV 102 ?_
  cases h
  exact e1 4 id
 refine bB h fun y22 hv56 h => ?_
 refine CO.cutR (tl 91 [(2, .loc 100 0), (3, .loc 101 0), (51, V.b y22)]) [(100, .cells 36 [V.i a0.Kind, V.s a0.Text, V.i a0.At]), (101, .cells 36 [V.i a1.Kind, V.s a1.Text, V.i a1.At])] mix (by
  refine wR 4 102 ?_
  refine wJ 55 hv56 (fun hv56 => ?_) (fun hv56 => ?_)
  ·refine wR 1 102 (bB hv56 fun r23 hx58 hv56 => (w0 (ms_IsWordByte_ok (wr ((b4).toNat : Int)) hx58) cok89 (wR 1 102 ?_)))
   refine wJ 58 hv56 (fun hv56 => ?_) (fun hv56 => ?_)
   ·refine wR 5 102 ?_
    cases hv56
    exact fS [(100, 100), (101, 101)] [2, 3, 51]
   refine wR 5 102 ?_
   cases hv56
   exact fS [(100, 100), (101, 101)] [2, 3, 51]
  refine wR 8 102 ?_
  cases hv56
  exact fS [(100, 100), (101, 101)] [2, 3, 51]
  ) ?_
 refine cI h (fun _ h => ?_) (fun _ h => ?_)
 ·refine cV 102 ?_
  cases h
  exact e1 4 id
 refine bB h fun y24 hv62 h => ?_
 refine CO.cutR (tl 91 [(2, .loc 100 0), (3, .loc 101 0), (63, V.b y24)]) [(100, .cells 36 [V.i a0.Kind, V.s a0.Text, V.i a0.At]), (101, .cells 36 [V.i a1.Kind, V.s a1.Text, V.i a1.At])] mix (by
  refine wR 4 102 ?_
  refine wJ 67 hv62 (fun hv62 => ?_) (fun hv62 => ?_)
  ·refine wR 5 102 ?_
   cases hv62
   exact fS [(100, 100), (101, 101)] [2, 3, 63]
  refine wR 5 102 ?_
  cases hv62
  exact fS [(100, 100), (101, 101)] [2, 3, 63]
  ) ?_
 refine cI h (fun _ h => ?_) (fun _ h => ?_)
 ·refine cV 102 ?_
  cases h
  exact e1 4 id
 refine CO.skip (bB h fun s27 hx67 h => (bB h fun r28 hx68 h => (CO.sw mix (wR 4 102 (W.cat hx67 (by kernel_rfl) (w0 (ms_OpAt_ok N s27 0 hx68) cok61 (wR 5 102 (wF ?_))))))))
 refine bB h fun y30 hv71 h => ?_
 refine CO.cutR (tl 91 [(4, V.b y30)]) [] mix (by
  refine wR 2 102 (bB hv71 fun r31 hx72 hv71 => (w0 (ms_l1In_ok a0.Kind 30 68 hx72) cok27 (wR 1 102 ?_)))
  refine wJ 84 hv71 (fun hv71 => ?_) (fun hv71 => ?_)
  ·refine wR 7 102 ?_
   cases hv71
   exact fS [] [4]
  refine wR 7 102 ?_
  cases hv71
  exact fS [] [4]
  ) ?_
 cases h
 exact e1 4 id

structure RecOk3 (R : Rec3) : Prop where
 ms_l18Bin : ∀ (a0 : SL10W) (a1 : SNode) (a2 : SPos) (r : LD), R.ms_l18Bin a0 a1 a2 = some r → AC Tryz.prog (GS []) 173 [.agg [.sl false false (a0.l.map (eSN false)), V.b a0.full], .agg [V.i a1.Kind, V.i a1.Op, V.s a1.Text, V.s a1.Other, sL eNI a1.Kids], .agg [V.i a2.Level, V.b a2.Dollar, V.b a2.NoIn, V.b a2.NoGt, V.b a2.NoSign]] [] (.own 100) [(100, .vec false 121 4 (r.map (encSDNode true)))]
 ms_l18Lvalue : ∀ (a0 : SL10W) (a1 : Int) (r : LD), R.ms_l18Lvalue a0 a1 = some r → AC Tryz.prog (GS []) 168 [.agg [.sl false false (a0.l.map (eSN false)), V.b a0.full], V.i a1] [] (.own 100) [(100, .vec false 121 4 (r.map (encSDNode true)))]
 ms_l18List : ∀ (a0 : SL10W) (a1 : List Int) (a2 : SPos) (r : LD), R.ms_l18List a0 a1 a2 = some r → AC Tryz.prog (GS []) 172 [.agg [.sl false false (a0.l.map (eSN false)), V.b a0.full], sL eNI a1, .agg [V.i a2.Level, V.b a2.Dollar, V.b a2.NoIn, V.b a2.NoGt, V.b a2.NoSign]] [] (.own 100) [(100, .vec false 121 4 (r.map (encSDNode true)))]
 ms_l18Named : ∀ (a0 : SL10W) (a1 : SNode) (a2 : LU) (a3 : LU) (r : LD), R.ms_l18Named a0 a1 a2 a3 = some r → AC Tryz.prog (GS []) 167 [.agg [.sl false false (a0.l.map (eSN false)), V.b a0.full], .agg [V.i a1.Kind, V.i a1.Op, V.s a1.Text, V.s a1.Other, sL eNI a1.Kids], V.s a2, V.s a3] [] (.own 100) [(100, .vec false 121 4 (r.map (encSDNode true)))]
 ms_l18Node : ∀ (a0 : SL10W) (a1 : Int) (a2 : SPos) (r : LD), R.ms_l18Node a0 a1 a2 = some r → AC Tryz.prog (GS []) 155 [.agg [.sl false false (a0.l.map (eSN false)), V.b a0.full], V.i a1, .agg [V.i a2.Level, V.b a2.Dollar, V.b a2.NoIn, V.b a2.NoGt, V.b a2.NoSign]] [] (.own 100) [(100, .vec false 121 4 (r.map (encSDNode true)))]
 ms_l18At : ∀ (a0 : SL10W) (a1 : Int) (a2 : SPos) (r : LD), R.ms_l18At a0 a1 a2 = some r → AC Tryz.prog (GS []) 143 [.agg [.sl false false (a0.l.map (eSN false)), V.b a0.full], V.i a1, .agg [V.i a2.Level, V.b a2.Dollar, V.b a2.NoIn, V.b a2.NoGt, V.b a2.NoSign]] [] (.own 100) [(100, .vec false 121 4 (r.map (encSDNode true)))]

theorem ms_l18Bin_F_ok (N : Nat) (R : Rec3) (HR : RecOk3 R) (a0 : SL10W) (a1 : SNode) (a2 : SPos) {r : LD} (h : ms_l18Bin_F N R a0 a1 a2 = some r) :
    AC Tryz.prog (GS []) 173 [.agg [.sl false false (a0.l.map (eSN false)), V.b a0.full], .agg [V.i a1.Kind, V.i a1.Op, V.s a1.Text, V.s a1.Other, sL eNI a1.Kids], .agg [V.i a2.Level, V.b a2.Dollar, V.b a2.NoIn, V.b a2.NoGt, V.b a2.NoSign]] [] (.own 100) [(100, .vec false 121 4 (r.map (encSDNode true)))] := by
 rw [ms_l18Bin_F] at h
 refine AC.enter Tryz.func173 rfl (cV 100 (bB h fun e4 hx4 h => (bB h fun r5 hx5 h => (bB h fun r6 hx6 h => (CO.sw mix (wR 3 103 (wX eNI hx4 1 (wR 3 103 ?_))))))))
 refine w0 (ms_KidPos_ok a1 0 a2 hx5) cok169 (wC (HR.ms_l18At a0 e4 r5 _ hx6) cok143 [] [(100, 103)] [103] (wR 1 104 (wF (bB h fun e10 hx10 h => (bB h fun r11 hx11 h => (bB h fun r12 hx12 h => (CO.sw mix (wR 3 104 ?_))))))))
 refine wX eNI hx10 1 (wR 3 104 (w0 (ms_KidPos_ok a1 1 a2 hx11) cok169 (wC (HR.ms_l18At a0 e10 r11 _ hx12) cok143 [] [(100, 104)] [104] (wR 1 105 (wF (CO.seq' (cV 105 (CO.block' ?_))))))))
 refine cV 105 ?_
 refine cI h (fun _ h => ?_) (fun _ h => ?_)
 ·refine bB h fun r34 hx40 h => (bB h fun r35 hx41 h => (CO.sw mix (wR 1 105 (wC (ms_l15Text_ok [32] hx40) cok157 [] [(100, 105)] [105] (wR 2 106 (W.lend (ms_l15Over_ok N 6 0 [r6, r34, r12] hx41) cok156 [(100, 107)] [107] (LayOk.cons (j := 106) (encL true (encSDNode true)) (encL false (encSDNode false)) ([r6, r34, r12] : List LD) (by kernel_rfl) (share_encL _ (share_encSDNode _)) lO) (.own _) (.cons (DeepR.map (fun _ => (.cons (.c _) (.cons (.c _) (.cons (.c _) (.cons (.sl _ _ (DeepR.map (fun _ => (.cons (.c _) .nil)) _)) .nil))))) _) .nil) (by kernel_rfl) (by kernel_rfl) (wR 1 108 (wF ?_))))))))
  refine CO.ret ?_
  cases h
  exact eG [(107, 100)] (.inr rfl) (RetV.one rfl (oT (t := 6) (r := .own 107)))
 refine CO.join (fun (⟨a1, r6, r12, y36⟩ : (SNode × LD × LD × Bool)) => ⟨tl 63 [(4, .loc 100 0), (7, .own 101), (8, .own 102), (36, V.b y36)], [(100, .cells 108 [V.i a1.Kind, V.i a1.Op, V.s a1.Text, V.s a1.Other, sL eNI a1.Kids]), (101, .vec false 121 4 (r6.map (encSDNode true))), (102, .vec false 121 4 (r12.map (encSDNode true)))]⟩) (fun i => ms_l18Bin_k1 N R i = some r) ?_ ?_
 · rintro ⟨a1, r6, r12, y36⟩ h43
   rw [ms_l18Bin_k1] at h43
   refine cI h43 (fun _ h43 => ?_) (fun _ h43 => ?_)
   ·refine bB h43 fun r44 hx52 h43 => (bB h43 fun s45 hx53 h43 => (bB h43 fun r46 hx54 h43 => (bB h43 fun r47 hx55 h43 => (bB h43 fun r48 hx56 h43 => (bB h43 fun r49 hx57 h43 => (bB h43 fun r50 hx58 h43 => (CO.sw mix (wR 3 105 ?_))))))))
    refine w0 (ms_SpellOf_ok a1.Op hx52) cok121 (W.cat hx53 (by kernel_rfl) (wC (ms_l15Text_ok s45 hx54) cok157 [] [(100, 105)] [105] (wC (ms_l15Line_ok  hx55) cok184 [] [(100, 106)] [106] (wR 2 107 (W.lend (ms_l15Over_ok N 6 0 [r6, r46, r47, r12] hx56) cok156 [(100, 108)] [108] (LayOk.cons (j := 107) (encL true (encSDNode true)) (encL false (encSDNode false)) ([r6, r46, r47, r12] : List LD) (by kernel_rfl) (share_encL _ (share_encSDNode _)) lO) (.own _) (.cons (DeepR.map (fun _ => (.cons (.c _) (.cons (.c _) (.cons (.c _) (.cons (.sl _ _ (DeepR.map (fun _ => (.cons (.c _) .nil)) _)) .nil))))) _) .nil) (by kernel_rfl) (by kernel_rfl) (wR 1 109 (W.lend (ms_l15Over_ok N 4 4 [r48] hx57) cok156 [(100, 110)] [110] (LayOk.cons (j := 109) (encL true (encSDNode true)) (encL false (encSDNode false)) ([r48] : List LD) (by kernel_rfl) (share_encL _ (share_encSDNode _)) lO) (.own _) (.cons (DeepR.map (fun _ => (.cons (.c _) (.cons (.c _) (.cons (.c _) (.cons (.sl _ _ (DeepR.map (fun _ => (.cons (.c _) .nil)) _)) .nil))))) _) .nil) (by kernel_rfl) (by kernel_rfl) (wR 1 111 ?_))))))))
    refine W.lend (ms_l15Over_ok N 5 0 [r49] hx58) cok156 [(100, 112)] [112] (LayOk.cons (j := 111) (encL true (encSDNode true)) (encL false (encSDNode false)) ([r49] : List LD) (by kernel_rfl) (share_encL _ (share_encSDNode _)) lO) (.own _) (.cons (DeepR.map (fun _ => (.cons (.c _) (.cons (.c _) (.cons (.c _) (.cons (.sl _ _ (DeepR.map (fun _ => (.cons (.c _) .nil)) _)) .nil))))) _) .nil) (by kernel_rfl) (by kernel_rfl) (wR 1 113 (wF (CO.ret ?_)))
    cases h43
    exact eG [(112, 100)] (.inr rfl) (RetV.one rfl (oT (t := 6) (r := .own 112)))
   refine CO.skip (bB h43 fun r56 hx64 h43 => (bB h43 fun s57 hx65 h43 => (bB h43 fun s58 hx66 h43 => (bB h43 fun r59 hx67 h43 => (bB h43 fun r60 hx68 h43 => (CO.sw mix (wR 3 105 (w0 (ms_SpellOf_ok a1.Op hx64) cok121 ?_))))))))
   refine W.cat hx65 (by kernel_rfl) (W.cat hx66 (by kernel_rfl) (wC (ms_l15Text_ok s58 hx67) cok157 [] [(100, 105)] [105] (wR 2 106 (W.lend (ms_l15Over_ok N 6 0 [r6, r59, r12] hx68) cok156 [(100, 107)] [107] (LayOk.cons (j := 106) (encL true (encSDNode true)) (encL false (encSDNode false)) ([r6, r59, r12] : List LD) (by kernel_rfl) (share_encL _ (share_encSDNode _)) lO) (.own _) (.cons (DeepR.map (fun _ => (.cons (.c _) (.cons (.c _) (.cons (.c _) (.cons (.sl _ _ (DeepR.map (fun _ => (.cons (.c _) .nil)) _)) .nil))))) _) .nil) (by kernel_rfl) (by kernel_rfl) (wR 1 108 (wF (CO.ret ?_)))))))
   cases h43
   exact eG [(107, 100)] (.inr rfl) (RetV.one rfl (oT (t := 6) (r := .own 107)))
 intro hk69
 refine cV 105 ?_
 refine cI h (fun _ h => ?_) (fun _ h => ?_)
 ·exact sK hk69 (a1, r6, r12, (a1.Op == 45)) h [(101, 100), (103, 101), (104, 102)] [4, 7, 8, 36]
 exact cK 105 hk69 (a1, r6, r12, (a1.Op == 44)) h [(101, 100), (103, 101), (104, 102)] [4, 7, 8, 36]

theorem ms_l18Lvalue_F_ok (N : Nat) (R : Rec3) (HR : RecOk3 R) (a0 : SL10W) (a1 : Int) {r : LD} (h : ms_l18Lvalue_F N R a0 a1 = some r) :
    AC Tryz.prog (GS []) 168 [.agg [.sl false false (a0.l.map (eSN false)), V.b a0.full], V.i a1] [] (.own 100) [(100, .vec false 121 4 (r.map (encSDNode true)))] := by
 rw [ms_l18Lvalue_F] at h
 refine AC.enter Tryz.func168 rfl (cV 100 (bB h fun r2 hx2 h => (CO.sw mix (wR 3 101 (wC (HR.ms_l18Node a0 a1 (⟨14, false, false, false, false⟩ : SPos) _ hx2) cok155 [] [(100, 101)] [101] (wR 1 102 (wF (CO.ret ?_))))))))
 cases h
 exact eG [(101, 100)] (.inr rfl) (RetV.one rfl (oT (t := 4) (r := .own 101)))

theorem ms_l18List_F_ok (N : Nat) (R : Rec3) (HR : RecOk3 R) (a0 : SL10W) (a1 : List Int) (a2 : SPos) {r : LD} (h : ms_l18List_F N R a0 a1 a2 = some r) :
    AC Tryz.prog (GS []) 172 [.agg [.sl false false (a0.l.map (eSN false)), V.b a0.full], sL eNI a1, .agg [V.i a2.Level, V.b a2.Dollar, V.b a2.NoIn, V.b a2.NoGt, V.b a2.NoSign]] [] (.own 100) [(100, .vec false 121 4 (r.map (encSDNode true)))] := by
 rw [ms_l18List_F] at h
 refine AC.enter Tryz.func172 rfl (cV 100 (cV 102 (CO.seq' (cV 103 (CO.block' (CO.loopJ (fun (⟨a1, a0, a2, y105, y106⟩ : ((List Int) × SL10W × SPos × Int × (List LD))) => ⟨tl 39 [(1, sL eNI a1), (3, .loc 100 0), (5, .loc 101 0), (7, .own 102), (8, V.i y105)], [(100, .cells 126 [.sl false false (a0.l.map (eSN false)), V.b a0.full]), (101, .cells 93 [V.i a2.Level, V.b a2.Dollar, V.b a2.NoIn, V.b a2.NoGt, V.b a2.NoSign]), (102, .vec false 103 1 (y106.map (encL true (encSDNode true))))]⟩) (fun n i => ms_l18List_l1 N R n i = some r) (n0 := N) (i0 := (a1, a0, a2, 0, [])) (wS [(100, 100), (101, 101), (102, 102)] [1, 3, 5, 7, 8]) h (fun i h => by simp [ms_l18List_l1] at h) ?_))))))
 rintro n1 ⟨a1, a0, a2, y105, y106⟩ h169 ih170
 rw [ms_l18List_l1] at h169
 refine CO.seq' (CO.sw mix (wR 2 173 (wN eNI a1 [] (wR 1 173 (wF ?_)))))
 refine cI h169 (fun _ h169 => ?_) (fun _ h169 => ?_)
 ·refine CO.skip (CO.seq' (CO.block' ?_))
  refine CO.join (fun (⟨a1, y105, a0, a2, y172⟩ : ((List Int) × Int × SL10W × SPos × (List LD))) => ⟨tl 39 [(1, sL eNI a1), (3, .loc 100 0), (5, .loc 101 0), (7, .own 102), (8, V.i y105)], [(100, .cells 126 [.sl false false (a0.l.map (eSN false)), V.b a0.full]), (101, .cells 93 [V.i a2.Level, V.b a2.Dollar, V.b a2.NoIn, V.b a2.NoGt, V.b a2.NoSign]), (102, .vec false 103 1 (y172.map (encL true (encSDNode true))))]⟩) (fun i => ms_l18List_k2 N R (ms_l18List_l1 N R n1) i = some r) ?_ ?_
  · rintro ⟨a1, y105, a0, a2, y172⟩ h202
    rw [ms_l18List_k2] at h202
    refine bB h202 fun e176 hx206 h202 => (bB h202 fun r177 hx207 h202 => (bB h202 fun x178 hx208 h202 => ?_))
    refine CO.endR (tl 39 [(1, sL eNI a1), (3, .loc 100 0), (5, .loc 101 0), (7, .own 179), (8, V.i y105)]) [(179, .vec false 103 1 (x178.map (encL true (encSDNode true)))), (100, .cells 126 [.sl false false (a0.l.map (eSN false)), V.b a0.full]), (101, .cells 93 [V.i a2.Level, V.b a2.Dollar, V.b a2.NoIn, V.b a2.NoGt, V.b a2.NoSign])] mix (by
     refine wR 4 177 (wX eNI hx206 1 (wR 2 177 (wC (HR.ms_l18At a0 e176 a2 _ hx207) cok143 [] [(100, 177)] [177] (wR 1 178 (W.appO Dk (encL true (encSDNode true)) (a := 102) (c := 178) (el := 103) (sz := 1) 24 hx208 rfl 179 (by kernel_rfl) (wR 1 180 ?_))))))
     exact fI
     ) (fun st hw => ?_)
    refine CO.weak hw ?_
    exact cK 180 ih170 (a1, a0, a2, (wr (y105 + 1)), x178) h202 [(100, 100), (101, 101), (179, 102)] [1, 3, 5, 7, 8]
  intro hk209
  refine cV 173 ?_
  refine cI h169 (fun _ h169 => ?_) (fun _ h169 => ?_)
  ·refine bB h169 fun r182 hx214 h169 => (bB h169 fun r183 hx215 h169 => (bB h169 fun x184 hx216 h169 => (CO.w mix (wR 1 173 (wC (ms_l15Text_ok [44] hx214) cok157 [] [(100, 173)] [173] (wC (ms_l15Line_ok  hx215) cok184 [] [(100, 174)] [174] (wR 1 175 (W.appO Dk (encL true (encSDNode true)) (a := 102) (c := 175) (el := 103) (sz := 1) 24 hx216 rfl 176 (by kernel_rfl) ?_))))))))
   refine wR 1 177 ?_
   exact wK hk209 (a1, y105, a0, a2, x184) h169 [(100, 100), (101, 101), (176, 102)] [1, 3, 5, 7, 8]
  exact sK hk209 (a1, y105, a0, a2, y106) h169 [(100, 100), (101, 101), (102, 102)] [1, 3, 5, 7, 8]
 refine CO.exit (bB h169 fun r188 hx220 h169 => (bB h169 fun r189 hx221 h169 => (bB h169 fun r190 hx222 h169 => (CO.sw mix (wR 1 173 (W.lend (ms_l15Over_ok N 6 0 y106 hx220) cok156 [(100, 173)] [173] (LayOk.cons (j := 102) (encL true (encSDNode true)) (encL false (encSDNode false)) y106 (by kernel_rfl) (share_encL _ (share_encSDNode _)) lO) (.own _) (.cons (DeepR.map (fun _ => (.cons (.c _) (.cons (.c _) (.cons (.c _) (.cons (.sl _ _ (DeepR.map (fun _ => (.cons (.c _) .nil)) _)) .nil))))) _) .nil) (by kernel_rfl) (by kernel_rfl) (wR 1 174 (W.lend (ms_l15Over_ok N 4 4 [r188] hx221) cok156 [(100, 175)] [175] (LayOk.cons (j := 174) (encL true (encSDNode true)) (encL false (encSDNode false)) ([r188] : List LD) (by kernel_rfl) (share_encL _ (share_encSDNode _)) lO) (.own _) (.cons (DeepR.map (fun _ => (.cons (.c _) (.cons (.c _) (.cons (.c _) (.cons (.sl _ _ (DeepR.map (fun _ => (.cons (.c _) .nil)) _)) .nil))))) _) .nil) (by kernel_rfl) (by kernel_rfl) ?_))))))))
 refine wR 1 176 (W.lend (ms_l15Over_ok N 5 0 [r189] hx222) cok156 [(100, 177)] [177] (LayOk.cons (j := 176) (encL true (encSDNode true)) (encL false (encSDNode false)) ([r189] : List LD) (by kernel_rfl) (share_encL _ (share_encSDNode _)) lO) (.own _) (.cons (DeepR.map (fun _ => (.cons (.c _) (.cons (.c _) (.cons (.c _) (.cons (.sl _ _ (DeepR.map (fun _ => (.cons (.c _) .nil)) _)) .nil))))) _) .nil) (by kernel_rfl) (by kernel_rfl) (wR 1 178 (wF (CO.ret ?_))))
 cases h169
 exact eG [(177, 100)] (.inr rfl) (RetV.one rfl (oT (t := 6) (r := .own 177)))

theorem ms_l18Named_F_ok (N : Nat) (R : Rec3) (HR : RecOk3 R) (a0 : SL10W) (a1 : SNode) (a2 : LU) (a3 : LU) {r : LD} (h : ms_l18Named_F N R a0 a1 a2 a3 = some r) :
    AC Tryz.prog (GS []) 167 [.agg [.sl false false (a0.l.map (eSN false)), V.b a0.full], .agg [V.i a1.Kind, V.i a1.Op, V.s a1.Text, V.s a1.Other, sL eNI a1.Kids], V.s a2, V.s a3] [] (.own 100) [(100, .vec false 121 4 (r.map (encSDNode true)))] := by
 rw [ms_l18Named_F] at h
 refine AC.enter Tryz.func167 rfl (cV 100 (bB h fun s7 hx7 h => (bB h fun r8 hx8 h => (bB h fun r9 hx9 h => (bB h fun r10 hx10 h => (bB h fun r11 hx11 h => (bB h fun r12 hx12 h => (CO.sw mix ?_))))))))
 refine wR 3 102 (W.cat hx7 (by kernel_rfl) (wC (ms_l15Text_ok s7 hx8) cok157 [] [(100, 102)] [102] (wR 3 103 (w0 (ms_Top_ok  hx9) cok111 (wC (HR.ms_l18List a0 a1.Kids r9 _ hx10) cok172 [] [(100, 103)] [103] (wR 1 104 (wC (ms_l15Text_ok a3 hx11) cok157 [] [(100, 104)] [104] (wR 1 105 ?_))))))))
 refine W.lend (ms_l15Over_ok N 6 0 [r8, r10, r11] hx12) cok156 [(100, 106)] [106] (LayOk.cons (j := 105) (encL true (encSDNode true)) (encL false (encSDNode false)) ([r8, r10, r11] : List LD) (by kernel_rfl) (share_encL _ (share_encSDNode _)) lO) (.own _) (.cons (DeepR.map (fun _ => (.cons (.c _) (.cons (.c _) (.cons (.c _) (.cons (.sl _ _ (DeepR.map (fun _ => (.cons (.c _) .nil)) _)) .nil))))) _) .nil) (by kernel_rfl) (by kernel_rfl) (wR 1 107 (wF (CO.ret ?_)))
 cases h
 exact eG [(106, 100)] (.inr rfl) (RetV.one rfl (oT (t := 8) (r := .own 106)))

theorem ms_l18Node_F_ok (N : Nat) (R : Rec3) (HR : RecOk3 R) (a0 : SL10W) (a1 : Int) (a2 : SPos) {r : LD} (h : ms_l18Node_F N R a0 a1 a2 = some r) :
    AC Tryz.prog (GS []) 155 [.agg [.sl false false (a0.l.map (eSN false)), V.b a0.full], V.i a1, .agg [V.i a2.Level, V.b a2.Dollar, V.b a2.NoIn, V.b a2.NoGt, V.b a2.NoSign]] [] (.own 100) [(100, .vec false 121 4 (r.map (encSDNode true)))] := by
 rw [ms_l18Node_F] at h
 refine AC.enter Tryz.func155 rfl (cV 100 (bB h fun e2 hx2 h => (CO.sw mix (wR 3 102 (wX (eSN false) hx2 5 (wR 3 102 (wF (bB h fun r4 hx4 h => ?_))))))))
 refine cC 1 103 (ms_l10Leaf_ok e2 hx4) cok166 (CO.seq' (cV 104 ?_))
 refine cI h (fun _ h => ?_) (fun _ h => ?_)
 ·refine bB h fun r8 hx10 h => (CO.sw mix (wR 2 104 (wC (ms_l15Text_ok r4.Text hx10) cok157 [] [(100, 104)] [104] (wR 1 105 (wF (CO.ret ?_))))))
  cases h
  exact eG [(104, 100)] (.inr rfl) (RetV.one rfl (oT (t := 6) (r := .own 104)))
 refine CO.skip (CO.seq' (cV 104 (CO.block' (cV 104 ?_))))
 refine cI h (fun _ h => ?_) (fun _ h => ?_)
 ·refine bB h fun r166 hx186 h => (CO.sw mix (wR 2 104 (wC (HR.ms_l18Named a0 e2 [91] [93] _ hx186) cok167 [] [(100, 104)] [104] (wR 1 105 (wF (CO.ret ?_))))))
  cases h
  exact eG [(104, 100)] (.inr rfl) (RetV.one rfl (oT (t := 6) (r := .own 104)))
 refine CO.join (fun (⟨e2, a0, a2, y167⟩ : (SNode × SL10W × SPos × Bool)) => ⟨tl 208 [(3, .loc 100 0), (5, .loc 101 0), (7, .loc 102 0), (24, V.i e2.Kind), (30, V.b y167)], [(100, .cells 126 [.sl false false (a0.l.map (eSN false)), V.b a0.full]), (101, .cells 93 [V.i a2.Level, V.b a2.Dollar, V.b a2.NoIn, V.b a2.NoGt, V.b a2.NoSign]), (102, .cells 108 [V.i e2.Kind, V.i e2.Op, V.s e2.Text, V.s e2.Other, sL eNI e2.Kids])]⟩) (fun i => ms_l18Node_k1 N R i = some r) ?_ ?_
 · rintro ⟨e2, a0, a2, y167⟩ h188
   rw [ms_l18Node_k1] at h188
   refine cI h188 (fun _ h188 => ?_) (fun _ h188 => ?_)
   ·refine bB h188 fun r169 hx191 h188 => (CO.sw mix (wR 2 104 (wC (HR.ms_l18Named a0 e2 [40] [41] _ hx191) cok167 [] [(100, 104)] [104] (wR 1 105 (wF (CO.ret ?_))))))
    cases h188
    exact eG [(104, 100)] (.inr rfl) (RetV.one rfl (oT (t := 6) (r := .own 104)))
   refine cV 104 ?_
   refine cI h188 (fun _ h188 => ?_) (fun _ h188 => ?_)
   ·refine bB h188 fun r175 hx198 h188 => (bB h188 fun r176 hx199 h188 => (bB h188 fun e177 hx200 h188 => (bB h188 fun r178 hx201 h188 => (bB h188 fun r179 hx202 h188 => (CO.sw mix (wR 2 104 (w0 (ms_SpellOf_ok e2.Op hx198) cok121 (wC (ms_l15Text_ok r175 hx199) cok157 [] [(100, 104)] [104] ?_))))))))
    refine wR 3 105 (wX eNI hx200 1 (wR 1 105 (wC (HR.ms_l18Lvalue a0 e177 _ hx201) cok168 [] [(100, 105)] [105] (wR 1 106 (W.lend (ms_l15Over_ok N 6 0 [r176, r178] hx202) cok156 [(100, 107)] [107] (LayOk.cons (j := 106) (encL true (encSDNode true)) (encL false (encSDNode false)) ([r176, r178] : List LD) (by kernel_rfl) (share_encL _ (share_encSDNode _)) lO) (.own _) (.cons (DeepR.map (fun _ => (.cons (.c _) (.cons (.c _) (.cons (.c _) (.cons (.sl _ _ (DeepR.map (fun _ => (.cons (.c _) .nil)) _)) .nil))))) _) .nil) (by kernel_rfl) (by kernel_rfl) (wR 1 108 (wF (CO.ret ?_))))))))
    cases h188
    exact eG [(107, 100)] (.inr rfl) (RetV.one rfl (oT (t := 6) (r := .own 107)))
   refine cV 104 ?_
   refine cI h188 (fun _ h188 => ?_) (fun _ h188 => ?_)
   ·refine bB h188 fun e185 hx209 h188 => (bB h188 fun r186 hx210 h188 => (bB h188 fun r187 hx211 h188 => (bB h188 fun r188 hx212 h188 => (bB h188 fun r189 hx213 h188 => (CO.sw mix (wR 3 104 (wX eNI hx209 1 (wR 1 104 ?_))))))))
    refine wC (HR.ms_l18Lvalue a0 e185 _ hx210) cok168 [] [(100, 104)] [104] (wR 2 105 (w0 (ms_SpellOf_ok e2.Op hx211) cok121 (wC (ms_l15Text_ok r187 hx212) cok157 [] [(100, 105)] [105] (wR 1 106 (W.lend (ms_l15Over_ok N 6 0 [r186, r188] hx213) cok156 [(100, 107)] [107] (LayOk.cons (j := 106) (encL true (encSDNode true)) (encL false (encSDNode false)) ([r186, r188] : List LD) (by kernel_rfl) (share_encL _ (share_encSDNode _)) lO) (.own _) (.cons (DeepR.map (fun _ => (.cons (.c _) (.cons (.c _) (.cons (.c _) (.cons (.sl _ _ (DeepR.map (fun _ => (.cons (.c _) .nil)) _)) .nil))))) _) .nil) (by kernel_rfl) (by kernel_rfl) (wR 1 108 (wF (CO.ret ?_))))))))
    cases h188
    exact eG [(107, 100)] (.inr rfl) (RetV.one rfl (oT (t := 6) (r := .own 107)))
   refine cV 104 ?_
   refine cI h188 (fun _ h188 => ?_) (fun _ h188 => ?_)
   ·refine bB h188 fun r195 hx220 h188 => (bB h188 fun e196 hx221 h188 => (bB h188 fun r197 hx222 h188 => (bB h188 fun r198 hx223 h188 => (bB h188 fun r199 hx224 h188 => (CO.sw mix (wC (ms_l15Text_ok [36] hx220) cok157 [] [(100, 104)] [104] (wR 3 105 (wX eNI hx221 1 ?_))))))))
    refine wR 3 105 (w0 (ms_KidPos_ok e2 0 a2 hx222) cok169 (wC (HR.ms_l18At a0 e196 r197 _ hx223) cok143 [] [(100, 105)] [105] (wR 1 106 (W.lend (ms_l15Over_ok N 6 0 [r195, r198] hx224) cok156 [(100, 107)] [107] (LayOk.cons (j := 106) (encL true (encSDNode true)) (encL false (encSDNode false)) ([r195, r198] : List LD) (by kernel_rfl) (share_encL _ (share_encSDNode _)) lO) (.own _) (.cons (DeepR.map (fun _ => (.cons (.c _) (.cons (.c _) (.cons (.c _) (.cons (.sl _ _ (DeepR.map (fun _ => (.cons (.c _) .nil)) _)) .nil))))) _) .nil) (by kernel_rfl) (by kernel_rfl) (wR 1 108 (wF (CO.ret ?_)))))))
    cases h188
    exact eG [(107, 100)] (.inr rfl) (RetV.one rfl (oT (t := 6) (r := .own 107)))
   refine cV 104 ?_
   refine cI h188 (fun _ h188 => ?_) (fun _ h188 => ?_)
   ·refine bB h188 fun e210 hx236 h188 => (bB h188 fun r211 hx237 h188 => (bB h188 fun r212 hx238 h188 => (bB h188 fun s213 hx239 h188 => (bB h188 fun s214 hx240 h188 => (bB h188 fun r215 hx241 h188 => (bB h188 fun e216 hx242 h188 => (bB h188 fun r217 hx243 h188 => (bB h188 fun r218 hx244 h188 => ?_))))))))
    refine bB h188 fun r219 hx245 h188 => (CO.sw mix (wR 3 104 (wX eNI hx236 1 (wR 1 104 (wC (HR.ms_l18Lvalue a0 e210 _ hx237) cok168 [] [(100, 104)] [104] (wR 2 105 (w0 (ms_SpellOf_ok e2.Op hx238) cok121 (W.cat hx239 (by kernel_rfl) ?_))))))))
    refine W.cat hx240 (by kernel_rfl) (wC (ms_l15Text_ok s214 hx241) cok157 [] [(100, 105)] [105] (wR 3 106 (wX eNI hx242 1 (wR 3 106 (w0 (ms_KidPos_ok e2 1 a2 hx243) cok169 (wC (HR.ms_l18At a0 e216 r217 _ hx244) cok143 [] [(100, 106)] [106] (wR 1 107 (W.lend (ms_l15Over_ok N 6 0 [r211, r215, r218] hx245) cok156 [(100, 108)] [108] (LayOk.cons (j := 107) (encL true (encSDNode true)) (encL false (encSDNode false)) ([r211, r215, r218] : List LD) (by kernel_rfl) (share_encL _ (share_encSDNode _)) lO) (.own _) (.cons (DeepR.map (fun _ => (.cons (.c _) (.cons (.c _) (.cons (.c _) (.cons (.sl _ _ (DeepR.map (fun _ => (.cons (.c _) .nil)) _)) .nil))))) _) .nil) (by kernel_rfl) (by kernel_rfl) ?_))))))))
    refine wR 1 109 (wF (CO.ret ?_))
    cases h188
    exact eG [(108, 100)] (.inr rfl) (RetV.one rfl (oT (t := 6) (r := .own 108)))
   refine cV 104 ?_
   refine cI h188 (fun _ h188 => ?_) (fun _ h188 => ?_)
   ·refine bB h188 fun r221 hx248 h188 => (cC 2 104 (ms_SpellOf_ok e2.Op hx248) cok121 ?_)
    refine CO.join (fun (⟨a0, a2, e2, y236⟩ : (SL10W × SPos × SNode × LU)) => ⟨tl 208 [(3, .loc 100 0), (5, .loc 101 0), (7, .loc 102 0), (9, V.s y236)], [(100, .cells 126 [.sl false false (a0.l.map (eSN false)), V.b a0.full]), (101, .cells 93 [V.i a2.Level, V.b a2.Dollar, V.b a2.NoIn, V.b a2.NoGt, V.b a2.NoSign]), (102, .cells 108 [V.i e2.Kind, V.i e2.Op, V.s e2.Text, V.s e2.Other, sL eNI e2.Kids])]⟩) (fun i => ms_l18Node_k2 N R i = some r) ?_ ?_
    · rintro ⟨a0, a2, e2, y236⟩ h264
      rw [ms_l18Node_k2] at h264
      refine bB h264 fun r242 hx270 h264 => (bB h264 fun e243 hx271 h264 => (bB h264 fun r244 hx272 h264 => (bB h264 fun r245 hx273 h264 => (bB h264 fun r246 hx274 h264 => (CO.sw mix (wR 1 105 (wC (ms_l15Text_ok y236 hx270) cok157 [] [(100, 105)] [105] (wR 3 106 ?_))))))))
      refine wX eNI hx271 1 (wR 3 106 (w0 (ms_KidPos_ok e2 0 a2 hx272) cok169 (wC (HR.ms_l18At a0 e243 r244 _ hx273) cok143 [] [(100, 106)] [106] (wR 1 107 (W.lend (ms_l15Over_ok N 6 0 [r242, r245] hx274) cok156 [(100, 108)] [108] (LayOk.cons (j := 107) (encL true (encSDNode true)) (encL false (encSDNode false)) ([r242, r245] : List LD) (by kernel_rfl) (share_encL _ (share_encSDNode _)) lO) (.own _) (.cons (DeepR.map (fun _ => (.cons (.c _) (.cons (.c _) (.cons (.c _) (.cons (.sl _ _ (DeepR.map (fun _ => (.cons (.c _) .nil)) _)) .nil))))) _) .nil) (by kernel_rfl) (by kernel_rfl) (wR 1 109 (wF (CO.ret ?_))))))))
      cases h264
      exact eG [(108, 100)] (.inr rfl) (RetV.one rfl (oT (t := 6) (r := .own 108)))
    intro hk275
    refine bB h188 fun r253 hx282 h188 => (bB h188 fun e254 hx283 h188 => (bB h188 fun r255 hx284 h188 => (bB h188 fun r256 hx285 h188 => (bB h188 fun e257 hx286 h188 => (bB h188 fun r258 hx287 h188 => (CO.sw mix (wR 2 104 (w0 (ms_l10Tok_ok e2.Op hx282) cok170 ?_))))))))
    refine wR 3 104 (wX eNI hx283 1 (wR 3 104 (w0 (ms_KidPos_ok e2 0 a2 hx284) cok169 (wC (ms_l10At_ok N a0 e254 r255 hx285) cok171 [] [(100, 104)] [104] (W.ixO Dk eTk hx286 104 3 (by kernel_rfl) (W.ldO Dk eTk hx286 36 104 0 (.agg [V.i e257.Kind, V.s e257.Text, V.i e257.At]) (by kernel_rfl) (by kernel_rfl) (w0 (ms_NeedsGap_ok N r253 e257 hx287) cok96 (wF ?_))))))))
    refine cI h188 (fun _ h188 => ?_) (fun _ h188 => ?_)
    ·refine bB h188 fun s260 hx290 h188 => (CO.w mix (wR 1 105 (W.cat hx290 (by kernel_rfl) (wR 1 105 ?_))))
     exact wK hk275 (a0, a2, e2, s260) h188 [(100, 100), (101, 101), (102, 102)] [3, 5, 7, 9]
    exact sK hk275 (a0, a2, e2, r221) h188 [(100, 100), (101, 101), (102, 102)] [3, 5, 7, 9]
   refine cV 104 ?_
   refine cI h188 (fun _ h188 => ?_) (fun _ h188 => ?_)
   ·refine bB h188 fun e273 hx304 h188 => (bB h188 fun r274 hx305 h188 => (bB h188 fun r275 hx306 h188 => (bB h188 fun r276 hx307 h188 => (bB h188 fun e277 hx308 h188 => (bB h188 fun r278 hx309 h188 => (bB h188 fun r279 hx310 h188 => (bB h188 fun r280 hx311 h188 => (bB h188 fun e281 hx312 h188 => ?_))))))))
    refine bB h188 fun r282 hx313 h188 => (bB h188 fun r283 hx314 h188 => (bB h188 fun r284 hx315 h188 => (CO.sw mix (wR 3 104 (wX eNI hx304 1 (wR 3 104 (w0 (ms_KidPos_ok e2 0 a2 hx305) cok169 (wC (HR.ms_l18At a0 e273 r274 _ hx306) cok143 [] [(100, 104)] [104] ?_))))))))
    refine wC (ms_l15Text_ok [32, 63, 32] hx307) cok157 [] [(100, 105)] [105] (wR 3 106 (wX eNI hx308 1 (wR 3 106 (w0 (ms_KidPos_ok e2 1 a2 hx309) cok169 (wC (HR.ms_l18At a0 e277 r278 _ hx310) cok143 [] [(100, 106)] [106] (wC (ms_l15Text_ok [32, 58, 32] hx311) cok157 [] [(100, 107)] [107] (wR 3 108 (wX eNI hx312 1 ?_))))))))
    refine wR 3 108 (w0 (ms_KidPos_ok e2 2 a2 hx313) cok169 (wC (HR.ms_l18At a0 e281 r282 _ hx314) cok143 [] [(100, 108)] [108] (wR 1 109 (W.lend (ms_l15Over_ok N 6 0 [r275, r276, r279, r280, r283] hx315) cok156 [(100, 110)] [110] (LayOk.cons (j := 109) (encL true (encSDNode true)) (encL false (encSDNode false)) ([r275, r276, r279, r280, r283] : List LD) (by kernel_rfl) (share_encL _ (share_encSDNode _)) lO) (.own _) (.cons (DeepR.map (fun _ => (.cons (.c _) (.cons (.c _) (.cons (.c _) (.cons (.sl _ _ (DeepR.map (fun _ => (.cons (.c _) .nil)) _)) .nil))))) _) .nil) (by kernel_rfl) (by kernel_rfl) (wR 1 111 (wF (CO.ret ?_)))))))
    cases h188
    exact eG [(110, 100)] (.inr rfl) (RetV.one rfl (oT (t := 6) (r := .own 110)))
   refine cV 104 ?_
   refine cI h188 (fun _ h188 => ?_) (fun _ h188 => ?_)
   ·refine CO.seq' (CO.sw mix (wR 2 104 (wN eNI e2.Kids [] (wR 1 104 (wF ?_)))))
    refine cI h188 (fun _ h188 => ?_) (fun _ h188 => ?_)
    ·refine bB h188 fun e303 hx337 h188 => (bB h188 fun r304 hx338 h188 => (bB h188 fun r305 hx339 h188 => (bB h188 fun s306 hx340 h188 => (bB h188 fun r307 hx341 h188 => (bB h188 fun r308 hx342 h188 => (CO.sw mix (wR 3 104 (wX eNI hx337 1 ?_))))))))
     refine wR 3 104 (w0 (ms_KidPos_ok e2 0 a2 hx338) cok169 (wC (HR.ms_l18At a0 e303 r304 _ hx339) cok143 [] [(100, 104)] [104] (wR 2 105 (W.cat hx340 (by kernel_rfl) (wC (ms_l15Text_ok s306 hx341) cok157 [] [(100, 105)] [105] (wR 1 106 (W.lend (ms_l15Over_ok N 6 0 [r305, r307] hx342) cok156 [(100, 107)] [107] (LayOk.cons (j := 106) (encL true (encSDNode true)) (encL false (encSDNode false)) ([r305, r307] : List LD) (by kernel_rfl) (share_encL _ (share_encSDNode _)) lO) (.own _) (.cons (DeepR.map (fun _ => (.cons (.c _) (.cons (.c _) (.cons (.c _) (.cons (.sl _ _ (DeepR.map (fun _ => (.cons (.c _) .nil)) _)) .nil))))) _) .nil) (by kernel_rfl) (by kernel_rfl) (wR 1 108 ?_))))))))
     refine wF (CO.ret ?_)
     cases h188
     exact eG [(107, 100)] (.inr rfl) (RetV.one rfl (oT (t := 6) (r := .own 107)))
    refine CO.skip (bB h188 fun r315 hx349 h188 => (bB h188 fun r316 hx350 h188 => (bB h188 fun r317 hx351 h188 => (bB h188 fun s318 hx352 h188 => (bB h188 fun r319 hx353 h188 => (bB h188 fun r320 hx354 h188 => (CO.sw mix (wC (ms_l15Text_ok [40] hx349) cok157 [] [(100, 104)] [104] ?_))))))))
    refine wR 3 105 (w0 (ms_Top_ok  hx350) cok111 (wC (HR.ms_l18List a0 e2.Kids r316 _ hx351) cok172 [] [(100, 105)] [105] (wR 2 106 (W.cat hx352 (by kernel_rfl) (wC (ms_l15Text_ok s318 hx353) cok157 [] [(100, 106)] [106] (wR 1 107 (W.lend (ms_l15Over_ok N 6 0 [r315, r317, r319] hx354) cok156 [(100, 108)] [108] (LayOk.cons (j := 107) (encL true (encSDNode true)) (encL false (encSDNode false)) ([r315, r317, r319] : List LD) (by kernel_rfl) (share_encL _ (share_encSDNode _)) lO) (.own _) (.cons (DeepR.map (fun _ => (.cons (.c _) (.cons (.c _) (.cons (.c _) (.cons (.sl _ _ (DeepR.map (fun _ => (.cons (.c _) .nil)) _)) .nil))))) _) .nil) (by kernel_rfl) (by kernel_rfl) (wR 1 109 ?_))))))))
    refine wF (CO.ret ?_)
    cases h188
    exact eG [(108, 100)] (.inr rfl) (RetV.one rfl (oT (t := 6) (r := .own 108)))
   refine CO.skip (bB h188 fun r322 hx356 h188 => (CO.sw mix (wR 3 104 (wC (HR.ms_l18Bin a0 e2 a2 _ hx356) cok173 [] [(100, 104)] [104] (wR 1 105 (wF (CO.ret ?_)))))))
   cases h188
   exact eG [(104, 100)] (.inr rfl) (RetV.one rfl (oT (t := 6) (r := .own 104)))
 intro hk357
 refine cV 104 ?_
 refine cI h (fun _ h => ?_) (fun _ h => ?_)
 ·exact sK hk357 (e2, a0, a2, (e2.Kind == 7)) h [(100, 100), (101, 101), (102, 102)] [3, 5, 7, 24, 30]
 exact cK 104 hk357 (e2, a0, a2, (e2.Kind == 8)) h [(100, 100), (101, 101), (102, 102)] [3, 5, 7, 24, 30]

theorem ms_l18At_F_ok (N : Nat) (R : Rec3) (HR : RecOk3 R) (a0 : SL10W) (a1 : Int) (a2 : SPos) {r : LD} (h : ms_l18At_F N R a0 a1 a2 = some r) :
    AC Tryz.prog (GS []) 143 [.agg [.sl false false (a0.l.map (eSN false)), V.b a0.full], V.i a1, .agg [V.i a2.Level, V.b a2.Dollar, V.b a2.NoIn, V.b a2.NoGt, V.b a2.NoSign]] [] (.own 100) [(100, .vec false 121 4 (r.map (encSDNode true)))] := by
 rw [ms_l18At_F] at h
 refine AC.enter Tryz.func143 rfl (cV 100 (CO.seq' (bB h fun e9 hx10 h => (bB h fun r10 hx11 h => (CO.sw mix (wR 3 102 (wX (eSN false) hx10 5 (wR 2 102 ?_))))))))
 refine w0 (ms_Fits_ok e9 a2 hx11) cok154 (wF ?_)
 refine cI h (fun _ h => ?_) (fun _ h => ?_)
 ·refine bB h fun r12 hx14 h => (CO.sw mix (wR 3 102 (wC (HR.ms_l18Node a0 a1 a2 _ hx14) cok155 [] [(100, 102)] [102] (wR 1 103 (wF (CO.ret ?_))))))
  cases h
  exact eG [(102, 100)] (.inr rfl) (RetV.one rfl (oT (t := 6) (r := .own 102)))
 refine CO.skip (bB h fun r18 hx20 h => (bB h fun r19 hx21 h => (bB h fun r20 hx22 h => (bB h fun r21 hx23 h => (bB h fun r22 hx24 h => (CO.sw mix (wC (ms_l15Text_ok [40] hx20) cok157 [] [(100, 102)] [102] (wR 2 103 ?_))))))))
 refine w0 (ms_Top_ok  hx21) cok111 (wC (HR.ms_l18Node a0 a1 r19 _ hx22) cok155 [] [(100, 103)] [103] (wC (ms_l15Text_ok [41] hx23) cok157 [] [(100, 104)] [104] (wR 1 105 (W.lend (ms_l15Over_ok N 6 0 [r18, r20, r21] hx24) cok156 [(100, 106)] [106] (LayOk.cons (j := 105) (encL true (encSDNode true)) (encL false (encSDNode false)) ([r18, r20, r21] : List LD) (by kernel_rfl) (share_encL _ (share_encSDNode _)) lO) (.own _) (.cons (DeepR.map (fun _ => (.cons (.c _) (.cons (.c _) (.cons (.c _) (.cons (.sl _ _ (DeepR.map (fun _ => (.cons (.c _) .nil)) _)) .nil))))) _) .nil) (by kernel_rfl) (by kernel_rfl) (wR 1 107 (wF (CO.ret ?_)))))))
 cases h
 exact eG [(106, 100)] (.inr rfl) (RetV.one rfl (oT (t := 6) (r := .own 106)))

theorem scc3_ok : ∀ N, RecOk3 (scc3 N)
 | 0 => ⟨fun _ _ _ _ h => (by cases h), fun _ _ _ h => (by cases h), fun _ _ _ _ h => (by cases h), fun _ _ _ _ _ h => (by cases h), fun _ _ _ _ h => (by cases h), fun _ _ _ _ h => (by cases h)⟩
 | N + 1 => ⟨fun a0 a1 a2 _ h => ms_l18Bin_F_ok N (scc3 N) (scc3_ok N) a0 a1 a2 h, fun a0 a1 _ h => ms_l18Lvalue_F_ok N (scc3 N) (scc3_ok N) a0 a1 h, fun a0 a1 a2 _ h => ms_l18List_F_ok N (scc3 N) (scc3_ok N) a0 a1 a2 h, fun a0 a1 a2 a3 _ h => ms_l18Named_F_ok N (scc3 N) (scc3_ok N) a0 a1 a2 a3 h, fun a0 a1 a2 _ h => ms_l18Node_F_ok N (scc3 N) (scc3_ok N) a0 a1 a2 h, fun a0 a1 a2 _ h => ms_l18At_F_ok N (scc3 N) (scc3_ok N) a0 a1 a2 h⟩

theorem ms_l18At_ok (N : Nat) (a0 : SL10W) (a1 : Int) (a2 : SPos) {r : LD} (h : ms_l18At N a0 a1 a2 = some r) :
  AC Tryz.prog (GS []) 143 [.agg [.sl false false (a0.l.map (eSN false)), V.b a0.full], V.i a1, .agg [V.i a2.Level, V.b a2.Dollar, V.b a2.NoIn, V.b a2.NoGt, V.b a2.NoSign]] [] (.own 100) [(100, .vec false 121 4 (r.map (encSDNode true)))] :=
 (scc3_ok N).ms_l18At a0 a1 a2 r h

theorem ms_ExprDoc_ok (N : Nat) (a0 : LN) (a1 : SPos) {r : LD} (h : ms_ExprDoc N a0 a1 = some r) :
    AC Tryz.prog (GS []) 128 [.sl false false (a0.map (eSN false)), .agg [V.i a1.Level, V.b a1.Dollar, V.b a1.NoIn, V.b a1.NoGt, V.b a1.NoSign]] [] (.own 100) [(100, .vec false 121 4 (r.map (encSDNode true)))] := by
 rw [ms_ExprDoc] at h
 refine AC.enter Tryz.func128 rfl (cV 100 (CO.seq' (bB h fun y8 hv12 h => ?_)))
 refine CO.cutR (tl 21 [(0, .sl false false (a0.map (eSN false))), (3, .loc 100 0), (12, V.b y8)]) [(100, .cells 93 [V.i a1.Level, V.b a1.Dollar, V.b a1.NoIn, V.b a1.NoGt, V.b a1.NoSign])] mix (by
  refine wR 1 101 (bB hv12 fun r9 hx13 hv12 => (w0 (ms_ExprOk_ok N a0 hx13) cok141 (wR 2 101 ?_)))
  refine wJ 8 hv12 (fun hv12 => ?_) (fun hv12 => ?_)
  ·refine wR 4 101 ?_
   cases hv12
   exact fS [(100, 100)] [0, 3, 12]
  refine wR 1 101 (bB hv12 fun r10 hx15 hv12 => (w0 (ms_PosOk_ok a1 hx15) cok142 (wR 2 101 ?_)))
  cases hv12
  exact fS [(100, 100)] [0, 3, 12]
  ) ?_
 refine cI h (fun _ h => ?_) (fun _ h => ?_)
 ·refine cV 101 (CO.ret ?_)
  cases h
  exact eG [(101, 100)] (.inr rfl) (RetV.one rfl (oT (t := 4) (r := .own 101)))
 refine CO.skip (bB h fun r12 hx18 h => (CO.sw mix (wR 3 101 (wN (eSN false) a0 [] (wR 2 101 (wC (ms_l18At_ok N (⟨a0, false⟩ : SL10W) (wr ((a0.length : Int) - 1)) a1 hx18) cok143 [] [(100, 101)] [101] (wR 1 102 (wF ?_))))))))
 refine CO.ret ?_
 cases h
 exact eG [(101, 100)] (.inr rfl) (RetV.one rfl (oT (t := 4) (r := .own 101)))

theorem ms_l15Node_ok (N : Nat) (a0 : SDNode) {r : Bool} (h : ms_l15Node N a0 = some r) :
    AC Tryz.prog (GS []) 150 [.agg [V.i a0.Kind, V.i a0.N, V.s a0.Text, sL eNI a0.Kids]] [] (V.b r) [] := by
 rw [ms_l15Node] at h
 refine AC.enter Tryz.func150 rfl (cV 100 (CO.seq' (bB h fun y2 hv15 h => ?_)))
 refine CO.cutR (tl 61 [(1, .loc 100 0), (20, V.b y2)]) [(100, .cells 121 [V.i a0.Kind, V.i a0.N, V.s a0.Text, sL eNI a0.Kids])] mix (by
  refine wR 4 101 ?_
  refine wJ 6 hv15 (fun hv15 => ?_) (fun hv15 => ?_)
  ·refine wR 5 101 ?_
   refine wJ 11 hv15 (fun hv15 => ?_) (fun hv15 => ?_)
   ·refine wR 9 101 ?_
    cases hv15
    exact fS [(100, 100)] [1, 20]
   refine wR 4 101 ?_
   refine wJ 15 hv15 (fun hv15 => ?_) (fun hv15 => ?_)
   ·refine wR 5 101 ?_
    cases hv15
    exact fS [(100, 100)] [1, 20]
   refine wR 5 101 ?_
   cases hv15
   exact fS [(100, 100)] [1, 20]
  refine wR 9 101 ?_
  refine wJ 15 hv15 (fun hv15 => ?_) (fun hv15 => ?_)
  ·refine wR 5 101 ?_
   cases hv15
   exact fS [(100, 100)] [1, 20]
  refine wR 5 101 ?_
  cases hv15
  exact fS [(100, 100)] [1, 20]
  ) ?_
 refine cI h (fun _ h => ?_) (fun _ h => ?_)
 ·refine cV 101 ?_
  cases h
  exact e1 2 id
 refine CO.skip (CO.seq' (cV 101 (CO.block' (cV 101 ?_))))
 refine cI h (fun _ h => ?_) (fun _ h => ?_)
 ·refine bB h fun y11 hv42 h => ?_
  refine CO.cutR (tl 61 [(2, V.b y11)]) [] mix (by
   refine wR 2 101 (bB hv42 fun r12 hx43 hv42 => (w0 (ms_l4Plain_ok N a0.Text hx43) cok160 (wR 1 101 ?_)))
   refine wJ 28 hv42 (fun hv42 => ?_) (fun hv42 => ?_)
   ·refine wR 2 101 (wN eNI a0.Kids [] (wR 3 101 ?_))
    cases hv42
    exact fS [] [2]
   refine wR 6 101 ?_
   cases hv42
   exact fS [] [2]
   ) ?_
  cases h
  exact e1 2 id
 refine CO.join (fun (⟨a0, y13⟩ : (SDNode × Bool)) => ⟨tl 61 [(1, .loc 100 0), (22, V.i a0.Kind), (34, V.b y13)], [(100, .cells 121 [V.i a0.Kind, V.i a0.N, V.s a0.Text, sL eNI a0.Kids])]⟩) (fun i => ms_l15Node_k1 N i = some r) ?_ ?_
 · rintro ⟨a0, y13⟩ h46
   rw [ms_l15Node_k1] at h46
   refine cI h46 (fun _ h46 => ?_) (fun _ h46 => ?_)
   ·refine CO.sw mix (wR 2 101 (wN eNI a0.Kids [] (wR 2 101 (wF ?_))))
    cases h46
    exact e1 2 id
   refine cV 101 ?_
   refine cI h46 (fun _ h46 => ?_) (fun _ h46 => ?_)
   ·refine bB h46 fun y15 hv51 h46 => ?_
    refine CO.cutR (tl 61 [(2, V.b y15)]) [] mix (by
     refine wR 2 101 (bB hv51 fun r16 hx52 hv51 => (w0 (ms_l1In_ok a0.N 0 40 hx52) cok27 (wR 1 101 ?_)))
     refine wJ 46 hv51 (fun hv51 => ?_) (fun hv51 => ?_)
     ·refine wR 2 101 (wN eNI a0.Kids [] (wR 3 101 ?_))
      cases hv51
      exact fS [] [2]
     refine wR 6 101 ?_
     cases hv51
     exact fS [] [2]
     ) ?_
    cases h46
    exact e1 2 id
   refine cV 101 ?_
   refine cI h46 (fun _ h46 => ?_) (fun _ h46 => ?_)
   ·refine CO.sw mix (wR 2 101 (wN eNI a0.Kids [] (wR 2 101 (wF ?_))))
    cases h46
    exact e1 2 id
   refine CO.skip (cV 101 ?_)
   cases h46
   exact e1 2 id
 intro hk55
 refine cV 101 ?_
 refine cI h (fun _ h => ?_) (fun _ h => ?_)
 ·exact sK hk55 (a0, (a0.Kind == 2)) h [(100, 100)] [1, 22, 34]
 exact cK 101 hk55 (a0, (a0.Kind == 3)) h [(100, 100)] [1, 22, 34]

theorem ms_l15Starts_ok (N : Nat) (a0 : LD) {r : ((List Int) × Bool)} (h : ms_l15Starts N a0 = some r) :
    AC Tryz.prog (GS []) 151 [.sl false false (a0.map (encSDNode false))] [] (.tup [.own 100, V.b r.2]) [(100, vX 3 1 eNI r.1)] := by
 rw [ms_l15Starts] at h
 refine AC.enter Tryz.func151 rfl (cV 100 (cV 100 (CO.seq' (cV 101 (CO.block' (CO.loopJ (fun (⟨a0, y917, y918⟩ : (LD × Int × (List Int))) => ⟨tl 53 [(0, .sl false false (a0.map (encSDNode false))), (4, .own 100), (5, V.i y917)], [(100, vX 3 1 eNI y918)]⟩) (fun n i => ms_l15Starts_l1 N n i = some r) (n0 := N) (i0 := (a0, 0, [])) (wS [(100, 100)] [0, 4, 5]) h (fun i h => by simp [ms_l15Starts_l1] at h) ?_))))))
 rintro n1 ⟨a0, y917, y918⟩ h1961 ih1962
 rw [ms_l15Starts_l1] at h1961
 refine CO.seq' (CO.sw mix (wR 2 245 (wN (encSDNode false) a0 [] (wR 1 245 (wF ?_)))))
 refine cI h1961 (fun _ h1961 => ?_) (fun _ h1961 => ?_)
 ·refine CO.skip (CO.seq' (CO.block' (cV 245 (CO.seq' (bB h1961 fun e1474 hx2322 h1961 => (CO.sw mix (wR 2 245 (wX (encSDNode false) hx2322 4 ?_))))))))
  refine wR 2 245 (wN eNI e1474.Kids [] (wR 2 245 (wF (CO.block' (CO.loopJ (fun (⟨a0, y917, y918, y1499, y1500⟩ : (LD × Int × (List Int) × Int × Int)) => ⟨tl 53 [(0, .sl false false (a0.map (encSDNode false))), (4, .own 100), (5, V.i y917), (6, V.i y1499), (7, V.i y1500)], [(100, vX 3 1 eNI y918)]⟩) (fun n i => ms_l15Starts_l2 N (ms_l15Starts_l1 N n1) n i = some r) (n0 := N) (i0 := (a0, y917, y918, y917, (wr ((e1474.Kids.length : Int) - 1)))) (wS [(100, 100)] [0, 4, 5, 6, 7]) h1961 (fun i h => by simp [ms_l15Starts_l2] at h) ?_)))))
  rintro n2 ⟨a0, y917, y918, y1499, y1500⟩ h2399 ih2400
  rw [ms_l15Starts_l2] at h2399
  refine CO.seq' (cV 305 ?_)
  refine cI h2399 (fun _ h2399 => ?_) (fun _ h2399 => ?_)
  ·refine CO.skip (CO.seq' (CO.block' (CO.seq' (bB h2399 fun y1546 hv2432 h2399 => ?_))))
   refine CO.cutR (tl 53 [(0, .sl false false (a0.map (encSDNode false))), (4, .own 100), (5, V.i y917), (6, V.i y1499), (7, V.i y1500), (41, V.b y1546)]) [(100, vX 3 1 eNI y918)] mix (by
    refine wR 2 305 (bB hv2432 fun e1547 hx2433 hv2432 => (wX (encSDNode false) hx2433 4 (wR 3 305 (bB hv2432 fun e1548 hx2434 hv2432 => (wX eNI hx2434 1 (wR 5 305 ?_))))))
    refine wJ 38 hv2432 (fun hv2432 => ?_) (fun hv2432 => ?_)
    ·refine wR 3 305 ?_
     cases hv2432
     exact fS [(100, 100)] [0, 4, 5, 6, 7, 41]
    refine wR 3 305 ?_
    cases hv2432
    exact fS [(100, 100)] [0, 4, 5, 6, 7, 41]
    ) ?_
   refine cI h2399 (fun _ h2399 => ?_) (fun _ h2399 => ?_)
   ·refine cV 305 (CO.ret ?_)
    cases h2399
    exact eG [(305, 100)] (.inr rfl) (RetV.two rfl (oT (t := 2) (r := .own 305)) (oT (t := 3) (r := V.b false)))
   refine CO.skip (bB h2399 fun e1550 hx2438 h2399 => ?_)
   refine CO.endR (tl 53 [(0, .sl false false (a0.map (encSDNode false))), (4, .own 100), (5, V.i y917), (6, V.i e1550), (7, V.i y1500)]) [(100, vX 3 1 eNI y918)] mix (by
    refine wR 3 305 (W.ixO Dk eNI hx2438 100 1 (by kernel_rfl) (W.ldO Dk eNI hx2438 3 100 0 (V.i e1550) (by kernel_rfl) (by kernel_rfl) (wR 1 305 ?_)))
    exact fI
    ) (fun st hw => ?_)
   refine CO.weak hw ?_
   exact cK 305 ih2400 (a0, y917, y918, e1550, (wr (y1500 - 1))) h2399 [(100, 100)] [0, 4, 5, 6, 7]
  refine CO.exit (bB h2399 fun x1552 hx2440 h2399 => ?_)
  refine CO.endR (tl 53 [(0, .sl false false (a0.map (encSDNode false))), (4, .own 306), (5, V.i y917)]) [(306, vX 3 1 eNI x1552)] mix (by
   refine wR 3 305 (W.appO Dk eNI (a := 100) (c := 305) (el := 3) (sz := 1) 8 hx2440 rfl 306 (by kernel_rfl) (wR 1 307 ?_))
   exact fI
   ) (fun st hw => ?_)
  refine CO.weak hw ?_
  exact cK 307 ih1962 (a0, (wr (y917 + 1)), x1552) h2399 [(306, 100)] [0, 4, 5]
 refine CO.exit (cV 245 (CO.ret ?_))
 cases h1961
 exact eG [(100, 100)] (.inr rfl) (RetV.two rfl (oT (t := 2) (r := .own 100)) (oT (t := 3) (r := V.b true)))

theorem ms_DocOk_ok (N : Nat) (a0 : LD) {r : Bool} (h : ms_DocOk N a0 = some r) :
    AC Tryz.prog (GS []) 140 [.sl false false (a0.map (encSDNode false))] [] (V.b r) [] := by
 rw [ms_DocOk] at h
 refine AC.enter Tryz.func140 rfl (cV 100 (CO.seq' (bB h fun r4 hx5 h => (CO.sw mix (wR 1 100 (wN (encSDNode false) a0 [] (w0 (ms_l1In_ok (a0.length : Int) 1 4000 hx5) cok27 (wR 1 100 ?_))))))))
 refine wF ?_
 refine cI h (fun _ h => ?_) (fun _ h => ?_)
 ·refine cV 100 ?_
  cases h
  exact e1 2 id
 refine CO.skip (CO.seq' (cV 100 (CO.block' (CO.loopJ (fun (⟨a0, y39⟩ : (LD × Int)) => ⟨tl 37 [(0, .sl false false (a0.map (encSDNode false))), (3, V.i y39)], []⟩) (fun n i => ms_DocOk_l1 N n i = some r) (n0 := N) (i0 := (a0, 0)) (wS [] [0, 3]) h (fun i h => by simp [ms_DocOk_l1] at h) ?_))))
 rintro n1 ⟨a0, y39⟩ h69 ih70
 rw [ms_DocOk_l1] at h69
 refine CO.seq' (CO.sw mix (wR 2 160 (wN (encSDNode false) a0 [] (wR 1 160 (wF ?_)))))
 refine cI h69 (fun _ h69 => ?_) (fun _ h69 => ?_)
 ·refine CO.skip (CO.seq' (CO.block' (bB h69 fun e55 hx80 h69 => (bB h69 fun r56 hx81 h69 => (CO.sw mix (wR 2 160 (wX (encSDNode false) hx80 4 (wR 1 160 ?_))))))))
  refine w0 (ms_l15Node_ok N e55 hx81) cok150 (wR 1 160 (wF ?_))
  refine cI h69 (fun _ h69 => ?_) (fun _ h69 => ?_)
  ·refine cV 160 ?_
   cases h69
   exact e1 2 id
  refine CO.skip ?_
  exact cK 160 ih70 (a0, (wr (y39 + 1))) h69 [] [0, 3]
 refine CO.exit (bB h69 fun r58 hx84 h69 => (CO.sw mix (wR 1 160 (wC (ms_l15Starts_ok N a0 hx84) cok151 [] [(100, 160)] [160] (wR 5 161 (wF (bB h69 fun y60 hv87 h69 => ?_)))))))
 refine CO.cutR (tl 37 [(2, V.b y60)]) [] mix (by
  refine wR 2 161 ?_
  refine wJ 28 hv87 (fun hv87 => ?_) (fun hv87 => ?_)
  ·refine wR 2 161 (wN (encSDNode false) a0 [] (wR 1 161 (bB hv87 fun e61 hx89 hv87 => (W.ixO Dk eNI hx89 160 1 (by kernel_rfl) (W.ldO Dk eNI hx89 3 160 0 (V.i e61) (by kernel_rfl) (by kernel_rfl) (wR 3 161 ?_))))))
   cases hv87
   exact fS [] [2]
  refine wR 9 161 ?_
  cases hv87
  exact fS [] [2]
  ) ?_
 cases h69
 exact e1 2 id

theorem ms_FlatText_ok (N : Nat) (a0 : LD) {r : (LU × Bool)} (h : ms_FlatText N a0 = some r) :
    AC Tryz.prog (GS []) 127 [.sl false false (a0.map (encSDNode false))] [] (.tup [V.s r.1, V.b r.2]) [] := by
 rw [ms_FlatText] at h
 refine AC.enter Tryz.func127 rfl (cV 100 (CO.seq' (bB h fun r4 hx5 h => (cC 1 100 (ms_DocOk_ok N a0 hx5) cok140 ?_))))
 refine cI h (fun _ h => ?_) (fun _ h => ?_)
 ·refine cV 100 (CO.ret ?_)
  cases h
  exact eG [] (.inr rfl) (RetV.two rfl (oT (t := 2) (r := V.s [])) (oT (t := 3) (r := V.b false)))
 refine CO.skip (cV 100 (CO.seq' (cV 101 (CO.block' (CO.loopJ (fun (⟨a0, y77, y78⟩ : (LD × Int × LU)) => ⟨tl 39 [(0, .sl false false (a0.map (encSDNode false))), (4, .own 100), (5, V.i y77)], [(100, vX 5 1 byteRow y78)]⟩) (fun n i => ms_FlatText_l1 N n i = some r) (n0 := N) (i0 := (a0, 0, [])) (wS [(100, 100)] [0, 4, 5]) h (fun i h => by simp [ms_FlatText_l1] at h) ?_)))))
 rintro n1 ⟨a0, y77, y78⟩ h139 ih140
 rw [ms_FlatText_l1] at h139
 refine CO.seq' (CO.sw mix (wR 2 165 (wN (encSDNode false) a0 [] (wR 1 165 (wF ?_)))))
 refine cI h139 (fun _ h139 => ?_) (fun _ h139 => ?_)
 ·refine CO.skip ?_
  refine CO.join (fun (⟨a0, y77, y106⟩ : (LD × Int × LU)) => ⟨tl 39 [(0, .sl false false (a0.map (encSDNode false))), (4, .own 100), (5, V.i y77)], [(100, vX 5 1 byteRow y106)]⟩) (fun i => ms_FlatText_k2 N (ms_FlatText_l1 N n1) i = some r) ?_ ?_
  · rintro ⟨a0, y77, y106⟩ h154
    rw [ms_FlatText_k2] at h154
    exact cK 167 ih140 (a0, (wr (y77 + 1)), y106) h154 [(100, 100)] [0, 4, 5]
  intro hk155
  refine CO.block' (bB h139 fun e108 hx157 h139 => (CO.sw mix (wR 2 165 (wX (encSDNode false) hx157 4 (wR 2 165 (wF (CO.block' (cV 165 ?_))))))))
  refine cI h139 (fun _ h139 => ?_) (fun _ h139 => ?_)
  ·refine bB h139 fun e111 hx161 h139 => (bB h139 fun x112 hx162 h139 => (CO.w mix (wR 3 165 (wX (encSDNode false) hx161 4 (wR 2 165 (W.appS Dk (a := 100) (el := 5) 1 hx162 rfl 165 (by kernel_rfl) (wR 1 166 ?_)))))))
   exact wK hk155 (a0, y77, x112) h139 [(165, 100)] [0, 4, 5]
  refine cV 165 ?_
  refine cI h139 (fun _ h139 => ?_) (fun _ h139 => ?_)
  ·refine bB h139 fun x114 hx165 h139 => (CO.w mix (wR 2 165 (W.appO Dk byteRow (a := 100) (c := 165) (el := 5) (sz := 1) 1 hx165 rfl 166 (by kernel_rfl) (wR 1 167 ?_))))
   exact wK hk155 (a0, y77, x114) h139 [(166, 100)] [0, 4, 5]
  refine cV 165 ?_
  refine cI h139 (fun _ h139 => ?_) (fun _ h139 => ?_)
  ·refine cV 165 (CO.ret ?_)
   cases h139
   exact eG [] (.inr rfl) (RetV.two rfl (oT (t := 2) (r := V.s [])) (oT (t := 3) (r := V.b false)))
  exact sK hk155 (a0, y77, y78) h139 [(100, 100)] [0, 4, 5]
 refine CO.exit (CO.sw mix (wR 1 165 (W.strO Dk y78 (a := 100) (by kernel_rfl) (wR 2 165 (wF (CO.ret ?_))))))
 have h139 := sI h139
 subst h139
 exact eG [] (.inr rfl) (RetV.two rfl (oT (t := 2) (r := V.s y78)) (oT (t := 3) (r := V.b true)))

theorem ms_ExprText_ok (N : Nat) (a0 : LN) (a1 : SPos) {r : LU} (h : ms_ExprText N a0 a1 = some r) :
    AC Tryz.prog (GS []) 109 [.sl false false (a0.map (eSN false)), .agg [V.i a1.Level, V.b a1.Dollar, V.b a1.NoIn, V.b a1.NoGt, V.b a1.NoSign]] [] (V.s r) [] := by
 rw [ms_ExprText] at h
 refine AC.enter Tryz.func109 rfl (cV 100 (bB h fun r3 hx3 h => (bB h fun r4 hx4 h => (CO.sw mix (wR 2 101 (wC (ms_ExprDoc_ok N a0 a1 hx3) cok128 [] [(100, 101)] [101] (W.lend (ms_FlatText_ok N r3 hx4) cok127 [] [] (LayOk.cons (j := 101) (encSDNode true) (encSDNode false) r3 (by kernel_rfl) (share_encSDNode _) lO) (.tup _ (.cons (.c _) (.cons (.c _) .nil))) .nil (by kernel_rfl) (by kernel_rfl) (wR 5 102 ?_))))))))
 refine wF (cV 102 ?_)
 cases h
 exact e1 4 id

end Go.Proofs.Tryz
