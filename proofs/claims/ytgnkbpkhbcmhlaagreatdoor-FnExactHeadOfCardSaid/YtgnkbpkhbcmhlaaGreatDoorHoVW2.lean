/-
 The walks that show that the code computes the models, part 2.
-/
import Derived.Test.YtgnkbpkhbcmhlaaGreatDoorHoVW1
namespace Go.Proofs.Tryz
open Go.Av
set_option maxRecDepth 100000
set_option maxHeartbeats 8000000
set_option linter.unusedSimpArgs false
set_option linter.unusedVariables false

theorem ms_l7Kid_ok (a0 : SNode) (a1 : Int) (a2 : Int) {r : Bool} (h : ms_l7Kid a0 a1 a2 = some r) :
    AC Tryz.prog (GS []) 70 [.agg [V.i a0.Kind, V.i a0.Op, V.s a0.Text, V.s a0.Other, sL eNI a0.Kids], V.i a1, V.i a2] [] (V.b r) [] := by
 rw [ms_l7Kid] at h
 refine AC.enter Tryz.func70 rfl (cV 100 (CO.sw mix (wR 3 101 (wN eNI a0.Kids [] (wR 3 101 (wF (cV 101 (CO.seq' ?_))))))))
 refine cV 101 (CO.block' ?_)
 refine CO.join (fun (⟨a1, a2, a0, y52⟩ : (Int × Int × SNode × Bool)) => ⟨tl 184 [(1, V.i a1), (2, V.i a2), (3, .loc 100 0), (7, V.b (a1 == (wr ((a0.Kids.length : Int) - 1)))), (8, V.b (a2 == 33)), (18, V.i a0.Kind), (19, V.b y52)], [(100, .cells 49 [V.i a0.Kind, V.i a0.Op, V.s a0.Text, V.s a0.Other, sL eNI a0.Kids])]⟩) (fun i => ms_l7Kid_k1 i = some r) ?_ ?_
 · rintro ⟨a1, a2, a0, y52⟩ h181
   rw [ms_l7Kid_k1] at h181
   refine cI h181 (fun _ h181 => ?_) (fun _ h181 => ?_)
   ·refine bB h181 fun r54 hx184 h181 => (cC 1 101 (ms_IsLvalue_ok a2 hx184) cok109 ?_)
    cases h181
    exact e1 6 id
   refine cV 101 ?_
   refine cI h181 (fun _ h181 => ?_) (fun _ h181 => ?_)
   ·refine bB h181 fun y57 hv190 h181 => ?_
    refine CO.cutR (tl 184 [(6, V.b y57)]) [] mix (by
     refine wR 1 101 (bB hv190 fun r58 hx191 hv190 => (w0 (ms_IsExpr_ok a2 hx191) cok48 (wR 1 101 ?_)))
     refine wJ 28 hv190 (fun hv190 => ?_) (fun hv190 => ?_)
     ·refine wR 3 101 ?_
      refine wJ 31 hv190 (fun hv190 => ?_) (fun hv190 => ?_)
      ·refine wR 5 101 ?_
       cases hv190
       exact fS [] [6]
      refine wR 1 101 (bB hv190 fun r59 hx194 hv190 => (w0 (ms_IsLvalue_ok a2 hx194) cok109 (wR 3 101 ?_)))
      cases hv190
      exact fS [] [6]
     refine wR 8 101 ?_
     cases hv190
     exact fS [] [6]
     ) ?_
    cases h181
    exact e1 6 id
   refine cV 101 ?_
   refine cI h181 (fun _ h181 => ?_) (fun _ h181 => ?_)
   ·refine bB h181 fun y61 hv201 h181 => ?_
    refine CO.cutR (tl 184 [(6, V.b y61)]) [] mix (by
     refine wR 3 101 ?_
     refine wJ 40 hv201 (fun hv201 => ?_) (fun hv201 => ?_)
     ·refine wR 1 101 (bB hv201 fun r62 hx203 hv201 => (w0 (ms_IsExpr_ok a2 hx203) cok48 (wR 2 101 ?_)))
      refine wJ 44 hv201 (fun hv201 => ?_) (fun hv201 => ?_)
      ·refine wR 7 101 ?_
       cases hv201
       exact fS [] [6]
      refine wR 3 101 ?_
      refine wJ 47 hv201 (fun hv201 => ?_) (fun hv201 => ?_)
      ·refine wR 4 101 ?_
       cases hv201
       exact fS [] [6]
      refine wR 4 101 ?_
      cases hv201
      exact fS [] [6]
     refine wR 7 101 ?_
     refine wJ 47 hv201 (fun hv201 => ?_) (fun hv201 => ?_)
     ·refine wR 4 101 ?_
      cases hv201
      exact fS [] [6]
     refine wR 4 101 ?_
     cases hv201
     exact fS [] [6]
     ) ?_
    cases h181
    exact e1 6 id
   refine cV 101 ?_
   refine cI h181 (fun _ h181 => ?_) (fun _ h181 => ?_)
   ·refine bB h181 fun y64 hv213 h181 => ?_
    refine CO.cutR (tl 184 [(6, V.b y64)]) [] mix (by
     refine wR 3 101 ?_
     refine wJ 55 hv213 (fun hv213 => ?_) (fun hv213 => ?_)
     ·refine wR 1 101 (bB hv213 fun r65 hx215 hv213 => (w0 (ms_IsExpr_ok a2 hx215) cok48 (wR 2 101 ?_)))
      refine wJ 59 hv213 (fun hv213 => ?_) (fun hv213 => ?_)
      ·refine wR 7 101 ?_
       cases hv213
       exact fS [] [6]
      refine wR 3 101 ?_
      refine wJ 62 hv213 (fun hv213 => ?_) (fun hv213 => ?_)
      ·refine wR 4 101 ?_
       cases hv213
       exact fS [] [6]
      refine wR 4 101 ?_
      cases hv213
      exact fS [] [6]
     refine wR 7 101 ?_
     refine wJ 62 hv213 (fun hv213 => ?_) (fun hv213 => ?_)
     ·refine wR 4 101 ?_
      cases hv213
      exact fS [] [6]
     refine wR 4 101 ?_
     cases hv213
     exact fS [] [6]
     ) ?_
    cases h181
    exact e1 6 id
   refine cV 101 ?_
   refine cI h181 (fun _ h181 => ?_) (fun _ h181 => ?_)
   ·refine bB h181 fun y68 hv226 h181 => ?_
    refine CO.cutR (tl 184 [(6, V.b y68)]) [] mix (by
     refine wR 3 101 ?_
     refine wJ 70 hv226 (fun hv226 => ?_) (fun hv226 => ?_)
     ·refine wR 3 101 ?_
      refine wJ 73 hv226 (fun hv226 => ?_) (fun hv226 => ?_)
      ·refine wR 8 101 ?_
       cases hv226
       exact fS [] [6]
      refine wR 3 101 ?_
      refine wJ 76 hv226 (fun hv226 => ?_) (fun hv226 => ?_)
      ·refine wR 1 101 (bB hv226 fun r69 hx230 hv226 => (w0 (ms_IsExpr_ok a2 hx230) cok48 (wR 3 101 ?_)))
       cases hv226
       exact fS [] [6]
      refine wR 5 101 ?_
      cases hv226
      exact fS [] [6]
     refine wR 6 101 ?_
     refine wJ 76 hv226 (fun hv226 => ?_) (fun hv226 => ?_)
     ·refine wR 1 101 (bB hv226 fun r70 hx232 hv226 => (w0 (ms_IsExpr_ok a2 hx232) cok48 (wR 3 101 ?_)))
      cases hv226
      exact fS [] [6]
     refine wR 5 101 ?_
     cases hv226
     exact fS [] [6]
     ) ?_
    cases h181
    exact e1 6 id
   refine cV 101 ?_
   refine cI h181 (fun _ h181 => ?_) (fun _ h181 => ?_)
   ·refine bB h181 fun y72 hv240 h181 => ?_
    refine CO.cutR (tl 184 [(6, V.b y72)]) [] mix (by
     refine wR 3 101 ?_
     refine wJ 85 hv240 (fun hv240 => ?_) (fun hv240 => ?_)
     ·refine wR 1 101 (bB hv240 fun r73 hx242 hv240 => (w0 (ms_IsExpr_ok a2 hx242) cok48 (wR 1 101 ?_)))
      refine wJ 88 hv240 (fun hv240 => ?_) (fun hv240 => ?_)
      ·refine wR 12 101 ?_
       cases hv240
       exact fS [] [6]
      refine wR 5 101 ?_
      refine wJ 93 hv240 (fun hv240 => ?_) (fun hv240 => ?_)
      ·refine wR 7 101 ?_
       cases hv240
       exact fS [] [6]
      refine wR 3 101 ?_
      refine wJ 96 hv240 (fun hv240 => ?_) (fun hv240 => ?_)
      ·refine wR 4 101 ?_
       cases hv240
       exact fS [] [6]
      refine wR 4 101 ?_
      cases hv240
      exact fS [] [6]
     refine wR 11 101 ?_
     refine wJ 96 hv240 (fun hv240 => ?_) (fun hv240 => ?_)
     ·refine wR 4 101 ?_
      cases hv240
      exact fS [] [6]
     refine wR 4 101 ?_
     cases hv240
     exact fS [] [6]
     ) ?_
    cases h181
    exact e1 6 id
   refine CO.join (fun (⟨a1, a2, a0, y74⟩ : (Int × Int × SNode × Bool)) => ⟨tl 184 [(1, V.i a1), (2, V.i a2), (3, .loc 100 0), (7, V.b (a1 == (wr ((a0.Kids.length : Int) - 1)))), (8, V.b (a2 == 33)), (18, V.i a0.Kind), (100, V.b y74)], [(100, .cells 49 [V.i a0.Kind, V.i a0.Op, V.s a0.Text, V.s a0.Other, sL eNI a0.Kids])]⟩) (fun i => ms_l7Kid_k2 i = some r) ?_ ?_
   · rintro ⟨a1, a2, a0, y74⟩ h249
     rw [ms_l7Kid_k2] at h249
     refine cI h249 (fun _ h249 => ?_) (fun _ h249 => ?_)
     ·refine cV 101 ?_
      cases h249
      exact e1 6 id
     refine cV 101 ?_
     refine cI h249 (fun _ h249 => ?_) (fun _ h249 => ?_)
     ·refine bB h249 fun r76 hx253 h249 => (cC 1 101 (ms_IsStmt_ok a2 hx253) cok110 ?_)
      cases h249
      exact e1 6 id
     refine cV 101 ?_
     refine cI h249 (fun _ h249 => ?_) (fun _ h249 => ?_)
     ·refine bB h249 fun y86 hv290 h249 => ?_
      refine CO.cutR (tl 184 [(6, V.b y86)]) [] mix (by
       refine wR 4 101 ?_
       refine wJ 114 hv290 (fun hv290 => ?_) (fun hv290 => ?_)
       ·refine wR 1 101 (bB hv290 fun r87 hx292 hv290 => (w0 (ms_IsExpr_ok a2 hx292) cok48 (wR 2 101 ?_)))
        refine wJ 118 hv290 (fun hv290 => ?_) (fun hv290 => ?_)
        ·refine wR 27 101 ?_
         cases hv290
         exact fS [] [6]
        refine wR 4 101 ?_
        refine wJ 122 hv290 (fun hv290 => ?_) (fun hv290 => ?_)
        ·refine wR 4 101 ?_
         refine wJ 126 hv290 (fun hv290 => ?_) (fun hv290 => ?_)
         ·refine wR 19 101 ?_
          cases hv290
          exact fS [] [6]
         refine wR 4 101 ?_
         refine wJ 130 hv290 (fun hv290 => ?_) (fun hv290 => ?_)
         ·refine wR 2 101 ?_
          refine wJ 132 hv290 (fun hv290 => ?_) (fun hv290 => ?_)
          ·refine wR 3 101 ?_
           refine wJ 135 hv290 (fun hv290 => ?_) (fun hv290 => ?_)
           ·refine wR 10 101 ?_
            cases hv290
            exact fS [] [6]
           refine wR 3 101 ?_
           refine wJ 138 hv290 (fun hv290 => ?_) (fun hv290 => ?_)
           ·refine wR 1 101 (bB hv290 fun r88 hx300 hv290 => (w0 (ms_IsExpr_ok a2 hx300) cok48 (wR 5 101 ?_)))
            cases hv290
            exact fS [] [6]
           refine wR 7 101 ?_
           cases hv290
           exact fS [] [6]
          refine wR 6 101 ?_
          refine wJ 138 hv290 (fun hv290 => ?_) (fun hv290 => ?_)
          ·refine wR 1 101 (bB hv290 fun r89 hx302 hv290 => (w0 (ms_IsExpr_ok a2 hx302) cok48 (wR 5 101 ?_)))
           cases hv290
           exact fS [] [6]
          refine wR 7 101 ?_
          cases hv290
          exact fS [] [6]
         refine wR 15 101 ?_
         cases hv290
         exact fS [] [6]
        refine wR 8 101 ?_
        refine wJ 130 hv290 (fun hv290 => ?_) (fun hv290 => ?_)
        ·refine wR 2 101 ?_
         refine wJ 132 hv290 (fun hv290 => ?_) (fun hv290 => ?_)
         ·refine wR 3 101 ?_
          refine wJ 135 hv290 (fun hv290 => ?_) (fun hv290 => ?_)
          ·refine wR 10 101 ?_
           cases hv290
           exact fS [] [6]
          refine wR 3 101 ?_
          refine wJ 138 hv290 (fun hv290 => ?_) (fun hv290 => ?_)
          ·refine wR 1 101 (bB hv290 fun r90 hx307 hv290 => (w0 (ms_IsExpr_ok a2 hx307) cok48 (wR 5 101 ?_)))
           cases hv290
           exact fS [] [6]
          refine wR 7 101 ?_
          cases hv290
          exact fS [] [6]
         refine wR 6 101 ?_
         refine wJ 138 hv290 (fun hv290 => ?_) (fun hv290 => ?_)
         ·refine wR 1 101 (bB hv290 fun r91 hx309 hv290 => (w0 (ms_IsExpr_ok a2 hx309) cok48 (wR 5 101 ?_)))
          cases hv290
          exact fS [] [6]
         refine wR 7 101 ?_
         cases hv290
         exact fS [] [6]
        refine wR 15 101 ?_
        cases hv290
        exact fS [] [6]
       refine wR 8 101 ?_
       refine wJ 122 hv290 (fun hv290 => ?_) (fun hv290 => ?_)
       ·refine wR 4 101 ?_
        refine wJ 126 hv290 (fun hv290 => ?_) (fun hv290 => ?_)
        ·refine wR 19 101 ?_
         cases hv290
         exact fS [] [6]
        refine wR 4 101 ?_
        refine wJ 130 hv290 (fun hv290 => ?_) (fun hv290 => ?_)
        ·refine wR 2 101 ?_
         refine wJ 132 hv290 (fun hv290 => ?_) (fun hv290 => ?_)
         ·refine wR 3 101 ?_
          refine wJ 135 hv290 (fun hv290 => ?_) (fun hv290 => ?_)
          ·refine wR 10 101 ?_
           cases hv290
           exact fS [] [6]
          refine wR 3 101 ?_
          refine wJ 138 hv290 (fun hv290 => ?_) (fun hv290 => ?_)
          ·refine wR 1 101 (bB hv290 fun r92 hx316 hv290 => (w0 (ms_IsExpr_ok a2 hx316) cok48 (wR 5 101 ?_)))
           cases hv290
           exact fS [] [6]
          refine wR 7 101 ?_
          cases hv290
          exact fS [] [6]
         refine wR 6 101 ?_
         refine wJ 138 hv290 (fun hv290 => ?_) (fun hv290 => ?_)
         ·refine wR 1 101 (bB hv290 fun r93 hx318 hv290 => (w0 (ms_IsExpr_ok a2 hx318) cok48 (wR 5 101 ?_)))
          cases hv290
          exact fS [] [6]
         refine wR 7 101 ?_
         cases hv290
         exact fS [] [6]
        refine wR 15 101 ?_
        cases hv290
        exact fS [] [6]
       refine wR 8 101 ?_
       refine wJ 130 hv290 (fun hv290 => ?_) (fun hv290 => ?_)
       ·refine wR 2 101 ?_
        refine wJ 132 hv290 (fun hv290 => ?_) (fun hv290 => ?_)
        ·refine wR 3 101 ?_
         refine wJ 135 hv290 (fun hv290 => ?_) (fun hv290 => ?_)
         ·refine wR 10 101 ?_
          cases hv290
          exact fS [] [6]
         refine wR 3 101 ?_
         refine wJ 138 hv290 (fun hv290 => ?_) (fun hv290 => ?_)
         ·refine wR 1 101 (bB hv290 fun r94 hx323 hv290 => (w0 (ms_IsExpr_ok a2 hx323) cok48 (wR 5 101 ?_)))
          cases hv290
          exact fS [] [6]
         refine wR 7 101 ?_
         cases hv290
         exact fS [] [6]
        refine wR 6 101 ?_
        refine wJ 138 hv290 (fun hv290 => ?_) (fun hv290 => ?_)
        ·refine wR 1 101 (bB hv290 fun r95 hx325 hv290 => (w0 (ms_IsExpr_ok a2 hx325) cok48 (wR 5 101 ?_)))
         cases hv290
         exact fS [] [6]
        refine wR 7 101 ?_
        cases hv290
        exact fS [] [6]
       refine wR 15 101 ?_
       cases hv290
       exact fS [] [6]
       ) ?_
      cases h249
      exact e1 6 id
     refine cV 101 ?_
     refine cI h249 (fun _ h249 => ?_) (fun _ h249 => ?_)
     ·refine bB h249 fun y97 hv332 h249 => ?_
      refine CO.cutR (tl 184 [(6, V.b y97)]) [] mix (by
       refine wR 3 101 ?_
       refine wJ 149 hv332 (fun hv332 => ?_) (fun hv332 => ?_)
       ·refine wR 1 101 (bB hv332 fun r98 hx334 hv332 => (w0 (ms_IsExpr_ok a2 hx334) cok48 (wR 2 101 ?_)))
        refine wJ 153 hv332 (fun hv332 => ?_) (fun hv332 => ?_)
        ·refine wR 7 101 ?_
         cases hv332
         exact fS [] [6]
        refine wR 3 101 ?_
        refine wJ 156 hv332 (fun hv332 => ?_) (fun hv332 => ?_)
        ·refine wR 4 101 ?_
         cases hv332
         exact fS [] [6]
        refine wR 4 101 ?_
        cases hv332
        exact fS [] [6]
       refine wR 7 101 ?_
       refine wJ 156 hv332 (fun hv332 => ?_) (fun hv332 => ?_)
       ·refine wR 4 101 ?_
        cases hv332
        exact fS [] [6]
       refine wR 4 101 ?_
       cases hv332
       exact fS [] [6]
       ) ?_
      cases h249
      exact e1 6 id
     refine cV 101 ?_
     refine cI h249 (fun _ h249 => ?_) (fun _ h249 => ?_)
     ·refine bB h249 fun y99 hv343 h249 => ?_
      refine CO.cutR (tl 184 [(6, V.b y99)]) [] mix (by
       refine wR 2 101 ?_
       refine wJ 163 hv343 (fun hv343 => ?_) (fun hv343 => ?_)
       ·refine wR 3 101 ?_
        refine wJ 166 hv343 (fun hv343 => ?_) (fun hv343 => ?_)
        ·refine wR 8 101 ?_
         cases hv343
         exact fS [] [6]
        refine wR 3 101 ?_
        refine wJ 169 hv343 (fun hv343 => ?_) (fun hv343 => ?_)
        ·refine wR 5 101 ?_
         cases hv343
         exact fS [] [6]
        refine wR 5 101 ?_
        cases hv343
        exact fS [] [6]
       refine wR 6 101 ?_
       refine wJ 169 hv343 (fun hv343 => ?_) (fun hv343 => ?_)
       ·refine wR 5 101 ?_
        cases hv343
        exact fS [] [6]
       refine wR 5 101 ?_
       cases hv343
       exact fS [] [6]
       ) ?_
      cases h249
      exact e1 6 id
     refine cV 101 ?_
     refine cI h249 (fun _ h249 => ?_) (fun _ h249 => ?_)
     ·refine bB h249 fun y101 hv351 h249 => ?_
      refine CO.cutR (tl 184 [(6, V.b y101)]) [] mix (by
       refine wR 1 101 (bB hv351 fun r102 hx352 hv351 => (w0 (ms_l1In_ok a2 40 44 hx352) cok38 (wR 1 101 ?_)))
       refine wJ 178 hv351 (fun hv351 => ?_) (fun hv351 => ?_)
       ·refine wR 4 101 ?_
        cases hv351
        exact fS [] [6]
       refine wR 4 101 ?_
       cases hv351
       exact fS [] [6]
       ) ?_
      cases h249
      exact e1 6 id
     refine CO.skip (bB h249 fun r104 hx355 h249 => (cC 1 101 (ms_IsExpr_ok a2 hx355) cok48 ?_))
     cases h249
     exact e1 6 id
   intro hk356
   refine cV 101 ?_
   refine cI h181 (fun _ h181 => ?_) (fun _ h181 => ?_)
   ·exact sK hk356 (a1, a2, a0, (a0.Kind == 32)) h181 [(100, 100)] [1, 2, 3, 7, 8, 18, 100]
   refine cV 101 ?_
   refine cI h181 (fun _ h181 => ?_) (fun _ h181 => ?_)
   ·exact sK hk356 (a1, a2, a0, (a0.Kind == 40)) h181 [(100, 100)] [1, 2, 3, 7, 8, 18, 100]
   exact cK 101 hk356 (a1, a2, a0, (a0.Kind == 41)) h181 [(100, 100)] [1, 2, 3, 7, 8, 18, 100]
 intro hk359
 refine cV 101 ?_
 refine cI h (fun _ h => ?_) (fun _ h => ?_)
 ·exact sK hk359 (a1, a2, a0, (a0.Kind == 9)) h [(100, 100)] [1, 2, 3, 7, 8, 18, 19]
 exact cK 101 hk359 (a1, a2, a0, (a0.Kind == 10)) h [(100, 100)] [1, 2, 3, 7, 8, 18, 19]

theorem ms_TreeOk_ok (N : Nat) (a0 : LN) {r : Bool} (h : ms_TreeOk N a0 = some r) :
    AC Tryz.prog (GS []) 37 [.sl false false (a0.map (eSN false))] [] (V.b r) [] := by
 rw [ms_TreeOk] at h
 refine AC.enter Tryz.func37 rfl (cV 100 (CO.seq' (bB h fun y8 hv12 h => ?_)))
 refine CO.cutR (tl 54 [(0, .sl false false (a0.map (eSN false))), (12, V.b y8)]) [] mix (by
  refine wR 1 100 (bB hv12 fun r9 hx13 hv12 => (w0 (ms_ShapeOk_ok N a0 hx13) cok67 (wR 2 100 ?_)))
  refine wJ 8 hv12 (fun hv12 => ?_) (fun hv12 => ?_)
  ·refine wR 4 100 ?_
   cases hv12
   exact fS [] [0, 12]
  refine wR 1 100 (bB hv12 fun r10 hx15 hv12 => (w0 (ms_DepthOf_ok N a0 hx15) cok68 (wR 2 100 ?_)))
  cases hv12
  exact fS [] [0, 12]
  ) ?_
 refine cI h (fun _ h => ?_) (fun _ h => ?_)
 ·refine cV 100 ?_
  cases h
  exact e1 2 id
 refine CO.skip (CO.seq' (cV 100 (CO.block' (CO.loopJ (fun (⟨a0, y669⟩ : (LN × Int)) => ⟨tl 54 [(0, .sl false false (a0.map (eSN false))), (3, V.i y669)], []⟩) (fun n i => ms_TreeOk_l1 N n i = some r) (n0 := N) (i0 := (a0, 0)) (wS [] [0, 3]) h (fun i h => by simp [ms_TreeOk_l1] at h) ?_))))
 rintro n1 ⟨a0, y669⟩ h989 ih990
 rw [ms_TreeOk_l1] at h989
 refine CO.seq' (CO.sw mix (wR 2 280 (wN (eSN false) a0 [] (wR 1 280 (wF ?_)))))
 refine cI h989 (fun _ h989 => ?_) (fun _ h989 => ?_)
 ·refine CO.skip (CO.seq' (CO.block' (CO.seq' (bB h989 fun e923 hx1096 h989 => (bB h989 fun r924 hx1097 h989 => (CO.sw mix (wR 2 280 (wX (eSN false) hx1096 5 ?_))))))))
  refine wR 1 280 (w0 (ms_FieldsOk_ok N e923 hx1097) cok69 (wR 1 280 (wF ?_)))
  refine cI h989 (fun _ h989 => ?_) (fun _ h989 => ?_)
  ·refine cV 280 ?_
   cases h989
   exact e1 2 id
  refine CO.skip (cV 280 (CO.block' (CO.loopJ (fun (⟨a0, y669, y949⟩ : (LN × Int × Int)) => ⟨tl 54 [(0, .sl false false (a0.map (eSN false))), (3, V.i y669), (4, V.i y949)], []⟩) (fun n i => ms_TreeOk_l2 N (ms_TreeOk_l1 N n1) n i = some r) (n0 := N) (i0 := (a0, y669, 0)) (wS [] [0, 3, 4]) h989 (fun i h => by simp [ms_TreeOk_l2] at h) ?_)))
  rintro n2 ⟨a0, y669, y949⟩ h1155 ih1156
  rw [ms_TreeOk_l2] at h1155
  refine CO.seq' (bB h1155 fun e978 hx1161 h1155 => (CO.sw mix (wR 3 340 (wX (eSN false) hx1161 5 (wR 2 340 (wN eNI e978.Kids [] (wR 1 340 (wF ?_))))))))
  refine cI h1155 (fun _ h1155 => ?_) (fun _ h1155 => ?_)
  ·refine CO.skip (CO.seq' (CO.block' (bB h1155 fun e994 hx1179 h1155 => (bB h1155 fun e995 hx1180 h1155 => (bB h1155 fun e996 hx1181 h1155 => (bB h1155 fun e997 hx1182 h1155 => (bB h1155 fun r998 hx1183 h1155 => (CO.sw mix ?_))))))))
   refine wR 2 340 (wX (eSN false) hx1179 5 (wR 5 340 (wX (eSN false) hx1180 5 (wR 3 340 (wX eNI hx1181 1 (wR 1 340 (wX (eSN false) hx1182 5 (wR 2 340 ?_))))))))
   refine w0 (ms_l7Kid_ok e994 y949 e997.Kind hx1183) cok70 (wR 1 340 (wF ?_))
   refine cI h1155 (fun _ h1155 => ?_) (fun _ h1155 => ?_)
   ·refine cV 340 ?_
    cases h1155
    exact e1 2 id
   refine CO.skip ?_
   exact cK 340 ih1156 (a0, y669, (wr (y949 + 1))) h1155 [] [0, 3, 4]
  refine CO.exit ?_
  exact cK 340 ih990 (a0, (wr (y669 + 1))) h1155 [] [0, 3]
 refine CO.exit (cV 280 ?_)
 cases h989
 exact e1 2 id

theorem ms_l24Params_ok (N : Nat) (a0 : LN) (a1 : Int) {r : LLU} (h : ms_l24Params N a0 a1 = some r) :
    AC Tryz.prog (GS []) 71 [.sl false false (a0.map (eSN false)), V.i a1] [] (.own 100) [(100, vN r)] := by
 rw [ms_l24Params] at h
 refine AC.enter Tryz.func71 rfl (cV 100 (cV 100 (CO.seq' (cV 101 (CO.block' (CO.loopJ (fun (⟨a0, a1, y85, y86⟩ : (LN × Int × Int × LLU)) => ⟨tl 35 [(0, .sl false false (a0.map (eSN false))), (1, V.i a1), (5, .own 100), (6, V.i y85)], [(100, vN y86)]⟩) (fun n i => ms_l24Params_l1 N n i = some r) (n0 := N) (i0 := (a0, a1, 0, [])) (wS [(100, 100)] [0, 1, 5, 6]) h (fun i h => by simp [ms_l24Params_l1] at h) ?_))))))
 rintro n1 ⟨a0, a1, y85, y86⟩ h113 ih114
 rw [ms_l24Params_l1] at h113
 refine CO.seq' (bB h113 fun e112 hx119 h113 => (CO.sw mix (wR 4 165 (wX (eSN false) hx119 5 (wR 2 165 (wN eNI e112.Kids [] (wR 1 165 (wF ?_))))))))
 refine cI h113 (fun _ h113 => ?_) (fun _ h113 => ?_)
 ·refine CO.skip (CO.seq' (CO.block' (bB h113 fun e125 hx133 h113 => (bB h113 fun e126 hx134 h113 => (bB h113 fun e127 hx135 h113 => (bB h113 fun x128 hx136 h113 => ?_))))))
  refine CO.endR (tl 35 [(0, .sl false false (a0.map (eSN false))), (1, V.i a1), (5, .own 166), (6, V.i y85)]) [(166, vN x128)] mix (by
   refine wR 4 165 (wX (eSN false) hx133 5 (wR 3 165 (wX eNI hx134 1 (wR 1 165 (wX (eSN false) hx135 5 (wR 3 165 (W.appO Dk eNS (a := 100) (c := 165) (el := 9) (sz := 1) 16 hx136 rfl 166 (by kernel_rfl) (wR 1 167 ?_))))))))
   exact fI
   ) (fun st hw => ?_)
  refine CO.weak hw ?_
  exact cK 167 ih114 (a0, a1, (wr (y85 + 1)), x128) h113 [(166, 100)] [0, 1, 5, 6]
 refine CO.exit (cV 165 (CO.ret ?_))
 cases h113
 exact eG [(100, 100)] (.inr rfl) (RetV.one rfl (oT (t := 4) (r := .own 100)))

theorem ms_Top_ok {r : SPos} (h : ms_Top = some r) :
    AC Tryz.prog (GS []) 53 [] [] (.agg [V.i r.Level, V.b r.Dollar, V.b r.NoIn, V.b r.NoGt, V.b r.NoSign]) [] := by
 rw [ms_Top] at h
 refine AC.enter Tryz.func53 rfl (cV 100 (cV 101 (CO.ret ?_)))
 cases h
 exact eG [] (.inr rfl) (RetV.one rfl (OneR.cell Dk (r := .agg [V.i 1, V.b false, V.b false, V.b false, V.b false]) (i := 100) (ety := 30) (cs := [V.i 1, V.b false, V.b false, V.b false, V.b false]) (by kernel_rfl) (by kernel_rfl) (by kernel_rfl)))

theorem ms_PosOk_ok (a0 : SPos) {r : Bool} (h : ms_PosOk a0 = some r) :
    AC Tryz.prog (GS []) 22 [.agg [V.i a0.Level, V.b a0.Dollar, V.b a0.NoIn, V.b a0.NoGt, V.b a0.NoSign]] [] (V.b r) [] := by
 rw [ms_PosOk] at h
 refine AC.enter Tryz.func22 rfl (cV 100 (bB h fun y2 hv4 h => ?_))
 refine CO.cutR (tl 16 [(2, V.b y2)]) [] mix (by
  refine wR 2 101 (bB hv4 fun r3 hx5 hv4 => (w0 (ms_l1In_ok a0.Level 1 15 hx5) cok38 (wR 1 101 ?_)))
  refine wJ 6 hv4 (fun hv4 => ?_) (fun hv4 => ?_)
  ·refine wR 4 101 ?_
   refine wJ 10 hv4 (fun hv4 => ?_) (fun hv4 => ?_)
   ·refine wR 6 101 ?_
    cases hv4
    exact fS [] [2]
   refine wR 6 101 ?_
   cases hv4
   exact fS [] [2]
  refine wR 10 101 ?_
  cases hv4
  exact fS [] [2]
  ) ?_
 cases h
 exact e1 2 id

theorem ms_OpLevel_ok (a0 : Int) {r : Int} (h : ms_OpLevel a0 = some r) :
    AC Tryz.prog (GS []) 120 [V.i a0] [] (V.i r) [] := by
 rw [ms_OpLevel] at h
 refine AC.enter Tryz.func120 rfl (cV 100 (CO.seq' (cV 100 (CO.block' (cV 100 ?_)))))
 refine cI h (fun _ h => ?_) (fun _ h => ?_)
 ·refine cV 100 ?_
  cases h
  exact e1 2 id
 refine cV 100 ?_
 refine cI h (fun _ h => ?_) (fun _ h => ?_)
 ·refine cV 100 ?_
  cases h
  exact e1 2 id
 refine CO.join (fun (⟨a0, y5⟩ : (Int × Bool)) => ⟨tl 29 [(3, V.i a0), (8, V.b y5)], []⟩) (fun i => ms_OpLevel_k1 i = some r) ?_ ?_
 · rintro ⟨a0, y5⟩ h38
   rw [ms_OpLevel_k1] at h38
   refine cI h38 (fun _ h38 => ?_) (fun _ h38 => ?_)
   ·refine cV 100 ?_
    cases h38
    exact e1 2 id
   refine CO.join (fun (⟨a0, y6⟩ : (Int × Bool)) => ⟨tl 29 [(3, V.i a0), (11, V.b y6)], []⟩) (fun i => ms_OpLevel_k2 i = some r) ?_ ?_
   · rintro ⟨a0, y6⟩ h45
     rw [ms_OpLevel_k2] at h45
     refine cI h45 (fun _ h45 => ?_) (fun _ h45 => ?_)
     ·refine cV 100 ?_
      cases h45
      exact e1 2 id
     refine cV 100 ?_
     refine cI h45 (fun _ h45 => ?_) (fun _ h45 => ?_)
     ·refine cV 100 ?_
      cases h45
      exact e1 2 id
     refine CO.join (fun (⟨a0, y7⟩ : (Int × Bool)) => ⟨tl 29 [(3, V.i a0), (20, V.b y7)], []⟩) (fun i => ms_OpLevel_k3 i = some r) ?_ ?_
     · rintro ⟨a0, y7⟩ h49
       rw [ms_OpLevel_k3] at h49
       refine cI h49 (fun _ h49 => ?_) (fun _ h49 => ?_)
       ·refine cV 100 ?_
        cases h49
        exact e1 2 id
       refine CO.join (fun (⟨a0, y8⟩ : (Int × Bool)) => ⟨tl 29 [(3, V.i a0), (23, V.b y8)], []⟩) (fun i => ms_OpLevel_k4 i = some r) ?_ ?_
       · rintro ⟨a0, y8⟩ h53
         rw [ms_OpLevel_k4] at h53
         refine cI h53 (fun _ h53 => ?_) (fun _ h53 => ?_)
         ·refine cV 100 ?_
          cases h53
          exact e1 2 id
         refine cV 100 ?_
         refine cI h53 (fun _ h53 => ?_) (fun _ h53 => ?_)
         ·refine cV 100 ?_
          cases h53
          exact e1 2 id
         refine CO.skip (cV 100 ?_)
         cases h53
         exact e1 2 id
       intro hk56
       refine cV 100 ?_
       refine cI h49 (fun _ h49 => ?_) (fun _ h49 => ?_)
       ·exact sK hk56 (a0, (a0 == 57)) h49 [] [3, 23]
       refine cV 100 ?_
       refine cI h49 (fun _ h49 => ?_) (fun _ h49 => ?_)
       ·exact sK hk56 (a0, (a0 == 58)) h49 [] [3, 23]
       exact cK 100 hk56 (a0, (a0 == 59)) h49 [] [3, 23]
     intro hk59
     refine cV 100 ?_
     refine cI h45 (fun _ h45 => ?_) (fun _ h45 => ?_)
     ·exact sK hk59 (a0, (a0 == 55)) h45 [] [3, 20]
     exact cK 100 hk59 (a0, (a0 == 56)) h45 [] [3, 20]
   intro hk61
   refine cV 100 ?_
   refine cI h38 (fun _ h38 => ?_) (fun _ h38 => ?_)
   ·exact sK hk61 (a0, (a0 == 63)) h38 [] [3, 11]
   refine cV 100 ?_
   refine cI h38 (fun _ h38 => ?_) (fun _ h38 => ?_)
   ·exact sK hk61 (a0, (a0 == 48)) h38 [] [3, 11]
   refine cV 100 ?_
   refine cI h38 (fun _ h38 => ?_) (fun _ h38 => ?_)
   ·exact sK hk61 (a0, (a0 == 47)) h38 [] [3, 11]
   refine cV 100 ?_
   refine cI h38 (fun _ h38 => ?_) (fun _ h38 => ?_)
   ·exact sK hk61 (a0, (a0 == 50)) h38 [] [3, 11]
   refine cV 100 ?_
   refine cI h38 (fun _ h38 => ?_) (fun _ h38 => ?_)
   ·exact sK hk61 (a0, (a0 == 62)) h38 [] [3, 11]
   exact cK 100 hk61 (a0, (a0 == 49)) h38 [] [3, 11]
 intro hk67
 refine cV 100 ?_
 refine cI h (fun _ h => ?_) (fun _ h => ?_)
 ·exact sK hk67 (a0, (a0 == 67)) h [] [3, 8]
 exact cK 100 hk67 (a0, (a0 == 46)) h [] [3, 8]

theorem ms_LevelOf_ok (a0 : SNode) {r : Int} (h : ms_LevelOf a0 = some r) :
    AC Tryz.prog (GS []) 79 [.agg [V.i a0.Kind, V.i a0.Op, V.s a0.Text, V.s a0.Other, sL eNI a0.Kids]] [] (V.i r) [] := by
 rw [ms_LevelOf] at h
 refine AC.enter Tryz.func79 rfl (cV 100 (CO.seq' (cV 101 (CO.block' (cV 101 ?_)))))
 refine cI h (fun _ h => ?_) (fun _ h => ?_)
 ·refine cV 101 ?_
  cases h
  exact e1 2 id
 refine cV 101 ?_
 refine cI h (fun _ h => ?_) (fun _ h => ?_)
 ·refine cV 101 ?_
  cases h
  exact e1 2 id
 refine cV 101 ?_
 refine cI h (fun _ h => ?_) (fun _ h => ?_)
 ·refine cV 101 ?_
  cases h
  exact e1 2 id
 refine cV 101 ?_
 refine cI h (fun _ h => ?_) (fun _ h => ?_)
 ·refine bB h fun r6 hx34 h => (cC 2 101 (ms_OpLevel_ok a0.Op hx34) cok120 ?_)
  cases h
  exact e1 2 id
 refine cV 101 ?_
 refine cI h (fun _ h => ?_) (fun _ h => ?_)
 ·refine cV 101 ?_
  cases h
  exact e1 2 id
 refine CO.join (fun (⟨a0, y7⟩ : (SNode × Bool)) => ⟨tl 31 [(4, V.i a0.Kind), (18, V.b y7)], []⟩) (fun i => ms_LevelOf_k1 i = some r) ?_ ?_
 · rintro ⟨a0, y7⟩ h37
   rw [ms_LevelOf_k1] at h37
   refine cI h37 (fun _ h37 => ?_) (fun _ h37 => ?_)
   ·refine cV 101 ?_
    cases h37
    exact e1 2 id
   refine cV 101 ?_
   refine cI h37 (fun _ h37 => ?_) (fun _ h37 => ?_)
   ·refine cV 101 ?_
    cases h37
    exact e1 2 id
   refine CO.join (fun (y8 : Bool) => ⟨tl 31 [(23, V.b y8)], []⟩) (fun i => ms_LevelOf_k2 i = some r) ?_ ?_
   · rintro y8 h46
     rw [ms_LevelOf_k2] at h46
     refine cI h46 (fun _ h46 => ?_) (fun _ h46 => ?_)
     ·refine cV 101 ?_
      cases h46
      exact e1 2 id
     refine CO.skip (cV 101 ?_)
     cases h46
     exact e1 2 id
   intro hk48
   refine cV 101 ?_
   refine cI h37 (fun _ h37 => ?_) (fun _ h37 => ?_)
   ·exact sK hk48 (a0.Kind == 1) h37 [] [23]
   refine cV 101 ?_
   refine cI h37 (fun _ h37 => ?_) (fun _ h37 => ?_)
   ·exact sK hk48 (a0.Kind == 2) h37 [] [23]
   refine cV 101 ?_
   refine cI h37 (fun _ h37 => ?_) (fun _ h37 => ?_)
   ·exact sK hk48 (a0.Kind == 3) h37 [] [23]
   refine cV 101 ?_
   refine cI h37 (fun _ h37 => ?_) (fun _ h37 => ?_)
   ·exact sK hk48 (a0.Kind == 4) h37 [] [23]
   refine cV 101 ?_
   refine cI h37 (fun _ h37 => ?_) (fun _ h37 => ?_)
   ·exact sK hk48 (a0.Kind == 5) h37 [] [23]
   refine cV 101 ?_
   refine cI h37 (fun _ h37 => ?_) (fun _ h37 => ?_)
   ·exact sK hk48 (a0.Kind == 7) h37 [] [23]
   exact cK 101 hk48 (a0.Kind == 8) h37 [] [23]
 intro hk55
 refine cV 101 ?_
 refine cI h (fun _ h => ?_) (fun _ h => ?_)
 ·exact sK hk55 (a0, (a0.Kind == 9)) h [] [4, 18]
 exact cK 101 hk55 (a0, (a0.Kind == 10)) h [] [4, 18]

theorem ms_Fits_ok (a0 : SNode) (a1 : SPos) {r : Bool} (h : ms_Fits a0 a1 = some r) :
    AC Tryz.prog (GS []) 49 [.agg [V.i a0.Kind, V.i a0.Op, V.s a0.Text, V.s a0.Other, sL eNI a0.Kids], .agg [V.i a1.Level, V.b a1.Dollar, V.b a1.NoIn, V.b a1.NoGt, V.b a1.NoSign]] [] (V.b r) [] := by
 rw [ms_Fits] at h
 refine AC.enter Tryz.func49 rfl (cV 100 (CO.seq' (CO.block' (bB h fun y12 hv34 h => ?_))))
 refine CO.cutR (tl 66 [(2, .loc 100 0), (3, .loc 101 0), (5, V.b y12)]) [(100, .cells 49 [V.i a0.Kind, V.i a0.Op, V.s a0.Text, V.s a0.Other, sL eNI a0.Kids]), (101, .cells 30 [V.i a1.Level, V.b a1.Dollar, V.b a1.NoIn, V.b a1.NoGt, V.b a1.NoSign])] mix (by
  refine wR 1 102 (bB hv34 fun r13 hx35 hv34 => (w0 (ms_PosOk_ok a1 hx35) cok22 (wR 2 102 ?_)))
  refine wJ 9 hv34 (fun hv34 => ?_) (fun hv34 => ?_)
  ·refine wR 5 102 ?_
   cases hv34
   exact fS [(100, 100), (101, 101)] [2, 3, 5]
  refine wR 1 102 (bB hv34 fun r14 hx37 hv34 => (w0 (ms_LevelOf_ok a0 hx37) cok79 (wR 3 102 ?_)))
  cases hv34
  exact fS [(100, 100), (101, 101)] [2, 3, 5]
  ) ?_
 refine cI h (fun _ h => ?_) (fun _ h => ?_)
 ·refine cV 102 ?_
  cases h
  exact e1 4 id
 refine bB h fun y15 hv40 h => ?_
 refine CO.cutR (tl 66 [(2, .loc 100 0), (3, .loc 101 0), (14, V.b y15)]) [(100, .cells 49 [V.i a0.Kind, V.i a0.Op, V.s a0.Text, V.s a0.Other, sL eNI a0.Kids]), (101, .cells 30 [V.i a1.Level, V.b a1.Dollar, V.b a1.NoIn, V.b a1.NoGt, V.b a1.NoSign])] mix (by
  refine wR 3 102 ?_
  refine wJ 17 hv40 (fun hv40 => ?_) (fun hv40 => ?_)
  ·refine wR 5 102 ?_
   cases hv40
   exact fS [(100, 100), (101, 101)] [2, 3, 14]
  refine wR 5 102 ?_
  cases hv40
  exact fS [(100, 100), (101, 101)] [2, 3, 14]
  ) ?_
 refine cI h (fun _ h => ?_) (fun _ h => ?_)
 ·refine cV 102 ?_
  cases h
  exact e1 4 id
 refine bB h fun y16 hv45 h => ?_
 refine CO.cutR (tl 66 [(2, .loc 100 0), (3, .loc 101 0), (22, V.b y16)]) [(100, .cells 49 [V.i a0.Kind, V.i a0.Op, V.s a0.Text, V.s a0.Other, sL eNI a0.Kids]), (101, .cells 30 [V.i a1.Level, V.b a1.Dollar, V.b a1.NoIn, V.b a1.NoGt, V.b a1.NoSign])] mix (by
  refine wR 3 102 ?_
  refine wJ 25 hv45 (fun hv45 => ?_) (fun hv45 => ?_)
  ·refine wR 5 102 ?_
   refine wJ 30 hv45 (fun hv45 => ?_) (fun hv45 => ?_)
   ·refine wR 5 102 ?_
    cases hv45
    exact fS [(100, 100), (101, 101)] [2, 3, 22]
   refine wR 5 102 ?_
   cases hv45
   exact fS [(100, 100), (101, 101)] [2, 3, 22]
  refine wR 10 102 ?_
  cases hv45
  exact fS [(100, 100), (101, 101)] [2, 3, 22]
  ) ?_
 refine cI h (fun _ h => ?_) (fun _ h => ?_)
 ·refine cV 102 ?_
  cases h
  exact e1 4 id
 refine bB h fun y17 hv52 h => ?_
 refine CO.cutR (tl 66 [(2, .loc 100 0), (3, .loc 101 0), (35, V.b y17)]) [(100, .cells 49 [V.i a0.Kind, V.i a0.Op, V.s a0.Text, V.s a0.Other, sL eNI a0.Kids]), (101, .cells 30 [V.i a1.Level, V.b a1.Dollar, V.b a1.NoIn, V.b a1.NoGt, V.b a1.NoSign])] mix (by
  refine wR 3 102 ?_
  refine wJ 38 hv52 (fun hv52 => ?_) (fun hv52 => ?_)
  ·refine wR 4 102 ?_
   refine wJ 42 hv52 (fun hv52 => ?_) (fun hv52 => ?_)
   ·refine wR 11 102 ?_
    cases hv52
    exact fS [(100, 100), (101, 101)] [2, 3, 35]
   refine wR 5 102 ?_
   refine wJ 47 hv52 (fun hv52 => ?_) (fun hv52 => ?_)
   ·refine wR 6 102 ?_
    cases hv52
    exact fS [(100, 100), (101, 101)] [2, 3, 35]
   refine wR 6 102 ?_
   cases hv52
   exact fS [(100, 100), (101, 101)] [2, 3, 35]
  refine wR 15 102 ?_
  cases hv52
  exact fS [(100, 100), (101, 101)] [2, 3, 35]
  ) ?_
 refine cI h (fun _ h => ?_) (fun _ h => ?_)
 ·refine cV 102 ?_
  cases h
  exact e1 4 id
 refine bB h fun y18 hv58 h => ?_
 refine CO.cutR (tl 66 [(2, .loc 100 0), (3, .loc 101 0), (53, V.b y18)]) [(100, .cells 49 [V.i a0.Kind, V.i a0.Op, V.s a0.Text, V.s a0.Other, sL eNI a0.Kids]), (101, .cells 30 [V.i a1.Level, V.b a1.Dollar, V.b a1.NoIn, V.b a1.NoGt, V.b a1.NoSign])] mix (by
  refine wR 3 102 ?_
  refine wJ 56 hv58 (fun hv58 => ?_) (fun hv58 => ?_)
  ·refine wR 5 102 ?_
   cases hv58
   exact fS [(100, 100), (101, 101)] [2, 3, 53]
  refine wR 5 102 ?_
  cases hv58
  exact fS [(100, 100), (101, 101)] [2, 3, 53]
  ) ?_
 refine cI h (fun _ h => ?_) (fun _ h => ?_)
 ·refine cV 102 ?_
  cases h
  exact e1 4 id
 refine CO.skip (bB h fun r20 hx62 h => (cC 1 102 (ms_LevelOf_ok a0 hx62) cok79 ?_))
 cases h
 exact e1 4 id

theorem ms_l10Leaf_ok (a0 : SNode) {r : SToken} (h : ms_l10Leaf a0 = some r) :
    AC Tryz.prog (GS []) 80 [.agg [V.i a0.Kind, V.i a0.Op, V.s a0.Text, V.s a0.Other, sL eNI a0.Kids]] [] (.agg [V.i r.Kind, V.s r.Text, V.i r.At]) [] := by
 rw [ms_l10Leaf] at h
 refine AC.enter Tryz.func80 rfl (cV 100 (CO.seq' (cV 102 (CO.block' (cV 102 ?_)))))
 refine cI h (fun _ h => ?_) (fun _ h => ?_)
 ·refine cV 102 (CO.ret ?_)
  have h := sI h
  subst h
  exact eG [] (.inr rfl) (RetV.one rfl (OneR.cell Dk (r := .agg [V.i 6, V.s a0.Text, V.i 0]) (i := 101) (ety := 105) (cs := [V.i 6, V.s a0.Text, V.i 0]) (by kernel_rfl) (by kernel_rfl) (by kernel_rfl)))
 refine cV 102 ?_
 refine cI h (fun _ h => ?_) (fun _ h => ?_)
 ·refine cV 102 (CO.ret ?_)
  have h := sI h
  subst h
  exact eG [] (.inr rfl) (RetV.one rfl (OneR.cell Dk (r := .agg [V.i 3, V.s a0.Text, V.i 0]) (i := 101) (ety := 105) (cs := [V.i 3, V.s a0.Text, V.i 0]) (by kernel_rfl) (by kernel_rfl) (by kernel_rfl)))
 refine cV 102 ?_
 refine cI h (fun _ h => ?_) (fun _ h => ?_)
 ·refine cV 102 (CO.ret ?_)
  have h := sI h
  subst h
  exact eG [] (.inr rfl) (RetV.one rfl (OneR.cell Dk (r := .agg [V.i 4, V.s a0.Text, V.i 0]) (i := 101) (ety := 105) (cs := [V.i 4, V.s a0.Text, V.i 0]) (by kernel_rfl) (by kernel_rfl) (by kernel_rfl)))
 refine cV 102 ?_
 refine cI h (fun _ h => ?_) (fun _ h => ?_)
 ·refine cV 102 (CO.ret ?_)
  have h := sI h
  subst h
  exact eG [] (.inr rfl) (RetV.one rfl (OneR.cell Dk (r := .agg [V.i 5, V.s a0.Text, V.i 0]) (i := 101) (ety := 105) (cs := [V.i 5, V.s a0.Text, V.i 0]) (by kernel_rfl) (by kernel_rfl) (by kernel_rfl)))
 refine CO.skip (cV 102 (CO.ret ?_))
 cases h
 exact eG [] (.inr rfl) (RetV.one rfl (OneR.cell Dk (r := .agg [V.i 0, V.s [], V.i 0]) (i := 101) (ety := 105) (cs := [V.i 0, V.s [], V.i 0]) (by kernel_rfl) (by kernel_rfl) (by kernel_rfl)))

theorem ms_l15Text_ok (a0 : LU) {r : LD} (h : ms_l15Text a0 = some r) :
    AC Tryz.prog (GS []) 52 [V.s a0] [] (.own 100) [(100, .vec false 62 4 (r.map (encSDNode true)))] := by
 rw [ms_l15Text] at h
 refine AC.enter Tryz.func52 rfl (cV 100 (cV 100 (CO.ret ?_)))
 cases h
 exact eG [(100, 100)] (.inr rfl) (RetV.one rfl (oT (t := 2) (r := .own 100)))

theorem ms_l15Line_ok {r : LD} (h : ms_l15Line = some r) :
    AC Tryz.prog (GS []) 127 [] [] (.own 100) [(100, .vec false 62 4 (r.map (encSDNode true)))] := by
 rw [ms_l15Line] at h
 refine AC.enter Tryz.func127 rfl (cV 100 (cV 100 (CO.ret ?_)))
 cases h
 exact eG [(100, 100)] (.inr rfl) (RetV.one rfl (oT (t := 0) (r := .own 100)))

theorem ms_l15Shift_ok (N : Nat) (a0 : LD) (a1 : Int) {r : LD} (h : ms_l15Shift N a0 a1 = some r) :
    AC Tryz.prog (GS []) 90 [.sl false false (a0.map (encSDNode false)), V.i a1] [] (.own 100) [(100, .vec false 62 4 (r.map (encSDNode true)))] := by
 rw [ms_l15Shift] at h
 refine AC.enter Tryz.func90 rfl (cV 100 (cV 100 (CO.seq' (cV 101 (CO.block' (CO.loopJ (fun (⟨a0, a1, y869, y870⟩ : (LD × Int × Int × LD)) => ⟨tl 52 [(0, .sl false false (a0.map (encSDNode false))), (1, V.i a1), (5, .own 100), (6, V.i y869)], [(100, .vec false 62 4 (y870.map (encSDNode true)))]⟩) (fun n i => ms_l15Shift_l1 N n i = some r) (n0 := N) (i0 := (a0, a1, 0, [])) (wS [(100, 100)] [0, 1, 5, 6]) h (fun i h => by simp [ms_l15Shift_l1] at h) ?_))))))
 rintro n1 ⟨a0, a1, y869, y870⟩ h1173 ih1174
 rw [ms_l15Shift_l1] at h1173
 refine CO.seq' (CO.sw mix (wR 2 297 (wN (encSDNode false) a0 [] (wR 1 297 (wF ?_)))))
 refine cI h1173 (fun _ h1173 => ?_) (fun _ h1173 => ?_)
 ·refine CO.skip (CO.seq' (CO.block' (bB h1173 fun e1198 hx1294 h1173 => (CO.sw mix (wR 2 297 (wX (encSDNode false) hx1294 4 (wR 3 297 (wF ?_))))))))
  refine cV 298 (CO.seq' (cV 299 (CO.block' (CO.loopJ (fun (⟨a0, a1, y869, y870, e1198, y1267, y1268⟩ : (LD × Int × Int × LD × SDNode × Int × (List Int))) => ⟨tl 52 [(0, .sl false false (a0.map (encSDNode false))), (1, V.i a1), (5, .own 100), (6, V.i y869), (7, .loc 101 0), (8, V.i y1267)], [(100, .vec false 62 4 (y870.map (encSDNode true))), (101, .cells 62 [V.i e1198.Kind, V.i e1198.N, V.s e1198.Text, .own 102]), (102, vX 3 1 eNI y1268)]⟩) (fun n i => ms_l15Shift_l2 N (ms_l15Shift_l1 N n1) n i = some r) (n0 := N) (i0 := (a0, a1, y869, y870, e1198, 0, [])) (wS [(100, 100), (297, 101), (298, 102)] [0, 1, 5, 6, 7, 8]) h1173 (fun i h => by simp [ms_l15Shift_l2] at h) ?_))))
  rintro n2 ⟨a0, a1, y869, y870, e1198, y1267, y1268⟩ h1387 ih1388
  rw [ms_l15Shift_l2] at h1387
  refine CO.seq' (bB h1387 fun e1290 hx1393 h1387 => (CO.sw mix (wR 3 363 (wX (encSDNode false) hx1393 4 (wR 2 363 (wN eNI e1290.Kids [] (wR 1 363 (wF ?_))))))))
  refine cI h1387 (fun _ h1387 => ?_) (fun _ h1387 => ?_)
  ·refine CO.skip (CO.seq' (CO.block' (bB h1387 fun e1300 hx1404 h1387 => (bB h1387 fun e1301 hx1405 h1387 => (bB h1387 fun x1302 hx1406 h1387 => ?_)))))
   refine CO.endR (tl 52 [(0, .sl false false (a0.map (encSDNode false))), (1, V.i a1), (5, .own 100), (6, V.i y869), (7, .loc 101 0), (8, V.i y1267)]) [(101, .cells 62 [V.i e1198.Kind, V.i e1198.N, V.s e1198.Text, .own 364]), (364, vX 3 1 eNI x1302), (100, .vec false 62 4 (y870.map (encSDNode true)))] mix (by
    refine wR 4 363 (wX (encSDNode false) hx1404 4 (wR 3 363 (wX eNI hx1405 1 (wR 4 363 (W.appO Dk eNI (a := 102) (c := 363) (el := 3) (sz := 1) 8 hx1406 rfl 364 (by kernel_rfl) (wR 2 365 ?_))))))
    exact fI
    ) (fun st hw => ?_)
   refine CO.weak hw ?_
   exact cK 365 ih1388 (a0, a1, y869, y870, e1198, (wr (y1267 + 1)), x1302) h1387 [(100, 100), (101, 101), (364, 102)] [0, 1, 5, 6, 7, 8]
  refine CO.exit (bB h1387 fun x1304 hx1408 h1387 => ?_)
  refine CO.endR (tl 52 [(0, .sl false false (a0.map (encSDNode false))), (1, V.i a1), (5, .own 364), (6, V.i y869)]) [(364, .vec false 62 4 (x1304.map (encSDNode true)))] mix (by
   refine wR 3 363 (W.appO Dk (encSDNode true) (a := 100) (c := 363) (el := 62) (sz := 4) 56 hx1408 rfl 364 (by kernel_rfl) (wR 1 365 ?_))
   exact fI
   ) (fun st hw => ?_)
  refine CO.weak hw ?_
  exact cK 365 ih1174 (a0, a1, (wr (y869 + 1)), x1304) h1387 [(364, 100)] [0, 1, 5, 6]
 refine CO.exit (cV 297 (CO.ret ?_))
 cases h1173
 exact eG [(100, 100)] (.inr rfl) (RetV.one rfl (oT (t := 4) (r := .own 100)))

theorem ms_l15Over_ok (N : Nat) (a0 : Int) (a1 : Int) (a2 : List LD) {r : LD} (h : ms_l15Over N a0 a1 a2 = some r) :
    AC Tryz.prog (GS []) 51 [V.i a0, V.i a1, .sl false false (a2.map (encL false (encSDNode false)))] [] (.own 100) [(100, .vec false 62 4 (r.map (encSDNode true)))] := by
 rw [ms_l15Over] at h
 refine AC.enter Tryz.func51 rfl (cV 100 (cV 100 (cV 101 (CO.seq' (cV 102 (CO.block' (CO.loopJ (fun (⟨a2, a0, a1, y75, y76, y77⟩ : ((List LD) × Int × Int × Int × LD × (List Int))) => ⟨tl 41 [(2, .sl false false (a2.map (encL false (encSDNode false)))), (7, .own 100), (8, .loc 101 0), (9, V.i y75)], [(100, .vec false 62 4 (y76.map (encSDNode true))), (101, .cells 62 [V.i a0, V.i a1, V.s [], .own 102]), (102, vX 3 1 eNI y77)]⟩) (fun n i => ms_l15Over_l1 N n i = some r) (n0 := N) (i0 := (a2, a0, a1, 0, [], [])) ((Weak.nilCell 101 3 102 3 1 (ety := 62) (cs := [V.i a0, V.i a1, V.s [], .c (.slice none 0 0)]) (by kernel_rfl) (by kernel_rfl) (by kernel_rfl)).trans (wS [(100, 100), (101, 101), (102, 102)] [2, 7, 8, 9])) h (fun i h => by simp [ms_l15Over_l1] at h) ?_)))))))
 rintro n1 ⟨a2, a0, a1, y75, y76, y77⟩ h97 ih98
 rw [ms_l15Over_l1] at h97
 refine CO.seq' (CO.sw mix (wR 2 171 (wN (encL false (encSDNode false)) a2 [] (wR 1 171 (wF ?_)))))
 refine cI h97 (fun _ h97 => ?_) (fun _ h97 => ?_)
 ·refine CO.skip (CO.seq' (CO.block' (bB h97 fun e108 hx112 h97 => (bB h97 fun r109 hx113 h97 => (bB h97 fun x110 hx114 h97 => (CO.sw mix (wR 3 171 (wX (encL false (encSDNode false)) hx112 1 ?_))))))))
  refine wR 2 171 (wN (encSDNode true) y76 [100] (wC (ms_l15Shift_ok N e108 (y76.length : Int) hx113) cok90 [] [(100, 171)] [171] (W.appO Dk (encSDNode true) (a := 100) (c := 171) (el := 62) (sz := 4) 56 hx114 rfl 172 (by kernel_rfl) (wR 1 173 (wF (bB h97 fun x112 hx116 h97 => ?_))))))
  refine CO.endR (tl 41 [(2, .sl false false (a2.map (encL false (encSDNode false)))), (7, .own 172), (8, .loc 101 0), (9, V.i y75)]) [(101, .cells 62 [V.i a0, V.i a1, V.s [], .own 174]), (174, vX 3 1 eNI x112), (172, .vec false 62 4 (x110.map (encSDNode true)))] mix (by
   refine wR 3 173 (wN (encSDNode true) x110 [172] (wR 2 173 (W.appO Dk eNI (a := 102) (c := 173) (el := 3) (sz := 1) 8 hx116 rfl 174 (by kernel_rfl) (wR 2 175 ?_))))
   exact fI
   ) (fun st hw => ?_)
  refine CO.weak hw ?_
  exact cK 175 ih98 (a2, a0, a1, (wr (y75 + 1)), x110, x112) h97 [(172, 100), (101, 101), (174, 102)] [2, 7, 8, 9]
 refine CO.exit (bB h97 fun x114 hx118 h97 => (CO.sw mix (wR 3 171 (W.appO Dk (encSDNode true) (a := 100) (c := 171) (el := 62) (sz := 4) 56 hx118 rfl 172 (by kernel_rfl) (wR 1 173 (wF (CO.ret ?_)))))))
 cases h97
 exact eG [(172, 100)] (.inr rfl) (RetV.one rfl (oT (t := 6) (r := .own 172)))

theorem ms_l9Sides_ok (a0 : Int) {r : (Int × Int)} (h : ms_l9Sides a0 = some r) :
    AC Tryz.prog (GS []) 123 [V.i a0] [] (.tup [V.i r.1, V.i r.2]) [] := by
 rw [ms_l9Sides] at h
 refine AC.enter Tryz.func123 rfl (cV 100 (CO.seq' (bB h fun r4 hx11 h => (cC 1 100 (ms_OpLevel_ok a0 hx11) cok120 (CO.block' (cV 100 ?_))))))
 refine cI h (fun _ h => ?_) (fun _ h => ?_)
 ·refine cV 100 (CO.ret ?_)
  cases h
  exact eG [] (.inr rfl) (RetV.two rfl (oT (t := 2) (r := V.i 3)) (oT (t := 3) (r := V.i 4)))
 refine cV 100 ?_
 refine cI h (fun _ h => ?_) (fun _ h => ?_)
 ·refine cV 100 (CO.ret ?_)
  cases h
  exact eG [] (.inr rfl) (RetV.two rfl (oT (t := 2) (r := V.i 4)) (oT (t := 3) (r := V.i 5)))
 refine cV 100 ?_
 refine cI h (fun _ h => ?_) (fun _ h => ?_)
 ·refine cV 100 (CO.ret ?_)
  cases h
  exact eG [] (.inr rfl) (RetV.two rfl (oT (t := 2) (r := V.i 7)) (oT (t := 3) (r := V.i 7)))
 refine cV 100 ?_
 refine cI h (fun _ h => ?_) (fun _ h => ?_)
 ·refine cV 100 (CO.ret ?_)
  cases h
  exact eG [] (.inr rfl) (RetV.two rfl (oT (t := 2) (r := V.i 8)) (oT (t := 3) (r := V.i 8)))
 refine cV 100 ?_
 refine cI h (fun _ h => ?_) (fun _ h => ?_)
 ·refine cV 100 (CO.ret ?_)
  cases h
  exact eG [] (.inr rfl) (RetV.two rfl (oT (t := 2) (r := V.i 8)) (oT (t := 3) (r := V.i 9)))
 refine cV 100 ?_
 refine cI h (fun _ h => ?_) (fun _ h => ?_)
 ·refine cV 100 (CO.ret ?_)
  cases h
  exact eG [] (.inr rfl) (RetV.two rfl (oT (t := 2) (r := V.i 9)) (oT (t := 3) (r := V.i 10)))
 refine cV 100 ?_
 refine cI h (fun _ h => ?_) (fun _ h => ?_)
 ·refine cV 100 (CO.ret ?_)
  cases h
  exact eG [] (.inr rfl) (RetV.two rfl (oT (t := 2) (r := V.i 10)) (oT (t := 3) (r := V.i 11)))
 refine CO.skip (cV 100 (CO.ret ?_))
 cases h
 exact eG [] (.inr rfl) (RetV.two rfl (oT (t := 2) (r := V.i 13)) (oT (t := 3) (r := V.i 11)))

theorem ms_KidPos_ok (a0 : SNode) (a1 : Int) (a2 : SPos) {r : SPos} (h : ms_KidPos a0 a1 a2 = some r) :
    AC Tryz.prog (GS []) 84 [.agg [V.i a0.Kind, V.i a0.Op, V.s a0.Text, V.s a0.Other, sL eNI a0.Kids], V.i a1, .agg [V.i a2.Level, V.b a2.Dollar, V.b a2.NoIn, V.b a2.NoGt, V.b a2.NoSign]] [] (.agg [V.i r.Level, V.b r.Dollar, V.b r.NoIn, V.b r.NoGt, V.b r.NoSign]) [] := by
 rw [ms_KidPos] at h
 refine AC.enter Tryz.func84 rfl (cV 100 (CO.seq' (bB h fun y11 hv18 h => ?_)))
 refine CO.cutR (tl 95 [(1, V.i a1), (3, .loc 100 0), (5, .loc 101 0), (6, .loc 102 0), (26, V.b y11)]) [(100, .cells 49 [V.i a0.Kind, V.i a0.Op, V.s a0.Text, V.s a0.Other, sL eNI a0.Kids]), (101, .cells 30 [V.i a2.Level, V.b a2.Dollar, V.b a2.NoIn, V.b a2.NoGt, V.b a2.NoSign]), (102, .cells 30 [V.i 0, V.b false, V.b false, V.b false, V.b false])] mix (by
  refine wR 1 103 (bB hv18 fun r12 hx19 hv18 => (w0 (ms_PosOk_ok a2 hx19) cok22 (wR 2 103 ?_)))
  refine wJ 13 hv18 (fun hv18 => ?_) (fun hv18 => ?_)
  ·refine wR 13 103 ?_
   cases hv18
   exact fS [(100, 100), (101, 101), (102, 102)] [1, 3, 5, 6, 26]
  refine wR 3 103 (wN eNI a0.Kids [] (wR 1 103 (bB hv18 fun r13 hx21 hv18 => (w0 (ms_l1In_ok a1 0 (wr ((a0.Kids.length : Int) - 1)) hx21) cok38 (wR 3 103 ?_)))))
  refine wJ 22 hv18 (fun hv18 => ?_) (fun hv18 => ?_)
  ·refine wR 4 103 ?_
   cases hv18
   exact fS [(100, 100), (101, 101), (102, 102)] [1, 3, 5, 6, 26]
  refine wR 1 103 (bB hv18 fun r14 hx23 hv18 => (w0 (ms_LevelOf_ok a0 hx23) cok79 (wR 2 103 ?_)))
  cases hv18
  exact fS [(100, 100), (101, 101), (102, 102)] [1, 3, 5, 6, 26]
  ) ?_
 refine cI h (fun _ h => ?_) (fun _ h => ?_)
 ·refine cV 103 (CO.ret ?_)
  cases h
  exact eG [] (.inr rfl) (RetV.one rfl (OneR.cell Dk (r := .agg [V.i 0, V.b false, V.b false, V.b false, V.b false]) (i := 102) (ety := 30) (cs := [V.i 0, V.b false, V.b false, V.b false, V.b false]) (by kernel_rfl) (by kernel_rfl) (by kernel_rfl)))
 refine CO.skip (bB h fun y15 hv26 h => ?_)
 refine CO.cutR (tl 95 [(1, V.i a1), (3, .loc 100 0), (6, .loc 101 0), (7, .loc 102 0)]) [(100, .cells 49 [V.i a0.Kind, V.i a0.Op, V.s a0.Text, V.s a0.Other, sL eNI a0.Kids]), (101, .cells 30 [V.i 0, V.b false, V.b false, V.b false, V.b false]), (102, .cells 30 [V.i 0, V.b false, V.b a2.NoIn, V.b a2.NoGt, V.b y15])] mix (by
  refine wR 7 103 ?_
  refine wJ 34 hv26 (fun hv26 => ?_) (fun hv26 => ?_)
  ·refine wR 6 103 ?_
   cases hv26
   exact fS [(100, 100), (102, 101), (103, 102)] [1, 3, 6, 7]
  refine wR 6 103 ?_
  cases hv26
  exact fS [(100, 100), (102, 101), (103, 102)] [1, 3, 6, 7]
  ) ?_
 refine CO.join (fun (⟨a2, y25, y26, y27⟩ : (SPos × Int × Bool × Bool)) => ⟨tl 95 [(6, .loc 100 0), (7, .loc 101 0)], [(100, .cells 30 [V.i 0, V.b false, V.b false, V.b false, V.b false]), (101, .cells 30 [V.i y25, V.b y26, V.b a2.NoIn, V.b a2.NoGt, V.b y27])]⟩) (fun i => ms_KidPos_k1 i = some r) ?_ ?_
 · rintro ⟨a2, y25, y26, y27⟩ h52
   rw [ms_KidPos_k1] at h52
   refine cV 104 (CO.ret ?_)
   have h52 := sI h52
   subst h52
   exact eG [] (.inr rfl) (RetV.one rfl (OneR.cell Dk (r := .agg [V.i y25, V.b y26, V.b a2.NoIn, V.b a2.NoGt, V.b y27]) (i := 100) (ety := 30) (cs := [V.i y25, V.b y26, V.b a2.NoIn, V.b a2.NoGt, V.b y27]) (by kernel_rfl) (by kernel_rfl) (by kernel_rfl)))
 intro hk53
 refine cV 104 (CO.block' (cV 104 ?_))
 refine cI h (fun _ h => ?_) (fun _ h => ?_)
 ·refine cV 104 (cV 104 ?_)
  refine cI h (fun _ h => ?_) (fun _ h => ?_)
  ·exact cK 104 hk53 (a2, 1, false, y15) h [(101, 100), (102, 101)] [6, 7]
  exact sK hk53 (a2, 14, false, y15) h [(101, 100), (102, 101)] [6, 7]
 refine cV 104 ?_
 refine cI h (fun _ h => ?_) (fun _ h => ?_)
 ·refine cV 104 (cV 104 ?_)
  refine cI h (fun _ h => ?_) (fun _ h => ?_)
  ·exact cK 104 hk53 (a2, 3, false, y15) h [(101, 100), (102, 101)] [6, 7]
  exact sK hk53 (a2, 2, false, y15) h [(101, 100), (102, 101)] [6, 7]
 refine cV 104 ?_
 refine cI h (fun _ h => ?_) (fun _ h => ?_)
 ·refine CO.seq' (CO.sw mix (wR 2 104 (wN eNI a0.Kids [] (wR 1 104 (wF ?_)))))
  refine cI h (fun _ h => ?_) (fun _ h => ?_)
  ·refine bB h fun r31 hx64 h => (cC 0 104 (ms_Top_ok  hx64) cok53 (CO.ret ?_))
   have h := sI h
   subst h
   exact eG [] (.inr rfl) (RetV.one rfl (OneR.cell Dk (r := .agg [V.i r31.Level, V.b r31.Dollar, V.b r31.NoIn, V.b r31.NoGt, V.b r31.NoSign]) (i := 101) (ety := 30) (cs := [V.i r31.Level, V.b r31.Dollar, V.b r31.NoIn, V.b r31.NoGt, V.b r31.NoSign]) (by kernel_rfl) (by kernel_rfl) (by kernel_rfl)))
  refine CO.skip ?_
  exact cK 104 hk53 (a2, 5, false, y15) h [(101, 100), (102, 101)] [6, 7]
 refine cV 104 ?_
 refine cI h (fun _ h => ?_) (fun _ h => ?_)
 ·refine bB h fun r33 hx67 h => (cC 2 104 (ms_l9Sides_ok a0.Op hx67) cok123 (cV 104 (cV 104 ?_)))
  refine cI h (fun _ h => ?_) (fun _ h => ?_)
  ·refine cV 104 ?_
   exact cK 104 hk53 (a2, r33.2, false, (a0.Op == 99)) h [(101, 100), (102, 101)] [6, 7]
  exact sK hk53 (a2, r33.1, false, y15) h [(101, 100), (102, 101)] [6, 7]
 refine cV 104 ?_
 refine cI h (fun _ h => ?_) (fun _ h => ?_)
 ·refine cV 104 ?_
  exact cK 104 hk53 (a2, 11, false, false) h [(101, 100), (102, 101)] [6, 7]
 refine CO.join (fun (⟨a0, a2, y15, y34⟩ : (SNode × SPos × Bool × Bool)) => ⟨tl 95 [(6, .loc 100 0), (7, .loc 101 0), (40, V.i a0.Kind), (84, V.b y34)], [(100, .cells 30 [V.i 0, V.b false, V.b false, V.b false, V.b false]), (101, .cells 30 [V.i 0, V.b false, V.b a2.NoIn, V.b a2.NoGt, V.b y15])]⟩) (fun i => ms_KidPos_k2 i = some r) ?_ ?_
 · rintro ⟨a0, a2, y15, y34⟩ h71
   rw [ms_KidPos_k2] at h71
   refine cI h71 (fun _ h71 => ?_) (fun _ h71 => ?_)
   ·refine cV 104 ?_
    exact cK 104 hk53 (a2, 14, false, false) h71 [(100, 100), (101, 101)] [6, 7]
   refine cV 104 ?_
   refine cI h71 (fun _ h71 => ?_) (fun _ h71 => ?_)
   ·refine cV 104 (cV 104 ?_)
    exact cK 104 hk53 (a2, 14, true, false) h71 [(100, 100), (101, 101)] [6, 7]
   refine bB h71 fun r36 hx75 h71 => (cC 0 104 (ms_Top_ok  hx75) cok53 (CO.ret ?_))
   have h71 := sI h71
   subst h71
   exact eG [] (.inr rfl) (RetV.one rfl (OneR.cell Dk (r := .agg [V.i r36.Level, V.b r36.Dollar, V.b r36.NoIn, V.b r36.NoGt, V.b r36.NoSign]) (i := 100) (ety := 30) (cs := [V.i r36.Level, V.b r36.Dollar, V.b r36.NoIn, V.b r36.NoGt, V.b r36.NoSign]) (by kernel_rfl) (by kernel_rfl) (by kernel_rfl)))
 intro hk76
 refine cV 104 ?_
 refine cI h (fun _ h => ?_) (fun _ h => ?_)
 ·exact sK hk76 (a0, a2, y15, (a0.Kind == 9)) h [(101, 100), (102, 101)] [6, 7, 40, 84]
 exact cK 104 hk76 (a0, a2, y15, (a0.Kind == 10)) h [(101, 100), (102, 101)] [6, 7, 40, 84]

theorem ms_l10Tok_ok (a0 : Int) {r : SToken} (h : ms_l10Tok a0 = some r) :
    AC Tryz.prog (GS []) 86 [V.i a0] [] (.agg [V.i r.Kind, V.s r.Text, V.i r.At]) [] := by
 rw [ms_l10Tok] at h
 refine AC.enter Tryz.func86 rfl (cV 100 (bB h fun r2 hx2 h => (cC 2 101 (ms_SpellOf_ok a0 hx2) cok82 (CO.ret ?_))))
 have h := sI h
 subst h
 exact eG [] (.inr rfl) (RetV.one rfl (OneR.cell Dk (r := .agg [V.i a0, V.s r2, V.i 0]) (i := 100) (ety := 105) (cs := [V.i a0, V.s r2, V.i 0]) (by kernel_rfl) (by kernel_rfl) (by kernel_rfl)))

structure RecOk1 (R : Rec1) : Prop where
 ms_l10Sides : ∀ (a0 : SL10W) (a1 : SNode) (a2 : SPos) (r : LT), R.ms_l10Sides a0 a1 a2 = some r → AC Tryz.prog (GS []) 158 [.agg [.sl false false (a0.l.map (eSN false)), V.b a0.full], .agg [V.i a1.Kind, V.i a1.Op, V.s a1.Text, V.s a1.Other, sL eNI a1.Kids], .agg [V.i a2.Level, V.b a2.Dollar, V.b a2.NoIn, V.b a2.NoGt, V.b a2.NoSign]] [] (.own 100) [(100, vX 105 3 eTk r)]
 ms_l10Lvalue : ∀ (a0 : SL10W) (a1 : Int) (r : LT), R.ms_l10Lvalue a0 a1 = some r → AC Tryz.prog (GS []) 156 [.agg [.sl false false (a0.l.map (eSN false)), V.b a0.full], V.i a1] [] (.own 100) [(100, vX 105 3 eTk r)]
 ms_l10List : ∀ (a0 : SL10W) (a1 : List Int) (r : LT), R.ms_l10List a0 a1 = some r → AC Tryz.prog (GS []) 157 [.agg [.sl false false (a0.l.map (eSN false)), V.b a0.full], sL eNI a1] [] (.own 100) [(100, vX 105 3 eTk r)]
 ms_l10Named : ∀ (a0 : SL10W) (a1 : SToken) (a2 : List Int) (a3 : Int) (r : LT), R.ms_l10Named a0 a1 a2 a3 = some r → AC Tryz.prog (GS []) 155 [.agg [.sl false false (a0.l.map (eSN false)), V.b a0.full], .agg [V.i a1.Kind, V.s a1.Text, V.i a1.At], sL eNI a2, V.i a3] [] (.own 100) [(100, vX 105 3 eTk r)]
 ms_l10Node : ∀ (a0 : SL10W) (a1 : Int) (a2 : SPos) (r : LT), R.ms_l10Node a0 a1 a2 = some r → AC Tryz.prog (GS []) 126 [.agg [.sl false false (a0.l.map (eSN false)), V.b a0.full], V.i a1, .agg [V.i a2.Level, V.b a2.Dollar, V.b a2.NoIn, V.b a2.NoGt, V.b a2.NoSign]] [] (.own 100) [(100, vX 105 3 eTk r)]
 ms_l10At : ∀ (a0 : SL10W) (a1 : Int) (a2 : SPos) (r : LT), R.ms_l10At a0 a1 a2 = some r → AC Tryz.prog (GS []) 87 [.agg [.sl false false (a0.l.map (eSN false)), V.b a0.full], V.i a1, .agg [V.i a2.Level, V.b a2.Dollar, V.b a2.NoIn, V.b a2.NoGt, V.b a2.NoSign]] [] (.own 100) [(100, vX 105 3 eTk r)]

theorem ms_l10Sides_F_ok (N : Nat) (R : Rec1) (HR : RecOk1 R) (a0 : SL10W) (a1 : SNode) (a2 : SPos) {r : LT} (h : ms_l10Sides_F N R a0 a1 a2 = some r) :
    AC Tryz.prog (GS []) 158 [.agg [.sl false false (a0.l.map (eSN false)), V.b a0.full], .agg [V.i a1.Kind, V.i a1.Op, V.s a1.Text, V.s a1.Other, sL eNI a1.Kids], .agg [V.i a2.Level, V.b a2.Dollar, V.b a2.NoIn, V.b a2.NoGt, V.b a2.NoSign]] [] (.own 100) [(100, vX 105 3 eTk r)] := by
 rw [ms_l10Sides_F] at h
 refine AC.enter Tryz.func158 rfl (cV 100 (bB h fun e4 hx4 h => (bB h fun r5 hx5 h => (bB h fun r6 hx6 h => (CO.sw mix (wR 3 103 (wX eNI hx4 1 (wR 3 103 ?_))))))))
 refine w0 (ms_KidPos_ok a1 0 a2 hx5) cok84 (wC (HR.ms_l10At a0 e4 r5 _ hx6) cok87 [] [(100, 103)] [103] (wR 1 104 (wF (CO.seq' (cV 104 ?_)))))
 refine cI h (fun _ h => ?_) (fun _ h => ?_)
 ·refine bB h fun r33 hx35 h => (bB h fun x34 hx36 h => (CO.sw mix (wR 1 104 (w0 (ms_l10Tok_ok 65 hx35) cok86 (wR 1 104 (W.appO Dk eTk (a := 103) (c := 104) (el := 105) (sz := 3) 32 hx36 rfl 105 (by kernel_rfl) (wR 1 106 (wF ?_))))))))
  refine bB h fun e39 hx41 h => (bB h fun r40 hx42 h => (bB h fun r41 hx43 h => (bB h fun x42 hx44 h => (CO.sw mix (wR 4 106 (wX eNI hx41 1 (wR 3 106 (w0 (ms_KidPos_ok a1 1 a2 hx42) cok84 ?_))))))))
  refine wC (HR.ms_l10At a0 e39 r40 _ hx43) cok87 [] [(100, 106)] [106] (W.appO Dk eTk (a := 105) (c := 106) (el := 105) (sz := 3) 32 hx44 rfl 107 (by kernel_rfl) (wR 1 108 (wF (bB h fun r45 hx47 h => (bB h fun x46 hx48 h => (CO.sw mix (wR 1 108 (w0 (ms_l10Tok_ok 66 hx47) cok86 ?_))))))))
  refine wR 1 108 (W.appO Dk eTk (a := 107) (c := 108) (el := 105) (sz := 3) 32 hx48 rfl 109 (by kernel_rfl) (wR 1 110 (wF (bB h fun e51 hx53 h => (bB h fun r52 hx54 h => (bB h fun r53 hx55 h => (bB h fun x54 hx56 h => (CO.sw mix ?_))))))))
  refine wR 4 110 (wX eNI hx53 1 (wR 3 110 (w0 (ms_KidPos_ok a1 2 a2 hx54) cok84 (wC (HR.ms_l10At a0 e51 r52 _ hx55) cok87 [] [(100, 110)] [110] (W.appO Dk eTk (a := 109) (c := 110) (el := 105) (sz := 3) 32 hx56 rfl 111 (by kernel_rfl) (wR 1 112 (wF (CO.ret ?_))))))))
  cases h
  exact eG [(111, 100)] (.inr rfl) (RetV.one rfl (oT (t := 6) (r := .own 111)))
 refine CO.skip ?_
 refine CO.join (fun (⟨a0, a1, a2, y59⟩ : (SL10W × SNode × SPos × LT)) => ⟨tl 70 [(3, .loc 100 0), (4, .loc 101 0), (5, .loc 102 0), (7, .own 103)], [(100, .cells 48 [.sl false false (a0.l.map (eSN false)), V.b a0.full]), (101, .cells 49 [V.i a1.Kind, V.i a1.Op, V.s a1.Text, V.s a1.Other, sL eNI a1.Kids]), (102, .cells 30 [V.i a2.Level, V.b a2.Dollar, V.b a2.NoIn, V.b a2.NoGt, V.b a2.NoSign]), (103, vX 105 3 eTk y59)]⟩) (fun i => ms_l10Sides_k1 N R i = some r) ?_ ?_
 · rintro ⟨a0, a1, a2, y59⟩ h62
   rw [ms_l10Sides_k1] at h62
   refine bB h62 fun e64 hx67 h62 => (bB h62 fun r65 hx68 h62 => (bB h62 fun r66 hx69 h62 => (bB h62 fun x67 hx70 h62 => (CO.sw mix (wR 4 106 (wX eNI hx67 1 (wR 3 106 (w0 (ms_KidPos_ok a1 1 a2 hx68) cok84 ?_))))))))
   refine wC (HR.ms_l10At a0 e64 r65 _ hx69) cok87 [] [(100, 106)] [106] (W.appO Dk eTk (a := 103) (c := 106) (el := 105) (sz := 3) 32 hx70 rfl 107 (by kernel_rfl) (wR 1 108 (wF (CO.ret ?_))))
   cases h62
   exact eG [(107, 100)] (.inr rfl) (RetV.one rfl (oT (t := 6) (r := .own 107)))
 intro hk71
 refine cV 104 ?_
 refine cI h (fun _ h => ?_) (fun _ h => ?_)
 ·refine bB h fun r70 hx75 h => (bB h fun x71 hx76 h => (CO.w mix (wR 3 104 (w0 (ms_l10Tok_ok a1.Op hx75) cok86 (wR 1 104 (W.appO Dk eTk (a := 103) (c := 104) (el := 105) (sz := 3) 32 hx76 rfl 105 (by kernel_rfl) (wR 1 106 ?_)))))))
  exact wK hk71 (a0, a1, a2, x71) h [(100, 100), (101, 101), (102, 102), (105, 103)] [3, 4, 5, 7]
 exact sK hk71 (a0, a1, a2, r6) h [(100, 100), (101, 101), (102, 102), (103, 103)] [3, 4, 5, 7]

theorem ms_l10Lvalue_F_ok (N : Nat) (R : Rec1) (HR : RecOk1 R) (a0 : SL10W) (a1 : Int) {r : LT} (h : ms_l10Lvalue_F N R a0 a1 = some r) :
    AC Tryz.prog (GS []) 156 [.agg [.sl false false (a0.l.map (eSN false)), V.b a0.full], V.i a1] [] (.own 100) [(100, vX 105 3 eTk r)] := by
 rw [ms_l10Lvalue_F] at h
 refine AC.enter Tryz.func156 rfl (cV 100 (bB h fun r2 hx2 h => (CO.sw mix (wR 3 101 (wC (HR.ms_l10Node a0 a1 (⟨14, false, false, false, false⟩ : SPos) _ hx2) cok126 [] [(100, 101)] [101] (wR 1 102 (wF (CO.ret ?_))))))))
 cases h
 exact eG [(101, 100)] (.inr rfl) (RetV.one rfl (oT (t := 4) (r := .own 101)))

theorem ms_l10List_F_ok (N : Nat) (R : Rec1) (HR : RecOk1 R) (a0 : SL10W) (a1 : List Int) {r : LT} (h : ms_l10List_F N R a0 a1 = some r) :
    AC Tryz.prog (GS []) 157 [.agg [.sl false false (a0.l.map (eSN false)), V.b a0.full], sL eNI a1] [] (.own 100) [(100, vX 105 3 eTk r)] := by
 rw [ms_l10List_F] at h
 refine AC.enter Tryz.func157 rfl (cV 100 (cV 101 (CO.seq' (cV 102 (CO.block' (CO.loopJ (fun (⟨a1, a0, y105, y106⟩ : ((List Int) × SL10W × Int × LT)) => ⟨tl 30 [(1, sL eNI a1), (2, .loc 100 0), (5, .own 101), (6, V.i y105)], [(100, .cells 48 [.sl false false (a0.l.map (eSN false)), V.b a0.full]), (101, vX 105 3 eTk y106)]⟩) (fun n i => ms_l10List_l1 N R n i = some r) (n0 := N) (i0 := (a1, a0, 0, [])) (wS [(100, 100), (101, 101)] [1, 2, 5, 6]) h (fun i h => by simp [ms_l10List_l1] at h) ?_))))))
 rintro n1 ⟨a1, a0, y105, y106⟩ h165 ih166
 rw [ms_l10List_l1] at h165
 refine CO.seq' (CO.sw mix (wR 2 168 (wN eNI a1 [] (wR 1 168 (wF ?_)))))
 refine cI h165 (fun _ h165 => ?_) (fun _ h165 => ?_)
 ·refine CO.skip (CO.seq' (CO.block' ?_))
  refine CO.join (fun (⟨a1, y105, a0, y164⟩ : ((List Int) × Int × SL10W × LT)) => ⟨tl 30 [(1, sL eNI a1), (2, .loc 100 0), (5, .own 101), (6, V.i y105)], [(100, .cells 48 [.sl false false (a0.l.map (eSN false)), V.b a0.full]), (101, vX 105 3 eTk y164)]⟩) (fun i => ms_l10List_k2 N R (ms_l10List_l1 N R n1) i = some r) ?_ ?_
  · rintro ⟨a1, y105, a0, y164⟩ h194
    rw [ms_l10List_k2] at h194
    refine bB h194 fun e169 hx199 h194 => (bB h194 fun r170 hx200 h194 => (bB h194 fun r171 hx201 h194 => (bB h194 fun x172 hx202 h194 => ?_)))
    refine CO.endR (tl 30 [(1, sL eNI a1), (2, .loc 100 0), (5, .own 171), (6, V.i y105)]) [(171, vX 105 3 eTk x172), (100, .cells 48 [.sl false false (a0.l.map (eSN false)), V.b a0.full])] mix (by
     refine wR 4 170 (wX eNI hx199 1 (wR 1 170 (w0 (ms_Top_ok  hx200) cok53 (wC (HR.ms_l10At a0 e169 r170 _ hx201) cok87 [] [(100, 170)] [170] (W.appO Dk eTk (a := 101) (c := 170) (el := 105) (sz := 3) 32 hx202 rfl 171 (by kernel_rfl) (wR 1 172 ?_))))))
     exact fI
     ) (fun st hw => ?_)
    refine CO.weak hw ?_
    exact cK 172 ih166 (a1, a0, (wr (y105 + 1)), x172) h194 [(100, 100), (171, 101)] [1, 2, 5, 6]
  intro hk203
  refine cV 168 ?_
  refine cI h165 (fun _ h165 => ?_) (fun _ h165 => ?_)
  ·refine bB h165 fun r175 hx207 h165 => (bB h165 fun x176 hx208 h165 => (CO.w mix (wR 1 168 (w0 (ms_l10Tok_ok 36 hx207) cok86 (wR 1 168 (W.appO Dk eTk (a := 101) (c := 168) (el := 105) (sz := 3) 32 hx208 rfl 169 (by kernel_rfl) (wR 1 170 ?_)))))))
   exact wK hk203 (a1, y105, a0, x176) h165 [(100, 100), (169, 101)] [1, 2, 5, 6]
  exact sK hk203 (a1, y105, a0, y106) h165 [(100, 100), (101, 101)] [1, 2, 5, 6]
 refine CO.exit (cV 168 (CO.ret ?_))
 cases h165
 exact eG [(101, 100)] (.inr rfl) (RetV.one rfl (oT (t := 4) (r := .own 101)))

theorem ms_l10Named_F_ok (N : Nat) (R : Rec1) (HR : RecOk1 R) (a0 : SL10W) (a1 : SToken) (a2 : List Int) (a3 : Int) {r : LT} (h : ms_l10Named_F N R a0 a1 a2 a3 = some r) :
    AC Tryz.prog (GS []) 155 [.agg [.sl false false (a0.l.map (eSN false)), V.b a0.full], .agg [V.i a1.Kind, V.s a1.Text, V.i a1.At], sL eNI a2, V.i a3] [] (.own 100) [(100, vX 105 3 eTk r)] := by
 rw [ms_l10Named_F] at h
 refine AC.enter Tryz.func155 rfl (cV 100 (bB h fun r4 hx4 h => (bB h fun r5 hx5 h => (bB h fun x6 hx6 h => (CO.sw mix (wR 2 102 (w0 (ms_l10Tok_ok a3 hx4) cok86 (wR 3 102 ?_))))))))
 refine wC (HR.ms_l10List a0 a2 _ hx5) cok157 [] [(100, 103)] [103] (W.appO Dk eTk (a := 102) (c := 103) (el := 105) (sz := 3) 32 hx6 rfl 104 (by kernel_rfl) (wR 1 105 (wF (bB h fun r9 hx9 h => (bB h fun x10 hx10 h => (CO.sw mix (wR 3 105 (w0 (ms_l10Tok_ok (wr (a3 + 1)) hx9) cok86 ?_))))))))
 refine wR 1 105 (W.appO Dk eTk (a := 104) (c := 105) (el := 105) (sz := 3) 32 hx10 rfl 106 (by kernel_rfl) (wR 1 107 (wF (CO.ret ?_))))
 cases h
 exact eG [(106, 100)] (.inr rfl) (RetV.one rfl (oT (t := 8) (r := .own 106)))

theorem ms_l10Node_F_ok (N : Nat) (R : Rec1) (HR : RecOk1 R) (a0 : SL10W) (a1 : Int) (a2 : SPos) {r : LT} (h : ms_l10Node_F N R a0 a1 a2 = some r) :
    AC Tryz.prog (GS []) 126 [.agg [.sl false false (a0.l.map (eSN false)), V.b a0.full], V.i a1, .agg [V.i a2.Level, V.b a2.Dollar, V.b a2.NoIn, V.b a2.NoGt, V.b a2.NoSign]] [] (.own 100) [(100, vX 105 3 eTk r)] := by
 rw [ms_l10Node_F] at h
 refine AC.enter Tryz.func126 rfl (cV 100 (bB h fun e2 hx2 h => (CO.sw mix (wR 3 102 (wX (eSN false) hx2 5 (wR 3 102 (wF (bB h fun r4 hx4 h => ?_))))))))
 refine cC 1 103 (ms_l10Leaf_ok e2 hx4) cok80 (CO.seq' (cV 104 ?_))
 refine cI h (fun _ h => ?_) (fun _ h => ?_)
 ·refine cV 104 (CO.ret ?_)
  cases h
  exact eG [(104, 100)] (.inr rfl) (RetV.one rfl (oT (t := 6) (r := .own 104)))
 refine CO.skip (CO.seq' (cV 104 (CO.block' (cV 104 ?_))))
 refine cI h (fun _ h => ?_) (fun _ h => ?_)
 ·refine bB h fun r95 hx110 h => (CO.sw mix (wR 6 104 (wC (HR.ms_l10Named a0 (⟨6, e2.Text, 0⟩ : SToken) e2.Kids 34 _ hx110) cok155 [] [(100, 104)] [104] (wR 1 105 (wF (CO.ret ?_))))))
  cases h
  exact eG [(104, 100)] (.inr rfl) (RetV.one rfl (oT (t := 6) (r := .own 104)))
 refine cV 104 ?_
 refine cI h (fun _ h => ?_) (fun _ h => ?_)
 ·refine bB h fun r97 hx113 h => (CO.sw mix (wR 6 104 (wC (HR.ms_l10Named a0 (⟨7, e2.Text, 0⟩ : SToken) e2.Kids 32 _ hx113) cok155 [] [(100, 104)] [104] (wR 1 105 (wF (CO.ret ?_))))))
  cases h
  exact eG [(104, 100)] (.inr rfl) (RetV.one rfl (oT (t := 6) (r := .own 104)))
 refine cV 104 ?_
 refine cI h (fun _ h => ?_) (fun _ h => ?_)
 ·refine bB h fun r99 hx116 h => (CO.sw mix (wR 6 104 (wC (HR.ms_l10Named a0 (⟨8, e2.Text, 0⟩ : SToken) e2.Kids 32 _ hx116) cok155 [] [(100, 104)] [104] (wR 1 105 (wF (CO.ret ?_))))))
  cases h
  exact eG [(104, 100)] (.inr rfl) (RetV.one rfl (oT (t := 6) (r := .own 104)))
 refine cV 104 ?_
 refine cI h (fun _ h => ?_) (fun _ h => ?_)
 ·refine bB h fun r104 hx122 h => (bB h fun e105 hx123 h => (bB h fun r106 hx124 h => (bB h fun x107 hx125 h => (CO.sw mix (wR 2 104 (w0 (ms_l10Tok_ok e2.Op hx122) cok86 (wR 4 104 (wX eNI hx123 1 ?_))))))))
  refine wR 1 105 (wC (HR.ms_l10Lvalue a0 e105 _ hx124) cok156 [] [(100, 105)] [105] (W.appO Dk eTk (a := 104) (c := 105) (el := 105) (sz := 3) 32 hx125 rfl 106 (by kernel_rfl) (wR 1 107 (wF (CO.ret ?_)))))
  cases h
  exact eG [(106, 100)] (.inr rfl) (RetV.one rfl (oT (t := 6) (r := .own 106)))
 refine cV 104 ?_
 refine cI h (fun _ h => ?_) (fun _ h => ?_)
 ·refine bB h fun e112 hx131 h => (bB h fun r113 hx132 h => (bB h fun r114 hx133 h => (bB h fun x115 hx134 h => (CO.sw mix (wR 3 104 (wX eNI hx131 1 (wR 1 104 (wC (HR.ms_l10Lvalue a0 e112 _ hx132) cok156 [] [(100, 104)] [104] ?_))))))))
  refine wR 2 105 (w0 (ms_l10Tok_ok e2.Op hx133) cok86 (wR 1 105 (W.appO Dk eTk (a := 104) (c := 105) (el := 105) (sz := 3) 32 hx134 rfl 106 (by kernel_rfl) (wR 1 107 (wF (CO.ret ?_))))))
  cases h
  exact eG [(106, 100)] (.inr rfl) (RetV.one rfl (oT (t := 6) (r := .own 106)))
 refine cV 104 ?_
 refine cI h (fun _ h => ?_) (fun _ h => ?_)
 ·refine bB h fun e120 hx140 h => (bB h fun r121 hx141 h => (bB h fun r122 hx142 h => (bB h fun x123 hx143 h => (CO.sw mix (wR 3 104 (wX eNI hx140 1 (wR 1 104 (wC (HR.ms_l10Lvalue a0 e120 _ hx141) cok156 [] [(100, 104)] [104] ?_))))))))
  refine wR 2 105 (w0 (ms_l10Tok_ok e2.Op hx142) cok86 (wR 1 105 (W.appO Dk eTk (a := 104) (c := 105) (el := 105) (sz := 3) 32 hx143 rfl 106 (by kernel_rfl) (wR 1 107 (wF (bB h fun e128 hx148 h => (bB h fun r129 hx149 h => (bB h fun r130 hx150 h => ?_))))))))
  refine bB h fun x131 hx151 h => (CO.sw mix (wR 4 107 (wX eNI hx148 1 (wR 3 107 (w0 (ms_KidPos_ok e2 1 a2 hx149) cok84 (wC (HR.ms_l10At a0 e128 r129 _ hx150) cok87 [] [(100, 107)] [107] (W.appO Dk eTk (a := 106) (c := 107) (el := 105) (sz := 3) 32 hx151 rfl 108 (by kernel_rfl) (wR 1 109 ?_))))))))
  refine wF (CO.ret ?_)
  cases h
  exact eG [(108, 100)] (.inr rfl) (RetV.one rfl (oT (t := 6) (r := .own 108)))
 refine cV 104 ?_
 refine cI h (fun _ h => ?_) (fun _ h => ?_)
 ·refine bB h fun r137 hx158 h => (bB h fun e138 hx159 h => (bB h fun r139 hx160 h => (bB h fun r140 hx161 h => (bB h fun x141 hx162 h => (CO.sw mix (w0 (ms_l10Tok_ok 68 hx158) cok86 (wR 4 104 (wX eNI hx159 1 ?_))))))))
  refine wR 3 105 (w0 (ms_KidPos_ok e2 0 a2 hx160) cok84 (wC (HR.ms_l10At a0 e138 r139 _ hx161) cok87 [] [(100, 105)] [105] (W.appO Dk eTk (a := 104) (c := 105) (el := 105) (sz := 3) 32 hx162 rfl 106 (by kernel_rfl) (wR 1 107 (wF (CO.ret ?_))))))
  cases h
  exact eG [(106, 100)] (.inr rfl) (RetV.one rfl (oT (t := 6) (r := .own 106)))
 refine cV 104 ?_
 refine cI h (fun _ h => ?_) (fun _ h => ?_)
 ·refine bB h fun r147 hx169 h => (bB h fun e148 hx170 h => (bB h fun r149 hx171 h => (bB h fun r150 hx172 h => (bB h fun x151 hx173 h => (CO.sw mix (wR 2 104 (w0 (ms_l10Tok_ok e2.Op hx169) cok86 (wR 4 104 ?_))))))))
  refine wX eNI hx170 1 (wR 3 105 (w0 (ms_KidPos_ok e2 0 a2 hx171) cok84 (wC (HR.ms_l10At a0 e148 r149 _ hx172) cok87 [] [(100, 105)] [105] (W.appO Dk eTk (a := 104) (c := 105) (el := 105) (sz := 3) 32 hx173 rfl 106 (by kernel_rfl) (wR 1 107 (wF (CO.ret ?_)))))))
  cases h
  exact eG [(106, 100)] (.inr rfl) (RetV.one rfl (oT (t := 6) (r := .own 106)))
 refine cV 104 ?_
 refine cI h (fun _ h => ?_) (fun _ h => ?_)
 ·refine bB h fun e155 hx178 h => (bB h fun r156 hx179 h => (bB h fun r157 hx180 h => (CO.sw mix (wR 3 104 (wX eNI hx178 1 (wR 3 104 (w0 (ms_KidPos_ok e2 0 a2 hx179) cok84 (wC (HR.ms_l10At a0 e155 r156 _ hx180) cok87 [] [(100, 104)] [104] ?_))))))))
  refine wR 1 105 (wF ?_)
  refine CO.join (fun (⟨e2, y168⟩ : (SNode × LT)) => ⟨tl 169 [(7, .loc 100 0), (10, .own 101)], [(100, .cells 49 [V.i e2.Kind, V.i e2.Op, V.s e2.Text, V.s e2.Other, sL eNI e2.Kids]), (101, vX 105 3 eTk y168)]⟩) (fun i => ms_l10Node_k1 N R i = some r) ?_ ?_
  · rintro ⟨e2, y168⟩ h192
    rw [ms_l10Node_k1] at h192
    refine bB h192 fun r171 hx195 h192 => (bB h192 fun x172 hx196 h192 => (CO.sw mix (wR 1 110 (w0 (ms_l10Tok_ok 24 hx195) cok86 (wR 4 110 (W.appO Dk eTk (a := 101) (c := 110) (el := 105) (sz := 3) 32 hx196 rfl 111 (by kernel_rfl) (wR 1 112 (wF ?_))))))))
    refine CO.ret ?_
    cases h192
    exact eG [(111, 100)] (.inr rfl) (RetV.one rfl (oT (t := 6) (r := .own 111)))
  intro hk197
  refine CO.sw mix (wR 2 105 (wN eNI e2.Kids [] (wR 1 105 (wF ?_))))
  refine cI h (fun _ h => ?_) (fun _ h => ?_)
  ·refine bB h fun r176 hx202 h => (bB h fun r177 hx203 h => (bB h fun x178 hx204 h => (CO.sw mix (w0 (ms_l10Tok_ok 32 hx202) cok86 (wR 4 105 (wC (HR.ms_l10List a0 e2.Kids _ hx203) cok157 [] [(100, 106)] [106] (W.appO Dk eTk (a := 105) (c := 106) (el := 105) (sz := 3) 32 hx204 rfl 107 (by kernel_rfl) (wR 1 108 ?_))))))))
   refine wF (bB h fun r181 hx207 h => (bB h fun x182 hx208 h => (CO.w mix (wR 1 108 (w0 (ms_l10Tok_ok 33 hx207) cok86 (wR 1 108 (W.appO Dk eTk (a := 107) (c := 108) (el := 105) (sz := 3) 32 hx208 rfl 109 (by kernel_rfl) (wR 1 110 ?_))))))))
   exact wK hk197 (e2, x182) h [(102, 100), (109, 101)] [7, 10]
  exact sK hk197 (e2, r157) h [(102, 100), (104, 101)] [7, 10]
 refine CO.skip (bB h fun r184 hx210 h => (CO.sw mix (wR 3 104 (wC (HR.ms_l10Sides a0 e2 a2 _ hx210) cok158 [] [(100, 104)] [104] (wR 1 105 (wF (CO.ret ?_)))))))
 cases h
 exact eG [(104, 100)] (.inr rfl) (RetV.one rfl (oT (t := 6) (r := .own 104)))

theorem ms_l10At_F_ok (N : Nat) (R : Rec1) (HR : RecOk1 R) (a0 : SL10W) (a1 : Int) (a2 : SPos) {r : LT} (h : ms_l10At_F N R a0 a1 a2 = some r) :
    AC Tryz.prog (GS []) 87 [.agg [.sl false false (a0.l.map (eSN false)), V.b a0.full], V.i a1, .agg [V.i a2.Level, V.b a2.Dollar, V.b a2.NoIn, V.b a2.NoGt, V.b a2.NoSign]] [] (.own 100) [(100, vX 105 3 eTk r)] := by
 rw [ms_l10At_F] at h
 refine AC.enter Tryz.func87 rfl (cV 100 (CO.seq' (bB h fun y10 hv14 h => ?_)))
 refine CO.cutR (tl 59 [(1, V.i a1), (3, .loc 100 0), (5, .loc 101 0), (19, V.b y10)]) [(100, .cells 48 [.sl false false (a0.l.map (eSN false)), V.b a0.full]), (101, .cells 30 [V.i a2.Level, V.b a2.Dollar, V.b a2.NoIn, V.b a2.NoGt, V.b a2.NoSign])] mix (by
  refine wR 3 102 (bB hv14 fun e11 hx15 hv14 => (wX (eSN false) hx15 5 (wR 2 102 (bB hv14 fun r12 hx16 hv14 => (w0 (ms_Fits_ok e11 a2 hx16) cok49 (wR 1 102 ?_))))))
  refine wJ 15 hv14 (fun hv14 => ?_) (fun hv14 => ?_)
  ·refine wR 4 102 ?_
   cases hv14
   exact fS [(100, 100), (101, 101)] [1, 3, 5, 19]
  refine wR 4 102 ?_
  cases hv14
  exact fS [(100, 100), (101, 101)] [1, 3, 5, 19]
  ) ?_
 refine cI h (fun _ h => ?_) (fun _ h => ?_)
 ·refine bB h fun r14 hx20 h => (CO.sw mix (wR 3 102 (wC (HR.ms_l10Node a0 a1 a2 _ hx20) cok126 [] [(100, 102)] [102] (wR 1 103 (wF (CO.ret ?_))))))
  cases h
  exact eG [(102, 100)] (.inr rfl) (RetV.one rfl (oT (t := 6) (r := .own 102)))
 refine CO.skip (CO.seq' (bB h fun y27 hv40 h => ?_))
 refine CO.cutR (tl 59 [(1, V.i a1), (3, .loc 100 0), (5, .loc 101 0), (43, V.b y27)]) [(100, .cells 48 [.sl false false (a0.l.map (eSN false)), V.b a0.full]), (101, .cells 30 [V.i a2.Level, V.b a2.Dollar, V.b a2.NoIn, V.b a2.NoGt, V.b a2.NoSign])] mix (by
  refine wR 3 102 ?_
  refine wJ 26 hv40 (fun hv40 => ?_) (fun hv40 => ?_)
  ·refine wR 3 102 (bB hv40 fun e28 hx42 hv40 => (wX (eSN false) hx42 5 (wR 1 102 (bB hv40 fun r29 hx43 hv40 => (w0 (ms_LevelOf_ok e28 hx43) cok79 (wR 3 102 ?_))))))
   refine wJ 35 hv40 (fun hv40 => ?_) (fun hv40 => ?_)
   ·refine wR 3 102 (bB hv40 fun e30 hx45 hv40 => (wX (eSN false) hx45 5 (wR 4 102 ?_)))
    cases hv40
    exact fS [(100, 100), (101, 101)] [1, 3, 5, 43]
   refine wR 8 102 ?_
   cases hv40
   exact fS [(100, 100), (101, 101)] [1, 3, 5, 43]
  refine wR 17 102 ?_
  cases hv40
  exact fS [(100, 100), (101, 101)] [1, 3, 5, 43]
  ) ?_
 refine cI h (fun _ h => ?_) (fun _ h => ?_)
 ·refine bB h fun r32 hx48 h => (CO.sw mix (wR 3 102 (wC (HR.ms_l10Node a0 a1 a2 _ hx48) cok126 [] [(100, 102)] [102] (wR 1 103 (wF (CO.ret ?_))))))
  cases h
  exact eG [(102, 100)] (.inr rfl) (RetV.one rfl (oT (t := 6) (r := .own 102)))
 refine CO.skip (bB h fun r37 hx53 h => (bB h fun r38 hx54 h => (bB h fun r39 hx55 h => (bB h fun x40 hx56 h => (CO.sw mix (w0 (ms_l10Tok_ok 32 hx53) cok86 (wR 3 102 (w0 (ms_Top_ok  hx54) cok53 ?_))))))))
 refine wC (HR.ms_l10Node a0 a1 r38 _ hx55) cok126 [] [(100, 103)] [103] (W.appO Dk eTk (a := 102) (c := 103) (el := 105) (sz := 3) 32 hx56 rfl 104 (by kernel_rfl) (wR 1 105 (wF (bB h fun r43 hx59 h => (bB h fun x44 hx60 h => (CO.sw mix (wR 1 105 (w0 (ms_l10Tok_ok 33 hx59) cok86 ?_))))))))
 refine wR 1 105 (W.appO Dk eTk (a := 104) (c := 105) (el := 105) (sz := 3) 32 hx60 rfl 106 (by kernel_rfl) (wR 1 107 (wF (CO.ret ?_))))
 cases h
 exact eG [(106, 100)] (.inr rfl) (RetV.one rfl (oT (t := 6) (r := .own 106)))

theorem scc1_ok : ∀ N, RecOk1 (scc1 N)
 | 0 => ⟨fun _ _ _ _ h => (by cases h), fun _ _ _ h => (by cases h), fun _ _ _ h => (by cases h), fun _ _ _ _ _ h => (by cases h), fun _ _ _ _ h => (by cases h), fun _ _ _ _ h => (by cases h)⟩
 | N + 1 => ⟨fun a0 a1 a2 _ h => ms_l10Sides_F_ok N (scc1 N) (scc1_ok N) a0 a1 a2 h, fun a0 a1 _ h => ms_l10Lvalue_F_ok N (scc1 N) (scc1_ok N) a0 a1 h, fun a0 a1 _ h => ms_l10List_F_ok N (scc1 N) (scc1_ok N) a0 a1 h, fun a0 a1 a2 a3 _ h => ms_l10Named_F_ok N (scc1 N) (scc1_ok N) a0 a1 a2 a3 h, fun a0 a1 a2 _ h => ms_l10Node_F_ok N (scc1 N) (scc1_ok N) a0 a1 a2 h, fun a0 a1 a2 _ h => ms_l10At_F_ok N (scc1 N) (scc1_ok N) a0 a1 a2 h⟩

theorem ms_l10At_ok (N : Nat) (a0 : SL10W) (a1 : Int) (a2 : SPos) {r : LT} (h : ms_l10At N a0 a1 a2 = some r) :
  AC Tryz.prog (GS []) 87 [.agg [.sl false false (a0.l.map (eSN false)), V.b a0.full], V.i a1, .agg [V.i a2.Level, V.b a2.Dollar, V.b a2.NoIn, V.b a2.NoGt, V.b a2.NoSign]] [] (.own 100) [(100, vX 105 3 eTk r)] :=
 (scc1_ok N).ms_l10At a0 a1 a2 r h

end Go.Proofs.Tryz
