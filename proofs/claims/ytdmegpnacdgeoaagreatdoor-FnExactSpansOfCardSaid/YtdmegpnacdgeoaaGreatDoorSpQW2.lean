/-
  The walks that show that the code computes the models, part 2.
-/
import Derived.Test.YtdmegpnacdgeoaaGreatDoorSpQW1
namespace Go.Proofs.Tryz
open Go.Av
set_option maxRecDepth 100000
set_option maxHeartbeats 8000000
set_option linter.unusedSimpArgs false
set_option linter.unusedVariables false

theorem ms_l7Kid_ok (a0 : SNode) (a1 : Int) (a2 : Int) {r : Bool} (h : ms_l7Kid a0 a1 a2 = some r) :
    AC Tryz.prog (GS []) 57 [.agg [V.i a0.Kind, V.i a0.Op, V.s a0.Text, V.s a0.Other, .sl false false (a0.Kids.map encI)], V.i a1, V.i a2] [] (V.b r) [] := by
 rw [ms_l7Kid] at h
 refine AC.enter Tryz.func57 rfl ?_
 refine cV 100 ?_
 refine CO.sw mix ?_
 refine wR 3 101 ?_
 refine W.len Dk encI a0.Kids [] (by kernel_rfl) (by kernel_rfl) ?_
 refine wR 3 101 ?_
 refine wF ?_
 refine cV 101 ?_
 refine CO.seq' ?_
 refine cV 101 ?_
 refine CO.block' ?_
 refine CO.join (fun (⟨a1, a2, a0, y52⟩ : (Int × Int × SNode × Bool)) => ⟨tl 184 [(1, V.i a1), (2, V.i a2), (3, .loc 100 0), (7, V.b (a1 == (IntKind.wrap .i64 ((a0.Kids.length : Int) - 1)))), (8, V.b (a2 == 33)), (18, V.i a0.Kind), (19, V.b y52)], [(100, .cells 54 [V.i a0.Kind, V.i a0.Op, V.s a0.Text, V.s a0.Other, .sl false false (a0.Kids.map encI)])]⟩) (fun i => ms_l7Kid_k1 i = some r) ?_ ?_
 · rintro ⟨a1, a2, a0, y52⟩ h181
   rw [ms_l7Kid_k1] at h181
   refine cI h181 (fun _ h181 => ?_) (fun _ h181 => ?_)
   ·refine bB h181 fun r54 hx184 h181 => ?_
    refine cC 1 101 (ms_IsLvalue_ok a2 hx184) cok87 ?_
    cases h181
    exact e1 6 id
   refine cV 101 ?_
   refine cI h181 (fun _ h181 => ?_) (fun _ h181 => ?_)
   ·refine bB h181 fun y57 hv190 h181 => ?_
    refine CO.cutR (tl 184 [(6, V.b y57)]) [] mix (by
     refine wR 1 101 ?_
     refine bB hv190 fun r58 hx191 hv190 => ?_
     refine W.call0 (ms_IsExpr_ok a2 hx191) cok44 rfl (by kernel_rfl) ?_
     refine wR 1 101 ?_
     refine wJ 28 hv190 (fun hv190 => ?_) (fun hv190 => ?_)
     ·refine wR 3 101 ?_
      refine wJ 31 hv190 (fun hv190 => ?_) (fun hv190 => ?_)
      ·refine wR 5 101 ?_
       cases hv190
       exact fS [] [6]
      refine wR 1 101 ?_
      refine bB hv190 fun r59 hx194 hv190 => ?_
      refine W.call0 (ms_IsLvalue_ok a2 hx194) cok87 rfl (by kernel_rfl) ?_
      refine wR 3 101 ?_
      cases hv190
      exact fS [] [6]
     refine wR 8 101 ?_
     cases hv190
     exact fS [] [6]
     ) ?_
    cases h181
    exact e1 6 id
   refine cV 101 ?_
   refine cI h181 (fun _ h181 => ?_) (fun _ h181 => ?_)
   ·refine bB h181 fun y61 hv201 h181 => ?_
    refine CO.cutR (tl 184 [(6, V.b y61)]) [] mix (by
     refine wR 3 101 ?_
     refine wJ 40 hv201 (fun hv201 => ?_) (fun hv201 => ?_)
     ·refine wR 1 101 ?_
      refine bB hv201 fun r62 hx203 hv201 => ?_
      refine W.call0 (ms_IsExpr_ok a2 hx203) cok44 rfl (by kernel_rfl) ?_
      refine wR 2 101 ?_
      refine wJ 44 hv201 (fun hv201 => ?_) (fun hv201 => ?_)
      ·refine wR 7 101 ?_
       cases hv201
       exact fS [] [6]
      refine wR 3 101 ?_
      refine wJ 47 hv201 (fun hv201 => ?_) (fun hv201 => ?_)
      ·refine wR 4 101 ?_
       cases hv201
       exact fS [] [6]
      refine wR 4 101 ?_
      cases hv201
      exact fS [] [6]
     refine wR 7 101 ?_
     refine wJ 47 hv201 (fun hv201 => ?_) (fun hv201 => ?_)
     ·refine wR 4 101 ?_
      cases hv201
      exact fS [] [6]
     refine wR 4 101 ?_
     cases hv201
     exact fS [] [6]
     ) ?_
    cases h181
    exact e1 6 id
   refine cV 101 ?_
   refine cI h181 (fun _ h181 => ?_) (fun _ h181 => ?_)
   ·refine bB h181 fun y64 hv213 h181 => ?_
    refine CO.cutR (tl 184 [(6, V.b y64)]) [] mix (by
     refine wR 3 101 ?_
     refine wJ 55 hv213 (fun hv213 => ?_) (fun hv213 => ?_)
     ·refine wR 1 101 ?_
      refine bB hv213 fun r65 hx215 hv213 => ?_
      refine W.call0 (ms_IsExpr_ok a2 hx215) cok44 rfl (by kernel_rfl) ?_
      refine wR 2 101 ?_
      refine wJ 59 hv213 (fun hv213 => ?_) (fun hv213 => ?_)
      ·refine wR 7 101 ?_
       cases hv213
       exact fS [] [6]
      refine wR 3 101 ?_
      refine wJ 62 hv213 (fun hv213 => ?_) (fun hv213 => ?_)
      ·refine wR 4 101 ?_
       cases hv213
       exact fS [] [6]
      refine wR 4 101 ?_
      cases hv213
      exact fS [] [6]
     refine wR 7 101 ?_
     refine wJ 62 hv213 (fun hv213 => ?_) (fun hv213 => ?_)
     ·refine wR 4 101 ?_
      cases hv213
      exact fS [] [6]
     refine wR 4 101 ?_
     cases hv213
     exact fS [] [6]
     ) ?_
    cases h181
    exact e1 6 id
   refine cV 101 ?_
   refine cI h181 (fun _ h181 => ?_) (fun _ h181 => ?_)
   ·refine bB h181 fun y68 hv226 h181 => ?_
    refine CO.cutR (tl 184 [(6, V.b y68)]) [] mix (by
     refine wR 3 101 ?_
     refine wJ 70 hv226 (fun hv226 => ?_) (fun hv226 => ?_)
     ·refine wR 3 101 ?_
      refine wJ 73 hv226 (fun hv226 => ?_) (fun hv226 => ?_)
      ·refine wR 8 101 ?_
       cases hv226
       exact fS [] [6]
      refine wR 3 101 ?_
      refine wJ 76 hv226 (fun hv226 => ?_) (fun hv226 => ?_)
      ·refine wR 1 101 ?_
       refine bB hv226 fun r69 hx230 hv226 => ?_
       refine W.call0 (ms_IsExpr_ok a2 hx230) cok44 rfl (by kernel_rfl) ?_
       refine wR 3 101 ?_
       cases hv226
       exact fS [] [6]
      refine wR 5 101 ?_
      cases hv226
      exact fS [] [6]
     refine wR 6 101 ?_
     refine wJ 76 hv226 (fun hv226 => ?_) (fun hv226 => ?_)
     ·refine wR 1 101 ?_
      refine bB hv226 fun r70 hx232 hv226 => ?_
      refine W.call0 (ms_IsExpr_ok a2 hx232) cok44 rfl (by kernel_rfl) ?_
      refine wR 3 101 ?_
      cases hv226
      exact fS [] [6]
     refine wR 5 101 ?_
     cases hv226
     exact fS [] [6]
     ) ?_
    cases h181
    exact e1 6 id
   refine cV 101 ?_
   refine cI h181 (fun _ h181 => ?_) (fun _ h181 => ?_)
   ·refine bB h181 fun y72 hv240 h181 => ?_
    refine CO.cutR (tl 184 [(6, V.b y72)]) [] mix (by
     refine wR 3 101 ?_
     refine wJ 85 hv240 (fun hv240 => ?_) (fun hv240 => ?_)
     ·refine wR 1 101 ?_
      refine bB hv240 fun r73 hx242 hv240 => ?_
      refine W.call0 (ms_IsExpr_ok a2 hx242) cok44 rfl (by kernel_rfl) ?_
      refine wR 1 101 ?_
      refine wJ 88 hv240 (fun hv240 => ?_) (fun hv240 => ?_)
      ·refine wR 12 101 ?_
       cases hv240
       exact fS [] [6]
      refine wR 5 101 ?_
      refine wJ 93 hv240 (fun hv240 => ?_) (fun hv240 => ?_)
      ·refine wR 7 101 ?_
       cases hv240
       exact fS [] [6]
      refine wR 3 101 ?_
      refine wJ 96 hv240 (fun hv240 => ?_) (fun hv240 => ?_)
      ·refine wR 4 101 ?_
       cases hv240
       exact fS [] [6]
      refine wR 4 101 ?_
      cases hv240
      exact fS [] [6]
     refine wR 11 101 ?_
     refine wJ 96 hv240 (fun hv240 => ?_) (fun hv240 => ?_)
     ·refine wR 4 101 ?_
      cases hv240
      exact fS [] [6]
     refine wR 4 101 ?_
     cases hv240
     exact fS [] [6]
     ) ?_
    cases h181
    exact e1 6 id
   refine CO.join (fun (⟨a1, a2, a0, y74⟩ : (Int × Int × SNode × Bool)) => ⟨tl 184 [(1, V.i a1), (2, V.i a2), (3, .loc 100 0), (7, V.b (a1 == (IntKind.wrap .i64 ((a0.Kids.length : Int) - 1)))), (8, V.b (a2 == 33)), (18, V.i a0.Kind), (100, V.b y74)], [(100, .cells 54 [V.i a0.Kind, V.i a0.Op, V.s a0.Text, V.s a0.Other, .sl false false (a0.Kids.map encI)])]⟩) (fun i => ms_l7Kid_k2 i = some r) ?_ ?_
   · rintro ⟨a1, a2, a0, y74⟩ h249
     rw [ms_l7Kid_k2] at h249
     refine cI h249 (fun _ h249 => ?_) (fun _ h249 => ?_)
     ·refine cV 101 ?_
      cases h249
      exact e1 6 id
     refine cV 101 ?_
     refine cI h249 (fun _ h249 => ?_) (fun _ h249 => ?_)
     ·refine bB h249 fun r76 hx253 h249 => ?_
      refine cC 1 101 (ms_IsStmt_ok a2 hx253) cok88 ?_
      cases h249
      exact e1 6 id
     refine cV 101 ?_
     refine cI h249 (fun _ h249 => ?_) (fun _ h249 => ?_)
     ·refine bB h249 fun y86 hv290 h249 => ?_
      refine CO.cutR (tl 184 [(6, V.b y86)]) [] mix (by
       refine wR 4 101 ?_
       refine wJ 114 hv290 (fun hv290 => ?_) (fun hv290 => ?_)
       ·refine wR 1 101 ?_
        refine bB hv290 fun r87 hx292 hv290 => ?_
        refine W.call0 (ms_IsExpr_ok a2 hx292) cok44 rfl (by kernel_rfl) ?_
        refine wR 2 101 ?_
        refine wJ 118 hv290 (fun hv290 => ?_) (fun hv290 => ?_)
        ·refine wR 27 101 ?_
         cases hv290
         exact fS [] [6]
        refine wR 4 101 ?_
        refine wJ 122 hv290 (fun hv290 => ?_) (fun hv290 => ?_)
        ·refine wR 4 101 ?_
         refine wJ 126 hv290 (fun hv290 => ?_) (fun hv290 => ?_)
         ·refine wR 19 101 ?_
          cases hv290
          exact fS [] [6]
         refine wR 4 101 ?_
         refine wJ 130 hv290 (fun hv290 => ?_) (fun hv290 => ?_)
         ·refine wR 2 101 ?_
          refine wJ 132 hv290 (fun hv290 => ?_) (fun hv290 => ?_)
          ·refine wR 3 101 ?_
           refine wJ 135 hv290 (fun hv290 => ?_) (fun hv290 => ?_)
           ·refine wR 10 101 ?_
            cases hv290
            exact fS [] [6]
           refine wR 3 101 ?_
           refine wJ 138 hv290 (fun hv290 => ?_) (fun hv290 => ?_)
           ·refine wR 1 101 ?_
            refine bB hv290 fun r88 hx300 hv290 => ?_
            refine W.call0 (ms_IsExpr_ok a2 hx300) cok44 rfl (by kernel_rfl) ?_
            refine wR 5 101 ?_
            cases hv290
            exact fS [] [6]
           refine wR 7 101 ?_
           cases hv290
           exact fS [] [6]
          refine wR 6 101 ?_
          refine wJ 138 hv290 (fun hv290 => ?_) (fun hv290 => ?_)
          ·refine wR 1 101 ?_
           refine bB hv290 fun r89 hx302 hv290 => ?_
           refine W.call0 (ms_IsExpr_ok a2 hx302) cok44 rfl (by kernel_rfl) ?_
           refine wR 5 101 ?_
           cases hv290
           exact fS [] [6]
          refine wR 7 101 ?_
          cases hv290
          exact fS [] [6]
         refine wR 15 101 ?_
         cases hv290
         exact fS [] [6]
        refine wR 8 101 ?_
        refine wJ 130 hv290 (fun hv290 => ?_) (fun hv290 => ?_)
        ·refine wR 2 101 ?_
         refine wJ 132 hv290 (fun hv290 => ?_) (fun hv290 => ?_)
         ·refine wR 3 101 ?_
          refine wJ 135 hv290 (fun hv290 => ?_) (fun hv290 => ?_)
          ·refine wR 10 101 ?_
           cases hv290
           exact fS [] [6]
          refine wR 3 101 ?_
          refine wJ 138 hv290 (fun hv290 => ?_) (fun hv290 => ?_)
          ·refine wR 1 101 ?_
           refine bB hv290 fun r90 hx307 hv290 => ?_
           refine W.call0 (ms_IsExpr_ok a2 hx307) cok44 rfl (by kernel_rfl) ?_
           refine wR 5 101 ?_
           cases hv290
           exact fS [] [6]
          refine wR 7 101 ?_
          cases hv290
          exact fS [] [6]
         refine wR 6 101 ?_
         refine wJ 138 hv290 (fun hv290 => ?_) (fun hv290 => ?_)
         ·refine wR 1 101 ?_
          refine bB hv290 fun r91 hx309 hv290 => ?_
          refine W.call0 (ms_IsExpr_ok a2 hx309) cok44 rfl (by kernel_rfl) ?_
          refine wR 5 101 ?_
          cases hv290
          exact fS [] [6]
         refine wR 7 101 ?_
         cases hv290
         exact fS [] [6]
        refine wR 15 101 ?_
        cases hv290
        exact fS [] [6]
       refine wR 8 101 ?_
       refine wJ 122 hv290 (fun hv290 => ?_) (fun hv290 => ?_)
       ·refine wR 4 101 ?_
        refine wJ 126 hv290 (fun hv290 => ?_) (fun hv290 => ?_)
        ·refine wR 19 101 ?_
         cases hv290
         exact fS [] [6]
        refine wR 4 101 ?_
        refine wJ 130 hv290 (fun hv290 => ?_) (fun hv290 => ?_)
        ·refine wR 2 101 ?_
         refine wJ 132 hv290 (fun hv290 => ?_) (fun hv290 => ?_)
         ·refine wR 3 101 ?_
          refine wJ 135 hv290 (fun hv290 => ?_) (fun hv290 => ?_)
          ·refine wR 10 101 ?_
           cases hv290
           exact fS [] [6]
          refine wR 3 101 ?_
          refine wJ 138 hv290 (fun hv290 => ?_) (fun hv290 => ?_)
          ·refine wR 1 101 ?_
           refine bB hv290 fun r92 hx316 hv290 => ?_
           refine W.call0 (ms_IsExpr_ok a2 hx316) cok44 rfl (by kernel_rfl) ?_
           refine wR 5 101 ?_
           cases hv290
           exact fS [] [6]
          refine wR 7 101 ?_
          cases hv290
          exact fS [] [6]
         refine wR 6 101 ?_
         refine wJ 138 hv290 (fun hv290 => ?_) (fun hv290 => ?_)
         ·refine wR 1 101 ?_
          refine bB hv290 fun r93 hx318 hv290 => ?_
          refine W.call0 (ms_IsExpr_ok a2 hx318) cok44 rfl (by kernel_rfl) ?_
          refine wR 5 101 ?_
          cases hv290
          exact fS [] [6]
         refine wR 7 101 ?_
         cases hv290
         exact fS [] [6]
        refine wR 15 101 ?_
        cases hv290
        exact fS [] [6]
       refine wR 8 101 ?_
       refine wJ 130 hv290 (fun hv290 => ?_) (fun hv290 => ?_)
       ·refine wR 2 101 ?_
        refine wJ 132 hv290 (fun hv290 => ?_) (fun hv290 => ?_)
        ·refine wR 3 101 ?_
         refine wJ 135 hv290 (fun hv290 => ?_) (fun hv290 => ?_)
         ·refine wR 10 101 ?_
          cases hv290
          exact fS [] [6]
         refine wR 3 101 ?_
         refine wJ 138 hv290 (fun hv290 => ?_) (fun hv290 => ?_)
         ·refine wR 1 101 ?_
          refine bB hv290 fun r94 hx323 hv290 => ?_
          refine W.call0 (ms_IsExpr_ok a2 hx323) cok44 rfl (by kernel_rfl) ?_
          refine wR 5 101 ?_
          cases hv290
          exact fS [] [6]
         refine wR 7 101 ?_
         cases hv290
         exact fS [] [6]
        refine wR 6 101 ?_
        refine wJ 138 hv290 (fun hv290 => ?_) (fun hv290 => ?_)
        ·refine wR 1 101 ?_
         refine bB hv290 fun r95 hx325 hv290 => ?_
         refine W.call0 (ms_IsExpr_ok a2 hx325) cok44 rfl (by kernel_rfl) ?_
         refine wR 5 101 ?_
         cases hv290
         exact fS [] [6]
        refine wR 7 101 ?_
        cases hv290
        exact fS [] [6]
       refine wR 15 101 ?_
       cases hv290
       exact fS [] [6]
       ) ?_
      cases h249
      exact e1 6 id
     refine cV 101 ?_
     refine cI h249 (fun _ h249 => ?_) (fun _ h249 => ?_)
     ·refine bB h249 fun y97 hv332 h249 => ?_
      refine CO.cutR (tl 184 [(6, V.b y97)]) [] mix (by
       refine wR 3 101 ?_
       refine wJ 149 hv332 (fun hv332 => ?_) (fun hv332 => ?_)
       ·refine wR 1 101 ?_
        refine bB hv332 fun r98 hx334 hv332 => ?_
        refine W.call0 (ms_IsExpr_ok a2 hx334) cok44 rfl (by kernel_rfl) ?_
        refine wR 2 101 ?_
        refine wJ 153 hv332 (fun hv332 => ?_) (fun hv332 => ?_)
        ·refine wR 7 101 ?_
         cases hv332
         exact fS [] [6]
        refine wR 3 101 ?_
        refine wJ 156 hv332 (fun hv332 => ?_) (fun hv332 => ?_)
        ·refine wR 4 101 ?_
         cases hv332
         exact fS [] [6]
        refine wR 4 101 ?_
        cases hv332
        exact fS [] [6]
       refine wR 7 101 ?_
       refine wJ 156 hv332 (fun hv332 => ?_) (fun hv332 => ?_)
       ·refine wR 4 101 ?_
        cases hv332
        exact fS [] [6]
       refine wR 4 101 ?_
       cases hv332
       exact fS [] [6]
       ) ?_
      cases h249
      exact e1 6 id
     refine cV 101 ?_
     refine cI h249 (fun _ h249 => ?_) (fun _ h249 => ?_)
     ·refine bB h249 fun y99 hv343 h249 => ?_
      refine CO.cutR (tl 184 [(6, V.b y99)]) [] mix (by
       refine wR 2 101 ?_
       refine wJ 163 hv343 (fun hv343 => ?_) (fun hv343 => ?_)
       ·refine wR 3 101 ?_
        refine wJ 166 hv343 (fun hv343 => ?_) (fun hv343 => ?_)
        ·refine wR 8 101 ?_
         cases hv343
         exact fS [] [6]
        refine wR 3 101 ?_
        refine wJ 169 hv343 (fun hv343 => ?_) (fun hv343 => ?_)
        ·refine wR 5 101 ?_
         cases hv343
         exact fS [] [6]
        refine wR 5 101 ?_
        cases hv343
        exact fS [] [6]
       refine wR 6 101 ?_
       refine wJ 169 hv343 (fun hv343 => ?_) (fun hv343 => ?_)
       ·refine wR 5 101 ?_
        cases hv343
        exact fS [] [6]
       refine wR 5 101 ?_
       cases hv343
       exact fS [] [6]
       ) ?_
      cases h249
      exact e1 6 id
     refine cV 101 ?_
     refine cI h249 (fun _ h249 => ?_) (fun _ h249 => ?_)
     ·refine bB h249 fun y101 hv351 h249 => ?_
      refine CO.cutR (tl 184 [(6, V.b y101)]) [] mix (by
       refine wR 1 101 ?_
       refine bB hv351 fun r102 hx352 hv351 => ?_
       refine W.call0 (ms_l1In_ok a2 40 44 hx352) cok45 rfl (by kernel_rfl) ?_
       refine wR 1 101 ?_
       refine wJ 178 hv351 (fun hv351 => ?_) (fun hv351 => ?_)
       ·refine wR 4 101 ?_
        cases hv351
        exact fS [] [6]
       refine wR 4 101 ?_
       cases hv351
       exact fS [] [6]
       ) ?_
      cases h249
      exact e1 6 id
     refine CO.skip ?_
     refine bB h249 fun r104 hx355 h249 => ?_
     refine cC 1 101 (ms_IsExpr_ok a2 hx355) cok44 ?_
     cases h249
     exact e1 6 id
   intro hk356
   refine cV 101 ?_
   refine cI h181 (fun _ h181 => ?_) (fun _ h181 => ?_)
   ·exact sK hk356 (a1, a2, a0, (a0.Kind == 32)) h181 [(100, 100)] [1, 2, 3, 7, 8, 18, 100]
   refine cV 101 ?_
   refine cI h181 (fun _ h181 => ?_) (fun _ h181 => ?_)
   ·exact sK hk356 (a1, a2, a0, (a0.Kind == 40)) h181 [(100, 100)] [1, 2, 3, 7, 8, 18, 100]
   exact cK 101 hk356 (a1, a2, a0, (a0.Kind == 41)) h181 [(100, 100)] [1, 2, 3, 7, 8, 18, 100]
 intro hk359
 refine cV 101 ?_
 refine cI h (fun _ h => ?_) (fun _ h => ?_)
 ·exact sK hk359 (a1, a2, a0, (a0.Kind == 9)) h [(100, 100)] [1, 2, 3, 7, 8, 18, 19]
 exact cK 101 hk359 (a1, a2, a0, (a0.Kind == 10)) h [(100, 100)] [1, 2, 3, 7, 8, 18, 19]

theorem ms_TreeOk_ok (N : Nat) (a0 : List SNode) {r : Bool} (h : ms_TreeOk N a0 = some r) :
    AC Tryz.prog (GS []) 33 [.sl false false (a0.map (eSN false))] [] (V.b r) [] := by
 rw [ms_TreeOk] at h
 refine AC.enter Tryz.func33 rfl ?_
 refine cV 100 ?_
 refine CO.seq' ?_
 refine bB h fun y8 hv12 h => ?_
 refine CO.cutR (tl 54 [(0, .sl false false (a0.map (eSN false))), (12, V.b y8)]) [] mix (by
  refine wR 1 100 ?_
  refine bB hv12 fun r9 hx13 hv12 => ?_
  refine W.call0 (ms_ShapeOk_ok N a0 hx13) cok54 rfl (by kernel_rfl) ?_
  refine wR 2 100 ?_
  refine wJ 8 hv12 (fun hv12 => ?_) (fun hv12 => ?_)
  ·refine wR 4 100 ?_
   cases hv12
   exact fS [] [0, 12]
  refine wR 1 100 ?_
  refine bB hv12 fun r10 hx15 hv12 => ?_
  refine W.call0 (ms_DepthOf_ok N a0 hx15) cok55 rfl (by kernel_rfl) ?_
  refine wR 2 100 ?_
  cases hv12
  exact fS [] [0, 12]
  ) ?_
 refine cI h (fun _ h => ?_) (fun _ h => ?_)
 ·refine cV 100 ?_
  cases h
  exact e1 2 id
 refine CO.skip ?_
 refine CO.seq' ?_
 refine cV 100 ?_
 refine CO.block' ?_
 refine CO.loopJ (fun (⟨a0, y669⟩ : ((List SNode) × Int)) => ⟨tl 54 [(0, .sl false false (a0.map (eSN false))), (3, V.i y669)], []⟩) (fun n i => ms_TreeOk_l1 N n i = some r) (n0 := N) (i0 := (a0, 0)) (wS [] [0, 3]) h (fun i h => by simp [ms_TreeOk_l1] at h) ?_
 rintro n1 ⟨a0, y669⟩ h989 ih990
 rw [ms_TreeOk_l1] at h989
 refine CO.seq' ?_
 refine CO.sw mix ?_
 refine wR 2 280 ?_
 refine W.len Dk (eSN false) a0 [] (by kernel_rfl) (by kernel_rfl) ?_
 refine wR 1 280 ?_
 refine wF ?_
 refine cI h989 (fun _ h989 => ?_) (fun _ h989 => ?_)
 ·refine CO.skip ?_
  refine CO.seq' ?_
  refine CO.block' ?_
  refine CO.seq' ?_
  refine bB h989 fun e923 hx1096 h989 => ?_
  refine bB h989 fun r924 hx1097 h989 => ?_
  refine CO.sw mix ?_
  refine wR 2 280 ?_
  refine W.ixD Dk (eSN false) hx1096 5 (by kernel_rfl) (by kernel_rfl) ?_
  refine wR 1 280 ?_
  refine W.call0 (ms_FieldsOk_ok N e923 hx1097) cok56 rfl (by kernel_rfl) ?_
  refine wR 1 280 ?_
  refine wF ?_
  refine cI h989 (fun _ h989 => ?_) (fun _ h989 => ?_)
  ·refine cV 280 ?_
   cases h989
   exact e1 2 id
  refine CO.skip ?_
  refine cV 280 ?_
  refine CO.block' ?_
  refine CO.loopJ (fun (⟨a0, y669, y949⟩ : ((List SNode) × Int × Int)) => ⟨tl 54 [(0, .sl false false (a0.map (eSN false))), (3, V.i y669), (4, V.i y949)], []⟩) (fun n i => ms_TreeOk_l2 N (ms_TreeOk_l1 N n1) n i = some r) (n0 := N) (i0 := (a0, y669, 0)) (wS [] [0, 3, 4]) h989 (fun i h => by simp [ms_TreeOk_l2] at h) ?_
  rintro n2 ⟨a0, y669, y949⟩ h1155 ih1156
  rw [ms_TreeOk_l2] at h1155
  refine CO.seq' ?_
  refine bB h1155 fun e978 hx1161 h1155 => ?_
  refine CO.sw mix ?_
  refine wR 3 340 ?_
  refine W.ixD Dk (eSN false) hx1161 5 (by kernel_rfl) (by kernel_rfl) ?_
  refine wR 2 340 ?_
  refine W.len Dk encI e978.Kids [] (by kernel_rfl) (by kernel_rfl) ?_
  refine wR 1 340 ?_
  refine wF ?_
  refine cI h1155 (fun _ h1155 => ?_) (fun _ h1155 => ?_)
  ·refine CO.skip ?_
   refine CO.seq' ?_
   refine CO.block' ?_
   refine bB h1155 fun e994 hx1179 h1155 => ?_
   refine bB h1155 fun e995 hx1180 h1155 => ?_
   refine bB h1155 fun e996 hx1181 h1155 => ?_
   refine bB h1155 fun e997 hx1182 h1155 => ?_
   refine bB h1155 fun r998 hx1183 h1155 => ?_
   refine CO.sw mix ?_
   refine wR 2 340 ?_
   refine W.ixD Dk (eSN false) hx1179 5 (by kernel_rfl) (by kernel_rfl) ?_
   refine wR 5 340 ?_
   refine W.ixD Dk (eSN false) hx1180 5 (by kernel_rfl) (by kernel_rfl) ?_
   refine wR 3 340 ?_
   refine W.ixD Dk encI hx1181 1 (by kernel_rfl) (by kernel_rfl) ?_
   refine wR 1 340 ?_
   refine W.ixD Dk (eSN false) hx1182 5 (by kernel_rfl) (by kernel_rfl) ?_
   refine wR 2 340 ?_
   refine W.call0 (ms_l7Kid_ok e994 y949 e997.Kind hx1183) cok57 rfl (by kernel_rfl) ?_
   refine wR 1 340 ?_
   refine wF ?_
   refine cI h1155 (fun _ h1155 => ?_) (fun _ h1155 => ?_)
   ·refine cV 340 ?_
    cases h1155
    exact e1 2 id
   refine CO.skip ?_
   exact cK 340 ih1156 (a0, y669, (IntKind.wrap .i64 (y949 + 1))) h1155 [] [0, 3, 4]
  refine CO.exit ?_
  exact cK 340 ih990 (a0, (IntKind.wrap .i64 (y669 + 1))) h1155 [] [0, 3]
 refine CO.exit ?_
 refine cV 280 ?_
 cases h989
 exact e1 2 id

theorem ms_ExprOk_ok (N : Nat) (a0 : List SNode) {r : Bool} (h : ms_ExprOk N a0 = some r) :
    AC Tryz.prog (GS []) 25 [.sl false false (a0.map (eSN false))] [] (V.b r) [] := by
 rw [ms_ExprOk] at h
 refine AC.enter Tryz.func25 rfl ?_
 refine cV 100 ?_
 refine bB h fun y4 hv5 h => ?_
 refine CO.cutR (tl 15 [(2, V.b y4)]) [] mix (by
  refine wR 1 100 ?_
  refine bB hv5 fun r5 hx6 hv5 => ?_
  refine W.call0 (ms_TreeOk_ok N a0 hx6) cok33 rfl (by kernel_rfl) ?_
  refine wR 1 100 ?_
  refine wJ 5 hv5 (fun hv5 => ?_) (fun hv5 => ?_)
  ·refine wR 2 100 ?_
   refine W.len Dk (eSN false) a0 [] (by kernel_rfl) (by kernel_rfl) ?_
   refine wR 1 100 ?_
   refine bB hv5 fun e6 hx8 hv5 => ?_
   refine W.ixD Dk (eSN false) hx8 5 (by kernel_rfl) (by kernel_rfl) ?_
   refine wR 2 100 ?_
   refine bB hv5 fun r7 hx9 hv5 => ?_
   refine W.call0 (ms_IsExpr_ok e6.Kind hx9) cok44 rfl (by kernel_rfl) ?_
   refine wR 2 100 ?_
   cases hv5
   exact fS [] [2]
  refine wR 10 100 ?_
  cases hv5
  exact fS [] [2]
  ) ?_
 cases h
 exact e1 2 id

theorem ms_PosOk_ok (a0 : SPos) {r : Bool} (h : ms_PosOk a0 = some r) :
    AC Tryz.prog (GS []) 26 [.agg [V.i a0.Level, V.b a0.Dollar, V.b a0.NoIn, V.b a0.NoGt, V.b a0.NoSign]] [] (V.b r) [] := by
 rw [ms_PosOk] at h
 refine AC.enter Tryz.func26 rfl ?_
 refine cV 100 ?_
 refine bB h fun y2 hv4 h => ?_
 refine CO.cutR (tl 16 [(2, V.b y2)]) [] mix (by
  refine wR 2 101 ?_
  refine bB hv4 fun r3 hx5 hv4 => ?_
  refine W.call0 (ms_l1In_ok a0.Level 1 15 hx5) cok45 rfl (by kernel_rfl) ?_
  refine wR 1 101 ?_
  refine wJ 6 hv4 (fun hv4 => ?_) (fun hv4 => ?_)
  ·refine wR 4 101 ?_
   refine wJ 10 hv4 (fun hv4 => ?_) (fun hv4 => ?_)
   ·refine wR 6 101 ?_
    cases hv4
    exact fS [] [2]
   refine wR 6 101 ?_
   cases hv4
   exact fS [] [2]
  refine wR 10 101 ?_
  cases hv4
  exact fS [] [2]
  ) ?_
 cases h
 exact e1 2 id

theorem ms_OpLevel_ok (a0 : Int) {r : Int} (h : ms_OpLevel a0 = some r) :
    AC Tryz.prog (GS []) 110 [V.i a0] [] (V.i r) [] := by
 rw [ms_OpLevel] at h
 refine AC.enter Tryz.func110 rfl ?_
 refine cV 100 ?_
 refine CO.seq' ?_
 refine cV 100 ?_
 refine CO.block' ?_
 refine cV 100 ?_
 refine cI h (fun _ h => ?_) (fun _ h => ?_)
 ·refine cV 100 ?_
  cases h
  exact e1 2 id
 refine cV 100 ?_
 refine cI h (fun _ h => ?_) (fun _ h => ?_)
 ·refine cV 100 ?_
  cases h
  exact e1 2 id
 refine CO.join (fun (⟨a0, y5⟩ : (Int × Bool)) => ⟨tl 29 [(3, V.i a0), (8, V.b y5)], []⟩) (fun i => ms_OpLevel_k1 i = some r) ?_ ?_
 · rintro ⟨a0, y5⟩ h38
   rw [ms_OpLevel_k1] at h38
   refine cI h38 (fun _ h38 => ?_) (fun _ h38 => ?_)
   ·refine cV 100 ?_
    cases h38
    exact e1 2 id
   refine CO.join (fun (⟨a0, y6⟩ : (Int × Bool)) => ⟨tl 29 [(3, V.i a0), (11, V.b y6)], []⟩) (fun i => ms_OpLevel_k2 i = some r) ?_ ?_
   · rintro ⟨a0, y6⟩ h45
     rw [ms_OpLevel_k2] at h45
     refine cI h45 (fun _ h45 => ?_) (fun _ h45 => ?_)
     ·refine cV 100 ?_
      cases h45
      exact e1 2 id
     refine cV 100 ?_
     refine cI h45 (fun _ h45 => ?_) (fun _ h45 => ?_)
     ·refine cV 100 ?_
      cases h45
      exact e1 2 id
     refine CO.join (fun (⟨a0, y7⟩ : (Int × Bool)) => ⟨tl 29 [(3, V.i a0), (20, V.b y7)], []⟩) (fun i => ms_OpLevel_k3 i = some r) ?_ ?_
     · rintro ⟨a0, y7⟩ h49
       rw [ms_OpLevel_k3] at h49
       refine cI h49 (fun _ h49 => ?_) (fun _ h49 => ?_)
       ·refine cV 100 ?_
        cases h49
        exact e1 2 id
       refine CO.join (fun (⟨a0, y8⟩ : (Int × Bool)) => ⟨tl 29 [(3, V.i a0), (23, V.b y8)], []⟩) (fun i => ms_OpLevel_k4 i = some r) ?_ ?_
       · rintro ⟨a0, y8⟩ h53
         rw [ms_OpLevel_k4] at h53
         refine cI h53 (fun _ h53 => ?_) (fun _ h53 => ?_)
         ·refine cV 100 ?_
          cases h53
          exact e1 2 id
         refine cV 100 ?_
         refine cI h53 (fun _ h53 => ?_) (fun _ h53 => ?_)
         ·refine cV 100 ?_
          cases h53
          exact e1 2 id
         refine CO.skip ?_
         refine cV 100 ?_
         cases h53
         exact e1 2 id
       intro hk56
       refine cV 100 ?_
       refine cI h49 (fun _ h49 => ?_) (fun _ h49 => ?_)
       ·exact sK hk56 (a0, (a0 == 57)) h49 [] [3, 23]
       refine cV 100 ?_
       refine cI h49 (fun _ h49 => ?_) (fun _ h49 => ?_)
       ·exact sK hk56 (a0, (a0 == 58)) h49 [] [3, 23]
       exact cK 100 hk56 (a0, (a0 == 59)) h49 [] [3, 23]
     intro hk59
     refine cV 100 ?_
     refine cI h45 (fun _ h45 => ?_) (fun _ h45 => ?_)
     ·exact sK hk59 (a0, (a0 == 55)) h45 [] [3, 20]
     exact cK 100 hk59 (a0, (a0 == 56)) h45 [] [3, 20]
   intro hk61
   refine cV 100 ?_
   refine cI h38 (fun _ h38 => ?_) (fun _ h38 => ?_)
   ·exact sK hk61 (a0, (a0 == 63)) h38 [] [3, 11]
   refine cV 100 ?_
   refine cI h38 (fun _ h38 => ?_) (fun _ h38 => ?_)
   ·exact sK hk61 (a0, (a0 == 48)) h38 [] [3, 11]
   refine cV 100 ?_
   refine cI h38 (fun _ h38 => ?_) (fun _ h38 => ?_)
   ·exact sK hk61 (a0, (a0 == 47)) h38 [] [3, 11]
   refine cV 100 ?_
   refine cI h38 (fun _ h38 => ?_) (fun _ h38 => ?_)
   ·exact sK hk61 (a0, (a0 == 50)) h38 [] [3, 11]
   refine cV 100 ?_
   refine cI h38 (fun _ h38 => ?_) (fun _ h38 => ?_)
   ·exact sK hk61 (a0, (a0 == 62)) h38 [] [3, 11]
   exact cK 100 hk61 (a0, (a0 == 49)) h38 [] [3, 11]
 intro hk67
 refine cV 100 ?_
 refine cI h (fun _ h => ?_) (fun _ h => ?_)
 ·exact sK hk67 (a0, (a0 == 67)) h [] [3, 8]
 exact cK 100 hk67 (a0, (a0 == 46)) h [] [3, 8]

theorem ms_LevelOf_ok (a0 : SNode) {r : Int} (h : ms_LevelOf a0 = some r) :
    AC Tryz.prog (GS []) 71 [.agg [V.i a0.Kind, V.i a0.Op, V.s a0.Text, V.s a0.Other, .sl false false (a0.Kids.map encI)]] [] (V.i r) [] := by
 rw [ms_LevelOf] at h
 refine AC.enter Tryz.func71 rfl ?_
 refine cV 100 ?_
 refine CO.seq' ?_
 refine cV 101 ?_
 refine CO.block' ?_
 refine cV 101 ?_
 refine cI h (fun _ h => ?_) (fun _ h => ?_)
 ·refine cV 101 ?_
  cases h
  exact e1 2 id
 refine cV 101 ?_
 refine cI h (fun _ h => ?_) (fun _ h => ?_)
 ·refine cV 101 ?_
  cases h
  exact e1 2 id
 refine cV 101 ?_
 refine cI h (fun _ h => ?_) (fun _ h => ?_)
 ·refine cV 101 ?_
  cases h
  exact e1 2 id
 refine cV 101 ?_
 refine cI h (fun _ h => ?_) (fun _ h => ?_)
 ·refine bB h fun r6 hx34 h => ?_
  refine cC 2 101 (ms_OpLevel_ok a0.Op hx34) cok110 ?_
  cases h
  exact e1 2 id
 refine cV 101 ?_
 refine cI h (fun _ h => ?_) (fun _ h => ?_)
 ·refine cV 101 ?_
  cases h
  exact e1 2 id
 refine CO.join (fun (⟨a0, y7⟩ : (SNode × Bool)) => ⟨tl 31 [(4, V.i a0.Kind), (18, V.b y7)], []⟩) (fun i => ms_LevelOf_k1 i = some r) ?_ ?_
 · rintro ⟨a0, y7⟩ h37
   rw [ms_LevelOf_k1] at h37
   refine cI h37 (fun _ h37 => ?_) (fun _ h37 => ?_)
   ·refine cV 101 ?_
    cases h37
    exact e1 2 id
   refine cV 101 ?_
   refine cI h37 (fun _ h37 => ?_) (fun _ h37 => ?_)
   ·refine cV 101 ?_
    cases h37
    exact e1 2 id
   refine CO.join (fun (y8 : Bool) => ⟨tl 31 [(23, V.b y8)], []⟩) (fun i => ms_LevelOf_k2 i = some r) ?_ ?_
   · rintro y8 h46
     rw [ms_LevelOf_k2] at h46
     refine cI h46 (fun _ h46 => ?_) (fun _ h46 => ?_)
     ·refine cV 101 ?_
      cases h46
      exact e1 2 id
     refine CO.skip ?_
     refine cV 101 ?_
     cases h46
     exact e1 2 id
   intro hk48
   refine cV 101 ?_
   refine cI h37 (fun _ h37 => ?_) (fun _ h37 => ?_)
   ·exact sK hk48 (a0.Kind == 1) h37 [] [23]
   refine cV 101 ?_
   refine cI h37 (fun _ h37 => ?_) (fun _ h37 => ?_)
   ·exact sK hk48 (a0.Kind == 2) h37 [] [23]
   refine cV 101 ?_
   refine cI h37 (fun _ h37 => ?_) (fun _ h37 => ?_)
   ·exact sK hk48 (a0.Kind == 3) h37 [] [23]
   refine cV 101 ?_
   refine cI h37 (fun _ h37 => ?_) (fun _ h37 => ?_)
   ·exact sK hk48 (a0.Kind == 4) h37 [] [23]
   refine cV 101 ?_
   refine cI h37 (fun _ h37 => ?_) (fun _ h37 => ?_)
   ·exact sK hk48 (a0.Kind == 5) h37 [] [23]
   refine cV 101 ?_
   refine cI h37 (fun _ h37 => ?_) (fun _ h37 => ?_)
   ·exact sK hk48 (a0.Kind == 7) h37 [] [23]
   exact cK 101 hk48 (a0.Kind == 8) h37 [] [23]
 intro hk55
 refine cV 101 ?_
 refine cI h (fun _ h => ?_) (fun _ h => ?_)
 ·exact sK hk55 (a0, (a0.Kind == 9)) h [] [4, 18]
 exact cK 101 hk55 (a0, (a0.Kind == 10)) h [] [4, 18]

theorem ms_Fits_ok (a0 : SNode) (a1 : SPos) {r : Bool} (h : ms_Fits a0 a1 = some r) :
    AC Tryz.prog (GS []) 46 [.agg [V.i a0.Kind, V.i a0.Op, V.s a0.Text, V.s a0.Other, .sl false false (a0.Kids.map encI)], .agg [V.i a1.Level, V.b a1.Dollar, V.b a1.NoIn, V.b a1.NoGt, V.b a1.NoSign]] [] (V.b r) [] := by
 rw [ms_Fits] at h
 refine AC.enter Tryz.func46 rfl ?_
 refine cV 100 ?_
 refine CO.seq' ?_
 refine CO.block' ?_
 refine bB h fun y12 hv34 h => ?_
 refine CO.cutR (tl 66 [(2, .loc 100 0), (3, .loc 101 0), (5, V.b y12)]) [(100, .cells 54 [V.i a0.Kind, V.i a0.Op, V.s a0.Text, V.s a0.Other, .sl false false (a0.Kids.map encI)]), (101, .cells 30 [V.i a1.Level, V.b a1.Dollar, V.b a1.NoIn, V.b a1.NoGt, V.b a1.NoSign])] mix (by
  refine wR 1 102 ?_
  refine bB hv34 fun r13 hx35 hv34 => ?_
  refine W.call0 (ms_PosOk_ok a1 hx35) cok26 rfl (by kernel_rfl) ?_
  refine wR 2 102 ?_
  refine wJ 9 hv34 (fun hv34 => ?_) (fun hv34 => ?_)
  ·refine wR 5 102 ?_
   cases hv34
   exact fS [(100, 100), (101, 101)] [2, 3, 5]
  refine wR 1 102 ?_
  refine bB hv34 fun r14 hx37 hv34 => ?_
  refine W.call0 (ms_LevelOf_ok a0 hx37) cok71 rfl (by kernel_rfl) ?_
  refine wR 3 102 ?_
  cases hv34
  exact fS [(100, 100), (101, 101)] [2, 3, 5]
  ) ?_
 refine cI h (fun _ h => ?_) (fun _ h => ?_)
 ·refine cV 102 ?_
  cases h
  exact e1 4 id
 refine bB h fun y15 hv40 h => ?_
 refine CO.cutR (tl 66 [(2, .loc 100 0), (3, .loc 101 0), (14, V.b y15)]) [(100, .cells 54 [V.i a0.Kind, V.i a0.Op, V.s a0.Text, V.s a0.Other, .sl false false (a0.Kids.map encI)]), (101, .cells 30 [V.i a1.Level, V.b a1.Dollar, V.b a1.NoIn, V.b a1.NoGt, V.b a1.NoSign])] mix (by
  refine wR 3 102 ?_
  refine wJ 17 hv40 (fun hv40 => ?_) (fun hv40 => ?_)
  ·refine wR 5 102 ?_
   cases hv40
   exact fS [(100, 100), (101, 101)] [2, 3, 14]
  refine wR 5 102 ?_
  cases hv40
  exact fS [(100, 100), (101, 101)] [2, 3, 14]
  ) ?_
 refine cI h (fun _ h => ?_) (fun _ h => ?_)
 ·refine cV 102 ?_
  cases h
  exact e1 4 id
 refine bB h fun y16 hv45 h => ?_
 refine CO.cutR (tl 66 [(2, .loc 100 0), (3, .loc 101 0), (22, V.b y16)]) [(100, .cells 54 [V.i a0.Kind, V.i a0.Op, V.s a0.Text, V.s a0.Other, .sl false false (a0.Kids.map encI)]), (101, .cells 30 [V.i a1.Level, V.b a1.Dollar, V.b a1.NoIn, V.b a1.NoGt, V.b a1.NoSign])] mix (by
  refine wR 3 102 ?_
  refine wJ 25 hv45 (fun hv45 => ?_) (fun hv45 => ?_)
  ·refine wR 5 102 ?_
   refine wJ 30 hv45 (fun hv45 => ?_) (fun hv45 => ?_)
   ·refine wR 5 102 ?_
    cases hv45
    exact fS [(100, 100), (101, 101)] [2, 3, 22]
   refine wR 5 102 ?_
   cases hv45
   exact fS [(100, 100), (101, 101)] [2, 3, 22]
  refine wR 10 102 ?_
  cases hv45
  exact fS [(100, 100), (101, 101)] [2, 3, 22]
  ) ?_
 refine cI h (fun _ h => ?_) (fun _ h => ?_)
 ·refine cV 102 ?_
  cases h
  exact e1 4 id
 refine bB h fun y17 hv52 h => ?_
 refine CO.cutR (tl 66 [(2, .loc 100 0), (3, .loc 101 0), (35, V.b y17)]) [(100, .cells 54 [V.i a0.Kind, V.i a0.Op, V.s a0.Text, V.s a0.Other, .sl false false (a0.Kids.map encI)]), (101, .cells 30 [V.i a1.Level, V.b a1.Dollar, V.b a1.NoIn, V.b a1.NoGt, V.b a1.NoSign])] mix (by
  refine wR 3 102 ?_
  refine wJ 38 hv52 (fun hv52 => ?_) (fun hv52 => ?_)
  ·refine wR 4 102 ?_
   refine wJ 42 hv52 (fun hv52 => ?_) (fun hv52 => ?_)
   ·refine wR 11 102 ?_
    cases hv52
    exact fS [(100, 100), (101, 101)] [2, 3, 35]
   refine wR 5 102 ?_
   refine wJ 47 hv52 (fun hv52 => ?_) (fun hv52 => ?_)
   ·refine wR 6 102 ?_
    cases hv52
    exact fS [(100, 100), (101, 101)] [2, 3, 35]
   refine wR 6 102 ?_
   cases hv52
   exact fS [(100, 100), (101, 101)] [2, 3, 35]
  refine wR 15 102 ?_
  cases hv52
  exact fS [(100, 100), (101, 101)] [2, 3, 35]
  ) ?_
 refine cI h (fun _ h => ?_) (fun _ h => ?_)
 ·refine cV 102 ?_
  cases h
  exact e1 4 id
 refine bB h fun y18 hv58 h => ?_
 refine CO.cutR (tl 66 [(2, .loc 100 0), (3, .loc 101 0), (53, V.b y18)]) [(100, .cells 54 [V.i a0.Kind, V.i a0.Op, V.s a0.Text, V.s a0.Other, .sl false false (a0.Kids.map encI)]), (101, .cells 30 [V.i a1.Level, V.b a1.Dollar, V.b a1.NoIn, V.b a1.NoGt, V.b a1.NoSign])] mix (by
  refine wR 3 102 ?_
  refine wJ 56 hv58 (fun hv58 => ?_) (fun hv58 => ?_)
  ·refine wR 5 102 ?_
   cases hv58
   exact fS [(100, 100), (101, 101)] [2, 3, 53]
  refine wR 5 102 ?_
  cases hv58
  exact fS [(100, 100), (101, 101)] [2, 3, 53]
  ) ?_
 refine cI h (fun _ h => ?_) (fun _ h => ?_)
 ·refine cV 102 ?_
  cases h
  exact e1 4 id
 refine CO.skip ?_
 refine bB h fun r20 hx62 h => ?_
 refine cC 1 102 (ms_LevelOf_ok a0 hx62) cok71 ?_
 refine CO.ret ?_
 have h := sI h
 subst h
 exact eG [] (.inr rfl) (RetV.one rfl (oT (t := 4) (r := V.b (decide (r20 ≥ a1.Level)))))

theorem ms_Top_ok {r : SPos} (h : ms_Top = some r) :
    AC Tryz.prog (GS []) 48 [] [] (.agg [V.i r.Level, V.b r.Dollar, V.b r.NoIn, V.b r.NoGt, V.b r.NoSign]) [] := by
 rw [ms_Top] at h
 refine AC.enter Tryz.func48 rfl ?_
 refine cV 100 ?_
 refine cV 101 ?_
 refine CO.ret ?_
 cases h
 exact eG [] (.inr rfl) (RetV.one rfl (OneR.cell Dk (r := .agg [V.i 1, V.b false, V.b false, V.b false, V.b false]) (i := 100) (ety := 30) (cs := [V.i 1, V.b false, V.b false, V.b false, V.b false]) (by kernel_rfl) (by kernel_rfl) (by kernel_rfl)))

theorem ms_l9Sides_ok (a0 : Int) {r : (Int × Int)} (h : ms_l9Sides a0 = some r) :
    AC Tryz.prog (GS []) 111 [V.i a0] [] (.tup [V.i r.1, V.i r.2]) [] := by
 rw [ms_l9Sides] at h
 refine AC.enter Tryz.func111 rfl ?_
 refine cV 100 ?_
 refine CO.seq' ?_
 refine bB h fun r4 hx11 h => ?_
 refine cC 1 100 (ms_OpLevel_ok a0 hx11) cok110 ?_
 refine CO.block' ?_
 refine cV 100 ?_
 refine cI h (fun _ h => ?_) (fun _ h => ?_)
 ·refine cV 100 ?_
  refine CO.ret ?_
  cases h
  exact eG [] (.inr rfl) (RetV.two rfl (oT (t := 2) (r := V.i 3)) (oT (t := 3) (r := V.i 4)))
 refine cV 100 ?_
 refine cI h (fun _ h => ?_) (fun _ h => ?_)
 ·refine cV 100 ?_
  refine CO.ret ?_
  cases h
  exact eG [] (.inr rfl) (RetV.two rfl (oT (t := 2) (r := V.i 4)) (oT (t := 3) (r := V.i 5)))
 refine cV 100 ?_
 refine cI h (fun _ h => ?_) (fun _ h => ?_)
 ·refine cV 100 ?_
  refine CO.ret ?_
  cases h
  exact eG [] (.inr rfl) (RetV.two rfl (oT (t := 2) (r := V.i 7)) (oT (t := 3) (r := V.i 7)))
 refine cV 100 ?_
 refine cI h (fun _ h => ?_) (fun _ h => ?_)
 ·refine cV 100 ?_
  refine CO.ret ?_
  cases h
  exact eG [] (.inr rfl) (RetV.two rfl (oT (t := 2) (r := V.i 8)) (oT (t := 3) (r := V.i 8)))
 refine cV 100 ?_
 refine cI h (fun _ h => ?_) (fun _ h => ?_)
 ·refine cV 100 ?_
  refine CO.ret ?_
  cases h
  exact eG [] (.inr rfl) (RetV.two rfl (oT (t := 2) (r := V.i 8)) (oT (t := 3) (r := V.i 9)))
 refine cV 100 ?_
 refine cI h (fun _ h => ?_) (fun _ h => ?_)
 ·refine cV 100 ?_
  refine CO.ret ?_
  cases h
  exact eG [] (.inr rfl) (RetV.two rfl (oT (t := 2) (r := V.i 9)) (oT (t := 3) (r := V.i 10)))
 refine cV 100 ?_
 refine cI h (fun _ h => ?_) (fun _ h => ?_)
 ·refine cV 100 ?_
  refine CO.ret ?_
  cases h
  exact eG [] (.inr rfl) (RetV.two rfl (oT (t := 2) (r := V.i 10)) (oT (t := 3) (r := V.i 11)))
 refine CO.skip ?_
 refine cV 100 ?_
 refine CO.ret ?_
 cases h
 exact eG [] (.inr rfl) (RetV.two rfl (oT (t := 2) (r := V.i 13)) (oT (t := 3) (r := V.i 11)))

theorem ms_KidPos_ok (a0 : SNode) (a1 : Int) (a2 : SPos) {r : SPos} (h : ms_KidPos a0 a1 a2 = some r) :
    AC Tryz.prog (GS []) 73 [.agg [V.i a0.Kind, V.i a0.Op, V.s a0.Text, V.s a0.Other, .sl false false (a0.Kids.map encI)], V.i a1, .agg [V.i a2.Level, V.b a2.Dollar, V.b a2.NoIn, V.b a2.NoGt, V.b a2.NoSign]] [] (.agg [V.i r.Level, V.b r.Dollar, V.b r.NoIn, V.b r.NoGt, V.b r.NoSign]) [] := by
 rw [ms_KidPos] at h
 refine AC.enter Tryz.func73 rfl ?_
 refine cV 100 ?_
 refine CO.seq' ?_
 refine bB h fun y11 hv18 h => ?_
 refine CO.cutR (tl 95 [(1, V.i a1), (3, .loc 100 0), (5, .loc 101 0), (6, .loc 102 0), (26, V.b y11)]) [(100, .cells 54 [V.i a0.Kind, V.i a0.Op, V.s a0.Text, V.s a0.Other, .sl false false (a0.Kids.map encI)]), (101, .cells 30 [V.i a2.Level, V.b a2.Dollar, V.b a2.NoIn, V.b a2.NoGt, V.b a2.NoSign]), (102, .cells 30 [V.i 0, V.b false, V.b false, V.b false, V.b false])] mix (by
  refine wR 1 103 ?_
  refine bB hv18 fun r12 hx19 hv18 => ?_
  refine W.call0 (ms_PosOk_ok a2 hx19) cok26 rfl (by kernel_rfl) ?_
  refine wR 2 103 ?_
  refine wJ 13 hv18 (fun hv18 => ?_) (fun hv18 => ?_)
  ·refine wR 13 103 ?_
   cases hv18
   exact fS [(100, 100), (101, 101), (102, 102)] [1, 3, 5, 6, 26]
  refine wR 3 103 ?_
  refine W.len Dk encI a0.Kids [] (by kernel_rfl) (by kernel_rfl) ?_
  refine wR 1 103 ?_
  refine bB hv18 fun r13 hx21 hv18 => ?_
  refine W.call0 (ms_l1In_ok a1 0 (IntKind.wrap .i64 ((a0.Kids.length : Int) - 1)) hx21) cok45 rfl (by kernel_rfl) ?_
  refine wR 3 103 ?_
  refine wJ 22 hv18 (fun hv18 => ?_) (fun hv18 => ?_)
  ·refine wR 4 103 ?_
   cases hv18
   exact fS [(100, 100), (101, 101), (102, 102)] [1, 3, 5, 6, 26]
  refine wR 1 103 ?_
  refine bB hv18 fun r14 hx23 hv18 => ?_
  refine W.call0 (ms_LevelOf_ok a0 hx23) cok71 rfl (by kernel_rfl) ?_
  refine wR 2 103 ?_
  cases hv18
  exact fS [(100, 100), (101, 101), (102, 102)] [1, 3, 5, 6, 26]
  ) ?_
 refine cI h (fun _ h => ?_) (fun _ h => ?_)
 ·refine cV 103 ?_
  refine CO.ret ?_
  cases h
  exact eG [] (.inr rfl) (RetV.one rfl (OneR.cell Dk (r := .agg [V.i 0, V.b false, V.b false, V.b false, V.b false]) (i := 102) (ety := 30) (cs := [V.i 0, V.b false, V.b false, V.b false, V.b false]) (by kernel_rfl) (by kernel_rfl) (by kernel_rfl)))
 refine CO.skip ?_
 refine bB h fun y15 hv26 h => ?_
 refine CO.cutR (tl 95 [(1, V.i a1), (3, .loc 100 0), (6, .loc 101 0), (7, .loc 102 0)]) [(100, .cells 54 [V.i a0.Kind, V.i a0.Op, V.s a0.Text, V.s a0.Other, .sl false false (a0.Kids.map encI)]), (101, .cells 30 [V.i 0, V.b false, V.b false, V.b false, V.b false]), (102, .cells 30 [V.i 0, V.b false, V.b a2.NoIn, V.b a2.NoGt, V.b y15])] mix (by
  refine wR 7 103 ?_
  refine wJ 34 hv26 (fun hv26 => ?_) (fun hv26 => ?_)
  ·refine wR 6 103 ?_
   cases hv26
   exact fS [(100, 100), (102, 101), (103, 102)] [1, 3, 6, 7]
  refine wR 6 103 ?_
  cases hv26
  exact fS [(100, 100), (102, 101), (103, 102)] [1, 3, 6, 7]
  ) ?_
 refine CO.join (fun (⟨a2, y25, y26, y27⟩ : (SPos × Int × Bool × Bool)) => ⟨tl 95 [(6, .loc 100 0), (7, .loc 101 0)], [(100, .cells 30 [V.i 0, V.b false, V.b false, V.b false, V.b false]), (101, .cells 30 [V.i y25, V.b y26, V.b a2.NoIn, V.b a2.NoGt, V.b y27])]⟩) (fun i => ms_KidPos_k1 i = some r) ?_ ?_
 · rintro ⟨a2, y25, y26, y27⟩ h52
   rw [ms_KidPos_k1] at h52
   refine cV 104 ?_
   refine CO.ret ?_
   have h52 := sI h52
   subst h52
   exact eG [] (.inr rfl) (RetV.one rfl (OneR.cell Dk (r := .agg [V.i y25, V.b y26, V.b a2.NoIn, V.b a2.NoGt, V.b y27]) (i := 100) (ety := 30) (cs := [V.i y25, V.b y26, V.b a2.NoIn, V.b a2.NoGt, V.b y27]) (by kernel_rfl) (by kernel_rfl) (by kernel_rfl)))
 intro hk53
 refine cV 104 ?_
 refine CO.block' ?_
 refine cV 104 ?_
 refine cI h (fun _ h => ?_) (fun _ h => ?_)
 ·refine cV 104 ?_
  refine cV 104 ?_
  refine cI h (fun _ h => ?_) (fun _ h => ?_)
  ·exact cK 104 hk53 (a2, 1, false, y15) h [(101, 100), (102, 101)] [6, 7]
  exact sK hk53 (a2, 14, false, y15) h [(101, 100), (102, 101)] [6, 7]
 refine cV 104 ?_
 refine cI h (fun _ h => ?_) (fun _ h => ?_)
 ·refine cV 104 ?_
  refine cV 104 ?_
  refine cI h (fun _ h => ?_) (fun _ h => ?_)
  ·exact cK 104 hk53 (a2, 3, false, y15) h [(101, 100), (102, 101)] [6, 7]
  exact sK hk53 (a2, 2, false, y15) h [(101, 100), (102, 101)] [6, 7]
 refine cV 104 ?_
 refine cI h (fun _ h => ?_) (fun _ h => ?_)
 ·refine CO.seq' ?_
  refine CO.sw mix ?_
  refine wR 2 104 ?_
  refine W.len Dk encI a0.Kids [] (by kernel_rfl) (by kernel_rfl) ?_
  refine wR 1 104 ?_
  refine wF ?_
  refine cI h (fun _ h => ?_) (fun _ h => ?_)
  ·refine bB h fun r31 hx64 h => ?_
   refine cC 0 104 (ms_Top_ok  hx64) cok48 ?_
   refine CO.ret ?_
   have h := sI h
   subst h
   exact eG [] (.inr rfl) (RetV.one rfl (OneR.cell Dk (r := .agg [V.i r31.Level, V.b r31.Dollar, V.b r31.NoIn, V.b r31.NoGt, V.b r31.NoSign]) (i := 101) (ety := 30) (cs := [V.i r31.Level, V.b r31.Dollar, V.b r31.NoIn, V.b r31.NoGt, V.b r31.NoSign]) (by kernel_rfl) (by kernel_rfl) (by kernel_rfl)))
  refine CO.skip ?_
  exact cK 104 hk53 (a2, 5, false, y15) h [(101, 100), (102, 101)] [6, 7]
 refine cV 104 ?_
 refine cI h (fun _ h => ?_) (fun _ h => ?_)
 ·refine bB h fun r33 hx67 h => ?_
  refine cC 2 104 (ms_l9Sides_ok a0.Op hx67) cok111 ?_
  refine cV 104 ?_
  refine cV 104 ?_
  refine cI h (fun _ h => ?_) (fun _ h => ?_)
  ·refine cV 104 ?_
   exact cK 104 hk53 (a2, r33.2, false, (a0.Op == 99)) h [(101, 100), (102, 101)] [6, 7]
  exact sK hk53 (a2, r33.1, false, y15) h [(101, 100), (102, 101)] [6, 7]
 refine cV 104 ?_
 refine cI h (fun _ h => ?_) (fun _ h => ?_)
 ·refine cV 104 ?_
  exact cK 104 hk53 (a2, 11, false, false) h [(101, 100), (102, 101)] [6, 7]
 refine CO.join (fun (⟨a0, a2, y15, y34⟩ : (SNode × SPos × Bool × Bool)) => ⟨tl 95 [(6, .loc 100 0), (7, .loc 101 0), (40, V.i a0.Kind), (84, V.b y34)], [(100, .cells 30 [V.i 0, V.b false, V.b false, V.b false, V.b false]), (101, .cells 30 [V.i 0, V.b false, V.b a2.NoIn, V.b a2.NoGt, V.b y15])]⟩) (fun i => ms_KidPos_k2 i = some r) ?_ ?_
 · rintro ⟨a0, a2, y15, y34⟩ h71
   rw [ms_KidPos_k2] at h71
   refine cI h71 (fun _ h71 => ?_) (fun _ h71 => ?_)
   ·refine cV 104 ?_
    exact cK 104 hk53 (a2, 14, false, false) h71 [(100, 100), (101, 101)] [6, 7]
   refine cV 104 ?_
   refine cI h71 (fun _ h71 => ?_) (fun _ h71 => ?_)
   ·refine cV 104 ?_
    refine cV 104 ?_
    exact cK 104 hk53 (a2, 14, true, false) h71 [(100, 100), (101, 101)] [6, 7]
   refine bB h71 fun r36 hx75 h71 => ?_
   refine cC 0 104 (ms_Top_ok  hx75) cok48 ?_
   refine CO.ret ?_
   have h71 := sI h71
   subst h71
   exact eG [] (.inr rfl) (RetV.one rfl (OneR.cell Dk (r := .agg [V.i r36.Level, V.b r36.Dollar, V.b r36.NoIn, V.b r36.NoGt, V.b r36.NoSign]) (i := 100) (ety := 30) (cs := [V.i r36.Level, V.b r36.Dollar, V.b r36.NoIn, V.b r36.NoGt, V.b r36.NoSign]) (by kernel_rfl) (by kernel_rfl) (by kernel_rfl)))
 intro hk76
 refine cV 104 ?_
 refine cI h (fun _ h => ?_) (fun _ h => ?_)
 ·exact sK hk76 (a0, a2, y15, (a0.Kind == 9)) h [(101, 100), (102, 101)] [6, 7, 40, 84]
 exact cK 104 hk76 (a0, a2, y15, (a0.Kind == 10)) h [(101, 100), (102, 101)] [6, 7, 40, 84]

structure RecOk1 (R : Rec1) : Prop where
  ms_l30List : ∀ (a1 : List Int) (a2 : Int) (p0_0 : List SNode) (p0_1 : Bool) (p1 : List SSpan) (r : (Int × (List SSpan))), R.ms_l30List a1 a2 p0_0 p0_1 p1 = some r → AC Tryz.prog (GS []) 72 [.loc 0 0, .sl false false (a1.map encI), V.i a2] [(0, .cells 52 [.sl false false (p0_0.map (eSN false)), V.b p0_1, .own 1]), (1, .vec false 61 2 (p1.map encSSpan))] (V.i r.1) [(0, .cells 52 [.sl false false (p0_0.map (eSN false)), V.b p0_1, .own 100]), (100, .vec false 61 2 (r.2.map encSSpan))]
  ms_l30Node : ∀ (a1 : Int) (a2 : SPos) (a3 : Int) (p0_0 : List SNode) (p0_1 : Bool) (p1 : List SSpan) (r : (Int × (List SSpan))), R.ms_l30Node a1 a2 a3 p0_0 p0_1 p1 = some r → AC Tryz.prog (GS []) 47 [.loc 0 0, V.i a1, .agg [V.i a2.Level, V.b a2.Dollar, V.b a2.NoIn, V.b a2.NoGt, V.b a2.NoSign], V.i a3] [(0, .cells 52 [.sl false false (p0_0.map (eSN false)), V.b p0_1, .own 1]), (1, .vec false 61 2 (p1.map encSSpan))] (V.i r.1) [(0, .cells 52 [.sl false false (p0_0.map (eSN false)), V.b p0_1, .own 100]), (100, .vec false 61 2 (r.2.map encSSpan))]
  ms_l30At : ∀ (a1 : Int) (a2 : SPos) (a3 : Int) (p0_0 : List SNode) (p0_1 : Bool) (p1 : List SSpan) (r : (Int × (List SSpan))), R.ms_l30At a1 a2 a3 p0_0 p0_1 p1 = some r → AC Tryz.prog (GS []) 27 [.loc 0 0, V.i a1, .agg [V.i a2.Level, V.b a2.Dollar, V.b a2.NoIn, V.b a2.NoGt, V.b a2.NoSign], V.i a3] [(0, .cells 52 [.sl false false (p0_0.map (eSN false)), V.b p0_1, .own 1]), (1, .vec false 61 2 (p1.map encSSpan))] (V.i r.1) [(0, .cells 52 [.sl false false (p0_0.map (eSN false)), V.b p0_1, .own 100]), (100, .vec false 61 2 (r.2.map encSSpan))]

theorem ms_l30List_F_ok (N : Nat) (R : Rec1) (HR : RecOk1 R) (a1 : List Int) (a2 : Int) (p0_0 : List SNode) (p0_1 : Bool) (p1 : List SSpan) {r : (Int × (List SSpan))} (h : ms_l30List_F N R a1 a2 p0_0 p0_1 p1 = some r) :
    AC Tryz.prog (GS []) 72 [.loc 0 0, .sl false false (a1.map encI), V.i a2] [(0, .cells 52 [.sl false false (p0_0.map (eSN false)), V.b p0_1, .own 1]), (1, .vec false 61 2 (p1.map encSSpan))] (V.i r.1) [(0, .cells 52 [.sl false false (p0_0.map (eSN false)), V.b p0_1, .own 100]), (100, .vec false 61 2 (r.2.map encSSpan))] := by
 rw [ms_l30List_F] at h
 refine AC.enter Tryz.func72 rfl ?_
 refine cV 100 ?_
 refine CO.seq' ?_
 refine cV 100 ?_
 refine CO.block' ?_
 refine CO.loopJ (fun (⟨a1, y59, y60, y61⟩ : ((List Int) × Int × Int × (List SSpan))) => ⟨tl 27 [(0, .loc 0 0), (1, .sl false false (a1.map encI)), (2, V.i y59), (7, V.i y60)], [(0, .cells 52 [.sl false false (p0_0.map (eSN false)), V.b p0_1, .own 100]), (100, .vec false 61 2 (y61.map encSSpan))]⟩) (fun n i => ms_l30List_l1 N R p0_0 p0_1 n i = some r) (n0 := N) (i0 := (a1, a2, 0, p1)) (wS [(0, 0), (1, 100)] [0, 1, 2, 7]) h (fun i h => by simp [ms_l30List_l1] at h) ?_
 rintro n1 ⟨a1, y59, y60, y61⟩ h97 ih98
 rw [ms_l30List_l1] at h97
 refine CO.seq' ?_
 refine CO.sw mix ?_
 refine wR 2 162 ?_
 refine W.len Dk encI a1 [] (by kernel_rfl) (by kernel_rfl) ?_
 refine wR 1 162 ?_
 refine wF ?_
 refine cI h97 (fun _ h97 => ?_) (fun _ h97 => ?_)
 ·refine CO.skip ?_
  refine CO.seq' ?_
  refine CO.block' ?_
  refine CO.join (fun (⟨a1, y60, y61, y86⟩ : ((List Int) × Int × (List SSpan) × Int)) => ⟨tl 27 [(0, .loc 0 0), (1, .sl false false (a1.map encI)), (2, V.i y86), (7, V.i y60)], [(0, .cells 52 [.sl false false (p0_0.map (eSN false)), V.b p0_1, .own 100]), (100, .vec false 61 2 (y61.map encSSpan))]⟩) (fun i => ms_l30List_k2 N R p0_0 p0_1 (ms_l30List_l1 N R p0_0 p0_1 n1) i = some r) ?_ ?_
  · rintro ⟨a1, y60, y61, y86⟩ h112
    rw [ms_l30List_k2] at h112
    refine bB h112 fun e90 hx116 h112 => ?_
    refine bB h112 fun r91 hx117 h112 => ?_
    refine bB h112 fun r92 hx118 h112 => ?_
    refine CO.endR (tl 27 [(0, .loc 0 0), (1, .sl false false (a1.map encI)), (2, V.i r92.1), (7, V.i y60)]) [(162, .vec false 61 2 (r92.2.map encSSpan)), (0, .cells 52 [.sl false false (p0_0.map (eSN false)), V.b p0_1, .own 162])] mix (by
     refine wR 3 162 ?_
     refine W.ixD Dk encI hx116 1 (by kernel_rfl) (by kernel_rfl) ?_
     refine wR 1 162 ?_
     refine W.call0 (ms_Top_ok  hx117) cok48 rfl (by kernel_rfl) ?_
     refine wR 1 162 ?_
     refine W.call (HR.ms_l30At e90 r91 y86 p0_0 p0_1 y61 _ hx118) cok27 [(0, 0), (100, 1)] [(0, 0), (100, 162)] [162] (show LayOk _ [] from trivial) (by kernel_rfl) (by kernel_rfl) ?_
     refine wR 1 163 ?_
     exact fI
     ) (fun st hw => ?_)
    refine CO.weak hw ?_
    exact cK 163 ih98 (a1, r92.1, (IntKind.wrap .i64 (y60 + 1)), r92.2) h112 [(0, 0), (162, 100)] [0, 1, 2, 7]
  intro hk119
  refine cV 162 ?_
  refine cI h97 (fun _ h97 => ?_) (fun _ h97 => ?_)
  ·exact cK 162 hk119 (a1, y60, y61, (IntKind.wrap .i64 (y59 + 1))) h97 [(0, 0), (100, 100)] [0, 1, 2, 7]
  exact sK hk119 (a1, y60, y61, y59) h97 [(0, 0), (100, 100)] [0, 1, 2, 7]
 refine CO.exit ?_
 refine cV 162 ?_
 refine CO.ret ?_
 cases h97
 exact eG [(0, 0), (100, 100)] (.inr rfl) (RetV.one rfl (oT (t := 6) (r := V.i y59)))

theorem ms_l30Node_F_ok (N : Nat) (R : Rec1) (HR : RecOk1 R) (a1 : Int) (a2 : SPos) (a3 : Int) (p0_0 : List SNode) (p0_1 : Bool) (p1 : List SSpan) {r : (Int × (List SSpan))} (h : ms_l30Node_F N R a1 a2 a3 p0_0 p0_1 p1 = some r) :
    AC Tryz.prog (GS []) 47 [.loc 0 0, V.i a1, .agg [V.i a2.Level, V.b a2.Dollar, V.b a2.NoIn, V.b a2.NoGt, V.b a2.NoSign], V.i a3] [(0, .cells 52 [.sl false false (p0_0.map (eSN false)), V.b p0_1, .own 1]), (1, .vec false 61 2 (p1.map encSSpan))] (V.i r.1) [(0, .cells 52 [.sl false false (p0_0.map (eSN false)), V.b p0_1, .own 100]), (100, .vec false 61 2 (r.2.map encSSpan))] := by
 rw [ms_l30Node_F] at h
 refine AC.enter Tryz.func47 rfl ?_
 refine cV 100 ?_
 refine bB h fun e2 hx2 h => ?_
 refine CO.sw mix ?_
 refine wR 6 101 ?_
 refine W.ixD Dk (eSN false) hx2 5 (by kernel_rfl) (by kernel_rfl) ?_
 refine wR 3 101 ?_
 refine wF ?_
 refine bB h fun e5 hx5 h => ?_
 refine bB h fun x6 hu6 h => ?_
 refine CO.sw mix ?_
 refine wR 6 102 ?_
 refine W.ixO Dk encSSpan hx5 1 2 (by kernel_rfl) ?_
 refine wR 1 102 ?_
 refine W.stO Dk encSSpan (x' := (⟨a3, e5.To⟩ : SSpan)) hx5 hu6 (j := 1) (nn := false) (ety := 61) (sz := 2) (b := 0) (ys := [V.i a3]) (C := []) (R := []) (by kernel_rfl) (by kernel_rfl) ?_
 refine wF ?_
 refine cV 102 ?_
 refine cV 103 ?_
 refine CO.join (fun (⟨a1, y74, y75⟩ : (Int × Int × (List SSpan))) => ⟨tl 194 [(0, .loc 0 0), (1, V.i a1), (11, V.i y74)], [(0, .cells 52 [.sl false false (p0_0.map (eSN false)), V.b p0_1, .own 100]), (100, .vec false 61 2 (y75.map encSSpan))]⟩) (fun i => ms_l30Node_k1 N R p0_0 p0_1 i = some r) ?_ ?_
 · rintro ⟨a1, y74, y75⟩ h94
   rw [ms_l30Node_k1] at h94
   refine bB h94 fun e78 hx97 h94 => ?_
   refine bB h94 fun x79 hu98 h94 => ?_
   refine CO.sw mix ?_
   refine wR 6 106 ?_
   refine W.ixO Dk encSSpan hx97 100 2 (by kernel_rfl) ?_
   refine wR 1 106 ?_
   refine W.stO Dk encSSpan (x' := (⟨e78.From, y74⟩ : SSpan)) hx97 hu98 (j := 100) (nn := false) (ety := 61) (sz := 2) (b := 1) (ys := [V.i y74]) (C := []) (R := []) (by kernel_rfl) (by kernel_rfl) ?_
   refine wF ?_
   refine cV 106 ?_
   refine CO.ret ?_
   cases h94
   exact eG [(0, 0), (100, 100)] (.inr rfl) (RetV.one rfl (oT (t := 8) (r := V.i y74)))
 intro hk99
 refine cV 103 ?_
 refine CO.block' ?_
 refine CO.join (fun (⟨a1, a3, e2, a2, x6, y80⟩ : (Int × Int × SNode × SPos × (List SSpan) × Bool)) => ⟨tl 194 [(0, .loc 0 0), (1, V.i a1), (3, V.i a3), (6, .loc 100 0), (9, .loc 101 0), (10, .loc 102 0), (11, V.i (IntKind.wrap .i64 (a3 + 1))), (32, V.i e2.Kind), (33, V.b y80)], [(0, .cells 52 [.sl false false (p0_0.map (eSN false)), V.b p0_1, .own 1]), (100, .cells 30 [V.i a2.Level, V.b a2.Dollar, V.b a2.NoIn, V.b a2.NoGt, V.b a2.NoSign]), (101, .cells 54 [V.i e2.Kind, V.i e2.Op, V.s e2.Text, V.s e2.Other, .sl false false (e2.Kids.map encI)]), (102, .cells 30 [V.i 14, V.b false, V.b false, V.b false, V.b false]), (1, .vec false 61 2 (x6.map encSSpan))]⟩) (fun i => ms_l30Node_k2 N R p0_0 p0_1 i = some r) ?_ ?_
 · rintro ⟨a1, a3, e2, a2, x6, y80⟩ h102
   rw [ms_l30Node_k2] at h102
   refine cI h102 (fun _ h102 => ?_) (fun _ h102 => ?_)
   ·refine bB h102 fun r82 hx105 h102 => ?_
    refine CO.w mix ?_
    refine wR 5 103 ?_
    refine W.call (HR.ms_l30List e2.Kids (IntKind.wrap .i64 (a3 + 2)) p0_0 p0_1 x6 _ hx105) cok72 [(0, 0), (1, 1)] [(0, 0), (100, 103)] [103] (show LayOk _ [] from trivial) (by kernel_rfl) (by kernel_rfl) ?_
    refine wR 2 104 ?_
    exact wK hk99 (a1, (IntKind.wrap .i64 (r82.1 + 1)), r82.2) h102 [(0, 0), (103, 100)] [0, 1, 11]
   refine cV 103 ?_
   refine cI h102 (fun _ h102 => ?_) (fun _ h102 => ?_)
   ·refine bB h102 fun e85 hx109 h102 => ?_
    refine bB h102 fun r86 hx110 h102 => ?_
    refine CO.w mix ?_
    refine wR 3 103 ?_
    refine W.ixD Dk encI hx109 1 (by kernel_rfl) (by kernel_rfl) ?_
    refine wR 4 103 ?_
    refine W.call (HR.ms_l30Node e85 (⟨14, false, false, false, false⟩ : SPos) (IntKind.wrap .i64 (a3 + 1)) p0_0 p0_1 x6 _ hx110) cok47 [(0, 0), (1, 1)] [(0, 0), (100, 103)] [103] (show LayOk _ [] from trivial) (by kernel_rfl) (by kernel_rfl) ?_
    refine wR 1 104 ?_
    exact wK hk99 (a1, r86.1, r86.2) h102 [(0, 0), (103, 100)] [0, 1, 11]
   refine cV 103 ?_
   refine cI h102 (fun _ h102 => ?_) (fun _ h102 => ?_)
   ·refine bB h102 fun e89 hx114 h102 => ?_
    refine bB h102 fun r90 hx115 h102 => ?_
    refine CO.w mix ?_
    refine wR 3 103 ?_
    refine W.ixD Dk encI hx114 1 (by kernel_rfl) (by kernel_rfl) ?_
    refine wR 3 103 ?_
    refine W.call (HR.ms_l30Node e89 (⟨14, false, false, false, false⟩ : SPos) a3 p0_0 p0_1 x6 _ hx115) cok47 [(0, 0), (1, 1)] [(0, 0), (100, 103)] [103] (show LayOk _ [] from trivial) (by kernel_rfl) (by kernel_rfl) ?_
    refine wR 2 104 ?_
    exact wK hk99 (a1, (IntKind.wrap .i64 (r90.1 + 1)), r90.2) h102 [(0, 0), (103, 100)] [0, 1, 11]
   refine cV 103 ?_
   refine cI h102 (fun _ h102 => ?_) (fun _ h102 => ?_)
   ·refine bB h102 fun e96 hx122 h102 => ?_
    refine bB h102 fun r97 hx123 h102 => ?_
    refine bB h102 fun e98 hx124 h102 => ?_
    refine bB h102 fun r99 hx125 h102 => ?_
    refine bB h102 fun r100 hx126 h102 => ?_
    refine CO.w mix ?_
    refine wR 3 103 ?_
    refine W.ixD Dk encI hx122 1 (by kernel_rfl) (by kernel_rfl) ?_
    refine wR 3 103 ?_
    refine W.call0 (ms_KidPos_ok e2 1 a2 hx123) cok73 rfl (by kernel_rfl) ?_
    refine wR 3 103 ?_
    refine W.ixD Dk encI hx124 1 (by kernel_rfl) (by kernel_rfl) ?_
    refine wR 3 103 ?_
    refine W.call (HR.ms_l30Node e98 (⟨14, false, false, false, false⟩ : SPos) a3 p0_0 p0_1 x6 _ hx125) cok47 [(0, 0), (1, 1)] [(0, 0), (100, 103)] [103] (show LayOk _ [] from trivial) (by kernel_rfl) (by kernel_rfl) ?_
    refine wR 1 104 ?_
    refine W.call (HR.ms_l30At e96 r97 (IntKind.wrap .i64 (r99.1 + 1)) p0_0 p0_1 r99.2 _ hx126) cok27 [(0, 0), (103, 1)] [(0, 0), (100, 104)] [104] (show LayOk _ [] from trivial) (by kernel_rfl) (by kernel_rfl) ?_
    refine wR 1 105 ?_
    exact wK hk99 (a1, r100.1, r100.2) h102 [(0, 0), (104, 100)] [0, 1, 11]
   refine CO.join (fun (⟨a1, a3, e2, a2, x6, y101⟩ : (Int × Int × SNode × SPos × (List SSpan) × Bool)) => ⟨tl 194 [(0, .loc 0 0), (1, V.i a1), (3, V.i a3), (6, .loc 100 0), (9, .loc 101 0), (11, V.i (IntKind.wrap .i64 (a3 + 1))), (32, V.i e2.Kind), (86, V.b y101)], [(0, .cells 52 [.sl false false (p0_0.map (eSN false)), V.b p0_1, .own 1]), (100, .cells 30 [V.i a2.Level, V.b a2.Dollar, V.b a2.NoIn, V.b a2.NoGt, V.b a2.NoSign]), (101, .cells 54 [V.i e2.Kind, V.i e2.Op, V.s e2.Text, V.s e2.Other, .sl false false (e2.Kids.map encI)]), (1, .vec false 61 2 (x6.map encSSpan))]⟩) (fun i => ms_l30Node_k3 N R p0_0 p0_1 i = some r) ?_ ?_
   · rintro ⟨a1, a3, e2, a2, x6, y101⟩ h128
     rw [ms_l30Node_k3] at h128
     refine cI h128 (fun _ h128 => ?_) (fun _ h128 => ?_)
     ·refine bB h128 fun e105 hx133 h128 => ?_
      refine bB h128 fun r106 hx134 h128 => ?_
      refine bB h128 fun r107 hx135 h128 => ?_
      refine CO.w mix ?_
      refine wR 3 103 ?_
      refine W.ixD Dk encI hx133 1 (by kernel_rfl) (by kernel_rfl) ?_
      refine wR 3 103 ?_
      refine W.call0 (ms_KidPos_ok e2 0 a2 hx134) cok73 rfl (by kernel_rfl) ?_
      refine wR 2 103 ?_
      refine W.call (HR.ms_l30At e105 r106 (IntKind.wrap .i64 (a3 + 1)) p0_0 p0_1 x6 _ hx135) cok27 [(0, 0), (1, 1)] [(0, 0), (100, 103)] [103] (show LayOk _ [] from trivial) (by kernel_rfl) (by kernel_rfl) ?_
      refine wR 1 104 ?_
      exact wK hk99 (a1, r107.1, r107.2) h128 [(0, 0), (103, 100)] [0, 1, 11]
     refine cV 103 ?_
     refine cI h128 (fun _ h128 => ?_) (fun _ h128 => ?_)
     ·refine CO.sw mix ?_
      refine wR 2 103 ?_
      refine W.len Dk encI e2.Kids [] (by kernel_rfl) (by kernel_rfl) ?_
      refine wR 1 103 ?_
      refine wF ?_
      refine cI h128 (fun _ h128 => ?_) (fun _ h128 => ?_)
      ·refine bB h128 fun r109 hx139 h128 => ?_
       refine CO.w mix ?_
       refine wR 5 103 ?_
       refine W.call (HR.ms_l30List e2.Kids (IntKind.wrap .i64 (a3 + 1)) p0_0 p0_1 x6 _ hx139) cok72 [(0, 0), (1, 1)] [(0, 0), (100, 103)] [103] (show LayOk _ [] from trivial) (by kernel_rfl) (by kernel_rfl) ?_
       refine wR 2 104 ?_
       exact wK hk99 (a1, (IntKind.wrap .i64 (r109.1 + 3)), r109.2) h128 [(0, 0), (103, 100)] [0, 1, 11]
      refine bB h128 fun e113 hx143 h128 => ?_
      refine bB h128 fun r114 hx144 h128 => ?_
      refine bB h128 fun r115 hx145 h128 => ?_
      refine CO.w mix ?_
      refine wR 3 103 ?_
      refine W.ixD Dk encI hx143 1 (by kernel_rfl) (by kernel_rfl) ?_
      refine wR 3 103 ?_
      refine W.call0 (ms_KidPos_ok e2 0 a2 hx144) cok73 rfl (by kernel_rfl) ?_
      refine wR 1 103 ?_
      refine W.call (HR.ms_l30At e113 r114 a3 p0_0 p0_1 x6 _ hx145) cok27 [(0, 0), (1, 1)] [(0, 0), (100, 103)] [103] (show LayOk _ [] from trivial) (by kernel_rfl) (by kernel_rfl) ?_
      refine wR 2 104 ?_
      exact wK hk99 (a1, (IntKind.wrap .i64 (r115.1 + 2)), r115.2) h128 [(0, 0), (103, 100)] [0, 1, 11]
     refine cV 103 ?_
     refine cI h128 (fun _ h128 => ?_) (fun _ h128 => ?_)
     ·refine bB h128 fun e119 hx150 h128 => ?_
      refine bB h128 fun r120 hx151 h128 => ?_
      refine bB h128 fun r121 hx152 h128 => ?_
      refine CO.sw mix ?_
      refine wR 3 103 ?_
      refine W.ixD Dk encI hx150 1 (by kernel_rfl) (by kernel_rfl) ?_
      refine wR 3 103 ?_
      refine W.call0 (ms_KidPos_ok e2 0 a2 hx151) cok73 rfl (by kernel_rfl) ?_
      refine wR 1 103 ?_
      refine W.call (HR.ms_l30At e119 r120 a3 p0_0 p0_1 x6 _ hx152) cok27 [(0, 0), (1, 1)] [(0, 0), (100, 103)] [103] (show LayOk _ [] from trivial) (by kernel_rfl) (by kernel_rfl) ?_
      refine wR 2 104 ?_
      refine wF ?_
      refine bB h128 fun e125 hx156 h128 => ?_
      refine bB h128 fun r126 hx157 h128 => ?_
      refine bB h128 fun r127 hx158 h128 => ?_
      refine CO.sw mix ?_
      refine wR 3 104 ?_
      refine W.ixD Dk encI hx156 1 (by kernel_rfl) (by kernel_rfl) ?_
      refine wR 3 104 ?_
      refine W.call0 (ms_KidPos_ok e2 1 a2 hx157) cok73 rfl (by kernel_rfl) ?_
      refine wR 1 104 ?_
      refine W.call (HR.ms_l30At e125 r126 (IntKind.wrap .i64 (r121.1 + 1)) p0_0 p0_1 r121.2 _ hx158) cok27 [(0, 0), (103, 1)] [(0, 0), (100, 104)] [104] (show LayOk _ [] from trivial) (by kernel_rfl) (by kernel_rfl) ?_
      refine wR 2 105 ?_
      refine wF ?_
      refine bB h128 fun e131 hx162 h128 => ?_
      refine bB h128 fun r132 hx163 h128 => ?_
      refine bB h128 fun r133 hx164 h128 => ?_
      refine CO.w mix ?_
      refine wR 3 105 ?_
      refine W.ixD Dk encI hx162 1 (by kernel_rfl) (by kernel_rfl) ?_
      refine wR 3 105 ?_
      refine W.call0 (ms_KidPos_ok e2 2 a2 hx163) cok73 rfl (by kernel_rfl) ?_
      refine wR 1 105 ?_
      refine W.call (HR.ms_l30At e131 r132 (IntKind.wrap .i64 (r127.1 + 1)) p0_0 p0_1 r127.2 _ hx164) cok27 [(0, 0), (104, 1)] [(0, 0), (100, 105)] [105] (show LayOk _ [] from trivial) (by kernel_rfl) (by kernel_rfl) ?_
      refine wR 1 106 ?_
      exact wK hk99 (a1, r133.1, r133.2) h128 [(0, 0), (105, 100)] [0, 1, 11]
     refine cV 103 ?_
     refine cI h128 (fun _ h128 => ?_) (fun _ h128 => ?_)
     ·refine bB h128 fun e137 hx169 h128 => ?_
      refine bB h128 fun r138 hx170 h128 => ?_
      refine bB h128 fun r139 hx171 h128 => ?_
      refine CO.sw mix ?_
      refine wR 3 103 ?_
      refine W.ixD Dk encI hx169 1 (by kernel_rfl) (by kernel_rfl) ?_
      refine wR 3 103 ?_
      refine W.call0 (ms_KidPos_ok e2 0 a2 hx170) cok73 rfl (by kernel_rfl) ?_
      refine wR 1 103 ?_
      refine W.call (HR.ms_l30At e137 r138 a3 p0_0 p0_1 x6 _ hx171) cok27 [(0, 0), (1, 1)] [(0, 0), (100, 103)] [103] (show LayOk _ [] from trivial) (by kernel_rfl) (by kernel_rfl) ?_
      refine wR 1 104 ?_
      refine wF ?_
      refine CO.join (fun (⟨a1, a2, e2, r139, y140⟩ : (Int × SPos × SNode × (Int × (List SSpan)) × Int)) => ⟨tl 194 [(0, .loc 0 0), (1, V.i a1), (6, .loc 100 0), (9, .loc 101 0), (11, V.i y140)], [(0, .cells 52 [.sl false false (p0_0.map (eSN false)), V.b p0_1, .own 102]), (100, .cells 30 [V.i a2.Level, V.b a2.Dollar, V.b a2.NoIn, V.b a2.NoGt, V.b a2.NoSign]), (101, .cells 54 [V.i e2.Kind, V.i e2.Op, V.s e2.Text, V.s e2.Other, .sl false false (e2.Kids.map encI)]), (102, .vec false 61 2 (r139.2.map encSSpan))]⟩) (fun i => ms_l30Node_k4 N R p0_0 p0_1 i = some r) ?_ ?_
      · rintro ⟨a1, a2, e2, r139, y140⟩ h173
        rw [ms_l30Node_k4] at h173
        refine bB h173 fun e144 hx177 h173 => ?_
        refine bB h173 fun r145 hx178 h173 => ?_
        refine bB h173 fun r146 hx179 h173 => ?_
        refine CO.w mix ?_
        refine wR 3 104 ?_
        refine W.ixD Dk encI hx177 1 (by kernel_rfl) (by kernel_rfl) ?_
        refine wR 3 104 ?_
        refine W.call0 (ms_KidPos_ok e2 1 a2 hx178) cok73 rfl (by kernel_rfl) ?_
        refine wR 1 104 ?_
        refine W.call (HR.ms_l30At e144 r145 y140 p0_0 p0_1 r139.2 _ hx179) cok27 [(0, 0), (102, 1)] [(0, 0), (100, 104)] [104] (show LayOk _ [] from trivial) (by kernel_rfl) (by kernel_rfl) ?_
        refine wR 1 105 ?_
        exact wK hk99 (a1, r146.1, r146.2) h173 [(0, 0), (104, 100)] [0, 1, 11]
      intro hk180
      refine cV 104 ?_
      refine cI h128 (fun _ h128 => ?_) (fun _ h128 => ?_)
      ·exact cK 104 hk180 (a1, a2, e2, r139, (IntKind.wrap .i64 (r139.1 + 1))) h128 [(0, 0), (100, 100), (101, 101), (103, 102)] [0, 1, 6, 9, 11]
      exact sK hk180 (a1, a2, e2, r139, r139.1) h128 [(0, 0), (100, 100), (101, 101), (103, 102)] [0, 1, 6, 9, 11]
     exact sK hk99 (a1, (IntKind.wrap .i64 (a3 + 1)), x6) h128 [(0, 0), (1, 100)] [0, 1, 11]
   intro hk182
   refine cV 103 ?_
   refine cI h102 (fun _ h102 => ?_) (fun _ h102 => ?_)
   ·exact sK hk182 (a1, a3, e2, a2, x6, (e2.Kind == 6)) h102 [(0, 0), (100, 100), (101, 101), (1, 1)] [0, 1, 3, 6, 9, 11, 32, 86]
   exact cK 103 hk182 (a1, a3, e2, a2, x6, (e2.Kind == 11)) h102 [(0, 0), (100, 100), (101, 101), (1, 1)] [0, 1, 3, 6, 9, 11, 32, 86]
 intro hk184
 refine cV 103 ?_
 refine cI h (fun _ h => ?_) (fun _ h => ?_)
 ·exact sK hk184 (a1, a3, e2, a2, x6, (e2.Kind == 5)) h [(0, 0), (100, 100), (101, 101), (102, 102), (1, 1)] [0, 1, 3, 6, 9, 10, 11, 32, 33]
 refine cV 103 ?_
 refine cI h (fun _ h => ?_) (fun _ h => ?_)
 ·exact sK hk184 (a1, a3, e2, a2, x6, (e2.Kind == 7)) h [(0, 0), (100, 100), (101, 101), (102, 102), (1, 1)] [0, 1, 3, 6, 9, 10, 11, 32, 33]
 exact cK 103 hk184 (a1, a3, e2, a2, x6, (e2.Kind == 8)) h [(0, 0), (100, 100), (101, 101), (102, 102), (1, 1)] [0, 1, 3, 6, 9, 10, 11, 32, 33]

theorem ms_l30At_F_ok (N : Nat) (R : Rec1) (HR : RecOk1 R) (a1 : Int) (a2 : SPos) (a3 : Int) (p0_0 : List SNode) (p0_1 : Bool) (p1 : List SSpan) {r : (Int × (List SSpan))} (h : ms_l30At_F N R a1 a2 a3 p0_0 p0_1 p1 = some r) :
    AC Tryz.prog (GS []) 27 [.loc 0 0, V.i a1, .agg [V.i a2.Level, V.b a2.Dollar, V.b a2.NoIn, V.b a2.NoGt, V.b a2.NoSign], V.i a3] [(0, .cells 52 [.sl false false (p0_0.map (eSN false)), V.b p0_1, .own 1]), (1, .vec false 61 2 (p1.map encSSpan))] (V.i r.1) [(0, .cells 52 [.sl false false (p0_0.map (eSN false)), V.b p0_1, .own 100]), (100, .vec false 61 2 (r.2.map encSSpan))] := by
 rw [ms_l30At_F] at h
 refine AC.enter Tryz.func27 rfl ?_
 refine cV 100 ?_
 refine CO.seq' ?_
 refine bB h fun e9 hx10 h => ?_
 refine bB h fun r10 hx11 h => ?_
 refine CO.sw mix ?_
 refine wR 6 101 ?_
 refine W.ixD Dk (eSN false) hx10 5 (by kernel_rfl) (by kernel_rfl) ?_
 refine wR 2 101 ?_
 refine W.call0 (ms_Fits_ok e9 a2 hx11) cok46 rfl (by kernel_rfl) ?_
 refine wF ?_
 refine cI h (fun _ h => ?_) (fun _ h => ?_)
 ·refine bB h fun r12 hx14 h => ?_
  refine CO.sw mix ?_
  refine wR 4 101 ?_
  refine W.call (HR.ms_l30Node a1 a2 a3 p0_0 p0_1 p1 _ hx14) cok47 [(0, 0), (1, 1)] [(0, 0), (100, 101)] [101] (show LayOk _ [] from trivial) (by kernel_rfl) (by kernel_rfl) ?_
  refine wR 1 102 ?_
  refine wF ?_
  refine CO.ret ?_
  have h := sI h
  subst h
  exact eG [(0, 0), (101, 100)] (.inr rfl) (RetV.one rfl (oT (t := 8) (r := V.i r12.1)))
 refine CO.skip ?_
 refine bB h fun r15 hx17 h => ?_
 refine bB h fun r16 hx18 h => ?_
 refine CO.sw mix ?_
 refine wR 2 101 ?_
 refine W.call0 (ms_Top_ok  hx17) cok48 rfl (by kernel_rfl) ?_
 refine wR 2 101 ?_
 refine W.call (HR.ms_l30Node a1 r15 (IntKind.wrap .i64 (a3 + 1)) p0_0 p0_1 p1 _ hx18) cok47 [(0, 0), (1, 1)] [(0, 0), (100, 101)] [101] (show LayOk _ [] from trivial) (by kernel_rfl) (by kernel_rfl) ?_
 refine wR 2 102 ?_
 refine wF ?_
 refine CO.ret ?_
 have h := sI h
 subst h
 exact eG [(0, 0), (101, 100)] (.inr rfl) (RetV.one rfl (oT (t := 8) (r := V.i (IntKind.wrap .i64 (r16.1 + 1)))))

theorem scc1_ok : ∀ N, RecOk1 (scc1 N)
  | 0 => ⟨fun _ _ _ _ _ _ h => (by cases h), fun _ _ _ _ _ _ _ h => (by cases h), fun _ _ _ _ _ _ _ h => (by cases h)⟩
  | N + 1 => ⟨fun a1 a2 p0_0 p0_1 p1 _ h => ms_l30List_F_ok N (scc1 N) (scc1_ok N) a1 a2 p0_0 p0_1 p1 h, fun a1 a2 a3 p0_0 p0_1 p1 _ h => ms_l30Node_F_ok N (scc1 N) (scc1_ok N) a1 a2 a3 p0_0 p0_1 p1 h, fun a1 a2 a3 p0_0 p0_1 p1 _ h => ms_l30At_F_ok N (scc1 N) (scc1_ok N) a1 a2 a3 p0_0 p0_1 p1 h⟩

theorem ms_l30List_ok (N : Nat) (a1 : List Int) (a2 : Int) (p0_0 : List SNode) (p0_1 : Bool) (p1 : List SSpan) {r : (Int × (List SSpan))} (h : ms_l30List N a1 a2 p0_0 p0_1 p1 = some r) :
    AC Tryz.prog (GS []) 72 [.loc 0 0, .sl false false (a1.map encI), V.i a2] [(0, .cells 52 [.sl false false (p0_0.map (eSN false)), V.b p0_1, .own 1]), (1, .vec false 61 2 (p1.map encSSpan))] (V.i r.1) [(0, .cells 52 [.sl false false (p0_0.map (eSN false)), V.b p0_1, .own 100]), (100, .vec false 61 2 (r.2.map encSSpan))] :=
  (scc1_ok N).ms_l30List a1 a2 p0_0 p0_1 p1 r h
theorem ms_l30Node_ok (N : Nat) (a1 : Int) (a2 : SPos) (a3 : Int) (p0_0 : List SNode) (p0_1 : Bool) (p1 : List SSpan) {r : (Int × (List SSpan))} (h : ms_l30Node N a1 a2 a3 p0_0 p0_1 p1 = some r) :
    AC Tryz.prog (GS []) 47 [.loc 0 0, V.i a1, .agg [V.i a2.Level, V.b a2.Dollar, V.b a2.NoIn, V.b a2.NoGt, V.b a2.NoSign], V.i a3] [(0, .cells 52 [.sl false false (p0_0.map (eSN false)), V.b p0_1, .own 1]), (1, .vec false 61 2 (p1.map encSSpan))] (V.i r.1) [(0, .cells 52 [.sl false false (p0_0.map (eSN false)), V.b p0_1, .own 100]), (100, .vec false 61 2 (r.2.map encSSpan))] :=
  (scc1_ok N).ms_l30Node a1 a2 a3 p0_0 p0_1 p1 r h
theorem ms_l30At_ok (N : Nat) (a1 : Int) (a2 : SPos) (a3 : Int) (p0_0 : List SNode) (p0_1 : Bool) (p1 : List SSpan) {r : (Int × (List SSpan))} (h : ms_l30At N a1 a2 a3 p0_0 p0_1 p1 = some r) :
    AC Tryz.prog (GS []) 27 [.loc 0 0, V.i a1, .agg [V.i a2.Level, V.b a2.Dollar, V.b a2.NoIn, V.b a2.NoGt, V.b a2.NoSign], V.i a3] [(0, .cells 52 [.sl false false (p0_0.map (eSN false)), V.b p0_1, .own 1]), (1, .vec false 61 2 (p1.map encSSpan))] (V.i r.1) [(0, .cells 52 [.sl false false (p0_0.map (eSN false)), V.b p0_1, .own 100]), (100, .vec false 61 2 (r.2.map encSSpan))] :=
  (scc1_ok N).ms_l30At a1 a2 a3 p0_0 p0_1 p1 r h

theorem ms_SpansOf_ok (N : Nat) (a0 : List SNode) (a1 : SPos) {r : (List SSpan)} (h : ms_SpansOf N a0 a1 = some r) :
    AC Tryz.prog (GS []) 7 [.sl false false (a0.map (eSN false)), .agg [V.i a1.Level, V.b a1.Dollar, V.b a1.NoIn, V.b a1.NoGt, V.b a1.NoSign]] [] (.own 100) [(100, .vec false 61 2 (r.map encSSpan))] := by
 rw [ms_SpansOf] at h
 refine AC.enter Tryz.func7 rfl ?_
 refine cV 100 ?_
 refine CO.seq' ?_
 refine bB h fun y8 hv12 h => ?_
 refine CO.cutR (tl 32 [(0, .sl false false (a0.map (eSN false))), (3, .loc 100 0), (13, V.b y8)]) [(100, .cells 30 [V.i a1.Level, V.b a1.Dollar, V.b a1.NoIn, V.b a1.NoGt, V.b a1.NoSign])] mix (by
  refine wR 1 101 ?_
  refine bB hv12 fun r9 hx13 hv12 => ?_
  refine W.call0 (ms_ExprOk_ok N a0 hx13) cok25 rfl (by kernel_rfl) ?_
  refine wR 2 101 ?_
  refine wJ 9 hv12 (fun hv12 => ?_) (fun hv12 => ?_)
  ·refine wR 4 101 ?_
   cases hv12
   exact fS [(100, 100)] [0, 3, 13]
  refine wR 1 101 ?_
  refine bB hv12 fun r10 hx15 hv12 => ?_
  refine W.call0 (ms_PosOk_ok a1 hx15) cok26 rfl (by kernel_rfl) ?_
  refine wR 2 101 ?_
  cases hv12
  exact fS [(100, 100)] [0, 3, 13]
  ) ?_
 refine cI h (fun _ h => ?_) (fun _ h => ?_)
 ·refine cV 101 ?_
  refine CO.ret ?_
  cases h
  exact eG [(101, 100)] (.inr rfl) (RetV.one rfl (oT (t := 4) (r := .own 101)))
 refine CO.skip ?_
 refine bB h fun x12 hx18 h => ?_
 refine CO.sw mix ?_
 refine wR 3 101 ?_
 refine W.len Dk (eSN false) a0 [] (by kernel_rfl) (by kernel_rfl) ?_
 refine W.mk Dk encSSpan 16 hx18 101 61 2 [.int .i64 0, .int .i64 0] (by kernel_rfl) (by kernel_rfl) ?_
 refine wR 3 102 ?_
 refine wF ?_
 refine bB h fun r14 hx20 h => ?_
 refine CO.sw mix ?_
 refine wR 2 103 ?_
 refine W.len Dk (eSN false) a0 [] (by kernel_rfl) (by kernel_rfl) ?_
 refine wR 2 103 ?_
 refine W.call (ms_l30At_ok N (IntKind.wrap .i64 ((a0.length : Int) - 1)) a1 0 a0 false x12 hx20) cok27 [(102, 0), (101, 1)] [(0, 102), (100, 103)] [103] (show LayOk _ [] from trivial) (by kernel_rfl) (by kernel_rfl) ?_
 refine wF ?_
 refine cV 104 ?_
 refine CO.ret ?_
 cases h
 exact eG [(103, 100)] (.inr rfl) (RetV.one rfl (oT (t := 4) (r := .own 103)))

theorem mi_within_ok (a0 : Int) (a1 : Int) (a2 : Int) {r : Bool} (h : mi_within a0 a1 a2 = some r) :
    AC Tryz.prog (GS []) 59 [V.i a0, V.i a1, V.i a2] [] (V.b r) [] := by
 rw [mi_within] at h
 refine AC.enter Tryz.func59 rfl ?_
 refine cV 100 ?_
 refine bB h fun y1 hv2 h => ?_
 refine CO.cutR (tl 15 [(6, V.b y1)]) [] mix (by
  refine wR 4 100 ?_
  refine wJ 10 hv2 (fun hv2 => ?_) (fun hv2 => ?_)
  ·refine wR 5 100 ?_
   cases hv2
   exact fS [] [6]
  refine wR 5 100 ?_
  cases hv2
  exact fS [] [6]
  ) ?_
 cases h
 exact e1 6 id

theorem mi_startsOf_ok (N : Nat) (a0 : List SNode) {r : ((List Int) × Bool)} (h : mi_startsOf N a0 = some r) :
    AC Tryz.prog (GS []) 92 [.sl false false (a0.map (eSN false))] [] (.tup [.own 100, V.b r.2]) [(100, .vec false 3 1 (r.1.map encI))] := by
 rw [mi_startsOf] at h
 refine AC.enter Tryz.func92 rfl ?_
 refine cV 100 ?_
 refine CO.seq' ?_
 refine bB h fun r4 hx5 h => ?_
 refine CO.sw mix ?_
 refine wR 1 102 ?_
 refine W.len Dk (eSN false) a0 [] (by kernel_rfl) (by kernel_rfl) ?_
 refine W.call0 (mi_within_ok (a0.length : Int) 1 400 hx5) cok59 rfl (by kernel_rfl) ?_
 refine wR 1 102 ?_
 refine wF ?_
 refine cI h (fun _ h => ?_) (fun _ h => ?_)
 ·refine cV 102 ?_
  refine CO.weak (Weak.nilCell 100 0 102 3 1 (ety := 39) (cs := [.c (.slice none 0 0)]) (by kernel_rfl) (by kernel_rfl) (by kernel_rfl)) ?_
  refine CO.ret ?_
  cases h
  exact eG [(102, 100)] (.inr rfl) (RetV.two rfl (OneR.cell Dk (r := .own 102) (i := 100) (ety := 39) (cs := [.own 102]) (by kernel_rfl) (by kernel_rfl) (by kernel_rfl)) (OneR.cell Dk (r := V.b false) (i := 101) (ety := 4) (cs := [V.b false]) (by kernel_rfl) (by kernel_rfl) (by kernel_rfl)))
 refine CO.skip ?_
 refine bB h fun x6 hx8 h => ?_
 refine CO.sw mix ?_
 refine wR 1 102 ?_
 refine W.len Dk (eSN false) a0 [] (by kernel_rfl) (by kernel_rfl) ?_
 refine W.mk Dk encI 8 hx8 102 3 1 [.int .i64 0] (by kernel_rfl) (by kernel_rfl) ?_
 refine wR 2 103 ?_
 refine wF ?_
 refine CO.seq' ?_
 refine CO.sw mix ?_
 refine wR 1 104 ?_
 refine W.len Dk (eSN false) a0 [] (by kernel_rfl) (by kernel_rfl) ?_
 refine wR 1 104 ?_
 refine wF ?_
 refine CO.block' ?_
 refine CO.loopJ (fun (⟨a0, y203, y204⟩ : ((List SNode) × Int × (List Int))) => ⟨tl 57 [(0, .sl false false (a0.map (eSN false))), (2, .loc 100 0), (3, .loc 101 0), (4, .loc 102 0), (17, .sl false false (a0.map (eSN false))), (18, V.i (a0.length : Int)), (19, V.i y203)], [(100, .cells 39 [.c (.slice none 0 0)]), (101, .cells 4 [V.b false]), (102, .cells 39 [.own 103]), (103, .vec false 3 1 (y204.map encI))]⟩) (fun n i => mi_startsOf_l1 N n i = some r) (n0 := N) (i0 := (a0, 0, x6)) (wS [(100, 100), (101, 101), (103, 102), (102, 103)] [0, 2, 3, 4, 17, 18, 19]) h (fun i h => by simp [mi_startsOf_l1] at h) ?_
 rintro n1 ⟨a0, y203, y204⟩ h481 ih482
 rw [mi_startsOf_l1] at h481
 refine cV 272 ?_
 refine CO.seq' ?_
 refine cI h481 (fun _ h481 => ?_) (fun _ h481 => ?_)
 ·refine CO.skip ?_
  refine CO.seq' ?_
  refine CO.block' ?_
  refine bB h481 fun e322 hx556 h481 => ?_
  refine CO.sw mix ?_
  refine wR 1 272 ?_
  refine W.ixD Dk (eSN false) hx556 5 (by kernel_rfl) (by kernel_rfl) ?_
  refine wR 4 272 ?_
  refine wF ?_
  refine cV 273 ?_
  refine CO.seq' ?_
  refine CO.sw mix ?_
  refine wR 2 274 ?_
  refine W.call (back121 e322.Kids) cok121 [] [(100, 274)] [274] (show LayOk _ [] from trivial) (by kernel_rfl) (by kernel_rfl) ?_
  refine wF ?_
  refine CO.block' ?_
  refine CO.rangeB backok146 cok146 V.i e322.Kids [(100, 2), (101, 3), (102, 4), (273, 1), (274, 0), (103, 5)] [0, 2, 3, 4, 5, 7, 17, 18, 19, 28] (tl 57 [(0, .sl false false (a0.map (eSN false))), (2, .loc 2 0), (3, .loc 3 0), (4, .loc 4 0), (5, V.i y203), (7, .loc 1 0), (17, .sl false false (a0.map (eSN false))), (18, V.i (a0.length : Int)), (19, V.i y203), (28, .fn 146 [.loc 0 0])]) (IntKind.wrap .i64 (y203 - 1)) (fun (y345 : Int) => [(2, .cells 39 [.c (.slice none 0 0)]), (3, .cells 4 [V.b false]), (4, .cells 39 [.own 5]), (1, .cells 3 [V.i y345]), (0, .cells 39 [.sl false false (e322.Kids.map encI)]), (5, .vec false 3 1 (y204.map encI))]) (fun es i => mi_startsOf_r2 N (mi_startsOf_l1 N n1) a0 y203 e322 y204 es i = some r) 0 39 false 29 30 (by kernel_rfl) (by kernel_rfl) (by kernel_rfl) (by kernel_rfl) (by rintro y345; kernel_rfl) h481 ?_ ?_
  ·rintro e339 es340 y345 h609 L
   rw [mi_startsOf_r2] at h609
   refine ⟨tl 57 [(0, .sl false false (a0.map (eSN false))), (2, .loc 2 0), (3, .loc 3 0), (4, .loc 4 0), (5, V.i y203), (7, .loc 1 0), (9, V.i e339), (17, .sl false false (a0.map (eSN false))), (18, V.i (a0.length : Int)), (19, V.i y203), (28, .fn 146 [.loc 0 0])], [(2, .cells 39 [.c (.slice none 0 0)]), (3, .cells 4 [V.b false]), (4, .cells 39 [.own 5]), (1, .cells 3 [V.i y345]), (0, .cells 39 [.sl false false (e322.Kids.map encI)]), (5, .vec false 3 1 (y204.map encI))], ?_, ?_⟩
   ·refine cE 1 316 (tl 57 [(0, .sl false false (a0.map (eSN false))), (2, .loc 2 0), (3, .loc 3 0), (4, .loc 4 0), (5, V.i y203), (7, .loc 1 0), (9, V.i e339), (17, .sl false false (a0.map (eSN false))), (18, V.i (a0.length : Int)), (19, V.i y203), (28, .fn 146 [.loc 0 0])]) [(2, .cells 39 [.c (.slice none 0 0)]), (3, .cells 4 [V.b false]), (4, .cells 39 [.own 5]), (1, .cells 3 [V.i y345]), (0, .cells 39 [.sl false false (e322.Kids.map encI)]), (5, .vec false 3 1 (y204.map encI))] (fun st hw => ?_)
    exact ⟨rfl, hw⟩
   ·refine CO.block' ?_
    refine CO.seq' ?_
    refine bB h609 fun y352 hv616 h609 => ?_
    refine CO.cutR (tl 57 [(0, .sl false false (a0.map (eSN false))), (2, .loc 2 0), (3, .loc 3 0), (4, .loc 4 0), (5, V.i y203), (7, .loc 1 0), (9, V.i e339), (17, .sl false false (a0.map (eSN false))), (18, V.i (a0.length : Int)), (19, V.i y203), (28, .fn 146 [.loc 0 0]), (37, V.b y352)]) [(2, .cells 39 [.c (.slice none 0 0)]), (3, .cells 4 [V.b false]), (4, .cells 39 [.own 5]), (1, .cells 3 [V.i y345]), (0, .cells 39 [.sl false false (e322.Kids.map encI)]), (5, .vec false 3 1 (y204.map encI))] mix (by
     refine wR 3 316 ?_
     refine wJ 33 hv616 (fun hv616 => ?_) (fun hv616 => ?_)
     ·refine wR 4 316 ?_
      cases hv616
      exact fS [(2, 2), (3, 3), (4, 4), (1, 1), (0, 0), (5, 5)] [0, 2, 3, 4, 5, 7, 9, 17, 18, 19, 28, 37]
     refine wR 4 316 ?_
     cases hv616
     exact fS [(2, 2), (3, 3), (4, 4), (1, 1), (0, 0), (5, 5)] [0, 2, 3, 4, 5, 7, 9, 17, 18, 19, 28, 37]
     ) ?_
    refine cI h609 (fun _ h609 => ?_) (fun _ h609 => ?_)
    ·refine cV 316 ?_
     refine CO.weak (Weak.nilCell 2 0 316 3 1 (ety := 39) (cs := [.c (.slice none 0 0)]) (by kernel_rfl) (by kernel_rfl) (by kernel_rfl)) ?_
     refine CO.ret ?_
     refine Fin.mk' [(316, 316), (3, 101), (2, 100), (4, 102), (1, 273), (0, 274), (5, 103)] [0, 2, 3, 4, 5, 7, 17, 18, 19, 28] (tl 57 [(0, .sl false false (a0.map (eSN false))), (2, .loc 100 0), (3, .loc 101 0), (4, .loc 102 0), (5, V.i y203), (7, .loc 273 0), (17, .sl false false (a0.map (eSN false))), (18, V.i (a0.length : Int)), (19, V.i y203), (28, .fn 146 [.loc 274 0])]) [(316, .vec false 3 1 ([].map encI)), (101, .cells 4 [V.b false]), (100, .cells 39 [.own 316]), (102, .cells 39 [.own 103]), (273, .cells 3 [V.i y345]), (274, .cells 39 [.sl false false (e322.Kids.map encI)]), (103, .vec false 3 1 (y204.map encI))] (by kernel_rfl) (by kernel_rfl) (by kernel_rfl) ?_
     cases h609
     exact eG [(316, 100)] (.inr rfl) (RetV.two rfl (OneR.cell Dk (r := .own 316) (i := 100) (ety := 39) (cs := [.own 316]) (by kernel_rfl) (by kernel_rfl) (by kernel_rfl)) (OneR.cell Dk (r := V.b false) (i := 101) (ety := 4) (cs := [V.b false]) (by kernel_rfl) (by kernel_rfl) (by kernel_rfl)))
    refine CO.skip ?_
    refine bB h609 fun e354 hx620 h609 => ?_
    refine CO.endR (tl 57 [(0, .sl false false (a0.map (eSN false))), (2, .loc 2 0), (3, .loc 3 0), (4, .loc 4 0), (5, V.i y203), (7, .loc 1 0), (17, .sl false false (a0.map (eSN false))), (18, V.i (a0.length : Int)), (19, V.i y203), (28, .fn 146 [.loc 0 0])]) [(1, .cells 3 [V.i (IntKind.wrap .i64 (e354 - 1))]), (2, .cells 39 [.c (.slice none 0 0)]), (3, .cells 4 [V.b false]), (4, .cells 39 [.own 5]), (0, .cells 39 [.sl false false (e322.Kids.map encI)]), (5, .vec false 3 1 (y204.map encI))] mix (by
     refine wR 2 316 ?_
     refine W.ixO Dk encI hx620 5 1 (by kernel_rfl) ?_
     refine W.ldO Dk encI hx620 3 5 0 (V.i e354) (by kernel_rfl) (by kernel_rfl) ?_
     refine wR 2 316 ?_
     exact fI
     ) (fun st hw => ?_)
    exact ⟨tl 57 [], _, (hw.trans (wS [(2, 2), (3, 3), (4, 4), (1, 1), (0, 0), (5, 5)] [])), (IntKind.wrap .i64 (e354 - 1)), h609, rfl⟩
  ·rintro y345 h610
   rw [mi_startsOf_r2] at h610
   refine Fin.mk' [(2, 100), (3, 101), (4, 102), (1, 273), (0, 274), (5, 103)] [0, 2, 3, 4, 5, 7, 17, 18, 19, 28] (tl 57 [(0, .sl false false (a0.map (eSN false))), (2, .loc 100 0), (3, .loc 101 0), (4, .loc 102 0), (5, V.i y203), (7, .loc 273 0), (17, .sl false false (a0.map (eSN false))), (18, V.i (a0.length : Int)), (19, V.i y203), (28, .fn 146 [.loc 274 0])]) [(100, .cells 39 [.c (.slice none 0 0)]), (101, .cells 4 [V.b false]), (102, .cells 39 [.own 103]), (273, .cells 3 [V.i y345]), (274, .cells 39 [.sl false false (e322.Kids.map encI)]), (103, .vec false 3 1 (y204.map encI))] (by kernel_rfl) (by kernel_rfl) (by kernel_rfl) ?_
   refine bB h610 fun e357 hx623 h610 => ?_
   refine bB h610 fun x358 hu624 h610 => ?_
   refine CO.endR (tl 57 [(0, .sl false false (a0.map (eSN false))), (2, .loc 100 0), (3, .loc 101 0), (4, .loc 102 0), (17, .sl false false (a0.map (eSN false))), (18, V.i (a0.length : Int)), (19, V.i y203)]) [(103, .vec false 3 1 (x358.map encI)), (100, .cells 39 [.c (.slice none 0 0)]), (101, .cells 4 [V.b false]), (102, .cells 39 [.own 103])] mix (by
    refine wR 4 336 ?_
    refine W.ixO Dk encI hx623 103 1 (by kernel_rfl) ?_
    refine W.stO Dk encI (x' := (IntKind.wrap .i64 (y345 + 1))) hx623 hu624 (j := 103) (nn := false) (ety := 3) (sz := 1) (b := 0) (ys := [V.i (IntKind.wrap .i64 (y345 + 1))]) (C := []) (R := []) (by kernel_rfl) (by kernel_rfl) ?_
    exact fI
    ) (fun st hw => ?_)
   refine CO.weak hw ?_
   exact cK 336 ih482 (a0, (IntKind.wrap .i64 (y203 + 1)), x358) h610 [(100, 100), (101, 101), (102, 102), (103, 103)] [0, 2, 3, 4, 17, 18, 19]
 refine CO.exit ?_
 refine bB h481 fun e360 hx626 h481 => ?_
 refine CO.sw mix ?_
 refine wR 3 272 ?_
 refine W.len Dk (eSN false) a0 [] (by kernel_rfl) (by kernel_rfl) ?_
 refine wR 1 272 ?_
 refine W.ixO Dk encI hx626 103 1 (by kernel_rfl) ?_
 refine W.ldO Dk encI hx626 3 103 0 (V.i e360) (by kernel_rfl) (by kernel_rfl) ?_
 refine wR 3 272 ?_
 refine wF ?_
 refine CO.ret ?_
 cases h481
 exact eG [(103, 100)] (.inr rfl) (RetV.two rfl (OneR.cell Dk (r := .own 103) (i := 100) (ety := 39) (cs := [.own 103]) (by kernel_rfl) (by kernel_rfl) (by kernel_rfl)) (OneR.cell Dk (r := V.b (e360 == 0)) (i := 101) (ety := 4) (cs := [V.b (e360 == 0)]) (by kernel_rfl) (by kernel_rfl) (by kernel_rfl)))

theorem mi_ShapeOk_ok (N : Nat) (a0 : List SNode) {r : Bool} (h : mi_ShapeOk N a0 = some r) :
    AC Tryz.prog (GS []) 65 [.sl false false (a0.map (eSN false))] [] (V.b r) [] := by
 rw [mi_ShapeOk] at h
 refine AC.enter Tryz.func65 rfl ?_
 refine cV 100 ?_
 refine bB h fun r2 hx2 h => ?_
 refine CO.sw mix ?_
 refine wR 1 100 ?_
 refine W.call (mi_startsOf_ok N a0 hx2) cok92 [] [(100, 100)] [100] (show LayOk _ [] from trivial) (by kernel_rfl) (by kernel_rfl) ?_
 refine wR 5 101 ?_
 refine wF ?_
 refine cV 101 ?_
 refine CO.ret ?_
 have h := sI h
 subst h
 exact eG [] (.inr rfl) (RetV.one rfl (oT (t := 2) (r := V.b r2.2)))

theorem mi_IsExpr_ok (a0 : Int) {r : Bool} (h : mi_IsExpr a0 = some r) :
    AC Tryz.prog (GS []) 74 [V.i a0] [] (V.b r) [] := by
 rw [mi_IsExpr] at h
 refine AC.enter Tryz.func74 rfl ?_
 refine cV 100 ?_
 refine bB h fun r2 hx2 h => ?_
 refine cC 1 100 (mi_within_ok a0 1 15 hx2) cok59 ?_
 cases h
 exact e1 2 id

theorem mi_IsLetter_ok (a0 : Int) {r : Bool} (h : mi_IsLetter a0 = some r) :
    AC Tryz.prog (GS []) 165 [V.i a0] [] (V.b r) [] := by
 rw [mi_IsLetter] at h
 refine AC.enter Tryz.func165 rfl ?_
 refine cV 100 ?_
 refine bB h fun y1 hv7 h => ?_
 refine CO.cutR (tl 21 [(2, V.b y1)]) [] mix (by
  refine wR 3 100 ?_
  refine wJ 5 hv7 (fun hv7 => ?_) (fun hv7 => ?_)
  ·refine wR 4 100 ?_
   refine wJ 9 hv7 (fun hv7 => ?_) (fun hv7 => ?_)
   ·refine wR 12 100 ?_
    cases hv7
    exact fS [] [2]
   refine wR 3 100 ?_
   refine wJ 12 hv7 (fun hv7 => ?_) (fun hv7 => ?_)
   ·refine wR 5 100 ?_
    refine wJ 17 hv7 (fun hv7 => ?_) (fun hv7 => ?_)
    ·refine wR 4 100 ?_
     cases hv7
     exact fS [] [2]
    refine wR 4 100 ?_
    cases hv7
    exact fS [] [2]
   refine wR 9 100 ?_
   cases hv7
   exact fS [] [2]
  refine wR 7 100 ?_
  refine wJ 12 hv7 (fun hv7 => ?_) (fun hv7 => ?_)
  ·refine wR 5 100 ?_
   refine wJ 17 hv7 (fun hv7 => ?_) (fun hv7 => ?_)
   ·refine wR 4 100 ?_
    cases hv7
    exact fS [] [2]
   refine wR 4 100 ?_
   cases hv7
   exact fS [] [2]
  refine wR 9 100 ?_
  cases hv7
  exact fS [] [2]
  ) ?_
 cases h
 exact e1 2 id

theorem mi_IsDigit_ok (a0 : Int) {r : Bool} (h : mi_IsDigit a0 = some r) :
    AC Tryz.prog (GS []) 172 [V.i a0] [] (V.b r) [] := by
 rw [mi_IsDigit] at h
 refine AC.enter Tryz.func172 rfl ?_
 refine cV 100 ?_
 refine bB h fun y1 hv2 h => ?_
 refine CO.cutR (tl 9 [(2, V.b y1)]) [] mix (by
  refine wR 3 100 ?_
  refine wJ 5 hv2 (fun hv2 => ?_) (fun hv2 => ?_)
  ·refine wR 4 100 ?_
   cases hv2
   exact fS [] [2]
  refine wR 4 100 ?_
  cases hv2
  exact fS [] [2]
  ) ?_
 cases h
 exact e1 2 id

theorem mi_IsWordByte_ok (a0 : Int) {r : Bool} (h : mi_IsWordByte a0 = some r) :
    AC Tryz.prog (GS []) 164 [V.i a0] [] (V.b r) [] := by
 rw [mi_IsWordByte] at h
 refine AC.enter Tryz.func164 rfl ?_
 refine cV 100 ?_
 refine bB h fun y3 hv4 h => ?_
 refine CO.cutR (tl 9 [(2, V.b y3)]) [] mix (by
  refine wR 1 100 ?_
  refine bB hv4 fun r4 hx5 hv4 => ?_
  refine W.call0 (mi_IsLetter_ok a0 hx5) cok165 rfl (by kernel_rfl) ?_
  refine wR 1 100 ?_
  refine wJ 5 hv4 (fun hv4 => ?_) (fun hv4 => ?_)
  ·refine wR 4 100 ?_
   cases hv4
   exact fS [] [2]
  refine wR 1 100 ?_
  refine bB hv4 fun r5 hx7 hv4 => ?_
  refine W.call0 (mi_IsDigit_ok a0 hx7) cok172 rfl (by kernel_rfl) ?_
  refine wR 2 100 ?_
  cases hv4
  exact fS [] [2]
  ) ?_
 cases h
 exact e1 2 id

theorem mi_NameShape_ok (N : Nat) (a0 : List UInt8) {r : Bool} (h : mi_NameShape N a0 = some r) :
    AC Tryz.prog (GS []) 147 [V.s a0] [] (V.b r) [] := by
 rw [mi_NameShape] at h
 refine AC.enter Tryz.func147 rfl ?_
 refine cV 100 ?_
 refine CO.seq' ?_
 refine cV 100 ?_
 refine CO.block' ?_
 refine CO.loopJ (fun (⟨a0, y35⟩ : ((List UInt8) × Int)) => ⟨tl 25 [(0, V.s a0), (5, V.i (a0.length : Int)), (6, V.i y35)], []⟩) (fun n i => mi_NameShape_l1 N n i = some r) (n0 := N) (i0 := (a0, 0)) (wS [] [0, 5, 6]) h (fun i h => by simp [mi_NameShape_l1] at h) ?_
 rintro n1 ⟨a0, y35⟩ h63 ih64
 rw [mi_NameShape_l1] at h63
 refine cV 160 ?_
 refine CO.seq' ?_
 refine cI h63 (fun _ h63 => ?_) (fun _ h63 => ?_)
 ·refine CO.skip ?_
  refine CO.seq' ?_
  refine CO.block' ?_
  refine cV 160 ?_
  refine bB h63 fun b51 hx74 h63 => ?_
  refine bB h63 fun r52 hx75 h63 => ?_
  refine CO.sw mix ?_
  refine wR 2 160 ?_
  refine W.ixS Dk hx74 (by kernel_rfl) ?_
  refine wR 1 160 ?_
  refine W.call0 (mi_IsWordByte_ok (IntKind.wrap .i64 ((b51).toNat : Int)) hx75) cok164 rfl (by kernel_rfl) ?_
  refine wR 1 160 ?_
  refine wF ?_
  refine cI h63 (fun _ h63 => ?_) (fun _ h63 => ?_)
  ·refine cV 160 ?_
   cases h63
   exact e1 2 id
  refine CO.skip ?_
  exact cK 160 ih64 (a0, (IntKind.wrap .i64 (y35 + 1))) h63 [] [0, 5, 6]
 refine CO.exit ?_
 refine bB h63 fun y56 hv81 h63 => ?_
 refine CO.cutR (tl 25 [(2, V.b y56)]) [] mix (by
  refine wR 2 160 ?_
  refine bB hv81 fun r57 hx82 hv81 => ?_
  refine W.call0 (mi_within_ok (a0.length : Int) 1 12 hx82) cok59 rfl (by kernel_rfl) ?_
  refine wR 1 160 ?_
  refine wJ 19 hv81 (fun hv81 => ?_) (fun hv81 => ?_)
  ·refine wR 1 160 ?_
   refine bB hv81 fun b58 hx84 hv81 => ?_
   refine W.ixS Dk hx84 (by kernel_rfl) ?_
   refine wR 1 160 ?_
   refine bB hv81 fun r59 hx85 hv81 => ?_
   refine W.call0 (mi_IsLetter_ok (IntKind.wrap .i64 ((b58).toNat : Int)) hx85) cok165 rfl (by kernel_rfl) ?_
   refine wR 2 160 ?_
   cases hv81
   exact fS [] [2]
  refine wR 6 160 ?_
  cases hv81
  exact fS [] [2]
  ) ?_
 cases h63
 exact e1 2 id

theorem m_slices_Index_string_ok (N : Nat) (a0 : List (List UInt8)) (a1 : List UInt8) {r : Int} (h : m_slices_Index_string N a0 a1 = some r) :
    AC Tryz.prog (GS []) 153 [.sl false false (a0.map encS), V.s a1] [] (V.i r) [] := by
 rw [m_slices_Index_string] at h
 refine AC.enter Tryz.func153 rfl ?_
 refine cV 100 ?_
 refine CO.seq' ?_
 refine CO.sw mix ?_
 refine wR 1 100 ?_
 refine W.len Dk encS a0 [] (by kernel_rfl) (by kernel_rfl) ?_
 refine wR 1 100 ?_
 refine wF ?_
 refine CO.block' ?_
 refine CO.loopJ (fun (⟨a0, a1, y19⟩ : ((List (List UInt8)) × (List UInt8) × Int)) => ⟨tl 19 [(0, .sl false false (a0.map encS)), (1, V.s a1), (7, V.i (a0.length : Int)), (8, V.i y19)], []⟩) (fun n i => m_slices_Index_string_l1 N n i = some r) (n0 := N) (i0 := (a0, a1, 0)) (wS [] [0, 1, 7, 8]) h (fun i h => by simp [m_slices_Index_string_l1] at h) ?_
 rintro n1 ⟨a0, a1, y19⟩ h43 ih44
 rw [m_slices_Index_string_l1] at h43
 refine cV 160 ?_
 refine CO.seq' ?_
 refine cI h43 (fun _ h43 => ?_) (fun _ h43 => ?_)
 ·refine CO.skip ?_
  refine CO.seq' ?_
  refine CO.block' ?_
  refine cV 160 ?_
  refine bB h43 fun e28 hx51 h43 => ?_
  refine CO.sw mix ?_
  refine wR 3 160 ?_
  refine W.ixD Dk encS hx51 1 (by kernel_rfl) (by kernel_rfl) ?_
  refine wR 2 160 ?_
  refine wF ?_
  refine cI h43 (fun _ h43 => ?_) (fun _ h43 => ?_)
  ·refine cV 160 ?_
   cases h43
   exact e1 4 id
  refine CO.skip ?_
  exact cK 160 ih44 (a0, a1, (IntKind.wrap .i64 (y19 + 1))) h43 [] [0, 1, 7, 8]
 refine CO.exit ?_
 refine cV 160 ?_
 cases h43
 exact e1 4 id

theorem mi_KeywordOf_ok (N : Nat) (a0 : List UInt8) {r : Int} (h : mi_KeywordOf N a0 = some r) :
    AC Tryz.prog (GS [0]) 148 [V.s a0] [] (V.i r) [] := by
 rw [mi_KeywordOf] at h
 refine AC.enter Tryz.func148 rfl ?_
 refine cV 100 ?_
 refine bB h fun r2 hx2 h => ?_
 refine CO.sw mix ?_
 refine W.cutG Dk V.s tab_keywords (by kernel_rfl) ?_
 refine wR 1 100 ?_
 refine W.call0 (AC.gs (m_slices_Index_string_ok N tab_keywords a0 hx2) (by decide)) cok153 rfl (by kernel_rfl) ?_
 refine wR 1 100 ?_
 refine wF ?_
 refine CO.seq' ?_
 refine cV 100 ?_
 refine cI h (fun _ h => ?_) (fun _ h => ?_)
 ·refine cV 100 ?_
  cases h
  exact e1 2 id
 refine CO.skip ?_
 refine cV 100 ?_
 cases h
 exact e1 2 id

end Go.Proofs.Tryz
