/-
  The walks that show that the code computes the models, part 2.
-/
import Derived.Test.YtllanibkffnogaaGreatDoorInYW1
namespace Go.Proofs.Tryz
open Go.Av
set_option maxRecDepth 100000
set_option maxHeartbeats 8000000
set_option linter.unusedSimpArgs false
set_option linter.unusedVariables false

theorem ms_l7Kid_ok (a0 : SNode) (a1 : Int) (a2 : Int) {r : Bool} (h : ms_l7Kid a0 a1 a2 = some r) :
    AC Tryz.prog (GS []) 71 [.agg [V.i a0.Kind, V.i a0.Op, V.s a0.Text, V.s a0.Other, .sl false false (a0.Kids.map encI)], V.i a1, V.i a2] [] (V.b r) [] := by
 rw [ms_l7Kid] at h
 refine AC.enter Tryz.func71 rfl ?_
 refine cU 2 100 (tl 184 [(1, V.i a1), (2, V.i a2), (3, .loc 100 0)]) [(100, .cells 48 [V.i a0.Kind, V.i a0.Op, V.s a0.Text, V.s a0.Other, .sl false false (a0.Kids.map encI)])] ?_
 refine CO.cutR (tl 184 [(1, V.i a1), (2, V.i a2), (3, .loc 100 0), (7, V.b (a1 == (IntKind.wrap .i64 ((a0.Kids.length : Int) - 1))))]) [(100, .cells 48 [V.i a0.Kind, V.i a0.Op, V.s a0.Text, V.s a0.Other, .sl false false (a0.Kids.map encI)])] mix (by
  refine wR 3 101 ?_
  refine W.len Dk encI a0.Kids [] (by kernel_rfl) (by kernel_rfl) ?_
  refine wR 3 101 ?_
  exact fI
  ) ?_
 refine cU 3 101 (tl 184 [(1, V.i a1), (2, V.i a2), (3, .loc 100 0), (7, V.b (a1 == (IntKind.wrap .i64 ((a0.Kids.length : Int) - 1)))), (8, V.b (a2 == 33))]) [(100, .cells 48 [V.i a0.Kind, V.i a0.Op, V.s a0.Text, V.s a0.Other, .sl false false (a0.Kids.map encI)])] ?_
 refine CO.seq' ?_
 refine cU 2 101 (tl 184 [(1, V.i a1), (2, V.i a2), (3, .loc 100 0), (7, V.b (a1 == (IntKind.wrap .i64 ((a0.Kids.length : Int) - 1)))), (8, V.b (a2 == 33)), (18, V.i a0.Kind)]) [(100, .cells 48 [V.i a0.Kind, V.i a0.Op, V.s a0.Text, V.s a0.Other, .sl false false (a0.Kids.map encI)])] ?_
 refine CO.block' ?_
 refine CO.join (fun (⟨a1, a2, a0, y52⟩ : (Int × Int × SNode × Bool)) => ⟨tl 184 [(1, V.i a1), (2, V.i a2), (3, .loc 100 0), (7, V.b (a1 == (IntKind.wrap .i64 ((a0.Kids.length : Int) - 1)))), (8, V.b (a2 == 33)), (18, V.i a0.Kind), (19, V.b y52)], [(100, .cells 48 [V.i a0.Kind, V.i a0.Op, V.s a0.Text, V.s a0.Other, .sl false false (a0.Kids.map encI)])]⟩) (fun i => ms_l7Kid_k1 i = some r) ?_ ?_
 · rintro ⟨a1, a2, a0, y52⟩ h181
   rw [ms_l7Kid_k1] at h181
   refine bC h181 (fun hc182 h181 => ?_) (fun hc182 h181 => ?_)
   ·refine iT hc182 ?_
    refine bB h181 fun r54 hx184 h181 => ?_
    refine CO.cutR (tl 184 [(6, V.b r54)]) [] mix (by
     refine wR 1 101 ?_
     refine W.call0 (ms_IsLvalue_ok a2 hx184) cok102 rfl (by kernel_rfl) ?_
     refine wR 1 101 ?_
     exact fI
     ) ?_
    refine CO.ret ?_
    have h181 := sI h181
    subst h181
    exact eG [] (.inr rfl) (RetV.one rfl (oT (t := 6) (r := V.b r54)))
   refine iF hc182 ?_
   refine cU 2 101 (tl 184 [(1, V.i a1), (2, V.i a2), (3, .loc 100 0), (7, V.b (a1 == (IntKind.wrap .i64 ((a0.Kids.length : Int) - 1)))), (8, V.b (a2 == 33)), (18, V.i a0.Kind), (24, V.b (a0.Kind == 15))]) [(100, .cells 48 [V.i a0.Kind, V.i a0.Op, V.s a0.Text, V.s a0.Other, .sl false false (a0.Kids.map encI)])] ?_
   refine bC h181 (fun hc185 h181 => ?_) (fun hc185 h181 => ?_)
   ·refine iT hc185 ?_
    refine bB h181 fun y57 hv190 h181 => ?_
    refine CO.cutR (tl 184 [(6, V.b y57)]) [] mix (by
     refine wR 1 101 ?_
     refine bB hv190 fun r58 hx191 hv190 => ?_
     refine W.call0 (ms_IsExpr_ok a2 hx191) cok81 rfl (by kernel_rfl) ?_
     refine wR 1 101 ?_
     refine bC hv190 (fun hc192 hv190 => ?_) (fun hc192 hv190 => ?_)
     ·refine wI 28 hc192 ?_
      refine wR 3 101 ?_
      refine bC hv190 (fun hc193 hv190 => ?_) (fun hc193 hv190 => ?_)
      ·refine wI 31 hc193 ?_
       refine wR 5 101 ?_
       have hv190 := sI hv190
       subst hv190
       exact fS [] [6]
      refine wI 31 hc193 ?_
      refine wR 1 101 ?_
      refine bB hv190 fun r59 hx194 hv190 => ?_
      refine W.call0 (ms_IsLvalue_ok a2 hx194) cok102 rfl (by kernel_rfl) ?_
      refine wR 3 101 ?_
      have hv190 := sI hv190
      subst hv190
      exact fS [] [6]
     refine wI 28 hc192 ?_
     refine wR 8 101 ?_
     have hv190 := sI hv190
     subst hv190
     exact fS [] [6]
     ) ?_
    refine CO.ret ?_
    have h181 := sI h181
    subst h181
    exact eG [] (.inr rfl) (RetV.one rfl (oT (t := 6) (r := V.b y57)))
   refine iF hc185 ?_
   refine cU 2 101 (tl 184 [(1, V.i a1), (2, V.i a2), (3, .loc 100 0), (7, V.b (a1 == (IntKind.wrap .i64 ((a0.Kids.length : Int) - 1)))), (8, V.b (a2 == 33)), (18, V.i a0.Kind), (36, V.b (a0.Kind == 28))]) [(100, .cells 48 [V.i a0.Kind, V.i a0.Op, V.s a0.Text, V.s a0.Other, .sl false false (a0.Kids.map encI)])] ?_
   refine bC h181 (fun hc195 h181 => ?_) (fun hc195 h181 => ?_)
   ·refine iT hc195 ?_
    refine bB h181 fun y61 hv201 h181 => ?_
    refine CO.cutR (tl 184 [(6, V.b y61)]) [] mix (by
     refine wR 3 101 ?_
     refine bC hv201 (fun hc202 hv201 => ?_) (fun hc202 hv201 => ?_)
     ·refine wI 40 hc202 ?_
      refine wR 1 101 ?_
      refine bB hv201 fun r62 hx203 hv201 => ?_
      refine W.call0 (ms_IsExpr_ok a2 hx203) cok81 rfl (by kernel_rfl) ?_
      refine wR 2 101 ?_
      refine bC hv201 (fun hc204 hv201 => ?_) (fun hc204 hv201 => ?_)
      ·refine wI 44 hc204 ?_
       refine wR 7 101 ?_
       have hv201 := sI hv201
       subst hv201
       exact fS [] [6]
      refine wI 44 hc204 ?_
      refine wR 3 101 ?_
      refine bC hv201 (fun hc205 hv201 => ?_) (fun hc205 hv201 => ?_)
      ·refine wI 47 hc205 ?_
       refine wR 4 101 ?_
       have hv201 := sI hv201
       subst hv201
       exact fS [] [6]
      refine wI 47 hc205 ?_
      refine wR 4 101 ?_
      have hv201 := sI hv201
      subst hv201
      exact fS [] [6]
     refine wI 40 hc202 ?_
     refine wR 7 101 ?_
     refine bC hv201 (fun hc206 hv201 => ?_) (fun hc206 hv201 => ?_)
     ·refine wI 47 hc206 ?_
      refine wR 4 101 ?_
      have hv201 := sI hv201
      subst hv201
      exact fS [] [6]
     refine wI 47 hc206 ?_
     refine wR 4 101 ?_
     have hv201 := sI hv201
     subst hv201
     exact fS [] [6]
     ) ?_
    refine CO.ret ?_
    have h181 := sI h181
    subst h181
    exact eG [] (.inr rfl) (RetV.one rfl (oT (t := 6) (r := V.b y61)))
   refine iF hc195 ?_
   refine cU 2 101 (tl 184 [(1, V.i a1), (2, V.i a2), (3, .loc 100 0), (7, V.b (a1 == (IntKind.wrap .i64 ((a0.Kids.length : Int) - 1)))), (8, V.b (a2 == 33)), (18, V.i a0.Kind), (51, V.b (a0.Kind == 29))]) [(100, .cells 48 [V.i a0.Kind, V.i a0.Op, V.s a0.Text, V.s a0.Other, .sl false false (a0.Kids.map encI)])] ?_
   refine bC h181 (fun hc207 h181 => ?_) (fun hc207 h181 => ?_)
   ·refine iT hc207 ?_
    refine bB h181 fun y64 hv213 h181 => ?_
    refine CO.cutR (tl 184 [(6, V.b y64)]) [] mix (by
     refine wR 3 101 ?_
     refine bC hv213 (fun hc214 hv213 => ?_) (fun hc214 hv213 => ?_)
     ·refine wI 55 hc214 ?_
      refine wR 1 101 ?_
      refine bB hv213 fun r65 hx215 hv213 => ?_
      refine W.call0 (ms_IsExpr_ok a2 hx215) cok81 rfl (by kernel_rfl) ?_
      refine wR 2 101 ?_
      refine bC hv213 (fun hc216 hv213 => ?_) (fun hc216 hv213 => ?_)
      ·refine wI 59 hc216 ?_
       refine wR 7 101 ?_
       have hv213 := sI hv213
       subst hv213
       exact fS [] [6]
      refine wI 59 hc216 ?_
      refine wR 3 101 ?_
      refine bC hv213 (fun hc217 hv213 => ?_) (fun hc217 hv213 => ?_)
      ·refine wI 62 hc217 ?_
       refine wR 4 101 ?_
       have hv213 := sI hv213
       subst hv213
       exact fS [] [6]
      refine wI 62 hc217 ?_
      refine wR 4 101 ?_
      have hv213 := sI hv213
      subst hv213
      exact fS [] [6]
     refine wI 55 hc214 ?_
     refine wR 7 101 ?_
     refine bC hv213 (fun hc218 hv213 => ?_) (fun hc218 hv213 => ?_)
     ·refine wI 62 hc218 ?_
      refine wR 4 101 ?_
      have hv213 := sI hv213
      subst hv213
      exact fS [] [6]
     refine wI 62 hc218 ?_
     refine wR 4 101 ?_
     have hv213 := sI hv213
     subst hv213
     exact fS [] [6]
     ) ?_
    refine CO.ret ?_
    have h181 := sI h181
    subst h181
    exact eG [] (.inr rfl) (RetV.one rfl (oT (t := 6) (r := V.b y64)))
   refine iF hc207 ?_
   refine cU 2 101 (tl 184 [(1, V.i a1), (2, V.i a2), (3, .loc 100 0), (7, V.b (a1 == (IntKind.wrap .i64 ((a0.Kids.length : Int) - 1)))), (8, V.b (a2 == 33)), (18, V.i a0.Kind), (66, V.b (a0.Kind == 30))]) [(100, .cells 48 [V.i a0.Kind, V.i a0.Op, V.s a0.Text, V.s a0.Other, .sl false false (a0.Kids.map encI)])] ?_
   refine bC h181 (fun hc219 h181 => ?_) (fun hc219 h181 => ?_)
   ·refine iT hc219 ?_
    refine bB h181 fun y68 hv226 h181 => ?_
    refine CO.cutR (tl 184 [(6, V.b y68)]) [] mix (by
     refine wR 3 101 ?_
     refine bC hv226 (fun hc227 hv226 => ?_) (fun hc227 hv226 => ?_)
     ·refine wI 70 hc227 ?_
      refine wR 3 101 ?_
      refine bC hv226 (fun hc228 hv226 => ?_) (fun hc228 hv226 => ?_)
      ·refine wI 73 hc228 ?_
       refine wR 8 101 ?_
       have hv226 := sI hv226
       subst hv226
       exact fS [] [6]
      refine wI 73 hc228 ?_
      refine wR 3 101 ?_
      refine bC hv226 (fun hc229 hv226 => ?_) (fun hc229 hv226 => ?_)
      ·refine wI 76 hc229 ?_
       refine wR 1 101 ?_
       refine bB hv226 fun r69 hx230 hv226 => ?_
       refine W.call0 (ms_IsExpr_ok a2 hx230) cok81 rfl (by kernel_rfl) ?_
       refine wR 3 101 ?_
       have hv226 := sI hv226
       subst hv226
       exact fS [] [6]
      refine wI 76 hc229 ?_
      refine wR 5 101 ?_
      have hv226 := sI hv226
      subst hv226
      exact fS [] [6]
     refine wI 70 hc227 ?_
     refine wR 6 101 ?_
     refine bC hv226 (fun hc231 hv226 => ?_) (fun hc231 hv226 => ?_)
     ·refine wI 76 hc231 ?_
      refine wR 1 101 ?_
      refine bB hv226 fun r70 hx232 hv226 => ?_
      refine W.call0 (ms_IsExpr_ok a2 hx232) cok81 rfl (by kernel_rfl) ?_
      refine wR 3 101 ?_
      have hv226 := sI hv226
      subst hv226
      exact fS [] [6]
     refine wI 76 hc231 ?_
     refine wR 5 101 ?_
     have hv226 := sI hv226
     subst hv226
     exact fS [] [6]
     ) ?_
    refine CO.ret ?_
    have h181 := sI h181
    subst h181
    exact eG [] (.inr rfl) (RetV.one rfl (oT (t := 6) (r := V.b y68)))
   refine iF hc219 ?_
   refine cU 2 101 (tl 184 [(1, V.i a1), (2, V.i a2), (3, .loc 100 0), (7, V.b (a1 == (IntKind.wrap .i64 ((a0.Kids.length : Int) - 1)))), (8, V.b (a2 == 33)), (18, V.i a0.Kind), (81, V.b (a0.Kind == 31))]) [(100, .cells 48 [V.i a0.Kind, V.i a0.Op, V.s a0.Text, V.s a0.Other, .sl false false (a0.Kids.map encI)])] ?_
   refine bC h181 (fun hc233 h181 => ?_) (fun hc233 h181 => ?_)
   ·refine iT hc233 ?_
    refine bB h181 fun y72 hv240 h181 => ?_
    refine CO.cutR (tl 184 [(6, V.b y72)]) [] mix (by
     refine wR 3 101 ?_
     refine bC hv240 (fun hc241 hv240 => ?_) (fun hc241 hv240 => ?_)
     ·refine wI 85 hc241 ?_
      refine wR 1 101 ?_
      refine bB hv240 fun r73 hx242 hv240 => ?_
      refine W.call0 (ms_IsExpr_ok a2 hx242) cok81 rfl (by kernel_rfl) ?_
      refine wR 1 101 ?_
      refine bC hv240 (fun hc243 hv240 => ?_) (fun hc243 hv240 => ?_)
      ·refine wI 88 hc243 ?_
       refine wR 12 101 ?_
       have hv240 := sI hv240
       subst hv240
       exact fS [] [6]
      refine wI 88 hc243 ?_
      refine wR 5 101 ?_
      refine bC hv240 (fun hc244 hv240 => ?_) (fun hc244 hv240 => ?_)
      ·refine wI 93 hc244 ?_
       refine wR 7 101 ?_
       have hv240 := sI hv240
       subst hv240
       exact fS [] [6]
      refine wI 93 hc244 ?_
      refine wR 3 101 ?_
      refine bC hv240 (fun hc245 hv240 => ?_) (fun hc245 hv240 => ?_)
      ·refine wI 96 hc245 ?_
       refine wR 4 101 ?_
       have hv240 := sI hv240
       subst hv240
       exact fS [] [6]
      refine wI 96 hc245 ?_
      refine wR 4 101 ?_
      have hv240 := sI hv240
      subst hv240
      exact fS [] [6]
     refine wI 85 hc241 ?_
     refine wR 11 101 ?_
     refine bC hv240 (fun hc246 hv240 => ?_) (fun hc246 hv240 => ?_)
     ·refine wI 96 hc246 ?_
      refine wR 4 101 ?_
      have hv240 := sI hv240
      subst hv240
      exact fS [] [6]
     refine wI 96 hc246 ?_
     refine wR 4 101 ?_
     have hv240 := sI hv240
     subst hv240
     exact fS [] [6]
     ) ?_
    refine CO.ret ?_
    have h181 := sI h181
    subst h181
    exact eG [] (.inr rfl) (RetV.one rfl (oT (t := 6) (r := V.b y72)))
   refine iF hc233 ?_
   refine CO.join (fun (⟨a1, a2, a0, y74⟩ : (Int × Int × SNode × Bool)) => ⟨tl 184 [(1, V.i a1), (2, V.i a2), (3, .loc 100 0), (7, V.b (a1 == (IntKind.wrap .i64 ((a0.Kids.length : Int) - 1)))), (8, V.b (a2 == 33)), (18, V.i a0.Kind), (100, V.b y74)], [(100, .cells 48 [V.i a0.Kind, V.i a0.Op, V.s a0.Text, V.s a0.Other, .sl false false (a0.Kids.map encI)])]⟩) (fun i => ms_l7Kid_k2 i = some r) ?_ ?_
   · rintro ⟨a1, a2, a0, y74⟩ h249
     rw [ms_l7Kid_k2] at h249
     refine bC h249 (fun hc250 h249 => ?_) (fun hc250 h249 => ?_)
     ·refine iT hc250 ?_
      refine cU 2 101 (tl 184 [(6, V.b (a2 == 33))]) [] ?_
      refine CO.ret ?_
      have h249 := sI h249
      subst h249
      exact eG [] (.inr rfl) (RetV.one rfl (oT (t := 6) (r := V.b (a2 == 33))))
     refine iF hc250 ?_
     refine cU 2 101 (tl 184 [(1, V.i a1), (2, V.i a2), (3, .loc 100 0), (7, V.b (a1 == (IntKind.wrap .i64 ((a0.Kids.length : Int) - 1)))), (8, V.b (a2 == 33)), (18, V.i a0.Kind), (105, V.b (a0.Kind == 33))]) [(100, .cells 48 [V.i a0.Kind, V.i a0.Op, V.s a0.Text, V.s a0.Other, .sl false false (a0.Kids.map encI)])] ?_
     refine bC h249 (fun hc251 h249 => ?_) (fun hc251 h249 => ?_)
     ·refine iT hc251 ?_
      refine bB h249 fun r76 hx253 h249 => ?_
      refine CO.cutR (tl 184 [(6, V.b r76)]) [] mix (by
       refine wR 1 101 ?_
       refine W.call0 (ms_IsStmt_ok a2 hx253) cok103 rfl (by kernel_rfl) ?_
       refine wR 1 101 ?_
       exact fI
       ) ?_
      refine CO.ret ?_
      have h249 := sI h249
      subst h249
      exact eG [] (.inr rfl) (RetV.one rfl (oT (t := 6) (r := V.b r76)))
     refine iF hc251 ?_
     refine cU 2 101 (tl 184 [(1, V.i a1), (2, V.i a2), (3, .loc 100 0), (7, V.b (a1 == (IntKind.wrap .i64 ((a0.Kids.length : Int) - 1)))), (8, V.b (a2 == 33)), (18, V.i a0.Kind), (109, V.b (a0.Kind == 42))]) [(100, .cells 48 [V.i a0.Kind, V.i a0.Op, V.s a0.Text, V.s a0.Other, .sl false false (a0.Kids.map encI)])] ?_
     refine bC h249 (fun hc254 h249 => ?_) (fun hc254 h249 => ?_)
     ·refine iT hc254 ?_
      refine bB h249 fun y86 hv290 h249 => ?_
      refine CO.cutR (tl 184 [(6, V.b y86)]) [] mix (by
       refine wR 4 101 ?_
       refine bC hv290 (fun hc291 hv290 => ?_) (fun hc291 hv290 => ?_)
       ·refine wI 114 hc291 ?_
        refine wR 1 101 ?_
        refine bB hv290 fun r87 hx292 hv290 => ?_
        refine W.call0 (ms_IsExpr_ok a2 hx292) cok81 rfl (by kernel_rfl) ?_
        refine wR 2 101 ?_
        refine bC hv290 (fun hc293 hv290 => ?_) (fun hc293 hv290 => ?_)
        ·refine wI 118 hc293 ?_
         refine wR 27 101 ?_
         have hv290 := sI hv290
         subst hv290
         exact fS [] [6]
        refine wI 118 hc293 ?_
        refine wR 4 101 ?_
        refine bC hv290 (fun hc294 hv290 => ?_) (fun hc294 hv290 => ?_)
        ·refine wI 122 hc294 ?_
         refine wR 4 101 ?_
         refine bC hv290 (fun hc295 hv290 => ?_) (fun hc295 hv290 => ?_)
         ·refine wI 126 hc295 ?_
          refine wR 19 101 ?_
          have hv290 := sI hv290
          subst hv290
          exact fS [] [6]
         refine wI 126 hc295 ?_
         refine wR 4 101 ?_
         refine bC hv290 (fun hc296 hv290 => ?_) (fun hc296 hv290 => ?_)
         ·refine wI 130 hc296 ?_
          refine wR 2 101 ?_
          refine bC hv290 (fun hc297 hv290 => ?_) (fun hc297 hv290 => ?_)
          ·refine wI 132 hc297 ?_
           refine wR 3 101 ?_
           refine bC hv290 (fun hc298 hv290 => ?_) (fun hc298 hv290 => ?_)
           ·refine wI 135 hc298 ?_
            refine wR 10 101 ?_
            have hv290 := sI hv290
            subst hv290
            exact fS [] [6]
           refine wI 135 hc298 ?_
           refine wR 3 101 ?_
           refine bC hv290 (fun hc299 hv290 => ?_) (fun hc299 hv290 => ?_)
           ·refine wI 138 hc299 ?_
            refine wR 1 101 ?_
            refine bB hv290 fun r88 hx300 hv290 => ?_
            refine W.call0 (ms_IsExpr_ok a2 hx300) cok81 rfl (by kernel_rfl) ?_
            refine wR 5 101 ?_
            have hv290 := sI hv290
            subst hv290
            exact fS [] [6]
           refine wI 138 hc299 ?_
           refine wR 7 101 ?_
           have hv290 := sI hv290
           subst hv290
           exact fS [] [6]
          refine wI 132 hc297 ?_
          refine wR 6 101 ?_
          refine bC hv290 (fun hc301 hv290 => ?_) (fun hc301 hv290 => ?_)
          ·refine wI 138 hc301 ?_
           refine wR 1 101 ?_
           refine bB hv290 fun r89 hx302 hv290 => ?_
           refine W.call0 (ms_IsExpr_ok a2 hx302) cok81 rfl (by kernel_rfl) ?_
           refine wR 5 101 ?_
           have hv290 := sI hv290
           subst hv290
           exact fS [] [6]
          refine wI 138 hc301 ?_
          refine wR 7 101 ?_
          have hv290 := sI hv290
          subst hv290
          exact fS [] [6]
         refine wI 130 hc296 ?_
         refine wR 15 101 ?_
         have hv290 := sI hv290
         subst hv290
         exact fS [] [6]
        refine wI 122 hc294 ?_
        refine wR 8 101 ?_
        refine bC hv290 (fun hc303 hv290 => ?_) (fun hc303 hv290 => ?_)
        ·refine wI 130 hc303 ?_
         refine wR 2 101 ?_
         refine bC hv290 (fun hc304 hv290 => ?_) (fun hc304 hv290 => ?_)
         ·refine wI 132 hc304 ?_
          refine wR 3 101 ?_
          refine bC hv290 (fun hc305 hv290 => ?_) (fun hc305 hv290 => ?_)
          ·refine wI 135 hc305 ?_
           refine wR 10 101 ?_
           have hv290 := sI hv290
           subst hv290
           exact fS [] [6]
          refine wI 135 hc305 ?_
          refine wR 3 101 ?_
          refine bC hv290 (fun hc306 hv290 => ?_) (fun hc306 hv290 => ?_)
          ·refine wI 138 hc306 ?_
           refine wR 1 101 ?_
           refine bB hv290 fun r90 hx307 hv290 => ?_
           refine W.call0 (ms_IsExpr_ok a2 hx307) cok81 rfl (by kernel_rfl) ?_
           refine wR 5 101 ?_
           have hv290 := sI hv290
           subst hv290
           exact fS [] [6]
          refine wI 138 hc306 ?_
          refine wR 7 101 ?_
          have hv290 := sI hv290
          subst hv290
          exact fS [] [6]
         refine wI 132 hc304 ?_
         refine wR 6 101 ?_
         refine bC hv290 (fun hc308 hv290 => ?_) (fun hc308 hv290 => ?_)
         ·refine wI 138 hc308 ?_
          refine wR 1 101 ?_
          refine bB hv290 fun r91 hx309 hv290 => ?_
          refine W.call0 (ms_IsExpr_ok a2 hx309) cok81 rfl (by kernel_rfl) ?_
          refine wR 5 101 ?_
          have hv290 := sI hv290
          subst hv290
          exact fS [] [6]
         refine wI 138 hc308 ?_
         refine wR 7 101 ?_
         have hv290 := sI hv290
         subst hv290
         exact fS [] [6]
        refine wI 130 hc303 ?_
        refine wR 15 101 ?_
        have hv290 := sI hv290
        subst hv290
        exact fS [] [6]
       refine wI 114 hc291 ?_
       refine wR 8 101 ?_
       refine bC hv290 (fun hc310 hv290 => ?_) (fun hc310 hv290 => ?_)
       ·refine wI 122 hc310 ?_
        refine wR 4 101 ?_
        refine bC hv290 (fun hc311 hv290 => ?_) (fun hc311 hv290 => ?_)
        ·refine wI 126 hc311 ?_
         refine wR 19 101 ?_
         have hv290 := sI hv290
         subst hv290
         exact fS [] [6]
        refine wI 126 hc311 ?_
        refine wR 4 101 ?_
        refine bC hv290 (fun hc312 hv290 => ?_) (fun hc312 hv290 => ?_)
        ·refine wI 130 hc312 ?_
         refine wR 2 101 ?_
         refine bC hv290 (fun hc313 hv290 => ?_) (fun hc313 hv290 => ?_)
         ·refine wI 132 hc313 ?_
          refine wR 3 101 ?_
          refine bC hv290 (fun hc314 hv290 => ?_) (fun hc314 hv290 => ?_)
          ·refine wI 135 hc314 ?_
           refine wR 10 101 ?_
           have hv290 := sI hv290
           subst hv290
           exact fS [] [6]
          refine wI 135 hc314 ?_
          refine wR 3 101 ?_
          refine bC hv290 (fun hc315 hv290 => ?_) (fun hc315 hv290 => ?_)
          ·refine wI 138 hc315 ?_
           refine wR 1 101 ?_
           refine bB hv290 fun r92 hx316 hv290 => ?_
           refine W.call0 (ms_IsExpr_ok a2 hx316) cok81 rfl (by kernel_rfl) ?_
           refine wR 5 101 ?_
           have hv290 := sI hv290
           subst hv290
           exact fS [] [6]
          refine wI 138 hc315 ?_
          refine wR 7 101 ?_
          have hv290 := sI hv290
          subst hv290
          exact fS [] [6]
         refine wI 132 hc313 ?_
         refine wR 6 101 ?_
         refine bC hv290 (fun hc317 hv290 => ?_) (fun hc317 hv290 => ?_)
         ·refine wI 138 hc317 ?_
          refine wR 1 101 ?_
          refine bB hv290 fun r93 hx318 hv290 => ?_
          refine W.call0 (ms_IsExpr_ok a2 hx318) cok81 rfl (by kernel_rfl) ?_
          refine wR 5 101 ?_
          have hv290 := sI hv290
          subst hv290
          exact fS [] [6]
         refine wI 138 hc317 ?_
         refine wR 7 101 ?_
         have hv290 := sI hv290
         subst hv290
         exact fS [] [6]
        refine wI 130 hc312 ?_
        refine wR 15 101 ?_
        have hv290 := sI hv290
        subst hv290
        exact fS [] [6]
       refine wI 122 hc310 ?_
       refine wR 8 101 ?_
       refine bC hv290 (fun hc319 hv290 => ?_) (fun hc319 hv290 => ?_)
       ·refine wI 130 hc319 ?_
        refine wR 2 101 ?_
        refine bC hv290 (fun hc320 hv290 => ?_) (fun hc320 hv290 => ?_)
        ·refine wI 132 hc320 ?_
         refine wR 3 101 ?_
         refine bC hv290 (fun hc321 hv290 => ?_) (fun hc321 hv290 => ?_)
         ·refine wI 135 hc321 ?_
          refine wR 10 101 ?_
          have hv290 := sI hv290
          subst hv290
          exact fS [] [6]
         refine wI 135 hc321 ?_
         refine wR 3 101 ?_
         refine bC hv290 (fun hc322 hv290 => ?_) (fun hc322 hv290 => ?_)
         ·refine wI 138 hc322 ?_
          refine wR 1 101 ?_
          refine bB hv290 fun r94 hx323 hv290 => ?_
          refine W.call0 (ms_IsExpr_ok a2 hx323) cok81 rfl (by kernel_rfl) ?_
          refine wR 5 101 ?_
          have hv290 := sI hv290
          subst hv290
          exact fS [] [6]
         refine wI 138 hc322 ?_
         refine wR 7 101 ?_
         have hv290 := sI hv290
         subst hv290
         exact fS [] [6]
        refine wI 132 hc320 ?_
        refine wR 6 101 ?_
        refine bC hv290 (fun hc324 hv290 => ?_) (fun hc324 hv290 => ?_)
        ·refine wI 138 hc324 ?_
         refine wR 1 101 ?_
         refine bB hv290 fun r95 hx325 hv290 => ?_
         refine W.call0 (ms_IsExpr_ok a2 hx325) cok81 rfl (by kernel_rfl) ?_
         refine wR 5 101 ?_
         have hv290 := sI hv290
         subst hv290
         exact fS [] [6]
        refine wI 138 hc324 ?_
        refine wR 7 101 ?_
        have hv290 := sI hv290
        subst hv290
        exact fS [] [6]
       refine wI 130 hc319 ?_
       refine wR 15 101 ?_
       have hv290 := sI hv290
       subst hv290
       exact fS [] [6]
       ) ?_
      refine CO.ret ?_
      have h249 := sI h249
      subst h249
      exact eG [] (.inr rfl) (RetV.one rfl (oT (t := 6) (r := V.b y86)))
     refine iF hc254 ?_
     refine cU 2 101 (tl 184 [(1, V.i a1), (2, V.i a2), (7, V.b (a1 == (IntKind.wrap .i64 ((a0.Kids.length : Int) - 1)))), (8, V.b (a2 == 33)), (18, V.i a0.Kind), (145, V.b (a0.Kind == 43))]) [] ?_
     refine bC h249 (fun hc326 h249 => ?_) (fun hc326 h249 => ?_)
     ·refine iT hc326 ?_
      refine bB h249 fun y97 hv332 h249 => ?_
      refine CO.cutR (tl 184 [(6, V.b y97)]) [] mix (by
       refine wR 3 101 ?_
       refine bC hv332 (fun hc333 hv332 => ?_) (fun hc333 hv332 => ?_)
       ·refine wI 149 hc333 ?_
        refine wR 1 101 ?_
        refine bB hv332 fun r98 hx334 hv332 => ?_
        refine W.call0 (ms_IsExpr_ok a2 hx334) cok81 rfl (by kernel_rfl) ?_
        refine wR 2 101 ?_
        refine bC hv332 (fun hc335 hv332 => ?_) (fun hc335 hv332 => ?_)
        ·refine wI 153 hc335 ?_
         refine wR 7 101 ?_
         have hv332 := sI hv332
         subst hv332
         exact fS [] [6]
        refine wI 153 hc335 ?_
        refine wR 3 101 ?_
        refine bC hv332 (fun hc336 hv332 => ?_) (fun hc336 hv332 => ?_)
        ·refine wI 156 hc336 ?_
         refine wR 4 101 ?_
         have hv332 := sI hv332
         subst hv332
         exact fS [] [6]
        refine wI 156 hc336 ?_
        refine wR 4 101 ?_
        have hv332 := sI hv332
        subst hv332
        exact fS [] [6]
       refine wI 149 hc333 ?_
       refine wR 7 101 ?_
       refine bC hv332 (fun hc337 hv332 => ?_) (fun hc337 hv332 => ?_)
       ·refine wI 156 hc337 ?_
        refine wR 4 101 ?_
        have hv332 := sI hv332
        subst hv332
        exact fS [] [6]
       refine wI 156 hc337 ?_
       refine wR 4 101 ?_
       have hv332 := sI hv332
       subst hv332
       exact fS [] [6]
       ) ?_
      refine CO.ret ?_
      have h249 := sI h249
      subst h249
      exact eG [] (.inr rfl) (RetV.one rfl (oT (t := 6) (r := V.b y97)))
     refine iF hc326 ?_
     refine cU 2 101 (tl 184 [(2, V.i a2), (7, V.b (a1 == (IntKind.wrap .i64 ((a0.Kids.length : Int) - 1)))), (8, V.b (a2 == 33)), (18, V.i a0.Kind), (160, V.b (a0.Kind == 44))]) [] ?_
     refine bC h249 (fun hc338 h249 => ?_) (fun hc338 h249 => ?_)
     ·refine iT hc338 ?_
      refine bB h249 fun y99 hv343 h249 => ?_
      refine CO.cutR (tl 184 [(6, V.b y99)]) [] mix (by
       refine wR 2 101 ?_
       refine bC hv343 (fun hc344 hv343 => ?_) (fun hc344 hv343 => ?_)
       ·refine wI 163 hc344 ?_
        refine wR 3 101 ?_
        refine bC hv343 (fun hc345 hv343 => ?_) (fun hc345 hv343 => ?_)
        ·refine wI 166 hc345 ?_
         refine wR 8 101 ?_
         have hv343 := sI hv343
         subst hv343
         exact fS [] [6]
        refine wI 166 hc345 ?_
        refine wR 3 101 ?_
        refine bC hv343 (fun hc346 hv343 => ?_) (fun hc346 hv343 => ?_)
        ·refine wI 169 hc346 ?_
         refine wR 5 101 ?_
         have hv343 := sI hv343
         subst hv343
         exact fS [] [6]
        refine wI 169 hc346 ?_
        refine wR 5 101 ?_
        have hv343 := sI hv343
        subst hv343
        exact fS [] [6]
       refine wI 163 hc344 ?_
       refine wR 6 101 ?_
       refine bC hv343 (fun hc347 hv343 => ?_) (fun hc347 hv343 => ?_)
       ·refine wI 169 hc347 ?_
        refine wR 5 101 ?_
        have hv343 := sI hv343
        subst hv343
        exact fS [] [6]
       refine wI 169 hc347 ?_
       refine wR 5 101 ?_
       have hv343 := sI hv343
       subst hv343
       exact fS [] [6]
       ) ?_
      refine CO.ret ?_
      have h249 := sI h249
      subst h249
      exact eG [] (.inr rfl) (RetV.one rfl (oT (t := 6) (r := V.b y99)))
     refine iF hc338 ?_
     refine cU 2 101 (tl 184 [(2, V.i a2), (174, V.b (a0.Kind == 45))]) [] ?_
     refine bC h249 (fun hc348 h249 => ?_) (fun hc348 h249 => ?_)
     ·refine iT hc348 ?_
      refine bB h249 fun y101 hv351 h249 => ?_
      refine CO.cutR (tl 184 [(6, V.b y101)]) [] mix (by
       refine wR 1 101 ?_
       refine bB hv351 fun r102 hx352 hv351 => ?_
       refine W.call0 (ms_l1In_ok a2 40 44 hx352) cok51 rfl (by kernel_rfl) ?_
       refine wR 1 101 ?_
       refine bC hv351 (fun hc353 hv351 => ?_) (fun hc353 hv351 => ?_)
       ·refine wI 178 hc353 ?_
        refine wR 4 101 ?_
        have hv351 := sI hv351
        subst hv351
        exact fS [] [6]
       refine wI 178 hc353 ?_
       refine wR 4 101 ?_
       have hv351 := sI hv351
       subst hv351
       exact fS [] [6]
       ) ?_
      refine CO.ret ?_
      have h249 := sI h249
      subst h249
      exact eG [] (.inr rfl) (RetV.one rfl (oT (t := 6) (r := V.b y101)))
     refine iF hc348 ?_
     refine CO.skip ?_
     refine bB h249 fun r104 hx355 h249 => ?_
     refine CO.cutR (tl 184 [(6, V.b r104)]) [] mix (by
      refine wR 1 101 ?_
      refine W.call0 (ms_IsExpr_ok a2 hx355) cok81 rfl (by kernel_rfl) ?_
      refine wR 1 101 ?_
      exact fI
      ) ?_
     refine CO.ret ?_
     have h249 := sI h249
     subst h249
     exact eG [] (.inr rfl) (RetV.one rfl (oT (t := 6) (r := V.b r104)))
   intro hk356
   refine cU 2 101 (tl 184 [(1, V.i a1), (2, V.i a2), (3, .loc 100 0), (7, V.b (a1 == (IntKind.wrap .i64 ((a0.Kids.length : Int) - 1)))), (8, V.b (a2 == 33)), (18, V.i a0.Kind), (100, V.b (a0.Kind == 32))]) [(100, .cells 48 [V.i a0.Kind, V.i a0.Op, V.s a0.Text, V.s a0.Other, .sl false false (a0.Kids.map encI)])] ?_
   refine bC h181 (fun hc357 h181 => ?_) (fun hc357 h181 => ?_)
   ·refine iT hc357 ?_
    refine CO.skip ?_
    exact hk356 (a1, a2, a0, (a0.Kind == 32)) h181 _ (wS [(100, 100)] [1, 2, 3, 7, 8, 18, 100])
   refine iF hc357 ?_
   refine cU 2 101 (tl 184 [(1, V.i a1), (2, V.i a2), (3, .loc 100 0), (7, V.b (a1 == (IntKind.wrap .i64 ((a0.Kids.length : Int) - 1)))), (8, V.b (a2 == 33)), (18, V.i a0.Kind), (100, V.b (a0.Kind == 40))]) [(100, .cells 48 [V.i a0.Kind, V.i a0.Op, V.s a0.Text, V.s a0.Other, .sl false false (a0.Kids.map encI)])] ?_
   refine bC h181 (fun hc358 h181 => ?_) (fun hc358 h181 => ?_)
   ·refine iT hc358 ?_
    refine CO.skip ?_
    exact hk356 (a1, a2, a0, (a0.Kind == 40)) h181 _ (wS [(100, 100)] [1, 2, 3, 7, 8, 18, 100])
   refine iF hc358 ?_
   refine cE 2 101 (tl 184 [(1, V.i a1), (2, V.i a2), (3, .loc 100 0), (7, V.b (a1 == (IntKind.wrap .i64 ((a0.Kids.length : Int) - 1)))), (8, V.b (a2 == 33)), (18, V.i a0.Kind), (100, V.b (a0.Kind == 41))]) [(100, .cells 48 [V.i a0.Kind, V.i a0.Op, V.s a0.Text, V.s a0.Other, .sl false false (a0.Kids.map encI)])] (fun st hw => ?_)
   exact hk356 (a1, a2, a0, (a0.Kind == 41)) h181 _ (hw.trans (wS [(100, 100)] [1, 2, 3, 7, 8, 18, 100]))
 intro hk359
 refine cU 2 101 (tl 184 [(1, V.i a1), (2, V.i a2), (3, .loc 100 0), (7, V.b (a1 == (IntKind.wrap .i64 ((a0.Kids.length : Int) - 1)))), (8, V.b (a2 == 33)), (18, V.i a0.Kind), (19, V.b (a0.Kind == 9))]) [(100, .cells 48 [V.i a0.Kind, V.i a0.Op, V.s a0.Text, V.s a0.Other, .sl false false (a0.Kids.map encI)])] ?_
 refine bC h (fun hc360 h => ?_) (fun hc360 h => ?_)
 ·refine iT hc360 ?_
  refine CO.skip ?_
  exact hk359 (a1, a2, a0, (a0.Kind == 9)) h _ (wS [(100, 100)] [1, 2, 3, 7, 8, 18, 19])
 refine iF hc360 ?_
 refine cE 2 101 (tl 184 [(1, V.i a1), (2, V.i a2), (3, .loc 100 0), (7, V.b (a1 == (IntKind.wrap .i64 ((a0.Kids.length : Int) - 1)))), (8, V.b (a2 == 33)), (18, V.i a0.Kind), (19, V.b (a0.Kind == 10))]) [(100, .cells 48 [V.i a0.Kind, V.i a0.Op, V.s a0.Text, V.s a0.Other, .sl false false (a0.Kids.map encI)])] (fun st hw => ?_)
 exact hk359 (a1, a2, a0, (a0.Kind == 10)) h _ (hw.trans (wS [(100, 100)] [1, 2, 3, 7, 8, 18, 19]))

theorem ms_TreeOk_ok (N : Nat) (a0 : List SNode) {r : Bool} (h : ms_TreeOk N a0 = some r) :
    AC Tryz.prog (GS []) 32 [.sl false false (a0.map (eSN false))] [] (V.b r) [] := by
 rw [ms_TreeOk] at h
 refine AC.enter Tryz.func32 rfl ?_
 refine cU 1 100 (tl 54 [(0, .sl false false (a0.map (eSN false)))]) [] ?_
 refine CO.seq' ?_
 refine bB h fun y8 hv12 h => ?_
 refine CO.cutR (tl 54 [(0, .sl false false (a0.map (eSN false))), (12, V.b y8)]) [] mix (by
  refine wR 1 100 ?_
  refine bB hv12 fun r9 hx13 hv12 => ?_
  refine W.call0 (ms_ShapeOk_ok N a0 hx13) cok68 rfl (by kernel_rfl) ?_
  refine wR 2 100 ?_
  refine bC hv12 (fun hc14 hv12 => ?_) (fun hc14 hv12 => ?_)
  ·refine wI 8 hc14 ?_
   refine wR 4 100 ?_
   have hv12 := sI hv12
   subst hv12
   exact fS [] [0, 12]
  refine wI 8 hc14 ?_
  refine wR 1 100 ?_
  refine bB hv12 fun r10 hx15 hv12 => ?_
  refine W.call0 (ms_DepthOf_ok N a0 hx15) cok69 rfl (by kernel_rfl) ?_
  refine wR 2 100 ?_
  have hv12 := sI hv12
  subst hv12
  exact fS [] [0, 12]
  ) ?_
 refine bC h (fun hc16 h => ?_) (fun hc16 h => ?_)
 ·refine iT hc16 ?_
  refine cU 1 100 (tl 54 [(2, V.b false)]) [] ?_
  refine CO.ret ?_
  have h := sI h
  subst h
  exact eG [] (.inr rfl) (RetV.one rfl (oT (t := 2) (r := V.b false)))
 refine iF hc16 ?_
 refine CO.skip ?_
 refine CO.seq' ?_
 refine cU 1 100 (tl 54 [(0, .sl false false (a0.map (eSN false))), (3, V.i 0)]) [] ?_
 refine CO.block' ?_
 refine CO.loopJ (fun (⟨a0, y669⟩ : ((List SNode) × Int)) => ⟨tl 54 [(0, .sl false false (a0.map (eSN false))), (3, V.i y669)], []⟩) (fun n i => ms_TreeOk_l1 N n i = some r) (n0 := N) (i0 := (a0, 0)) (wS [] [0, 3]) h (fun i h => by simp [ms_TreeOk_l1] at h) ?_
 rintro n1 ⟨a0, y669⟩ h989 ih990
 rw [ms_TreeOk_l1] at h989
 refine CO.seq' ?_
 refine CO.cutR (tl 54 [(0, .sl false false (a0.map (eSN false))), (3, V.i y669), (16, V.b (decide (y669 < (a0.length : Int))))]) [] mix (by
  refine wR 2 280 ?_
  refine W.len Dk (eSN false) a0 [] (by kernel_rfl) (by kernel_rfl) ?_
  refine wR 1 280 ?_
  exact fI
  ) ?_
 refine bC h989 (fun hc992 h989 => ?_) (fun hc992 h989 => ?_)
 ·refine iT hc992 ?_
  refine CO.skip ?_
  refine CO.seq' ?_
  refine CO.block' ?_
  refine CO.seq' ?_
  refine bB h989 fun e923 hx1096 h989 => ?_
  refine bB h989 fun r924 hx1097 h989 => ?_
  refine CO.cutR (tl 54 [(0, .sl false false (a0.map (eSN false))), (3, V.i y669), (24, V.b (!r924))]) [] mix (by
   refine wR 2 280 ?_
   refine W.ixD Dk (eSN false) hx1096 5 (by kernel_rfl) (by kernel_rfl) ?_
   refine wR 1 280 ?_
   refine W.call0 (ms_FieldsOk_ok N e923 hx1097) cok70 rfl (by kernel_rfl) ?_
   refine wR 1 280 ?_
   exact fI
   ) ?_
  refine bC h989 (fun hc1098 h989 => ?_) (fun hc1098 h989 => ?_)
  ·refine iT hc1098 ?_
   refine cU 1 280 (tl 54 [(2, V.b false)]) [] ?_
   refine CO.ret ?_
   have h989 := sI h989
   subst h989
   exact eG [] (.inr rfl) (RetV.one rfl (oT (t := 2) (r := V.b false)))
  refine iF hc1098 ?_
  refine CO.skip ?_
  refine cU 1 280 (tl 54 [(0, .sl false false (a0.map (eSN false))), (3, V.i y669), (4, V.i 0)]) [] ?_
  refine CO.block' ?_
  refine CO.loopJ (fun (⟨a0, y669, y949⟩ : ((List SNode) × Int × Int)) => ⟨tl 54 [(0, .sl false false (a0.map (eSN false))), (3, V.i y669), (4, V.i y949)], []⟩) (fun n i => ms_TreeOk_l2 N (ms_TreeOk_l1 N n1) n i = some r) (n0 := N) (i0 := (a0, y669, 0)) (wS [] [0, 3, 4]) h989 (fun i h => by simp [ms_TreeOk_l2] at h) ?_
  rintro n2 ⟨a0, y669, y949⟩ h1155 ih1156
  rw [ms_TreeOk_l2] at h1155
  refine CO.seq' ?_
  refine bB h1155 fun e978 hx1161 h1155 => ?_
  refine CO.cutR (tl 54 [(0, .sl false false (a0.map (eSN false))), (3, V.i y669), (4, V.i y949), (32, V.b (decide (y949 < (e978.Kids.length : Int))))]) [] mix (by
   refine wR 3 340 ?_
   refine W.ixD Dk (eSN false) hx1161 5 (by kernel_rfl) (by kernel_rfl) ?_
   refine wR 2 340 ?_
   refine W.len Dk encI e978.Kids [] (by kernel_rfl) (by kernel_rfl) ?_
   refine wR 1 340 ?_
   exact fI
   ) ?_
  refine bC h1155 (fun hc1162 h1155 => ?_) (fun hc1162 h1155 => ?_)
  ·refine iT hc1162 ?_
   refine CO.skip ?_
   refine CO.seq' ?_
   refine CO.block' ?_
   refine bB h1155 fun e994 hx1179 h1155 => ?_
   refine bB h1155 fun e995 hx1180 h1155 => ?_
   refine bB h1155 fun e996 hx1181 h1155 => ?_
   refine bB h1155 fun e997 hx1182 h1155 => ?_
   refine bB h1155 fun r998 hx1183 h1155 => ?_
   refine CO.cutR (tl 54 [(0, .sl false false (a0.map (eSN false))), (3, V.i y669), (4, V.i y949), (53, V.b (!r998))]) [] mix (by
    refine wR 2 340 ?_
    refine W.ixD Dk (eSN false) hx1179 5 (by kernel_rfl) (by kernel_rfl) ?_
    refine wR 5 340 ?_
    refine W.ixD Dk (eSN false) hx1180 5 (by kernel_rfl) (by kernel_rfl) ?_
    refine wR 3 340 ?_
    refine W.ixD Dk encI hx1181 1 (by kernel_rfl) (by kernel_rfl) ?_
    refine wR 1 340 ?_
    refine W.ixD Dk (eSN false) hx1182 5 (by kernel_rfl) (by kernel_rfl) ?_
    refine wR 2 340 ?_
    refine W.call0 (ms_l7Kid_ok e994 y949 e997.Kind hx1183) cok71 rfl (by kernel_rfl) ?_
    refine wR 1 340 ?_
    exact fI
    ) ?_
   refine bC h1155 (fun hc1184 h1155 => ?_) (fun hc1184 h1155 => ?_)
   ·refine iT hc1184 ?_
    refine cU 1 340 (tl 54 [(2, V.b false)]) [] ?_
    refine CO.ret ?_
    have h1155 := sI h1155
    subst h1155
    exact eG [] (.inr rfl) (RetV.one rfl (oT (t := 2) (r := V.b false)))
   refine iF hc1184 ?_
   refine CO.skip ?_
   refine cE 3 340 (tl 54 [(0, .sl false false (a0.map (eSN false))), (3, V.i y669), (4, V.i (IntKind.wrap .i64 (y949 + 1)))]) [] (fun st hw => ?_)
   exact ih1156 (a0, y669, (IntKind.wrap .i64 (y949 + 1))) h1155 _ (hw.trans (wS [] [0, 3, 4]))
  refine iF hc1162 ?_
  refine CO.exit ?_
  refine cE 3 340 (tl 54 [(0, .sl false false (a0.map (eSN false))), (3, V.i (IntKind.wrap .i64 (y669 + 1)))]) [] (fun st hw => ?_)
  exact ih990 (a0, (IntKind.wrap .i64 (y669 + 1))) h1155 _ (hw.trans (wS [] [0, 3]))
 refine iF hc992 ?_
 refine CO.exit ?_
 refine cU 1 280 (tl 54 [(2, V.b true)]) [] ?_
 refine CO.ret ?_
 have h989 := sI h989
 subst h989
 exact eG [] (.inr rfl) (RetV.one rfl (oT (t := 2) (r := V.b true)))

theorem ms_l6Shift_ok (N : Nat) (a0 : List SNode) (a1 : Int) {r : (List SNode)} (h : ms_l6Shift N a0 a1 = some r) :
    AC Tryz.prog (GS []) 90 [.sl false false (a0.map (eSN false)), V.i a1] [] (.own 100) [(100, .vec false 48 5 (r.map (eSN true)))] := by
 rw [ms_l6Shift] at h
 refine AC.enter Tryz.func90 rfl ?_
 refine cU 1 100 (tl 52 [(0, .sl false false (a0.map (eSN false))), (1, V.i a1)]) [] ?_
 refine cU 2 100 (tl 52 [(0, .sl false false (a0.map (eSN false))), (1, V.i a1), (5, .own 100)]) [(100, .vec false 48 5 ([].map (eSN true)))] ?_
 refine CO.seq' ?_
 refine cU 1 101 (tl 52 [(0, .sl false false (a0.map (eSN false))), (1, V.i a1), (5, .own 100), (6, V.i 0)]) [(100, .vec false 48 5 ([].map (eSN true)))] ?_
 refine CO.block' ?_
 refine CO.loopJ (fun (⟨a0, a1, y869, y870⟩ : ((List SNode) × Int × Int × (List SNode))) => ⟨tl 52 [(0, .sl false false (a0.map (eSN false))), (1, V.i a1), (5, .own 100), (6, V.i y869)], [(100, .vec false 48 5 (y870.map (eSN true)))]⟩) (fun n i => ms_l6Shift_l1 N n i = some r) (n0 := N) (i0 := (a0, a1, 0, [])) (wS [(100, 100)] [0, 1, 5, 6]) h (fun i h => by simp [ms_l6Shift_l1] at h) ?_
 rintro n1 ⟨a0, a1, y869, y870⟩ h1173 ih1174
 rw [ms_l6Shift_l1] at h1173
 refine CO.seq' ?_
 refine CO.cutR (tl 52 [(0, .sl false false (a0.map (eSN false))), (1, V.i a1), (5, .own 100), (6, V.i y869), (13, V.b (decide (y869 < (a0.length : Int))))]) [(100, .vec false 48 5 (y870.map (eSN true)))] mix (by
  refine wR 2 297 ?_
  refine W.len Dk (eSN false) a0 [] (by kernel_rfl) (by kernel_rfl) ?_
  refine wR 1 297 ?_
  exact fI
  ) ?_
 refine bC h1173 (fun hc1176 h1173 => ?_) (fun hc1176 h1173 => ?_)
 ·refine iT hc1176 ?_
  refine CO.skip ?_
  refine CO.seq' ?_
  refine CO.block' ?_
  refine bB h1173 fun e1198 hx1294 h1173 => ?_
  refine CO.cutR (tl 52 [(0, .sl false false (a0.map (eSN false))), (1, V.i a1), (5, .own 100), (6, V.i y869), (7, .loc 297 0)]) [(297, .cells 48 [V.i e1198.Kind, V.i e1198.Op, V.s e1198.Text, V.s e1198.Other, .sl false false (e1198.Kids.map encI)]), (100, .vec false 48 5 (y870.map (eSN true)))] mix (by
   refine wR 2 297 ?_
   refine W.ixD Dk (eSN false) hx1294 5 (by kernel_rfl) (by kernel_rfl) ?_
   refine wR 3 297 ?_
   exact fI
   ) ?_
  refine cU 3 298 (tl 52 [(0, .sl false false (a0.map (eSN false))), (1, V.i a1), (5, .own 100), (6, V.i y869), (7, .loc 297 0)]) [(297, .cells 48 [V.i e1198.Kind, V.i e1198.Op, V.s e1198.Text, V.s e1198.Other, .own 298]), (298, .vec false 3 1 ([].map encI)), (100, .vec false 48 5 (y870.map (eSN true)))] ?_
  refine CO.seq' ?_
  refine cU 1 299 (tl 52 [(0, .sl false false (a0.map (eSN false))), (1, V.i a1), (5, .own 100), (6, V.i y869), (7, .loc 297 0), (8, V.i 0)]) [(297, .cells 48 [V.i e1198.Kind, V.i e1198.Op, V.s e1198.Text, V.s e1198.Other, .own 298]), (298, .vec false 3 1 ([].map encI)), (100, .vec false 48 5 (y870.map (eSN true)))] ?_
  refine CO.block' ?_
  refine CO.loopJ (fun (⟨a0, a1, y869, y870, e1198, y1267, y1268⟩ : ((List SNode) × Int × Int × (List SNode) × SNode × Int × (List Int))) => ⟨tl 52 [(0, .sl false false (a0.map (eSN false))), (1, V.i a1), (5, .own 100), (6, V.i y869), (7, .loc 101 0), (8, V.i y1267)], [(100, .vec false 48 5 (y870.map (eSN true))), (101, .cells 48 [V.i e1198.Kind, V.i e1198.Op, V.s e1198.Text, V.s e1198.Other, .own 102]), (102, .vec false 3 1 (y1268.map encI))]⟩) (fun n i => ms_l6Shift_l2 N (ms_l6Shift_l1 N n1) n i = some r) (n0 := N) (i0 := (a0, a1, y869, y870, e1198, 0, [])) (wS [(100, 100), (297, 101), (298, 102)] [0, 1, 5, 6, 7, 8]) h1173 (fun i h => by simp [ms_l6Shift_l2] at h) ?_
  rintro n2 ⟨a0, a1, y869, y870, e1198, y1267, y1268⟩ h1387 ih1388
  rw [ms_l6Shift_l2] at h1387
  refine CO.seq' ?_
  refine bB h1387 fun e1290 hx1393 h1387 => ?_
  refine CO.cutR (tl 52 [(0, .sl false false (a0.map (eSN false))), (1, V.i a1), (5, .own 100), (6, V.i y869), (7, .loc 101 0), (8, V.i y1267), (29, V.b (decide (y1267 < (e1290.Kids.length : Int))))]) [(100, .vec false 48 5 (y870.map (eSN true))), (101, .cells 48 [V.i e1198.Kind, V.i e1198.Op, V.s e1198.Text, V.s e1198.Other, .own 102]), (102, .vec false 3 1 (y1268.map encI))] mix (by
   refine wR 3 363 ?_
   refine W.ixD Dk (eSN false) hx1393 5 (by kernel_rfl) (by kernel_rfl) ?_
   refine wR 2 363 ?_
   refine W.len Dk encI e1290.Kids [] (by kernel_rfl) (by kernel_rfl) ?_
   refine wR 1 363 ?_
   exact fI
   ) ?_
  refine bC h1387 (fun hc1394 h1387 => ?_) (fun hc1394 h1387 => ?_)
  ·refine iT hc1394 ?_
   refine CO.skip ?_
   refine CO.seq' ?_
   refine CO.block' ?_
   refine bB h1387 fun e1300 hx1404 h1387 => ?_
   refine bB h1387 fun e1301 hx1405 h1387 => ?_
   refine bB h1387 fun x1302 hx1406 h1387 => ?_
   refine CO.endR (tl 52 [(0, .sl false false (a0.map (eSN false))), (1, V.i a1), (5, .own 100), (6, V.i y869), (7, .loc 101 0), (8, V.i y1267)]) [(101, .cells 48 [V.i e1198.Kind, V.i e1198.Op, V.s e1198.Text, V.s e1198.Other, .own 364]), (364, .vec false 3 1 (x1302.map encI)), (100, .vec false 48 5 (y870.map (eSN true)))] mix (by
    refine wR 4 363 ?_
    refine W.ixD Dk (eSN false) hx1404 5 (by kernel_rfl) (by kernel_rfl) ?_
    refine wR 3 363 ?_
    refine W.ixD Dk encI hx1405 1 (by kernel_rfl) (by kernel_rfl) ?_
    refine wR 4 363 ?_
    refine W.appO Dk encI (a := 102) (c := 363) (el := 3) (sz := 1) 8 hx1406 rfl 364 (by kernel_rfl) ?_
    refine wR 2 365 ?_
    exact fI
    ) (fun st hw => ?_)
   refine CO.weak hw ?_
   refine cE 3 365 (tl 52 [(0, .sl false false (a0.map (eSN false))), (1, V.i a1), (5, .own 100), (6, V.i y869), (7, .loc 101 0), (8, V.i (IntKind.wrap .i64 (y1267 + 1)))]) [(101, .cells 48 [V.i e1198.Kind, V.i e1198.Op, V.s e1198.Text, V.s e1198.Other, .own 364]), (364, .vec false 3 1 (x1302.map encI)), (100, .vec false 48 5 (y870.map (eSN true)))] (fun st hw => ?_)
   exact ih1388 (a0, a1, y869, y870, e1198, (IntKind.wrap .i64 (y1267 + 1)), x1302) h1387 _ (hw.trans (wS [(100, 100), (101, 101), (364, 102)] [0, 1, 5, 6, 7, 8]))
  refine iF hc1394 ?_
  refine CO.exit ?_
  refine bB h1387 fun x1304 hx1408 h1387 => ?_
  refine CO.endR (tl 52 [(0, .sl false false (a0.map (eSN false))), (1, V.i a1), (5, .own 364), (6, V.i y869)]) [(364, .vec false 48 5 (x1304.map (eSN true)))] mix (by
   refine wR 3 363 ?_
   refine W.appO Dk (eSN true) (a := 100) (c := 363) (el := 48) (sz := 5) 72 hx1408 rfl 364 (by kernel_rfl) ?_
   refine wR 1 365 ?_
   exact fI
   ) (fun st hw => ?_)
  refine CO.weak hw ?_
  refine cE 3 365 (tl 52 [(0, .sl false false (a0.map (eSN false))), (1, V.i a1), (5, .own 364), (6, V.i (IntKind.wrap .i64 (y869 + 1)))]) [(364, .vec false 48 5 (x1304.map (eSN true)))] (fun st hw => ?_)
  exact ih1174 (a0, a1, (IntKind.wrap .i64 (y869 + 1)), x1304) h1387 _ (hw.trans (wS [(364, 100)] [0, 1, 5, 6]))
 refine iF hc1176 ?_
 refine CO.exit ?_
 refine cU 2 297 (tl 52 [(4, .own 100)]) [(100, .vec false 48 5 (y870.map (eSN true)))] ?_
 refine CO.ret ?_
 have h1173 := sI h1173
 subst h1173
 exact eG [(100, 100)] (.inr rfl) (RetV.one rfl (oT (t := 4) (r := .own 100)))

theorem ms_l6Copy_ok (N : Nat) (a0 : List SNode) {r : (List SNode)} (h : ms_l6Copy N a0 = some r) :
    AC Tryz.prog (GS []) 52 [.sl false false (a0.map (eSN false))] [] (.own 100) [(100, .vec false 48 5 (r.map (eSN true)))] := by
 rw [ms_l6Copy] at h
 refine AC.enter Tryz.func52 rfl ?_
 refine cU 1 100 (tl 5 [(0, .sl false false (a0.map (eSN false)))]) [] ?_
 refine bB h fun r2 hx2 h => ?_
 refine CO.cutR (tl 5 [(2, .own 100)]) [(100, .vec false 48 5 (r2.map (eSN true)))] mix (by
  refine wR 1 100 ?_
  refine W.call (ms_l6Shift_ok N a0 0 hx2) cok90 [] [(100, 100)] [100] (show LayOk _ [] from trivial) (by kernel_rfl) (by kernel_rfl) ?_
  refine wR 1 101 ?_
  exact fI
  ) ?_
 refine CO.ret ?_
 have h := sI h
 subst h
 exact eG [(100, 100)] (.inr rfl) (RetV.one rfl (oT (t := 2) (r := .own 100)))

theorem ms_l6Make_ok (N : Nat) (a0 : SNode) (a1 : List (List SNode)) {r : (List SNode)} (h : ms_l6Make N a0 a1 = some r) :
    AC Tryz.prog (GS []) 91 [.agg [V.i a0.Kind, V.i a0.Op, V.s a0.Text, V.s a0.Other, .sl false false (a0.Kids.map encI)], .sl false false (a1.map (encL false (eSN false)))] [] (.own 100) [(100, .vec false 48 5 (r.map (eSN true)))] := by
 rw [ms_l6Make] at h
 refine AC.enter Tryz.func91 rfl ?_
 refine cU 2 100 (tl 37 [(1, .sl false false (a1.map (encL false (eSN false)))), (2, .loc 100 0)]) [(100, .cells 48 [V.i a0.Kind, V.i a0.Op, V.s a0.Text, V.s a0.Other, .sl false false (a0.Kids.map encI)])] ?_
 refine cU 2 101 (tl 37 [(1, .sl false false (a1.map (encL false (eSN false)))), (2, .loc 100 0), (5, .own 101)]) [(101, .vec false 48 5 ([].map (eSN true))), (100, .cells 48 [V.i a0.Kind, V.i a0.Op, V.s a0.Text, V.s a0.Other, .sl false false (a0.Kids.map encI)])] ?_
 refine cU 3 102 (tl 37 [(1, .sl false false (a1.map (encL false (eSN false)))), (2, .loc 100 0), (5, .own 101)]) [(100, .cells 48 [V.i a0.Kind, V.i a0.Op, V.s a0.Text, V.s a0.Other, .own 102]), (102, .vec false 3 1 ([].map encI)), (101, .vec false 48 5 ([].map (eSN true)))] ?_
 refine CO.seq' ?_
 refine cU 1 103 (tl 37 [(1, .sl false false (a1.map (encL false (eSN false)))), (2, .loc 100 0), (5, .own 101), (6, V.i 0)]) [(100, .cells 48 [V.i a0.Kind, V.i a0.Op, V.s a0.Text, V.s a0.Other, .own 102]), (102, .vec false 3 1 ([].map encI)), (101, .vec false 48 5 ([].map (eSN true)))] ?_
 refine CO.block' ?_
 refine CO.loopJ (fun (⟨a1, a0, y71, y72, y73⟩ : ((List (List SNode)) × SNode × Int × (List SNode) × (List Int))) => ⟨tl 37 [(1, .sl false false (a1.map (encL false (eSN false)))), (2, .loc 100 0), (5, .own 101), (6, V.i y71)], [(100, .cells 48 [V.i a0.Kind, V.i a0.Op, V.s a0.Text, V.s a0.Other, .own 102]), (101, .vec false 48 5 (y72.map (eSN true))), (102, .vec false 3 1 (y73.map encI))]⟩) (fun n i => ms_l6Make_l1 N n i = some r) (n0 := N) (i0 := (a1, a0, 0, [], [])) (wS [(100, 100), (101, 101), (102, 102)] [1, 2, 5, 6]) h (fun i h => by simp [ms_l6Make_l1] at h) ?_
 rintro n1 ⟨a1, a0, y71, y72, y73⟩ h93 ih94
 rw [ms_l6Make_l1] at h93
 refine CO.seq' ?_
 refine CO.cutR (tl 37 [(1, .sl false false (a1.map (encL false (eSN false)))), (2, .loc 100 0), (5, .own 101), (6, V.i y71), (13, V.b (decide (y71 < (a1.length : Int))))]) [(100, .cells 48 [V.i a0.Kind, V.i a0.Op, V.s a0.Text, V.s a0.Other, .own 102]), (101, .vec false 48 5 (y72.map (eSN true))), (102, .vec false 3 1 (y73.map encI))] mix (by
  refine wR 2 171 ?_
  refine W.len Dk (encL false (eSN false)) a1 [] (by kernel_rfl) (by kernel_rfl) ?_
  refine wR 1 171 ?_
  exact fI
  ) ?_
 refine bC h93 (fun hc96 h93 => ?_) (fun hc96 h93 => ?_)
 ·refine iT hc96 ?_
  refine CO.skip ?_
  refine CO.seq' ?_
  refine CO.block' ?_
  refine bB h93 fun e104 hx108 h93 => ?_
  refine bB h93 fun r105 hx109 h93 => ?_
  refine bB h93 fun x106 hx110 h93 => ?_
  refine CO.cutR (tl 37 [(1, .sl false false (a1.map (encL false (eSN false)))), (2, .loc 100 0), (5, .own 172), (6, V.i y71)]) [(172, .vec false 48 5 (x106.map (eSN true))), (100, .cells 48 [V.i a0.Kind, V.i a0.Op, V.s a0.Text, V.s a0.Other, .own 102]), (102, .vec false 3 1 (y73.map encI))] mix (by
   refine wR 3 171 ?_
   refine W.ixD Dk (encL false (eSN false)) hx108 1 (by kernel_rfl) (by kernel_rfl) ?_
   refine wR 2 171 ?_
   refine W.len Dk (eSN true) y72 [101] (by kernel_rfl) (by kernel_rfl) ?_
   refine W.call (ms_l6Shift_ok N e104 (y72.length : Int) hx109) cok90 [] [(100, 171)] [171] (show LayOk _ [] from trivial) (by kernel_rfl) (by kernel_rfl) ?_
   refine W.appO Dk (eSN true) (a := 101) (c := 171) (el := 48) (sz := 5) 72 hx110 rfl 172 (by kernel_rfl) ?_
   refine wR 1 173 ?_
   exact fI
   ) ?_
  refine bB h93 fun x108 hx112 h93 => ?_
  refine CO.endR (tl 37 [(1, .sl false false (a1.map (encL false (eSN false)))), (2, .loc 100 0), (5, .own 172), (6, V.i y71)]) [(100, .cells 48 [V.i a0.Kind, V.i a0.Op, V.s a0.Text, V.s a0.Other, .own 174]), (174, .vec false 3 1 (x108.map encI)), (172, .vec false 48 5 (x106.map (eSN true)))] mix (by
   refine wR 3 173 ?_
   refine W.len Dk (eSN true) x106 [172] (by kernel_rfl) (by kernel_rfl) ?_
   refine wR 2 173 ?_
   refine W.appO Dk encI (a := 102) (c := 173) (el := 3) (sz := 1) 8 hx112 rfl 174 (by kernel_rfl) ?_
   refine wR 2 175 ?_
   exact fI
   ) (fun st hw => ?_)
  refine CO.weak hw ?_
  refine cE 3 175 (tl 37 [(1, .sl false false (a1.map (encL false (eSN false)))), (2, .loc 100 0), (5, .own 172), (6, V.i (IntKind.wrap .i64 (y71 + 1)))]) [(100, .cells 48 [V.i a0.Kind, V.i a0.Op, V.s a0.Text, V.s a0.Other, .own 174]), (174, .vec false 3 1 (x108.map encI)), (172, .vec false 48 5 (x106.map (eSN true)))] (fun st hw => ?_)
  exact ih94 (a1, a0, (IntKind.wrap .i64 (y71 + 1)), x106, x108) h93 _ (hw.trans (wS [(100, 100), (172, 101), (174, 102)] [1, 2, 5, 6]))
 refine iF hc96 ?_
 refine CO.exit ?_
 refine bB h93 fun x110 hx114 h93 => ?_
 refine CO.cutR (tl 37 [(4, .own 172)]) [(172, .vec false 48 5 (x110.map (eSN true)))] mix (by
  refine wR 3 171 ?_
  refine W.appO Dk (eSN true) (a := 101) (c := 171) (el := 48) (sz := 5) 72 hx114 rfl 172 (by kernel_rfl) ?_
  refine wR 1 173 ?_
  exact fI
  ) ?_
 refine CO.ret ?_
 have h93 := sI h93
 subst h93
 exact eG [(172, 100)] (.inr rfl) (RetV.one rfl (oT (t := 4) (r := .own 172)))

structure RecOk1 (R : Rec1) : Prop where
  ms_l31Put : ∀ (a0 : List SNode) (a1 : Int) (a2 : Int) (a3 : Int) (a4 : List SNode) (r : (List SNode)), R.ms_l31Put a0 a1 a2 a3 a4 = some r → AC Tryz.prog (GS []) 54 [.sl false false (a0.map (eSN false)), V.i a1, V.i a2, V.i a3, .sl false false (a4.map (eSN false))] [] (.own 100) [(100, .vec false 48 5 (r.map (eSN true)))]

theorem ms_l31Put_F_ok (N : Nat) (R : Rec1) (HR : RecOk1 R) (a0 : List SNode) (a1 : Int) (a2 : Int) (a3 : Int) (a4 : List SNode) {r : (List SNode)} (h : ms_l31Put_F N R a0 a1 a2 a3 a4 = some r) :
    AC Tryz.prog (GS []) 54 [.sl false false (a0.map (eSN false)), V.i a1, V.i a2, V.i a3, .sl false false (a4.map (eSN false))] [] (.own 100) [(100, .vec false 48 5 (r.map (eSN true)))] := by
 rw [ms_l31Put_F] at h
 refine AC.enter Tryz.func54 rfl ?_
 refine cU 1 100 (tl 75 [(0, .sl false false (a0.map (eSN false))), (1, V.i a1), (2, V.i a2), (3, V.i a3), (4, .sl false false (a4.map (eSN false)))]) [] ?_
 refine CO.cutR (tl 75 [(0, .sl false false (a0.map (eSN false))), (1, V.i a1), (2, V.i a2), (3, V.i a3), (4, .sl false false (a4.map (eSN false))), (11, .own 100)]) [(100, .vec false 22 1 ([].map (encL false (eSN false))))] mix (by
  refine W.layop Dk (show LayOk _ [] from trivial) (by kernel_rfl) 100 { v := .own 100, R := [], new := [(100, .vec true 22 1 [])], N := [100] } (by kernel_rfl) ?_
  refine W.vecEq 100 (nn := true) (e := 22) (k := 1) (rows := []) (rows' := [].map (encL false (eSN false))) (by kernel_rfl) (by kernel_rfl) ?_
  refine wR 1 101 ?_
  exact fI
  ) ?_
 refine CO.seq' ?_
 refine cU 1 101 (tl 75 [(0, .sl false false (a0.map (eSN false))), (1, V.i a1), (2, V.i a2), (3, V.i a3), (4, .sl false false (a4.map (eSN false))), (11, .own 100), (12, V.i 0)]) [(100, .vec false 22 1 ([].map (encL false (eSN false))))] ?_
 refine CO.block' ?_
 refine CO.loopJ (fun (⟨a0, a1, a2, a3, a4, y141, y142⟩ : ((List SNode) × Int × Int × Int × (List SNode) × Int × (List (List SNode)))) => ⟨tl 75 [(0, .sl false false (a0.map (eSN false))), (1, V.i a1), (2, V.i a2), (3, V.i a3), (4, .sl false false (a4.map (eSN false))), (11, .own 100), (12, V.i y141)], [(100, .vec false 22 1 (y142.map (encL false (eSN false))))]⟩) (fun n i => ms_l31Put_l1 N R n i = some r) (n0 := N) (i0 := (a0, a1, a2, a3, a4, 0, [])) (wS [(100, 100)] [0, 1, 2, 3, 4, 11, 12]) h (fun i h => by simp [ms_l31Put_l1] at h) ?_
 rintro n1 ⟨a0, a1, a2, a3, a4, y141, y142⟩ h253 ih254
 rw [ms_l31Put_l1] at h253
 refine CO.seq' ?_
 refine bB h253 fun e182 hx259 h253 => ?_
 refine CO.cutR (tl 75 [(0, .sl false false (a0.map (eSN false))), (1, V.i a1), (2, V.i a2), (3, V.i a3), (4, .sl false false (a4.map (eSN false))), (11, .own 100), (12, V.i y141), (21, V.b (decide (y141 < (e182.Kids.length : Int))))]) [(100, .vec false 22 1 (y142.map (encL false (eSN false))))] mix (by
  refine wR 3 171 ?_
  refine W.ixD Dk (eSN false) hx259 5 (by kernel_rfl) (by kernel_rfl) ?_
  refine wR 2 171 ?_
  refine W.len Dk encI e182.Kids [] (by kernel_rfl) (by kernel_rfl) ?_
  refine wR 1 171 ?_
  exact fI
  ) ?_
 refine bC h253 (fun hc260 h253 => ?_) (fun hc260 h253 => ?_)
 ·refine iT hc260 ?_
  refine CO.skip ?_
  refine CO.seq' ?_
  refine CO.block' ?_
  refine CO.join (fun (⟨a0, a1, a2, a3, a4, y141, y201⟩ : ((List SNode) × Int × Int × Int × (List SNode) × Int × (List (List SNode)))) => ⟨tl 75 [(0, .sl false false (a0.map (eSN false))), (1, V.i a1), (2, V.i a2), (3, V.i a3), (4, .sl false false (a4.map (eSN false))), (11, .own 100), (12, V.i y141)], [(100, .vec false 22 1 (y201.map (encL false (eSN false))))]⟩) (fun i => ms_l31Put_k2 N R (ms_l31Put_l1 N R n1) i = some r) ?_ ?_
  · rintro ⟨a0, a1, a2, a3, a4, y141, y201⟩ h289
    rw [ms_l31Put_k2] at h289
    refine bB h289 fun e206 hx294 h289 => ?_
    refine bB h289 fun e207 hx295 h289 => ?_
    refine bB h289 fun r208 hx296 h289 => ?_
    refine bB h289 fun x209 hx297 h289 => ?_
    refine CO.endR (tl 75 [(0, .sl false false (a0.map (eSN false))), (1, V.i a1), (2, V.i a2), (3, V.i a3), (4, .sl false false (a4.map (eSN false))), (11, .own 175), (12, V.i y141)]) [(175, .vec false 22 1 (x209.map (encL false (eSN false))))] mix (by
     refine wR 4 173 ?_
     refine W.ixD Dk (eSN false) hx294 5 (by kernel_rfl) (by kernel_rfl) ?_
     refine wR 3 173 ?_
     refine W.ixD Dk encI hx295 1 (by kernel_rfl) (by kernel_rfl) ?_
     refine wR 4 173 ?_
     refine W.call (HR.ms_l31Put a0 e207 a2 a3 a4 _ hx296) cok54 [] [(100, 173)] [173] (show LayOk _ [] from trivial) (by kernel_rfl) (by kernel_rfl) ?_
     refine W.layop Dk (LayOk.cons (j := 173) (eSN true) (eSN false) r208 (by kernel_rfl) (sh_eSN _) (show LayOk _ [] from trivial)) (by kernel_rfl) 174 { v := .own 174, R := [], new := [(174, .vec true 22 1 [[.sl false false (r208.map (eSN false))]])], N := [174] } (by kernel_rfl) ?_
     refine W.vecEq 174 (nn := true) (e := 22) (k := 1) (rows := [[.sl false false (r208.map (eSN false))]]) (rows' := [r208].map (encL false (eSN false))) (by kernel_rfl) (by kernel_rfl) ?_
     refine W.appO Dk (encL false (eSN false)) (a := 100) (c := 174) (el := 22) (sz := 1) 24 hx297 rfl 175 (by kernel_rfl) ?_
     refine wR 1 176 ?_
     exact fI
     ) (fun st hw => ?_)
    refine CO.weak hw ?_
    refine cE 3 176 (tl 75 [(0, .sl false false (a0.map (eSN false))), (1, V.i a1), (2, V.i a2), (3, V.i a3), (4, .sl false false (a4.map (eSN false))), (11, .own 175), (12, V.i (IntKind.wrap .i64 (y141 + 1)))]) [(175, .vec false 22 1 (x209.map (encL false (eSN false))))] (fun st hw => ?_)
    exact ih254 (a0, a1, a2, a3, a4, (IntKind.wrap .i64 (y141 + 1)), x209) h289 _ (hw.trans (wS [(175, 100)] [0, 1, 2, 3, 4, 11, 12]))
  intro hk298
  refine bB h253 fun y210 hv300 h253 => ?_
  refine CO.cutR (tl 75 [(0, .sl false false (a0.map (eSN false))), (1, V.i a1), (2, V.i a2), (3, V.i a3), (4, .sl false false (a4.map (eSN false))), (11, .own 100), (12, V.i y141), (31, V.b y210)]) [(100, .vec false 22 1 (y142.map (encL false (eSN false))))] mix (by
   refine wR 4 171 ?_
   refine bC hv300 (fun hc301 hv300 => ?_) (fun hc301 hv300 => ?_)
   ·refine wI 27 hc301 ?_
    refine wR 4 171 ?_
    have hv300 := sI hv300
    subst hv300
    exact fS [(100, 100)] [0, 1, 2, 3, 4, 11, 12, 31]
   refine wI 27 hc301 ?_
   refine wR 4 171 ?_
   have hv300 := sI hv300
   subst hv300
   exact fS [(100, 100)] [0, 1, 2, 3, 4, 11, 12, 31]
   ) ?_
  refine bC h253 (fun hc302 h253 => ?_) (fun hc302 h253 => ?_)
  ·refine iT hc302 ?_
   refine bB h253 fun x212 hx304 h253 => ?_
   refine CO.endR (tl 75 [(0, .sl false false (a0.map (eSN false))), (1, V.i a1), (2, V.i a2), (3, V.i a3), (4, .sl false false (a4.map (eSN false))), (11, .own 172), (12, V.i y141)]) [(172, .vec false 22 1 (x212.map (encL false (eSN false))))] mix (by
    refine wR 3 171 ?_
    refine W.appO Dk (encL false (eSN false)) (a := 100) (c := 171) (el := 22) (sz := 1) 24 hx304 rfl 172 (by kernel_rfl) ?_
    refine wR 1 173 ?_
    exact fI
    ) (fun st hw => ?_)
   exact hk298 (a0, a1, a2, a3, a4, y141, x212) h253 _ (hw.trans (wS [(172, 100)] [0, 1, 2, 3, 4, 11, 12]))
  refine iF hc302 ?_
  refine CO.skip ?_
  exact hk298 (a0, a1, a2, a3, a4, y141, y142) h253 _ (wS [(100, 100)] [0, 1, 2, 3, 4, 11, 12])
 refine iF hc260 ?_
 refine CO.exit ?_
 refine CO.join (fun (⟨a0, a1, y218⟩ : ((List SNode) × Int × (List (List SNode)))) => ⟨tl 75 [(0, .sl false false (a0.map (eSN false))), (1, V.i a1), (11, .own 100)], [(100, .vec false 22 1 (y218.map (encL false (eSN false))))]⟩) (fun i => ms_l31Put_k3 N R (ms_l31Put_l1 N R n1) i = some r) ?_ ?_
 · rintro ⟨a0, a1, y218⟩ h313
   rw [ms_l31Put_k3] at h313
   refine bB h313 fun e221 hx316 h313 => ?_
   refine bB h313 fun r222 hx317 h313 => ?_
   refine CO.cutR (tl 75 [(10, .own 173)]) [(173, .vec false 48 5 (r222.map (eSN true)))] mix (by
    refine wR 2 173 ?_
    refine W.ixD Dk (eSN false) hx316 5 (by kernel_rfl) (by kernel_rfl) ?_
    refine wR 2 173 ?_
    refine W.lend (ms_l6Make_ok N e221 y218 hx317) cok91 [(100, 173)] [173] (LayOk.cons (j := 100) (encL false (eSN false)) (encL false (eSN false)) y218 (by kernel_rfl) (share_encL _ (sh_eSN _)) (show LayOk _ [] from trivial)) (.own _) (.cons (DeepR.map (fun _ => (.cons (.c _) (.cons (.c _) (.cons (.c _) (.cons (.c _) (.cons (.sl _ _ (DeepR.map (fun _ => (.cons (.c _) .nil)) _)) .nil)))))) _) .nil) (by kernel_rfl) (by kernel_rfl) ?_
    refine wR 1 174 ?_
    exact fI
    ) ?_
   refine CO.ret ?_
   have h313 := sI h313
   subst h313
   exact eG [(173, 100)] (.inr rfl) (RetV.one rfl (oT (t := 10) (r := .own 173)))
 intro hk318
 refine bB h253 fun y224 hv321 h253 => ?_
 refine CO.cutR (tl 75 [(0, .sl false false (a0.map (eSN false))), (1, V.i a1), (4, .sl false false (a4.map (eSN false))), (11, .own 100), (64, V.b y224)]) [(100, .vec false 22 1 (y142.map (encL false (eSN false))))] mix (by
  refine wR 4 171 ?_
  refine bC hv321 (fun hc322 hv321 => ?_) (fun hc322 hv321 => ?_)
  ·refine wI 55 hc322 ?_
   refine wR 3 171 ?_
   refine bB hv321 fun e225 hx323 hv321 => ?_
   refine W.ixD Dk (eSN false) hx323 5 (by kernel_rfl) (by kernel_rfl) ?_
   refine wR 2 171 ?_
   refine W.len Dk encI e225.Kids [] (by kernel_rfl) (by kernel_rfl) ?_
   refine wR 2 171 ?_
   have hv321 := sI hv321
   subst hv321
   exact fS [(100, 100)] [0, 1, 4, 11, 64]
  refine wI 55 hc322 ?_
  refine wR 9 171 ?_
  have hv321 := sI hv321
  subst hv321
  exact fS [(100, 100)] [0, 1, 4, 11, 64]
  ) ?_
 refine bC h253 (fun hc324 h253 => ?_) (fun hc324 h253 => ?_)
 ·refine iT hc324 ?_
  refine bB h253 fun x227 hx326 h253 => ?_
  refine CO.endR (tl 75 [(0, .sl false false (a0.map (eSN false))), (1, V.i a1), (11, .own 172)]) [(172, .vec false 22 1 (x227.map (encL false (eSN false))))] mix (by
   refine wR 3 171 ?_
   refine W.appO Dk (encL false (eSN false)) (a := 100) (c := 171) (el := 22) (sz := 1) 24 hx326 rfl 172 (by kernel_rfl) ?_
   refine wR 1 173 ?_
   exact fI
   ) (fun st hw => ?_)
  exact hk318 (a0, a1, x227) h253 _ (hw.trans (wS [(172, 100)] [0, 1, 11]))
 refine iF hc324 ?_
 refine CO.skip ?_
 exact hk318 (a0, a1, y142) h253 _ (wS [(100, 100)] [0, 1, 11])

theorem scc1_ok : ∀ N, RecOk1 (scc1 N)
  | 0 => ⟨fun _ _ _ _ _ _ h => (by cases h)⟩
  | N + 1 => ⟨fun a0 a1 a2 a3 a4 _ h => ms_l31Put_F_ok N (scc1 N) (scc1_ok N) a0 a1 a2 a3 a4 h⟩

theorem ms_l31Put_ok (N : Nat) (a0 : List SNode) (a1 : Int) (a2 : Int) (a3 : Int) (a4 : List SNode) {r : (List SNode)} (h : ms_l31Put N a0 a1 a2 a3 a4 = some r) :
    AC Tryz.prog (GS []) 54 [.sl false false (a0.map (eSN false)), V.i a1, V.i a2, V.i a3, .sl false false (a4.map (eSN false))] [] (.own 100) [(100, .vec false 48 5 (r.map (eSN true)))] :=
  (scc1_ok N).ms_l31Put a0 a1 a2 a3 a4 r h

theorem ms_l31Told_ok (N : Nat) (a0 : List SNode) (a1 : List SNode) {r : ((List SNode) × Bool)} (h : ms_l31Told N a0 a1 = some r) :
    AC Tryz.prog (GS []) 53 [.sl false false (a0.map (eSN false)), .sl false false (a1.map (eSN false))] [] (.tup [.sl false false (r.1.map (eSN false)), V.b r.2]) [] := by
 rw [ms_l31Told] at h
 refine AC.enter Tryz.func53 rfl ?_
 refine cU 2 100 (tl 12 [(0, .sl false false (a0.map (eSN false))), (1, .sl false false (a1.map (eSN false)))]) [] ?_
 refine CO.seq' ?_
 refine bB h fun r6 hx7 h => ?_
 refine CO.cutR (tl 12 [(0, .sl false false (a0.map (eSN false))), (1, .sl false false (a1.map (eSN false))), (8, V.b (!r6))]) [] mix (by
  refine wR 1 100 ?_
  refine W.call0 (ms_TreeOk_ok N a0 hx7) cok32 rfl (by kernel_rfl) ?_
  refine wR 1 100 ?_
  exact fI
  ) ?_
 refine bC h (fun hc8 h => ?_) (fun hc8 h => ?_)
 ·refine iT hc8 ?_
  refine bB h fun r8 hx10 h => ?_
  refine CO.cutR (tl 12 [(4, .own 100), (5, V.b false)]) [(100, .vec false 48 5 (r8.map (eSN true)))] mix (by
   refine wR 1 100 ?_
   refine W.call (ms_l6Copy_ok N a1 hx10) cok52 [] [(100, 100)] [100] (show LayOk _ [] from trivial) (by kernel_rfl) (by kernel_rfl) ?_
   refine wR 2 101 ?_
   exact fI
   ) ?_
  refine CO.lay (tl 12 [(4, .sl false false (r8.map (eSN false))), (5, V.b false)]) [] (LayOk.cons (j := 100) (eSN true) (eSN false) r8 (by kernel_rfl) (sh_eSN _) (show LayOk _ [] from trivial)) (by kernel_rfl) (by kernel_rfl) (by kernel_rfl) ?_
  refine CO.ret ?_
  have h := sI h
  subst h
  exact eG [] (.inr rfl) (RetV.two rfl (oT (t := 4) (r := .sl false false (r8.map (eSN false)))) (oT (t := 5) (r := V.b false)))
 refine iF hc8 ?_
 refine CO.skip ?_
 refine cU 3 100 (tl 12 [(4, .sl false false (a0.map (eSN false))), (5, V.b true)]) [] ?_
 refine CO.ret ?_
 have h := sI h
 subst h
 exact eG [] (.inr rfl) (RetV.two rfl (oT (t := 4) (r := .sl false false (a0.map (eSN false)))) (oT (t := 5) (r := V.b true)))

theorem ms_Insert_ok (N : Nat) (a0 : List SNode) (a1 : Int) (a2 : Int) (a3 : List SNode) {r : ((List SNode) × Bool)} (h : ms_Insert N a0 a1 a2 a3 = some r) :
    AC Tryz.prog (GS []) 25 [.sl false false (a0.map (eSN false)), V.i a1, V.i a2, .sl false false (a3.map (eSN false))] [] (.tup [.sl false false (r.1.map (eSN false)), V.b r.2]) [] := by
 rw [ms_Insert] at h
 refine AC.enter Tryz.func25 rfl ?_
 refine cU 2 100 (tl 56 [(0, .sl false false (a0.map (eSN false))), (1, V.i a1), (2, V.i a2), (3, .sl false false (a3.map (eSN false)))]) [] ?_
 refine CO.seq' ?_
 refine bB h fun y19 hv29 h => ?_
 refine CO.cutR (tl 56 [(0, .sl false false (a0.map (eSN false))), (1, V.i a1), (2, V.i a2), (3, .sl false false (a3.map (eSN false))), (38, V.b y19)]) [] mix (by
  refine wR 1 100 ?_
  refine bB hv29 fun r20 hx30 hv29 => ?_
  refine W.call0 (ms_TreeOk_ok N a0 hx30) cok32 rfl (by kernel_rfl) ?_
  refine wR 2 100 ?_
  refine bC hv29 (fun hc31 hv29 => ?_) (fun hc31 hv29 => ?_)
  ·refine wI 15 hc31 ?_
   refine wR 23 100 ?_
   have hv29 := sI hv29
   subst hv29
   exact fS [] [0, 1, 2, 3, 38]
  refine wI 15 hc31 ?_
  refine wR 1 100 ?_
  refine bB hv29 fun r21 hx32 hv29 => ?_
  refine W.call0 (ms_TreeOk_ok N a3 hx32) cok32 rfl (by kernel_rfl) ?_
  refine wR 3 100 ?_
  refine bC hv29 (fun hc33 hv29 => ?_) (fun hc33 hv29 => ?_)
  ·refine wI 20 hc33 ?_
   refine wR 18 100 ?_
   have hv29 := sI hv29
   subst hv29
   exact fS [] [0, 1, 2, 3, 38]
  refine wI 20 hc33 ?_
  refine wR 2 100 ?_
  refine W.len Dk (eSN false) a0 [] (by kernel_rfl) (by kernel_rfl) ?_
  refine wR 1 100 ?_
  refine bB hv29 fun r22 hx34 hv29 => ?_
  refine W.call0 (ms_l1In_ok a1 0 (IntKind.wrap .i64 ((a0.length : Int) - 1)) hx34) cok51 rfl (by kernel_rfl) ?_
  refine wR 3 100 ?_
  refine bC hv29 (fun hc35 hv29 => ?_) (fun hc35 hv29 => ?_)
  ·refine wI 28 hc35 ?_
   refine wR 10 100 ?_
   have hv29 := sI hv29
   subst hv29
   exact fS [] [0, 1, 2, 3, 38]
  refine wI 28 hc35 ?_
  refine wR 3 100 ?_
  refine bB hv29 fun e23 hx36 hv29 => ?_
  refine W.ixD Dk (eSN false) hx36 5 (by kernel_rfl) (by kernel_rfl) ?_
  refine wR 2 100 ?_
  refine W.len Dk encI e23.Kids [] (by kernel_rfl) (by kernel_rfl) ?_
  refine bB hv29 fun r24 hx37 hv29 => ?_
  refine W.call0 (ms_l1In_ok a2 0 (e23.Kids.length : Int) hx37) cok51 rfl (by kernel_rfl) ?_
  refine wR 2 100 ?_
  have hv29 := sI hv29
  subst hv29
  exact fS [] [0, 1, 2, 3, 38]
  ) ?_
 refine bC h (fun hc38 h => ?_) (fun hc38 h => ?_)
 ·refine iT hc38 ?_
  refine bB h fun r26 hx40 h => ?_
  refine CO.cutR (tl 56 [(8, .own 100), (9, V.b false)]) [(100, .vec false 48 5 (r26.map (eSN true)))] mix (by
   refine wR 1 100 ?_
   refine W.call (ms_l6Copy_ok N a0 hx40) cok52 [] [(100, 100)] [100] (show LayOk _ [] from trivial) (by kernel_rfl) (by kernel_rfl) ?_
   refine wR 2 101 ?_
   exact fI
   ) ?_
  refine CO.lay (tl 56 [(8, .sl false false (r26.map (eSN false))), (9, V.b false)]) [] (LayOk.cons (j := 100) (eSN true) (eSN false) r26 (by kernel_rfl) (sh_eSN _) (show LayOk _ [] from trivial)) (by kernel_rfl) (by kernel_rfl) (by kernel_rfl) ?_
  refine CO.ret ?_
  have h := sI h
  subst h
  exact eG [] (.inr rfl) (RetV.two rfl (oT (t := 8) (r := .sl false false (r26.map (eSN false)))) (oT (t := 9) (r := V.b false)))
 refine iF hc38 ?_
 refine CO.skip ?_
 refine bB h fun r29 hx43 h => ?_
 refine bB h fun r30 hx44 h => ?_
 refine CO.cutR (tl 56 [(10, .sl false false (r30.1.map (eSN false))), (11, V.b r30.2)]) [] mix (by
  refine wR 2 100 ?_
  refine W.len Dk (eSN false) a0 [] (by kernel_rfl) (by kernel_rfl) ?_
  refine wR 4 100 ?_
  refine W.call (ms_l31Put_ok N a0 (IntKind.wrap .i64 ((a0.length : Int) - 1)) a1 a2 a3 hx43) cok54 [] [(100, 100)] [100] (show LayOk _ [] from trivial) (by kernel_rfl) (by kernel_rfl) ?_
  refine wR 1 101 ?_
  refine W.call (ms_l31Told_ok N r29 a0 hx44) cok53 [] [] [] (LayOk.cons (j := 100) (eSN true) (eSN false) r29 (by kernel_rfl) (sh_eSN _) (show LayOk _ [] from trivial)) (by kernel_rfl) (by kernel_rfl) ?_
  refine wR 5 101 ?_
  exact fI
  ) ?_
 refine cU 4 101 (tl 56 [(8, .sl false false (r30.1.map (eSN false))), (9, V.b r30.2)]) [] ?_
 refine CO.ret ?_
 have h := sI h
 subst h
 exact eG [] (.inr rfl) (RetV.two rfl (oT (t := 8) (r := .sl false false (r30.1.map (eSN false)))) (oT (t := 9) (r := V.b r30.2)))

theorem mi_within_ok (a0 : Int) (a1 : Int) (a2 : Int) {r : Bool} (h : mi_within a0 a1 a2 = some r) :
    AC Tryz.prog (GS []) 55 [V.i a0, V.i a1, V.i a2] [] (V.b r) [] := by
 rw [mi_within] at h
 refine AC.enter Tryz.func55 rfl ?_
 refine cU 1 100 (tl 15 [(0, V.i a0), (1, V.i a1), (2, V.i a2)]) [] ?_
 refine bB h fun y1 hv2 h => ?_
 refine CO.cutR (tl 15 [(6, V.b y1)]) [] mix (by
  refine wR 4 100 ?_
  refine bC hv2 (fun hc3 hv2 => ?_) (fun hc3 hv2 => ?_)
  ·refine wI 10 hc3 ?_
   refine wR 5 100 ?_
   have hv2 := sI hv2
   subst hv2
   exact fS [] [6]
  refine wI 10 hc3 ?_
  refine wR 5 100 ?_
  have hv2 := sI hv2
  subst hv2
  exact fS [] [6]
  ) ?_
 refine CO.ret ?_
 have h := sI h
 subst h
 exact eG [] (.inr rfl) (RetV.one rfl (oT (t := 6) (r := V.b y1)))

theorem mi_startsOf_ok (N : Nat) (a0 : List SNode) {r : ((List Int) × Bool)} (h : mi_startsOf N a0 = some r) :
    AC Tryz.prog (GS []) 104 [.sl false false (a0.map (eSN false))] [] (.tup [.own 100, V.b r.2]) [(100, .vec false 3 1 (r.1.map encI))] := by
 rw [mi_startsOf] at h
 refine AC.enter Tryz.func104 rfl ?_
 refine cU 2 100 (tl 57 [(0, .sl false false (a0.map (eSN false))), (2, .loc 100 0), (3, .loc 101 0)]) [(101, .cells 4 [V.b false]), (100, .cells 30 [.c (.slice none 0 0)])] ?_
 refine CO.seq' ?_
 refine bB h fun r4 hx5 h => ?_
 refine CO.cutR (tl 57 [(0, .sl false false (a0.map (eSN false))), (2, .loc 100 0), (3, .loc 101 0), (13, V.b (!r4))]) [(101, .cells 4 [V.b false]), (100, .cells 30 [.c (.slice none 0 0)])] mix (by
  refine wR 1 102 ?_
  refine W.len Dk (eSN false) a0 [] (by kernel_rfl) (by kernel_rfl) ?_
  refine W.call0 (mi_within_ok (a0.length : Int) 1 400 hx5) cok55 rfl (by kernel_rfl) ?_
  refine wR 1 102 ?_
  exact fI
  ) ?_
 refine bC h (fun hc6 h => ?_) (fun hc6 h => ?_)
 ·refine iT hc6 ?_
  refine cU 2 102 (tl 57 [(2, .loc 100 0), (3, .loc 101 0)]) [(101, .cells 4 [V.b false]), (100, .cells 30 [.c (.slice none 0 0)])] ?_
  refine CO.weak (Weak.nilCell 100 0 102 3 1 (ety := 30) (cs := [.c (.slice none 0 0)]) (by kernel_rfl) (by kernel_rfl) (by kernel_rfl)) ?_
  refine CO.ret ?_
  have h := sI h
  subst h
  exact eG [(102, 100)] (.inr rfl) (RetV.two rfl (OneR.cell Dk (r := .own 102) (i := 100) (ety := 30) (cs := [.own 102]) (by kernel_rfl) (by kernel_rfl) (by kernel_rfl)) (OneR.cell Dk (r := V.b false) (i := 101) (ety := 4) (cs := [V.b false]) (by kernel_rfl) (by kernel_rfl) (by kernel_rfl)))
 refine iF hc6 ?_
 refine CO.skip ?_
 refine bB h fun x6 hx8 h => ?_
 refine CO.cutR (tl 57 [(0, .sl false false (a0.map (eSN false))), (2, .loc 100 0), (3, .loc 101 0), (4, .loc 103 0)]) [(103, .cells 30 [.own 102]), (102, .vec false 3 1 (x6.map encI)), (101, .cells 4 [V.b false]), (100, .cells 30 [.c (.slice none 0 0)])] mix (by
  refine wR 1 102 ?_
  refine W.len Dk (eSN false) a0 [] (by kernel_rfl) (by kernel_rfl) ?_
  refine W.mk Dk encI 8 hx8 102 3 1 [.int .i64 0] (by kernel_rfl) (by kernel_rfl) ?_
  refine wR 2 103 ?_
  exact fI
  ) ?_
 refine CO.seq' ?_
 refine CO.cutR (tl 57 [(0, .sl false false (a0.map (eSN false))), (2, .loc 100 0), (3, .loc 101 0), (4, .loc 103 0), (17, .sl false false (a0.map (eSN false))), (18, V.i (a0.length : Int)), (19, V.i 0)]) [(103, .cells 30 [.own 102]), (102, .vec false 3 1 (x6.map encI)), (101, .cells 4 [V.b false]), (100, .cells 30 [.c (.slice none 0 0)])] mix (by
  refine wR 1 104 ?_
  refine W.len Dk (eSN false) a0 [] (by kernel_rfl) (by kernel_rfl) ?_
  refine wR 1 104 ?_
  exact fI
  ) ?_
 refine CO.block' ?_
 refine CO.loopJ (fun (⟨a0, y203, y204⟩ : ((List SNode) × Int × (List Int))) => ⟨tl 57 [(0, .sl false false (a0.map (eSN false))), (2, .loc 100 0), (3, .loc 101 0), (4, .loc 102 0), (17, .sl false false (a0.map (eSN false))), (18, V.i (a0.length : Int)), (19, V.i y203)], [(100, .cells 30 [.c (.slice none 0 0)]), (101, .cells 4 [V.b false]), (102, .cells 30 [.own 103]), (103, .vec false 3 1 (y204.map encI))]⟩) (fun n i => mi_startsOf_l1 N n i = some r) (n0 := N) (i0 := (a0, 0, x6)) (wS [(100, 100), (101, 101), (103, 102), (102, 103)] [0, 2, 3, 4, 17, 18, 19]) h (fun i h => by simp [mi_startsOf_l1] at h) ?_
 rintro n1 ⟨a0, y203, y204⟩ h481 ih482
 rw [mi_startsOf_l1] at h481
 refine cU 1 272 (tl 57 [(0, .sl false false (a0.map (eSN false))), (2, .loc 100 0), (3, .loc 101 0), (4, .loc 102 0), (17, .sl false false (a0.map (eSN false))), (18, V.i (a0.length : Int)), (19, V.i y203), (20, V.b (decide (y203 < (a0.length : Int))))]) [(100, .cells 30 [.c (.slice none 0 0)]), (101, .cells 4 [V.b false]), (102, .cells 30 [.own 103]), (103, .vec false 3 1 (y204.map encI))] ?_
 refine CO.seq' ?_
 refine bC h481 (fun hc484 h481 => ?_) (fun hc484 h481 => ?_)
 ·refine iT hc484 ?_
  refine CO.skip ?_
  refine CO.seq' ?_
  refine CO.block' ?_
  refine bB h481 fun e322 hx556 h481 => ?_
  refine CO.cutR (tl 57 [(0, .sl false false (a0.map (eSN false))), (2, .loc 100 0), (3, .loc 101 0), (4, .loc 102 0), (5, V.i y203), (6, .loc 272 0), (17, .sl false false (a0.map (eSN false))), (18, V.i (a0.length : Int)), (19, V.i y203)]) [(272, .cells 48 [V.i e322.Kind, V.i e322.Op, V.s e322.Text, V.s e322.Other, .sl false false (e322.Kids.map encI)]), (100, .cells 30 [.c (.slice none 0 0)]), (101, .cells 4 [V.b false]), (102, .cells 30 [.own 103]), (103, .vec false 3 1 (y204.map encI))] mix (by
   refine wR 1 272 ?_
   refine W.ixD Dk (eSN false) hx556 5 (by kernel_rfl) (by kernel_rfl) ?_
   refine wR 4 272 ?_
   exact fI
   ) ?_
  refine cU 4 273 (tl 57 [(0, .sl false false (a0.map (eSN false))), (2, .loc 100 0), (3, .loc 101 0), (4, .loc 102 0), (5, V.i y203), (6, .loc 272 0), (7, .loc 273 0), (17, .sl false false (a0.map (eSN false))), (18, V.i (a0.length : Int)), (19, V.i y203)]) [(273, .cells 3 [V.i (IntKind.wrap .i64 (y203 - 1))]), (272, .cells 48 [V.i e322.Kind, V.i e322.Op, V.s e322.Text, V.s e322.Other, .sl false false (e322.Kids.map encI)]), (100, .cells 30 [.c (.slice none 0 0)]), (101, .cells 4 [V.b false]), (102, .cells 30 [.own 103]), (103, .vec false 3 1 (y204.map encI))] ?_
  refine CO.seq' ?_
  refine CO.cutR (tl 57 [(0, .sl false false (a0.map (eSN false))), (2, .loc 100 0), (3, .loc 101 0), (4, .loc 102 0), (5, V.i y203), (7, .loc 273 0), (17, .sl false false (a0.map (eSN false))), (18, V.i (a0.length : Int)), (19, V.i y203), (28, .fn 137 [.loc 274 0])]) [(274, .cells 30 [.sl false false (e322.Kids.map encI)]), (273, .cells 3 [V.i (IntKind.wrap .i64 (y203 - 1))]), (100, .cells 30 [.c (.slice none 0 0)]), (101, .cells 4 [V.b false]), (102, .cells 30 [.own 103]), (103, .vec false 3 1 (y204.map encI))] mix (by
   refine wR 2 274 ?_
   refine W.call (back119 e322.Kids) cok119 [] [(100, 274)] [274] (show LayOk _ [] from trivial) (by kernel_rfl) (by kernel_rfl) ?_
   exact fI
   ) ?_
  refine CO.block' ?_
  refine CO.rangeB backok137 cok137 V.i e322.Kids [(100, 2), (101, 3), (102, 4), (273, 1), (274, 0), (103, 5)] [0, 2, 3, 4, 5, 7, 17, 18, 19, 28] (tl 57 [(0, .sl false false (a0.map (eSN false))), (2, .loc 2 0), (3, .loc 3 0), (4, .loc 4 0), (5, V.i y203), (7, .loc 1 0), (17, .sl false false (a0.map (eSN false))), (18, V.i (a0.length : Int)), (19, V.i y203), (28, .fn 137 [.loc 0 0])]) (IntKind.wrap .i64 (y203 - 1)) (fun (y345 : Int) => [(2, .cells 30 [.c (.slice none 0 0)]), (3, .cells 4 [V.b false]), (4, .cells 30 [.own 5]), (1, .cells 3 [V.i y345]), (0, .cells 30 [.sl false false (e322.Kids.map encI)]), (5, .vec false 3 1 (y204.map encI))]) (fun es i => mi_startsOf_r2 N (mi_startsOf_l1 N n1) a0 y203 e322 y204 es i = some r) 0 30 false 29 30 (by kernel_rfl) (by kernel_rfl) (by kernel_rfl) (by kernel_rfl) (by rintro y345; kernel_rfl) h481 ?_ ?_
  ·rintro e339 es340 y345 h609 L
   rw [mi_startsOf_r2] at h609
   refine ⟨tl 57 [(0, .sl false false (a0.map (eSN false))), (2, .loc 2 0), (3, .loc 3 0), (4, .loc 4 0), (5, V.i y203), (7, .loc 1 0), (9, V.i e339), (17, .sl false false (a0.map (eSN false))), (18, V.i (a0.length : Int)), (19, V.i y203), (28, .fn 137 [.loc 0 0])], [(2, .cells 30 [.c (.slice none 0 0)]), (3, .cells 4 [V.b false]), (4, .cells 30 [.own 5]), (1, .cells 3 [V.i y345]), (0, .cells 30 [.sl false false (e322.Kids.map encI)]), (5, .vec false 3 1 (y204.map encI))], ?_, ?_⟩
   ·refine cE 1 316 (tl 57 [(0, .sl false false (a0.map (eSN false))), (2, .loc 2 0), (3, .loc 3 0), (4, .loc 4 0), (5, V.i y203), (7, .loc 1 0), (9, V.i e339), (17, .sl false false (a0.map (eSN false))), (18, V.i (a0.length : Int)), (19, V.i y203), (28, .fn 137 [.loc 0 0])]) [(2, .cells 30 [.c (.slice none 0 0)]), (3, .cells 4 [V.b false]), (4, .cells 30 [.own 5]), (1, .cells 3 [V.i y345]), (0, .cells 30 [.sl false false (e322.Kids.map encI)]), (5, .vec false 3 1 (y204.map encI))] (fun st hw => ?_)
    exact ⟨rfl, hw⟩
   ·refine CO.block' ?_
    refine CO.seq' ?_
    refine bB h609 fun y352 hv616 h609 => ?_
    refine CO.cutR (tl 57 [(0, .sl false false (a0.map (eSN false))), (2, .loc 2 0), (3, .loc 3 0), (4, .loc 4 0), (5, V.i y203), (7, .loc 1 0), (9, V.i e339), (17, .sl false false (a0.map (eSN false))), (18, V.i (a0.length : Int)), (19, V.i y203), (28, .fn 137 [.loc 0 0]), (37, V.b y352)]) [(2, .cells 30 [.c (.slice none 0 0)]), (3, .cells 4 [V.b false]), (4, .cells 30 [.own 5]), (1, .cells 3 [V.i y345]), (0, .cells 30 [.sl false false (e322.Kids.map encI)]), (5, .vec false 3 1 (y204.map encI))] mix (by
     refine wR 3 316 ?_
     refine bC hv616 (fun hc617 hv616 => ?_) (fun hc617 hv616 => ?_)
     ·refine wI 33 hc617 ?_
      refine wR 4 316 ?_
      have hv616 := sI hv616
      subst hv616
      exact fS [(2, 2), (3, 3), (4, 4), (1, 1), (0, 0), (5, 5)] [0, 2, 3, 4, 5, 7, 9, 17, 18, 19, 28, 37]
     refine wI 33 hc617 ?_
     refine wR 4 316 ?_
     have hv616 := sI hv616
     subst hv616
     exact fS [(2, 2), (3, 3), (4, 4), (1, 1), (0, 0), (5, 5)] [0, 2, 3, 4, 5, 7, 9, 17, 18, 19, 28, 37]
     ) ?_
    refine bC h609 (fun hc618 h609 => ?_) (fun hc618 h609 => ?_)
    ·refine iT hc618 ?_
     refine cU 2 316 (tl 57 [(2, .loc 2 0), (3, .loc 3 0)]) [(3, .cells 4 [V.b false]), (2, .cells 30 [.c (.slice none 0 0)]), (4, .cells 30 [.own 5]), (1, .cells 3 [V.i y345]), (0, .cells 30 [.sl false false (e322.Kids.map encI)]), (5, .vec false 3 1 (y204.map encI))] ?_
     refine CO.weak (Weak.nilCell 2 0 316 3 1 (ety := 30) (cs := [.c (.slice none 0 0)]) (by kernel_rfl) (by kernel_rfl) (by kernel_rfl)) ?_
     refine CO.ret ?_
     refine Fin.mk' [(316, 316), (3, 101), (2, 100), (4, 102), (1, 273), (0, 274), (5, 103)] [0, 2, 3, 4, 5, 7, 17, 18, 19, 28] (tl 57 [(0, .sl false false (a0.map (eSN false))), (2, .loc 100 0), (3, .loc 101 0), (4, .loc 102 0), (5, V.i y203), (7, .loc 273 0), (17, .sl false false (a0.map (eSN false))), (18, V.i (a0.length : Int)), (19, V.i y203), (28, .fn 137 [.loc 274 0])]) [(316, .vec false 3 1 ([].map encI)), (101, .cells 4 [V.b false]), (100, .cells 30 [.own 316]), (102, .cells 30 [.own 103]), (273, .cells 3 [V.i y345]), (274, .cells 30 [.sl false false (e322.Kids.map encI)]), (103, .vec false 3 1 (y204.map encI))] (by kernel_rfl) (by kernel_rfl) (by kernel_rfl) ?_
     have h609 := sI h609
     subst h609
     exact eG [(316, 100)] (.inr rfl) (RetV.two rfl (OneR.cell Dk (r := .own 316) (i := 100) (ety := 30) (cs := [.own 316]) (by kernel_rfl) (by kernel_rfl) (by kernel_rfl)) (OneR.cell Dk (r := V.b false) (i := 101) (ety := 4) (cs := [V.b false]) (by kernel_rfl) (by kernel_rfl) (by kernel_rfl)))
    refine iF hc618 ?_
    refine CO.skip ?_
    refine bB h609 fun e354 hx620 h609 => ?_
    refine CO.endR (tl 57 [(0, .sl false false (a0.map (eSN false))), (2, .loc 2 0), (3, .loc 3 0), (4, .loc 4 0), (5, V.i y203), (7, .loc 1 0), (17, .sl false false (a0.map (eSN false))), (18, V.i (a0.length : Int)), (19, V.i y203), (28, .fn 137 [.loc 0 0])]) [(1, .cells 3 [V.i (IntKind.wrap .i64 (e354 - 1))]), (2, .cells 30 [.c (.slice none 0 0)]), (3, .cells 4 [V.b false]), (4, .cells 30 [.own 5]), (0, .cells 30 [.sl false false (e322.Kids.map encI)]), (5, .vec false 3 1 (y204.map encI))] mix (by
     refine wR 2 316 ?_
     refine W.ixO Dk encI hx620 5 1 (by kernel_rfl) ?_
     refine W.ldO Dk encI hx620 3 5 0 (V.i e354) (by kernel_rfl) (by kernel_rfl) ?_
     refine wR 2 316 ?_
     exact fI
     ) (fun st hw => ?_)
    exact ⟨tl 57 [], _, (hw.trans (wS [(2, 2), (3, 3), (4, 4), (1, 1), (0, 0), (5, 5)] [])), (IntKind.wrap .i64 (e354 - 1)), h609, rfl⟩
  ·rintro y345 h610
   rw [mi_startsOf_r2] at h610
   refine Fin.mk' [(2, 100), (3, 101), (4, 102), (1, 273), (0, 274), (5, 103)] [0, 2, 3, 4, 5, 7, 17, 18, 19, 28] (tl 57 [(0, .sl false false (a0.map (eSN false))), (2, .loc 100 0), (3, .loc 101 0), (4, .loc 102 0), (5, V.i y203), (7, .loc 273 0), (17, .sl false false (a0.map (eSN false))), (18, V.i (a0.length : Int)), (19, V.i y203), (28, .fn 137 [.loc 274 0])]) [(100, .cells 30 [.c (.slice none 0 0)]), (101, .cells 4 [V.b false]), (102, .cells 30 [.own 103]), (273, .cells 3 [V.i y345]), (274, .cells 30 [.sl false false (e322.Kids.map encI)]), (103, .vec false 3 1 (y204.map encI))] (by kernel_rfl) (by kernel_rfl) (by kernel_rfl) ?_
   refine bB h610 fun e357 hx623 h610 => ?_
   refine bB h610 fun x358 hu624 h610 => ?_
   refine CO.endR (tl 57 [(0, .sl false false (a0.map (eSN false))), (2, .loc 100 0), (3, .loc 101 0), (4, .loc 102 0), (17, .sl false false (a0.map (eSN false))), (18, V.i (a0.length : Int)), (19, V.i y203)]) [(103, .vec false 3 1 (x358.map encI)), (100, .cells 30 [.c (.slice none 0 0)]), (101, .cells 4 [V.b false]), (102, .cells 30 [.own 103])] mix (by
    refine wR 4 336 ?_
    refine W.ixO Dk encI hx623 103 1 (by kernel_rfl) ?_
    refine W.stO Dk encI (x' := (IntKind.wrap .i64 (y345 + 1))) hx623 hu624 (j := 103) (nn := false) (ety := 3) (sz := 1) (b := 0) (ys := [V.i (IntKind.wrap .i64 (y345 + 1))]) (C := []) (R := []) (by kernel_rfl) (by kernel_rfl) ?_
    exact fI
    ) (fun st hw => ?_)
   refine CO.weak hw ?_
   refine cE 2 336 (tl 57 [(0, .sl false false (a0.map (eSN false))), (2, .loc 100 0), (3, .loc 101 0), (4, .loc 102 0), (17, .sl false false (a0.map (eSN false))), (18, V.i (a0.length : Int)), (19, V.i (IntKind.wrap .i64 (y203 + 1)))]) [(103, .vec false 3 1 (x358.map encI)), (100, .cells 30 [.c (.slice none 0 0)]), (101, .cells 4 [V.b false]), (102, .cells 30 [.own 103])] (fun st hw => ?_)
   exact ih482 (a0, (IntKind.wrap .i64 (y203 + 1)), x358) h610 _ (hw.trans (wS [(100, 100), (101, 101), (102, 102), (103, 103)] [0, 2, 3, 4, 17, 18, 19]))
 refine iF hc484 ?_
 refine CO.exit ?_
 refine bB h481 fun e360 hx626 h481 => ?_
 refine CO.cutR (tl 57 [(2, .loc 100 0), (3, .loc 101 0)]) [(101, .cells 4 [V.b (e360 == 0)]), (100, .cells 30 [.own 103]), (103, .vec false 3 1 (y204.map encI))] mix (by
  refine wR 3 272 ?_
  refine W.len Dk (eSN false) a0 [] (by kernel_rfl) (by kernel_rfl) ?_
  refine wR 1 272 ?_
  refine W.ixO Dk encI hx626 103 1 (by kernel_rfl) ?_
  refine W.ldO Dk encI hx626 3 103 0 (V.i e360) (by kernel_rfl) (by kernel_rfl) ?_
  refine wR 3 272 ?_
  exact fI
  ) ?_
 refine CO.ret ?_
 have h481 := sI h481
 subst h481
 exact eG [(103, 100)] (.inr rfl) (RetV.two rfl (OneR.cell Dk (r := .own 103) (i := 100) (ety := 30) (cs := [.own 103]) (by kernel_rfl) (by kernel_rfl) (by kernel_rfl)) (OneR.cell Dk (r := V.b (e360 == 0)) (i := 101) (ety := 4) (cs := [V.b (e360 == 0)]) (by kernel_rfl) (by kernel_rfl) (by kernel_rfl)))

theorem mi_ShapeOk_ok (N : Nat) (a0 : List SNode) {r : Bool} (h : mi_ShapeOk N a0 = some r) :
    AC Tryz.prog (GS []) 75 [.sl false false (a0.map (eSN false))] [] (V.b r) [] := by
 rw [mi_ShapeOk] at h
 refine AC.enter Tryz.func75 rfl ?_
 refine cU 1 100 (tl 11 [(0, .sl false false (a0.map (eSN false)))]) [] ?_
 refine bB h fun r2 hx2 h => ?_
 refine CO.cutR (tl 11 [(4, V.b r2.2)]) [] mix (by
  refine wR 1 100 ?_
  refine W.call (mi_startsOf_ok N a0 hx2) cok104 [] [(100, 100)] [100] (show LayOk _ [] from trivial) (by kernel_rfl) (by kernel_rfl) ?_
  refine wR 5 101 ?_
  exact fI
  ) ?_
 refine cU 2 101 (tl 11 [(2, V.b r2.2)]) [] ?_
 refine CO.ret ?_
 have h := sI h
 subst h
 exact eG [] (.inr rfl) (RetV.one rfl (oT (t := 2) (r := V.b r2.2)))

theorem mi_IsExpr_ok (a0 : Int) {r : Bool} (h : mi_IsExpr a0 = some r) :
    AC Tryz.prog (GS []) 46 [V.i a0] [] (V.b r) [] := by
 rw [mi_IsExpr] at h
 refine AC.enter Tryz.func46 rfl ?_
 refine cU 1 100 (tl 5 [(0, V.i a0)]) [] ?_
 refine bB h fun r2 hx2 h => ?_
 refine CO.cutR (tl 5 [(2, V.b r2)]) [] mix (by
  refine wR 1 100 ?_
  refine W.call0 (mi_within_ok a0 1 15 hx2) cok55 rfl (by kernel_rfl) ?_
  refine wR 1 100 ?_
  exact fI
  ) ?_
 refine CO.ret ?_
 have h := sI h
 subst h
 exact eG [] (.inr rfl) (RetV.one rfl (oT (t := 2) (r := V.b r2)))

theorem mi_IsLetter_ok (a0 : Int) {r : Bool} (h : mi_IsLetter a0 = some r) :
    AC Tryz.prog (GS []) 154 [V.i a0] [] (V.b r) [] := by
 rw [mi_IsLetter] at h
 refine AC.enter Tryz.func154 rfl ?_
 refine cU 1 100 (tl 21 [(0, V.i a0)]) [] ?_
 refine bB h fun y1 hv7 h => ?_
 refine CO.cutR (tl 21 [(2, V.b y1)]) [] mix (by
  refine wR 3 100 ?_
  refine bC hv7 (fun hc8 hv7 => ?_) (fun hc8 hv7 => ?_)
  ·refine wI 5 hc8 ?_
   refine wR 4 100 ?_
   refine bC hv7 (fun hc9 hv7 => ?_) (fun hc9 hv7 => ?_)
   ·refine wI 9 hc9 ?_
    refine wR 12 100 ?_
    have hv7 := sI hv7
    subst hv7
    exact fS [] [2]
   refine wI 9 hc9 ?_
   refine wR 3 100 ?_
   refine bC hv7 (fun hc10 hv7 => ?_) (fun hc10 hv7 => ?_)
   ·refine wI 12 hc10 ?_
    refine wR 5 100 ?_
    refine bC hv7 (fun hc11 hv7 => ?_) (fun hc11 hv7 => ?_)
    ·refine wI 17 hc11 ?_
     refine wR 4 100 ?_
     have hv7 := sI hv7
     subst hv7
     exact fS [] [2]
    refine wI 17 hc11 ?_
    refine wR 4 100 ?_
    have hv7 := sI hv7
    subst hv7
    exact fS [] [2]
   refine wI 12 hc10 ?_
   refine wR 9 100 ?_
   have hv7 := sI hv7
   subst hv7
   exact fS [] [2]
  refine wI 5 hc8 ?_
  refine wR 7 100 ?_
  refine bC hv7 (fun hc12 hv7 => ?_) (fun hc12 hv7 => ?_)
  ·refine wI 12 hc12 ?_
   refine wR 5 100 ?_
   refine bC hv7 (fun hc13 hv7 => ?_) (fun hc13 hv7 => ?_)
   ·refine wI 17 hc13 ?_
    refine wR 4 100 ?_
    have hv7 := sI hv7
    subst hv7
    exact fS [] [2]
   refine wI 17 hc13 ?_
   refine wR 4 100 ?_
   have hv7 := sI hv7
   subst hv7
   exact fS [] [2]
  refine wI 12 hc12 ?_
  refine wR 9 100 ?_
  have hv7 := sI hv7
  subst hv7
  exact fS [] [2]
  ) ?_
 refine CO.ret ?_
 have h := sI h
 subst h
 exact eG [] (.inr rfl) (RetV.one rfl (oT (t := 2) (r := V.b y1)))

theorem mi_IsDigit_ok (a0 : Int) {r : Bool} (h : mi_IsDigit a0 = some r) :
    AC Tryz.prog (GS []) 162 [V.i a0] [] (V.b r) [] := by
 rw [mi_IsDigit] at h
 refine AC.enter Tryz.func162 rfl ?_
 refine cU 1 100 (tl 9 [(0, V.i a0)]) [] ?_
 refine bB h fun y1 hv2 h => ?_
 refine CO.cutR (tl 9 [(2, V.b y1)]) [] mix (by
  refine wR 3 100 ?_
  refine bC hv2 (fun hc3 hv2 => ?_) (fun hc3 hv2 => ?_)
  ·refine wI 5 hc3 ?_
   refine wR 4 100 ?_
   have hv2 := sI hv2
   subst hv2
   exact fS [] [2]
  refine wI 5 hc3 ?_
  refine wR 4 100 ?_
  have hv2 := sI hv2
  subst hv2
  exact fS [] [2]
  ) ?_
 refine CO.ret ?_
 have h := sI h
 subst h
 exact eG [] (.inr rfl) (RetV.one rfl (oT (t := 2) (r := V.b y1)))

theorem mi_IsWordByte_ok (a0 : Int) {r : Bool} (h : mi_IsWordByte a0 = some r) :
    AC Tryz.prog (GS []) 153 [V.i a0] [] (V.b r) [] := by
 rw [mi_IsWordByte] at h
 refine AC.enter Tryz.func153 rfl ?_
 refine cU 1 100 (tl 9 [(0, V.i a0)]) [] ?_
 refine bB h fun y3 hv4 h => ?_
 refine CO.cutR (tl 9 [(2, V.b y3)]) [] mix (by
  refine wR 1 100 ?_
  refine bB hv4 fun r4 hx5 hv4 => ?_
  refine W.call0 (mi_IsLetter_ok a0 hx5) cok154 rfl (by kernel_rfl) ?_
  refine wR 1 100 ?_
  refine bC hv4 (fun hc6 hv4 => ?_) (fun hc6 hv4 => ?_)
  ·refine wI 5 hc6 ?_
   refine wR 4 100 ?_
   have hv4 := sI hv4
   subst hv4
   exact fS [] [2]
  refine wI 5 hc6 ?_
  refine wR 1 100 ?_
  refine bB hv4 fun r5 hx7 hv4 => ?_
  refine W.call0 (mi_IsDigit_ok a0 hx7) cok162 rfl (by kernel_rfl) ?_
  refine wR 2 100 ?_
  have hv4 := sI hv4
  subst hv4
  exact fS [] [2]
  ) ?_
 refine CO.ret ?_
 have h := sI h
 subst h
 exact eG [] (.inr rfl) (RetV.one rfl (oT (t := 2) (r := V.b y3)))

theorem mi_NameShape_ok (N : Nat) (a0 : List UInt8) {r : Bool} (h : mi_NameShape N a0 = some r) :
    AC Tryz.prog (GS []) 138 [V.s a0] [] (V.b r) [] := by
 rw [mi_NameShape] at h
 refine AC.enter Tryz.func138 rfl ?_
 refine cU 1 100 (tl 25 [(0, V.s a0)]) [] ?_
 refine CO.seq' ?_
 refine cU 3 100 (tl 25 [(0, V.s a0), (5, V.i (a0.length : Int)), (6, V.i 0)]) [] ?_
 refine CO.block' ?_
 refine CO.loopJ (fun (⟨a0, y35⟩ : ((List UInt8) × Int)) => ⟨tl 25 [(0, V.s a0), (5, V.i (a0.length : Int)), (6, V.i y35)], []⟩) (fun n i => mi_NameShape_l1 N n i = some r) (n0 := N) (i0 := (a0, 0)) (wS [] [0, 5, 6]) h (fun i h => by simp [mi_NameShape_l1] at h) ?_
 rintro n1 ⟨a0, y35⟩ h63 ih64
 rw [mi_NameShape_l1] at h63
 refine cU 1 160 (tl 25 [(0, V.s a0), (5, V.i (a0.length : Int)), (6, V.i y35), (7, V.b (decide (y35 < (a0.length : Int))))]) [] ?_
 refine CO.seq' ?_
 refine bC h63 (fun hc66 h63 => ?_) (fun hc66 h63 => ?_)
 ·refine iT hc66 ?_
  refine CO.skip ?_
  refine CO.seq' ?_
  refine CO.block' ?_
  refine cU 2 160 (tl 25 [(0, V.s a0), (3, V.i y35), (5, V.i (a0.length : Int)), (6, V.i y35)]) [] ?_
  refine bB h63 fun b51 hx74 h63 => ?_
  refine bB h63 fun r52 hx75 h63 => ?_
  refine CO.cutR (tl 25 [(0, V.s a0), (5, V.i (a0.length : Int)), (6, V.i y35), (14, V.b (!r52))]) [] mix (by
   refine wR 2 160 ?_
   refine W.ixS Dk hx74 (by kernel_rfl) ?_
   refine wR 1 160 ?_
   refine W.call0 (mi_IsWordByte_ok (IntKind.wrap .i64 ((b51).toNat : Int)) hx75) cok153 rfl (by kernel_rfl) ?_
   refine wR 1 160 ?_
   exact fI
   ) ?_
  refine bC h63 (fun hc76 h63 => ?_) (fun hc76 h63 => ?_)
  ·refine iT hc76 ?_
   refine cU 1 160 (tl 25 [(2, V.b false)]) [] ?_
   refine CO.ret ?_
   have h63 := sI h63
   subst h63
   exact eG [] (.inr rfl) (RetV.one rfl (oT (t := 2) (r := V.b false)))
  refine iF hc76 ?_
  refine CO.skip ?_
  refine cE 2 160 (tl 25 [(0, V.s a0), (5, V.i (a0.length : Int)), (6, V.i (IntKind.wrap .i64 (y35 + 1)))]) [] (fun st hw => ?_)
  exact ih64 (a0, (IntKind.wrap .i64 (y35 + 1))) h63 _ (hw.trans (wS [] [0, 5, 6]))
 refine iF hc66 ?_
 refine CO.exit ?_
 refine bB h63 fun y56 hv81 h63 => ?_
 refine CO.cutR (tl 25 [(2, V.b y56)]) [] mix (by
  refine wR 2 160 ?_
  refine bB hv81 fun r57 hx82 hv81 => ?_
  refine W.call0 (mi_within_ok (a0.length : Int) 1 12 hx82) cok55 rfl (by kernel_rfl) ?_
  refine wR 1 160 ?_
  refine bC hv81 (fun hc83 hv81 => ?_) (fun hc83 hv81 => ?_)
  ·refine wI 19 hc83 ?_
   refine wR 1 160 ?_
   refine bB hv81 fun b58 hx84 hv81 => ?_
   refine W.ixS Dk hx84 (by kernel_rfl) ?_
   refine wR 1 160 ?_
   refine bB hv81 fun r59 hx85 hv81 => ?_
   refine W.call0 (mi_IsLetter_ok (IntKind.wrap .i64 ((b58).toNat : Int)) hx85) cok154 rfl (by kernel_rfl) ?_
   refine wR 2 160 ?_
   have hv81 := sI hv81
   subst hv81
   exact fS [] [2]
  refine wI 19 hc83 ?_
  refine wR 6 160 ?_
  have hv81 := sI hv81
  subst hv81
  exact fS [] [2]
  ) ?_
 refine CO.ret ?_
 have h63 := sI h63
 subst h63
 exact eG [] (.inr rfl) (RetV.one rfl (oT (t := 2) (r := V.b y56)))

theorem m_slices_Index_string_ok (N : Nat) (a0 : List (List UInt8)) (a1 : List UInt8) {r : Int} (h : m_slices_Index_string N a0 a1 = some r) :
    AC Tryz.prog (GS []) 145 [.sl false false (a0.map encS), V.s a1] [] (V.i r) [] := by
 rw [m_slices_Index_string] at h
 refine AC.enter Tryz.func145 rfl ?_
 refine cU 1 100 (tl 19 [(0, .sl false false (a0.map encS)), (1, V.s a1)]) [] ?_
 refine CO.seq' ?_
 refine CO.cutR (tl 19 [(0, .sl false false (a0.map encS)), (1, V.s a1), (7, V.i (a0.length : Int)), (8, V.i 0)]) [] mix (by
  refine wR 1 100 ?_
  refine W.len Dk encS a0 [] (by kernel_rfl) (by kernel_rfl) ?_
  refine wR 1 100 ?_
  exact fI
  ) ?_
 refine CO.block' ?_
 refine CO.loopJ (fun (⟨a0, a1, y19⟩ : ((List (List UInt8)) × (List UInt8) × Int)) => ⟨tl 19 [(0, .sl false false (a0.map encS)), (1, V.s a1), (7, V.i (a0.length : Int)), (8, V.i y19)], []⟩) (fun n i => m_slices_Index_string_l1 N n i = some r) (n0 := N) (i0 := (a0, a1, 0)) (wS [] [0, 1, 7, 8]) h (fun i h => by simp [m_slices_Index_string_l1] at h) ?_
 rintro n1 ⟨a0, a1, y19⟩ h43 ih44
 rw [m_slices_Index_string_l1] at h43
 refine cU 1 160 (tl 19 [(0, .sl false false (a0.map encS)), (1, V.s a1), (7, V.i (a0.length : Int)), (8, V.i y19), (9, V.b (decide (y19 < (a0.length : Int))))]) [] ?_
 refine CO.seq' ?_
 refine bC h43 (fun hc46 h43 => ?_) (fun hc46 h43 => ?_)
 ·refine iT hc46 ?_
  refine CO.skip ?_
  refine CO.seq' ?_
  refine CO.block' ?_
  refine cU 2 160 (tl 19 [(0, .sl false false (a0.map encS)), (1, V.s a1), (5, V.i y19), (7, V.i (a0.length : Int)), (8, V.i y19)]) [] ?_
  refine bB h43 fun e28 hx51 h43 => ?_
  refine CO.cutR (tl 19 [(0, .sl false false (a0.map encS)), (1, V.s a1), (5, V.i y19), (7, V.i (a0.length : Int)), (8, V.i y19), (16, V.b (a1 == e28))]) [] mix (by
   refine wR 3 160 ?_
   refine W.ixD Dk encS hx51 1 (by kernel_rfl) (by kernel_rfl) ?_
   refine wR 2 160 ?_
   exact fI
   ) ?_
  refine bC h43 (fun hc52 h43 => ?_) (fun hc52 h43 => ?_)
  ·refine iT hc52 ?_
   refine cU 2 160 (tl 19 [(4, V.i y19)]) [] ?_
   refine CO.ret ?_
   have h43 := sI h43
   subst h43
   exact eG [] (.inr rfl) (RetV.one rfl (oT (t := 4) (r := V.i y19)))
  refine iF hc52 ?_
  refine CO.skip ?_
  refine cE 2 160 (tl 19 [(0, .sl false false (a0.map encS)), (1, V.s a1), (7, V.i (a0.length : Int)), (8, V.i (IntKind.wrap .i64 (y19 + 1)))]) [] (fun st hw => ?_)
  exact ih44 (a0, a1, (IntKind.wrap .i64 (y19 + 1))) h43 _ (hw.trans (wS [] [0, 1, 7, 8]))
 refine iF hc46 ?_
 refine CO.exit ?_
 refine cU 1 160 (tl 19 [(4, V.i (-1))]) [] ?_
 refine CO.ret ?_
 have h43 := sI h43
 subst h43
 exact eG [] (.inr rfl) (RetV.one rfl (oT (t := 4) (r := V.i (-1))))

theorem mi_KeywordOf_ok (N : Nat) (a0 : List UInt8) {r : Int} (h : mi_KeywordOf N a0 = some r) :
    AC Tryz.prog (GS [1]) 139 [V.s a0] [] (V.i r) [] := by
 rw [mi_KeywordOf] at h
 refine AC.enter Tryz.func139 rfl ?_
 refine cU 1 100 (tl 11 [(0, V.s a0)]) [] ?_
 refine bB h fun r2 hx2 h => ?_
 refine CO.cutR (tl 11 [(3, V.i r2)]) [] mix (by
  refine W.cutG Dk V.s tab_keywords (by kernel_rfl) ?_
  refine wR 1 100 ?_
  refine W.call0 (AC.gs (m_slices_Index_string_ok N tab_keywords a0 hx2) (by decide)) cok145 rfl (by kernel_rfl) ?_
  refine wR 1 100 ?_
  exact fI
  ) ?_
 refine CO.seq' ?_
 refine cU 2 100 (tl 11 [(3, V.i r2), (8, V.b (decide (r2 < 0)))]) [] ?_
 refine bC h (fun hc4 h => ?_) (fun hc4 h => ?_)
 ·refine iT hc4 ?_
  refine cU 1 100 (tl 11 [(2, V.i 0)]) [] ?_
  refine CO.ret ?_
  have h := sI h
  subst h
  exact eG [] (.inr rfl) (RetV.one rfl (oT (t := 2) (r := V.i 0)))
 refine iF hc4 ?_
 refine CO.skip ?_
 refine cU 3 100 (tl 11 [(2, V.i (IntKind.wrap .i64 (10 + r2)))]) [] ?_
 refine CO.ret ?_
 have h := sI h
 subst h
 exact eG [] (.inr rfl) (RetV.one rfl (oT (t := 2) (r := V.i (IntKind.wrap .i64 (10 + r2)))))

theorem m_slices_Contains_string_ok (N : Nat) (a0 : List (List UInt8)) (a1 : List UInt8) {r : Bool} (h : m_slices_Contains_string N a0 a1 = some r) :
    AC Tryz.prog (GS []) 126 [.sl false false (a0.map encS), V.s a1] [] (V.b r) [] := by
 rw [m_slices_Contains_string] at h
 refine AC.enter Tryz.func126 rfl ?_
 refine cU 1 100 (tl 9 [(0, .sl false false (a0.map encS)), (1, V.s a1)]) [] ?_
 refine bB h fun r2 hx2 h => ?_
 refine CO.cutR (tl 9 [(4, V.b (decide (r2 ≥ 0)))]) [] mix (by
  refine wR 2 100 ?_
  refine W.call0 (m_slices_Index_string_ok N a0 a1 hx2) cok145 rfl (by kernel_rfl) ?_
  refine wR 2 100 ?_
  exact fI
  ) ?_
 refine CO.ret ?_
 have h := sI h
 subst h
 exact eG [] (.inr rfl) (RetV.one rfl (oT (t := 4) (r := V.b (decide (r2 ≥ 0)))))

theorem mi_IsBuiltin_ok (N : Nat) (a0 : List UInt8) {r : Bool} (h : mi_IsBuiltin N a0 = some r) :
    AC Tryz.prog (GS [0]) 122 [V.s a0] [] (V.b r) [] := by
 rw [mi_IsBuiltin] at h
 refine AC.enter Tryz.func122 rfl ?_
 refine cU 1 100 (tl 6 [(0, V.s a0)]) [] ?_
 refine bB h fun r2 hx2 h => ?_
 refine CO.cutR (tl 6 [(2, V.b r2)]) [] mix (by
  refine W.cutG Dk V.s tab_builtins (by kernel_rfl) ?_
  refine wR 1 100 ?_
  refine W.call0 (AC.gs (m_slices_Contains_string_ok N tab_builtins a0 hx2) (by decide)) cok126 rfl (by kernel_rfl) ?_
  refine wR 1 100 ?_
  exact fI
  ) ?_
 refine CO.ret ?_
 have h := sI h
 subst h
 exact eG [] (.inr rfl) (RetV.one rfl (oT (t := 2) (r := V.b r2)))

theorem mi_NameOk_ok (N : Nat) (a0 : List UInt8) {r : Bool} (h : mi_NameOk N a0 = some r) :
    AC Tryz.prog (GS [0, 1]) 120 [V.s a0] [] (V.b r) [] := by
 rw [mi_NameOk] at h
 refine AC.enter Tryz.func120 rfl ?_
 refine cU 1 100 (tl 15 [(0, V.s a0)]) [] ?_
 refine bB h fun y4 hv6 h => ?_
 refine CO.cutR (tl 15 [(2, V.b y4)]) [] mix (by
  refine wR 1 100 ?_
  refine bB hv6 fun r5 hx7 hv6 => ?_
  refine W.call0 (AC.gs (mi_NameShape_ok N a0 hx7) (by decide)) cok138 rfl (by kernel_rfl) ?_
  refine wR 1 100 ?_
  refine bC hv6 (fun hc8 hv6 => ?_) (fun hc8 hv6 => ?_)
  ·refine wI 5 hc8 ?_
   refine wR 1 100 ?_
   refine bB hv6 fun r6 hx9 hv6 => ?_
   refine W.call0 (AC.gs (mi_KeywordOf_ok N a0 hx9) (by decide)) cok139 rfl (by kernel_rfl) ?_
   refine wR 3 100 ?_
   refine bC hv6 (fun hc10 hv6 => ?_) (fun hc10 hv6 => ?_)
   ·refine wI 10 hc10 ?_
    refine wR 1 100 ?_
    refine bB hv6 fun r7 hx11 hv6 => ?_
    refine W.call0 (AC.gs (mi_IsBuiltin_ok N a0 hx11) (by decide)) cok122 rfl (by kernel_rfl) ?_
    refine wR 3 100 ?_
    have hv6 := sI hv6
    subst hv6
    exact fS [] [2]
   refine wI 10 hc10 ?_
   refine wR 5 100 ?_
   have hv6 := sI hv6
   subst hv6
   exact fS [] [2]
  refine wI 5 hc8 ?_
  refine wR 10 100 ?_
  have hv6 := sI hv6
  subst hv6
  exact fS [] [2]
  ) ?_
 refine CO.ret ?_
 have h := sI h
 subst h
 exact eG [] (.inr rfl) (RetV.one rfl (oT (t := 2) (r := V.b y4)))

theorem m_stringslite_IndexByte_ok (a0 : List UInt8) (a1 : Int) {r : Int} (h : m_stringslite_IndexByte a0 a1 = some r) :
    AC Tryz.prog (GS []) 164 [V.s a0, .c (.int .u8 a1)] [] (V.i r) [] := by
 rw [m_stringslite_IndexByte] at h
 refine AC.enter Tryz.func164 rfl ?_
 refine cU 1 100 (tl 8 [(0, V.s a0), (1, .c (.int .u8 a1))]) [] ?_
 refine CO.cutR (tl 8 [(4, V.i (Go.Lib.indexByte a0 (Int.toNat a1).toUInt8))]) [] mix (by
  refine wR 2 100 ?_
  refine W.ext (vs := [.string ⟨⟨a0⟩⟩, .int .u8 a1]) (ext168 _ _) (by kernel_rfl) ?_
  refine wR 1 100 ?_
  exact fI
  ) ?_
 refine CO.ret ?_
 have h := sI h
 subst h
 exact eG [] (.inr rfl) (RetV.one rfl (oT (t := 4) (r := V.i (Go.Lib.indexByte a0 (Int.toNat a1).toUInt8))))

theorem m_stringslite_Index_ok (a0 : List UInt8) {r : Int} (h : m_stringslite_Index a0 = some r) :
    AC Tryz.prog (GS []) 163 [V.s a0, V.s [10]] [] (V.i r) [] := by
 rw [m_stringslite_Index] at h
 refine AC.enter Tryz.func163 rfl ?_
 refine cU 1 100 (tl 143 [(0, V.s a0), (1, V.s [10])]) [] ?_
 refine cU 3 100 (tl 143 [(0, V.s a0), (1, V.s [10]), (5, V.i 1)]) [] ?_
 refine CO.seq' ?_
 refine CO.block' ?_
 refine cU 8 100 (tl 143 [(0, V.s a0), (1, V.s [10]), (5, V.i 1), (16, V.b (([10] : List UInt8) == a0))]) [] ?_
 refine bC h (fun hc6 h => ?_) (fun hc6 h => ?_)
 ·refine iT hc6 ?_
  refine cU 1 100 (tl 143 [(4, V.i 0)]) [] ?_
  refine CO.ret ?_
  have h := sI h
  subst h
  exact eG [] (.inr rfl) (RetV.one rfl (oT (t := 4) (r := V.i 0)))
 refine iF hc6 ?_
 refine cU 3 100 (tl 143 [(0, V.s a0), (1, V.s [10]), (5, V.i 1), (24, V.b true)]) [] ?_
 refine CO.ifT (c := true) rfl (by kernel_rfl) ?_
 refine bB h fun b7 hx9 h => ?_
 refine bB h fun r8 hx10 h => ?_
 refine CO.cutR (tl 143 [(4, V.i r8)]) [] mix (by
  refine wR 2 100 ?_
  refine W.ixS Dk hx9 (by kernel_rfl) ?_
  refine W.call0 (m_stringslite_IndexByte_ok a0 ((b7).toNat : Int) hx10) cok164 rfl (by kernel_rfl) ?_
  refine wR 1 100 ?_
  exact fI
  ) ?_
 refine CO.ret ?_
 have h := sI h
 subst h
 exact eG [] (.inr rfl) (RetV.one rfl (oT (t := 4) (r := V.i r8)))

theorem m_strings_Index_ok (a0 : List UInt8) {r : Int} (h : m_strings_Index a0 = some r) :
    AC Tryz.prog (GS []) 155 [V.s a0, V.s [10]] [] (V.i r) [] := by
 rw [m_strings_Index] at h
 refine AC.enter Tryz.func155 rfl ?_
 refine cU 1 100 (tl 8 [(0, V.s a0), (1, V.s [10])]) [] ?_
 refine bB h fun r2 hx2 h => ?_
 refine CO.cutR (tl 8 [(4, V.i r2)]) [] mix (by
  refine wR 2 100 ?_
  refine W.call0 (m_stringslite_Index_ok a0 hx2) cok163 rfl (by kernel_rfl) ?_
  refine wR 1 100 ?_
  exact fI
  ) ?_
 refine CO.ret ?_
 have h := sI h
 subst h
 exact eG [] (.inr rfl) (RetV.one rfl (oT (t := 4) (r := V.i r2)))

theorem m_strings_Contains_ok (a0 : List UInt8) {r : Bool} (h : m_strings_Contains a0 = some r) :
    AC Tryz.prog (GS []) 140 [V.s a0, V.s [10]] [] (V.b r) [] := by
 rw [m_strings_Contains] at h
 refine AC.enter Tryz.func140 rfl ?_
 refine cU 1 100 (tl 9 [(0, V.s a0), (1, V.s [10])]) [] ?_
 refine bB h fun r2 hx2 h => ?_
 refine CO.cutR (tl 9 [(4, V.b (decide (r2 ≥ 0)))]) [] mix (by
  refine wR 2 100 ?_
  refine W.call0 (m_strings_Index_ok a0 hx2) cok155 rfl (by kernel_rfl) ?_
  refine wR 2 100 ?_
  exact fI
  ) ?_
 refine CO.ret ?_
 have h := sI h
 subst h
 exact eG [] (.inr rfl) (RetV.one rfl (oT (t := 4) (r := V.b (decide (r2 ≥ 0)))))

theorem mi_byteAt_ok (a0 : List UInt8) (a1 : Int) {r : Int} (h : mi_byteAt a0 a1 = some r) :
    AC Tryz.prog (GS []) 157 [V.s a0, V.i a1] [] (V.i r) [] := by
 rw [mi_byteAt] at h
 refine AC.enter Tryz.func157 rfl ?_
 refine cU 1 100 (tl 15 [(0, V.s a0), (1, V.i a1)]) [] ?_
 refine CO.seq' ?_
 refine bB h fun r4 hx5 h => ?_
 refine CO.cutR (tl 15 [(0, V.s a0), (1, V.i a1), (10, V.b (!r4))]) [] mix (by
  refine wR 4 100 ?_
  refine W.call0 (mi_within_ok a1 0 (IntKind.wrap .i64 ((a0.length : Int) - 1)) hx5) cok55 rfl (by kernel_rfl) ?_
  refine wR 1 100 ?_
  exact fI
  ) ?_
 refine bC h (fun hc6 h => ?_) (fun hc6 h => ?_)
 ·refine iT hc6 ?_
  refine cU 1 100 (tl 15 [(4, V.i (-1))]) [] ?_
  refine CO.ret ?_
  have h := sI h
  subst h
  exact eG [] (.inr rfl) (RetV.one rfl (oT (t := 4) (r := V.i (-1))))
 refine iF hc6 ?_
 refine CO.skip ?_
 refine bB h fun b6 hx8 h => ?_
 refine CO.cutR (tl 15 [(4, V.i (IntKind.wrap .i64 ((b6).toNat : Int)))]) [] mix (by
  refine wR 2 100 ?_
  refine W.ixS Dk hx8 (by kernel_rfl) ?_
  refine wR 2 100 ?_
  exact fI
  ) ?_
 refine CO.ret ?_
 have h := sI h
 subst h
 exact eG [] (.inr rfl) (RetV.one rfl (oT (t := 4) (r := V.i (IntKind.wrap .i64 ((b6).toNat : Int)))))

theorem mi_digitsEnd_ok (N : Nat) (a0 : List UInt8) (a1 : Int) {r : Int} (h : mi_digitsEnd N a0 a1 = some r) :
    AC Tryz.prog (GS []) 156 [V.s a0, V.i a1] [] (V.i r) [] := by
 rw [mi_digitsEnd] at h
 refine AC.enter Tryz.func156 rfl ?_
 refine cU 1 100 (tl 12 [(0, V.s a0), (1, V.i a1)]) [] ?_
 refine CO.seq' ?_
 refine CO.block' ?_
 refine CO.loopJ (fun (⟨a0, a1⟩ : ((List UInt8) × Int)) => ⟨tl 12 [(0, V.s a0), (1, V.i a1)], []⟩) (fun n i => mi_digitsEnd_l1 N n i = some r) (n0 := N) (i0 := (a0, a1)) (wS [] [0, 1]) h (fun i h => by simp [mi_digitsEnd_l1] at h) ?_
 rintro n1 ⟨a0, a1⟩ h33 ih34
 rw [mi_digitsEnd_l1] at h33
 refine CO.seq' ?_
 refine bB h33 fun r33 hx42 h33 => ?_
 refine bB h33 fun r34 hx43 h33 => ?_
 refine CO.cutR (tl 12 [(0, V.s a0), (1, V.i a1), (8, V.b r34)]) [] mix (by
  refine wR 2 140 ?_
  refine W.call0 (mi_byteAt_ok a0 a1 hx42) cok157 rfl (by kernel_rfl) ?_
  refine W.call0 (mi_IsDigit_ok r33 hx43) cok162 rfl (by kernel_rfl) ?_
  exact fI
  ) ?_
 refine bC h33 (fun hc44 h33 => ?_) (fun hc44 h33 => ?_)
 ·refine iT hc44 ?_
  refine CO.skip ?_
  refine CO.block' ?_
  refine cE 3 140 (tl 12 [(0, V.s a0), (1, V.i (IntKind.wrap .i64 (a1 + 1)))]) [] (fun st hw => ?_)
  exact ih34 (a0, (IntKind.wrap .i64 (a1 + 1))) h33 _ (hw.trans (wS [] [0, 1]))
 refine iF hc44 ?_
 refine CO.exit ?_
 refine cU 2 140 (tl 12 [(4, V.i a1)]) [] ?_
 refine CO.ret ?_
 have h33 := sI h33
 subst h33
 exact eG [] (.inr rfl) (RetV.one rfl (oT (t := 4) (r := V.i a1)))

theorem mi_NumEnd_ok (N : Nat) (a0 : List UInt8) (a1 : Int) {r : Int} (h : mi_NumEnd N a0 a1 = some r) :
    AC Tryz.prog (GS []) 141 [V.s a0, V.i a1] [] (V.i r) [] := by
 rw [mi_NumEnd] at h
 refine AC.enter Tryz.func141 rfl ?_
 refine cU 1 100 (tl 71 [(0, V.s a0), (1, V.i a1)]) [] ?_
 refine CO.seq' ?_
 refine bB h fun r4 hx5 h => ?_
 refine CO.cutR (tl 71 [(0, V.s a0), (1, V.i a1), (17, V.b (!r4))]) [] mix (by
  refine wR 4 100 ?_
  refine W.call0 (mi_within_ok a1 0 (IntKind.wrap .i64 ((a0.length : Int) - 1)) hx5) cok55 rfl (by kernel_rfl) ?_
  refine wR 1 100 ?_
  exact fI
  ) ?_
 refine bC h (fun hc6 h => ?_) (fun hc6 h => ?_)
 ·refine iT hc6 ?_
  refine cU 1 100 (tl 71 [(4, V.i (-1))]) [] ?_
  refine CO.ret ?_
  have h := sI h
  subst h
  exact eG [] (.inr rfl) (RetV.one rfl (oT (t := 4) (r := V.i (-1))))
 refine iF hc6 ?_
 refine CO.skip ?_
 refine bB h fun r6 hx8 h => ?_
 refine CO.cutR (tl 71 [(0, V.s a0), (1, V.i a1), (5, V.i r6)]) [] mix (by
  refine wR 2 100 ?_
  refine W.call0 (mi_digitsEnd_ok N a0 a1 hx8) cok156 rfl (by kernel_rfl) ?_
  refine wR 1 100 ?_
  exact fI
  ) ?_
 refine cU 4 100 (tl 71 [(0, V.s a0), (5, V.i r6), (6, V.i (IntKind.wrap .i64 (r6 - a1)))]) [] ?_
 refine CO.join (fun (⟨a0, y11, y12⟩ : ((List UInt8) × Int × Int)) => ⟨tl 71 [(0, V.s a0), (5, V.i y11), (6, V.i y12)], []⟩) (fun i => mi_NumEnd_k1 N i = some r) ?_ ?_
 · rintro ⟨a0, y11, y12⟩ h14
   rw [mi_NumEnd_k1] at h14
   refine CO.seq' ?_
   refine cU 2 100 (tl 71 [(0, V.s a0), (5, V.i y11), (40, V.b (y12 == 0))]) [] ?_
   refine bC h14 (fun hc16 h14 => ?_) (fun hc16 h14 => ?_)
   ·refine iT hc16 ?_
    refine cU 1 100 (tl 71 [(4, V.i (-1))]) [] ?_
    refine CO.ret ?_
    have h14 := sI h14
    subst h14
    exact eG [] (.inr rfl) (RetV.one rfl (oT (t := 4) (r := V.i (-1))))
   refine iF hc16 ?_
   refine CO.skip ?_
   refine CO.join (fun (y11 : Int) => ⟨tl 71 [(5, V.i y11)], []⟩) (fun i => mi_NumEnd_k2 N i = some r) ?_ ?_
   · rintro y11 h40
     rw [mi_NumEnd_k2] at h40
     refine cU 2 100 (tl 71 [(4, V.i y11)]) [] ?_
     refine CO.ret ?_
     have h40 := sI h40
     subst h40
     exact eG [] (.inr rfl) (RetV.one rfl (oT (t := 4) (r := V.i y11)))
   intro hk41
   refine bB h14 fun r26 hx43 h14 => ?_
   refine CO.cutR (tl 71 [(0, V.s a0), (5, V.i y11), (8, V.i r26)]) [] mix (by
    refine wR 2 100 ?_
    refine W.call0 (mi_byteAt_ok a0 y11 hx43) cok157 rfl (by kernel_rfl) ?_
    refine wR 1 100 ?_
    exact fI
    ) ?_
   refine bB h14 fun y27 hv45 h14 => ?_
   refine CO.cutR (tl 71 [(0, V.s a0), (5, V.i y11), (49, V.b y27)]) [] mix (by
    refine wR 3 100 ?_
    refine bC hv45 (fun hc46 hv45 => ?_) (fun hc46 hv45 => ?_)
    ·refine wI 46 hc46 ?_
     refine wR 3 100 ?_
     have hv45 := sI hv45
     subst hv45
     exact fS [] [0, 5, 49]
    refine wI 46 hc46 ?_
    refine wR 3 100 ?_
    have hv45 := sI hv45
    subst hv45
    exact fS [] [0, 5, 49]
    ) ?_
   refine bC h14 (fun hc47 h14 => ?_) (fun hc47 h14 => ?_)
   ·refine iT hc47 ?_
    refine cU 3 100 (tl 71 [(0, V.s a0), (5, V.i y11), (9, V.i (IntKind.wrap .i64 (y11 + 1)))]) [] ?_
    refine CO.join (fun (⟨a0, y11, y31⟩ : ((List UInt8) × Int × Int)) => ⟨tl 71 [(0, V.s a0), (5, V.i y11), (9, V.i y31)], []⟩) (fun i => mi_NumEnd_k3 N i = some r) ?_ ?_
    · rintro ⟨a0, y11, y31⟩ h54
      rw [mi_NumEnd_k3] at h54
      refine bB h54 fun r33 hx56 h54 => ?_
      refine CO.cutR (tl 71 [(5, V.i y11), (9, V.i y31), (11, V.i r33)]) [] mix (by
       refine wR 2 100 ?_
       refine W.call0 (mi_digitsEnd_ok N a0 y31 hx56) cok156 rfl (by kernel_rfl) ?_
       refine wR 1 100 ?_
       exact fI
       ) ?_
      refine cU 3 100 (tl 71 [(5, V.i y11), (11, V.i r33), (68, V.b (decide (r33 > y31)))]) [] ?_
      refine bC h54 (fun hc57 h54 => ?_) (fun hc57 h54 => ?_)
      ·refine iT hc57 ?_
       refine cU 2 100 (tl 71 [(4, V.i r33)]) [] ?_
       refine CO.ret ?_
       have h54 := sI h54
       subst h54
       exact eG [] (.inr rfl) (RetV.one rfl (oT (t := 4) (r := V.i r33)))
      refine iF hc57 ?_
      refine CO.skip ?_
      exact hk41 y11 h54 _ (wS [] [5])
    intro hk58
    refine bB h14 fun r35 hx60 h14 => ?_
    refine CO.cutR (tl 71 [(0, V.s a0), (5, V.i y11), (9, V.i (IntKind.wrap .i64 (y11 + 1))), (10, V.i r35)]) [] mix (by
     refine wR 2 100 ?_
     refine W.call0 (mi_byteAt_ok a0 (IntKind.wrap .i64 (y11 + 1)) hx60) cok157 rfl (by kernel_rfl) ?_
     refine wR 1 100 ?_
     exact fI
     ) ?_
    refine bB h14 fun y36 hv62 h14 => ?_
    refine CO.cutR (tl 71 [(0, V.s a0), (5, V.i y11), (9, V.i (IntKind.wrap .i64 (y11 + 1))), (60, V.b y36)]) [] mix (by
     refine wR 3 100 ?_
     refine bC hv62 (fun hc63 hv62 => ?_) (fun hc63 hv62 => ?_)
     ·refine wI 57 hc63 ?_
      refine wR 3 100 ?_
      have hv62 := sI hv62
      subst hv62
      exact fS [] [0, 5, 9, 60]
     refine wI 57 hc63 ?_
     refine wR 3 100 ?_
     have hv62 := sI hv62
     subst hv62
     exact fS [] [0, 5, 9, 60]
     ) ?_
    refine bC h14 (fun hc64 h14 => ?_) (fun hc64 h14 => ?_)
    ·refine iT hc64 ?_
     refine cE 3 100 (tl 71 [(0, V.s a0), (5, V.i y11), (9, V.i (IntKind.wrap .i64 ((IntKind.wrap .i64 (y11 + 1)) + 1)))]) [] (fun st hw => ?_)
     exact hk58 (a0, y11, (IntKind.wrap .i64 ((IntKind.wrap .i64 (y11 + 1)) + 1))) h14 _ (hw.trans (wS [] [0, 5, 9]))
    refine iF hc64 ?_
    refine CO.skip ?_
    exact hk58 (a0, y11, (IntKind.wrap .i64 (y11 + 1))) h14 _ (wS [] [0, 5, 9])
   refine iF hc47 ?_
   refine CO.skip ?_
   exact hk41 y11 h14 _ (wS [] [5])
 intro hk65
 refine bB h fun r38 hx67 h => ?_
 refine CO.cutR (tl 71 [(0, V.s a0), (5, V.i r6), (6, V.i (IntKind.wrap .i64 (r6 - a1))), (27, V.b (r38 == 46))]) [] mix (by
  refine wR 2 100 ?_
  refine W.call0 (mi_byteAt_ok a0 r6 hx67) cok157 rfl (by kernel_rfl) ?_
  refine wR 1 100 ?_
  exact fI
  ) ?_
 refine bC h (fun hc68 h => ?_) (fun hc68 h => ?_)
 ·refine iT hc68 ?_
  refine bB h fun r40 hx70 h => ?_
  refine CO.cutR (tl 71 [(0, V.s a0), (5, V.i r6), (6, V.i (IntKind.wrap .i64 (r6 - a1))), (7, V.i r40)]) [] mix (by
   refine wR 3 100 ?_
   refine W.call0 (mi_digitsEnd_ok N a0 (IntKind.wrap .i64 (r6 + 1)) hx70) cok156 rfl (by kernel_rfl) ?_
   refine wR 1 100 ?_
   exact fI
   ) ?_
  refine cU 7 100 (tl 71 [(0, V.s a0), (6, V.i (IntKind.wrap .i64 ((IntKind.wrap .i64 (r6 - a1)) + (IntKind.wrap .i64 ((IntKind.wrap .i64 (r40 - r6)) - 1))))), (7, V.i r40)]) [] ?_
  refine cE 2 100 (tl 71 [(0, V.s a0), (5, V.i r40), (6, V.i (IntKind.wrap .i64 ((IntKind.wrap .i64 (r6 - a1)) + (IntKind.wrap .i64 ((IntKind.wrap .i64 (r40 - r6)) - 1)))))]) [] (fun st hw => ?_)
  exact hk65 (a0, r40, (IntKind.wrap .i64 ((IntKind.wrap .i64 (r6 - a1)) + (IntKind.wrap .i64 ((IntKind.wrap .i64 (r40 - r6)) - 1))))) h _ (hw.trans (wS [] [0, 5, 6]))
 refine iF hc68 ?_
 refine CO.skip ?_
 exact hk65 (a0, r6, (IntKind.wrap .i64 (r6 - a1))) h _ (wS [] [0, 5, 6])

theorem mi_quotedEnd_ok (N : Nat) (a0 : List UInt8) (a1 : Int) (a2 : Int) {r : Int} (h : mi_quotedEnd N a0 a1 a2 = some r) :
    AC Tryz.prog (GS []) 158 [V.s a0, V.i a1, V.i a2] [] (V.i r) [] := by
 rw [mi_quotedEnd] at h
 refine AC.enter Tryz.func158 rfl ?_
 refine cU 1 100 (tl 50 [(0, V.s a0), (1, V.i a1), (2, V.i a2)]) [] ?_
 refine CO.seq' ?_
 refine bB h fun r4 hx5 h => ?_
 refine CO.cutR (tl 50 [(0, V.s a0), (1, V.i a1), (2, V.i a2), (12, V.b (r4 != a2))]) [] mix (by
  refine wR 2 100 ?_
  refine W.call0 (mi_byteAt_ok a0 a1 hx5) cok157 rfl (by kernel_rfl) ?_
  refine wR 2 100 ?_
  exact fI
  ) ?_
 refine bC h (fun hc6 h => ?_) (fun hc6 h => ?_)
 ·refine iT hc6 ?_
  refine cU 1 100 (tl 50 [(6, V.i (-1))]) [] ?_
  refine CO.ret ?_
  have h := sI h
  subst h
  exact eG [] (.inr rfl) (RetV.one rfl (oT (t := 6) (r := V.i (-1))))
 refine iF hc6 ?_
 refine CO.skip ?_
 refine CO.seq' ?_
 refine cU 3 100 (tl 50 [(0, V.s a0), (2, V.i a2), (7, V.i (IntKind.wrap .i64 (a1 + 1)))]) [] ?_
 refine CO.block' ?_
 refine CO.loopJ (fun (⟨a0, a2, y91⟩ : ((List UInt8) × Int × Int)) => ⟨tl 50 [(0, V.s a0), (2, V.i a2), (7, V.i y91)], []⟩) (fun n i => mi_quotedEnd_l1 N n i = some r) (n0 := N) (i0 := (a0, a2, (IntKind.wrap .i64 (a1 + 1)))) (wS [] [0, 2, 7]) h (fun i h => by simp [mi_quotedEnd_l1] at h) ?_
 rintro n1 ⟨a0, a2, y91⟩ h189 ih190
 rw [mi_quotedEnd_l1] at h189
 refine CO.seq' ?_
 refine bB h189 fun y118 hv199 h189 => ?_
 refine CO.cutR (tl 50 [(0, V.s a0), (2, V.i a2), (7, V.i y91), (24, V.b y118)]) [] mix (by
  refine wR 5 160 ?_
  refine bC hv199 (fun hc200 hv199 => ?_) (fun hc200 hv199 => ?_)
  ·refine wI 19 hc200 ?_
   refine wR 2 160 ?_
   refine bB hv199 fun b119 hx201 hv199 => ?_
   refine W.ixS Dk hx201 (by kernel_rfl) ?_
   refine wR 2 160 ?_
   have hv199 := sI hv199
   subst hv199
   exact fS [] [0, 2, 7, 24]
  refine wI 19 hc200 ?_
  refine wR 5 160 ?_
  have hv199 := sI hv199
  subst hv199
  exact fS [] [0, 2, 7, 24]
  ) ?_
 refine bC h189 (fun hc202 h189 => ?_) (fun hc202 h189 => ?_)
 ·refine iT hc202 ?_
  refine CO.skip ?_
  refine CO.join (fun (⟨a0, a2, y127⟩ : ((List UInt8) × Int × Int)) => ⟨tl 50 [(0, V.s a0), (2, V.i a2), (7, V.i y127)], []⟩) (fun i => mi_quotedEnd_k2 N (mi_quotedEnd_l1 N n1) i = some r) ?_ ?_
  · rintro ⟨a0, a2, y127⟩ h214
    rw [mi_quotedEnd_k2] at h214
    refine cE 3 160 (tl 50 [(0, V.s a0), (2, V.i a2), (7, V.i (IntKind.wrap .i64 (y127 + 1)))]) [] (fun st hw => ?_)
    exact ih190 (a0, a2, (IntKind.wrap .i64 (y127 + 1))) h214 _ (hw.trans (wS [] [0, 2, 7]))
  intro hk215
  refine CO.block' ?_
  refine CO.block' ?_
  refine bB h189 fun b129 hx217 h189 => ?_
  refine CO.cutR (tl 50 [(0, V.s a0), (2, V.i a2), (7, V.i y91), (27, V.b ((IntKind.wrap .i64 ((b129).toNat : Int)) == a2))]) [] mix (by
   refine wR 2 160 ?_
   refine W.ixS Dk hx217 (by kernel_rfl) ?_
   refine wR 4 160 ?_
   exact fI
   ) ?_
  refine bC h189 (fun hc218 h189 => ?_) (fun hc218 h189 => ?_)
  ·refine iT hc218 ?_
   refine cU 3 160 (tl 50 [(6, V.i (IntKind.wrap .i64 (y91 + 1)))]) [] ?_
   refine CO.ret ?_
   have h189 := sI h189
   subst h189
   exact eG [] (.inr rfl) (RetV.one rfl (oT (t := 6) (r := V.i (IntKind.wrap .i64 (y91 + 1)))))
  refine iF hc218 ?_
  refine bB h189 fun y132 hv222 h189 => ?_
  refine CO.cutR (tl 50 [(0, V.s a0), (2, V.i a2), (7, V.i y91), (36, V.b y132)]) [] mix (by
   refine wR 2 160 ?_
   refine bB hv222 fun b133 hx223 hv222 => ?_
   refine W.ixS Dk hx223 (by kernel_rfl) ?_
   refine wR 2 160 ?_
   refine bC hv222 (fun hc224 hv222 => ?_) (fun hc224 hv222 => ?_)
   ·refine wI 41 hc224 ?_
    refine wR 3 160 ?_
    refine bB hv222 fun r134 hx225 hv222 => ?_
    refine W.call0 (mi_byteAt_ok a0 (IntKind.wrap .i64 (y91 + 1)) hx225) cok157 rfl (by kernel_rfl) ?_
    refine wR 3 160 ?_
    have hv222 := sI hv222
    subst hv222
    exact fS [] [0, 2, 7, 36]
   refine wI 41 hc224 ?_
   refine wR 7 160 ?_
   have hv222 := sI hv222
   subst hv222
   exact fS [] [0, 2, 7, 36]
   ) ?_
  refine bC h189 (fun hc226 h189 => ?_) (fun hc226 h189 => ?_)
  ·refine iT hc226 ?_
   refine cE 3 160 (tl 50 [(0, V.s a0), (2, V.i a2), (7, V.i (IntKind.wrap .i64 (y91 + 1)))]) [] (fun st hw => ?_)
   exact hk215 (a0, a2, (IntKind.wrap .i64 (y91 + 1))) h189 _ (hw.trans (wS [] [0, 2, 7]))
  refine iF hc226 ?_
  refine CO.skip ?_
  exact hk215 (a0, a2, y91) h189 _ (wS [] [0, 2, 7])
 refine iF hc202 ?_
 refine CO.exit ?_
 refine cU 1 160 (tl 50 [(6, V.i (-1))]) [] ?_
 refine CO.ret ?_
 have h189 := sI h189
 subst h189
 exact eG [] (.inr rfl) (RetV.one rfl (oT (t := 6) (r := V.i (-1))))

theorem mi_StrEnd_ok (N : Nat) (a0 : List UInt8) (a1 : Int) {r : Int} (h : mi_StrEnd N a0 a1 = some r) :
    AC Tryz.prog (GS []) 142 [V.s a0, V.i a1] [] (V.i r) [] := by
 rw [mi_StrEnd] at h
 refine AC.enter Tryz.func142 rfl ?_
 refine cU 1 100 (tl 8 [(0, V.s a0), (1, V.i a1)]) [] ?_
 refine bB h fun r2 hx2 h => ?_
 refine CO.cutR (tl 8 [(4, V.i r2)]) [] mix (by
  refine wR 2 100 ?_
  refine W.call0 (mi_quotedEnd_ok N a0 a1 34 hx2) cok158 rfl (by kernel_rfl) ?_
  refine wR 1 100 ?_
  exact fI
  ) ?_
 refine CO.ret ?_
 have h := sI h
 subst h
 exact eG [] (.inr rfl) (RetV.one rfl (oT (t := 4) (r := V.i r2)))

theorem mi_EreEnd_ok (N : Nat) (a0 : List UInt8) (a1 : Int) {r : Int} (h : mi_EreEnd N a0 a1 = some r) :
    AC Tryz.prog (GS []) 143 [V.s a0, V.i a1] [] (V.i r) [] := by
 rw [mi_EreEnd] at h
 refine AC.enter Tryz.func143 rfl ?_
 refine cU 1 100 (tl 14 [(0, V.s a0), (1, V.i a1)]) [] ?_
 refine bB h fun r2 hx2 h => ?_
 refine CO.cutR (tl 14 [(1, V.i a1), (5, V.i r2)]) [] mix (by
  refine wR 2 100 ?_
  refine W.call0 (mi_quotedEnd_ok N a0 a1 47 hx2) cok158 rfl (by kernel_rfl) ?_
  refine wR 1 100 ?_
  exact fI
  ) ?_
 refine CO.seq' ?_
 refine cU 4 100 (tl 14 [(5, V.i r2), (12, V.b (r2 == (IntKind.wrap .i64 (a1 + 2))))]) [] ?_
 refine bC h (fun hc4 h => ?_) (fun hc4 h => ?_)
 ·refine iT hc4 ?_
  refine cU 1 100 (tl 14 [(4, V.i (-1))]) [] ?_
  refine CO.ret ?_
  have h := sI h
  subst h
  exact eG [] (.inr rfl) (RetV.one rfl (oT (t := 4) (r := V.i (-1))))
 refine iF hc4 ?_
 refine CO.skip ?_
 refine cU 2 100 (tl 14 [(4, V.i r2)]) [] ?_
 refine CO.ret ?_
 have h := sI h
 subst h
 exact eG [] (.inr rfl) (RetV.one rfl (oT (t := 4) (r := V.i r2)))

theorem mi_isKeywordKind_ok (a0 : Int) {r : Bool} (h : mi_isKeywordKind a0 = some r) :
    AC Tryz.prog (GS []) 159 [V.i a0] [] (V.b r) [] := by
 rw [mi_isKeywordKind] at h
 refine AC.enter Tryz.func159 rfl ?_
 refine cU 1 100 (tl 5 [(0, V.i a0)]) [] ?_
 refine bB h fun r2 hx2 h => ?_
 refine CO.cutR (tl 5 [(2, V.b r2)]) [] mix (by
  refine wR 1 100 ?_
  refine W.call0 (mi_within_ok a0 10 26 hx2) cok55 rfl (by kernel_rfl) ?_
  refine wR 1 100 ?_
  exact fI
  ) ?_
 refine CO.ret ?_
 have h := sI h
 subst h
 exact eG [] (.inr rfl) (RetV.one rfl (oT (t := 2) (r := V.b r2)))

theorem mi_isSignKind_ok (a0 : Int) {r : Bool} (h : mi_isSignKind a0 = some r) :
    AC Tryz.prog (GS []) 160 [V.i a0] [] (V.b r) [] := by
 rw [mi_isSignKind] at h
 refine AC.enter Tryz.func160 rfl ?_
 refine cU 1 100 (tl 5 [(0, V.i a0)]) [] ?_
 refine bB h fun r2 hx2 h => ?_
 refine CO.cutR (tl 5 [(2, V.b r2)]) [] mix (by
  refine wR 1 100 ?_
  refine W.call0 (mi_within_ok a0 30 68 hx2) cok55 rfl (by kernel_rfl) ?_
  refine wR 1 100 ?_
  exact fI
  ) ?_
 refine CO.ret ?_
 have h := sI h
 subst h
 exact eG [] (.inr rfl) (RetV.one rfl (oT (t := 2) (r := V.b r2)))

theorem mi_SpellOf_ok (a0 : Int) {r : (List UInt8)} (h : mi_SpellOf a0 = some r) :
    AC Tryz.prog (GS [1, 2]) 144 [V.i a0] [] (V.s r) [] := by
 rw [mi_SpellOf] at h
 refine AC.enter Tryz.func144 rfl ?_
 refine cU 1 100 (tl 20 [(0, V.i a0)]) [] ?_
 refine CO.seq' ?_
 refine CO.block' ?_
 refine cU 3 100 (tl 20 [(0, V.i a0), (3, V.b (a0 == 1))]) [] ?_
 refine bC h (fun hc12 h => ?_) (fun hc12 h => ?_)
 ·refine iT hc12 ?_
  refine cU 1 100 (tl 20 [(2, V.s [10])]) [] ?_
  refine CO.ret ?_
  have h := sI h
  subst h
  exact eG [] (.inr rfl) (RetV.one rfl (oT (t := 2) (r := V.s [10])))
 refine iF hc12 ?_
 refine bB h fun r10 hx14 h => ?_
 refine CO.cutR (tl 20 [(0, V.i a0), (6, V.b r10)]) [] mix (by
  refine wR 1 100 ?_
  refine W.call0 (AC.gs (mi_isKeywordKind_ok a0 hx14) (by decide)) cok159 rfl (by kernel_rfl) ?_
  refine wR 1 100 ?_
  exact fI
  ) ?_
 refine bC h (fun hc15 h => ?_) (fun hc15 h => ?_)
 ·refine iT hc15 ?_
  refine bB h fun e12 hx17 h => ?_
  refine CO.cutR (tl 20 [(2, V.s e12)]) [] mix (by
   refine wR 2 100 ?_
   refine W.ixG Dk V.s (l := tab_keywords) hx17 (by kernel_rfl) ?_
   refine wR 2 100 ?_
   exact fI
   ) ?_
  refine CO.ret ?_
  have h := sI h
  subst h
  exact eG [] (.inr rfl) (RetV.one rfl (oT (t := 2) (r := V.s e12)))
 refine iF hc15 ?_
 refine bB h fun r14 hx19 h => ?_
 refine CO.cutR (tl 20 [(0, V.i a0), (13, V.b r14)]) [] mix (by
  refine wR 1 100 ?_
  refine W.call0 (AC.gs (mi_isSignKind_ok a0 hx19) (by decide)) cok160 rfl (by kernel_rfl) ?_
  refine wR 1 100 ?_
  exact fI
  ) ?_
 refine bC h (fun hc20 h => ?_) (fun hc20 h => ?_)
 ·refine iT hc20 ?_
  refine bB h fun e16 hx22 h => ?_
  refine CO.cutR (tl 20 [(2, V.s e16)]) [] mix (by
   refine wR 2 100 ?_
   refine W.ixG Dk V.s (l := tab_signs) hx22 (by kernel_rfl) ?_
   refine wR 2 100 ?_
   exact fI
   ) ?_
  refine CO.ret ?_
  have h := sI h
  subst h
  exact eG [] (.inr rfl) (RetV.one rfl (oT (t := 2) (r := V.s e16)))
 refine iF hc20 ?_
 refine CO.skip ?_
 refine cU 1 100 (tl 20 [(2, V.s [])]) [] ?_
 refine CO.ret ?_
 have h := sI h
 subst h
 exact eG [] (.inr rfl) (RetV.one rfl (oT (t := 2) (r := V.s [])))

theorem mi_TokenOk_ok (N : Nat) (a0 : SToken) {r : Bool} (h : mi_TokenOk N a0 = some r) :
    AC Tryz.prog (GS [0, 1, 2]) 121 [.agg [V.i a0.Kind, V.s a0.Text, V.i a0.At]] [] (V.b r) [] := by
 rw [mi_TokenOk] at h
 refine AC.enter Tryz.func121 rfl ?_
 refine cU 2 100 (tl 64 [(1, .loc 100 0)]) [(100, .cells 120 [V.i a0.Kind, V.s a0.Text, V.i a0.At])] ?_
 refine CO.seq' ?_
 refine cU 3 101 (tl 64 [(1, .loc 100 0), (5, V.b (a0.Text == []))]) [(100, .cells 120 [V.i a0.Kind, V.s a0.Text, V.i a0.At])] ?_
 refine bC h (fun hc2 h => ?_) (fun hc2 h => ?_)
 ·refine iT hc2 ?_
  refine cU 1 101 (tl 64 [(2, V.b false)]) [] ?_
  refine CO.ret ?_
  have h := sI h
  subst h
  exact eG [] (.inr rfl) (RetV.one rfl (oT (t := 2) (r := V.b false)))
 refine iF hc2 ?_
 refine CO.skip ?_
 refine CO.seq' ?_
 refine cU 2 101 (tl 64 [(1, .loc 100 0), (7, V.i a0.Kind)]) [(100, .cells 120 [V.i a0.Kind, V.s a0.Text, V.i a0.At])] ?_
 refine CO.block' ?_
 refine cU 2 101 (tl 64 [(1, .loc 100 0), (7, V.i a0.Kind), (8, V.b (a0.Kind == 2))]) [(100, .cells 120 [V.i a0.Kind, V.s a0.Text, V.i a0.At])] ?_
 refine bC h (fun hc30 h => ?_) (fun hc30 h => ?_)
 ·refine iT hc30 ?_
  refine bB h fun y19 hv34 h => ?_
  refine CO.cutR (tl 64 [(2, V.b y19)]) [] mix (by
   refine wR 2 101 ?_
   refine bB hv34 fun b20 hx35 hv34 => ?_
   refine W.ixS Dk hx35 (by kernel_rfl) ?_
   refine wR 2 101 ?_
   refine bC hv34 (fun hc36 hv34 => ?_) (fun hc36 hv34 => ?_)
   ·refine wI 14 hc36 ?_
    refine wR 2 101 ?_
    refine bB hv34 fun r21 hx37 hv34 => ?_
    refine W.call0 (AC.gs (m_strings_Contains_ok a0.Text hx37) (by decide)) cok140 rfl (by kernel_rfl) ?_
    refine wR 3 101 ?_
    have hv34 := sI hv34
    subst hv34
    exact fS [] [2]
   refine wI 14 hc36 ?_
   refine wR 6 101 ?_
   have hv34 := sI hv34
   subst hv34
   exact fS [] [2]
   ) ?_
  refine CO.ret ?_
  have h := sI h
  subst h
  exact eG [] (.inr rfl) (RetV.one rfl (oT (t := 2) (r := V.b y19)))
 refine iF hc30 ?_
 refine cU 2 101 (tl 64 [(1, .loc 100 0), (7, V.i a0.Kind), (20, V.b (a0.Kind == 3))]) [(100, .cells 120 [V.i a0.Kind, V.s a0.Text, V.i a0.At])] ?_
 refine bC h (fun hc38 h => ?_) (fun hc38 h => ?_)
 ·refine iT hc38 ?_
  refine bB h fun r23 hx40 h => ?_
  refine CO.cutR (tl 64 [(2, V.b (r23 == (a0.Text.length : Int)))]) [] mix (by
   refine wR 2 101 ?_
   refine W.call0 (AC.gs (mi_NumEnd_ok N a0.Text 0 hx40) (by decide)) cok141 rfl (by kernel_rfl) ?_
   refine wR 5 101 ?_
   exact fI
   ) ?_
  refine CO.ret ?_
  have h := sI h
  subst h
  exact eG [] (.inr rfl) (RetV.one rfl (oT (t := 2) (r := V.b (r23 == (a0.Text.length : Int)))))
 refine iF hc38 ?_
 refine cU 2 101 (tl 64 [(1, .loc 100 0), (7, V.i a0.Kind), (29, V.b (a0.Kind == 4))]) [(100, .cells 120 [V.i a0.Kind, V.s a0.Text, V.i a0.At])] ?_
 refine bC h (fun hc41 h => ?_) (fun hc41 h => ?_)
 ·refine iT hc41 ?_
  refine bB h fun r25 hx43 h => ?_
  refine CO.cutR (tl 64 [(2, V.b (r25 == (a0.Text.length : Int)))]) [] mix (by
   refine wR 2 101 ?_
   refine W.call0 (AC.gs (mi_StrEnd_ok N a0.Text 0 hx43) (by decide)) cok142 rfl (by kernel_rfl) ?_
   refine wR 5 101 ?_
   exact fI
   ) ?_
  refine CO.ret ?_
  have h := sI h
  subst h
  exact eG [] (.inr rfl) (RetV.one rfl (oT (t := 2) (r := V.b (r25 == (a0.Text.length : Int)))))
 refine iF hc41 ?_
 refine cU 2 101 (tl 64 [(1, .loc 100 0), (7, V.i a0.Kind), (38, V.b (a0.Kind == 5))]) [(100, .cells 120 [V.i a0.Kind, V.s a0.Text, V.i a0.At])] ?_
 refine bC h (fun hc44 h => ?_) (fun hc44 h => ?_)
 ·refine iT hc44 ?_
  refine bB h fun r27 hx46 h => ?_
  refine CO.cutR (tl 64 [(2, V.b (r27 == (a0.Text.length : Int)))]) [] mix (by
   refine wR 2 101 ?_
   refine W.call0 (AC.gs (mi_EreEnd_ok N a0.Text 0 hx46) (by decide)) cok143 rfl (by kernel_rfl) ?_
   refine wR 5 101 ?_
   exact fI
   ) ?_
  refine CO.ret ?_
  have h := sI h
  subst h
  exact eG [] (.inr rfl) (RetV.one rfl (oT (t := 2) (r := V.b (r27 == (a0.Text.length : Int)))))
 refine iF hc44 ?_
 refine CO.join (fun (⟨a0, y28⟩ : (SToken × Bool)) => ⟨tl 64 [(1, .loc 100 0), (7, V.i a0.Kind), (47, V.b y28)], [(100, .cells 120 [V.i a0.Kind, V.s a0.Text, V.i a0.At])]⟩) (fun i => mi_TokenOk_k1 N i = some r) ?_ ?_
 · rintro ⟨a0, y28⟩ h48
   rw [mi_TokenOk_k1] at h48
   refine bC h48 (fun hc49 h48 => ?_) (fun hc49 h48 => ?_)
   ·refine iT hc49 ?_
    refine bB h48 fun r30 hx51 h48 => ?_
    refine CO.cutR (tl 64 [(2, V.b r30)]) [] mix (by
     refine wR 2 101 ?_
     refine W.call0 (AC.gs (mi_NameOk_ok N a0.Text hx51) (by decide)) cok120 rfl (by kernel_rfl) ?_
     refine wR 1 101 ?_
     exact fI
     ) ?_
    refine CO.ret ?_
    have h48 := sI h48
    subst h48
    exact eG [] (.inr rfl) (RetV.one rfl (oT (t := 2) (r := V.b r30)))
   refine iF hc49 ?_
   refine cU 2 101 (tl 64 [(1, .loc 100 0), (53, V.b (a0.Kind == 8))]) [(100, .cells 120 [V.i a0.Kind, V.s a0.Text, V.i a0.At])] ?_
   refine bC h48 (fun hc52 h48 => ?_) (fun hc52 h48 => ?_)
   ·refine iT hc52 ?_
    refine bB h48 fun r32 hx54 h48 => ?_
    refine CO.cutR (tl 64 [(2, V.b r32)]) [] mix (by
     refine wR 2 101 ?_
     refine W.call0 (AC.gs (mi_IsBuiltin_ok N a0.Text hx54) (by decide)) cok122 rfl (by kernel_rfl) ?_
     refine wR 1 101 ?_
     exact fI
     ) ?_
    refine CO.ret ?_
    have h48 := sI h48
    subst h48
    exact eG [] (.inr rfl) (RetV.one rfl (oT (t := 2) (r := V.b r32)))
   refine iF hc52 ?_
   refine CO.skip ?_
   refine bB h48 fun r34 hx56 h48 => ?_
   refine CO.cutR (tl 64 [(2, V.b (a0.Text == r34))]) [] mix (by
    refine wR 4 101 ?_
    refine W.call0 (AC.gs (mi_SpellOf_ok a0.Kind hx56) (by decide)) cok144 rfl (by kernel_rfl) ?_
    refine wR 2 101 ?_
    exact fI
    ) ?_
   refine CO.ret ?_
   have h48 := sI h48
   subst h48
   exact eG [] (.inr rfl) (RetV.one rfl (oT (t := 2) (r := V.b (a0.Text == r34))))
 intro hk57
 refine cU 2 101 (tl 64 [(1, .loc 100 0), (7, V.i a0.Kind), (47, V.b (a0.Kind == 6))]) [(100, .cells 120 [V.i a0.Kind, V.s a0.Text, V.i a0.At])] ?_
 refine bC h (fun hc58 h => ?_) (fun hc58 h => ?_)
 ·refine iT hc58 ?_
  refine CO.skip ?_
  exact hk57 (a0, (a0.Kind == 6)) h _ (wS [(100, 100)] [1, 7, 47])
 refine iF hc58 ?_
 refine cE 2 101 (tl 64 [(1, .loc 100 0), (7, V.i a0.Kind), (47, V.b (a0.Kind == 7))]) [(100, .cells 120 [V.i a0.Kind, V.s a0.Text, V.i a0.At])] (fun st hw => ?_)
 exact hk57 (a0, (a0.Kind == 7)) h _ (hw.trans (wS [(100, 100)] [1, 7, 47]))

theorem mi_isStep_ok (a0 : Int) {r : Bool} (h : mi_isStep a0 = some r) :
    AC Tryz.prog (GS []) 123 [V.i a0] [] (V.b r) [] := by
 rw [mi_isStep] at h
 refine AC.enter Tryz.func123 rfl ?_
 refine cU 1 100 (tl 9 [(0, V.i a0)]) [] ?_
 refine bB h fun y1 hv2 h => ?_
 refine CO.cutR (tl 9 [(2, V.b y1)]) [] mix (by
  refine wR 3 100 ?_
  refine bC hv2 (fun hc3 hv2 => ?_) (fun hc3 hv2 => ?_)
  ·refine wI 5 hc3 ?_
   refine wR 4 100 ?_
   have hv2 := sI hv2
   subst hv2
   exact fS [] [2]
  refine wI 5 hc3 ?_
  refine wR 4 100 ?_
  have hv2 := sI hv2
  subst hv2
  exact fS [] [2]
  ) ?_
 refine CO.ret ?_
 have h := sI h
 subst h
 exact eG [] (.inr rfl) (RetV.one rfl (oT (t := 2) (r := V.b y1)))

theorem mi_OpLevel_ok (a0 : Int) {r : Int} (h : mi_OpLevel a0 = some r) :
    AC Tryz.prog (GS []) 124 [V.i a0] [] (V.i r) [] := by
 rw [mi_OpLevel] at h
 refine AC.enter Tryz.func124 rfl ?_
 refine cU 1 100 (tl 29 [(0, V.i a0)]) [] ?_
 refine CO.seq' ?_
 refine cU 1 100 (tl 29 [(3, V.i a0)]) [] ?_
 refine CO.block' ?_
 refine cU 2 100 (tl 29 [(3, V.i a0), (4, V.b (a0 == 44))]) [] ?_
 refine bC h (fun hc35 h => ?_) (fun hc35 h => ?_)
 ·refine iT hc35 ?_
  refine cU 1 100 (tl 29 [(2, V.i 3)]) [] ?_
  refine CO.ret ?_
  have h := sI h
  subst h
  exact eG [] (.inr rfl) (RetV.one rfl (oT (t := 2) (r := V.i 3)))
 refine iF hc35 ?_
 refine cU 2 100 (tl 29 [(3, V.i a0), (6, V.b (a0 == 45))]) [] ?_
 refine bC h (fun hc36 h => ?_) (fun hc36 h => ?_)
 ·refine iT hc36 ?_
  refine cU 1 100 (tl 29 [(2, V.i 4)]) [] ?_
  refine CO.ret ?_
  have h := sI h
  subst h
  exact eG [] (.inr rfl) (RetV.one rfl (oT (t := 2) (r := V.i 4)))
 refine iF hc36 ?_
 refine CO.join (fun (⟨a0, y5⟩ : (Int × Bool)) => ⟨tl 29 [(3, V.i a0), (8, V.b y5)], []⟩) (fun i => mi_OpLevel_k1 i = some r) ?_ ?_
 · rintro ⟨a0, y5⟩ h38
   rw [mi_OpLevel_k1] at h38
   refine bC h38 (fun hc39 h38 => ?_) (fun hc39 h38 => ?_)
   ·refine iT hc39 ?_
    refine cU 1 100 (tl 29 [(2, V.i 6)]) [] ?_
    refine CO.ret ?_
    have h38 := sI h38
    subst h38
    exact eG [] (.inr rfl) (RetV.one rfl (oT (t := 2) (r := V.i 6)))
   refine iF hc39 ?_
   refine CO.join (fun (⟨a0, y6⟩ : (Int × Bool)) => ⟨tl 29 [(3, V.i a0), (11, V.b y6)], []⟩) (fun i => mi_OpLevel_k2 i = some r) ?_ ?_
   · rintro ⟨a0, y6⟩ h45
     rw [mi_OpLevel_k2] at h45
     refine bC h45 (fun hc46 h45 => ?_) (fun hc46 h45 => ?_)
     ·refine iT hc46 ?_
      refine cU 1 100 (tl 29 [(2, V.i 7)]) [] ?_
      refine CO.ret ?_
      have h45 := sI h45
      subst h45
      exact eG [] (.inr rfl) (RetV.one rfl (oT (t := 2) (r := V.i 7)))
     refine iF hc46 ?_
     refine cU 2 100 (tl 29 [(3, V.i a0), (18, V.b (a0 == 99))]) [] ?_
     refine bC h45 (fun hc47 h45 => ?_) (fun hc47 h45 => ?_)
     ·refine iT hc47 ?_
      refine cU 1 100 (tl 29 [(2, V.i 8)]) [] ?_
      refine CO.ret ?_
      have h45 := sI h45
      subst h45
      exact eG [] (.inr rfl) (RetV.one rfl (oT (t := 2) (r := V.i 8)))
     refine iF hc47 ?_
     refine CO.join (fun (⟨a0, y7⟩ : (Int × Bool)) => ⟨tl 29 [(3, V.i a0), (20, V.b y7)], []⟩) (fun i => mi_OpLevel_k3 i = some r) ?_ ?_
     · rintro ⟨a0, y7⟩ h49
       rw [mi_OpLevel_k3] at h49
       refine bC h49 (fun hc50 h49 => ?_) (fun hc50 h49 => ?_)
       ·refine iT hc50 ?_
        refine cU 1 100 (tl 29 [(2, V.i 9)]) [] ?_
        refine CO.ret ?_
        have h49 := sI h49
        subst h49
        exact eG [] (.inr rfl) (RetV.one rfl (oT (t := 2) (r := V.i 9)))
       refine iF hc50 ?_
       refine CO.join (fun (⟨a0, y8⟩ : (Int × Bool)) => ⟨tl 29 [(3, V.i a0), (23, V.b y8)], []⟩) (fun i => mi_OpLevel_k4 i = some r) ?_ ?_
       · rintro ⟨a0, y8⟩ h53
         rw [mi_OpLevel_k4] at h53
         refine bC h53 (fun hc54 h53 => ?_) (fun hc54 h53 => ?_)
         ·refine iT hc54 ?_
          refine cU 1 100 (tl 29 [(2, V.i 10)]) [] ?_
          refine CO.ret ?_
          have h53 := sI h53
          subst h53
          exact eG [] (.inr rfl) (RetV.one rfl (oT (t := 2) (r := V.i 10)))
         refine iF hc54 ?_
         refine cU 2 100 (tl 29 [(27, V.b (a0 == 60))]) [] ?_
         refine bC h53 (fun hc55 h53 => ?_) (fun hc55 h53 => ?_)
         ·refine iT hc55 ?_
          refine cU 1 100 (tl 29 [(2, V.i 12)]) [] ?_
          refine CO.ret ?_
          have h53 := sI h53
          subst h53
          exact eG [] (.inr rfl) (RetV.one rfl (oT (t := 2) (r := V.i 12)))
         refine iF hc55 ?_
         refine CO.skip ?_
         refine cU 1 100 (tl 29 [(2, V.i 0)]) [] ?_
         refine CO.ret ?_
         have h53 := sI h53
         subst h53
         exact eG [] (.inr rfl) (RetV.one rfl (oT (t := 2) (r := V.i 0)))
       intro hk56
       refine cU 2 100 (tl 29 [(3, V.i a0), (23, V.b (a0 == 57))]) [] ?_
       refine bC h49 (fun hc57 h49 => ?_) (fun hc57 h49 => ?_)
       ·refine iT hc57 ?_
        refine CO.skip ?_
        exact hk56 (a0, (a0 == 57)) h49 _ (wS [] [3, 23])
       refine iF hc57 ?_
       refine cU 2 100 (tl 29 [(3, V.i a0), (23, V.b (a0 == 58))]) [] ?_
       refine bC h49 (fun hc58 h49 => ?_) (fun hc58 h49 => ?_)
       ·refine iT hc58 ?_
        refine CO.skip ?_
        exact hk56 (a0, (a0 == 58)) h49 _ (wS [] [3, 23])
       refine iF hc58 ?_
       refine cE 2 100 (tl 29 [(3, V.i a0), (23, V.b (a0 == 59))]) [] (fun st hw => ?_)
       exact hk56 (a0, (a0 == 59)) h49 _ (hw.trans (wS [] [3, 23]))
     intro hk59
     refine cU 2 100 (tl 29 [(3, V.i a0), (20, V.b (a0 == 55))]) [] ?_
     refine bC h45 (fun hc60 h45 => ?_) (fun hc60 h45 => ?_)
     ·refine iT hc60 ?_
      refine CO.skip ?_
      exact hk59 (a0, (a0 == 55)) h45 _ (wS [] [3, 20])
     refine iF hc60 ?_
     refine cE 2 100 (tl 29 [(3, V.i a0), (20, V.b (a0 == 56))]) [] (fun st hw => ?_)
     exact hk59 (a0, (a0 == 56)) h45 _ (hw.trans (wS [] [3, 20]))
   intro hk61
   refine cU 2 100 (tl 29 [(3, V.i a0), (11, V.b (a0 == 63))]) [] ?_
   refine bC h38 (fun hc62 h38 => ?_) (fun hc62 h38 => ?_)
   ·refine iT hc62 ?_
    refine CO.skip ?_
    exact hk61 (a0, (a0 == 63)) h38 _ (wS [] [3, 11])
   refine iF hc62 ?_
   refine cU 2 100 (tl 29 [(3, V.i a0), (11, V.b (a0 == 48))]) [] ?_
   refine bC h38 (fun hc63 h38 => ?_) (fun hc63 h38 => ?_)
   ·refine iT hc63 ?_
    refine CO.skip ?_
    exact hk61 (a0, (a0 == 48)) h38 _ (wS [] [3, 11])
   refine iF hc63 ?_
   refine cU 2 100 (tl 29 [(3, V.i a0), (11, V.b (a0 == 47))]) [] ?_
   refine bC h38 (fun hc64 h38 => ?_) (fun hc64 h38 => ?_)
   ·refine iT hc64 ?_
    refine CO.skip ?_
    exact hk61 (a0, (a0 == 47)) h38 _ (wS [] [3, 11])
   refine iF hc64 ?_
   refine cU 2 100 (tl 29 [(3, V.i a0), (11, V.b (a0 == 50))]) [] ?_
   refine bC h38 (fun hc65 h38 => ?_) (fun hc65 h38 => ?_)
   ·refine iT hc65 ?_
    refine CO.skip ?_
    exact hk61 (a0, (a0 == 50)) h38 _ (wS [] [3, 11])
   refine iF hc65 ?_
   refine cU 2 100 (tl 29 [(3, V.i a0), (11, V.b (a0 == 62))]) [] ?_
   refine bC h38 (fun hc66 h38 => ?_) (fun hc66 h38 => ?_)
   ·refine iT hc66 ?_
    refine CO.skip ?_
    exact hk61 (a0, (a0 == 62)) h38 _ (wS [] [3, 11])
   refine iF hc66 ?_
   refine cE 2 100 (tl 29 [(3, V.i a0), (11, V.b (a0 == 49))]) [] (fun st hw => ?_)
   exact hk61 (a0, (a0 == 49)) h38 _ (hw.trans (wS [] [3, 11]))
 intro hk67
 refine cU 2 100 (tl 29 [(3, V.i a0), (8, V.b (a0 == 67))]) [] ?_
 refine bC h (fun hc68 h => ?_) (fun hc68 h => ?_)
 ·refine iT hc68 ?_
  refine CO.skip ?_
  exact hk67 (a0, (a0 == 67)) h _ (wS [] [3, 8])
 refine iF hc68 ?_
 refine cE 2 100 (tl 29 [(3, V.i a0), (8, V.b (a0 == 46))]) [] (fun st hw => ?_)
 exact hk67 (a0, (a0 == 46)) h _ (hw.trans (wS [] [3, 8]))

theorem mi_isAssign_ok (a0 : Int) {r : Bool} (h : mi_isAssign a0 = some r) :
    AC Tryz.prog (GS []) 125 [V.i a0] [] (V.b r) [] := by
 rw [mi_isAssign] at h
 refine AC.enter Tryz.func125 rfl ?_
 refine cU 1 100 (tl 9 [(0, V.i a0)]) [] ?_
 refine bB h fun y2 hv3 h => ?_
 refine CO.cutR (tl 9 [(2, V.b y2)]) [] mix (by
  refine wR 3 100 ?_
  refine bC hv3 (fun hc4 hv3 => ?_) (fun hc4 hv3 => ?_)
  ·refine wI 5 hc4 ?_
   refine wR 4 100 ?_
   have hv3 := sI hv3
   subst hv3
   exact fS [] [2]
  refine wI 5 hc4 ?_
  refine wR 1 100 ?_
  refine bB hv3 fun r3 hx5 hv3 => ?_
  refine W.call0 (mi_within_ok a0 38 43 hx5) cok55 rfl (by kernel_rfl) ?_
  refine wR 2 100 ?_
  have hv3 := sI hv3
  subst hv3
  exact fS [] [2]
  ) ?_
 refine CO.ret ?_
 have h := sI h
 subst h
 exact eG [] (.inr rfl) (RetV.one rfl (oT (t := 2) (r := V.b y2)))

end Go.Proofs.Tryz
