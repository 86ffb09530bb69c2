/-
  The walks that show that the code computes the models, part 2.
-/
import Derived.Test.YtllanibkffnogaaGreatDoorMaQW1
namespace Go.Proofs.Tryz
open Go.Av
set_option maxRecDepth 100000
set_option maxHeartbeats 8000000
set_option linter.unusedSimpArgs false
set_option linter.unusedVariables false

theorem ms_l7Kid_ok (a0 : SNode) (a1 : Int) (a2 : Int) {r : Bool} (h : ms_l7Kid a0 a1 a2 = some r) :
    AC Tryz.prog (GS []) 71 [.agg [V.i a0.Kind, V.i a0.Op, V.s a0.Text, V.s a0.Other, .sl false false (a0.Kids.map encI)], V.i a1, V.i a2] [] (V.b r) [] := by
 rw [ms_l7Kid] at h
 refine AC.enter Tryz.func71 rfl ?_
 refine cu Dk mix 2 100 (tl 184 [(1, V.i a1), (2, V.i a2), (3, .loc 100 0)]) [(100, .cells 48 [V.i a0.Kind, V.i a0.Op, V.s a0.Text, V.s a0.Other, .sl false false (a0.Kids.map encI)])] (by kernel_rfl) ?_
 refine CO.cutR (tl 184 [(1, V.i a1), (2, V.i a2), (3, .loc 100 0), (7, V.b (a1 == (IntKind.wrap .i64 ((a0.Kids.length : Int) - 1))))]) [(100, .cells 48 [V.i a0.Kind, V.i a0.Op, V.s a0.Text, V.s a0.Other, .sl false false (a0.Kids.map encI)])] mix (by
  refine W.run Dk 3 101 (by kernel_rfl) ?_
  refine W.len Dk encI a0.Kids [] (by kernel_rfl) (by kernel_rfl) ?_
  refine W.run Dk 3 101 (by kernel_rfl) ?_
  exact W.fi (by kernel_rfl)
  ) ?_
 refine cu Dk mix 3 101 (tl 184 [(1, V.i a1), (2, V.i a2), (3, .loc 100 0), (7, V.b (a1 == (IntKind.wrap .i64 ((a0.Kids.length : Int) - 1)))), (8, V.b (a2 == 33))]) [(100, .cells 48 [V.i a0.Kind, V.i a0.Op, V.s a0.Text, V.s a0.Other, .sl false false (a0.Kids.map encI)])] (by kernel_rfl) ?_
 refine CO.seq' ?_
 refine cu Dk mix 2 101 (tl 184 [(1, V.i a1), (2, V.i a2), (3, .loc 100 0), (7, V.b (a1 == (IntKind.wrap .i64 ((a0.Kids.length : Int) - 1)))), (8, V.b (a2 == 33)), (18, V.i a0.Kind)]) [(100, .cells 48 [V.i a0.Kind, V.i a0.Op, V.s a0.Text, V.s a0.Other, .sl false false (a0.Kids.map encI)])] (by kernel_rfl) ?_
 refine CO.block' ?_
 refine CO.join (fun (⟨a1, a2, a0, y52⟩ : (Int × Int × SNode × Bool)) => ⟨tl 184 [(1, V.i a1), (2, V.i a2), (3, .loc 100 0), (7, V.b (a1 == (IntKind.wrap .i64 ((a0.Kids.length : Int) - 1)))), (8, V.b (a2 == 33)), (18, V.i a0.Kind), (19, V.b y52)], [(100, .cells 48 [V.i a0.Kind, V.i a0.Op, V.s a0.Text, V.s a0.Other, .sl false false (a0.Kids.map encI)])]⟩) (fun i => ms_l7Kid_k1 i = some r) ?_ ?_
 · rintro ⟨a1, a2, a0, y52⟩ h181
   rw [ms_l7Kid_k1] at h181
   (revert h181; refine cR (fun hc182 h181 => ?_) (fun hc182 h181 => ?_))
   ·refine CO.ifT hc182 (by kernel_rfl) ?_
    (revert h181; refine bR fun r54 hx184 h181 => ?_)
    refine CO.cutR (tl 184 [(6, V.b r54)]) [] mix (by
     refine W.run Dk 1 101 (by kernel_rfl) ?_
     refine W.call0 (ms_IsLvalue_ok a2 hx184) cok102 rfl (by kernel_rfl) ?_
     refine W.run Dk 1 101 (by kernel_rfl) ?_
     exact W.fi (by kernel_rfl)
     ) ?_
    refine CO.ret ?_
    have h181 := Option.some.inj h181
    subst h181
    exact Ends.gen [] (.inr rfl) (RetV.one rfl (OneR.t (t := 6) (r := V.b r54) (by kernel_rfl))) (by kernel_rfl) (by kernel_rfl) (by kernel_rfl)
   refine CO.ifF hc182 (by kernel_rfl) ?_
   refine cu Dk mix 2 101 (tl 184 [(1, V.i a1), (2, V.i a2), (3, .loc 100 0), (7, V.b (a1 == (IntKind.wrap .i64 ((a0.Kids.length : Int) - 1)))), (8, V.b (a2 == 33)), (18, V.i a0.Kind), (24, V.b (a0.Kind == 15))]) [(100, .cells 48 [V.i a0.Kind, V.i a0.Op, V.s a0.Text, V.s a0.Other, .sl false false (a0.Kids.map encI)])] (by kernel_rfl) ?_
   (revert h181; refine cR (fun hc185 h181 => ?_) (fun hc185 h181 => ?_))
   ·refine CO.ifT hc185 (by kernel_rfl) ?_
    (revert h181; refine bR fun y57 hv190 h181 => ?_)
    refine CO.cutR (tl 184 [(6, V.b y57)]) [] mix (by
     refine W.run Dk 1 101 (by kernel_rfl) ?_
     (revert hv190; refine bR fun r58 hx191 hv190 => ?_)
     refine W.call0 (ms_IsExpr_ok a2 hx191) cok81 rfl (by kernel_rfl) ?_
     refine W.run Dk 1 101 (by kernel_rfl) ?_
     (revert hv190; refine cR (fun hc192 hv190 => ?_) (fun hc192 hv190 => ?_))
     ·refine W.is 28 hc192 (by kernel_rfl) ?_
      refine W.run Dk 3 101 (by kernel_rfl) ?_
      (revert hv190; refine cR (fun hc193 hv190 => ?_) (fun hc193 hv190 => ?_))
      ·refine W.is 31 hc193 (by kernel_rfl) ?_
       refine W.run Dk 5 101 (by kernel_rfl) ?_
       have hv190 := Option.some.inj hv190
       subst hv190
       exact W.fs [] [6] (by kernel_rfl)
      refine W.is 31 hc193 (by kernel_rfl) ?_
      refine W.run Dk 1 101 (by kernel_rfl) ?_
      (revert hv190; refine bR fun r59 hx194 hv190 => ?_)
      refine W.call0 (ms_IsLvalue_ok a2 hx194) cok102 rfl (by kernel_rfl) ?_
      refine W.run Dk 3 101 (by kernel_rfl) ?_
      have hv190 := Option.some.inj hv190
      subst hv190
      exact W.fs [] [6] (by kernel_rfl)
     refine W.is 28 hc192 (by kernel_rfl) ?_
     refine W.run Dk 8 101 (by kernel_rfl) ?_
     have hv190 := Option.some.inj hv190
     subst hv190
     exact W.fs [] [6] (by kernel_rfl)
     ) ?_
    refine CO.ret ?_
    have h181 := Option.some.inj h181
    subst h181
    exact Ends.gen [] (.inr rfl) (RetV.one rfl (OneR.t (t := 6) (r := V.b y57) (by kernel_rfl))) (by kernel_rfl) (by kernel_rfl) (by kernel_rfl)
   refine CO.ifF hc185 (by kernel_rfl) ?_
   refine cu Dk mix 2 101 (tl 184 [(1, V.i a1), (2, V.i a2), (3, .loc 100 0), (7, V.b (a1 == (IntKind.wrap .i64 ((a0.Kids.length : Int) - 1)))), (8, V.b (a2 == 33)), (18, V.i a0.Kind), (36, V.b (a0.Kind == 28))]) [(100, .cells 48 [V.i a0.Kind, V.i a0.Op, V.s a0.Text, V.s a0.Other, .sl false false (a0.Kids.map encI)])] (by kernel_rfl) ?_
   (revert h181; refine cR (fun hc195 h181 => ?_) (fun hc195 h181 => ?_))
   ·refine CO.ifT hc195 (by kernel_rfl) ?_
    (revert h181; refine bR fun y61 hv201 h181 => ?_)
    refine CO.cutR (tl 184 [(6, V.b y61)]) [] mix (by
     refine W.run Dk 3 101 (by kernel_rfl) ?_
     (revert hv201; refine cR (fun hc202 hv201 => ?_) (fun hc202 hv201 => ?_))
     ·refine W.is 40 hc202 (by kernel_rfl) ?_
      refine W.run Dk 1 101 (by kernel_rfl) ?_
      (revert hv201; refine bR fun r62 hx203 hv201 => ?_)
      refine W.call0 (ms_IsExpr_ok a2 hx203) cok81 rfl (by kernel_rfl) ?_
      refine W.run Dk 2 101 (by kernel_rfl) ?_
      (revert hv201; refine cR (fun hc204 hv201 => ?_) (fun hc204 hv201 => ?_))
      ·refine W.is 44 hc204 (by kernel_rfl) ?_
       refine W.run Dk 7 101 (by kernel_rfl) ?_
       have hv201 := Option.some.inj hv201
       subst hv201
       exact W.fs [] [6] (by kernel_rfl)
      refine W.is 44 hc204 (by kernel_rfl) ?_
      refine W.run Dk 3 101 (by kernel_rfl) ?_
      (revert hv201; refine cR (fun hc205 hv201 => ?_) (fun hc205 hv201 => ?_))
      ·refine W.is 47 hc205 (by kernel_rfl) ?_
       refine W.run Dk 4 101 (by kernel_rfl) ?_
       have hv201 := Option.some.inj hv201
       subst hv201
       exact W.fs [] [6] (by kernel_rfl)
      refine W.is 47 hc205 (by kernel_rfl) ?_
      refine W.run Dk 4 101 (by kernel_rfl) ?_
      have hv201 := Option.some.inj hv201
      subst hv201
      exact W.fs [] [6] (by kernel_rfl)
     refine W.is 40 hc202 (by kernel_rfl) ?_
     refine W.run Dk 7 101 (by kernel_rfl) ?_
     (revert hv201; refine cR (fun hc206 hv201 => ?_) (fun hc206 hv201 => ?_))
     ·refine W.is 47 hc206 (by kernel_rfl) ?_
      refine W.run Dk 4 101 (by kernel_rfl) ?_
      have hv201 := Option.some.inj hv201
      subst hv201
      exact W.fs [] [6] (by kernel_rfl)
     refine W.is 47 hc206 (by kernel_rfl) ?_
     refine W.run Dk 4 101 (by kernel_rfl) ?_
     have hv201 := Option.some.inj hv201
     subst hv201
     exact W.fs [] [6] (by kernel_rfl)
     ) ?_
    refine CO.ret ?_
    have h181 := Option.some.inj h181
    subst h181
    exact Ends.gen [] (.inr rfl) (RetV.one rfl (OneR.t (t := 6) (r := V.b y61) (by kernel_rfl))) (by kernel_rfl) (by kernel_rfl) (by kernel_rfl)
   refine CO.ifF hc195 (by kernel_rfl) ?_
   refine cu Dk mix 2 101 (tl 184 [(1, V.i a1), (2, V.i a2), (3, .loc 100 0), (7, V.b (a1 == (IntKind.wrap .i64 ((a0.Kids.length : Int) - 1)))), (8, V.b (a2 == 33)), (18, V.i a0.Kind), (51, V.b (a0.Kind == 29))]) [(100, .cells 48 [V.i a0.Kind, V.i a0.Op, V.s a0.Text, V.s a0.Other, .sl false false (a0.Kids.map encI)])] (by kernel_rfl) ?_
   (revert h181; refine cR (fun hc207 h181 => ?_) (fun hc207 h181 => ?_))
   ·refine CO.ifT hc207 (by kernel_rfl) ?_
    (revert h181; refine bR fun y64 hv213 h181 => ?_)
    refine CO.cutR (tl 184 [(6, V.b y64)]) [] mix (by
     refine W.run Dk 3 101 (by kernel_rfl) ?_
     (revert hv213; refine cR (fun hc214 hv213 => ?_) (fun hc214 hv213 => ?_))
     ·refine W.is 55 hc214 (by kernel_rfl) ?_
      refine W.run Dk 1 101 (by kernel_rfl) ?_
      (revert hv213; refine bR fun r65 hx215 hv213 => ?_)
      refine W.call0 (ms_IsExpr_ok a2 hx215) cok81 rfl (by kernel_rfl) ?_
      refine W.run Dk 2 101 (by kernel_rfl) ?_
      (revert hv213; refine cR (fun hc216 hv213 => ?_) (fun hc216 hv213 => ?_))
      ·refine W.is 59 hc216 (by kernel_rfl) ?_
       refine W.run Dk 7 101 (by kernel_rfl) ?_
       have hv213 := Option.some.inj hv213
       subst hv213
       exact W.fs [] [6] (by kernel_rfl)
      refine W.is 59 hc216 (by kernel_rfl) ?_
      refine W.run Dk 3 101 (by kernel_rfl) ?_
      (revert hv213; refine cR (fun hc217 hv213 => ?_) (fun hc217 hv213 => ?_))
      ·refine W.is 62 hc217 (by kernel_rfl) ?_
       refine W.run Dk 4 101 (by kernel_rfl) ?_
       have hv213 := Option.some.inj hv213
       subst hv213
       exact W.fs [] [6] (by kernel_rfl)
      refine W.is 62 hc217 (by kernel_rfl) ?_
      refine W.run Dk 4 101 (by kernel_rfl) ?_
      have hv213 := Option.some.inj hv213
      subst hv213
      exact W.fs [] [6] (by kernel_rfl)
     refine W.is 55 hc214 (by kernel_rfl) ?_
     refine W.run Dk 7 101 (by kernel_rfl) ?_
     (revert hv213; refine cR (fun hc218 hv213 => ?_) (fun hc218 hv213 => ?_))
     ·refine W.is 62 hc218 (by kernel_rfl) ?_
      refine W.run Dk 4 101 (by kernel_rfl) ?_
      have hv213 := Option.some.inj hv213
      subst hv213
      exact W.fs [] [6] (by kernel_rfl)
     refine W.is 62 hc218 (by kernel_rfl) ?_
     refine W.run Dk 4 101 (by kernel_rfl) ?_
     have hv213 := Option.some.inj hv213
     subst hv213
     exact W.fs [] [6] (by kernel_rfl)
     ) ?_
    refine CO.ret ?_
    have h181 := Option.some.inj h181
    subst h181
    exact Ends.gen [] (.inr rfl) (RetV.one rfl (OneR.t (t := 6) (r := V.b y64) (by kernel_rfl))) (by kernel_rfl) (by kernel_rfl) (by kernel_rfl)
   refine CO.ifF hc207 (by kernel_rfl) ?_
   refine cu Dk mix 2 101 (tl 184 [(1, V.i a1), (2, V.i a2), (3, .loc 100 0), (7, V.b (a1 == (IntKind.wrap .i64 ((a0.Kids.length : Int) - 1)))), (8, V.b (a2 == 33)), (18, V.i a0.Kind), (66, V.b (a0.Kind == 30))]) [(100, .cells 48 [V.i a0.Kind, V.i a0.Op, V.s a0.Text, V.s a0.Other, .sl false false (a0.Kids.map encI)])] (by kernel_rfl) ?_
   (revert h181; refine cR (fun hc219 h181 => ?_) (fun hc219 h181 => ?_))
   ·refine CO.ifT hc219 (by kernel_rfl) ?_
    (revert h181; refine bR fun y68 hv226 h181 => ?_)
    refine CO.cutR (tl 184 [(6, V.b y68)]) [] mix (by
     refine W.run Dk 3 101 (by kernel_rfl) ?_
     (revert hv226; refine cR (fun hc227 hv226 => ?_) (fun hc227 hv226 => ?_))
     ·refine W.is 70 hc227 (by kernel_rfl) ?_
      refine W.run Dk 3 101 (by kernel_rfl) ?_
      (revert hv226; refine cR (fun hc228 hv226 => ?_) (fun hc228 hv226 => ?_))
      ·refine W.is 73 hc228 (by kernel_rfl) ?_
       refine W.run Dk 8 101 (by kernel_rfl) ?_
       have hv226 := Option.some.inj hv226
       subst hv226
       exact W.fs [] [6] (by kernel_rfl)
      refine W.is 73 hc228 (by kernel_rfl) ?_
      refine W.run Dk 3 101 (by kernel_rfl) ?_
      (revert hv226; refine cR (fun hc229 hv226 => ?_) (fun hc229 hv226 => ?_))
      ·refine W.is 76 hc229 (by kernel_rfl) ?_
       refine W.run Dk 1 101 (by kernel_rfl) ?_
       (revert hv226; refine bR fun r69 hx230 hv226 => ?_)
       refine W.call0 (ms_IsExpr_ok a2 hx230) cok81 rfl (by kernel_rfl) ?_
       refine W.run Dk 3 101 (by kernel_rfl) ?_
       have hv226 := Option.some.inj hv226
       subst hv226
       exact W.fs [] [6] (by kernel_rfl)
      refine W.is 76 hc229 (by kernel_rfl) ?_
      refine W.run Dk 5 101 (by kernel_rfl) ?_
      have hv226 := Option.some.inj hv226
      subst hv226
      exact W.fs [] [6] (by kernel_rfl)
     refine W.is 70 hc227 (by kernel_rfl) ?_
     refine W.run Dk 6 101 (by kernel_rfl) ?_
     (revert hv226; refine cR (fun hc231 hv226 => ?_) (fun hc231 hv226 => ?_))
     ·refine W.is 76 hc231 (by kernel_rfl) ?_
      refine W.run Dk 1 101 (by kernel_rfl) ?_
      (revert hv226; refine bR fun r70 hx232 hv226 => ?_)
      refine W.call0 (ms_IsExpr_ok a2 hx232) cok81 rfl (by kernel_rfl) ?_
      refine W.run Dk 3 101 (by kernel_rfl) ?_
      have hv226 := Option.some.inj hv226
      subst hv226
      exact W.fs [] [6] (by kernel_rfl)
     refine W.is 76 hc231 (by kernel_rfl) ?_
     refine W.run Dk 5 101 (by kernel_rfl) ?_
     have hv226 := Option.some.inj hv226
     subst hv226
     exact W.fs [] [6] (by kernel_rfl)
     ) ?_
    refine CO.ret ?_
    have h181 := Option.some.inj h181
    subst h181
    exact Ends.gen [] (.inr rfl) (RetV.one rfl (OneR.t (t := 6) (r := V.b y68) (by kernel_rfl))) (by kernel_rfl) (by kernel_rfl) (by kernel_rfl)
   refine CO.ifF hc219 (by kernel_rfl) ?_
   refine cu Dk mix 2 101 (tl 184 [(1, V.i a1), (2, V.i a2), (3, .loc 100 0), (7, V.b (a1 == (IntKind.wrap .i64 ((a0.Kids.length : Int) - 1)))), (8, V.b (a2 == 33)), (18, V.i a0.Kind), (81, V.b (a0.Kind == 31))]) [(100, .cells 48 [V.i a0.Kind, V.i a0.Op, V.s a0.Text, V.s a0.Other, .sl false false (a0.Kids.map encI)])] (by kernel_rfl) ?_
   (revert h181; refine cR (fun hc233 h181 => ?_) (fun hc233 h181 => ?_))
   ·refine CO.ifT hc233 (by kernel_rfl) ?_
    (revert h181; refine bR fun y72 hv240 h181 => ?_)
    refine CO.cutR (tl 184 [(6, V.b y72)]) [] mix (by
     refine W.run Dk 3 101 (by kernel_rfl) ?_
     (revert hv240; refine cR (fun hc241 hv240 => ?_) (fun hc241 hv240 => ?_))
     ·refine W.is 85 hc241 (by kernel_rfl) ?_
      refine W.run Dk 1 101 (by kernel_rfl) ?_
      (revert hv240; refine bR fun r73 hx242 hv240 => ?_)
      refine W.call0 (ms_IsExpr_ok a2 hx242) cok81 rfl (by kernel_rfl) ?_
      refine W.run Dk 1 101 (by kernel_rfl) ?_
      (revert hv240; refine cR (fun hc243 hv240 => ?_) (fun hc243 hv240 => ?_))
      ·refine W.is 88 hc243 (by kernel_rfl) ?_
       refine W.run Dk 12 101 (by kernel_rfl) ?_
       have hv240 := Option.some.inj hv240
       subst hv240
       exact W.fs [] [6] (by kernel_rfl)
      refine W.is 88 hc243 (by kernel_rfl) ?_
      refine W.run Dk 5 101 (by kernel_rfl) ?_
      (revert hv240; refine cR (fun hc244 hv240 => ?_) (fun hc244 hv240 => ?_))
      ·refine W.is 93 hc244 (by kernel_rfl) ?_
       refine W.run Dk 7 101 (by kernel_rfl) ?_
       have hv240 := Option.some.inj hv240
       subst hv240
       exact W.fs [] [6] (by kernel_rfl)
      refine W.is 93 hc244 (by kernel_rfl) ?_
      refine W.run Dk 3 101 (by kernel_rfl) ?_
      (revert hv240; refine cR (fun hc245 hv240 => ?_) (fun hc245 hv240 => ?_))
      ·refine W.is 96 hc245 (by kernel_rfl) ?_
       refine W.run Dk 4 101 (by kernel_rfl) ?_
       have hv240 := Option.some.inj hv240
       subst hv240
       exact W.fs [] [6] (by kernel_rfl)
      refine W.is 96 hc245 (by kernel_rfl) ?_
      refine W.run Dk 4 101 (by kernel_rfl) ?_
      have hv240 := Option.some.inj hv240
      subst hv240
      exact W.fs [] [6] (by kernel_rfl)
     refine W.is 85 hc241 (by kernel_rfl) ?_
     refine W.run Dk 11 101 (by kernel_rfl) ?_
     (revert hv240; refine cR (fun hc246 hv240 => ?_) (fun hc246 hv240 => ?_))
     ·refine W.is 96 hc246 (by kernel_rfl) ?_
      refine W.run Dk 4 101 (by kernel_rfl) ?_
      have hv240 := Option.some.inj hv240
      subst hv240
      exact W.fs [] [6] (by kernel_rfl)
     refine W.is 96 hc246 (by kernel_rfl) ?_
     refine W.run Dk 4 101 (by kernel_rfl) ?_
     have hv240 := Option.some.inj hv240
     subst hv240
     exact W.fs [] [6] (by kernel_rfl)
     ) ?_
    refine CO.ret ?_
    have h181 := Option.some.inj h181
    subst h181
    exact Ends.gen [] (.inr rfl) (RetV.one rfl (OneR.t (t := 6) (r := V.b y72) (by kernel_rfl))) (by kernel_rfl) (by kernel_rfl) (by kernel_rfl)
   refine CO.ifF hc233 (by kernel_rfl) ?_
   refine CO.join (fun (⟨a1, a2, a0, y74⟩ : (Int × Int × SNode × Bool)) => ⟨tl 184 [(1, V.i a1), (2, V.i a2), (3, .loc 100 0), (7, V.b (a1 == (IntKind.wrap .i64 ((a0.Kids.length : Int) - 1)))), (8, V.b (a2 == 33)), (18, V.i a0.Kind), (100, V.b y74)], [(100, .cells 48 [V.i a0.Kind, V.i a0.Op, V.s a0.Text, V.s a0.Other, .sl false false (a0.Kids.map encI)])]⟩) (fun i => ms_l7Kid_k2 i = some r) ?_ ?_
   · rintro ⟨a1, a2, a0, y74⟩ h249
     rw [ms_l7Kid_k2] at h249
     (revert h249; refine cR (fun hc250 h249 => ?_) (fun hc250 h249 => ?_))
     ·refine CO.ifT hc250 (by kernel_rfl) ?_
      refine cu Dk mix 2 101 (tl 184 [(6, V.b (a2 == 33))]) [] (by kernel_rfl) ?_
      refine CO.ret ?_
      have h249 := Option.some.inj h249
      subst h249
      exact Ends.gen [] (.inr rfl) (RetV.one rfl (OneR.t (t := 6) (r := V.b (a2 == 33)) (by kernel_rfl))) (by kernel_rfl) (by kernel_rfl) (by kernel_rfl)
     refine CO.ifF hc250 (by kernel_rfl) ?_
     refine cu Dk mix 2 101 (tl 184 [(1, V.i a1), (2, V.i a2), (3, .loc 100 0), (7, V.b (a1 == (IntKind.wrap .i64 ((a0.Kids.length : Int) - 1)))), (8, V.b (a2 == 33)), (18, V.i a0.Kind), (105, V.b (a0.Kind == 33))]) [(100, .cells 48 [V.i a0.Kind, V.i a0.Op, V.s a0.Text, V.s a0.Other, .sl false false (a0.Kids.map encI)])] (by kernel_rfl) ?_
     (revert h249; refine cR (fun hc251 h249 => ?_) (fun hc251 h249 => ?_))
     ·refine CO.ifT hc251 (by kernel_rfl) ?_
      (revert h249; refine bR fun r76 hx253 h249 => ?_)
      refine CO.cutR (tl 184 [(6, V.b r76)]) [] mix (by
       refine W.run Dk 1 101 (by kernel_rfl) ?_
       refine W.call0 (ms_IsStmt_ok a2 hx253) cok103 rfl (by kernel_rfl) ?_
       refine W.run Dk 1 101 (by kernel_rfl) ?_
       exact W.fi (by kernel_rfl)
       ) ?_
      refine CO.ret ?_
      have h249 := Option.some.inj h249
      subst h249
      exact Ends.gen [] (.inr rfl) (RetV.one rfl (OneR.t (t := 6) (r := V.b r76) (by kernel_rfl))) (by kernel_rfl) (by kernel_rfl) (by kernel_rfl)
     refine CO.ifF hc251 (by kernel_rfl) ?_
     refine cu Dk mix 2 101 (tl 184 [(1, V.i a1), (2, V.i a2), (3, .loc 100 0), (7, V.b (a1 == (IntKind.wrap .i64 ((a0.Kids.length : Int) - 1)))), (8, V.b (a2 == 33)), (18, V.i a0.Kind), (109, V.b (a0.Kind == 42))]) [(100, .cells 48 [V.i a0.Kind, V.i a0.Op, V.s a0.Text, V.s a0.Other, .sl false false (a0.Kids.map encI)])] (by kernel_rfl) ?_
     (revert h249; refine cR (fun hc254 h249 => ?_) (fun hc254 h249 => ?_))
     ·refine CO.ifT hc254 (by kernel_rfl) ?_
      (revert h249; refine bR fun y86 hv290 h249 => ?_)
      refine CO.cutR (tl 184 [(6, V.b y86)]) [] mix (by
       refine W.run Dk 4 101 (by kernel_rfl) ?_
       (revert hv290; refine cR (fun hc291 hv290 => ?_) (fun hc291 hv290 => ?_))
       ·refine W.is 114 hc291 (by kernel_rfl) ?_
        refine W.run Dk 1 101 (by kernel_rfl) ?_
        (revert hv290; refine bR fun r87 hx292 hv290 => ?_)
        refine W.call0 (ms_IsExpr_ok a2 hx292) cok81 rfl (by kernel_rfl) ?_
        refine W.run Dk 2 101 (by kernel_rfl) ?_
        (revert hv290; refine cR (fun hc293 hv290 => ?_) (fun hc293 hv290 => ?_))
        ·refine W.is 118 hc293 (by kernel_rfl) ?_
         refine W.run Dk 27 101 (by kernel_rfl) ?_
         have hv290 := Option.some.inj hv290
         subst hv290
         exact W.fs [] [6] (by kernel_rfl)
        refine W.is 118 hc293 (by kernel_rfl) ?_
        refine W.run Dk 4 101 (by kernel_rfl) ?_
        (revert hv290; refine cR (fun hc294 hv290 => ?_) (fun hc294 hv290 => ?_))
        ·refine W.is 122 hc294 (by kernel_rfl) ?_
         refine W.run Dk 4 101 (by kernel_rfl) ?_
         (revert hv290; refine cR (fun hc295 hv290 => ?_) (fun hc295 hv290 => ?_))
         ·refine W.is 126 hc295 (by kernel_rfl) ?_
          refine W.run Dk 19 101 (by kernel_rfl) ?_
          have hv290 := Option.some.inj hv290
          subst hv290
          exact W.fs [] [6] (by kernel_rfl)
         refine W.is 126 hc295 (by kernel_rfl) ?_
         refine W.run Dk 4 101 (by kernel_rfl) ?_
         (revert hv290; refine cR (fun hc296 hv290 => ?_) (fun hc296 hv290 => ?_))
         ·refine W.is 130 hc296 (by kernel_rfl) ?_
          refine W.run Dk 2 101 (by kernel_rfl) ?_
          (revert hv290; refine cR (fun hc297 hv290 => ?_) (fun hc297 hv290 => ?_))
          ·refine W.is 132 hc297 (by kernel_rfl) ?_
           refine W.run Dk 3 101 (by kernel_rfl) ?_
           (revert hv290; refine cR (fun hc298 hv290 => ?_) (fun hc298 hv290 => ?_))
           ·refine W.is 135 hc298 (by kernel_rfl) ?_
            refine W.run Dk 10 101 (by kernel_rfl) ?_
            have hv290 := Option.some.inj hv290
            subst hv290
            exact W.fs [] [6] (by kernel_rfl)
           refine W.is 135 hc298 (by kernel_rfl) ?_
           refine W.run Dk 3 101 (by kernel_rfl) ?_
           (revert hv290; refine cR (fun hc299 hv290 => ?_) (fun hc299 hv290 => ?_))
           ·refine W.is 138 hc299 (by kernel_rfl) ?_
            refine W.run Dk 1 101 (by kernel_rfl) ?_
            (revert hv290; refine bR fun r88 hx300 hv290 => ?_)
            refine W.call0 (ms_IsExpr_ok a2 hx300) cok81 rfl (by kernel_rfl) ?_
            refine W.run Dk 5 101 (by kernel_rfl) ?_
            have hv290 := Option.some.inj hv290
            subst hv290
            exact W.fs [] [6] (by kernel_rfl)
           refine W.is 138 hc299 (by kernel_rfl) ?_
           refine W.run Dk 7 101 (by kernel_rfl) ?_
           have hv290 := Option.some.inj hv290
           subst hv290
           exact W.fs [] [6] (by kernel_rfl)
          refine W.is 132 hc297 (by kernel_rfl) ?_
          refine W.run Dk 6 101 (by kernel_rfl) ?_
          (revert hv290; refine cR (fun hc301 hv290 => ?_) (fun hc301 hv290 => ?_))
          ·refine W.is 138 hc301 (by kernel_rfl) ?_
           refine W.run Dk 1 101 (by kernel_rfl) ?_
           (revert hv290; refine bR fun r89 hx302 hv290 => ?_)
           refine W.call0 (ms_IsExpr_ok a2 hx302) cok81 rfl (by kernel_rfl) ?_
           refine W.run Dk 5 101 (by kernel_rfl) ?_
           have hv290 := Option.some.inj hv290
           subst hv290
           exact W.fs [] [6] (by kernel_rfl)
          refine W.is 138 hc301 (by kernel_rfl) ?_
          refine W.run Dk 7 101 (by kernel_rfl) ?_
          have hv290 := Option.some.inj hv290
          subst hv290
          exact W.fs [] [6] (by kernel_rfl)
         refine W.is 130 hc296 (by kernel_rfl) ?_
         refine W.run Dk 15 101 (by kernel_rfl) ?_
         have hv290 := Option.some.inj hv290
         subst hv290
         exact W.fs [] [6] (by kernel_rfl)
        refine W.is 122 hc294 (by kernel_rfl) ?_
        refine W.run Dk 8 101 (by kernel_rfl) ?_
        (revert hv290; refine cR (fun hc303 hv290 => ?_) (fun hc303 hv290 => ?_))
        ·refine W.is 130 hc303 (by kernel_rfl) ?_
         refine W.run Dk 2 101 (by kernel_rfl) ?_
         (revert hv290; refine cR (fun hc304 hv290 => ?_) (fun hc304 hv290 => ?_))
         ·refine W.is 132 hc304 (by kernel_rfl) ?_
          refine W.run Dk 3 101 (by kernel_rfl) ?_
          (revert hv290; refine cR (fun hc305 hv290 => ?_) (fun hc305 hv290 => ?_))
          ·refine W.is 135 hc305 (by kernel_rfl) ?_
           refine W.run Dk 10 101 (by kernel_rfl) ?_
           have hv290 := Option.some.inj hv290
           subst hv290
           exact W.fs [] [6] (by kernel_rfl)
          refine W.is 135 hc305 (by kernel_rfl) ?_
          refine W.run Dk 3 101 (by kernel_rfl) ?_
          (revert hv290; refine cR (fun hc306 hv290 => ?_) (fun hc306 hv290 => ?_))
          ·refine W.is 138 hc306 (by kernel_rfl) ?_
           refine W.run Dk 1 101 (by kernel_rfl) ?_
           (revert hv290; refine bR fun r90 hx307 hv290 => ?_)
           refine W.call0 (ms_IsExpr_ok a2 hx307) cok81 rfl (by kernel_rfl) ?_
           refine W.run Dk 5 101 (by kernel_rfl) ?_
           have hv290 := Option.some.inj hv290
           subst hv290
           exact W.fs [] [6] (by kernel_rfl)
          refine W.is 138 hc306 (by kernel_rfl) ?_
          refine W.run Dk 7 101 (by kernel_rfl) ?_
          have hv290 := Option.some.inj hv290
          subst hv290
          exact W.fs [] [6] (by kernel_rfl)
         refine W.is 132 hc304 (by kernel_rfl) ?_
         refine W.run Dk 6 101 (by kernel_rfl) ?_
         (revert hv290; refine cR (fun hc308 hv290 => ?_) (fun hc308 hv290 => ?_))
         ·refine W.is 138 hc308 (by kernel_rfl) ?_
          refine W.run Dk 1 101 (by kernel_rfl) ?_
          (revert hv290; refine bR fun r91 hx309 hv290 => ?_)
          refine W.call0 (ms_IsExpr_ok a2 hx309) cok81 rfl (by kernel_rfl) ?_
          refine W.run Dk 5 101 (by kernel_rfl) ?_
          have hv290 := Option.some.inj hv290
          subst hv290
          exact W.fs [] [6] (by kernel_rfl)
         refine W.is 138 hc308 (by kernel_rfl) ?_
         refine W.run Dk 7 101 (by kernel_rfl) ?_
         have hv290 := Option.some.inj hv290
         subst hv290
         exact W.fs [] [6] (by kernel_rfl)
        refine W.is 130 hc303 (by kernel_rfl) ?_
        refine W.run Dk 15 101 (by kernel_rfl) ?_
        have hv290 := Option.some.inj hv290
        subst hv290
        exact W.fs [] [6] (by kernel_rfl)
       refine W.is 114 hc291 (by kernel_rfl) ?_
       refine W.run Dk 8 101 (by kernel_rfl) ?_
       (revert hv290; refine cR (fun hc310 hv290 => ?_) (fun hc310 hv290 => ?_))
       ·refine W.is 122 hc310 (by kernel_rfl) ?_
        refine W.run Dk 4 101 (by kernel_rfl) ?_
        (revert hv290; refine cR (fun hc311 hv290 => ?_) (fun hc311 hv290 => ?_))
        ·refine W.is 126 hc311 (by kernel_rfl) ?_
         refine W.run Dk 19 101 (by kernel_rfl) ?_
         have hv290 := Option.some.inj hv290
         subst hv290
         exact W.fs [] [6] (by kernel_rfl)
        refine W.is 126 hc311 (by kernel_rfl) ?_
        refine W.run Dk 4 101 (by kernel_rfl) ?_
        (revert hv290; refine cR (fun hc312 hv290 => ?_) (fun hc312 hv290 => ?_))
        ·refine W.is 130 hc312 (by kernel_rfl) ?_
         refine W.run Dk 2 101 (by kernel_rfl) ?_
         (revert hv290; refine cR (fun hc313 hv290 => ?_) (fun hc313 hv290 => ?_))
         ·refine W.is 132 hc313 (by kernel_rfl) ?_
          refine W.run Dk 3 101 (by kernel_rfl) ?_
          (revert hv290; refine cR (fun hc314 hv290 => ?_) (fun hc314 hv290 => ?_))
          ·refine W.is 135 hc314 (by kernel_rfl) ?_
           refine W.run Dk 10 101 (by kernel_rfl) ?_
           have hv290 := Option.some.inj hv290
           subst hv290
           exact W.fs [] [6] (by kernel_rfl)
          refine W.is 135 hc314 (by kernel_rfl) ?_
          refine W.run Dk 3 101 (by kernel_rfl) ?_
          (revert hv290; refine cR (fun hc315 hv290 => ?_) (fun hc315 hv290 => ?_))
          ·refine W.is 138 hc315 (by kernel_rfl) ?_
           refine W.run Dk 1 101 (by kernel_rfl) ?_
           (revert hv290; refine bR fun r92 hx316 hv290 => ?_)
           refine W.call0 (ms_IsExpr_ok a2 hx316) cok81 rfl (by kernel_rfl) ?_
           refine W.run Dk 5 101 (by kernel_rfl) ?_
           have hv290 := Option.some.inj hv290
           subst hv290
           exact W.fs [] [6] (by kernel_rfl)
          refine W.is 138 hc315 (by kernel_rfl) ?_
          refine W.run Dk 7 101 (by kernel_rfl) ?_
          have hv290 := Option.some.inj hv290
          subst hv290
          exact W.fs [] [6] (by kernel_rfl)
         refine W.is 132 hc313 (by kernel_rfl) ?_
         refine W.run Dk 6 101 (by kernel_rfl) ?_
         (revert hv290; refine cR (fun hc317 hv290 => ?_) (fun hc317 hv290 => ?_))
         ·refine W.is 138 hc317 (by kernel_rfl) ?_
          refine W.run Dk 1 101 (by kernel_rfl) ?_
          (revert hv290; refine bR fun r93 hx318 hv290 => ?_)
          refine W.call0 (ms_IsExpr_ok a2 hx318) cok81 rfl (by kernel_rfl) ?_
          refine W.run Dk 5 101 (by kernel_rfl) ?_
          have hv290 := Option.some.inj hv290
          subst hv290
          exact W.fs [] [6] (by kernel_rfl)
         refine W.is 138 hc317 (by kernel_rfl) ?_
         refine W.run Dk 7 101 (by kernel_rfl) ?_
         have hv290 := Option.some.inj hv290
         subst hv290
         exact W.fs [] [6] (by kernel_rfl)
        refine W.is 130 hc312 (by kernel_rfl) ?_
        refine W.run Dk 15 101 (by kernel_rfl) ?_
        have hv290 := Option.some.inj hv290
        subst hv290
        exact W.fs [] [6] (by kernel_rfl)
       refine W.is 122 hc310 (by kernel_rfl) ?_
       refine W.run Dk 8 101 (by kernel_rfl) ?_
       (revert hv290; refine cR (fun hc319 hv290 => ?_) (fun hc319 hv290 => ?_))
       ·refine W.is 130 hc319 (by kernel_rfl) ?_
        refine W.run Dk 2 101 (by kernel_rfl) ?_
        (revert hv290; refine cR (fun hc320 hv290 => ?_) (fun hc320 hv290 => ?_))
        ·refine W.is 132 hc320 (by kernel_rfl) ?_
         refine W.run Dk 3 101 (by kernel_rfl) ?_
         (revert hv290; refine cR (fun hc321 hv290 => ?_) (fun hc321 hv290 => ?_))
         ·refine W.is 135 hc321 (by kernel_rfl) ?_
          refine W.run Dk 10 101 (by kernel_rfl) ?_
          have hv290 := Option.some.inj hv290
          subst hv290
          exact W.fs [] [6] (by kernel_rfl)
         refine W.is 135 hc321 (by kernel_rfl) ?_
         refine W.run Dk 3 101 (by kernel_rfl) ?_
         (revert hv290; refine cR (fun hc322 hv290 => ?_) (fun hc322 hv290 => ?_))
         ·refine W.is 138 hc322 (by kernel_rfl) ?_
          refine W.run Dk 1 101 (by kernel_rfl) ?_
          (revert hv290; refine bR fun r94 hx323 hv290 => ?_)
          refine W.call0 (ms_IsExpr_ok a2 hx323) cok81 rfl (by kernel_rfl) ?_
          refine W.run Dk 5 101 (by kernel_rfl) ?_
          have hv290 := Option.some.inj hv290
          subst hv290
          exact W.fs [] [6] (by kernel_rfl)
         refine W.is 138 hc322 (by kernel_rfl) ?_
         refine W.run Dk 7 101 (by kernel_rfl) ?_
         have hv290 := Option.some.inj hv290
         subst hv290
         exact W.fs [] [6] (by kernel_rfl)
        refine W.is 132 hc320 (by kernel_rfl) ?_
        refine W.run Dk 6 101 (by kernel_rfl) ?_
        (revert hv290; refine cR (fun hc324 hv290 => ?_) (fun hc324 hv290 => ?_))
        ·refine W.is 138 hc324 (by kernel_rfl) ?_
         refine W.run Dk 1 101 (by kernel_rfl) ?_
         (revert hv290; refine bR fun r95 hx325 hv290 => ?_)
         refine W.call0 (ms_IsExpr_ok a2 hx325) cok81 rfl (by kernel_rfl) ?_
         refine W.run Dk 5 101 (by kernel_rfl) ?_
         have hv290 := Option.some.inj hv290
         subst hv290
         exact W.fs [] [6] (by kernel_rfl)
        refine W.is 138 hc324 (by kernel_rfl) ?_
        refine W.run Dk 7 101 (by kernel_rfl) ?_
        have hv290 := Option.some.inj hv290
        subst hv290
        exact W.fs [] [6] (by kernel_rfl)
       refine W.is 130 hc319 (by kernel_rfl) ?_
       refine W.run Dk 15 101 (by kernel_rfl) ?_
       have hv290 := Option.some.inj hv290
       subst hv290
       exact W.fs [] [6] (by kernel_rfl)
       ) ?_
      refine CO.ret ?_
      have h249 := Option.some.inj h249
      subst h249
      exact Ends.gen [] (.inr rfl) (RetV.one rfl (OneR.t (t := 6) (r := V.b y86) (by kernel_rfl))) (by kernel_rfl) (by kernel_rfl) (by kernel_rfl)
     refine CO.ifF hc254 (by kernel_rfl) ?_
     refine cu Dk mix 2 101 (tl 184 [(1, V.i a1), (2, V.i a2), (7, V.b (a1 == (IntKind.wrap .i64 ((a0.Kids.length : Int) - 1)))), (8, V.b (a2 == 33)), (18, V.i a0.Kind), (145, V.b (a0.Kind == 43))]) [] (by kernel_rfl) ?_
     (revert h249; refine cR (fun hc326 h249 => ?_) (fun hc326 h249 => ?_))
     ·refine CO.ifT hc326 (by kernel_rfl) ?_
      (revert h249; refine bR fun y97 hv332 h249 => ?_)
      refine CO.cutR (tl 184 [(6, V.b y97)]) [] mix (by
       refine W.run Dk 3 101 (by kernel_rfl) ?_
       (revert hv332; refine cR (fun hc333 hv332 => ?_) (fun hc333 hv332 => ?_))
       ·refine W.is 149 hc333 (by kernel_rfl) ?_
        refine W.run Dk 1 101 (by kernel_rfl) ?_
        (revert hv332; refine bR fun r98 hx334 hv332 => ?_)
        refine W.call0 (ms_IsExpr_ok a2 hx334) cok81 rfl (by kernel_rfl) ?_
        refine W.run Dk 2 101 (by kernel_rfl) ?_
        (revert hv332; refine cR (fun hc335 hv332 => ?_) (fun hc335 hv332 => ?_))
        ·refine W.is 153 hc335 (by kernel_rfl) ?_
         refine W.run Dk 7 101 (by kernel_rfl) ?_
         have hv332 := Option.some.inj hv332
         subst hv332
         exact W.fs [] [6] (by kernel_rfl)
        refine W.is 153 hc335 (by kernel_rfl) ?_
        refine W.run Dk 3 101 (by kernel_rfl) ?_
        (revert hv332; refine cR (fun hc336 hv332 => ?_) (fun hc336 hv332 => ?_))
        ·refine W.is 156 hc336 (by kernel_rfl) ?_
         refine W.run Dk 4 101 (by kernel_rfl) ?_
         have hv332 := Option.some.inj hv332
         subst hv332
         exact W.fs [] [6] (by kernel_rfl)
        refine W.is 156 hc336 (by kernel_rfl) ?_
        refine W.run Dk 4 101 (by kernel_rfl) ?_
        have hv332 := Option.some.inj hv332
        subst hv332
        exact W.fs [] [6] (by kernel_rfl)
       refine W.is 149 hc333 (by kernel_rfl) ?_
       refine W.run Dk 7 101 (by kernel_rfl) ?_
       (revert hv332; refine cR (fun hc337 hv332 => ?_) (fun hc337 hv332 => ?_))
       ·refine W.is 156 hc337 (by kernel_rfl) ?_
        refine W.run Dk 4 101 (by kernel_rfl) ?_
        have hv332 := Option.some.inj hv332
        subst hv332
        exact W.fs [] [6] (by kernel_rfl)
       refine W.is 156 hc337 (by kernel_rfl) ?_
       refine W.run Dk 4 101 (by kernel_rfl) ?_
       have hv332 := Option.some.inj hv332
       subst hv332
       exact W.fs [] [6] (by kernel_rfl)
       ) ?_
      refine CO.ret ?_
      have h249 := Option.some.inj h249
      subst h249
      exact Ends.gen [] (.inr rfl) (RetV.one rfl (OneR.t (t := 6) (r := V.b y97) (by kernel_rfl))) (by kernel_rfl) (by kernel_rfl) (by kernel_rfl)
     refine CO.ifF hc326 (by kernel_rfl) ?_
     refine cu Dk mix 2 101 (tl 184 [(2, V.i a2), (7, V.b (a1 == (IntKind.wrap .i64 ((a0.Kids.length : Int) - 1)))), (8, V.b (a2 == 33)), (18, V.i a0.Kind), (160, V.b (a0.Kind == 44))]) [] (by kernel_rfl) ?_
     (revert h249; refine cR (fun hc338 h249 => ?_) (fun hc338 h249 => ?_))
     ·refine CO.ifT hc338 (by kernel_rfl) ?_
      (revert h249; refine bR fun y99 hv343 h249 => ?_)
      refine CO.cutR (tl 184 [(6, V.b y99)]) [] mix (by
       refine W.run Dk 2 101 (by kernel_rfl) ?_
       (revert hv343; refine cR (fun hc344 hv343 => ?_) (fun hc344 hv343 => ?_))
       ·refine W.is 163 hc344 (by kernel_rfl) ?_
        refine W.run Dk 3 101 (by kernel_rfl) ?_
        (revert hv343; refine cR (fun hc345 hv343 => ?_) (fun hc345 hv343 => ?_))
        ·refine W.is 166 hc345 (by kernel_rfl) ?_
         refine W.run Dk 8 101 (by kernel_rfl) ?_
         have hv343 := Option.some.inj hv343
         subst hv343
         exact W.fs [] [6] (by kernel_rfl)
        refine W.is 166 hc345 (by kernel_rfl) ?_
        refine W.run Dk 3 101 (by kernel_rfl) ?_
        (revert hv343; refine cR (fun hc346 hv343 => ?_) (fun hc346 hv343 => ?_))
        ·refine W.is 169 hc346 (by kernel_rfl) ?_
         refine W.run Dk 5 101 (by kernel_rfl) ?_
         have hv343 := Option.some.inj hv343
         subst hv343
         exact W.fs [] [6] (by kernel_rfl)
        refine W.is 169 hc346 (by kernel_rfl) ?_
        refine W.run Dk 5 101 (by kernel_rfl) ?_
        have hv343 := Option.some.inj hv343
        subst hv343
        exact W.fs [] [6] (by kernel_rfl)
       refine W.is 163 hc344 (by kernel_rfl) ?_
       refine W.run Dk 6 101 (by kernel_rfl) ?_
       (revert hv343; refine cR (fun hc347 hv343 => ?_) (fun hc347 hv343 => ?_))
       ·refine W.is 169 hc347 (by kernel_rfl) ?_
        refine W.run Dk 5 101 (by kernel_rfl) ?_
        have hv343 := Option.some.inj hv343
        subst hv343
        exact W.fs [] [6] (by kernel_rfl)
       refine W.is 169 hc347 (by kernel_rfl) ?_
       refine W.run Dk 5 101 (by kernel_rfl) ?_
       have hv343 := Option.some.inj hv343
       subst hv343
       exact W.fs [] [6] (by kernel_rfl)
       ) ?_
      refine CO.ret ?_
      have h249 := Option.some.inj h249
      subst h249
      exact Ends.gen [] (.inr rfl) (RetV.one rfl (OneR.t (t := 6) (r := V.b y99) (by kernel_rfl))) (by kernel_rfl) (by kernel_rfl) (by kernel_rfl)
     refine CO.ifF hc338 (by kernel_rfl) ?_
     refine cu Dk mix 2 101 (tl 184 [(2, V.i a2), (174, V.b (a0.Kind == 45))]) [] (by kernel_rfl) ?_
     (revert h249; refine cR (fun hc348 h249 => ?_) (fun hc348 h249 => ?_))
     ·refine CO.ifT hc348 (by kernel_rfl) ?_
      (revert h249; refine bR fun y101 hv351 h249 => ?_)
      refine CO.cutR (tl 184 [(6, V.b y101)]) [] mix (by
       refine W.run Dk 1 101 (by kernel_rfl) ?_
       (revert hv351; refine bR fun r102 hx352 hv351 => ?_)
       refine W.call0 (ms_l1In_ok a2 40 44 hx352) cok51 rfl (by kernel_rfl) ?_
       refine W.run Dk 1 101 (by kernel_rfl) ?_
       (revert hv351; refine cR (fun hc353 hv351 => ?_) (fun hc353 hv351 => ?_))
       ·refine W.is 178 hc353 (by kernel_rfl) ?_
        refine W.run Dk 4 101 (by kernel_rfl) ?_
        have hv351 := Option.some.inj hv351
        subst hv351
        exact W.fs [] [6] (by kernel_rfl)
       refine W.is 178 hc353 (by kernel_rfl) ?_
       refine W.run Dk 4 101 (by kernel_rfl) ?_
       have hv351 := Option.some.inj hv351
       subst hv351
       exact W.fs [] [6] (by kernel_rfl)
       ) ?_
      refine CO.ret ?_
      have h249 := Option.some.inj h249
      subst h249
      exact Ends.gen [] (.inr rfl) (RetV.one rfl (OneR.t (t := 6) (r := V.b y101) (by kernel_rfl))) (by kernel_rfl) (by kernel_rfl) (by kernel_rfl)
     refine CO.ifF hc348 (by kernel_rfl) ?_
     refine CO.skip ?_
     (revert h249; refine bR fun r104 hx355 h249 => ?_)
     refine CO.cutR (tl 184 [(6, V.b r104)]) [] mix (by
      refine W.run Dk 1 101 (by kernel_rfl) ?_
      refine W.call0 (ms_IsExpr_ok a2 hx355) cok81 rfl (by kernel_rfl) ?_
      refine W.run Dk 1 101 (by kernel_rfl) ?_
      exact W.fi (by kernel_rfl)
      ) ?_
     refine CO.ret ?_
     have h249 := Option.some.inj h249
     subst h249
     exact Ends.gen [] (.inr rfl) (RetV.one rfl (OneR.t (t := 6) (r := V.b r104) (by kernel_rfl))) (by kernel_rfl) (by kernel_rfl) (by kernel_rfl)
   intro hk356
   refine cu Dk mix 2 101 (tl 184 [(1, V.i a1), (2, V.i a2), (3, .loc 100 0), (7, V.b (a1 == (IntKind.wrap .i64 ((a0.Kids.length : Int) - 1)))), (8, V.b (a2 == 33)), (18, V.i a0.Kind), (100, V.b (a0.Kind == 32))]) [(100, .cells 48 [V.i a0.Kind, V.i a0.Op, V.s a0.Text, V.s a0.Other, .sl false false (a0.Kids.map encI)])] (by kernel_rfl) ?_
   (revert h181; refine cR (fun hc357 h181 => ?_) (fun hc357 h181 => ?_))
   ·refine CO.ifT hc357 (by kernel_rfl) ?_
    refine CO.skip ?_
    exact hk356 (a1, a2, a0, (a0.Kind == 32)) h181 _ (Weak.sel [(100, 100)] [1, 2, 3, 7, 8, 18, 100] (by kernel_rfl) (by kernel_rfl) (by kernel_rfl))
   refine CO.ifF hc357 (by kernel_rfl) ?_
   refine cu Dk mix 2 101 (tl 184 [(1, V.i a1), (2, V.i a2), (3, .loc 100 0), (7, V.b (a1 == (IntKind.wrap .i64 ((a0.Kids.length : Int) - 1)))), (8, V.b (a2 == 33)), (18, V.i a0.Kind), (100, V.b (a0.Kind == 40))]) [(100, .cells 48 [V.i a0.Kind, V.i a0.Op, V.s a0.Text, V.s a0.Other, .sl false false (a0.Kids.map encI)])] (by kernel_rfl) ?_
   (revert h181; refine cR (fun hc358 h181 => ?_) (fun hc358 h181 => ?_))
   ·refine CO.ifT hc358 (by kernel_rfl) ?_
    refine CO.skip ?_
    exact hk356 (a1, a2, a0, (a0.Kind == 40)) h181 _ (Weak.sel [(100, 100)] [1, 2, 3, 7, 8, 18, 100] (by kernel_rfl) (by kernel_rfl) (by kernel_rfl))
   refine CO.ifF hc358 (by kernel_rfl) ?_
   refine ce Dk mix 2 101 (tl 184 [(1, V.i a1), (2, V.i a2), (3, .loc 100 0), (7, V.b (a1 == (IntKind.wrap .i64 ((a0.Kids.length : Int) - 1)))), (8, V.b (a2 == 33)), (18, V.i a0.Kind), (100, V.b (a0.Kind == 41))]) [(100, .cells 48 [V.i a0.Kind, V.i a0.Op, V.s a0.Text, V.s a0.Other, .sl false false (a0.Kids.map encI)])] (by kernel_rfl) (fun st hw => ?_)
   exact hk356 (a1, a2, a0, (a0.Kind == 41)) h181 _ (hw.trans (Weak.sel [(100, 100)] [1, 2, 3, 7, 8, 18, 100] (by kernel_rfl) (by kernel_rfl) (by kernel_rfl)))
 intro hk359
 refine cu Dk mix 2 101 (tl 184 [(1, V.i a1), (2, V.i a2), (3, .loc 100 0), (7, V.b (a1 == (IntKind.wrap .i64 ((a0.Kids.length : Int) - 1)))), (8, V.b (a2 == 33)), (18, V.i a0.Kind), (19, V.b (a0.Kind == 9))]) [(100, .cells 48 [V.i a0.Kind, V.i a0.Op, V.s a0.Text, V.s a0.Other, .sl false false (a0.Kids.map encI)])] (by kernel_rfl) ?_
 (revert h; refine cR (fun hc360 h => ?_) (fun hc360 h => ?_))
 ·refine CO.ifT hc360 (by kernel_rfl) ?_
  refine CO.skip ?_
  exact hk359 (a1, a2, a0, (a0.Kind == 9)) h _ (Weak.sel [(100, 100)] [1, 2, 3, 7, 8, 18, 19] (by kernel_rfl) (by kernel_rfl) (by kernel_rfl))
 refine CO.ifF hc360 (by kernel_rfl) ?_
 refine ce Dk mix 2 101 (tl 184 [(1, V.i a1), (2, V.i a2), (3, .loc 100 0), (7, V.b (a1 == (IntKind.wrap .i64 ((a0.Kids.length : Int) - 1)))), (8, V.b (a2 == 33)), (18, V.i a0.Kind), (19, V.b (a0.Kind == 10))]) [(100, .cells 48 [V.i a0.Kind, V.i a0.Op, V.s a0.Text, V.s a0.Other, .sl false false (a0.Kids.map encI)])] (by kernel_rfl) (fun st hw => ?_)
 exact hk359 (a1, a2, a0, (a0.Kind == 10)) h _ (hw.trans (Weak.sel [(100, 100)] [1, 2, 3, 7, 8, 18, 19] (by kernel_rfl) (by kernel_rfl) (by kernel_rfl)))

theorem ms_TreeOk_ok (N : Nat) (a0 : List SNode) {r : Bool} (h : ms_TreeOk N a0 = some r) :
    AC Tryz.prog (GS []) 32 [.sl false false (a0.map (eSN false))] [] (V.b r) [] := by
 rw [ms_TreeOk] at h
 refine AC.enter Tryz.func32 rfl ?_
 refine cu Dk mix 1 100 (tl 54 [(0, .sl false false (a0.map (eSN false)))]) [] (by kernel_rfl) ?_
 refine CO.seq' ?_
 (revert h; refine bR fun y8 hv12 h => ?_)
 refine CO.cutR (tl 54 [(0, .sl false false (a0.map (eSN false))), (12, V.b y8)]) [] mix (by
  refine W.run Dk 1 100 (by kernel_rfl) ?_
  (revert hv12; refine bR fun r9 hx13 hv12 => ?_)
  refine W.call0 (ms_ShapeOk_ok N a0 hx13) cok68 rfl (by kernel_rfl) ?_
  refine W.run Dk 2 100 (by kernel_rfl) ?_
  (revert hv12; refine cR (fun hc14 hv12 => ?_) (fun hc14 hv12 => ?_))
  ·refine W.is 8 hc14 (by kernel_rfl) ?_
   refine W.run Dk 4 100 (by kernel_rfl) ?_
   have hv12 := Option.some.inj hv12
   subst hv12
   exact W.fs [] [0, 12] (by kernel_rfl)
  refine W.is 8 hc14 (by kernel_rfl) ?_
  refine W.run Dk 1 100 (by kernel_rfl) ?_
  (revert hv12; refine bR fun r10 hx15 hv12 => ?_)
  refine W.call0 (ms_DepthOf_ok N a0 hx15) cok69 rfl (by kernel_rfl) ?_
  refine W.run Dk 2 100 (by kernel_rfl) ?_
  have hv12 := Option.some.inj hv12
  subst hv12
  exact W.fs [] [0, 12] (by kernel_rfl)
  ) ?_
 (revert h; refine cR (fun hc16 h => ?_) (fun hc16 h => ?_))
 ·refine CO.ifT hc16 (by kernel_rfl) ?_
  refine cu Dk mix 1 100 (tl 54 [(2, V.b false)]) [] (by kernel_rfl) ?_
  refine CO.ret ?_
  have h := Option.some.inj h
  subst h
  exact Ends.gen [] (.inr rfl) (RetV.one rfl (OneR.t (t := 2) (r := V.b false) (by kernel_rfl))) (by kernel_rfl) (by kernel_rfl) (by kernel_rfl)
 refine CO.ifF hc16 (by kernel_rfl) ?_
 refine CO.skip ?_
 refine CO.seq' ?_
 refine cu Dk mix 1 100 (tl 54 [(0, .sl false false (a0.map (eSN false))), (3, V.i 0)]) [] (by kernel_rfl) ?_
 refine CO.block' ?_
 refine CO.loopJ (fun (⟨a0, y669⟩ : ((List SNode) × Int)) => ⟨tl 54 [(0, .sl false false (a0.map (eSN false))), (3, V.i y669)], []⟩) (fun n i => ms_TreeOk_l1 N n i = some r) (n0 := N) (i0 := (a0, 0)) (Weak.sel [] [0, 3] (by kernel_rfl) (by kernel_rfl) (by kernel_rfl)) h (fun i h => by simp [ms_TreeOk_l1] at h) ?_
 rintro n1 ⟨a0, y669⟩ h989 ih990
 rw [ms_TreeOk_l1] at h989
 refine CO.seq' ?_
 refine CO.cutR (tl 54 [(0, .sl false false (a0.map (eSN false))), (3, V.i y669), (16, V.b (decide (y669 < (a0.length : Int))))]) [] mix (by
  refine W.run Dk 2 280 (by kernel_rfl) ?_
  refine W.len Dk (eSN false) a0 [] (by kernel_rfl) (by kernel_rfl) ?_
  refine W.run Dk 1 280 (by kernel_rfl) ?_
  exact W.fi (by kernel_rfl)
  ) ?_
 (revert h989; refine cR (fun hc992 h989 => ?_) (fun hc992 h989 => ?_))
 ·refine CO.ifT hc992 (by kernel_rfl) ?_
  refine CO.skip ?_
  refine CO.seq' ?_
  refine CO.block' ?_
  refine CO.seq' ?_
  (revert h989; refine bR fun e923 hx1096 h989 => ?_)
  (revert h989; refine bR fun r924 hx1097 h989 => ?_)
  refine CO.cutR (tl 54 [(0, .sl false false (a0.map (eSN false))), (3, V.i y669), (24, V.b (!r924))]) [] mix (by
   refine W.run Dk 2 280 (by kernel_rfl) ?_
   refine W.ixD Dk (eSN false) hx1096 5 (by kernel_rfl) (by kernel_rfl) ?_
   refine W.run Dk 1 280 (by kernel_rfl) ?_
   refine W.call0 (ms_FieldsOk_ok N e923 hx1097) cok70 rfl (by kernel_rfl) ?_
   refine W.run Dk 1 280 (by kernel_rfl) ?_
   exact W.fi (by kernel_rfl)
   ) ?_
  (revert h989; refine cR (fun hc1098 h989 => ?_) (fun hc1098 h989 => ?_))
  ·refine CO.ifT hc1098 (by kernel_rfl) ?_
   refine cu Dk mix 1 280 (tl 54 [(2, V.b false)]) [] (by kernel_rfl) ?_
   refine CO.ret ?_
   have h989 := Option.some.inj h989
   subst h989
   exact Ends.gen [] (.inr rfl) (RetV.one rfl (OneR.t (t := 2) (r := V.b false) (by kernel_rfl))) (by kernel_rfl) (by kernel_rfl) (by kernel_rfl)
  refine CO.ifF hc1098 (by kernel_rfl) ?_
  refine CO.skip ?_
  refine cu Dk mix 1 280 (tl 54 [(0, .sl false false (a0.map (eSN false))), (3, V.i y669), (4, V.i 0)]) [] (by kernel_rfl) ?_
  refine CO.block' ?_
  refine CO.loopJ (fun (⟨a0, y669, y949⟩ : ((List SNode) × Int × Int)) => ⟨tl 54 [(0, .sl false false (a0.map (eSN false))), (3, V.i y669), (4, V.i y949)], []⟩) (fun n i => ms_TreeOk_l2 N (ms_TreeOk_l1 N n1) n i = some r) (n0 := N) (i0 := (a0, y669, 0)) (Weak.sel [] [0, 3, 4] (by kernel_rfl) (by kernel_rfl) (by kernel_rfl)) h989 (fun i h => by simp [ms_TreeOk_l2] at h) ?_
  rintro n2 ⟨a0, y669, y949⟩ h1155 ih1156
  rw [ms_TreeOk_l2] at h1155
  refine CO.seq' ?_
  (revert h1155; refine bR fun e978 hx1161 h1155 => ?_)
  refine CO.cutR (tl 54 [(0, .sl false false (a0.map (eSN false))), (3, V.i y669), (4, V.i y949), (32, V.b (decide (y949 < (e978.Kids.length : Int))))]) [] mix (by
   refine W.run Dk 3 340 (by kernel_rfl) ?_
   refine W.ixD Dk (eSN false) hx1161 5 (by kernel_rfl) (by kernel_rfl) ?_
   refine W.run Dk 2 340 (by kernel_rfl) ?_
   refine W.len Dk encI e978.Kids [] (by kernel_rfl) (by kernel_rfl) ?_
   refine W.run Dk 1 340 (by kernel_rfl) ?_
   exact W.fi (by kernel_rfl)
   ) ?_
  (revert h1155; refine cR (fun hc1162 h1155 => ?_) (fun hc1162 h1155 => ?_))
  ·refine CO.ifT hc1162 (by kernel_rfl) ?_
   refine CO.skip ?_
   refine CO.seq' ?_
   refine CO.block' ?_
   (revert h1155; refine bR fun e994 hx1179 h1155 => ?_)
   (revert h1155; refine bR fun e995 hx1180 h1155 => ?_)
   (revert h1155; refine bR fun e996 hx1181 h1155 => ?_)
   (revert h1155; refine bR fun e997 hx1182 h1155 => ?_)
   (revert h1155; refine bR fun r998 hx1183 h1155 => ?_)
   refine CO.cutR (tl 54 [(0, .sl false false (a0.map (eSN false))), (3, V.i y669), (4, V.i y949), (53, V.b (!r998))]) [] mix (by
    refine W.run Dk 2 340 (by kernel_rfl) ?_
    refine W.ixD Dk (eSN false) hx1179 5 (by kernel_rfl) (by kernel_rfl) ?_
    refine W.run Dk 5 340 (by kernel_rfl) ?_
    refine W.ixD Dk (eSN false) hx1180 5 (by kernel_rfl) (by kernel_rfl) ?_
    refine W.run Dk 3 340 (by kernel_rfl) ?_
    refine W.ixD Dk encI hx1181 1 (by kernel_rfl) (by kernel_rfl) ?_
    refine W.run Dk 1 340 (by kernel_rfl) ?_
    refine W.ixD Dk (eSN false) hx1182 5 (by kernel_rfl) (by kernel_rfl) ?_
    refine W.run Dk 2 340 (by kernel_rfl) ?_
    refine W.call0 (ms_l7Kid_ok e994 y949 e997.Kind hx1183) cok71 rfl (by kernel_rfl) ?_
    refine W.run Dk 1 340 (by kernel_rfl) ?_
    exact W.fi (by kernel_rfl)
    ) ?_
   (revert h1155; refine cR (fun hc1184 h1155 => ?_) (fun hc1184 h1155 => ?_))
   ·refine CO.ifT hc1184 (by kernel_rfl) ?_
    refine cu Dk mix 1 340 (tl 54 [(2, V.b false)]) [] (by kernel_rfl) ?_
    refine CO.ret ?_
    have h1155 := Option.some.inj h1155
    subst h1155
    exact Ends.gen [] (.inr rfl) (RetV.one rfl (OneR.t (t := 2) (r := V.b false) (by kernel_rfl))) (by kernel_rfl) (by kernel_rfl) (by kernel_rfl)
   refine CO.ifF hc1184 (by kernel_rfl) ?_
   refine CO.skip ?_
   refine ce Dk mix 3 340 (tl 54 [(0, .sl false false (a0.map (eSN false))), (3, V.i y669), (4, V.i (IntKind.wrap .i64 (y949 + 1)))]) [] (by kernel_rfl) (fun st hw => ?_)
   exact ih1156 (a0, y669, (IntKind.wrap .i64 (y949 + 1))) h1155 _ (hw.trans (Weak.sel [] [0, 3, 4] (by kernel_rfl) (by kernel_rfl) (by kernel_rfl)))
  refine CO.ifF hc1162 (by kernel_rfl) ?_
  refine CO.exit ?_
  refine ce Dk mix 3 340 (tl 54 [(0, .sl false false (a0.map (eSN false))), (3, V.i (IntKind.wrap .i64 (y669 + 1)))]) [] (by kernel_rfl) (fun st hw => ?_)
  exact ih990 (a0, (IntKind.wrap .i64 (y669 + 1))) h1155 _ (hw.trans (Weak.sel [] [0, 3] (by kernel_rfl) (by kernel_rfl) (by kernel_rfl)))
 refine CO.ifF hc992 (by kernel_rfl) ?_
 refine CO.exit ?_
 refine cu Dk mix 1 280 (tl 54 [(2, V.b true)]) [] (by kernel_rfl) ?_
 refine CO.ret ?_
 have h989 := Option.some.inj h989
 subst h989
 exact Ends.gen [] (.inr rfl) (RetV.one rfl (OneR.t (t := 2) (r := V.b true) (by kernel_rfl))) (by kernel_rfl) (by kernel_rfl) (by kernel_rfl)

theorem ms_ExprOk_ok (N : Nat) (a0 : List SNode) {r : Bool} (h : ms_ExprOk N a0 = some r) :
    AC Tryz.prog (GS []) 41 [.sl false false (a0.map (eSN false))] [] (V.b r) [] := by
 rw [ms_ExprOk] at h
 refine AC.enter Tryz.func41 rfl ?_
 refine cu Dk mix 1 100 (tl 15 [(0, .sl false false (a0.map (eSN false)))]) [] (by kernel_rfl) ?_
 (revert h; refine bR fun y4 hv5 h => ?_)
 refine CO.cutR (tl 15 [(2, V.b y4)]) [] mix (by
  refine W.run Dk 1 100 (by kernel_rfl) ?_
  (revert hv5; refine bR fun r5 hx6 hv5 => ?_)
  refine W.call0 (ms_TreeOk_ok N a0 hx6) cok32 rfl (by kernel_rfl) ?_
  refine W.run Dk 1 100 (by kernel_rfl) ?_
  (revert hv5; refine cR (fun hc7 hv5 => ?_) (fun hc7 hv5 => ?_))
  ·refine W.is 5 hc7 (by kernel_rfl) ?_
   refine W.run Dk 2 100 (by kernel_rfl) ?_
   refine W.len Dk (eSN false) a0 [] (by kernel_rfl) (by kernel_rfl) ?_
   refine W.run Dk 1 100 (by kernel_rfl) ?_
   (revert hv5; refine bR fun e6 hx8 hv5 => ?_)
   refine W.ixD Dk (eSN false) hx8 5 (by kernel_rfl) (by kernel_rfl) ?_
   refine W.run Dk 2 100 (by kernel_rfl) ?_
   (revert hv5; refine bR fun r7 hx9 hv5 => ?_)
   refine W.call0 (ms_IsExpr_ok e6.Kind hx9) cok81 rfl (by kernel_rfl) ?_
   refine W.run Dk 2 100 (by kernel_rfl) ?_
   have hv5 := Option.some.inj hv5
   subst hv5
   exact W.fs [] [2] (by kernel_rfl)
  refine W.is 5 hc7 (by kernel_rfl) ?_
  refine W.run Dk 10 100 (by kernel_rfl) ?_
  have hv5 := Option.some.inj hv5
  subst hv5
  exact W.fs [] [2] (by kernel_rfl)
  ) ?_
 refine CO.ret ?_
 have h := Option.some.inj h
 subst h
 exact Ends.gen [] (.inr rfl) (RetV.one rfl (OneR.t (t := 2) (r := V.b y4) (by kernel_rfl))) (by kernel_rfl) (by kernel_rfl) (by kernel_rfl)

theorem ms_IsHole_ok (a0 : SNode) {r : Bool} (h : ms_IsHole a0 = some r) :
    AC Tryz.prog (GS []) 61 [.agg [V.i a0.Kind, V.i a0.Op, V.s a0.Text, V.s a0.Other, .sl false false (a0.Kids.map encI)]] [] (V.b r) [] := by
 rw [ms_IsHole] at h
 refine AC.enter Tryz.func61 rfl ?_
 refine cu Dk mix 2 100 (tl 19 [(1, .loc 100 0)]) [(100, .cells 48 [V.i a0.Kind, V.i a0.Op, V.s a0.Text, V.s a0.Other, .sl false false (a0.Kids.map encI)])] (by kernel_rfl) ?_
 (revert h; refine bR fun y3 hv5 h => ?_)
 refine CO.cutR (tl 19 [(2, V.b y3)]) [] mix (by
  refine W.run Dk 4 101 (by kernel_rfl) ?_
  (revert hv5; refine cR (fun hc6 hv5 => ?_) (fun hc6 hv5 => ?_))
  ·refine W.is 6 hc6 (by kernel_rfl) ?_
   refine W.run Dk 6 101 (by kernel_rfl) ?_
   (revert hv5; refine cR (fun hc7 hv5 => ?_) (fun hc7 hv5 => ?_))
   ·refine W.is 12 hc7 (by kernel_rfl) ?_
    refine W.run Dk 2 101 (by kernel_rfl) ?_
    (revert hv5; refine bR fun b4 hx8 hv5 => ?_)
    refine W.ixS Dk hx8 (by kernel_rfl) ?_
    refine W.run Dk 1 101 (by kernel_rfl) ?_
    (revert hv5; refine bR fun r5 hx9 hv5 => ?_)
    refine W.call0 (ms_l1In_ok (IntKind.wrap .i64 ((b4).toNat : Int)) 97 122 hx9) cok51 rfl (by kernel_rfl) ?_
    refine W.run Dk 2 101 (by kernel_rfl) ?_
    have hv5 := Option.some.inj hv5
    subst hv5
    exact W.fs [] [2] (by kernel_rfl)
   refine W.is 12 hc7 (by kernel_rfl) ?_
   refine W.run Dk 7 101 (by kernel_rfl) ?_
   have hv5 := Option.some.inj hv5
   subst hv5
   exact W.fs [] [2] (by kernel_rfl)
  refine W.is 6 hc6 (by kernel_rfl) ?_
  refine W.run Dk 13 101 (by kernel_rfl) ?_
  have hv5 := Option.some.inj hv5
  subst hv5
  exact W.fs [] [2] (by kernel_rfl)
  ) ?_
 refine CO.ret ?_
 have h := Option.some.inj h
 subst h
 exact Ends.gen [] (.inr rfl) (RetV.one rfl (OneR.t (t := 2) (r := V.b y3) (by kernel_rfl))) (by kernel_rfl) (by kernel_rfl) (by kernel_rfl)

theorem ms_l6Shift_ok (N : Nat) (a0 : List SNode) (a1 : Int) {r : (List SNode)} (h : ms_l6Shift N a0 a1 = some r) :
    AC Tryz.prog (GS []) 90 [.sl false false (a0.map (eSN false)), V.i a1] [] (.own 100) [(100, .vec false 48 5 (r.map (eSN true)))] := by
 rw [ms_l6Shift] at h
 refine AC.enter Tryz.func90 rfl ?_
 refine cu Dk mix 1 100 (tl 52 [(0, .sl false false (a0.map (eSN false))), (1, V.i a1)]) [] (by kernel_rfl) ?_
 refine cu Dk mix 2 100 (tl 52 [(0, .sl false false (a0.map (eSN false))), (1, V.i a1), (5, .own 100)]) [(100, .vec false 48 5 ([].map (eSN true)))] (by kernel_rfl) ?_
 refine CO.seq' ?_
 refine cu Dk mix 1 101 (tl 52 [(0, .sl false false (a0.map (eSN false))), (1, V.i a1), (5, .own 100), (6, V.i 0)]) [(100, .vec false 48 5 ([].map (eSN true)))] (by kernel_rfl) ?_
 refine CO.block' ?_
 refine CO.loopJ (fun (⟨a0, a1, y869, y870⟩ : ((List SNode) × Int × Int × (List SNode))) => ⟨tl 52 [(0, .sl false false (a0.map (eSN false))), (1, V.i a1), (5, .own 100), (6, V.i y869)], [(100, .vec false 48 5 (y870.map (eSN true)))]⟩) (fun n i => ms_l6Shift_l1 N n i = some r) (n0 := N) (i0 := (a0, a1, 0, [])) (Weak.sel [(100, 100)] [0, 1, 5, 6] (by kernel_rfl) (by kernel_rfl) (by kernel_rfl)) h (fun i h => by simp [ms_l6Shift_l1] at h) ?_
 rintro n1 ⟨a0, a1, y869, y870⟩ h1173 ih1174
 rw [ms_l6Shift_l1] at h1173
 refine CO.seq' ?_
 refine CO.cutR (tl 52 [(0, .sl false false (a0.map (eSN false))), (1, V.i a1), (5, .own 100), (6, V.i y869), (13, V.b (decide (y869 < (a0.length : Int))))]) [(100, .vec false 48 5 (y870.map (eSN true)))] mix (by
  refine W.run Dk 2 297 (by kernel_rfl) ?_
  refine W.len Dk (eSN false) a0 [] (by kernel_rfl) (by kernel_rfl) ?_
  refine W.run Dk 1 297 (by kernel_rfl) ?_
  exact W.fi (by kernel_rfl)
  ) ?_
 (revert h1173; refine cR (fun hc1176 h1173 => ?_) (fun hc1176 h1173 => ?_))
 ·refine CO.ifT hc1176 (by kernel_rfl) ?_
  refine CO.skip ?_
  refine CO.seq' ?_
  refine CO.block' ?_
  (revert h1173; refine bR fun e1198 hx1294 h1173 => ?_)
  refine CO.cutR (tl 52 [(0, .sl false false (a0.map (eSN false))), (1, V.i a1), (5, .own 100), (6, V.i y869), (7, .loc 297 0)]) [(297, .cells 48 [V.i e1198.Kind, V.i e1198.Op, V.s e1198.Text, V.s e1198.Other, .sl false false (e1198.Kids.map encI)]), (100, .vec false 48 5 (y870.map (eSN true)))] mix (by
   refine W.run Dk 2 297 (by kernel_rfl) ?_
   refine W.ixD Dk (eSN false) hx1294 5 (by kernel_rfl) (by kernel_rfl) ?_
   refine W.run Dk 3 297 (by kernel_rfl) ?_
   exact W.fi (by kernel_rfl)
   ) ?_
  refine cu Dk mix 3 298 (tl 52 [(0, .sl false false (a0.map (eSN false))), (1, V.i a1), (5, .own 100), (6, V.i y869), (7, .loc 297 0)]) [(297, .cells 48 [V.i e1198.Kind, V.i e1198.Op, V.s e1198.Text, V.s e1198.Other, .own 298]), (298, .vec false 3 1 ([].map encI)), (100, .vec false 48 5 (y870.map (eSN true)))] (by kernel_rfl) ?_
  refine CO.seq' ?_
  refine cu Dk mix 1 299 (tl 52 [(0, .sl false false (a0.map (eSN false))), (1, V.i a1), (5, .own 100), (6, V.i y869), (7, .loc 297 0), (8, V.i 0)]) [(297, .cells 48 [V.i e1198.Kind, V.i e1198.Op, V.s e1198.Text, V.s e1198.Other, .own 298]), (298, .vec false 3 1 ([].map encI)), (100, .vec false 48 5 (y870.map (eSN true)))] (by kernel_rfl) ?_
  refine CO.block' ?_
  refine CO.loopJ (fun (⟨a0, a1, y869, y870, e1198, y1267, y1268⟩ : ((List SNode) × Int × Int × (List SNode) × SNode × Int × (List Int))) => ⟨tl 52 [(0, .sl false false (a0.map (eSN false))), (1, V.i a1), (5, .own 100), (6, V.i y869), (7, .loc 101 0), (8, V.i y1267)], [(100, .vec false 48 5 (y870.map (eSN true))), (101, .cells 48 [V.i e1198.Kind, V.i e1198.Op, V.s e1198.Text, V.s e1198.Other, .own 102]), (102, .vec false 3 1 (y1268.map encI))]⟩) (fun n i => ms_l6Shift_l2 N (ms_l6Shift_l1 N n1) n i = some r) (n0 := N) (i0 := (a0, a1, y869, y870, e1198, 0, [])) (Weak.sel [(100, 100), (297, 101), (298, 102)] [0, 1, 5, 6, 7, 8] (by kernel_rfl) (by kernel_rfl) (by kernel_rfl)) h1173 (fun i h => by simp [ms_l6Shift_l2] at h) ?_
  rintro n2 ⟨a0, a1, y869, y870, e1198, y1267, y1268⟩ h1387 ih1388
  rw [ms_l6Shift_l2] at h1387
  refine CO.seq' ?_
  (revert h1387; refine bR fun e1290 hx1393 h1387 => ?_)
  refine CO.cutR (tl 52 [(0, .sl false false (a0.map (eSN false))), (1, V.i a1), (5, .own 100), (6, V.i y869), (7, .loc 101 0), (8, V.i y1267), (29, V.b (decide (y1267 < (e1290.Kids.length : Int))))]) [(100, .vec false 48 5 (y870.map (eSN true))), (101, .cells 48 [V.i e1198.Kind, V.i e1198.Op, V.s e1198.Text, V.s e1198.Other, .own 102]), (102, .vec false 3 1 (y1268.map encI))] mix (by
   refine W.run Dk 3 363 (by kernel_rfl) ?_
   refine W.ixD Dk (eSN false) hx1393 5 (by kernel_rfl) (by kernel_rfl) ?_
   refine W.run Dk 2 363 (by kernel_rfl) ?_
   refine W.len Dk encI e1290.Kids [] (by kernel_rfl) (by kernel_rfl) ?_
   refine W.run Dk 1 363 (by kernel_rfl) ?_
   exact W.fi (by kernel_rfl)
   ) ?_
  (revert h1387; refine cR (fun hc1394 h1387 => ?_) (fun hc1394 h1387 => ?_))
  ·refine CO.ifT hc1394 (by kernel_rfl) ?_
   refine CO.skip ?_
   refine CO.seq' ?_
   refine CO.block' ?_
   (revert h1387; refine bR fun e1300 hx1404 h1387 => ?_)
   (revert h1387; refine bR fun e1301 hx1405 h1387 => ?_)
   (revert h1387; refine bR fun x1302 hx1406 h1387 => ?_)
   refine CO.endR (tl 52 [(0, .sl false false (a0.map (eSN false))), (1, V.i a1), (5, .own 100), (6, V.i y869), (7, .loc 101 0), (8, V.i y1267)]) [(101, .cells 48 [V.i e1198.Kind, V.i e1198.Op, V.s e1198.Text, V.s e1198.Other, .own 364]), (364, .vec false 3 1 (x1302.map encI)), (100, .vec false 48 5 (y870.map (eSN true)))] mix (by
    refine W.run Dk 4 363 (by kernel_rfl) ?_
    refine W.ixD Dk (eSN false) hx1404 5 (by kernel_rfl) (by kernel_rfl) ?_
    refine W.run Dk 3 363 (by kernel_rfl) ?_
    refine W.ixD Dk encI hx1405 1 (by kernel_rfl) (by kernel_rfl) ?_
    refine W.run Dk 4 363 (by kernel_rfl) ?_
    refine W.appO Dk encI (a := 102) (c := 363) (el := 3) (sz := 1) 8 hx1406 rfl 364 (by kernel_rfl) ?_
    refine W.run Dk 2 365 (by kernel_rfl) ?_
    exact W.fi (by kernel_rfl)
    ) (fun st hw => ?_)
   refine CO.weak hw ?_
   refine ce Dk mix 3 365 (tl 52 [(0, .sl false false (a0.map (eSN false))), (1, V.i a1), (5, .own 100), (6, V.i y869), (7, .loc 101 0), (8, V.i (IntKind.wrap .i64 (y1267 + 1)))]) [(101, .cells 48 [V.i e1198.Kind, V.i e1198.Op, V.s e1198.Text, V.s e1198.Other, .own 364]), (364, .vec false 3 1 (x1302.map encI)), (100, .vec false 48 5 (y870.map (eSN true)))] (by kernel_rfl) (fun st hw => ?_)
   exact ih1388 (a0, a1, y869, y870, e1198, (IntKind.wrap .i64 (y1267 + 1)), x1302) h1387 _ (hw.trans (Weak.sel [(100, 100), (101, 101), (364, 102)] [0, 1, 5, 6, 7, 8] (by kernel_rfl) (by kernel_rfl) (by kernel_rfl)))
  refine CO.ifF hc1394 (by kernel_rfl) ?_
  refine CO.exit ?_
  (revert h1387; refine bR fun x1304 hx1408 h1387 => ?_)
  refine CO.endR (tl 52 [(0, .sl false false (a0.map (eSN false))), (1, V.i a1), (5, .own 364), (6, V.i y869)]) [(364, .vec false 48 5 (x1304.map (eSN true)))] mix (by
   refine W.run Dk 3 363 (by kernel_rfl) ?_
   refine W.appO Dk (eSN true) (a := 100) (c := 363) (el := 48) (sz := 5) 72 hx1408 rfl 364 (by kernel_rfl) ?_
   refine W.run Dk 1 365 (by kernel_rfl) ?_
   exact W.fi (by kernel_rfl)
   ) (fun st hw => ?_)
  refine CO.weak hw ?_
  refine ce Dk mix 3 365 (tl 52 [(0, .sl false false (a0.map (eSN false))), (1, V.i a1), (5, .own 364), (6, V.i (IntKind.wrap .i64 (y869 + 1)))]) [(364, .vec false 48 5 (x1304.map (eSN true)))] (by kernel_rfl) (fun st hw => ?_)
  exact ih1174 (a0, a1, (IntKind.wrap .i64 (y869 + 1)), x1304) h1387 _ (hw.trans (Weak.sel [(364, 100)] [0, 1, 5, 6] (by kernel_rfl) (by kernel_rfl) (by kernel_rfl)))
 refine CO.ifF hc1176 (by kernel_rfl) ?_
 refine CO.exit ?_
 refine cu Dk mix 2 297 (tl 52 [(4, .own 100)]) [(100, .vec false 48 5 (y870.map (eSN true)))] (by kernel_rfl) ?_
 refine CO.ret ?_
 have h1173 := Option.some.inj h1173
 subst h1173
 exact Ends.gen [(100, 100)] (.inr rfl) (RetV.one rfl (OneR.t (t := 4) (r := .own 100) (by kernel_rfl))) (by kernel_rfl) (by kernel_rfl) (by kernel_rfl)

theorem ms_l6Part_ok (N : Nat) (a0 : List SNode) (a1 : Int) {r : (List SNode)} (h : ms_l6Part N a0 a1 = some r) :
    AC Tryz.prog (GS []) 82 [.sl false false (a0.map (eSN false)), V.i a1] [] (.own 100) [(100, .vec false 48 5 (r.map (eSN true)))] := by
 rw [ms_l6Part] at h
 refine AC.enter Tryz.func82 rfl ?_
 refine cu Dk mix 1 100 (tl 26 [(0, .sl false false (a0.map (eSN false))), (1, V.i a1)]) [] (by kernel_rfl) ?_
 (revert h; refine bR fun r2 hx2 h => ?_)
 refine CO.cutR (tl 26 [(0, .sl false false (a0.map (eSN false))), (1, V.i a1), (5, .own 100)]) [(100, .vec false 3 1 (r2.1.map encI))] mix (by
  refine W.run Dk 1 100 (by kernel_rfl) ?_
  refine W.call (ms_l6Starts_ok N a0 hx2) cok98 [] [(100, 100)] [100] (show LayOk _ [] from trivial) (by kernel_rfl) (by kernel_rfl) ?_
  refine W.run Dk 5 101 (by kernel_rfl) ?_
  exact W.fi (by kernel_rfl)
  ) ?_
 (revert h; refine bR fun e7 hx7 h => ?_)
 (revert h; refine bR fun l8 hx8 h => ?_)
 (revert h; refine bR fun e9 hx9 h => ?_)
 (revert h; refine bR fun r10 hx10 h => ?_)
 refine CO.cutR (tl 26 [(4, .own 101)]) [(101, .vec false 48 5 (r10.map (eSN true)))] mix (by
  refine W.run Dk 3 101 (by kernel_rfl) ?_
  refine W.ixO Dk encI hx7 100 1 (by kernel_rfl) ?_
  refine W.ldO Dk encI hx7 3 100 0 (V.i e7) (by kernel_rfl) (by kernel_rfl) ?_
  refine W.run Dk 2 101 (by kernel_rfl) ?_
  refine W.cutD Dk (eSN false) hx8 false 5 (fun _ => by first | rfl | kernel_rfl) (by kernel_rfl) ?_
  refine W.run Dk 2 101 (by kernel_rfl) ?_
  refine W.ixO Dk encI hx9 100 1 (by kernel_rfl) ?_
  refine W.ldO Dk encI hx9 3 100 0 (V.i e9) (by kernel_rfl) (by kernel_rfl) ?_
  refine W.run Dk 1 101 (by kernel_rfl) ?_
  refine W.call (ms_l6Shift_ok N l8 (IntKind.wrap .i64 (0 - e9)) hx10) cok90 [] [(100, 101)] [101] (show LayOk _ [] from trivial) (by kernel_rfl) (by kernel_rfl) ?_
  refine W.run Dk 1 102 (by kernel_rfl) ?_
  exact W.fi (by kernel_rfl)
  ) ?_
 refine CO.ret ?_
 have h := Option.some.inj h
 subst h
 exact Ends.gen [(101, 100)] (.inr rfl) (RetV.one rfl (OneR.t (t := 4) (r := .own 101) (by kernel_rfl))) (by kernel_rfl) (by kernel_rfl) (by kernel_rfl)

theorem ms_l32Of_ok (N : Nat) (a1 : List UInt8) (p0 : List SHole) {r : ((List SNode) × Bool)} (h : ms_l32Of N a1 p0 = some r) :
    AC Tryz.prog (GS []) 83 [.own 0, V.s a1] [(0, .vec false 79 2 (p0.map (encSHole false)))] (.tup [.sl false false (r.1.map (eSN false)), V.b r.2]) [(0, .vec false 79 2 (p0.map (encSHole false)))] := by
 rw [ms_l32Of] at h
 refine AC.enter Tryz.func83 rfl ?_
 refine cu Dk mix 2 100 (tl 26 [(0, .own 0), (1, V.s a1)]) [(0, .vec false 79 2 (p0.map (encSHole false)))] (by kernel_rfl) ?_
 refine CO.seq' ?_
 refine cu Dk mix 1 100 (tl 26 [(0, .own 0), (1, V.s a1), (6, V.i 0)]) [(0, .vec false 79 2 (p0.map (encSHole false)))] (by kernel_rfl) ?_
 refine CO.block' ?_
 refine CO.loopJ (fun (⟨a1, y35⟩ : ((List UInt8) × Int)) => ⟨tl 26 [(0, .own 0), (1, V.s a1), (6, V.i y35)], [(0, .vec false 79 2 (p0.map (encSHole false)))]⟩) (fun n i => ms_l32Of_l1 N p0 n i = some r) (n0 := N) (i0 := (a1, 0)) (Weak.sel [(0, 0)] [0, 1, 6] (by kernel_rfl) (by kernel_rfl) (by kernel_rfl)) h (fun i h => by simp [ms_l32Of_l1] at h) ?_
 rintro n1 ⟨a1, y35⟩ h63 ih64
 rw [ms_l32Of_l1] at h63
 refine CO.seq' ?_
 refine CO.cutR (tl 26 [(0, .own 0), (1, V.s a1), (6, V.i y35), (10, V.b (decide (y35 < (p0.length : Int))))]) [(0, .vec false 79 2 (p0.map (encSHole false)))] mix (by
  refine W.run Dk 2 160 (by kernel_rfl) ?_
  refine W.len Dk (encSHole false) p0 [0] (by kernel_rfl) (by kernel_rfl) ?_
  refine W.run Dk 1 160 (by kernel_rfl) ?_
  exact W.fi (by kernel_rfl)
  ) ?_
 (revert h63; refine cR (fun hc66 h63 => ?_) (fun hc66 h63 => ?_))
 ·refine CO.ifT hc66 (by kernel_rfl) ?_
  refine CO.skip ?_
  refine CO.seq' ?_
  refine CO.block' ?_
  (revert h63; refine bR fun e50 hx73 h63 => ?_)
  refine CO.cutR (tl 26 [(0, .own 0), (1, V.s a1), (6, V.i y35), (19, V.b (e50.Name == a1))]) [(0, .vec false 79 2 (p0.map (encSHole false)))] mix (by
   refine W.run Dk 2 160 (by kernel_rfl) ?_
   refine W.ixO Dk (encSHole false) hx73 0 2 (by kernel_rfl) ?_
   refine W.run Dk 1 160 (by kernel_rfl) ?_
   refine W.ldO Dk (encSHole false) hx73 9 0 0 (V.s e50.Name) (by kernel_rfl) (by kernel_rfl) ?_
   refine W.run Dk 2 160 (by kernel_rfl) ?_
   exact W.fi (by kernel_rfl)
   ) ?_
  (revert h63; refine cR (fun hc74 h63 => ?_) (fun hc74 h63 => ?_))
  ·refine CO.ifT hc74 (by kernel_rfl) ?_
   (revert h63; refine bR fun e52 hx76 h63 => ?_)
   refine CO.cutR (tl 26 [(4, .sl false false (e52.Part.map (eSN false))), (5, V.b true)]) [(0, .vec false 79 2 (p0.map (encSHole false)))] mix (by
    refine W.run Dk 2 160 (by kernel_rfl) ?_
    refine W.ixO Dk (encSHole false) hx76 0 2 (by kernel_rfl) ?_
    refine W.run Dk 1 160 (by kernel_rfl) ?_
    refine W.ldO Dk (encSHole false) hx76 22 0 1 (.sl false false (e52.Part.map (eSN false))) (by kernel_rfl) (by kernel_rfl) ?_
    refine W.run Dk 2 160 (by kernel_rfl) ?_
    exact W.fi (by kernel_rfl)
    ) ?_
   refine CO.ret ?_
   have h63 := Option.some.inj h63
   subst h63
   exact Ends.gen [(0, 0)] (.inr rfl) (RetV.two rfl (OneR.t (t := 4) (r := .sl false false (e52.Part.map (eSN false))) (by kernel_rfl)) (OneR.t (t := 5) (r := V.b true) (by kernel_rfl))) (by kernel_rfl) (by kernel_rfl) (by kernel_rfl)
  refine CO.ifF hc74 (by kernel_rfl) ?_
  refine CO.skip ?_
  refine ce Dk mix 3 160 (tl 26 [(0, .own 0), (1, V.s a1), (6, V.i (IntKind.wrap .i64 (y35 + 1)))]) [(0, .vec false 79 2 (p0.map (encSHole false)))] (by kernel_rfl) (fun st hw => ?_)
  exact ih64 (a1, (IntKind.wrap .i64 (y35 + 1))) h63 _ (hw.trans (Weak.sel [(0, 0)] [0, 1, 6] (by kernel_rfl) (by kernel_rfl) (by kernel_rfl)))
 refine CO.ifF hc66 (by kernel_rfl) ?_
 refine CO.exit ?_
 refine cu Dk mix 3 160 (tl 26 [(4, .own 160), (5, V.b false)]) [(160, .vec false 48 5 ([].map (eSN true))), (0, .vec false 79 2 (p0.map (encSHole false)))] (by kernel_rfl) ?_
 refine CO.lay (tl 26 [(4, .sl false false ([].map (eSN false))), (5, V.b false)]) [(0, .vec false 79 2 (p0.map (encSHole false)))] (LayOk.cons (j := 160) (eSN true) (eSN false) ([] : List SNode) (by kernel_rfl) (sh_eSN _) (show LayOk _ [] from trivial)) (by kernel_rfl) (by kernel_rfl) (by kernel_rfl) ?_
 refine CO.ret ?_
 have h63 := Option.some.inj h63
 subst h63
 exact Ends.gen [(0, 0)] (.inr rfl) (RetV.two rfl (OneR.t (t := 4) (r := .sl false false ([].map (eSN false))) (by kernel_rfl)) (OneR.t (t := 5) (r := V.b false) (by kernel_rfl))) (by kernel_rfl) (by kernel_rfl) (by kernel_rfl)

theorem ms_l6Ints_ok (N : Nat) (a0 : List Int) (a1 : List Int) {r : Bool} (h : ms_l6Ints N a0 a1 = some r) :
    AC Tryz.prog (GS []) 111 [.sl false false (a0.map encI), .sl false false (a1.map encI)] [] (V.b r) [] := by
 rw [ms_l6Ints] at h
 refine AC.enter Tryz.func111 rfl ?_
 refine cu Dk mix 1 100 (tl 26 [(0, .sl false false (a0.map encI)), (1, .sl false false (a1.map encI))]) [] (by kernel_rfl) ?_
 refine CO.seq' ?_
 refine CO.cutR (tl 26 [(0, .sl false false (a0.map encI)), (1, .sl false false (a1.map encI)), (10, V.b ((a0.length : Int) != (a1.length : Int)))]) [] mix (by
  refine W.run Dk 1 100 (by kernel_rfl) ?_
  refine W.len Dk encI a0 [] (by kernel_rfl) (by kernel_rfl) ?_
  refine W.run Dk 1 100 (by kernel_rfl) ?_
  refine W.len Dk encI a1 [] (by kernel_rfl) (by kernel_rfl) ?_
  refine W.run Dk 1 100 (by kernel_rfl) ?_
  exact W.fi (by kernel_rfl)
  ) ?_
 (revert h; refine cR (fun hc2 h => ?_) (fun hc2 h => ?_))
 ·refine CO.ifT hc2 (by kernel_rfl) ?_
  refine cu Dk mix 1 100 (tl 26 [(4, V.b false)]) [] (by kernel_rfl) ?_
  refine CO.ret ?_
  have h := Option.some.inj h
  subst h
  exact Ends.gen [] (.inr rfl) (RetV.one rfl (OneR.t (t := 4) (r := V.b false) (by kernel_rfl))) (by kernel_rfl) (by kernel_rfl) (by kernel_rfl)
 refine CO.ifF hc2 (by kernel_rfl) ?_
 refine CO.skip ?_
 refine CO.seq' ?_
 refine cu Dk mix 1 100 (tl 26 [(0, .sl false false (a0.map encI)), (1, .sl false false (a1.map encI)), (5, V.i 0)]) [] (by kernel_rfl) ?_
 refine CO.block' ?_
 refine CO.loopJ (fun (⟨a0, a1, y35⟩ : ((List Int) × (List Int) × Int)) => ⟨tl 26 [(0, .sl false false (a0.map encI)), (1, .sl false false (a1.map encI)), (5, V.i y35)], []⟩) (fun n i => ms_l6Ints_l1 N n i = some r) (n0 := N) (i0 := (a0, a1, 0)) (Weak.sel [] [0, 1, 5] (by kernel_rfl) (by kernel_rfl) (by kernel_rfl)) h (fun i h => by simp [ms_l6Ints_l1] at h) ?_
 rintro n1 ⟨a0, a1, y35⟩ h65 ih66
 rw [ms_l6Ints_l1] at h65
 refine CO.seq' ?_
 refine CO.cutR (tl 26 [(0, .sl false false (a0.map encI)), (1, .sl false false (a1.map encI)), (5, V.i y35), (14, V.b (decide (y35 < (a0.length : Int))))]) [] mix (by
  refine W.run Dk 2 160 (by kernel_rfl) ?_
  refine W.len Dk encI a0 [] (by kernel_rfl) (by kernel_rfl) ?_
  refine W.run Dk 1 160 (by kernel_rfl) ?_
  exact W.fi (by kernel_rfl)
  ) ?_
 (revert h65; refine cR (fun hc68 h65 => ?_) (fun hc68 h65 => ?_))
 ·refine CO.ifT hc68 (by kernel_rfl) ?_
  refine CO.skip ?_
  refine CO.seq' ?_
  refine CO.block' ?_
  (revert h65; refine bR fun e51 hx76 h65 => ?_)
  (revert h65; refine bR fun e52 hx77 h65 => ?_)
  refine CO.cutR (tl 26 [(0, .sl false false (a0.map encI)), (1, .sl false false (a1.map encI)), (5, V.i y35), (25, V.b (e51 != e52))]) [] mix (by
   refine W.run Dk 2 160 (by kernel_rfl) ?_
   refine W.ixD Dk encI hx76 1 (by kernel_rfl) (by kernel_rfl) ?_
   refine W.run Dk 3 160 (by kernel_rfl) ?_
   refine W.ixD Dk encI hx77 1 (by kernel_rfl) (by kernel_rfl) ?_
   refine W.run Dk 2 160 (by kernel_rfl) ?_
   exact W.fi (by kernel_rfl)
   ) ?_
  (revert h65; refine cR (fun hc78 h65 => ?_) (fun hc78 h65 => ?_))
  ·refine CO.ifT hc78 (by kernel_rfl) ?_
   refine cu Dk mix 1 160 (tl 26 [(4, V.b false)]) [] (by kernel_rfl) ?_
   refine CO.ret ?_
   have h65 := Option.some.inj h65
   subst h65
   exact Ends.gen [] (.inr rfl) (RetV.one rfl (OneR.t (t := 4) (r := V.b false) (by kernel_rfl))) (by kernel_rfl) (by kernel_rfl) (by kernel_rfl)
  refine CO.ifF hc78 (by kernel_rfl) ?_
  refine CO.skip ?_
  refine ce Dk mix 3 160 (tl 26 [(0, .sl false false (a0.map encI)), (1, .sl false false (a1.map encI)), (5, V.i (IntKind.wrap .i64 (y35 + 1)))]) [] (by kernel_rfl) (fun st hw => ?_)
  exact ih66 (a0, a1, (IntKind.wrap .i64 (y35 + 1))) h65 _ (hw.trans (Weak.sel [] [0, 1, 5] (by kernel_rfl) (by kernel_rfl) (by kernel_rfl)))
 refine CO.ifF hc68 (by kernel_rfl) ?_
 refine CO.exit ?_
 refine cu Dk mix 1 160 (tl 26 [(4, V.b true)]) [] (by kernel_rfl) ?_
 refine CO.ret ?_
 have h65 := Option.some.inj h65
 subst h65
 exact Ends.gen [] (.inr rfl) (RetV.one rfl (OneR.t (t := 4) (r := V.b true) (by kernel_rfl))) (by kernel_rfl) (by kernel_rfl) (by kernel_rfl)

theorem ms_SameTree_ok (N : Nat) (a0 : List SNode) (a1 : List SNode) {r : Bool} (h : ms_SameTree N a0 a1 = some r) :
    AC Tryz.prog (GS []) 84 [.sl false false (a0.map (eSN false)), .sl false false (a1.map (eSN false))] [] (V.b r) [] := by
 rw [ms_SameTree] at h
 refine AC.enter Tryz.func84 rfl ?_
 refine cu Dk mix 1 100 (tl 81 [(0, .sl false false (a0.map (eSN false))), (1, .sl false false (a1.map (eSN false)))]) [] (by kernel_rfl) ?_
 refine CO.seq' ?_
 refine CO.cutR (tl 81 [(0, .sl false false (a0.map (eSN false))), (1, .sl false false (a1.map (eSN false))), (10, V.b ((a0.length : Int) != (a1.length : Int)))]) [] mix (by
  refine W.run Dk 1 100 (by kernel_rfl) ?_
  refine W.len Dk (eSN false) a0 [] (by kernel_rfl) (by kernel_rfl) ?_
  refine W.run Dk 1 100 (by kernel_rfl) ?_
  refine W.len Dk (eSN false) a1 [] (by kernel_rfl) (by kernel_rfl) ?_
  refine W.run Dk 1 100 (by kernel_rfl) ?_
  exact W.fi (by kernel_rfl)
  ) ?_
 (revert h; refine cR (fun hc2 h => ?_) (fun hc2 h => ?_))
 ·refine CO.ifT hc2 (by kernel_rfl) ?_
  refine cu Dk mix 1 100 (tl 81 [(4, V.b false)]) [] (by kernel_rfl) ?_
  refine CO.ret ?_
  have h := Option.some.inj h
  subst h
  exact Ends.gen [] (.inr rfl) (RetV.one rfl (OneR.t (t := 4) (r := V.b false) (by kernel_rfl))) (by kernel_rfl) (by kernel_rfl) (by kernel_rfl)
 refine CO.ifF hc2 (by kernel_rfl) ?_
 refine CO.skip ?_
 refine CO.seq' ?_
 refine cu Dk mix 1 100 (tl 81 [(0, .sl false false (a0.map (eSN false))), (1, .sl false false (a1.map (eSN false))), (5, V.i 0)]) [] (by kernel_rfl) ?_
 refine CO.block' ?_
 refine CO.loopJ (fun (⟨a0, a1, y187⟩ : ((List SNode) × (List SNode) × Int)) => ⟨tl 81 [(0, .sl false false (a0.map (eSN false))), (1, .sl false false (a1.map (eSN false))), (5, V.i y187)], []⟩) (fun n i => ms_SameTree_l1 N n i = some r) (n0 := N) (i0 := (a0, a1, 0)) (Weak.sel [] [0, 1, 5] (by kernel_rfl) (by kernel_rfl) (by kernel_rfl)) h (fun i h => by simp [ms_SameTree_l1] at h) ?_
 rintro n1 ⟨a0, a1, y187⟩ h335 ih336
 rw [ms_SameTree_l1] at h335
 refine CO.seq' ?_
 refine CO.cutR (tl 81 [(0, .sl false false (a0.map (eSN false))), (1, .sl false false (a1.map (eSN false))), (5, V.i y187), (14, V.b (decide (y187 < (a0.length : Int))))]) [] mix (by
  refine W.run Dk 2 160 (by kernel_rfl) ?_
  refine W.len Dk (eSN false) a0 [] (by kernel_rfl) (by kernel_rfl) ?_
  refine W.run Dk 1 160 (by kernel_rfl) ?_
  exact W.fi (by kernel_rfl)
  ) ?_
 (revert h335; refine cR (fun hc338 h335 => ?_) (fun hc338 h335 => ?_))
 ·refine CO.ifT hc338 (by kernel_rfl) ?_
  refine CO.skip ?_
  refine CO.seq' ?_
  refine CO.block' ?_
  (revert h335; refine bR fun y269 hv386 h335 => ?_)
  refine CO.cutR (tl 81 [(0, .sl false false (a0.map (eSN false))), (1, .sl false false (a1.map (eSN false))), (5, V.i y187), (80, V.b y269)]) [] mix (by
   refine W.run Dk 2 160 (by kernel_rfl) ?_
   (revert hv386; refine bR fun e270 hx387 hv386 => ?_)
   refine W.ixD Dk (eSN false) hx387 5 (by kernel_rfl) (by kernel_rfl) ?_
   refine W.run Dk 4 160 (by kernel_rfl) ?_
   (revert hv386; refine bR fun e271 hx388 hv386 => ?_)
   refine W.ixD Dk (eSN false) hx388 5 (by kernel_rfl) (by kernel_rfl) ?_
   refine W.run Dk 4 160 (by kernel_rfl) ?_
   (revert hv386; refine cR (fun hc389 hv386 => ?_) (fun hc389 hv386 => ?_))
   ·refine W.is 28 hc389 (by kernel_rfl) ?_
    refine W.run Dk 52 160 (by kernel_rfl) ?_
    have hv386 := Option.some.inj hv386
    subst hv386
    exact W.fs [] [0, 1, 5, 80] (by kernel_rfl)
   refine W.is 28 hc389 (by kernel_rfl) ?_
   refine W.run Dk 2 160 (by kernel_rfl) ?_
   (revert hv386; refine bR fun e272 hx390 hv386 => ?_)
   refine W.ixD Dk (eSN false) hx390 5 (by kernel_rfl) (by kernel_rfl) ?_
   refine W.run Dk 4 160 (by kernel_rfl) ?_
   (revert hv386; refine bR fun e273 hx391 hv386 => ?_)
   refine W.ixD Dk (eSN false) hx391 5 (by kernel_rfl) (by kernel_rfl) ?_
   refine W.run Dk 5 160 (by kernel_rfl) ?_
   (revert hv386; refine cR (fun hc392 hv386 => ?_) (fun hc392 hv386 => ?_))
   ·refine W.is 41 hc392 (by kernel_rfl) ?_
    refine W.run Dk 39 160 (by kernel_rfl) ?_
    have hv386 := Option.some.inj hv386
    subst hv386
    exact W.fs [] [0, 1, 5, 80] (by kernel_rfl)
   refine W.is 41 hc392 (by kernel_rfl) ?_
   refine W.run Dk 2 160 (by kernel_rfl) ?_
   (revert hv386; refine bR fun e274 hx393 hv386 => ?_)
   refine W.ixD Dk (eSN false) hx393 5 (by kernel_rfl) (by kernel_rfl) ?_
   refine W.run Dk 4 160 (by kernel_rfl) ?_
   (revert hv386; refine bR fun e275 hx394 hv386 => ?_)
   refine W.ixD Dk (eSN false) hx394 5 (by kernel_rfl) (by kernel_rfl) ?_
   refine W.run Dk 5 160 (by kernel_rfl) ?_
   (revert hv386; refine cR (fun hc395 hv386 => ?_) (fun hc395 hv386 => ?_))
   ·refine W.is 54 hc395 (by kernel_rfl) ?_
    refine W.run Dk 26 160 (by kernel_rfl) ?_
    have hv386 := Option.some.inj hv386
    subst hv386
    exact W.fs [] [0, 1, 5, 80] (by kernel_rfl)
   refine W.is 54 hc395 (by kernel_rfl) ?_
   refine W.run Dk 2 160 (by kernel_rfl) ?_
   (revert hv386; refine bR fun e276 hx396 hv386 => ?_)
   refine W.ixD Dk (eSN false) hx396 5 (by kernel_rfl) (by kernel_rfl) ?_
   refine W.run Dk 4 160 (by kernel_rfl) ?_
   (revert hv386; refine bR fun e277 hx397 hv386 => ?_)
   refine W.ixD Dk (eSN false) hx397 5 (by kernel_rfl) (by kernel_rfl) ?_
   refine W.run Dk 5 160 (by kernel_rfl) ?_
   (revert hv386; refine cR (fun hc398 hv386 => ?_) (fun hc398 hv386 => ?_))
   ·refine W.is 67 hc398 (by kernel_rfl) ?_
    refine W.run Dk 13 160 (by kernel_rfl) ?_
    have hv386 := Option.some.inj hv386
    subst hv386
    exact W.fs [] [0, 1, 5, 80] (by kernel_rfl)
   refine W.is 67 hc398 (by kernel_rfl) ?_
   refine W.run Dk 2 160 (by kernel_rfl) ?_
   (revert hv386; refine bR fun e278 hx399 hv386 => ?_)
   refine W.ixD Dk (eSN false) hx399 5 (by kernel_rfl) (by kernel_rfl) ?_
   refine W.run Dk 4 160 (by kernel_rfl) ?_
   (revert hv386; refine bR fun e279 hx400 hv386 => ?_)
   refine W.ixD Dk (eSN false) hx400 5 (by kernel_rfl) (by kernel_rfl) ?_
   refine W.run Dk 2 160 (by kernel_rfl) ?_
   (revert hv386; refine bR fun r280 hx401 hv386 => ?_)
   refine W.call0 (ms_l6Ints_ok N e278.Kids e279.Kids hx401) cok111 rfl (by kernel_rfl) ?_
   refine W.run Dk 2 160 (by kernel_rfl) ?_
   have hv386 := Option.some.inj hv386
   subst hv386
   exact W.fs [] [0, 1, 5, 80] (by kernel_rfl)
   ) ?_
  (revert h335; refine cR (fun hc402 h335 => ?_) (fun hc402 h335 => ?_))
  ·refine CO.ifT hc402 (by kernel_rfl) ?_
   refine cu Dk mix 1 160 (tl 81 [(4, V.b false)]) [] (by kernel_rfl) ?_
   refine CO.ret ?_
   have h335 := Option.some.inj h335
   subst h335
   exact Ends.gen [] (.inr rfl) (RetV.one rfl (OneR.t (t := 4) (r := V.b false) (by kernel_rfl))) (by kernel_rfl) (by kernel_rfl) (by kernel_rfl)
  refine CO.ifF hc402 (by kernel_rfl) ?_
  refine CO.skip ?_
  refine ce Dk mix 3 160 (tl 81 [(0, .sl false false (a0.map (eSN false))), (1, .sl false false (a1.map (eSN false))), (5, V.i (IntKind.wrap .i64 (y187 + 1)))]) [] (by kernel_rfl) (fun st hw => ?_)
  exact ih336 (a0, a1, (IntKind.wrap .i64 (y187 + 1))) h335 _ (hw.trans (Weak.sel [] [0, 1, 5] (by kernel_rfl) (by kernel_rfl) (by kernel_rfl)))
 refine CO.ifF hc338 (by kernel_rfl) ?_
 refine CO.exit ?_
 refine cu Dk mix 1 160 (tl 81 [(4, V.b true)]) [] (by kernel_rfl) ?_
 refine CO.ret ?_
 have h335 := Option.some.inj h335
 subst h335
 exact Ends.gen [] (.inr rfl) (RetV.one rfl (OneR.t (t := 4) (r := V.b true) (by kernel_rfl))) (by kernel_rfl) (by kernel_rfl) (by kernel_rfl)

structure RecOk1 (R : Rec1) : Prop where
  ms_l32At : ∀ (a0 : List SNode) (a1 : Int) (a2 : List SNode) (a3 : Int) (p0 : List SHole) (r : ((List SHole) × Bool)), R.ms_l32At a0 a1 a2 a3 p0 = some r → AC Tryz.prog (GS []) 42 [.sl false false (a0.map (eSN false)), V.i a1, .sl false false (a2.map (eSN false)), V.i a3, .own 0] [(0, .vec false 79 2 (p0.map (encSHole false)))] (.tup [.own 100, V.b r.2]) [(100, .vec false 79 2 (r.1.map (encSHole false)))]

theorem ms_l32At_F_ok (N : Nat) (R : Rec1) (HR : RecOk1 R) (a0 : List SNode) (a1 : Int) (a2 : List SNode) (a3 : Int) (p0 : List SHole) {r : ((List SHole) × Bool)} (h : ms_l32At_F N R a0 a1 a2 a3 p0 = some r) :
    AC Tryz.prog (GS []) 42 [.sl false false (a0.map (eSN false)), V.i a1, .sl false false (a2.map (eSN false)), V.i a3, .own 0] [(0, .vec false 79 2 (p0.map (encSHole false)))] (.tup [.own 100, V.b r.2]) [(100, .vec false 79 2 (r.1.map (encSHole false)))] := by
 rw [ms_l32At_F] at h
 refine AC.enter Tryz.func42 rfl ?_
 refine cu Dk mix 2 100 (tl 161 [(0, .sl false false (a0.map (eSN false))), (1, V.i a1), (2, .sl false false (a2.map (eSN false))), (3, V.i a3), (4, .own 0)]) [(0, .vec false 79 2 (p0.map (encSHole false)))] (by kernel_rfl) ?_
 refine CO.seq' ?_
 (revert h; refine bR fun e25 hx28 h => ?_)
 (revert h; refine bR fun r26 hx29 h => ?_)
 refine CO.cutR (tl 161 [(0, .sl false false (a0.map (eSN false))), (1, V.i a1), (2, .sl false false (a2.map (eSN false))), (3, V.i a3), (4, .own 0), (22, V.b r26)]) [(0, .vec false 79 2 (p0.map (encSHole false)))] mix (by
  refine W.run Dk 2 100 (by kernel_rfl) ?_
  refine W.ixD Dk (eSN false) hx28 5 (by kernel_rfl) (by kernel_rfl) ?_
  refine W.run Dk 1 100 (by kernel_rfl) ?_
  refine W.call0 (ms_IsHole_ok e25 hx29) cok61 rfl (by kernel_rfl) ?_
  exact W.fi (by kernel_rfl)
  ) ?_
 (revert h; refine cR (fun hc30 h => ?_) (fun hc30 h => ?_))
 ·refine CO.ifT hc30 (by kernel_rfl) ?_
  (revert h; refine bR fun r28 hx32 h => ?_)
  refine CO.cutR (tl 161 [(0, .sl false false (a0.map (eSN false))), (1, V.i a1), (2, .sl false false (a2.map (eSN false))), (3, V.i a3), (4, .own 0), (12, .own 100)]) [(100, .vec false 48 5 (r28.map (eSN true))), (0, .vec false 79 2 (p0.map (encSHole false)))] mix (by
   refine W.run Dk 2 100 (by kernel_rfl) ?_
   refine W.call (ms_l6Part_ok N a2 a3 hx32) cok82 [] [(100, 100)] [100] (show LayOk _ [] from trivial) (by kernel_rfl) (by kernel_rfl) ?_
   refine W.run Dk 1 101 (by kernel_rfl) ?_
   exact W.fi (by kernel_rfl)
   ) ?_
  (revert h; refine bR fun e31 hx35 h => ?_)
  (revert h; refine bR fun r32 hx36 h => ?_)
  refine CO.cutR (tl 161 [(0, .sl false false (a0.map (eSN false))), (1, V.i a1), (2, .sl false false (a2.map (eSN false))), (3, V.i a3), (4, .own 0), (12, .own 100), (13, .sl false false (r32.1.map (eSN false))), (14, V.b r32.2)]) [(100, .vec false 48 5 (r28.map (eSN true))), (0, .vec false 79 2 (p0.map (encSHole false)))] mix (by
   refine W.run Dk 3 101 (by kernel_rfl) ?_
   refine W.ixD Dk (eSN false) hx35 5 (by kernel_rfl) (by kernel_rfl) ?_
   refine W.run Dk 2 101 (by kernel_rfl) ?_
   refine W.call (ms_l32Of_ok N e31.Text p0 hx36) cok83 [(0, 0)] [(0, 0)] [] (show LayOk _ [] from trivial) (by kernel_rfl) (by kernel_rfl) ?_
   refine W.run Dk 5 101 (by kernel_rfl) ?_
   exact W.fi (by kernel_rfl)
   ) ?_
  refine CO.seq' ?_
  refine cu Dk mix 1 101 (tl 161 [(0, .sl false false (a0.map (eSN false))), (1, V.i a1), (2, .sl false false (a2.map (eSN false))), (3, V.i a3), (4, .own 0), (12, .own 100), (13, .sl false false (r32.1.map (eSN false))), (36, V.b r32.2)]) [(100, .vec false 48 5 (r28.map (eSN true))), (0, .vec false 79 2 (p0.map (encSHole false)))] (by kernel_rfl) ?_
  (revert h; refine cR (fun hc40 h => ?_) (fun hc40 h => ?_))
  ·refine CO.ifT hc40 (by kernel_rfl) ?_
   (revert h; refine bR fun r36 hx42 h => ?_)
   refine CO.cutR (tl 161 [(10, .own 0), (11, V.b r36)]) [(0, .vec false 79 2 (p0.map (encSHole false)))] mix (by
    refine W.run Dk 3 101 (by kernel_rfl) ?_
    refine W.lend (ms_SameTree_ok N r32.1 r28 hx42) cok84 [] [] (LayOk.cons (j := 100) (eSN true) (eSN false) r28 (by kernel_rfl) (sh_eSN _) (show LayOk _ [] from trivial)) (.c _) .nil (by kernel_rfl) (by kernel_rfl) ?_
    refine W.run Dk 2 101 (by kernel_rfl) ?_
    exact W.fi (by kernel_rfl)
    ) ?_
   refine CO.ret ?_
   have h := Option.some.inj h
   subst h
   exact Ends.gen [(0, 100)] (.inr rfl) (RetV.two rfl (OneR.t (t := 10) (r := .own 0) (by kernel_rfl)) (OneR.t (t := 11) (r := V.b r36) (by kernel_rfl))) (by kernel_rfl) (by kernel_rfl) (by kernel_rfl)
  refine CO.ifF hc40 (by kernel_rfl) ?_
  refine CO.skip ?_
  (revert h; refine bR fun e41 hx47 h => ?_)
  (revert h; refine bR fun x42 hx48 h => ?_)
  (revert h; refine bR fun e43 hx49 h => ?_)
  (revert h; refine bR fun r44 hx50 h => ?_)
  refine CO.cutR (tl 161 [(10, .own 102), (11, V.b r44)]) [(102, .vec false 79 2 (x42.map (encSHole false)))] mix (by
   refine W.run Dk 3 101 (by kernel_rfl) ?_
   refine W.ixD Dk (eSN false) hx47 5 (by kernel_rfl) (by kernel_rfl) ?_
   refine W.run Dk 4 101 (by kernel_rfl) ?_
   refine W.layop Dk (LayOk.cons (j := 100) (eSN true) (eSN false) r28 (by kernel_rfl) (sh_eSN _) (show LayOk _ [] from trivial)) (by kernel_rfl) 101 { v := .own 101, R := [], new := [(101, .vec true 79 2 [[V.s e41.Text, .sl false false (r28.map (eSN false))]])], N := [101] } (by kernel_rfl) ?_
   refine W.vecEq 101 (nn := true) (e := 79) (k := 2) (rows := [[V.s e41.Text, .sl false false (r28.map (eSN false))]]) (rows' := [(⟨e41.Text, r28⟩ : SHole)].map (encSHole false)) (by kernel_rfl) (by kernel_rfl) ?_
   refine W.appO Dk (encSHole false) (a := 0) (c := 101) (el := 79) (sz := 2) 40 hx48 rfl 102 (by kernel_rfl) ?_
   refine W.run Dk 2 103 (by kernel_rfl) ?_
   refine W.ixD Dk (eSN false) hx49 5 (by kernel_rfl) (by kernel_rfl) ?_
   refine W.run Dk 2 103 (by kernel_rfl) ?_
   refine W.call0 (ms_IsExpr_ok e43.Kind hx50) cok81 rfl (by kernel_rfl) ?_
   refine W.run Dk 2 103 (by kernel_rfl) ?_
   exact W.fi (by kernel_rfl)
   ) ?_
  refine CO.ret ?_
  have h := Option.some.inj h
  subst h
  exact Ends.gen [(102, 100)] (.inr rfl) (RetV.two rfl (OneR.t (t := 10) (r := .own 102) (by kernel_rfl)) (OneR.t (t := 11) (r := V.b r44) (by kernel_rfl))) (by kernel_rfl) (by kernel_rfl) (by kernel_rfl)
 refine CO.ifF hc30 (by kernel_rfl) ?_
 refine CO.skip ?_
 refine CO.seq' ?_
 (revert h; refine bR fun y76 hv95 h => ?_)
 refine CO.cutR (tl 161 [(0, .sl false false (a0.map (eSN false))), (1, V.i a1), (2, .sl false false (a2.map (eSN false))), (3, V.i a3), (4, .own 0), (121, V.b y76)]) [(0, .vec false 79 2 (p0.map (encSHole false)))] mix (by
  refine W.run Dk 2 100 (by kernel_rfl) ?_
  (revert hv95; refine bR fun e77 hx96 hv95 => ?_)
  refine W.ixD Dk (eSN false) hx96 5 (by kernel_rfl) (by kernel_rfl) ?_
  refine W.run Dk 4 100 (by kernel_rfl) ?_
  (revert hv95; refine bR fun e78 hx97 hv95 => ?_)
  refine W.ixD Dk (eSN false) hx97 5 (by kernel_rfl) (by kernel_rfl) ?_
  refine W.run Dk 4 100 (by kernel_rfl) ?_
  (revert hv95; refine cR (fun hc98 hv95 => ?_) (fun hc98 hv95 => ?_))
  ·refine W.is 68 hc98 (by kernel_rfl) ?_
   refine W.run Dk 53 100 (by kernel_rfl) ?_
   have hv95 := Option.some.inj hv95
   subst hv95
   exact W.fs [(0, 0)] [0, 1, 2, 3, 4, 121] (by kernel_rfl)
  refine W.is 68 hc98 (by kernel_rfl) ?_
  refine W.run Dk 2 100 (by kernel_rfl) ?_
  (revert hv95; refine bR fun e79 hx99 hv95 => ?_)
  refine W.ixD Dk (eSN false) hx99 5 (by kernel_rfl) (by kernel_rfl) ?_
  refine W.run Dk 4 100 (by kernel_rfl) ?_
  (revert hv95; refine bR fun e80 hx100 hv95 => ?_)
  refine W.ixD Dk (eSN false) hx100 5 (by kernel_rfl) (by kernel_rfl) ?_
  refine W.run Dk 5 100 (by kernel_rfl) ?_
  (revert hv95; refine cR (fun hc101 hv95 => ?_) (fun hc101 hv95 => ?_))
  ·refine W.is 81 hc101 (by kernel_rfl) ?_
   refine W.run Dk 40 100 (by kernel_rfl) ?_
   have hv95 := Option.some.inj hv95
   subst hv95
   exact W.fs [(0, 0)] [0, 1, 2, 3, 4, 121] (by kernel_rfl)
  refine W.is 81 hc101 (by kernel_rfl) ?_
  refine W.run Dk 2 100 (by kernel_rfl) ?_
  (revert hv95; refine bR fun e81 hx102 hv95 => ?_)
  refine W.ixD Dk (eSN false) hx102 5 (by kernel_rfl) (by kernel_rfl) ?_
  refine W.run Dk 4 100 (by kernel_rfl) ?_
  (revert hv95; refine bR fun e82 hx103 hv95 => ?_)
  refine W.ixD Dk (eSN false) hx103 5 (by kernel_rfl) (by kernel_rfl) ?_
  refine W.run Dk 5 100 (by kernel_rfl) ?_
  (revert hv95; refine cR (fun hc104 hv95 => ?_) (fun hc104 hv95 => ?_))
  ·refine W.is 94 hc104 (by kernel_rfl) ?_
   refine W.run Dk 27 100 (by kernel_rfl) ?_
   have hv95 := Option.some.inj hv95
   subst hv95
   exact W.fs [(0, 0)] [0, 1, 2, 3, 4, 121] (by kernel_rfl)
  refine W.is 94 hc104 (by kernel_rfl) ?_
  refine W.run Dk 2 100 (by kernel_rfl) ?_
  (revert hv95; refine bR fun e83 hx105 hv95 => ?_)
  refine W.ixD Dk (eSN false) hx105 5 (by kernel_rfl) (by kernel_rfl) ?_
  refine W.run Dk 4 100 (by kernel_rfl) ?_
  (revert hv95; refine bR fun e84 hx106 hv95 => ?_)
  refine W.ixD Dk (eSN false) hx106 5 (by kernel_rfl) (by kernel_rfl) ?_
  refine W.run Dk 5 100 (by kernel_rfl) ?_
  (revert hv95; refine cR (fun hc107 hv95 => ?_) (fun hc107 hv95 => ?_))
  ·refine W.is 107 hc107 (by kernel_rfl) ?_
   refine W.run Dk 14 100 (by kernel_rfl) ?_
   have hv95 := Option.some.inj hv95
   subst hv95
   exact W.fs [(0, 0)] [0, 1, 2, 3, 4, 121] (by kernel_rfl)
  refine W.is 107 hc107 (by kernel_rfl) ?_
  refine W.run Dk 2 100 (by kernel_rfl) ?_
  (revert hv95; refine bR fun e85 hx108 hv95 => ?_)
  refine W.ixD Dk (eSN false) hx108 5 (by kernel_rfl) (by kernel_rfl) ?_
  refine W.run Dk 2 100 (by kernel_rfl) ?_
  refine W.len Dk encI e85.Kids [] (by kernel_rfl) (by kernel_rfl) ?_
  refine W.run Dk 2 100 (by kernel_rfl) ?_
  (revert hv95; refine bR fun e86 hx109 hv95 => ?_)
  refine W.ixD Dk (eSN false) hx109 5 (by kernel_rfl) (by kernel_rfl) ?_
  refine W.run Dk 2 100 (by kernel_rfl) ?_
  refine W.len Dk encI e86.Kids [] (by kernel_rfl) (by kernel_rfl) ?_
  refine W.run Dk 2 100 (by kernel_rfl) ?_
  have hv95 := Option.some.inj hv95
  subst hv95
  exact W.fs [(0, 0)] [0, 1, 2, 3, 4, 121] (by kernel_rfl)
  ) ?_
 (revert h; refine cR (fun hc110 h => ?_) (fun hc110 h => ?_))
 ·refine CO.ifT hc110 (by kernel_rfl) ?_
  refine cu Dk mix 3 100 (tl 161 [(10, .own 0), (11, V.b false)]) [(0, .vec false 79 2 (p0.map (encSHole false)))] (by kernel_rfl) ?_
  refine CO.ret ?_
  have h := Option.some.inj h
  subst h
  exact Ends.gen [(0, 100)] (.inr rfl) (RetV.two rfl (OneR.t (t := 10) (r := .own 0) (by kernel_rfl)) (OneR.t (t := 11) (r := V.b false) (by kernel_rfl))) (by kernel_rfl) (by kernel_rfl) (by kernel_rfl)
 refine CO.ifF hc110 (by kernel_rfl) ?_
 refine CO.skip ?_
 refine CO.seq' ?_
 refine cu Dk mix 1 100 (tl 161 [(0, .sl false false (a0.map (eSN false))), (1, V.i a1), (2, .sl false false (a2.map (eSN false))), (3, V.i a3), (4, .own 0), (15, V.i 0)]) [(0, .vec false 79 2 (p0.map (encSHole false)))] (by kernel_rfl) ?_
 refine CO.block' ?_
 refine CO.loopJ (fun (⟨a0, a1, a2, a3, y187, y188⟩ : ((List SNode) × Int × (List SNode) × Int × Int × (List SHole))) => ⟨tl 161 [(0, .sl false false (a0.map (eSN false))), (1, V.i a1), (2, .sl false false (a2.map (eSN false))), (3, V.i a3), (4, .own 100), (15, V.i y187)], [(100, .vec false 79 2 (y188.map (encSHole false)))]⟩) (fun n i => ms_l32At_l1 N R n i = some r) (n0 := N) (i0 := (a0, a1, a2, a3, 0, p0)) (Weak.sel [(0, 100)] [0, 1, 2, 3, 4, 15] (by kernel_rfl) (by kernel_rfl) (by kernel_rfl)) h (fun i h => by simp [ms_l32At_l1] at h) ?_
 rintro n1 ⟨a0, a1, a2, a3, y187, y188⟩ h253 ih254
 rw [ms_l32At_l1] at h253
 refine CO.seq' ?_
 (revert h253; refine bR fun e218 hx259 h253 => ?_)
 refine CO.cutR (tl 161 [(0, .sl false false (a0.map (eSN false))), (1, V.i a1), (2, .sl false false (a2.map (eSN false))), (3, V.i a3), (4, .own 100), (15, V.i y187), (130, V.b (decide (y187 < (e218.Kids.length : Int))))]) [(100, .vec false 79 2 (y188.map (encSHole false)))] mix (by
  refine W.run Dk 3 162 (by kernel_rfl) ?_
  refine W.ixD Dk (eSN false) hx259 5 (by kernel_rfl) (by kernel_rfl) ?_
  refine W.run Dk 2 162 (by kernel_rfl) ?_
  refine W.len Dk encI e218.Kids [] (by kernel_rfl) (by kernel_rfl) ?_
  refine W.run Dk 1 162 (by kernel_rfl) ?_
  exact W.fi (by kernel_rfl)
  ) ?_
 (revert h253; refine cR (fun hc260 h253 => ?_) (fun hc260 h253 => ?_))
 ·refine CO.ifT hc260 (by kernel_rfl) ?_
  refine CO.skip ?_
  refine CO.seq' ?_
  refine CO.block' ?_
  (revert h253; refine bR fun e234 hx277 h253 => ?_)
  (revert h253; refine bR fun e235 hx278 h253 => ?_)
  (revert h253; refine bR fun e236 hx279 h253 => ?_)
  (revert h253; refine bR fun e237 hx280 h253 => ?_)
  (revert h253; refine bR fun r238 hx281 h253 => ?_)
  refine CO.cutR (tl 161 [(0, .sl false false (a0.map (eSN false))), (1, V.i a1), (2, .sl false false (a2.map (eSN false))), (3, V.i a3), (15, V.i y187), (16, .own 162), (17, V.b r238.2)]) [(162, .vec false 79 2 (r238.1.map (encSHole false)))] mix (by
   refine W.run Dk 3 162 (by kernel_rfl) ?_
   refine W.ixD Dk (eSN false) hx277 5 (by kernel_rfl) (by kernel_rfl) ?_
   refine W.run Dk 3 162 (by kernel_rfl) ?_
   refine W.ixD Dk encI hx278 1 (by kernel_rfl) (by kernel_rfl) ?_
   refine W.run Dk 4 162 (by kernel_rfl) ?_
   refine W.ixD Dk (eSN false) hx279 5 (by kernel_rfl) (by kernel_rfl) ?_
   refine W.run Dk 3 162 (by kernel_rfl) ?_
   refine W.ixD Dk encI hx280 1 (by kernel_rfl) (by kernel_rfl) ?_
   refine W.run Dk 2 162 (by kernel_rfl) ?_
   refine W.call (HR.ms_l32At a0 e235 a2 e237 y188 _ hx281) cok42 [(100, 0)] [(100, 162)] [162] (show LayOk _ [] from trivial) (by kernel_rfl) (by kernel_rfl) ?_
   refine W.run Dk 5 163 (by kernel_rfl) ?_
   exact W.fi (by kernel_rfl)
   ) ?_
  refine cu Dk mix 2 163 (tl 161 [(0, .sl false false (a0.map (eSN false))), (1, V.i a1), (2, .sl false false (a2.map (eSN false))), (3, V.i a3), (4, .own 162), (15, V.i y187), (17, V.b r238.2)]) [(162, .vec false 79 2 (r238.1.map (encSHole false)))] (by kernel_rfl) ?_
  refine cu Dk mix 2 163 (tl 161 [(0, .sl false false (a0.map (eSN false))), (1, V.i a1), (2, .sl false false (a2.map (eSN false))), (3, V.i a3), (4, .own 162), (15, V.i y187), (158, V.b (!r238.2))]) [(162, .vec false 79 2 (r238.1.map (encSHole false)))] (by kernel_rfl) ?_
  (revert h253; refine cR (fun hc282 h253 => ?_) (fun hc282 h253 => ?_))
  ·refine CO.ifT hc282 (by kernel_rfl) ?_
   refine cu Dk mix 3 163 (tl 161 [(10, .own 162), (11, V.b false)]) [(162, .vec false 79 2 (r238.1.map (encSHole false)))] (by kernel_rfl) ?_
   refine CO.ret ?_
   have h253 := Option.some.inj h253
   subst h253
   exact Ends.gen [(162, 100)] (.inr rfl) (RetV.two rfl (OneR.t (t := 10) (r := .own 162) (by kernel_rfl)) (OneR.t (t := 11) (r := V.b false) (by kernel_rfl))) (by kernel_rfl) (by kernel_rfl) (by kernel_rfl)
  refine CO.ifF hc282 (by kernel_rfl) ?_
  refine CO.skip ?_
  refine ce Dk mix 3 163 (tl 161 [(0, .sl false false (a0.map (eSN false))), (1, V.i a1), (2, .sl false false (a2.map (eSN false))), (3, V.i a3), (4, .own 162), (15, V.i (IntKind.wrap .i64 (y187 + 1)))]) [(162, .vec false 79 2 (r238.1.map (encSHole false)))] (by kernel_rfl) (fun st hw => ?_)
  exact ih254 (a0, a1, a2, a3, (IntKind.wrap .i64 (y187 + 1)), r238.1) h253 _ (hw.trans (Weak.sel [(162, 100)] [0, 1, 2, 3, 4, 15] (by kernel_rfl) (by kernel_rfl) (by kernel_rfl)))
 refine CO.ifF hc260 (by kernel_rfl) ?_
 refine CO.exit ?_
 refine cu Dk mix 3 162 (tl 161 [(10, .own 100), (11, V.b true)]) [(100, .vec false 79 2 (y188.map (encSHole false)))] (by kernel_rfl) ?_
 refine CO.ret ?_
 have h253 := Option.some.inj h253
 subst h253
 exact Ends.gen [(100, 100)] (.inr rfl) (RetV.two rfl (OneR.t (t := 10) (r := .own 100) (by kernel_rfl)) (OneR.t (t := 11) (r := V.b true) (by kernel_rfl))) (by kernel_rfl) (by kernel_rfl) (by kernel_rfl)

theorem scc1_ok : ∀ N, RecOk1 (scc1 N)
  | 0 => ⟨fun _ _ _ _ _ _ h => (by cases h)⟩
  | N + 1 => ⟨fun a0 a1 a2 a3 p0 _ h => ms_l32At_F_ok N (scc1 N) (scc1_ok N) a0 a1 a2 a3 p0 h⟩

theorem ms_l32At_ok (N : Nat) (a0 : List SNode) (a1 : Int) (a2 : List SNode) (a3 : Int) (p0 : List SHole) {r : ((List SHole) × Bool)} (h : ms_l32At N a0 a1 a2 a3 p0 = some r) :
    AC Tryz.prog (GS []) 42 [.sl false false (a0.map (eSN false)), V.i a1, .sl false false (a2.map (eSN false)), V.i a3, .own 0] [(0, .vec false 79 2 (p0.map (encSHole false)))] (.tup [.own 100, V.b r.2]) [(100, .vec false 79 2 (r.1.map (encSHole false)))] :=
  (scc1_ok N).ms_l32At a0 a1 a2 a3 p0 r h

theorem ms_Match_ok (N : Nat) (a0 : List SNode) (a1 : List SNode) {r : ((List SHole) × Bool)} (h : ms_Match N a0 a1 = some r) :
    AC Tryz.prog (GS []) 20 [.sl false false (a0.map (eSN false)), .sl false false (a1.map (eSN false))] [] (.tup [.own 100, V.b r.2]) [(100, .vec false 79 2 (r.1.map (encSHole false)))] := by
 rw [ms_Match] at h
 refine AC.enter Tryz.func20 rfl ?_
 refine cu Dk mix 2 100 (tl 34 [(0, .sl false false (a0.map (eSN false))), (1, .sl false false (a1.map (eSN false)))]) [] (by kernel_rfl) ?_
 refine CO.seq' ?_
 (revert h; refine bR fun y8 hv12 h => ?_)
 refine CO.cutR (tl 34 [(0, .sl false false (a0.map (eSN false))), (1, .sl false false (a1.map (eSN false))), (15, V.b y8)]) [] mix (by
  refine W.run Dk 1 100 (by kernel_rfl) ?_
  (revert hv12; refine bR fun r9 hx13 hv12 => ?_)
  refine W.call0 (ms_ExprOk_ok N a0 hx13) cok41 rfl (by kernel_rfl) ?_
  refine W.run Dk 2 100 (by kernel_rfl) ?_
  (revert hv12; refine cR (fun hc14 hv12 => ?_) (fun hc14 hv12 => ?_))
  ·refine W.is 11 hc14 (by kernel_rfl) ?_
   refine W.run Dk 4 100 (by kernel_rfl) ?_
   have hv12 := Option.some.inj hv12
   subst hv12
   exact W.fs [] [0, 1, 15] (by kernel_rfl)
  refine W.is 11 hc14 (by kernel_rfl) ?_
  refine W.run Dk 1 100 (by kernel_rfl) ?_
  (revert hv12; refine bR fun r10 hx15 hv12 => ?_)
  refine W.call0 (ms_ExprOk_ok N a1 hx15) cok41 rfl (by kernel_rfl) ?_
  refine W.run Dk 2 100 (by kernel_rfl) ?_
  have hv12 := Option.some.inj hv12
  subst hv12
  exact W.fs [] [0, 1, 15] (by kernel_rfl)
  ) ?_
 (revert h; refine cR (fun hc16 h => ?_) (fun hc16 h => ?_))
 ·refine CO.ifT hc16 (by kernel_rfl) ?_
  refine CO.cutR (tl 34 [(4, .own 100), (5, V.b false)]) [(100, .vec false 79 2 ([].map (encSHole false)))] mix (by
   refine W.layop Dk (show LayOk _ [] from trivial) (by kernel_rfl) 100 { v := .own 100, R := [], new := [(100, .vec true 79 2 [])], N := [100] } (by kernel_rfl) ?_
   refine W.vecEq 100 (nn := true) (e := 79) (k := 2) (rows := []) (rows' := [].map (encSHole false)) (by kernel_rfl) (by kernel_rfl) ?_
   refine W.run Dk 2 101 (by kernel_rfl) ?_
   exact W.fi (by kernel_rfl)
   ) ?_
  refine CO.ret ?_
  have h := Option.some.inj h
  subst h
  exact Ends.gen [(100, 100)] (.inr rfl) (RetV.two rfl (OneR.t (t := 4) (r := .own 100) (by kernel_rfl)) (OneR.t (t := 5) (r := V.b false) (by kernel_rfl))) (by kernel_rfl) (by kernel_rfl) (by kernel_rfl)
 refine CO.ifF hc16 (by kernel_rfl) ?_
 refine CO.skip ?_
 (revert h; refine bR fun r12 hx18 h => ?_)
 refine CO.cutR (tl 34 [(6, .own 101), (7, V.b r12.2)]) [(101, .vec false 79 2 (r12.1.map (encSHole false)))] mix (by
  refine W.run Dk 2 100 (by kernel_rfl) ?_
  refine W.len Dk (eSN false) a0 [] (by kernel_rfl) (by kernel_rfl) ?_
  refine W.run Dk 3 100 (by kernel_rfl) ?_
  refine W.len Dk (eSN false) a1 [] (by kernel_rfl) (by kernel_rfl) ?_
  refine W.run Dk 1 100 (by kernel_rfl) ?_
  refine W.layop Dk (show LayOk _ [] from trivial) (by kernel_rfl) 100 { v := .own 100, R := [], new := [(100, .vec true 79 2 [])], N := [100] } (by kernel_rfl) ?_
  refine W.vecEq 100 (nn := true) (e := 79) (k := 2) (rows := []) (rows' := [].map (encSHole false)) (by kernel_rfl) (by kernel_rfl) ?_
  refine W.call (ms_l32At_ok N a0 (IntKind.wrap .i64 ((a0.length : Int) - 1)) a1 (IntKind.wrap .i64 ((a1.length : Int) - 1)) [] hx18) cok42 [(100, 0)] [(100, 101)] [101] (show LayOk _ [] from trivial) (by kernel_rfl) (by kernel_rfl) ?_
  refine W.run Dk 5 102 (by kernel_rfl) ?_
  exact W.fi (by kernel_rfl)
  ) ?_
 refine CO.seq' ?_
 refine cu Dk mix 2 102 (tl 34 [(6, .own 101), (31, V.b (!r12.2))]) [(101, .vec false 79 2 (r12.1.map (encSHole false)))] (by kernel_rfl) ?_
 (revert h; refine cR (fun hc20 h => ?_) (fun hc20 h => ?_))
 ·refine CO.ifT hc20 (by kernel_rfl) ?_
  refine CO.cutR (tl 34 [(4, .own 102), (5, V.b false)]) [(102, .vec false 79 2 ([].map (encSHole false)))] mix (by
   refine W.layop Dk (show LayOk _ [] from trivial) (by kernel_rfl) 102 { v := .own 102, R := [], new := [(102, .vec true 79 2 [])], N := [102] } (by kernel_rfl) ?_
   refine W.vecEq 102 (nn := true) (e := 79) (k := 2) (rows := []) (rows' := [].map (encSHole false)) (by kernel_rfl) (by kernel_rfl) ?_
   refine W.run Dk 2 103 (by kernel_rfl) ?_
   exact W.fi (by kernel_rfl)
   ) ?_
  refine CO.ret ?_
  have h := Option.some.inj h
  subst h
  exact Ends.gen [(102, 100)] (.inr rfl) (RetV.two rfl (OneR.t (t := 4) (r := .own 102) (by kernel_rfl)) (OneR.t (t := 5) (r := V.b false) (by kernel_rfl))) (by kernel_rfl) (by kernel_rfl) (by kernel_rfl)
 refine CO.ifF hc20 (by kernel_rfl) ?_
 refine CO.skip ?_
 refine cu Dk mix 3 102 (tl 34 [(4, .own 101), (5, V.b true)]) [(101, .vec false 79 2 (r12.1.map (encSHole false)))] (by kernel_rfl) ?_
 refine CO.ret ?_
 have h := Option.some.inj h
 subst h
 exact Ends.gen [(101, 100)] (.inr rfl) (RetV.two rfl (OneR.t (t := 4) (r := .own 101) (by kernel_rfl)) (OneR.t (t := 5) (r := V.b true) (by kernel_rfl))) (by kernel_rfl) (by kernel_rfl) (by kernel_rfl)

theorem mi_within_ok (a0 : Int) (a1 : Int) (a2 : Int) {r : Bool} (h : mi_within a0 a1 a2 = some r) :
    AC Tryz.prog (GS []) 55 [V.i a0, V.i a1, V.i a2] [] (V.b r) [] := by
 rw [mi_within] at h
 refine AC.enter Tryz.func55 rfl ?_
 refine cu Dk mix 1 100 (tl 15 [(0, V.i a0), (1, V.i a1), (2, V.i a2)]) [] (by kernel_rfl) ?_
 (revert h; refine bR fun y1 hv2 h => ?_)
 refine CO.cutR (tl 15 [(6, V.b y1)]) [] mix (by
  refine W.run Dk 4 100 (by kernel_rfl) ?_
  (revert hv2; refine cR (fun hc3 hv2 => ?_) (fun hc3 hv2 => ?_))
  ·refine W.is 10 hc3 (by kernel_rfl) ?_
   refine W.run Dk 5 100 (by kernel_rfl) ?_
   have hv2 := Option.some.inj hv2
   subst hv2
   exact W.fs [] [6] (by kernel_rfl)
  refine W.is 10 hc3 (by kernel_rfl) ?_
  refine W.run Dk 5 100 (by kernel_rfl) ?_
  have hv2 := Option.some.inj hv2
  subst hv2
  exact W.fs [] [6] (by kernel_rfl)
  ) ?_
 refine CO.ret ?_
 have h := Option.some.inj h
 subst h
 exact Ends.gen [] (.inr rfl) (RetV.one rfl (OneR.t (t := 6) (r := V.b y1) (by kernel_rfl))) (by kernel_rfl) (by kernel_rfl) (by kernel_rfl)

theorem mi_startsOf_ok (N : Nat) (a0 : List SNode) {r : ((List Int) × Bool)} (h : mi_startsOf N a0 = some r) :
    AC Tryz.prog (GS []) 104 [.sl false false (a0.map (eSN false))] [] (.tup [.own 100, V.b r.2]) [(100, .vec false 3 1 (r.1.map encI))] := by
 rw [mi_startsOf] at h
 refine AC.enter Tryz.func104 rfl ?_
 refine cu Dk mix 2 100 (tl 57 [(0, .sl false false (a0.map (eSN false))), (2, .loc 100 0), (3, .loc 101 0)]) [(101, .cells 4 [V.b false]), (100, .cells 30 [.c (.slice none 0 0)])] (by kernel_rfl) ?_
 refine CO.seq' ?_
 (revert h; refine bR fun r4 hx5 h => ?_)
 refine CO.cutR (tl 57 [(0, .sl false false (a0.map (eSN false))), (2, .loc 100 0), (3, .loc 101 0), (13, V.b (!r4))]) [(101, .cells 4 [V.b false]), (100, .cells 30 [.c (.slice none 0 0)])] mix (by
  refine W.run Dk 1 102 (by kernel_rfl) ?_
  refine W.len Dk (eSN false) a0 [] (by kernel_rfl) (by kernel_rfl) ?_
  refine W.call0 (mi_within_ok (a0.length : Int) 1 400 hx5) cok55 rfl (by kernel_rfl) ?_
  refine W.run Dk 1 102 (by kernel_rfl) ?_
  exact W.fi (by kernel_rfl)
  ) ?_
 (revert h; refine cR (fun hc6 h => ?_) (fun hc6 h => ?_))
 ·refine CO.ifT hc6 (by kernel_rfl) ?_
  refine cu Dk mix 2 102 (tl 57 [(2, .loc 100 0), (3, .loc 101 0)]) [(101, .cells 4 [V.b false]), (100, .cells 30 [.c (.slice none 0 0)])] (by kernel_rfl) ?_
  refine CO.weak (Weak.nilCell 100 0 102 3 1 (ety := 30) (cs := [.c (.slice none 0 0)]) (by kernel_rfl) (by kernel_rfl) (by kernel_rfl)) ?_
  refine CO.ret ?_
  have h := Option.some.inj h
  subst h
  exact Ends.gen [(102, 100)] (.inr rfl) (RetV.two rfl (OneR.cell Dk (r := .own 102) (i := 100) (ety := 30) (cs := [.own 102]) (by kernel_rfl) (by kernel_rfl) (by kernel_rfl)) (OneR.cell Dk (r := V.b false) (i := 101) (ety := 4) (cs := [V.b false]) (by kernel_rfl) (by kernel_rfl) (by kernel_rfl))) (by kernel_rfl) (by kernel_rfl) (by kernel_rfl)
 refine CO.ifF hc6 (by kernel_rfl) ?_
 refine CO.skip ?_
 (revert h; refine bR fun x6 hx8 h => ?_)
 refine CO.cutR (tl 57 [(0, .sl false false (a0.map (eSN false))), (2, .loc 100 0), (3, .loc 101 0), (4, .loc 103 0)]) [(103, .cells 30 [.own 102]), (102, .vec false 3 1 (x6.map encI)), (101, .cells 4 [V.b false]), (100, .cells 30 [.c (.slice none 0 0)])] mix (by
  refine W.run Dk 1 102 (by kernel_rfl) ?_
  refine W.len Dk (eSN false) a0 [] (by kernel_rfl) (by kernel_rfl) ?_
  refine W.mk Dk encI 8 hx8 102 3 1 [.int .i64 0] (by kernel_rfl) (by kernel_rfl) ?_
  refine W.run Dk 2 103 (by kernel_rfl) ?_
  exact W.fi (by kernel_rfl)
  ) ?_
 refine CO.seq' ?_
 refine CO.cutR (tl 57 [(0, .sl false false (a0.map (eSN false))), (2, .loc 100 0), (3, .loc 101 0), (4, .loc 103 0), (17, .sl false false (a0.map (eSN false))), (18, V.i (a0.length : Int)), (19, V.i 0)]) [(103, .cells 30 [.own 102]), (102, .vec false 3 1 (x6.map encI)), (101, .cells 4 [V.b false]), (100, .cells 30 [.c (.slice none 0 0)])] mix (by
  refine W.run Dk 1 104 (by kernel_rfl) ?_
  refine W.len Dk (eSN false) a0 [] (by kernel_rfl) (by kernel_rfl) ?_
  refine W.run Dk 1 104 (by kernel_rfl) ?_
  exact W.fi (by kernel_rfl)
  ) ?_
 refine CO.block' ?_
 refine CO.loopJ (fun (⟨a0, y203, y204⟩ : ((List SNode) × Int × (List Int))) => ⟨tl 57 [(0, .sl false false (a0.map (eSN false))), (2, .loc 100 0), (3, .loc 101 0), (4, .loc 102 0), (17, .sl false false (a0.map (eSN false))), (18, V.i (a0.length : Int)), (19, V.i y203)], [(100, .cells 30 [.c (.slice none 0 0)]), (101, .cells 4 [V.b false]), (102, .cells 30 [.own 103]), (103, .vec false 3 1 (y204.map encI))]⟩) (fun n i => mi_startsOf_l1 N n i = some r) (n0 := N) (i0 := (a0, 0, x6)) (Weak.sel [(100, 100), (101, 101), (103, 102), (102, 103)] [0, 2, 3, 4, 17, 18, 19] (by kernel_rfl) (by kernel_rfl) (by kernel_rfl)) h (fun i h => by simp [mi_startsOf_l1] at h) ?_
 rintro n1 ⟨a0, y203, y204⟩ h481 ih482
 rw [mi_startsOf_l1] at h481
 refine cu Dk mix 1 272 (tl 57 [(0, .sl false false (a0.map (eSN false))), (2, .loc 100 0), (3, .loc 101 0), (4, .loc 102 0), (17, .sl false false (a0.map (eSN false))), (18, V.i (a0.length : Int)), (19, V.i y203), (20, V.b (decide (y203 < (a0.length : Int))))]) [(100, .cells 30 [.c (.slice none 0 0)]), (101, .cells 4 [V.b false]), (102, .cells 30 [.own 103]), (103, .vec false 3 1 (y204.map encI))] (by kernel_rfl) ?_
 refine CO.seq' ?_
 (revert h481; refine cR (fun hc484 h481 => ?_) (fun hc484 h481 => ?_))
 ·refine CO.ifT hc484 (by kernel_rfl) ?_
  refine CO.skip ?_
  refine CO.seq' ?_
  refine CO.block' ?_
  (revert h481; refine bR fun e322 hx556 h481 => ?_)
  refine CO.cutR (tl 57 [(0, .sl false false (a0.map (eSN false))), (2, .loc 100 0), (3, .loc 101 0), (4, .loc 102 0), (5, V.i y203), (6, .loc 272 0), (17, .sl false false (a0.map (eSN false))), (18, V.i (a0.length : Int)), (19, V.i y203)]) [(272, .cells 48 [V.i e322.Kind, V.i e322.Op, V.s e322.Text, V.s e322.Other, .sl false false (e322.Kids.map encI)]), (100, .cells 30 [.c (.slice none 0 0)]), (101, .cells 4 [V.b false]), (102, .cells 30 [.own 103]), (103, .vec false 3 1 (y204.map encI))] mix (by
   refine W.run Dk 1 272 (by kernel_rfl) ?_
   refine W.ixD Dk (eSN false) hx556 5 (by kernel_rfl) (by kernel_rfl) ?_
   refine W.run Dk 4 272 (by kernel_rfl) ?_
   exact W.fi (by kernel_rfl)
   ) ?_
  refine cu Dk mix 4 273 (tl 57 [(0, .sl false false (a0.map (eSN false))), (2, .loc 100 0), (3, .loc 101 0), (4, .loc 102 0), (5, V.i y203), (6, .loc 272 0), (7, .loc 273 0), (17, .sl false false (a0.map (eSN false))), (18, V.i (a0.length : Int)), (19, V.i y203)]) [(273, .cells 3 [V.i (IntKind.wrap .i64 (y203 - 1))]), (272, .cells 48 [V.i e322.Kind, V.i e322.Op, V.s e322.Text, V.s e322.Other, .sl false false (e322.Kids.map encI)]), (100, .cells 30 [.c (.slice none 0 0)]), (101, .cells 4 [V.b false]), (102, .cells 30 [.own 103]), (103, .vec false 3 1 (y204.map encI))] (by kernel_rfl) ?_
  refine CO.seq' ?_
  refine CO.cutR (tl 57 [(0, .sl false false (a0.map (eSN false))), (2, .loc 100 0), (3, .loc 101 0), (4, .loc 102 0), (5, V.i y203), (7, .loc 273 0), (17, .sl false false (a0.map (eSN false))), (18, V.i (a0.length : Int)), (19, V.i y203), (28, .fn 137 [.loc 274 0])]) [(274, .cells 30 [.sl false false (e322.Kids.map encI)]), (273, .cells 3 [V.i (IntKind.wrap .i64 (y203 - 1))]), (100, .cells 30 [.c (.slice none 0 0)]), (101, .cells 4 [V.b false]), (102, .cells 30 [.own 103]), (103, .vec false 3 1 (y204.map encI))] mix (by
   refine W.run Dk 2 274 (by kernel_rfl) ?_
   refine W.call (back119 e322.Kids) cok119 [] [(100, 274)] [274] (show LayOk _ [] from trivial) (by kernel_rfl) (by kernel_rfl) ?_
   exact W.fi (by kernel_rfl)
   ) ?_
  refine CO.block' ?_
  refine CO.rangeB backok137 cok137 V.i e322.Kids [(100, 2), (101, 3), (102, 4), (273, 1), (274, 0), (103, 5)] [0, 2, 3, 4, 5, 7, 17, 18, 19, 28] (tl 57 [(0, .sl false false (a0.map (eSN false))), (2, .loc 2 0), (3, .loc 3 0), (4, .loc 4 0), (5, V.i y203), (7, .loc 1 0), (17, .sl false false (a0.map (eSN false))), (18, V.i (a0.length : Int)), (19, V.i y203), (28, .fn 137 [.loc 0 0])]) (IntKind.wrap .i64 (y203 - 1)) (fun (y345 : Int) => [(2, .cells 30 [.c (.slice none 0 0)]), (3, .cells 4 [V.b false]), (4, .cells 30 [.own 5]), (1, .cells 3 [V.i y345]), (0, .cells 30 [.sl false false (e322.Kids.map encI)]), (5, .vec false 3 1 (y204.map encI))]) (fun es i => mi_startsOf_r2 N (mi_startsOf_l1 N n1) a0 y203 e322 y204 es i = some r) 0 30 false 29 30 (by kernel_rfl) (by kernel_rfl) (by kernel_rfl) (by kernel_rfl) (by rintro y345; kernel_rfl) h481 ?_ ?_
  ·rintro e339 es340 y345 h609 L
   rw [mi_startsOf_r2] at h609
   refine ⟨tl 57 [(0, .sl false false (a0.map (eSN false))), (2, .loc 2 0), (3, .loc 3 0), (4, .loc 4 0), (5, V.i y203), (7, .loc 1 0), (9, V.i e339), (17, .sl false false (a0.map (eSN false))), (18, V.i (a0.length : Int)), (19, V.i y203), (28, .fn 137 [.loc 0 0])], [(2, .cells 30 [.c (.slice none 0 0)]), (3, .cells 4 [V.b false]), (4, .cells 30 [.own 5]), (1, .cells 3 [V.i y345]), (0, .cells 30 [.sl false false (e322.Kids.map encI)]), (5, .vec false 3 1 (y204.map encI))], ?_, ?_⟩
   ·refine ce Dk mix 1 316 (tl 57 [(0, .sl false false (a0.map (eSN false))), (2, .loc 2 0), (3, .loc 3 0), (4, .loc 4 0), (5, V.i y203), (7, .loc 1 0), (9, V.i e339), (17, .sl false false (a0.map (eSN false))), (18, V.i (a0.length : Int)), (19, V.i y203), (28, .fn 137 [.loc 0 0])]) [(2, .cells 30 [.c (.slice none 0 0)]), (3, .cells 4 [V.b false]), (4, .cells 30 [.own 5]), (1, .cells 3 [V.i y345]), (0, .cells 30 [.sl false false (e322.Kids.map encI)]), (5, .vec false 3 1 (y204.map encI))] (by kernel_rfl) (fun st hw => ?_)
    exact ⟨rfl, hw⟩
   ·refine CO.block' ?_
    refine CO.seq' ?_
    (revert h609; refine bR fun y352 hv616 h609 => ?_)
    refine CO.cutR (tl 57 [(0, .sl false false (a0.map (eSN false))), (2, .loc 2 0), (3, .loc 3 0), (4, .loc 4 0), (5, V.i y203), (7, .loc 1 0), (9, V.i e339), (17, .sl false false (a0.map (eSN false))), (18, V.i (a0.length : Int)), (19, V.i y203), (28, .fn 137 [.loc 0 0]), (37, V.b y352)]) [(2, .cells 30 [.c (.slice none 0 0)]), (3, .cells 4 [V.b false]), (4, .cells 30 [.own 5]), (1, .cells 3 [V.i y345]), (0, .cells 30 [.sl false false (e322.Kids.map encI)]), (5, .vec false 3 1 (y204.map encI))] mix (by
     refine W.run Dk 3 316 (by kernel_rfl) ?_
     (revert hv616; refine cR (fun hc617 hv616 => ?_) (fun hc617 hv616 => ?_))
     ·refine W.is 33 hc617 (by kernel_rfl) ?_
      refine W.run Dk 4 316 (by kernel_rfl) ?_
      have hv616 := Option.some.inj hv616
      subst hv616
      exact W.fs [(2, 2), (3, 3), (4, 4), (1, 1), (0, 0), (5, 5)] [0, 2, 3, 4, 5, 7, 9, 17, 18, 19, 28, 37] (by kernel_rfl)
     refine W.is 33 hc617 (by kernel_rfl) ?_
     refine W.run Dk 4 316 (by kernel_rfl) ?_
     have hv616 := Option.some.inj hv616
     subst hv616
     exact W.fs [(2, 2), (3, 3), (4, 4), (1, 1), (0, 0), (5, 5)] [0, 2, 3, 4, 5, 7, 9, 17, 18, 19, 28, 37] (by kernel_rfl)
     ) ?_
    (revert h609; refine cR (fun hc618 h609 => ?_) (fun hc618 h609 => ?_))
    ·refine CO.ifT hc618 (by kernel_rfl) ?_
     refine cu Dk mix 2 316 (tl 57 [(2, .loc 2 0), (3, .loc 3 0)]) [(3, .cells 4 [V.b false]), (2, .cells 30 [.c (.slice none 0 0)]), (4, .cells 30 [.own 5]), (1, .cells 3 [V.i y345]), (0, .cells 30 [.sl false false (e322.Kids.map encI)]), (5, .vec false 3 1 (y204.map encI))] (by kernel_rfl) ?_
     refine CO.weak (Weak.nilCell 2 0 316 3 1 (ety := 30) (cs := [.c (.slice none 0 0)]) (by kernel_rfl) (by kernel_rfl) (by kernel_rfl)) ?_
     refine CO.ret ?_
     refine Fin.mk' [(316, 316), (3, 101), (2, 100), (4, 102), (1, 273), (0, 274), (5, 103)] [0, 2, 3, 4, 5, 7, 17, 18, 19, 28] (tl 57 [(0, .sl false false (a0.map (eSN false))), (2, .loc 100 0), (3, .loc 101 0), (4, .loc 102 0), (5, V.i y203), (7, .loc 273 0), (17, .sl false false (a0.map (eSN false))), (18, V.i (a0.length : Int)), (19, V.i y203), (28, .fn 137 [.loc 274 0])]) [(316, .vec false 3 1 ([].map encI)), (101, .cells 4 [V.b false]), (100, .cells 30 [.own 316]), (102, .cells 30 [.own 103]), (273, .cells 3 [V.i y345]), (274, .cells 30 [.sl false false (e322.Kids.map encI)]), (103, .vec false 3 1 (y204.map encI))] (by kernel_rfl) (by kernel_rfl) (by kernel_rfl) ?_
     have h609 := Option.some.inj h609
     subst h609
     exact Ends.gen [(316, 100)] (.inr rfl) (RetV.two rfl (OneR.cell Dk (r := .own 316) (i := 100) (ety := 30) (cs := [.own 316]) (by kernel_rfl) (by kernel_rfl) (by kernel_rfl)) (OneR.cell Dk (r := V.b false) (i := 101) (ety := 4) (cs := [V.b false]) (by kernel_rfl) (by kernel_rfl) (by kernel_rfl))) (by kernel_rfl) (by kernel_rfl) (by kernel_rfl)
    refine CO.ifF hc618 (by kernel_rfl) ?_
    refine CO.skip ?_
    (revert h609; refine bR fun e354 hx620 h609 => ?_)
    refine CO.endR (tl 57 [(0, .sl false false (a0.map (eSN false))), (2, .loc 2 0), (3, .loc 3 0), (4, .loc 4 0), (5, V.i y203), (7, .loc 1 0), (17, .sl false false (a0.map (eSN false))), (18, V.i (a0.length : Int)), (19, V.i y203), (28, .fn 137 [.loc 0 0])]) [(1, .cells 3 [V.i (IntKind.wrap .i64 (e354 - 1))]), (2, .cells 30 [.c (.slice none 0 0)]), (3, .cells 4 [V.b false]), (4, .cells 30 [.own 5]), (0, .cells 30 [.sl false false (e322.Kids.map encI)]), (5, .vec false 3 1 (y204.map encI))] mix (by
     refine W.run Dk 2 316 (by kernel_rfl) ?_
     refine W.ixO Dk encI hx620 5 1 (by kernel_rfl) ?_
     refine W.ldO Dk encI hx620 3 5 0 (V.i e354) (by kernel_rfl) (by kernel_rfl) ?_
     refine W.run Dk 2 316 (by kernel_rfl) ?_
     exact W.fi (by kernel_rfl)
     ) (fun st hw => ?_)
    exact ⟨tl 57 [], _, (hw.trans (Weak.sel [(2, 2), (3, 3), (4, 4), (1, 1), (0, 0), (5, 5)] [] (by kernel_rfl) (by kernel_rfl) (by kernel_rfl))), (IntKind.wrap .i64 (e354 - 1)), h609, rfl⟩
  ·rintro y345 h610
   rw [mi_startsOf_r2] at h610
   refine Fin.mk' [(2, 100), (3, 101), (4, 102), (1, 273), (0, 274), (5, 103)] [0, 2, 3, 4, 5, 7, 17, 18, 19, 28] (tl 57 [(0, .sl false false (a0.map (eSN false))), (2, .loc 100 0), (3, .loc 101 0), (4, .loc 102 0), (5, V.i y203), (7, .loc 273 0), (17, .sl false false (a0.map (eSN false))), (18, V.i (a0.length : Int)), (19, V.i y203), (28, .fn 137 [.loc 274 0])]) [(100, .cells 30 [.c (.slice none 0 0)]), (101, .cells 4 [V.b false]), (102, .cells 30 [.own 103]), (273, .cells 3 [V.i y345]), (274, .cells 30 [.sl false false (e322.Kids.map encI)]), (103, .vec false 3 1 (y204.map encI))] (by kernel_rfl) (by kernel_rfl) (by kernel_rfl) ?_
   (revert h610; refine bR fun e357 hx623 h610 => ?_)
   (revert h610; refine bR fun x358 hu624 h610 => ?_)
   refine CO.endR (tl 57 [(0, .sl false false (a0.map (eSN false))), (2, .loc 100 0), (3, .loc 101 0), (4, .loc 102 0), (17, .sl false false (a0.map (eSN false))), (18, V.i (a0.length : Int)), (19, V.i y203)]) [(103, .vec false 3 1 (x358.map encI)), (100, .cells 30 [.c (.slice none 0 0)]), (101, .cells 4 [V.b false]), (102, .cells 30 [.own 103])] mix (by
    refine W.run Dk 4 336 (by kernel_rfl) ?_
    refine W.ixO Dk encI hx623 103 1 (by kernel_rfl) ?_
    refine W.stO Dk encI (x' := (IntKind.wrap .i64 (y345 + 1))) hx623 hu624 (j := 103) (nn := false) (ety := 3) (sz := 1) (b := 0) (ys := [V.i (IntKind.wrap .i64 (y345 + 1))]) (C := []) (R := []) (by kernel_rfl) (by kernel_rfl) ?_
    exact W.fi (by kernel_rfl)
    ) (fun st hw => ?_)
   refine CO.weak hw ?_
   refine ce Dk mix 2 336 (tl 57 [(0, .sl false false (a0.map (eSN false))), (2, .loc 100 0), (3, .loc 101 0), (4, .loc 102 0), (17, .sl false false (a0.map (eSN false))), (18, V.i (a0.length : Int)), (19, V.i (IntKind.wrap .i64 (y203 + 1)))]) [(103, .vec false 3 1 (x358.map encI)), (100, .cells 30 [.c (.slice none 0 0)]), (101, .cells 4 [V.b false]), (102, .cells 30 [.own 103])] (by kernel_rfl) (fun st hw => ?_)
   exact ih482 (a0, (IntKind.wrap .i64 (y203 + 1)), x358) h610 _ (hw.trans (Weak.sel [(100, 100), (101, 101), (102, 102), (103, 103)] [0, 2, 3, 4, 17, 18, 19] (by kernel_rfl) (by kernel_rfl) (by kernel_rfl)))
 refine CO.ifF hc484 (by kernel_rfl) ?_
 refine CO.exit ?_
 (revert h481; refine bR fun e360 hx626 h481 => ?_)
 refine CO.cutR (tl 57 [(2, .loc 100 0), (3, .loc 101 0)]) [(101, .cells 4 [V.b (e360 == 0)]), (100, .cells 30 [.own 103]), (103, .vec false 3 1 (y204.map encI))] mix (by
  refine W.run Dk 3 272 (by kernel_rfl) ?_
  refine W.len Dk (eSN false) a0 [] (by kernel_rfl) (by kernel_rfl) ?_
  refine W.run Dk 1 272 (by kernel_rfl) ?_
  refine W.ixO Dk encI hx626 103 1 (by kernel_rfl) ?_
  refine W.ldO Dk encI hx626 3 103 0 (V.i e360) (by kernel_rfl) (by kernel_rfl) ?_
  refine W.run Dk 3 272 (by kernel_rfl) ?_
  exact W.fi (by kernel_rfl)
  ) ?_
 refine CO.ret ?_
 have h481 := Option.some.inj h481
 subst h481
 exact Ends.gen [(103, 100)] (.inr rfl) (RetV.two rfl (OneR.cell Dk (r := .own 103) (i := 100) (ety := 30) (cs := [.own 103]) (by kernel_rfl) (by kernel_rfl) (by kernel_rfl)) (OneR.cell Dk (r := V.b (e360 == 0)) (i := 101) (ety := 4) (cs := [V.b (e360 == 0)]) (by kernel_rfl) (by kernel_rfl) (by kernel_rfl))) (by kernel_rfl) (by kernel_rfl) (by kernel_rfl)

theorem mi_ShapeOk_ok (N : Nat) (a0 : List SNode) {r : Bool} (h : mi_ShapeOk N a0 = some r) :
    AC Tryz.prog (GS []) 75 [.sl false false (a0.map (eSN false))] [] (V.b r) [] := by
 rw [mi_ShapeOk] at h
 refine AC.enter Tryz.func75 rfl ?_
 refine cu Dk mix 1 100 (tl 11 [(0, .sl false false (a0.map (eSN false)))]) [] (by kernel_rfl) ?_
 (revert h; refine bR fun r2 hx2 h => ?_)
 refine CO.cutR (tl 11 [(4, V.b r2.2)]) [] mix (by
  refine W.run Dk 1 100 (by kernel_rfl) ?_
  refine W.call (mi_startsOf_ok N a0 hx2) cok104 [] [(100, 100)] [100] (show LayOk _ [] from trivial) (by kernel_rfl) (by kernel_rfl) ?_
  refine W.run Dk 5 101 (by kernel_rfl) ?_
  exact W.fi (by kernel_rfl)
  ) ?_
 refine cu Dk mix 2 101 (tl 11 [(2, V.b r2.2)]) [] (by kernel_rfl) ?_
 refine CO.ret ?_
 have h := Option.some.inj h
 subst h
 exact Ends.gen [] (.inr rfl) (RetV.one rfl (OneR.t (t := 2) (r := V.b r2.2) (by kernel_rfl))) (by kernel_rfl) (by kernel_rfl) (by kernel_rfl)

theorem mi_IsExpr_ok (a0 : Int) {r : Bool} (h : mi_IsExpr a0 = some r) :
    AC Tryz.prog (GS []) 46 [V.i a0] [] (V.b r) [] := by
 rw [mi_IsExpr] at h
 refine AC.enter Tryz.func46 rfl ?_
 refine cu Dk mix 1 100 (tl 5 [(0, V.i a0)]) [] (by kernel_rfl) ?_
 (revert h; refine bR fun r2 hx2 h => ?_)
 refine CO.cutR (tl 5 [(2, V.b r2)]) [] mix (by
  refine W.run Dk 1 100 (by kernel_rfl) ?_
  refine W.call0 (mi_within_ok a0 1 15 hx2) cok55 rfl (by kernel_rfl) ?_
  refine W.run Dk 1 100 (by kernel_rfl) ?_
  exact W.fi (by kernel_rfl)
  ) ?_
 refine CO.ret ?_
 have h := Option.some.inj h
 subst h
 exact Ends.gen [] (.inr rfl) (RetV.one rfl (OneR.t (t := 2) (r := V.b r2) (by kernel_rfl))) (by kernel_rfl) (by kernel_rfl) (by kernel_rfl)

theorem mi_IsLetter_ok (a0 : Int) {r : Bool} (h : mi_IsLetter a0 = some r) :
    AC Tryz.prog (GS []) 154 [V.i a0] [] (V.b r) [] := by
 rw [mi_IsLetter] at h
 refine AC.enter Tryz.func154 rfl ?_
 refine cu Dk mix 1 100 (tl 21 [(0, V.i a0)]) [] (by kernel_rfl) ?_
 (revert h; refine bR fun y1 hv7 h => ?_)
 refine CO.cutR (tl 21 [(2, V.b y1)]) [] mix (by
  refine W.run Dk 3 100 (by kernel_rfl) ?_
  (revert hv7; refine cR (fun hc8 hv7 => ?_) (fun hc8 hv7 => ?_))
  ·refine W.is 5 hc8 (by kernel_rfl) ?_
   refine W.run Dk 4 100 (by kernel_rfl) ?_
   (revert hv7; refine cR (fun hc9 hv7 => ?_) (fun hc9 hv7 => ?_))
   ·refine W.is 9 hc9 (by kernel_rfl) ?_
    refine W.run Dk 12 100 (by kernel_rfl) ?_
    have hv7 := Option.some.inj hv7
    subst hv7
    exact W.fs [] [2] (by kernel_rfl)
   refine W.is 9 hc9 (by kernel_rfl) ?_
   refine W.run Dk 3 100 (by kernel_rfl) ?_
   (revert hv7; refine cR (fun hc10 hv7 => ?_) (fun hc10 hv7 => ?_))
   ·refine W.is 12 hc10 (by kernel_rfl) ?_
    refine W.run Dk 5 100 (by kernel_rfl) ?_
    (revert hv7; refine cR (fun hc11 hv7 => ?_) (fun hc11 hv7 => ?_))
    ·refine W.is 17 hc11 (by kernel_rfl) ?_
     refine W.run Dk 4 100 (by kernel_rfl) ?_
     have hv7 := Option.some.inj hv7
     subst hv7
     exact W.fs [] [2] (by kernel_rfl)
    refine W.is 17 hc11 (by kernel_rfl) ?_
    refine W.run Dk 4 100 (by kernel_rfl) ?_
    have hv7 := Option.some.inj hv7
    subst hv7
    exact W.fs [] [2] (by kernel_rfl)
   refine W.is 12 hc10 (by kernel_rfl) ?_
   refine W.run Dk 9 100 (by kernel_rfl) ?_
   have hv7 := Option.some.inj hv7
   subst hv7
   exact W.fs [] [2] (by kernel_rfl)
  refine W.is 5 hc8 (by kernel_rfl) ?_
  refine W.run Dk 7 100 (by kernel_rfl) ?_
  (revert hv7; refine cR (fun hc12 hv7 => ?_) (fun hc12 hv7 => ?_))
  ·refine W.is 12 hc12 (by kernel_rfl) ?_
   refine W.run Dk 5 100 (by kernel_rfl) ?_
   (revert hv7; refine cR (fun hc13 hv7 => ?_) (fun hc13 hv7 => ?_))
   ·refine W.is 17 hc13 (by kernel_rfl) ?_
    refine W.run Dk 4 100 (by kernel_rfl) ?_
    have hv7 := Option.some.inj hv7
    subst hv7
    exact W.fs [] [2] (by kernel_rfl)
   refine W.is 17 hc13 (by kernel_rfl) ?_
   refine W.run Dk 4 100 (by kernel_rfl) ?_
   have hv7 := Option.some.inj hv7
   subst hv7
   exact W.fs [] [2] (by kernel_rfl)
  refine W.is 12 hc12 (by kernel_rfl) ?_
  refine W.run Dk 9 100 (by kernel_rfl) ?_
  have hv7 := Option.some.inj hv7
  subst hv7
  exact W.fs [] [2] (by kernel_rfl)
  ) ?_
 refine CO.ret ?_
 have h := Option.some.inj h
 subst h
 exact Ends.gen [] (.inr rfl) (RetV.one rfl (OneR.t (t := 2) (r := V.b y1) (by kernel_rfl))) (by kernel_rfl) (by kernel_rfl) (by kernel_rfl)

theorem mi_IsDigit_ok (a0 : Int) {r : Bool} (h : mi_IsDigit a0 = some r) :
    AC Tryz.prog (GS []) 162 [V.i a0] [] (V.b r) [] := by
 rw [mi_IsDigit] at h
 refine AC.enter Tryz.func162 rfl ?_
 refine cu Dk mix 1 100 (tl 9 [(0, V.i a0)]) [] (by kernel_rfl) ?_
 (revert h; refine bR fun y1 hv2 h => ?_)
 refine CO.cutR (tl 9 [(2, V.b y1)]) [] mix (by
  refine W.run Dk 3 100 (by kernel_rfl) ?_
  (revert hv2; refine cR (fun hc3 hv2 => ?_) (fun hc3 hv2 => ?_))
  ·refine W.is 5 hc3 (by kernel_rfl) ?_
   refine W.run Dk 4 100 (by kernel_rfl) ?_
   have hv2 := Option.some.inj hv2
   subst hv2
   exact W.fs [] [2] (by kernel_rfl)
  refine W.is 5 hc3 (by kernel_rfl) ?_
  refine W.run Dk 4 100 (by kernel_rfl) ?_
  have hv2 := Option.some.inj hv2
  subst hv2
  exact W.fs [] [2] (by kernel_rfl)
  ) ?_
 refine CO.ret ?_
 have h := Option.some.inj h
 subst h
 exact Ends.gen [] (.inr rfl) (RetV.one rfl (OneR.t (t := 2) (r := V.b y1) (by kernel_rfl))) (by kernel_rfl) (by kernel_rfl) (by kernel_rfl)

theorem mi_IsWordByte_ok (a0 : Int) {r : Bool} (h : mi_IsWordByte a0 = some r) :
    AC Tryz.prog (GS []) 153 [V.i a0] [] (V.b r) [] := by
 rw [mi_IsWordByte] at h
 refine AC.enter Tryz.func153 rfl ?_
 refine cu Dk mix 1 100 (tl 9 [(0, V.i a0)]) [] (by kernel_rfl) ?_
 (revert h; refine bR fun y3 hv4 h => ?_)
 refine CO.cutR (tl 9 [(2, V.b y3)]) [] mix (by
  refine W.run Dk 1 100 (by kernel_rfl) ?_
  (revert hv4; refine bR fun r4 hx5 hv4 => ?_)
  refine W.call0 (mi_IsLetter_ok a0 hx5) cok154 rfl (by kernel_rfl) ?_
  refine W.run Dk 1 100 (by kernel_rfl) ?_
  (revert hv4; refine cR (fun hc6 hv4 => ?_) (fun hc6 hv4 => ?_))
  ·refine W.is 5 hc6 (by kernel_rfl) ?_
   refine W.run Dk 4 100 (by kernel_rfl) ?_
   have hv4 := Option.some.inj hv4
   subst hv4
   exact W.fs [] [2] (by kernel_rfl)
  refine W.is 5 hc6 (by kernel_rfl) ?_
  refine W.run Dk 1 100 (by kernel_rfl) ?_
  (revert hv4; refine bR fun r5 hx7 hv4 => ?_)
  refine W.call0 (mi_IsDigit_ok a0 hx7) cok162 rfl (by kernel_rfl) ?_
  refine W.run Dk 2 100 (by kernel_rfl) ?_
  have hv4 := Option.some.inj hv4
  subst hv4
  exact W.fs [] [2] (by kernel_rfl)
  ) ?_
 refine CO.ret ?_
 have h := Option.some.inj h
 subst h
 exact Ends.gen [] (.inr rfl) (RetV.one rfl (OneR.t (t := 2) (r := V.b y3) (by kernel_rfl))) (by kernel_rfl) (by kernel_rfl) (by kernel_rfl)

theorem mi_NameShape_ok (N : Nat) (a0 : List UInt8) {r : Bool} (h : mi_NameShape N a0 = some r) :
    AC Tryz.prog (GS []) 138 [V.s a0] [] (V.b r) [] := by
 rw [mi_NameShape] at h
 refine AC.enter Tryz.func138 rfl ?_
 refine cu Dk mix 1 100 (tl 25 [(0, V.s a0)]) [] (by kernel_rfl) ?_
 refine CO.seq' ?_
 refine cu Dk mix 3 100 (tl 25 [(0, V.s a0), (5, V.i (a0.length : Int)), (6, V.i 0)]) [] (by kernel_rfl) ?_
 refine CO.block' ?_
 refine CO.loopJ (fun (⟨a0, y35⟩ : ((List UInt8) × Int)) => ⟨tl 25 [(0, V.s a0), (5, V.i (a0.length : Int)), (6, V.i y35)], []⟩) (fun n i => mi_NameShape_l1 N n i = some r) (n0 := N) (i0 := (a0, 0)) (Weak.sel [] [0, 5, 6] (by kernel_rfl) (by kernel_rfl) (by kernel_rfl)) h (fun i h => by simp [mi_NameShape_l1] at h) ?_
 rintro n1 ⟨a0, y35⟩ h63 ih64
 rw [mi_NameShape_l1] at h63
 refine cu Dk mix 1 160 (tl 25 [(0, V.s a0), (5, V.i (a0.length : Int)), (6, V.i y35), (7, V.b (decide (y35 < (a0.length : Int))))]) [] (by kernel_rfl) ?_
 refine CO.seq' ?_
 (revert h63; refine cR (fun hc66 h63 => ?_) (fun hc66 h63 => ?_))
 ·refine CO.ifT hc66 (by kernel_rfl) ?_
  refine CO.skip ?_
  refine CO.seq' ?_
  refine CO.block' ?_
  refine cu Dk mix 2 160 (tl 25 [(0, V.s a0), (3, V.i y35), (5, V.i (a0.length : Int)), (6, V.i y35)]) [] (by kernel_rfl) ?_
  (revert h63; refine bR fun b51 hx74 h63 => ?_)
  (revert h63; refine bR fun r52 hx75 h63 => ?_)
  refine CO.cutR (tl 25 [(0, V.s a0), (5, V.i (a0.length : Int)), (6, V.i y35), (14, V.b (!r52))]) [] mix (by
   refine W.run Dk 2 160 (by kernel_rfl) ?_
   refine W.ixS Dk hx74 (by kernel_rfl) ?_
   refine W.run Dk 1 160 (by kernel_rfl) ?_
   refine W.call0 (mi_IsWordByte_ok (IntKind.wrap .i64 ((b51).toNat : Int)) hx75) cok153 rfl (by kernel_rfl) ?_
   refine W.run Dk 1 160 (by kernel_rfl) ?_
   exact W.fi (by kernel_rfl)
   ) ?_
  (revert h63; refine cR (fun hc76 h63 => ?_) (fun hc76 h63 => ?_))
  ·refine CO.ifT hc76 (by kernel_rfl) ?_
   refine cu Dk mix 1 160 (tl 25 [(2, V.b false)]) [] (by kernel_rfl) ?_
   refine CO.ret ?_
   have h63 := Option.some.inj h63
   subst h63
   exact Ends.gen [] (.inr rfl) (RetV.one rfl (OneR.t (t := 2) (r := V.b false) (by kernel_rfl))) (by kernel_rfl) (by kernel_rfl) (by kernel_rfl)
  refine CO.ifF hc76 (by kernel_rfl) ?_
  refine CO.skip ?_
  refine ce Dk mix 2 160 (tl 25 [(0, V.s a0), (5, V.i (a0.length : Int)), (6, V.i (IntKind.wrap .i64 (y35 + 1)))]) [] (by kernel_rfl) (fun st hw => ?_)
  exact ih64 (a0, (IntKind.wrap .i64 (y35 + 1))) h63 _ (hw.trans (Weak.sel [] [0, 5, 6] (by kernel_rfl) (by kernel_rfl) (by kernel_rfl)))
 refine CO.ifF hc66 (by kernel_rfl) ?_
 refine CO.exit ?_
 (revert h63; refine bR fun y56 hv81 h63 => ?_)
 refine CO.cutR (tl 25 [(2, V.b y56)]) [] mix (by
  refine W.run Dk 2 160 (by kernel_rfl) ?_
  (revert hv81; refine bR fun r57 hx82 hv81 => ?_)
  refine W.call0 (mi_within_ok (a0.length : Int) 1 12 hx82) cok55 rfl (by kernel_rfl) ?_
  refine W.run Dk 1 160 (by kernel_rfl) ?_
  (revert hv81; refine cR (fun hc83 hv81 => ?_) (fun hc83 hv81 => ?_))
  ·refine W.is 19 hc83 (by kernel_rfl) ?_
   refine W.run Dk 1 160 (by kernel_rfl) ?_
   (revert hv81; refine bR fun b58 hx84 hv81 => ?_)
   refine W.ixS Dk hx84 (by kernel_rfl) ?_
   refine W.run Dk 1 160 (by kernel_rfl) ?_
   (revert hv81; refine bR fun r59 hx85 hv81 => ?_)
   refine W.call0 (mi_IsLetter_ok (IntKind.wrap .i64 ((b58).toNat : Int)) hx85) cok154 rfl (by kernel_rfl) ?_
   refine W.run Dk 2 160 (by kernel_rfl) ?_
   have hv81 := Option.some.inj hv81
   subst hv81
   exact W.fs [] [2] (by kernel_rfl)
  refine W.is 19 hc83 (by kernel_rfl) ?_
  refine W.run Dk 6 160 (by kernel_rfl) ?_
  have hv81 := Option.some.inj hv81
  subst hv81
  exact W.fs [] [2] (by kernel_rfl)
  ) ?_
 refine CO.ret ?_
 have h63 := Option.some.inj h63
 subst h63
 exact Ends.gen [] (.inr rfl) (RetV.one rfl (OneR.t (t := 2) (r := V.b y56) (by kernel_rfl))) (by kernel_rfl) (by kernel_rfl) (by kernel_rfl)

theorem m_slices_Index_string_ok (N : Nat) (a0 : List (List UInt8)) (a1 : List UInt8) {r : Int} (h : m_slices_Index_string N a0 a1 = some r) :
    AC Tryz.prog (GS []) 145 [.sl false false (a0.map encS), V.s a1] [] (V.i r) [] := by
 rw [m_slices_Index_string] at h
 refine AC.enter Tryz.func145 rfl ?_
 refine cu Dk mix 1 100 (tl 19 [(0, .sl false false (a0.map encS)), (1, V.s a1)]) [] (by kernel_rfl) ?_
 refine CO.seq' ?_
 refine CO.cutR (tl 19 [(0, .sl false false (a0.map encS)), (1, V.s a1), (7, V.i (a0.length : Int)), (8, V.i 0)]) [] mix (by
  refine W.run Dk 1 100 (by kernel_rfl) ?_
  refine W.len Dk encS a0 [] (by kernel_rfl) (by kernel_rfl) ?_
  refine W.run Dk 1 100 (by kernel_rfl) ?_
  exact W.fi (by kernel_rfl)
  ) ?_
 refine CO.block' ?_
 refine CO.loopJ (fun (⟨a0, a1, y19⟩ : ((List (List UInt8)) × (List UInt8) × Int)) => ⟨tl 19 [(0, .sl false false (a0.map encS)), (1, V.s a1), (7, V.i (a0.length : Int)), (8, V.i y19)], []⟩) (fun n i => m_slices_Index_string_l1 N n i = some r) (n0 := N) (i0 := (a0, a1, 0)) (Weak.sel [] [0, 1, 7, 8] (by kernel_rfl) (by kernel_rfl) (by kernel_rfl)) h (fun i h => by simp [m_slices_Index_string_l1] at h) ?_
 rintro n1 ⟨a0, a1, y19⟩ h43 ih44
 rw [m_slices_Index_string_l1] at h43
 refine cu Dk mix 1 160 (tl 19 [(0, .sl false false (a0.map encS)), (1, V.s a1), (7, V.i (a0.length : Int)), (8, V.i y19), (9, V.b (decide (y19 < (a0.length : Int))))]) [] (by kernel_rfl) ?_
 refine CO.seq' ?_
 (revert h43; refine cR (fun hc46 h43 => ?_) (fun hc46 h43 => ?_))
 ·refine CO.ifT hc46 (by kernel_rfl) ?_
  refine CO.skip ?_
  refine CO.seq' ?_
  refine CO.block' ?_
  refine cu Dk mix 2 160 (tl 19 [(0, .sl false false (a0.map encS)), (1, V.s a1), (5, V.i y19), (7, V.i (a0.length : Int)), (8, V.i y19)]) [] (by kernel_rfl) ?_
  (revert h43; refine bR fun e28 hx51 h43 => ?_)
  refine CO.cutR (tl 19 [(0, .sl false false (a0.map encS)), (1, V.s a1), (5, V.i y19), (7, V.i (a0.length : Int)), (8, V.i y19), (16, V.b (a1 == e28))]) [] mix (by
   refine W.run Dk 3 160 (by kernel_rfl) ?_
   refine W.ixD Dk encS hx51 1 (by kernel_rfl) (by kernel_rfl) ?_
   refine W.run Dk 2 160 (by kernel_rfl) ?_
   exact W.fi (by kernel_rfl)
   ) ?_
  (revert h43; refine cR (fun hc52 h43 => ?_) (fun hc52 h43 => ?_))
  ·refine CO.ifT hc52 (by kernel_rfl) ?_
   refine cu Dk mix 2 160 (tl 19 [(4, V.i y19)]) [] (by kernel_rfl) ?_
   refine CO.ret ?_
   have h43 := Option.some.inj h43
   subst h43
   exact Ends.gen [] (.inr rfl) (RetV.one rfl (OneR.t (t := 4) (r := V.i y19) (by kernel_rfl))) (by kernel_rfl) (by kernel_rfl) (by kernel_rfl)
  refine CO.ifF hc52 (by kernel_rfl) ?_
  refine CO.skip ?_
  refine ce Dk mix 2 160 (tl 19 [(0, .sl false false (a0.map encS)), (1, V.s a1), (7, V.i (a0.length : Int)), (8, V.i (IntKind.wrap .i64 (y19 + 1)))]) [] (by kernel_rfl) (fun st hw => ?_)
  exact ih44 (a0, a1, (IntKind.wrap .i64 (y19 + 1))) h43 _ (hw.trans (Weak.sel [] [0, 1, 7, 8] (by kernel_rfl) (by kernel_rfl) (by kernel_rfl)))
 refine CO.ifF hc46 (by kernel_rfl) ?_
 refine CO.exit ?_
 refine cu Dk mix 1 160 (tl 19 [(4, V.i (-1))]) [] (by kernel_rfl) ?_
 refine CO.ret ?_
 have h43 := Option.some.inj h43
 subst h43
 exact Ends.gen [] (.inr rfl) (RetV.one rfl (OneR.t (t := 4) (r := V.i (-1)) (by kernel_rfl))) (by kernel_rfl) (by kernel_rfl) (by kernel_rfl)

theorem mi_KeywordOf_ok (N : Nat) (a0 : List UInt8) {r : Int} (h : mi_KeywordOf N a0 = some r) :
    AC Tryz.prog (GS [1]) 139 [V.s a0] [] (V.i r) [] := by
 rw [mi_KeywordOf] at h
 refine AC.enter Tryz.func139 rfl ?_
 refine cu Dk mix 1 100 (tl 11 [(0, V.s a0)]) [] (by kernel_rfl) ?_
 (revert h; refine bR fun r2 hx2 h => ?_)
 refine CO.cutR (tl 11 [(3, V.i r2)]) [] mix (by
  refine W.cutG Dk V.s tab_keywords (by kernel_rfl) ?_
  refine W.run Dk 1 100 (by kernel_rfl) ?_
  refine W.call0 (AC.gs (m_slices_Index_string_ok N tab_keywords a0 hx2) (by decide)) cok145 rfl (by kernel_rfl) ?_
  refine W.run Dk 1 100 (by kernel_rfl) ?_
  exact W.fi (by kernel_rfl)
  ) ?_
 refine CO.seq' ?_
 refine cu Dk mix 2 100 (tl 11 [(3, V.i r2), (8, V.b (decide (r2 < 0)))]) [] (by kernel_rfl) ?_
 (revert h; refine cR (fun hc4 h => ?_) (fun hc4 h => ?_))
 ·refine CO.ifT hc4 (by kernel_rfl) ?_
  refine cu Dk mix 1 100 (tl 11 [(2, V.i 0)]) [] (by kernel_rfl) ?_
  refine CO.ret ?_
  have h := Option.some.inj h
  subst h
  exact Ends.gen [] (.inr rfl) (RetV.one rfl (OneR.t (t := 2) (r := V.i 0) (by kernel_rfl))) (by kernel_rfl) (by kernel_rfl) (by kernel_rfl)
 refine CO.ifF hc4 (by kernel_rfl) ?_
 refine CO.skip ?_
 refine cu Dk mix 3 100 (tl 11 [(2, V.i (IntKind.wrap .i64 (10 + r2)))]) [] (by kernel_rfl) ?_
 refine CO.ret ?_
 have h := Option.some.inj h
 subst h
 exact Ends.gen [] (.inr rfl) (RetV.one rfl (OneR.t (t := 2) (r := V.i (IntKind.wrap .i64 (10 + r2))) (by kernel_rfl))) (by kernel_rfl) (by kernel_rfl) (by kernel_rfl)

theorem m_slices_Contains_string_ok (N : Nat) (a0 : List (List UInt8)) (a1 : List UInt8) {r : Bool} (h : m_slices_Contains_string N a0 a1 = some r) :
    AC Tryz.prog (GS []) 126 [.sl false false (a0.map encS), V.s a1] [] (V.b r) [] := by
 rw [m_slices_Contains_string] at h
 refine AC.enter Tryz.func126 rfl ?_
 refine cu Dk mix 1 100 (tl 9 [(0, .sl false false (a0.map encS)), (1, V.s a1)]) [] (by kernel_rfl) ?_
 (revert h; refine bR fun r2 hx2 h => ?_)
 refine CO.cutR (tl 9 [(4, V.b (decide (r2 ≥ 0)))]) [] mix (by
  refine W.run Dk 2 100 (by kernel_rfl) ?_
  refine W.call0 (m_slices_Index_string_ok N a0 a1 hx2) cok145 rfl (by kernel_rfl) ?_
  refine W.run Dk 2 100 (by kernel_rfl) ?_
  exact W.fi (by kernel_rfl)
  ) ?_
 refine CO.ret ?_
 have h := Option.some.inj h
 subst h
 exact Ends.gen [] (.inr rfl) (RetV.one rfl (OneR.t (t := 4) (r := V.b (decide (r2 ≥ 0))) (by kernel_rfl))) (by kernel_rfl) (by kernel_rfl) (by kernel_rfl)

theorem mi_IsBuiltin_ok (N : Nat) (a0 : List UInt8) {r : Bool} (h : mi_IsBuiltin N a0 = some r) :
    AC Tryz.prog (GS [0]) 122 [V.s a0] [] (V.b r) [] := by
 rw [mi_IsBuiltin] at h
 refine AC.enter Tryz.func122 rfl ?_
 refine cu Dk mix 1 100 (tl 6 [(0, V.s a0)]) [] (by kernel_rfl) ?_
 (revert h; refine bR fun r2 hx2 h => ?_)
 refine CO.cutR (tl 6 [(2, V.b r2)]) [] mix (by
  refine W.cutG Dk V.s tab_builtins (by kernel_rfl) ?_
  refine W.run Dk 1 100 (by kernel_rfl) ?_
  refine W.call0 (AC.gs (m_slices_Contains_string_ok N tab_builtins a0 hx2) (by decide)) cok126 rfl (by kernel_rfl) ?_
  refine W.run Dk 1 100 (by kernel_rfl) ?_
  exact W.fi (by kernel_rfl)
  ) ?_
 refine CO.ret ?_
 have h := Option.some.inj h
 subst h
 exact Ends.gen [] (.inr rfl) (RetV.one rfl (OneR.t (t := 2) (r := V.b r2) (by kernel_rfl))) (by kernel_rfl) (by kernel_rfl) (by kernel_rfl)

theorem mi_NameOk_ok (N : Nat) (a0 : List UInt8) {r : Bool} (h : mi_NameOk N a0 = some r) :
    AC Tryz.prog (GS [0, 1]) 120 [V.s a0] [] (V.b r) [] := by
 rw [mi_NameOk] at h
 refine AC.enter Tryz.func120 rfl ?_
 refine cu Dk mix 1 100 (tl 15 [(0, V.s a0)]) [] (by kernel_rfl) ?_
 (revert h; refine bR fun y4 hv6 h => ?_)
 refine CO.cutR (tl 15 [(2, V.b y4)]) [] mix (by
  refine W.run Dk 1 100 (by kernel_rfl) ?_
  (revert hv6; refine bR fun r5 hx7 hv6 => ?_)
  refine W.call0 (AC.gs (mi_NameShape_ok N a0 hx7) (by decide)) cok138 rfl (by kernel_rfl) ?_
  refine W.run Dk 1 100 (by kernel_rfl) ?_
  (revert hv6; refine cR (fun hc8 hv6 => ?_) (fun hc8 hv6 => ?_))
  ·refine W.is 5 hc8 (by kernel_rfl) ?_
   refine W.run Dk 1 100 (by kernel_rfl) ?_
   (revert hv6; refine bR fun r6 hx9 hv6 => ?_)
   refine W.call0 (AC.gs (mi_KeywordOf_ok N a0 hx9) (by decide)) cok139 rfl (by kernel_rfl) ?_
   refine W.run Dk 3 100 (by kernel_rfl) ?_
   (revert hv6; refine cR (fun hc10 hv6 => ?_) (fun hc10 hv6 => ?_))
   ·refine W.is 10 hc10 (by kernel_rfl) ?_
    refine W.run Dk 1 100 (by kernel_rfl) ?_
    (revert hv6; refine bR fun r7 hx11 hv6 => ?_)
    refine W.call0 (AC.gs (mi_IsBuiltin_ok N a0 hx11) (by decide)) cok122 rfl (by kernel_rfl) ?_
    refine W.run Dk 3 100 (by kernel_rfl) ?_
    have hv6 := Option.some.inj hv6
    subst hv6
    exact W.fs [] [2] (by kernel_rfl)
   refine W.is 10 hc10 (by kernel_rfl) ?_
   refine W.run Dk 5 100 (by kernel_rfl) ?_
   have hv6 := Option.some.inj hv6
   subst hv6
   exact W.fs [] [2] (by kernel_rfl)
  refine W.is 5 hc8 (by kernel_rfl) ?_
  refine W.run Dk 10 100 (by kernel_rfl) ?_
  have hv6 := Option.some.inj hv6
  subst hv6
  exact W.fs [] [2] (by kernel_rfl)
  ) ?_
 refine CO.ret ?_
 have h := Option.some.inj h
 subst h
 exact Ends.gen [] (.inr rfl) (RetV.one rfl (OneR.t (t := 2) (r := V.b y4) (by kernel_rfl))) (by kernel_rfl) (by kernel_rfl) (by kernel_rfl)

theorem m_stringslite_IndexByte_ok (a0 : List UInt8) (a1 : Int) {r : Int} (h : m_stringslite_IndexByte a0 a1 = some r) :
    AC Tryz.prog (GS []) 164 [V.s a0, .c (.int .u8 a1)] [] (V.i r) [] := by
 rw [m_stringslite_IndexByte] at h
 refine AC.enter Tryz.func164 rfl ?_
 refine cu Dk mix 1 100 (tl 8 [(0, V.s a0), (1, .c (.int .u8 a1))]) [] (by kernel_rfl) ?_
 refine CO.cutR (tl 8 [(4, V.i (Go.Lib.indexByte a0 (Int.toNat a1).toUInt8))]) [] mix (by
  refine W.run Dk 2 100 (by kernel_rfl) ?_
  refine W.ext (vs := [.string ⟨⟨a0⟩⟩, .int .u8 a1]) (ext168 _ _) (by kernel_rfl) ?_
  refine W.run Dk 1 100 (by kernel_rfl) ?_
  exact W.fi (by kernel_rfl)
  ) ?_
 refine CO.ret ?_
 have h := Option.some.inj h
 subst h
 exact Ends.gen [] (.inr rfl) (RetV.one rfl (OneR.t (t := 4) (r := V.i (Go.Lib.indexByte a0 (Int.toNat a1).toUInt8)) (by kernel_rfl))) (by kernel_rfl) (by kernel_rfl) (by kernel_rfl)

theorem m_stringslite_Index_ok (a0 : List UInt8) {r : Int} (h : m_stringslite_Index a0 = some r) :
    AC Tryz.prog (GS []) 163 [V.s a0, V.s [10]] [] (V.i r) [] := by
 rw [m_stringslite_Index] at h
 refine AC.enter Tryz.func163 rfl ?_
 refine cu Dk mix 1 100 (tl 143 [(0, V.s a0), (1, V.s [10])]) [] (by kernel_rfl) ?_
 refine cu Dk mix 3 100 (tl 143 [(0, V.s a0), (1, V.s [10]), (5, V.i 1)]) [] (by kernel_rfl) ?_
 refine CO.seq' ?_
 refine CO.block' ?_
 refine cu Dk mix 8 100 (tl 143 [(0, V.s a0), (1, V.s [10]), (5, V.i 1), (16, V.b (([10] : List UInt8) == a0))]) [] (by kernel_rfl) ?_
 (revert h; refine cR (fun hc6 h => ?_) (fun hc6 h => ?_))
 ·refine CO.ifT hc6 (by kernel_rfl) ?_
  refine cu Dk mix 1 100 (tl 143 [(4, V.i 0)]) [] (by kernel_rfl) ?_
  refine CO.ret ?_
  have h := Option.some.inj h
  subst h
  exact Ends.gen [] (.inr rfl) (RetV.one rfl (OneR.t (t := 4) (r := V.i 0) (by kernel_rfl))) (by kernel_rfl) (by kernel_rfl) (by kernel_rfl)
 refine CO.ifF hc6 (by kernel_rfl) ?_
 refine cu Dk mix 3 100 (tl 143 [(0, V.s a0), (1, V.s [10]), (5, V.i 1), (24, V.b true)]) [] (by kernel_rfl) ?_
 refine CO.ifT (c := true) rfl (by kernel_rfl) ?_
 (revert h; refine bR fun b7 hx9 h => ?_)
 (revert h; refine bR fun r8 hx10 h => ?_)
 refine CO.cutR (tl 143 [(4, V.i r8)]) [] mix (by
  refine W.run Dk 2 100 (by kernel_rfl) ?_
  refine W.ixS Dk hx9 (by kernel_rfl) ?_
  refine W.call0 (m_stringslite_IndexByte_ok a0 ((b7).toNat : Int) hx10) cok164 rfl (by kernel_rfl) ?_
  refine W.run Dk 1 100 (by kernel_rfl) ?_
  exact W.fi (by kernel_rfl)
  ) ?_
 refine CO.ret ?_
 have h := Option.some.inj h
 subst h
 exact Ends.gen [] (.inr rfl) (RetV.one rfl (OneR.t (t := 4) (r := V.i r8) (by kernel_rfl))) (by kernel_rfl) (by kernel_rfl) (by kernel_rfl)

theorem m_strings_Index_ok (a0 : List UInt8) {r : Int} (h : m_strings_Index a0 = some r) :
    AC Tryz.prog (GS []) 155 [V.s a0, V.s [10]] [] (V.i r) [] := by
 rw [m_strings_Index] at h
 refine AC.enter Tryz.func155 rfl ?_
 refine cu Dk mix 1 100 (tl 8 [(0, V.s a0), (1, V.s [10])]) [] (by kernel_rfl) ?_
 (revert h; refine bR fun r2 hx2 h => ?_)
 refine CO.cutR (tl 8 [(4, V.i r2)]) [] mix (by
  refine W.run Dk 2 100 (by kernel_rfl) ?_
  refine W.call0 (m_stringslite_Index_ok a0 hx2) cok163 rfl (by kernel_rfl) ?_
  refine W.run Dk 1 100 (by kernel_rfl) ?_
  exact W.fi (by kernel_rfl)
  ) ?_
 refine CO.ret ?_
 have h := Option.some.inj h
 subst h
 exact Ends.gen [] (.inr rfl) (RetV.one rfl (OneR.t (t := 4) (r := V.i r2) (by kernel_rfl))) (by kernel_rfl) (by kernel_rfl) (by kernel_rfl)

theorem m_strings_Contains_ok (a0 : List UInt8) {r : Bool} (h : m_strings_Contains a0 = some r) :
    AC Tryz.prog (GS []) 140 [V.s a0, V.s [10]] [] (V.b r) [] := by
 rw [m_strings_Contains] at h
 refine AC.enter Tryz.func140 rfl ?_
 refine cu Dk mix 1 100 (tl 9 [(0, V.s a0), (1, V.s [10])]) [] (by kernel_rfl) ?_
 (revert h; refine bR fun r2 hx2 h => ?_)
 refine CO.cutR (tl 9 [(4, V.b (decide (r2 ≥ 0)))]) [] mix (by
  refine W.run Dk 2 100 (by kernel_rfl) ?_
  refine W.call0 (m_strings_Index_ok a0 hx2) cok155 rfl (by kernel_rfl) ?_
  refine W.run Dk 2 100 (by kernel_rfl) ?_
  exact W.fi (by kernel_rfl)
  ) ?_
 refine CO.ret ?_
 have h := Option.some.inj h
 subst h
 exact Ends.gen [] (.inr rfl) (RetV.one rfl (OneR.t (t := 4) (r := V.b (decide (r2 ≥ 0))) (by kernel_rfl))) (by kernel_rfl) (by kernel_rfl) (by kernel_rfl)

theorem mi_byteAt_ok (a0 : List UInt8) (a1 : Int) {r : Int} (h : mi_byteAt a0 a1 = some r) :
    AC Tryz.prog (GS []) 157 [V.s a0, V.i a1] [] (V.i r) [] := by
 rw [mi_byteAt] at h
 refine AC.enter Tryz.func157 rfl ?_
 refine cu Dk mix 1 100 (tl 15 [(0, V.s a0), (1, V.i a1)]) [] (by kernel_rfl) ?_
 refine CO.seq' ?_
 (revert h; refine bR fun r4 hx5 h => ?_)
 refine CO.cutR (tl 15 [(0, V.s a0), (1, V.i a1), (10, V.b (!r4))]) [] mix (by
  refine W.run Dk 4 100 (by kernel_rfl) ?_
  refine W.call0 (mi_within_ok a1 0 (IntKind.wrap .i64 ((a0.length : Int) - 1)) hx5) cok55 rfl (by kernel_rfl) ?_
  refine W.run Dk 1 100 (by kernel_rfl) ?_
  exact W.fi (by kernel_rfl)
  ) ?_
 (revert h; refine cR (fun hc6 h => ?_) (fun hc6 h => ?_))
 ·refine CO.ifT hc6 (by kernel_rfl) ?_
  refine cu Dk mix 1 100 (tl 15 [(4, V.i (-1))]) [] (by kernel_rfl) ?_
  refine CO.ret ?_
  have h := Option.some.inj h
  subst h
  exact Ends.gen [] (.inr rfl) (RetV.one rfl (OneR.t (t := 4) (r := V.i (-1)) (by kernel_rfl))) (by kernel_rfl) (by kernel_rfl) (by kernel_rfl)
 refine CO.ifF hc6 (by kernel_rfl) ?_
 refine CO.skip ?_
 (revert h; refine bR fun b6 hx8 h => ?_)
 refine CO.cutR (tl 15 [(4, V.i (IntKind.wrap .i64 ((b6).toNat : Int)))]) [] mix (by
  refine W.run Dk 2 100 (by kernel_rfl) ?_
  refine W.ixS Dk hx8 (by kernel_rfl) ?_
  refine W.run Dk 2 100 (by kernel_rfl) ?_
  exact W.fi (by kernel_rfl)
  ) ?_
 refine CO.ret ?_
 have h := Option.some.inj h
 subst h
 exact Ends.gen [] (.inr rfl) (RetV.one rfl (OneR.t (t := 4) (r := V.i (IntKind.wrap .i64 ((b6).toNat : Int))) (by kernel_rfl))) (by kernel_rfl) (by kernel_rfl) (by kernel_rfl)

theorem mi_digitsEnd_ok (N : Nat) (a0 : List UInt8) (a1 : Int) {r : Int} (h : mi_digitsEnd N a0 a1 = some r) :
    AC Tryz.prog (GS []) 156 [V.s a0, V.i a1] [] (V.i r) [] := by
 rw [mi_digitsEnd] at h
 refine AC.enter Tryz.func156 rfl ?_
 refine cu Dk mix 1 100 (tl 12 [(0, V.s a0), (1, V.i a1)]) [] (by kernel_rfl) ?_
 refine CO.seq' ?_
 refine CO.block' ?_
 refine CO.loopJ (fun (⟨a0, a1⟩ : ((List UInt8) × Int)) => ⟨tl 12 [(0, V.s a0), (1, V.i a1)], []⟩) (fun n i => mi_digitsEnd_l1 N n i = some r) (n0 := N) (i0 := (a0, a1)) (Weak.sel [] [0, 1] (by kernel_rfl) (by kernel_rfl) (by kernel_rfl)) h (fun i h => by simp [mi_digitsEnd_l1] at h) ?_
 rintro n1 ⟨a0, a1⟩ h33 ih34
 rw [mi_digitsEnd_l1] at h33
 refine CO.seq' ?_
 (revert h33; refine bR fun r33 hx42 h33 => ?_)
 (revert h33; refine bR fun r34 hx43 h33 => ?_)
 refine CO.cutR (tl 12 [(0, V.s a0), (1, V.i a1), (8, V.b r34)]) [] mix (by
  refine W.run Dk 2 140 (by kernel_rfl) ?_
  refine W.call0 (mi_byteAt_ok a0 a1 hx42) cok157 rfl (by kernel_rfl) ?_
  refine W.call0 (mi_IsDigit_ok r33 hx43) cok162 rfl (by kernel_rfl) ?_
  exact W.fi (by kernel_rfl)
  ) ?_
 (revert h33; refine cR (fun hc44 h33 => ?_) (fun hc44 h33 => ?_))
 ·refine CO.ifT hc44 (by kernel_rfl) ?_
  refine CO.skip ?_
  refine CO.block' ?_
  refine ce Dk mix 3 140 (tl 12 [(0, V.s a0), (1, V.i (IntKind.wrap .i64 (a1 + 1)))]) [] (by kernel_rfl) (fun st hw => ?_)
  exact ih34 (a0, (IntKind.wrap .i64 (a1 + 1))) h33 _ (hw.trans (Weak.sel [] [0, 1] (by kernel_rfl) (by kernel_rfl) (by kernel_rfl)))
 refine CO.ifF hc44 (by kernel_rfl) ?_
 refine CO.exit ?_
 refine cu Dk mix 2 140 (tl 12 [(4, V.i a1)]) [] (by kernel_rfl) ?_
 refine CO.ret ?_
 have h33 := Option.some.inj h33
 subst h33
 exact Ends.gen [] (.inr rfl) (RetV.one rfl (OneR.t (t := 4) (r := V.i a1) (by kernel_rfl))) (by kernel_rfl) (by kernel_rfl) (by kernel_rfl)

theorem mi_NumEnd_ok (N : Nat) (a0 : List UInt8) (a1 : Int) {r : Int} (h : mi_NumEnd N a0 a1 = some r) :
    AC Tryz.prog (GS []) 141 [V.s a0, V.i a1] [] (V.i r) [] := by
 rw [mi_NumEnd] at h
 refine AC.enter Tryz.func141 rfl ?_
 refine cu Dk mix 1 100 (tl 71 [(0, V.s a0), (1, V.i a1)]) [] (by kernel_rfl) ?_
 refine CO.seq' ?_
 (revert h; refine bR fun r4 hx5 h => ?_)
 refine CO.cutR (tl 71 [(0, V.s a0), (1, V.i a1), (17, V.b (!r4))]) [] mix (by
  refine W.run Dk 4 100 (by kernel_rfl) ?_
  refine W.call0 (mi_within_ok a1 0 (IntKind.wrap .i64 ((a0.length : Int) - 1)) hx5) cok55 rfl (by kernel_rfl) ?_
  refine W.run Dk 1 100 (by kernel_rfl) ?_
  exact W.fi (by kernel_rfl)
  ) ?_
 (revert h; refine cR (fun hc6 h => ?_) (fun hc6 h => ?_))
 ·refine CO.ifT hc6 (by kernel_rfl) ?_
  refine cu Dk mix 1 100 (tl 71 [(4, V.i (-1))]) [] (by kernel_rfl) ?_
  refine CO.ret ?_
  have h := Option.some.inj h
  subst h
  exact Ends.gen [] (.inr rfl) (RetV.one rfl (OneR.t (t := 4) (r := V.i (-1)) (by kernel_rfl))) (by kernel_rfl) (by kernel_rfl) (by kernel_rfl)
 refine CO.ifF hc6 (by kernel_rfl) ?_
 refine CO.skip ?_
 (revert h; refine bR fun r6 hx8 h => ?_)
 refine CO.cutR (tl 71 [(0, V.s a0), (1, V.i a1), (5, V.i r6)]) [] mix (by
  refine W.run Dk 2 100 (by kernel_rfl) ?_
  refine W.call0 (mi_digitsEnd_ok N a0 a1 hx8) cok156 rfl (by kernel_rfl) ?_
  refine W.run Dk 1 100 (by kernel_rfl) ?_
  exact W.fi (by kernel_rfl)
  ) ?_
 refine cu Dk mix 4 100 (tl 71 [(0, V.s a0), (5, V.i r6), (6, V.i (IntKind.wrap .i64 (r6 - a1)))]) [] (by kernel_rfl) ?_
 refine CO.join (fun (⟨a0, y11, y12⟩ : ((List UInt8) × Int × Int)) => ⟨tl 71 [(0, V.s a0), (5, V.i y11), (6, V.i y12)], []⟩) (fun i => mi_NumEnd_k1 N i = some r) ?_ ?_
 · rintro ⟨a0, y11, y12⟩ h14
   rw [mi_NumEnd_k1] at h14
   refine CO.seq' ?_
   refine cu Dk mix 2 100 (tl 71 [(0, V.s a0), (5, V.i y11), (40, V.b (y12 == 0))]) [] (by kernel_rfl) ?_
   (revert h14; refine cR (fun hc16 h14 => ?_) (fun hc16 h14 => ?_))
   ·refine CO.ifT hc16 (by kernel_rfl) ?_
    refine cu Dk mix 1 100 (tl 71 [(4, V.i (-1))]) [] (by kernel_rfl) ?_
    refine CO.ret ?_
    have h14 := Option.some.inj h14
    subst h14
    exact Ends.gen [] (.inr rfl) (RetV.one rfl (OneR.t (t := 4) (r := V.i (-1)) (by kernel_rfl))) (by kernel_rfl) (by kernel_rfl) (by kernel_rfl)
   refine CO.ifF hc16 (by kernel_rfl) ?_
   refine CO.skip ?_
   refine CO.join (fun (y11 : Int) => ⟨tl 71 [(5, V.i y11)], []⟩) (fun i => mi_NumEnd_k2 N i = some r) ?_ ?_
   · rintro y11 h40
     rw [mi_NumEnd_k2] at h40
     refine cu Dk mix 2 100 (tl 71 [(4, V.i y11)]) [] (by kernel_rfl) ?_
     refine CO.ret ?_
     have h40 := Option.some.inj h40
     subst h40
     exact Ends.gen [] (.inr rfl) (RetV.one rfl (OneR.t (t := 4) (r := V.i y11) (by kernel_rfl))) (by kernel_rfl) (by kernel_rfl) (by kernel_rfl)
   intro hk41
   (revert h14; refine bR fun r26 hx43 h14 => ?_)
   refine CO.cutR (tl 71 [(0, V.s a0), (5, V.i y11), (8, V.i r26)]) [] mix (by
    refine W.run Dk 2 100 (by kernel_rfl) ?_
    refine W.call0 (mi_byteAt_ok a0 y11 hx43) cok157 rfl (by kernel_rfl) ?_
    refine W.run Dk 1 100 (by kernel_rfl) ?_
    exact W.fi (by kernel_rfl)
    ) ?_
   (revert h14; refine bR fun y27 hv45 h14 => ?_)
   refine CO.cutR (tl 71 [(0, V.s a0), (5, V.i y11), (49, V.b y27)]) [] mix (by
    refine W.run Dk 3 100 (by kernel_rfl) ?_
    (revert hv45; refine cR (fun hc46 hv45 => ?_) (fun hc46 hv45 => ?_))
    ·refine W.is 46 hc46 (by kernel_rfl) ?_
     refine W.run Dk 3 100 (by kernel_rfl) ?_
     have hv45 := Option.some.inj hv45
     subst hv45
     exact W.fs [] [0, 5, 49] (by kernel_rfl)
    refine W.is 46 hc46 (by kernel_rfl) ?_
    refine W.run Dk 3 100 (by kernel_rfl) ?_
    have hv45 := Option.some.inj hv45
    subst hv45
    exact W.fs [] [0, 5, 49] (by kernel_rfl)
    ) ?_
   (revert h14; refine cR (fun hc47 h14 => ?_) (fun hc47 h14 => ?_))
   ·refine CO.ifT hc47 (by kernel_rfl) ?_
    refine cu Dk mix 3 100 (tl 71 [(0, V.s a0), (5, V.i y11), (9, V.i (IntKind.wrap .i64 (y11 + 1)))]) [] (by kernel_rfl) ?_
    refine CO.join (fun (⟨a0, y11, y31⟩ : ((List UInt8) × Int × Int)) => ⟨tl 71 [(0, V.s a0), (5, V.i y11), (9, V.i y31)], []⟩) (fun i => mi_NumEnd_k3 N i = some r) ?_ ?_
    · rintro ⟨a0, y11, y31⟩ h54
      rw [mi_NumEnd_k3] at h54
      (revert h54; refine bR fun r33 hx56 h54 => ?_)
      refine CO.cutR (tl 71 [(5, V.i y11), (9, V.i y31), (11, V.i r33)]) [] mix (by
       refine W.run Dk 2 100 (by kernel_rfl) ?_
       refine W.call0 (mi_digitsEnd_ok N a0 y31 hx56) cok156 rfl (by kernel_rfl) ?_
       refine W.run Dk 1 100 (by kernel_rfl) ?_
       exact W.fi (by kernel_rfl)
       ) ?_
      refine cu Dk mix 3 100 (tl 71 [(5, V.i y11), (11, V.i r33), (68, V.b (decide (r33 > y31)))]) [] (by kernel_rfl) ?_
      (revert h54; refine cR (fun hc57 h54 => ?_) (fun hc57 h54 => ?_))
      ·refine CO.ifT hc57 (by kernel_rfl) ?_
       refine cu Dk mix 2 100 (tl 71 [(4, V.i r33)]) [] (by kernel_rfl) ?_
       refine CO.ret ?_
       have h54 := Option.some.inj h54
       subst h54
       exact Ends.gen [] (.inr rfl) (RetV.one rfl (OneR.t (t := 4) (r := V.i r33) (by kernel_rfl))) (by kernel_rfl) (by kernel_rfl) (by kernel_rfl)
      refine CO.ifF hc57 (by kernel_rfl) ?_
      refine CO.skip ?_
      exact hk41 y11 h54 _ (Weak.sel [] [5] (by kernel_rfl) (by kernel_rfl) (by kernel_rfl))
    intro hk58
    (revert h14; refine bR fun r35 hx60 h14 => ?_)
    refine CO.cutR (tl 71 [(0, V.s a0), (5, V.i y11), (9, V.i (IntKind.wrap .i64 (y11 + 1))), (10, V.i r35)]) [] mix (by
     refine W.run Dk 2 100 (by kernel_rfl) ?_
     refine W.call0 (mi_byteAt_ok a0 (IntKind.wrap .i64 (y11 + 1)) hx60) cok157 rfl (by kernel_rfl) ?_
     refine W.run Dk 1 100 (by kernel_rfl) ?_
     exact W.fi (by kernel_rfl)
     ) ?_
    (revert h14; refine bR fun y36 hv62 h14 => ?_)
    refine CO.cutR (tl 71 [(0, V.s a0), (5, V.i y11), (9, V.i (IntKind.wrap .i64 (y11 + 1))), (60, V.b y36)]) [] mix (by
     refine W.run Dk 3 100 (by kernel_rfl) ?_
     (revert hv62; refine cR (fun hc63 hv62 => ?_) (fun hc63 hv62 => ?_))
     ·refine W.is 57 hc63 (by kernel_rfl) ?_
      refine W.run Dk 3 100 (by kernel_rfl) ?_
      have hv62 := Option.some.inj hv62
      subst hv62
      exact W.fs [] [0, 5, 9, 60] (by kernel_rfl)
     refine W.is 57 hc63 (by kernel_rfl) ?_
     refine W.run Dk 3 100 (by kernel_rfl) ?_
     have hv62 := Option.some.inj hv62
     subst hv62
     exact W.fs [] [0, 5, 9, 60] (by kernel_rfl)
     ) ?_
    (revert h14; refine cR (fun hc64 h14 => ?_) (fun hc64 h14 => ?_))
    ·refine CO.ifT hc64 (by kernel_rfl) ?_
     refine ce Dk mix 3 100 (tl 71 [(0, V.s a0), (5, V.i y11), (9, V.i (IntKind.wrap .i64 ((IntKind.wrap .i64 (y11 + 1)) + 1)))]) [] (by kernel_rfl) (fun st hw => ?_)
     exact hk58 (a0, y11, (IntKind.wrap .i64 ((IntKind.wrap .i64 (y11 + 1)) + 1))) h14 _ (hw.trans (Weak.sel [] [0, 5, 9] (by kernel_rfl) (by kernel_rfl) (by kernel_rfl)))
    refine CO.ifF hc64 (by kernel_rfl) ?_
    refine CO.skip ?_
    exact hk58 (a0, y11, (IntKind.wrap .i64 (y11 + 1))) h14 _ (Weak.sel [] [0, 5, 9] (by kernel_rfl) (by kernel_rfl) (by kernel_rfl))
   refine CO.ifF hc47 (by kernel_rfl) ?_
   refine CO.skip ?_
   exact hk41 y11 h14 _ (Weak.sel [] [5] (by kernel_rfl) (by kernel_rfl) (by kernel_rfl))
 intro hk65
 (revert h; refine bR fun r38 hx67 h => ?_)
 refine CO.cutR (tl 71 [(0, V.s a0), (5, V.i r6), (6, V.i (IntKind.wrap .i64 (r6 - a1))), (27, V.b (r38 == 46))]) [] mix (by
  refine W.run Dk 2 100 (by kernel_rfl) ?_
  refine W.call0 (mi_byteAt_ok a0 r6 hx67) cok157 rfl (by kernel_rfl) ?_
  refine W.run Dk 1 100 (by kernel_rfl) ?_
  exact W.fi (by kernel_rfl)
  ) ?_
 (revert h; refine cR (fun hc68 h => ?_) (fun hc68 h => ?_))
 ·refine CO.ifT hc68 (by kernel_rfl) ?_
  (revert h; refine bR fun r40 hx70 h => ?_)
  refine CO.cutR (tl 71 [(0, V.s a0), (5, V.i r6), (6, V.i (IntKind.wrap .i64 (r6 - a1))), (7, V.i r40)]) [] mix (by
   refine W.run Dk 3 100 (by kernel_rfl) ?_
   refine W.call0 (mi_digitsEnd_ok N a0 (IntKind.wrap .i64 (r6 + 1)) hx70) cok156 rfl (by kernel_rfl) ?_
   refine W.run Dk 1 100 (by kernel_rfl) ?_
   exact W.fi (by kernel_rfl)
   ) ?_
  refine cu Dk mix 7 100 (tl 71 [(0, V.s a0), (6, V.i (IntKind.wrap .i64 ((IntKind.wrap .i64 (r6 - a1)) + (IntKind.wrap .i64 ((IntKind.wrap .i64 (r40 - r6)) - 1))))), (7, V.i r40)]) [] (by kernel_rfl) ?_
  refine ce Dk mix 2 100 (tl 71 [(0, V.s a0), (5, V.i r40), (6, V.i (IntKind.wrap .i64 ((IntKind.wrap .i64 (r6 - a1)) + (IntKind.wrap .i64 ((IntKind.wrap .i64 (r40 - r6)) - 1)))))]) [] (by kernel_rfl) (fun st hw => ?_)
  exact hk65 (a0, r40, (IntKind.wrap .i64 ((IntKind.wrap .i64 (r6 - a1)) + (IntKind.wrap .i64 ((IntKind.wrap .i64 (r40 - r6)) - 1))))) h _ (hw.trans (Weak.sel [] [0, 5, 6] (by kernel_rfl) (by kernel_rfl) (by kernel_rfl)))
 refine CO.ifF hc68 (by kernel_rfl) ?_
 refine CO.skip ?_
 exact hk65 (a0, r6, (IntKind.wrap .i64 (r6 - a1))) h _ (Weak.sel [] [0, 5, 6] (by kernel_rfl) (by kernel_rfl) (by kernel_rfl))

theorem mi_quotedEnd_ok (N : Nat) (a0 : List UInt8) (a1 : Int) (a2 : Int) {r : Int} (h : mi_quotedEnd N a0 a1 a2 = some r) :
    AC Tryz.prog (GS []) 158 [V.s a0, V.i a1, V.i a2] [] (V.i r) [] := by
 rw [mi_quotedEnd] at h
 refine AC.enter Tryz.func158 rfl ?_
 refine cu Dk mix 1 100 (tl 50 [(0, V.s a0), (1, V.i a1), (2, V.i a2)]) [] (by kernel_rfl) ?_
 refine CO.seq' ?_
 (revert h; refine bR fun r4 hx5 h => ?_)
 refine CO.cutR (tl 50 [(0, V.s a0), (1, V.i a1), (2, V.i a2), (12, V.b (r4 != a2))]) [] mix (by
  refine W.run Dk 2 100 (by kernel_rfl) ?_
  refine W.call0 (mi_byteAt_ok a0 a1 hx5) cok157 rfl (by kernel_rfl) ?_
  refine W.run Dk 2 100 (by kernel_rfl) ?_
  exact W.fi (by kernel_rfl)
  ) ?_
 (revert h; refine cR (fun hc6 h => ?_) (fun hc6 h => ?_))
 ·refine CO.ifT hc6 (by kernel_rfl) ?_
  refine cu Dk mix 1 100 (tl 50 [(6, V.i (-1))]) [] (by kernel_rfl) ?_
  refine CO.ret ?_
  have h := Option.some.inj h
  subst h
  exact Ends.gen [] (.inr rfl) (RetV.one rfl (OneR.t (t := 6) (r := V.i (-1)) (by kernel_rfl))) (by kernel_rfl) (by kernel_rfl) (by kernel_rfl)
 refine CO.ifF hc6 (by kernel_rfl) ?_
 refine CO.skip ?_
 refine CO.seq' ?_
 refine cu Dk mix 3 100 (tl 50 [(0, V.s a0), (2, V.i a2), (7, V.i (IntKind.wrap .i64 (a1 + 1)))]) [] (by kernel_rfl) ?_
 refine CO.block' ?_
 refine CO.loopJ (fun (⟨a0, a2, y91⟩ : ((List UInt8) × Int × Int)) => ⟨tl 50 [(0, V.s a0), (2, V.i a2), (7, V.i y91)], []⟩) (fun n i => mi_quotedEnd_l1 N n i = some r) (n0 := N) (i0 := (a0, a2, (IntKind.wrap .i64 (a1 + 1)))) (Weak.sel [] [0, 2, 7] (by kernel_rfl) (by kernel_rfl) (by kernel_rfl)) h (fun i h => by simp [mi_quotedEnd_l1] at h) ?_
 rintro n1 ⟨a0, a2, y91⟩ h189 ih190
 rw [mi_quotedEnd_l1] at h189
 refine CO.seq' ?_
 (revert h189; refine bR fun y118 hv199 h189 => ?_)
 refine CO.cutR (tl 50 [(0, V.s a0), (2, V.i a2), (7, V.i y91), (24, V.b y118)]) [] mix (by
  refine W.run Dk 5 160 (by kernel_rfl) ?_
  (revert hv199; refine cR (fun hc200 hv199 => ?_) (fun hc200 hv199 => ?_))
  ·refine W.is 19 hc200 (by kernel_rfl) ?_
   refine W.run Dk 2 160 (by kernel_rfl) ?_
   (revert hv199; refine bR fun b119 hx201 hv199 => ?_)
   refine W.ixS Dk hx201 (by kernel_rfl) ?_
   refine W.run Dk 2 160 (by kernel_rfl) ?_
   have hv199 := Option.some.inj hv199
   subst hv199
   exact W.fs [] [0, 2, 7, 24] (by kernel_rfl)
  refine W.is 19 hc200 (by kernel_rfl) ?_
  refine W.run Dk 5 160 (by kernel_rfl) ?_
  have hv199 := Option.some.inj hv199
  subst hv199
  exact W.fs [] [0, 2, 7, 24] (by kernel_rfl)
  ) ?_
 (revert h189; refine cR (fun hc202 h189 => ?_) (fun hc202 h189 => ?_))
 ·refine CO.ifT hc202 (by kernel_rfl) ?_
  refine CO.skip ?_
  refine CO.join (fun (⟨a0, a2, y127⟩ : ((List UInt8) × Int × Int)) => ⟨tl 50 [(0, V.s a0), (2, V.i a2), (7, V.i y127)], []⟩) (fun i => mi_quotedEnd_k2 N (mi_quotedEnd_l1 N n1) i = some r) ?_ ?_
  · rintro ⟨a0, a2, y127⟩ h214
    rw [mi_quotedEnd_k2] at h214
    refine ce Dk mix 3 160 (tl 50 [(0, V.s a0), (2, V.i a2), (7, V.i (IntKind.wrap .i64 (y127 + 1)))]) [] (by kernel_rfl) (fun st hw => ?_)
    exact ih190 (a0, a2, (IntKind.wrap .i64 (y127 + 1))) h214 _ (hw.trans (Weak.sel [] [0, 2, 7] (by kernel_rfl) (by kernel_rfl) (by kernel_rfl)))
  intro hk215
  refine CO.block' ?_
  refine CO.block' ?_
  (revert h189; refine bR fun b129 hx217 h189 => ?_)
  refine CO.cutR (tl 50 [(0, V.s a0), (2, V.i a2), (7, V.i y91), (27, V.b ((IntKind.wrap .i64 ((b129).toNat : Int)) == a2))]) [] mix (by
   refine W.run Dk 2 160 (by kernel_rfl) ?_
   refine W.ixS Dk hx217 (by kernel_rfl) ?_
   refine W.run Dk 4 160 (by kernel_rfl) ?_
   exact W.fi (by kernel_rfl)
   ) ?_
  (revert h189; refine cR (fun hc218 h189 => ?_) (fun hc218 h189 => ?_))
  ·refine CO.ifT hc218 (by kernel_rfl) ?_
   refine cu Dk mix 3 160 (tl 50 [(6, V.i (IntKind.wrap .i64 (y91 + 1)))]) [] (by kernel_rfl) ?_
   refine CO.ret ?_
   have h189 := Option.some.inj h189
   subst h189
   exact Ends.gen [] (.inr rfl) (RetV.one rfl (OneR.t (t := 6) (r := V.i (IntKind.wrap .i64 (y91 + 1))) (by kernel_rfl))) (by kernel_rfl) (by kernel_rfl) (by kernel_rfl)
  refine CO.ifF hc218 (by kernel_rfl) ?_
  (revert h189; refine bR fun y132 hv222 h189 => ?_)
  refine CO.cutR (tl 50 [(0, V.s a0), (2, V.i a2), (7, V.i y91), (36, V.b y132)]) [] mix (by
   refine W.run Dk 2 160 (by kernel_rfl) ?_
   (revert hv222; refine bR fun b133 hx223 hv222 => ?_)
   refine W.ixS Dk hx223 (by kernel_rfl) ?_
   refine W.run Dk 2 160 (by kernel_rfl) ?_
   (revert hv222; refine cR (fun hc224 hv222 => ?_) (fun hc224 hv222 => ?_))
   ·refine W.is 41 hc224 (by kernel_rfl) ?_
    refine W.run Dk 3 160 (by kernel_rfl) ?_
    (revert hv222; refine bR fun r134 hx225 hv222 => ?_)
    refine W.call0 (mi_byteAt_ok a0 (IntKind.wrap .i64 (y91 + 1)) hx225) cok157 rfl (by kernel_rfl) ?_
    refine W.run Dk 3 160 (by kernel_rfl) ?_
    have hv222 := Option.some.inj hv222
    subst hv222
    exact W.fs [] [0, 2, 7, 36] (by kernel_rfl)
   refine W.is 41 hc224 (by kernel_rfl) ?_
   refine W.run Dk 7 160 (by kernel_rfl) ?_
   have hv222 := Option.some.inj hv222
   subst hv222
   exact W.fs [] [0, 2, 7, 36] (by kernel_rfl)
   ) ?_
  (revert h189; refine cR (fun hc226 h189 => ?_) (fun hc226 h189 => ?_))
  ·refine CO.ifT hc226 (by kernel_rfl) ?_
   refine ce Dk mix 3 160 (tl 50 [(0, V.s a0), (2, V.i a2), (7, V.i (IntKind.wrap .i64 (y91 + 1)))]) [] (by kernel_rfl) (fun st hw => ?_)
   exact hk215 (a0, a2, (IntKind.wrap .i64 (y91 + 1))) h189 _ (hw.trans (Weak.sel [] [0, 2, 7] (by kernel_rfl) (by kernel_rfl) (by kernel_rfl)))
  refine CO.ifF hc226 (by kernel_rfl) ?_
  refine CO.skip ?_
  exact hk215 (a0, a2, y91) h189 _ (Weak.sel [] [0, 2, 7] (by kernel_rfl) (by kernel_rfl) (by kernel_rfl))
 refine CO.ifF hc202 (by kernel_rfl) ?_
 refine CO.exit ?_
 refine cu Dk mix 1 160 (tl 50 [(6, V.i (-1))]) [] (by kernel_rfl) ?_
 refine CO.ret ?_
 have h189 := Option.some.inj h189
 subst h189
 exact Ends.gen [] (.inr rfl) (RetV.one rfl (OneR.t (t := 6) (r := V.i (-1)) (by kernel_rfl))) (by kernel_rfl) (by kernel_rfl) (by kernel_rfl)

theorem mi_StrEnd_ok (N : Nat) (a0 : List UInt8) (a1 : Int) {r : Int} (h : mi_StrEnd N a0 a1 = some r) :
    AC Tryz.prog (GS []) 142 [V.s a0, V.i a1] [] (V.i r) [] := by
 rw [mi_StrEnd] at h
 refine AC.enter Tryz.func142 rfl ?_
 refine cu Dk mix 1 100 (tl 8 [(0, V.s a0), (1, V.i a1)]) [] (by kernel_rfl) ?_
 (revert h; refine bR fun r2 hx2 h => ?_)
 refine CO.cutR (tl 8 [(4, V.i r2)]) [] mix (by
  refine W.run Dk 2 100 (by kernel_rfl) ?_
  refine W.call0 (mi_quotedEnd_ok N a0 a1 34 hx2) cok158 rfl (by kernel_rfl) ?_
  refine W.run Dk 1 100 (by kernel_rfl) ?_
  exact W.fi (by kernel_rfl)
  ) ?_
 refine CO.ret ?_
 have h := Option.some.inj h
 subst h
 exact Ends.gen [] (.inr rfl) (RetV.one rfl (OneR.t (t := 4) (r := V.i r2) (by kernel_rfl))) (by kernel_rfl) (by kernel_rfl) (by kernel_rfl)

theorem mi_EreEnd_ok (N : Nat) (a0 : List UInt8) (a1 : Int) {r : Int} (h : mi_EreEnd N a0 a1 = some r) :
    AC Tryz.prog (GS []) 143 [V.s a0, V.i a1] [] (V.i r) [] := by
 rw [mi_EreEnd] at h
 refine AC.enter Tryz.func143 rfl ?_
 refine cu Dk mix 1 100 (tl 14 [(0, V.s a0), (1, V.i a1)]) [] (by kernel_rfl) ?_
 (revert h; refine bR fun r2 hx2 h => ?_)
 refine CO.cutR (tl 14 [(1, V.i a1), (5, V.i r2)]) [] mix (by
  refine W.run Dk 2 100 (by kernel_rfl) ?_
  refine W.call0 (mi_quotedEnd_ok N a0 a1 47 hx2) cok158 rfl (by kernel_rfl) ?_
  refine W.run Dk 1 100 (by kernel_rfl) ?_
  exact W.fi (by kernel_rfl)
  ) ?_
 refine CO.seq' ?_
 refine cu Dk mix 4 100 (tl 14 [(5, V.i r2), (12, V.b (r2 == (IntKind.wrap .i64 (a1 + 2))))]) [] (by kernel_rfl) ?_
 (revert h; refine cR (fun hc4 h => ?_) (fun hc4 h => ?_))
 ·refine CO.ifT hc4 (by kernel_rfl) ?_
  refine cu Dk mix 1 100 (tl 14 [(4, V.i (-1))]) [] (by kernel_rfl) ?_
  refine CO.ret ?_
  have h := Option.some.inj h
  subst h
  exact Ends.gen [] (.inr rfl) (RetV.one rfl (OneR.t (t := 4) (r := V.i (-1)) (by kernel_rfl))) (by kernel_rfl) (by kernel_rfl) (by kernel_rfl)
 refine CO.ifF hc4 (by kernel_rfl) ?_
 refine CO.skip ?_
 refine cu Dk mix 2 100 (tl 14 [(4, V.i r2)]) [] (by kernel_rfl) ?_
 refine CO.ret ?_
 have h := Option.some.inj h
 subst h
 exact Ends.gen [] (.inr rfl) (RetV.one rfl (OneR.t (t := 4) (r := V.i r2) (by kernel_rfl))) (by kernel_rfl) (by kernel_rfl) (by kernel_rfl)

theorem mi_isKeywordKind_ok (a0 : Int) {r : Bool} (h : mi_isKeywordKind a0 = some r) :
    AC Tryz.prog (GS []) 159 [V.i a0] [] (V.b r) [] := by
 rw [mi_isKeywordKind] at h
 refine AC.enter Tryz.func159 rfl ?_
 refine cu Dk mix 1 100 (tl 5 [(0, V.i a0)]) [] (by kernel_rfl) ?_
 (revert h; refine bR fun r2 hx2 h => ?_)
 refine CO.cutR (tl 5 [(2, V.b r2)]) [] mix (by
  refine W.run Dk 1 100 (by kernel_rfl) ?_
  refine W.call0 (mi_within_ok a0 10 26 hx2) cok55 rfl (by kernel_rfl) ?_
  refine W.run Dk 1 100 (by kernel_rfl) ?_
  exact W.fi (by kernel_rfl)
  ) ?_
 refine CO.ret ?_
 have h := Option.some.inj h
 subst h
 exact Ends.gen [] (.inr rfl) (RetV.one rfl (OneR.t (t := 2) (r := V.b r2) (by kernel_rfl))) (by kernel_rfl) (by kernel_rfl) (by kernel_rfl)

theorem mi_isSignKind_ok (a0 : Int) {r : Bool} (h : mi_isSignKind a0 = some r) :
    AC Tryz.prog (GS []) 160 [V.i a0] [] (V.b r) [] := by
 rw [mi_isSignKind] at h
 refine AC.enter Tryz.func160 rfl ?_
 refine cu Dk mix 1 100 (tl 5 [(0, V.i a0)]) [] (by kernel_rfl) ?_
 (revert h; refine bR fun r2 hx2 h => ?_)
 refine CO.cutR (tl 5 [(2, V.b r2)]) [] mix (by
  refine W.run Dk 1 100 (by kernel_rfl) ?_
  refine W.call0 (mi_within_ok a0 30 68 hx2) cok55 rfl (by kernel_rfl) ?_
  refine W.run Dk 1 100 (by kernel_rfl) ?_
  exact W.fi (by kernel_rfl)
  ) ?_
 refine CO.ret ?_
 have h := Option.some.inj h
 subst h
 exact Ends.gen [] (.inr rfl) (RetV.one rfl (OneR.t (t := 2) (r := V.b r2) (by kernel_rfl))) (by kernel_rfl) (by kernel_rfl) (by kernel_rfl)

theorem mi_SpellOf_ok (a0 : Int) {r : (List UInt8)} (h : mi_SpellOf a0 = some r) :
    AC Tryz.prog (GS [1, 2]) 144 [V.i a0] [] (V.s r) [] := by
 rw [mi_SpellOf] at h
 refine AC.enter Tryz.func144 rfl ?_
 refine cu Dk mix 1 100 (tl 20 [(0, V.i a0)]) [] (by kernel_rfl) ?_
 refine CO.seq' ?_
 refine CO.block' ?_
 refine cu Dk mix 3 100 (tl 20 [(0, V.i a0), (3, V.b (a0 == 1))]) [] (by kernel_rfl) ?_
 (revert h; refine cR (fun hc12 h => ?_) (fun hc12 h => ?_))
 ·refine CO.ifT hc12 (by kernel_rfl) ?_
  refine cu Dk mix 1 100 (tl 20 [(2, V.s [10])]) [] (by kernel_rfl) ?_
  refine CO.ret ?_
  have h := Option.some.inj h
  subst h
  exact Ends.gen [] (.inr rfl) (RetV.one rfl (OneR.t (t := 2) (r := V.s [10]) (by kernel_rfl))) (by kernel_rfl) (by kernel_rfl) (by kernel_rfl)
 refine CO.ifF hc12 (by kernel_rfl) ?_
 (revert h; refine bR fun r10 hx14 h => ?_)
 refine CO.cutR (tl 20 [(0, V.i a0), (6, V.b r10)]) [] mix (by
  refine W.run Dk 1 100 (by kernel_rfl) ?_
  refine W.call0 (AC.gs (mi_isKeywordKind_ok a0 hx14) (by decide)) cok159 rfl (by kernel_rfl) ?_
  refine W.run Dk 1 100 (by kernel_rfl) ?_
  exact W.fi (by kernel_rfl)
  ) ?_
 (revert h; refine cR (fun hc15 h => ?_) (fun hc15 h => ?_))
 ·refine CO.ifT hc15 (by kernel_rfl) ?_
  (revert h; refine bR fun e12 hx17 h => ?_)
  refine CO.cutR (tl 20 [(2, V.s e12)]) [] mix (by
   refine W.run Dk 2 100 (by kernel_rfl) ?_
   refine W.ixG Dk V.s (l := tab_keywords) hx17 (by kernel_rfl) ?_
   refine W.run Dk 2 100 (by kernel_rfl) ?_
   exact W.fi (by kernel_rfl)
   ) ?_
  refine CO.ret ?_
  have h := Option.some.inj h
  subst h
  exact Ends.gen [] (.inr rfl) (RetV.one rfl (OneR.t (t := 2) (r := V.s e12) (by kernel_rfl))) (by kernel_rfl) (by kernel_rfl) (by kernel_rfl)
 refine CO.ifF hc15 (by kernel_rfl) ?_
 (revert h; refine bR fun r14 hx19 h => ?_)
 refine CO.cutR (tl 20 [(0, V.i a0), (13, V.b r14)]) [] mix (by
  refine W.run Dk 1 100 (by kernel_rfl) ?_
  refine W.call0 (AC.gs (mi_isSignKind_ok a0 hx19) (by decide)) cok160 rfl (by kernel_rfl) ?_
  refine W.run Dk 1 100 (by kernel_rfl) ?_
  exact W.fi (by kernel_rfl)
  ) ?_
 (revert h; refine cR (fun hc20 h => ?_) (fun hc20 h => ?_))
 ·refine CO.ifT hc20 (by kernel_rfl) ?_
  (revert h; refine bR fun e16 hx22 h => ?_)
  refine CO.cutR (tl 20 [(2, V.s e16)]) [] mix (by
   refine W.run Dk 2 100 (by kernel_rfl) ?_
   refine W.ixG Dk V.s (l := tab_signs) hx22 (by kernel_rfl) ?_
   refine W.run Dk 2 100 (by kernel_rfl) ?_
   exact W.fi (by kernel_rfl)
   ) ?_
  refine CO.ret ?_
  have h := Option.some.inj h
  subst h
  exact Ends.gen [] (.inr rfl) (RetV.one rfl (OneR.t (t := 2) (r := V.s e16) (by kernel_rfl))) (by kernel_rfl) (by kernel_rfl) (by kernel_rfl)
 refine CO.ifF hc20 (by kernel_rfl) ?_
 refine CO.skip ?_
 refine cu Dk mix 1 100 (tl 20 [(2, V.s [])]) [] (by kernel_rfl) ?_
 refine CO.ret ?_
 have h := Option.some.inj h
 subst h
 exact Ends.gen [] (.inr rfl) (RetV.one rfl (OneR.t (t := 2) (r := V.s []) (by kernel_rfl))) (by kernel_rfl) (by kernel_rfl) (by kernel_rfl)

theorem mi_TokenOk_ok (N : Nat) (a0 : SToken) {r : Bool} (h : mi_TokenOk N a0 = some r) :
    AC Tryz.prog (GS [0, 1, 2]) 121 [.agg [V.i a0.Kind, V.s a0.Text, V.i a0.At]] [] (V.b r) [] := by
 rw [mi_TokenOk] at h
 refine AC.enter Tryz.func121 rfl ?_
 refine cu Dk mix 2 100 (tl 64 [(1, .loc 100 0)]) [(100, .cells 120 [V.i a0.Kind, V.s a0.Text, V.i a0.At])] (by kernel_rfl) ?_
 refine CO.seq' ?_
 refine cu Dk mix 3 101 (tl 64 [(1, .loc 100 0), (5, V.b (a0.Text == []))]) [(100, .cells 120 [V.i a0.Kind, V.s a0.Text, V.i a0.At])] (by kernel_rfl) ?_
 (revert h; refine cR (fun hc2 h => ?_) (fun hc2 h => ?_))
 ·refine CO.ifT hc2 (by kernel_rfl) ?_
  refine cu Dk mix 1 101 (tl 64 [(2, V.b false)]) [] (by kernel_rfl) ?_
  refine CO.ret ?_
  have h := Option.some.inj h
  subst h
  exact Ends.gen [] (.inr rfl) (RetV.one rfl (OneR.t (t := 2) (r := V.b false) (by kernel_rfl))) (by kernel_rfl) (by kernel_rfl) (by kernel_rfl)
 refine CO.ifF hc2 (by kernel_rfl) ?_
 refine CO.skip ?_
 refine CO.seq' ?_
 refine cu Dk mix 2 101 (tl 64 [(1, .loc 100 0), (7, V.i a0.Kind)]) [(100, .cells 120 [V.i a0.Kind, V.s a0.Text, V.i a0.At])] (by kernel_rfl) ?_
 refine CO.block' ?_
 refine cu Dk mix 2 101 (tl 64 [(1, .loc 100 0), (7, V.i a0.Kind), (8, V.b (a0.Kind == 2))]) [(100, .cells 120 [V.i a0.Kind, V.s a0.Text, V.i a0.At])] (by kernel_rfl) ?_
 (revert h; refine cR (fun hc30 h => ?_) (fun hc30 h => ?_))
 ·refine CO.ifT hc30 (by kernel_rfl) ?_
  (revert h; refine bR fun y19 hv34 h => ?_)
  refine CO.cutR (tl 64 [(2, V.b y19)]) [] mix (by
   refine W.run Dk 2 101 (by kernel_rfl) ?_
   (revert hv34; refine bR fun b20 hx35 hv34 => ?_)
   refine W.ixS Dk hx35 (by kernel_rfl) ?_
   refine W.run Dk 2 101 (by kernel_rfl) ?_
   (revert hv34; refine cR (fun hc36 hv34 => ?_) (fun hc36 hv34 => ?_))
   ·refine W.is 14 hc36 (by kernel_rfl) ?_
    refine W.run Dk 2 101 (by kernel_rfl) ?_
    (revert hv34; refine bR fun r21 hx37 hv34 => ?_)
    refine W.call0 (AC.gs (m_strings_Contains_ok a0.Text hx37) (by decide)) cok140 rfl (by kernel_rfl) ?_
    refine W.run Dk 3 101 (by kernel_rfl) ?_
    have hv34 := Option.some.inj hv34
    subst hv34
    exact W.fs [] [2] (by kernel_rfl)
   refine W.is 14 hc36 (by kernel_rfl) ?_
   refine W.run Dk 6 101 (by kernel_rfl) ?_
   have hv34 := Option.some.inj hv34
   subst hv34
   exact W.fs [] [2] (by kernel_rfl)
   ) ?_
  refine CO.ret ?_
  have h := Option.some.inj h
  subst h
  exact Ends.gen [] (.inr rfl) (RetV.one rfl (OneR.t (t := 2) (r := V.b y19) (by kernel_rfl))) (by kernel_rfl) (by kernel_rfl) (by kernel_rfl)
 refine CO.ifF hc30 (by kernel_rfl) ?_
 refine cu Dk mix 2 101 (tl 64 [(1, .loc 100 0), (7, V.i a0.Kind), (20, V.b (a0.Kind == 3))]) [(100, .cells 120 [V.i a0.Kind, V.s a0.Text, V.i a0.At])] (by kernel_rfl) ?_
 (revert h; refine cR (fun hc38 h => ?_) (fun hc38 h => ?_))
 ·refine CO.ifT hc38 (by kernel_rfl) ?_
  (revert h; refine bR fun r23 hx40 h => ?_)
  refine CO.cutR (tl 64 [(2, V.b (r23 == (a0.Text.length : Int)))]) [] mix (by
   refine W.run Dk 2 101 (by kernel_rfl) ?_
   refine W.call0 (AC.gs (mi_NumEnd_ok N a0.Text 0 hx40) (by decide)) cok141 rfl (by kernel_rfl) ?_
   refine W.run Dk 5 101 (by kernel_rfl) ?_
   exact W.fi (by kernel_rfl)
   ) ?_
  refine CO.ret ?_
  have h := Option.some.inj h
  subst h
  exact Ends.gen [] (.inr rfl) (RetV.one rfl (OneR.t (t := 2) (r := V.b (r23 == (a0.Text.length : Int))) (by kernel_rfl))) (by kernel_rfl) (by kernel_rfl) (by kernel_rfl)
 refine CO.ifF hc38 (by kernel_rfl) ?_
 refine cu Dk mix 2 101 (tl 64 [(1, .loc 100 0), (7, V.i a0.Kind), (29, V.b (a0.Kind == 4))]) [(100, .cells 120 [V.i a0.Kind, V.s a0.Text, V.i a0.At])] (by kernel_rfl) ?_
 (revert h; refine cR (fun hc41 h => ?_) (fun hc41 h => ?_))
 ·refine CO.ifT hc41 (by kernel_rfl) ?_
  (revert h; refine bR fun r25 hx43 h => ?_)
  refine CO.cutR (tl 64 [(2, V.b (r25 == (a0.Text.length : Int)))]) [] mix (by
   refine W.run Dk 2 101 (by kernel_rfl) ?_
   refine W.call0 (AC.gs (mi_StrEnd_ok N a0.Text 0 hx43) (by decide)) cok142 rfl (by kernel_rfl) ?_
   refine W.run Dk 5 101 (by kernel_rfl) ?_
   exact W.fi (by kernel_rfl)
   ) ?_
  refine CO.ret ?_
  have h := Option.some.inj h
  subst h
  exact Ends.gen [] (.inr rfl) (RetV.one rfl (OneR.t (t := 2) (r := V.b (r25 == (a0.Text.length : Int))) (by kernel_rfl))) (by kernel_rfl) (by kernel_rfl) (by kernel_rfl)
 refine CO.ifF hc41 (by kernel_rfl) ?_
 refine cu Dk mix 2 101 (tl 64 [(1, .loc 100 0), (7, V.i a0.Kind), (38, V.b (a0.Kind == 5))]) [(100, .cells 120 [V.i a0.Kind, V.s a0.Text, V.i a0.At])] (by kernel_rfl) ?_
 (revert h; refine cR (fun hc44 h => ?_) (fun hc44 h => ?_))
 ·refine CO.ifT hc44 (by kernel_rfl) ?_
  (revert h; refine bR fun r27 hx46 h => ?_)
  refine CO.cutR (tl 64 [(2, V.b (r27 == (a0.Text.length : Int)))]) [] mix (by
   refine W.run Dk 2 101 (by kernel_rfl) ?_
   refine W.call0 (AC.gs (mi_EreEnd_ok N a0.Text 0 hx46) (by decide)) cok143 rfl (by kernel_rfl) ?_
   refine W.run Dk 5 101 (by kernel_rfl) ?_
   exact W.fi (by kernel_rfl)
   ) ?_
  refine CO.ret ?_
  have h := Option.some.inj h
  subst h
  exact Ends.gen [] (.inr rfl) (RetV.one rfl (OneR.t (t := 2) (r := V.b (r27 == (a0.Text.length : Int))) (by kernel_rfl))) (by kernel_rfl) (by kernel_rfl) (by kernel_rfl)
 refine CO.ifF hc44 (by kernel_rfl) ?_
 refine CO.join (fun (⟨a0, y28⟩ : (SToken × Bool)) => ⟨tl 64 [(1, .loc 100 0), (7, V.i a0.Kind), (47, V.b y28)], [(100, .cells 120 [V.i a0.Kind, V.s a0.Text, V.i a0.At])]⟩) (fun i => mi_TokenOk_k1 N i = some r) ?_ ?_
 · rintro ⟨a0, y28⟩ h48
   rw [mi_TokenOk_k1] at h48
   (revert h48; refine cR (fun hc49 h48 => ?_) (fun hc49 h48 => ?_))
   ·refine CO.ifT hc49 (by kernel_rfl) ?_
    (revert h48; refine bR fun r30 hx51 h48 => ?_)
    refine CO.cutR (tl 64 [(2, V.b r30)]) [] mix (by
     refine W.run Dk 2 101 (by kernel_rfl) ?_
     refine W.call0 (AC.gs (mi_NameOk_ok N a0.Text hx51) (by decide)) cok120 rfl (by kernel_rfl) ?_
     refine W.run Dk 1 101 (by kernel_rfl) ?_
     exact W.fi (by kernel_rfl)
     ) ?_
    refine CO.ret ?_
    have h48 := Option.some.inj h48
    subst h48
    exact Ends.gen [] (.inr rfl) (RetV.one rfl (OneR.t (t := 2) (r := V.b r30) (by kernel_rfl))) (by kernel_rfl) (by kernel_rfl) (by kernel_rfl)
   refine CO.ifF hc49 (by kernel_rfl) ?_
   refine cu Dk mix 2 101 (tl 64 [(1, .loc 100 0), (53, V.b (a0.Kind == 8))]) [(100, .cells 120 [V.i a0.Kind, V.s a0.Text, V.i a0.At])] (by kernel_rfl) ?_
   (revert h48; refine cR (fun hc52 h48 => ?_) (fun hc52 h48 => ?_))
   ·refine CO.ifT hc52 (by kernel_rfl) ?_
    (revert h48; refine bR fun r32 hx54 h48 => ?_)
    refine CO.cutR (tl 64 [(2, V.b r32)]) [] mix (by
     refine W.run Dk 2 101 (by kernel_rfl) ?_
     refine W.call0 (AC.gs (mi_IsBuiltin_ok N a0.Text hx54) (by decide)) cok122 rfl (by kernel_rfl) ?_
     refine W.run Dk 1 101 (by kernel_rfl) ?_
     exact W.fi (by kernel_rfl)
     ) ?_
    refine CO.ret ?_
    have h48 := Option.some.inj h48
    subst h48
    exact Ends.gen [] (.inr rfl) (RetV.one rfl (OneR.t (t := 2) (r := V.b r32) (by kernel_rfl))) (by kernel_rfl) (by kernel_rfl) (by kernel_rfl)
   refine CO.ifF hc52 (by kernel_rfl) ?_
   refine CO.skip ?_
   (revert h48; refine bR fun r34 hx56 h48 => ?_)
   refine CO.cutR (tl 64 [(2, V.b (a0.Text == r34))]) [] mix (by
    refine W.run Dk 4 101 (by kernel_rfl) ?_
    refine W.call0 (AC.gs (mi_SpellOf_ok a0.Kind hx56) (by decide)) cok144 rfl (by kernel_rfl) ?_
    refine W.run Dk 2 101 (by kernel_rfl) ?_
    exact W.fi (by kernel_rfl)
    ) ?_
   refine CO.ret ?_
   have h48 := Option.some.inj h48
   subst h48
   exact Ends.gen [] (.inr rfl) (RetV.one rfl (OneR.t (t := 2) (r := V.b (a0.Text == r34)) (by kernel_rfl))) (by kernel_rfl) (by kernel_rfl) (by kernel_rfl)
 intro hk57
 refine cu Dk mix 2 101 (tl 64 [(1, .loc 100 0), (7, V.i a0.Kind), (47, V.b (a0.Kind == 6))]) [(100, .cells 120 [V.i a0.Kind, V.s a0.Text, V.i a0.At])] (by kernel_rfl) ?_
 (revert h; refine cR (fun hc58 h => ?_) (fun hc58 h => ?_))
 ·refine CO.ifT hc58 (by kernel_rfl) ?_
  refine CO.skip ?_
  exact hk57 (a0, (a0.Kind == 6)) h _ (Weak.sel [(100, 100)] [1, 7, 47] (by kernel_rfl) (by kernel_rfl) (by kernel_rfl))
 refine CO.ifF hc58 (by kernel_rfl) ?_
 refine ce Dk mix 2 101 (tl 64 [(1, .loc 100 0), (7, V.i a0.Kind), (47, V.b (a0.Kind == 7))]) [(100, .cells 120 [V.i a0.Kind, V.s a0.Text, V.i a0.At])] (by kernel_rfl) (fun st hw => ?_)
 exact hk57 (a0, (a0.Kind == 7)) h _ (hw.trans (Weak.sel [(100, 100)] [1, 7, 47] (by kernel_rfl) (by kernel_rfl) (by kernel_rfl)))

theorem mi_isStep_ok (a0 : Int) {r : Bool} (h : mi_isStep a0 = some r) :
    AC Tryz.prog (GS []) 123 [V.i a0] [] (V.b r) [] := by
 rw [mi_isStep] at h
 refine AC.enter Tryz.func123 rfl ?_
 refine cu Dk mix 1 100 (tl 9 [(0, V.i a0)]) [] (by kernel_rfl) ?_
 (revert h; refine bR fun y1 hv2 h => ?_)
 refine CO.cutR (tl 9 [(2, V.b y1)]) [] mix (by
  refine W.run Dk 3 100 (by kernel_rfl) ?_
  (revert hv2; refine cR (fun hc3 hv2 => ?_) (fun hc3 hv2 => ?_))
  ·refine W.is 5 hc3 (by kernel_rfl) ?_
   refine W.run Dk 4 100 (by kernel_rfl) ?_
   have hv2 := Option.some.inj hv2
   subst hv2
   exact W.fs [] [2] (by kernel_rfl)
  refine W.is 5 hc3 (by kernel_rfl) ?_
  refine W.run Dk 4 100 (by kernel_rfl) ?_
  have hv2 := Option.some.inj hv2
  subst hv2
  exact W.fs [] [2] (by kernel_rfl)
  ) ?_
 refine CO.ret ?_
 have h := Option.some.inj h
 subst h
 exact Ends.gen [] (.inr rfl) (RetV.one rfl (OneR.t (t := 2) (r := V.b y1) (by kernel_rfl))) (by kernel_rfl) (by kernel_rfl) (by kernel_rfl)

theorem mi_OpLevel_ok (a0 : Int) {r : Int} (h : mi_OpLevel a0 = some r) :
    AC Tryz.prog (GS []) 124 [V.i a0] [] (V.i r) [] := by
 rw [mi_OpLevel] at h
 refine AC.enter Tryz.func124 rfl ?_
 refine cu Dk mix 1 100 (tl 29 [(0, V.i a0)]) [] (by kernel_rfl) ?_
 refine CO.seq' ?_
 refine cu Dk mix 1 100 (tl 29 [(3, V.i a0)]) [] (by kernel_rfl) ?_
 refine CO.block' ?_
 refine cu Dk mix 2 100 (tl 29 [(3, V.i a0), (4, V.b (a0 == 44))]) [] (by kernel_rfl) ?_
 (revert h; refine cR (fun hc35 h => ?_) (fun hc35 h => ?_))
 ·refine CO.ifT hc35 (by kernel_rfl) ?_
  refine cu Dk mix 1 100 (tl 29 [(2, V.i 3)]) [] (by kernel_rfl) ?_
  refine CO.ret ?_
  have h := Option.some.inj h
  subst h
  exact Ends.gen [] (.inr rfl) (RetV.one rfl (OneR.t (t := 2) (r := V.i 3) (by kernel_rfl))) (by kernel_rfl) (by kernel_rfl) (by kernel_rfl)
 refine CO.ifF hc35 (by kernel_rfl) ?_
 refine cu Dk mix 2 100 (tl 29 [(3, V.i a0), (6, V.b (a0 == 45))]) [] (by kernel_rfl) ?_
 (revert h; refine cR (fun hc36 h => ?_) (fun hc36 h => ?_))
 ·refine CO.ifT hc36 (by kernel_rfl) ?_
  refine cu Dk mix 1 100 (tl 29 [(2, V.i 4)]) [] (by kernel_rfl) ?_
  refine CO.ret ?_
  have h := Option.some.inj h
  subst h
  exact Ends.gen [] (.inr rfl) (RetV.one rfl (OneR.t (t := 2) (r := V.i 4) (by kernel_rfl))) (by kernel_rfl) (by kernel_rfl) (by kernel_rfl)
 refine CO.ifF hc36 (by kernel_rfl) ?_
 refine CO.join (fun (⟨a0, y5⟩ : (Int × Bool)) => ⟨tl 29 [(3, V.i a0), (8, V.b y5)], []⟩) (fun i => mi_OpLevel_k1 i = some r) ?_ ?_
 · rintro ⟨a0, y5⟩ h38
   rw [mi_OpLevel_k1] at h38
   (revert h38; refine cR (fun hc39 h38 => ?_) (fun hc39 h38 => ?_))
   ·refine CO.ifT hc39 (by kernel_rfl) ?_
    refine cu Dk mix 1 100 (tl 29 [(2, V.i 6)]) [] (by kernel_rfl) ?_
    refine CO.ret ?_
    have h38 := Option.some.inj h38
    subst h38
    exact Ends.gen [] (.inr rfl) (RetV.one rfl (OneR.t (t := 2) (r := V.i 6) (by kernel_rfl))) (by kernel_rfl) (by kernel_rfl) (by kernel_rfl)
   refine CO.ifF hc39 (by kernel_rfl) ?_
   refine CO.join (fun (⟨a0, y6⟩ : (Int × Bool)) => ⟨tl 29 [(3, V.i a0), (11, V.b y6)], []⟩) (fun i => mi_OpLevel_k2 i = some r) ?_ ?_
   · rintro ⟨a0, y6⟩ h45
     rw [mi_OpLevel_k2] at h45
     (revert h45; refine cR (fun hc46 h45 => ?_) (fun hc46 h45 => ?_))
     ·refine CO.ifT hc46 (by kernel_rfl) ?_
      refine cu Dk mix 1 100 (tl 29 [(2, V.i 7)]) [] (by kernel_rfl) ?_
      refine CO.ret ?_
      have h45 := Option.some.inj h45
      subst h45
      exact Ends.gen [] (.inr rfl) (RetV.one rfl (OneR.t (t := 2) (r := V.i 7) (by kernel_rfl))) (by kernel_rfl) (by kernel_rfl) (by kernel_rfl)
     refine CO.ifF hc46 (by kernel_rfl) ?_
     refine cu Dk mix 2 100 (tl 29 [(3, V.i a0), (18, V.b (a0 == 99))]) [] (by kernel_rfl) ?_
     (revert h45; refine cR (fun hc47 h45 => ?_) (fun hc47 h45 => ?_))
     ·refine CO.ifT hc47 (by kernel_rfl) ?_
      refine cu Dk mix 1 100 (tl 29 [(2, V.i 8)]) [] (by kernel_rfl) ?_
      refine CO.ret ?_
      have h45 := Option.some.inj h45
      subst h45
      exact Ends.gen [] (.inr rfl) (RetV.one rfl (OneR.t (t := 2) (r := V.i 8) (by kernel_rfl))) (by kernel_rfl) (by kernel_rfl) (by kernel_rfl)
     refine CO.ifF hc47 (by kernel_rfl) ?_
     refine CO.join (fun (⟨a0, y7⟩ : (Int × Bool)) => ⟨tl 29 [(3, V.i a0), (20, V.b y7)], []⟩) (fun i => mi_OpLevel_k3 i = some r) ?_ ?_
     · rintro ⟨a0, y7⟩ h49
       rw [mi_OpLevel_k3] at h49
       (revert h49; refine cR (fun hc50 h49 => ?_) (fun hc50 h49 => ?_))
       ·refine CO.ifT hc50 (by kernel_rfl) ?_
        refine cu Dk mix 1 100 (tl 29 [(2, V.i 9)]) [] (by kernel_rfl) ?_
        refine CO.ret ?_
        have h49 := Option.some.inj h49
        subst h49
        exact Ends.gen [] (.inr rfl) (RetV.one rfl (OneR.t (t := 2) (r := V.i 9) (by kernel_rfl))) (by kernel_rfl) (by kernel_rfl) (by kernel_rfl)
       refine CO.ifF hc50 (by kernel_rfl) ?_
       refine CO.join (fun (⟨a0, y8⟩ : (Int × Bool)) => ⟨tl 29 [(3, V.i a0), (23, V.b y8)], []⟩) (fun i => mi_OpLevel_k4 i = some r) ?_ ?_
       · rintro ⟨a0, y8⟩ h53
         rw [mi_OpLevel_k4] at h53
         (revert h53; refine cR (fun hc54 h53 => ?_) (fun hc54 h53 => ?_))
         ·refine CO.ifT hc54 (by kernel_rfl) ?_
          refine cu Dk mix 1 100 (tl 29 [(2, V.i 10)]) [] (by kernel_rfl) ?_
          refine CO.ret ?_
          have h53 := Option.some.inj h53
          subst h53
          exact Ends.gen [] (.inr rfl) (RetV.one rfl (OneR.t (t := 2) (r := V.i 10) (by kernel_rfl))) (by kernel_rfl) (by kernel_rfl) (by kernel_rfl)
         refine CO.ifF hc54 (by kernel_rfl) ?_
         refine cu Dk mix 2 100 (tl 29 [(27, V.b (a0 == 60))]) [] (by kernel_rfl) ?_
         (revert h53; refine cR (fun hc55 h53 => ?_) (fun hc55 h53 => ?_))
         ·refine CO.ifT hc55 (by kernel_rfl) ?_
          refine cu Dk mix 1 100 (tl 29 [(2, V.i 12)]) [] (by kernel_rfl) ?_
          refine CO.ret ?_
          have h53 := Option.some.inj h53
          subst h53
          exact Ends.gen [] (.inr rfl) (RetV.one rfl (OneR.t (t := 2) (r := V.i 12) (by kernel_rfl))) (by kernel_rfl) (by kernel_rfl) (by kernel_rfl)
         refine CO.ifF hc55 (by kernel_rfl) ?_
         refine CO.skip ?_
         refine cu Dk mix 1 100 (tl 29 [(2, V.i 0)]) [] (by kernel_rfl) ?_
         refine CO.ret ?_
         have h53 := Option.some.inj h53
         subst h53
         exact Ends.gen [] (.inr rfl) (RetV.one rfl (OneR.t (t := 2) (r := V.i 0) (by kernel_rfl))) (by kernel_rfl) (by kernel_rfl) (by kernel_rfl)
       intro hk56
       refine cu Dk mix 2 100 (tl 29 [(3, V.i a0), (23, V.b (a0 == 57))]) [] (by kernel_rfl) ?_
       (revert h49; refine cR (fun hc57 h49 => ?_) (fun hc57 h49 => ?_))
       ·refine CO.ifT hc57 (by kernel_rfl) ?_
        refine CO.skip ?_
        exact hk56 (a0, (a0 == 57)) h49 _ (Weak.sel [] [3, 23] (by kernel_rfl) (by kernel_rfl) (by kernel_rfl))
       refine CO.ifF hc57 (by kernel_rfl) ?_
       refine cu Dk mix 2 100 (tl 29 [(3, V.i a0), (23, V.b (a0 == 58))]) [] (by kernel_rfl) ?_
       (revert h49; refine cR (fun hc58 h49 => ?_) (fun hc58 h49 => ?_))
       ·refine CO.ifT hc58 (by kernel_rfl) ?_
        refine CO.skip ?_
        exact hk56 (a0, (a0 == 58)) h49 _ (Weak.sel [] [3, 23] (by kernel_rfl) (by kernel_rfl) (by kernel_rfl))
       refine CO.ifF hc58 (by kernel_rfl) ?_
       refine ce Dk mix 2 100 (tl 29 [(3, V.i a0), (23, V.b (a0 == 59))]) [] (by kernel_rfl) (fun st hw => ?_)
       exact hk56 (a0, (a0 == 59)) h49 _ (hw.trans (Weak.sel [] [3, 23] (by kernel_rfl) (by kernel_rfl) (by kernel_rfl)))
     intro hk59
     refine cu Dk mix 2 100 (tl 29 [(3, V.i a0), (20, V.b (a0 == 55))]) [] (by kernel_rfl) ?_
     (revert h45; refine cR (fun hc60 h45 => ?_) (fun hc60 h45 => ?_))
     ·refine CO.ifT hc60 (by kernel_rfl) ?_
      refine CO.skip ?_
      exact hk59 (a0, (a0 == 55)) h45 _ (Weak.sel [] [3, 20] (by kernel_rfl) (by kernel_rfl) (by kernel_rfl))
     refine CO.ifF hc60 (by kernel_rfl) ?_
     refine ce Dk mix 2 100 (tl 29 [(3, V.i a0), (20, V.b (a0 == 56))]) [] (by kernel_rfl) (fun st hw => ?_)
     exact hk59 (a0, (a0 == 56)) h45 _ (hw.trans (Weak.sel [] [3, 20] (by kernel_rfl) (by kernel_rfl) (by kernel_rfl)))
   intro hk61
   refine cu Dk mix 2 100 (tl 29 [(3, V.i a0), (11, V.b (a0 == 63))]) [] (by kernel_rfl) ?_
   (revert h38; refine cR (fun hc62 h38 => ?_) (fun hc62 h38 => ?_))
   ·refine CO.ifT hc62 (by kernel_rfl) ?_
    refine CO.skip ?_
    exact hk61 (a0, (a0 == 63)) h38 _ (Weak.sel [] [3, 11] (by kernel_rfl) (by kernel_rfl) (by kernel_rfl))
   refine CO.ifF hc62 (by kernel_rfl) ?_
   refine cu Dk mix 2 100 (tl 29 [(3, V.i a0), (11, V.b (a0 == 48))]) [] (by kernel_rfl) ?_
   (revert h38; refine cR (fun hc63 h38 => ?_) (fun hc63 h38 => ?_))
   ·refine CO.ifT hc63 (by kernel_rfl) ?_
    refine CO.skip ?_
    exact hk61 (a0, (a0 == 48)) h38 _ (Weak.sel [] [3, 11] (by kernel_rfl) (by kernel_rfl) (by kernel_rfl))
   refine CO.ifF hc63 (by kernel_rfl) ?_
   refine cu Dk mix 2 100 (tl 29 [(3, V.i a0), (11, V.b (a0 == 47))]) [] (by kernel_rfl) ?_
   (revert h38; refine cR (fun hc64 h38 => ?_) (fun hc64 h38 => ?_))
   ·refine CO.ifT hc64 (by kernel_rfl) ?_
    refine CO.skip ?_
    exact hk61 (a0, (a0 == 47)) h38 _ (Weak.sel [] [3, 11] (by kernel_rfl) (by kernel_rfl) (by kernel_rfl))
   refine CO.ifF hc64 (by kernel_rfl) ?_
   refine cu Dk mix 2 100 (tl 29 [(3, V.i a0), (11, V.b (a0 == 50))]) [] (by kernel_rfl) ?_
   (revert h38; refine cR (fun hc65 h38 => ?_) (fun hc65 h38 => ?_))
   ·refine CO.ifT hc65 (by kernel_rfl) ?_
    refine CO.skip ?_
    exact hk61 (a0, (a0 == 50)) h38 _ (Weak.sel [] [3, 11] (by kernel_rfl) (by kernel_rfl) (by kernel_rfl))
   refine CO.ifF hc65 (by kernel_rfl) ?_
   refine cu Dk mix 2 100 (tl 29 [(3, V.i a0), (11, V.b (a0 == 62))]) [] (by kernel_rfl) ?_
   (revert h38; refine cR (fun hc66 h38 => ?_) (fun hc66 h38 => ?_))
   ·refine CO.ifT hc66 (by kernel_rfl) ?_
    refine CO.skip ?_
    exact hk61 (a0, (a0 == 62)) h38 _ (Weak.sel [] [3, 11] (by kernel_rfl) (by kernel_rfl) (by kernel_rfl))
   refine CO.ifF hc66 (by kernel_rfl) ?_
   refine ce Dk mix 2 100 (tl 29 [(3, V.i a0), (11, V.b (a0 == 49))]) [] (by kernel_rfl) (fun st hw => ?_)
   exact hk61 (a0, (a0 == 49)) h38 _ (hw.trans (Weak.sel [] [3, 11] (by kernel_rfl) (by kernel_rfl) (by kernel_rfl)))
 intro hk67
 refine cu Dk mix 2 100 (tl 29 [(3, V.i a0), (8, V.b (a0 == 67))]) [] (by kernel_rfl) ?_
 (revert h; refine cR (fun hc68 h => ?_) (fun hc68 h => ?_))
 ·refine CO.ifT hc68 (by kernel_rfl) ?_
  refine CO.skip ?_
  exact hk67 (a0, (a0 == 67)) h _ (Weak.sel [] [3, 8] (by kernel_rfl) (by kernel_rfl) (by kernel_rfl))
 refine CO.ifF hc68 (by kernel_rfl) ?_
 refine ce Dk mix 2 100 (tl 29 [(3, V.i a0), (8, V.b (a0 == 46))]) [] (by kernel_rfl) (fun st hw => ?_)
 exact hk67 (a0, (a0 == 46)) h _ (hw.trans (Weak.sel [] [3, 8] (by kernel_rfl) (by kernel_rfl) (by kernel_rfl)))

theorem mi_isAssign_ok (a0 : Int) {r : Bool} (h : mi_isAssign a0 = some r) :
    AC Tryz.prog (GS []) 125 [V.i a0] [] (V.b r) [] := by
 rw [mi_isAssign] at h
 refine AC.enter Tryz.func125 rfl ?_
 refine cu Dk mix 1 100 (tl 9 [(0, V.i a0)]) [] (by kernel_rfl) ?_
 (revert h; refine bR fun y2 hv3 h => ?_)
 refine CO.cutR (tl 9 [(2, V.b y2)]) [] mix (by
  refine W.run Dk 3 100 (by kernel_rfl) ?_
  (revert hv3; refine cR (fun hc4 hv3 => ?_) (fun hc4 hv3 => ?_))
  ·refine W.is 5 hc4 (by kernel_rfl) ?_
   refine W.run Dk 4 100 (by kernel_rfl) ?_
   have hv3 := Option.some.inj hv3
   subst hv3
   exact W.fs [] [2] (by kernel_rfl)
  refine W.is 5 hc4 (by kernel_rfl) ?_
  refine W.run Dk 1 100 (by kernel_rfl) ?_
  (revert hv3; refine bR fun r3 hx5 hv3 => ?_)
  refine W.call0 (mi_within_ok a0 38 43 hx5) cok55 rfl (by kernel_rfl) ?_
  refine W.run Dk 2 100 (by kernel_rfl) ?_
  have hv3 := Option.some.inj hv3
  subst hv3
  exact W.fs [] [2] (by kernel_rfl)
  ) ?_
 refine CO.ret ?_
 have h := Option.some.inj h
 subst h
 exact Ends.gen [] (.inr rfl) (RetV.one rfl (OneR.t (t := 2) (r := V.b y2) (by kernel_rfl))) (by kernel_rfl) (by kernel_rfl) (by kernel_rfl)

end Go.Proofs.Tryz
