/-
  The walks that show that the code computes the models, part 2.
-/
import Derived.Test.YtllanibkffnogaaGreatDoorReW1
namespace Go.Proofs.Tryz
open Go.Av
set_option maxRecDepth 100000
set_option maxHeartbeats 8000000
set_option linter.unusedSimpArgs false
set_option linter.unusedVariables false

theorem m_spec_l7Kid_ok (a0 : SNode) (a1 : Int) (a2 : Int) {r : Bool} (h : m_spec_l7Kid a0 a1 a2 = some r) :
    AC Tryz.prog (GS []) 71 [.agg [V.int a0.Kind, V.int a0.Op, V.str a0.Text, V.str a0.Other, .sl false false (a0.Kids.map encI)], V.int a1, V.int a2] [] (V.bool r) [] := by
 rw [m_spec_l7Kid] at h
 refine AC.enter Tryz.func71 rfl ?_
 refine cu D_ok mix 2 100 (tl 184 [(1, V.int a1), (2, V.int a2), (3, .loc 100 0)]) [(100, .cells 48 [V.int a0.Kind, V.int a0.Op, V.str a0.Text, V.str a0.Other, .sl false false (a0.Kids.map encI)])] (by kernel_rfl) ?_
 refine CodeOk.cutR (tl 184 [(1, V.int a1), (2, V.int a2), (3, .loc 100 0), (7, V.bool (a1 == (IntKind.wrap .i64 ((a0.Kids.length : Int) - 1))))]) [(100, .cells 48 [V.int a0.Kind, V.int a0.Op, V.str a0.Text, V.str a0.Other, .sl false false (a0.Kids.map encI)])] mix (by
  refine W.run D_ok 3 101 (by kernel_rfl) ?_
  refine W.len D_ok encI a0.Kids [] (by kernel_rfl) (by kernel_rfl) ?_
  refine W.run D_ok 3 101 (by kernel_rfl) ?_
  exact W.fi (by kernel_rfl)
  ) ?_
 refine cu D_ok mix 3 101 (tl 184 [(1, V.int a1), (2, V.int a2), (3, .loc 100 0), (7, V.bool (a1 == (IntKind.wrap .i64 ((a0.Kids.length : Int) - 1)))), (8, V.bool (a2 == 33))]) [(100, .cells 48 [V.int a0.Kind, V.int a0.Op, V.str a0.Text, V.str a0.Other, .sl false false (a0.Kids.map encI)])] (by kernel_rfl) ?_
 refine CodeOk.seq' ?_
 refine cu D_ok mix 2 101 (tl 184 [(1, V.int a1), (2, V.int a2), (3, .loc 100 0), (7, V.bool (a1 == (IntKind.wrap .i64 ((a0.Kids.length : Int) - 1)))), (8, V.bool (a2 == 33)), (18, V.int a0.Kind)]) [(100, .cells 48 [V.int a0.Kind, V.int a0.Op, V.str a0.Text, V.str a0.Other, .sl false false (a0.Kids.map encI)])] (by kernel_rfl) ?_
 refine CodeOk.block' ?_
 refine CodeOk.join (fun (⟨a1, a2, a0, y52⟩ : (Int × Int × SNode × Bool)) => ⟨tl 184 [(1, V.int a1), (2, V.int a2), (3, .loc 100 0), (7, V.bool (a1 == (IntKind.wrap .i64 ((a0.Kids.length : Int) - 1)))), (8, V.bool (a2 == 33)), (18, V.int a0.Kind), (19, V.bool y52)], [(100, .cells 48 [V.int a0.Kind, V.int a0.Op, V.str a0.Text, V.str a0.Other, .sl false false (a0.Kids.map encI)])]⟩) (fun i => m_spec_l7Kid_k1 i = some r) ?_ ?_
 · rintro ⟨a1, a2, a0, y52⟩ h181
   rw [m_spec_l7Kid_k1] at h181
   (revert h181; refine cond_rev (fun hc182 h181 => ?_) (fun hc182 h181 => ?_))
   ·refine CodeOk.ifT hc182 (by kernel_rfl) ?_
    (revert h181; refine bind_rev fun r54 hx184 h181 => ?_)
    refine CodeOk.cutR (tl 184 [(6, V.bool r54)]) [] mix (by
     refine W.run D_ok 1 101 (by kernel_rfl) ?_
     refine W.call0 (m_spec_IsLvalue_ok a2 hx184) cok102 rfl (by kernel_rfl) ?_
     refine W.run D_ok 1 101 (by kernel_rfl) ?_
     exact W.fi (by kernel_rfl)
     ) ?_
    refine CodeOk.ret ?_
    have h181 := Option.some.inj h181
    subst h181
    exact Ends.gen [] (.inr rfl) (RetV.one rfl (OneR.tmp (t := 6) (r := V.bool r54) (by kernel_rfl))) (by kernel_rfl) (by kernel_rfl) (by kernel_rfl)
   refine CodeOk.ifF hc182 (by kernel_rfl) ?_
   refine cu D_ok mix 2 101 (tl 184 [(1, V.int a1), (2, V.int a2), (3, .loc 100 0), (7, V.bool (a1 == (IntKind.wrap .i64 ((a0.Kids.length : Int) - 1)))), (8, V.bool (a2 == 33)), (18, V.int a0.Kind), (24, V.bool (a0.Kind == 15))]) [(100, .cells 48 [V.int a0.Kind, V.int a0.Op, V.str a0.Text, V.str a0.Other, .sl false false (a0.Kids.map encI)])] (by kernel_rfl) ?_
   (revert h181; refine cond_rev (fun hc185 h181 => ?_) (fun hc185 h181 => ?_))
   ·refine CodeOk.ifT hc185 (by kernel_rfl) ?_
    (revert h181; refine bind_rev fun y57 hv190 h181 => ?_)
    refine CodeOk.cutR (tl 184 [(6, V.bool y57)]) [] mix (by
     refine W.run D_ok 1 101 (by kernel_rfl) ?_
     (revert hv190; refine bind_rev fun r58 hx191 hv190 => ?_)
     refine W.call0 (m_spec_IsExpr_ok a2 hx191) cok81 rfl (by kernel_rfl) ?_
     refine W.run D_ok 1 101 (by kernel_rfl) ?_
     (revert hv190; refine cond_rev (fun hc192 hv190 => ?_) (fun hc192 hv190 => ?_))
     ·refine W.is 28 hc192 (by kernel_rfl) ?_
      refine W.run D_ok 3 101 (by kernel_rfl) ?_
      (revert hv190; refine cond_rev (fun hc193 hv190 => ?_) (fun hc193 hv190 => ?_))
      ·refine W.is 31 hc193 (by kernel_rfl) ?_
       refine W.run D_ok 5 101 (by kernel_rfl) ?_
       have hv190 := Option.some.inj hv190
       subst hv190
       exact W.fs [] [6] (by kernel_rfl)
      refine W.is 31 hc193 (by kernel_rfl) ?_
      refine W.run D_ok 1 101 (by kernel_rfl) ?_
      (revert hv190; refine bind_rev fun r59 hx194 hv190 => ?_)
      refine W.call0 (m_spec_IsLvalue_ok a2 hx194) cok102 rfl (by kernel_rfl) ?_
      refine W.run D_ok 3 101 (by kernel_rfl) ?_
      have hv190 := Option.some.inj hv190
      subst hv190
      exact W.fs [] [6] (by kernel_rfl)
     refine W.is 28 hc192 (by kernel_rfl) ?_
     refine W.run D_ok 8 101 (by kernel_rfl) ?_
     have hv190 := Option.some.inj hv190
     subst hv190
     exact W.fs [] [6] (by kernel_rfl)
     ) ?_
    refine CodeOk.ret ?_
    have h181 := Option.some.inj h181
    subst h181
    exact Ends.gen [] (.inr rfl) (RetV.one rfl (OneR.tmp (t := 6) (r := V.bool y57) (by kernel_rfl))) (by kernel_rfl) (by kernel_rfl) (by kernel_rfl)
   refine CodeOk.ifF hc185 (by kernel_rfl) ?_
   refine cu D_ok mix 2 101 (tl 184 [(1, V.int a1), (2, V.int a2), (3, .loc 100 0), (7, V.bool (a1 == (IntKind.wrap .i64 ((a0.Kids.length : Int) - 1)))), (8, V.bool (a2 == 33)), (18, V.int a0.Kind), (36, V.bool (a0.Kind == 28))]) [(100, .cells 48 [V.int a0.Kind, V.int a0.Op, V.str a0.Text, V.str a0.Other, .sl false false (a0.Kids.map encI)])] (by kernel_rfl) ?_
   (revert h181; refine cond_rev (fun hc195 h181 => ?_) (fun hc195 h181 => ?_))
   ·refine CodeOk.ifT hc195 (by kernel_rfl) ?_
    (revert h181; refine bind_rev fun y61 hv201 h181 => ?_)
    refine CodeOk.cutR (tl 184 [(6, V.bool y61)]) [] mix (by
     refine W.run D_ok 3 101 (by kernel_rfl) ?_
     (revert hv201; refine cond_rev (fun hc202 hv201 => ?_) (fun hc202 hv201 => ?_))
     ·refine W.is 40 hc202 (by kernel_rfl) ?_
      refine W.run D_ok 1 101 (by kernel_rfl) ?_
      (revert hv201; refine bind_rev fun r62 hx203 hv201 => ?_)
      refine W.call0 (m_spec_IsExpr_ok a2 hx203) cok81 rfl (by kernel_rfl) ?_
      refine W.run D_ok 2 101 (by kernel_rfl) ?_
      (revert hv201; refine cond_rev (fun hc204 hv201 => ?_) (fun hc204 hv201 => ?_))
      ·refine W.is 44 hc204 (by kernel_rfl) ?_
       refine W.run D_ok 7 101 (by kernel_rfl) ?_
       have hv201 := Option.some.inj hv201
       subst hv201
       exact W.fs [] [6] (by kernel_rfl)
      refine W.is 44 hc204 (by kernel_rfl) ?_
      refine W.run D_ok 3 101 (by kernel_rfl) ?_
      (revert hv201; refine cond_rev (fun hc205 hv201 => ?_) (fun hc205 hv201 => ?_))
      ·refine W.is 47 hc205 (by kernel_rfl) ?_
       refine W.run D_ok 4 101 (by kernel_rfl) ?_
       have hv201 := Option.some.inj hv201
       subst hv201
       exact W.fs [] [6] (by kernel_rfl)
      refine W.is 47 hc205 (by kernel_rfl) ?_
      refine W.run D_ok 4 101 (by kernel_rfl) ?_
      have hv201 := Option.some.inj hv201
      subst hv201
      exact W.fs [] [6] (by kernel_rfl)
     refine W.is 40 hc202 (by kernel_rfl) ?_
     refine W.run D_ok 7 101 (by kernel_rfl) ?_
     (revert hv201; refine cond_rev (fun hc206 hv201 => ?_) (fun hc206 hv201 => ?_))
     ·refine W.is 47 hc206 (by kernel_rfl) ?_
      refine W.run D_ok 4 101 (by kernel_rfl) ?_
      have hv201 := Option.some.inj hv201
      subst hv201
      exact W.fs [] [6] (by kernel_rfl)
     refine W.is 47 hc206 (by kernel_rfl) ?_
     refine W.run D_ok 4 101 (by kernel_rfl) ?_
     have hv201 := Option.some.inj hv201
     subst hv201
     exact W.fs [] [6] (by kernel_rfl)
     ) ?_
    refine CodeOk.ret ?_
    have h181 := Option.some.inj h181
    subst h181
    exact Ends.gen [] (.inr rfl) (RetV.one rfl (OneR.tmp (t := 6) (r := V.bool y61) (by kernel_rfl))) (by kernel_rfl) (by kernel_rfl) (by kernel_rfl)
   refine CodeOk.ifF hc195 (by kernel_rfl) ?_
   refine cu D_ok mix 2 101 (tl 184 [(1, V.int a1), (2, V.int a2), (3, .loc 100 0), (7, V.bool (a1 == (IntKind.wrap .i64 ((a0.Kids.length : Int) - 1)))), (8, V.bool (a2 == 33)), (18, V.int a0.Kind), (51, V.bool (a0.Kind == 29))]) [(100, .cells 48 [V.int a0.Kind, V.int a0.Op, V.str a0.Text, V.str a0.Other, .sl false false (a0.Kids.map encI)])] (by kernel_rfl) ?_
   (revert h181; refine cond_rev (fun hc207 h181 => ?_) (fun hc207 h181 => ?_))
   ·refine CodeOk.ifT hc207 (by kernel_rfl) ?_
    (revert h181; refine bind_rev fun y64 hv213 h181 => ?_)
    refine CodeOk.cutR (tl 184 [(6, V.bool y64)]) [] mix (by
     refine W.run D_ok 3 101 (by kernel_rfl) ?_
     (revert hv213; refine cond_rev (fun hc214 hv213 => ?_) (fun hc214 hv213 => ?_))
     ·refine W.is 55 hc214 (by kernel_rfl) ?_
      refine W.run D_ok 1 101 (by kernel_rfl) ?_
      (revert hv213; refine bind_rev fun r65 hx215 hv213 => ?_)
      refine W.call0 (m_spec_IsExpr_ok a2 hx215) cok81 rfl (by kernel_rfl) ?_
      refine W.run D_ok 2 101 (by kernel_rfl) ?_
      (revert hv213; refine cond_rev (fun hc216 hv213 => ?_) (fun hc216 hv213 => ?_))
      ·refine W.is 59 hc216 (by kernel_rfl) ?_
       refine W.run D_ok 7 101 (by kernel_rfl) ?_
       have hv213 := Option.some.inj hv213
       subst hv213
       exact W.fs [] [6] (by kernel_rfl)
      refine W.is 59 hc216 (by kernel_rfl) ?_
      refine W.run D_ok 3 101 (by kernel_rfl) ?_
      (revert hv213; refine cond_rev (fun hc217 hv213 => ?_) (fun hc217 hv213 => ?_))
      ·refine W.is 62 hc217 (by kernel_rfl) ?_
       refine W.run D_ok 4 101 (by kernel_rfl) ?_
       have hv213 := Option.some.inj hv213
       subst hv213
       exact W.fs [] [6] (by kernel_rfl)
      refine W.is 62 hc217 (by kernel_rfl) ?_
      refine W.run D_ok 4 101 (by kernel_rfl) ?_
      have hv213 := Option.some.inj hv213
      subst hv213
      exact W.fs [] [6] (by kernel_rfl)
     refine W.is 55 hc214 (by kernel_rfl) ?_
     refine W.run D_ok 7 101 (by kernel_rfl) ?_
     (revert hv213; refine cond_rev (fun hc218 hv213 => ?_) (fun hc218 hv213 => ?_))
     ·refine W.is 62 hc218 (by kernel_rfl) ?_
      refine W.run D_ok 4 101 (by kernel_rfl) ?_
      have hv213 := Option.some.inj hv213
      subst hv213
      exact W.fs [] [6] (by kernel_rfl)
     refine W.is 62 hc218 (by kernel_rfl) ?_
     refine W.run D_ok 4 101 (by kernel_rfl) ?_
     have hv213 := Option.some.inj hv213
     subst hv213
     exact W.fs [] [6] (by kernel_rfl)
     ) ?_
    refine CodeOk.ret ?_
    have h181 := Option.some.inj h181
    subst h181
    exact Ends.gen [] (.inr rfl) (RetV.one rfl (OneR.tmp (t := 6) (r := V.bool y64) (by kernel_rfl))) (by kernel_rfl) (by kernel_rfl) (by kernel_rfl)
   refine CodeOk.ifF hc207 (by kernel_rfl) ?_
   refine cu D_ok mix 2 101 (tl 184 [(1, V.int a1), (2, V.int a2), (3, .loc 100 0), (7, V.bool (a1 == (IntKind.wrap .i64 ((a0.Kids.length : Int) - 1)))), (8, V.bool (a2 == 33)), (18, V.int a0.Kind), (66, V.bool (a0.Kind == 30))]) [(100, .cells 48 [V.int a0.Kind, V.int a0.Op, V.str a0.Text, V.str a0.Other, .sl false false (a0.Kids.map encI)])] (by kernel_rfl) ?_
   (revert h181; refine cond_rev (fun hc219 h181 => ?_) (fun hc219 h181 => ?_))
   ·refine CodeOk.ifT hc219 (by kernel_rfl) ?_
    (revert h181; refine bind_rev fun y68 hv226 h181 => ?_)
    refine CodeOk.cutR (tl 184 [(6, V.bool y68)]) [] mix (by
     refine W.run D_ok 3 101 (by kernel_rfl) ?_
     (revert hv226; refine cond_rev (fun hc227 hv226 => ?_) (fun hc227 hv226 => ?_))
     ·refine W.is 70 hc227 (by kernel_rfl) ?_
      refine W.run D_ok 3 101 (by kernel_rfl) ?_
      (revert hv226; refine cond_rev (fun hc228 hv226 => ?_) (fun hc228 hv226 => ?_))
      ·refine W.is 73 hc228 (by kernel_rfl) ?_
       refine W.run D_ok 8 101 (by kernel_rfl) ?_
       have hv226 := Option.some.inj hv226
       subst hv226
       exact W.fs [] [6] (by kernel_rfl)
      refine W.is 73 hc228 (by kernel_rfl) ?_
      refine W.run D_ok 3 101 (by kernel_rfl) ?_
      (revert hv226; refine cond_rev (fun hc229 hv226 => ?_) (fun hc229 hv226 => ?_))
      ·refine W.is 76 hc229 (by kernel_rfl) ?_
       refine W.run D_ok 1 101 (by kernel_rfl) ?_
       (revert hv226; refine bind_rev fun r69 hx230 hv226 => ?_)
       refine W.call0 (m_spec_IsExpr_ok a2 hx230) cok81 rfl (by kernel_rfl) ?_
       refine W.run D_ok 3 101 (by kernel_rfl) ?_
       have hv226 := Option.some.inj hv226
       subst hv226
       exact W.fs [] [6] (by kernel_rfl)
      refine W.is 76 hc229 (by kernel_rfl) ?_
      refine W.run D_ok 5 101 (by kernel_rfl) ?_
      have hv226 := Option.some.inj hv226
      subst hv226
      exact W.fs [] [6] (by kernel_rfl)
     refine W.is 70 hc227 (by kernel_rfl) ?_
     refine W.run D_ok 6 101 (by kernel_rfl) ?_
     (revert hv226; refine cond_rev (fun hc231 hv226 => ?_) (fun hc231 hv226 => ?_))
     ·refine W.is 76 hc231 (by kernel_rfl) ?_
      refine W.run D_ok 1 101 (by kernel_rfl) ?_
      (revert hv226; refine bind_rev fun r70 hx232 hv226 => ?_)
      refine W.call0 (m_spec_IsExpr_ok a2 hx232) cok81 rfl (by kernel_rfl) ?_
      refine W.run D_ok 3 101 (by kernel_rfl) ?_
      have hv226 := Option.some.inj hv226
      subst hv226
      exact W.fs [] [6] (by kernel_rfl)
     refine W.is 76 hc231 (by kernel_rfl) ?_
     refine W.run D_ok 5 101 (by kernel_rfl) ?_
     have hv226 := Option.some.inj hv226
     subst hv226
     exact W.fs [] [6] (by kernel_rfl)
     ) ?_
    refine CodeOk.ret ?_
    have h181 := Option.some.inj h181
    subst h181
    exact Ends.gen [] (.inr rfl) (RetV.one rfl (OneR.tmp (t := 6) (r := V.bool y68) (by kernel_rfl))) (by kernel_rfl) (by kernel_rfl) (by kernel_rfl)
   refine CodeOk.ifF hc219 (by kernel_rfl) ?_
   refine cu D_ok mix 2 101 (tl 184 [(1, V.int a1), (2, V.int a2), (3, .loc 100 0), (7, V.bool (a1 == (IntKind.wrap .i64 ((a0.Kids.length : Int) - 1)))), (8, V.bool (a2 == 33)), (18, V.int a0.Kind), (81, V.bool (a0.Kind == 31))]) [(100, .cells 48 [V.int a0.Kind, V.int a0.Op, V.str a0.Text, V.str a0.Other, .sl false false (a0.Kids.map encI)])] (by kernel_rfl) ?_
   (revert h181; refine cond_rev (fun hc233 h181 => ?_) (fun hc233 h181 => ?_))
   ·refine CodeOk.ifT hc233 (by kernel_rfl) ?_
    (revert h181; refine bind_rev fun y72 hv240 h181 => ?_)
    refine CodeOk.cutR (tl 184 [(6, V.bool y72)]) [] mix (by
     refine W.run D_ok 3 101 (by kernel_rfl) ?_
     (revert hv240; refine cond_rev (fun hc241 hv240 => ?_) (fun hc241 hv240 => ?_))
     ·refine W.is 85 hc241 (by kernel_rfl) ?_
      refine W.run D_ok 1 101 (by kernel_rfl) ?_
      (revert hv240; refine bind_rev fun r73 hx242 hv240 => ?_)
      refine W.call0 (m_spec_IsExpr_ok a2 hx242) cok81 rfl (by kernel_rfl) ?_
      refine W.run D_ok 1 101 (by kernel_rfl) ?_
      (revert hv240; refine cond_rev (fun hc243 hv240 => ?_) (fun hc243 hv240 => ?_))
      ·refine W.is 88 hc243 (by kernel_rfl) ?_
       refine W.run D_ok 12 101 (by kernel_rfl) ?_
       have hv240 := Option.some.inj hv240
       subst hv240
       exact W.fs [] [6] (by kernel_rfl)
      refine W.is 88 hc243 (by kernel_rfl) ?_
      refine W.run D_ok 5 101 (by kernel_rfl) ?_
      (revert hv240; refine cond_rev (fun hc244 hv240 => ?_) (fun hc244 hv240 => ?_))
      ·refine W.is 93 hc244 (by kernel_rfl) ?_
       refine W.run D_ok 7 101 (by kernel_rfl) ?_
       have hv240 := Option.some.inj hv240
       subst hv240
       exact W.fs [] [6] (by kernel_rfl)
      refine W.is 93 hc244 (by kernel_rfl) ?_
      refine W.run D_ok 3 101 (by kernel_rfl) ?_
      (revert hv240; refine cond_rev (fun hc245 hv240 => ?_) (fun hc245 hv240 => ?_))
      ·refine W.is 96 hc245 (by kernel_rfl) ?_
       refine W.run D_ok 4 101 (by kernel_rfl) ?_
       have hv240 := Option.some.inj hv240
       subst hv240
       exact W.fs [] [6] (by kernel_rfl)
      refine W.is 96 hc245 (by kernel_rfl) ?_
      refine W.run D_ok 4 101 (by kernel_rfl) ?_
      have hv240 := Option.some.inj hv240
      subst hv240
      exact W.fs [] [6] (by kernel_rfl)
     refine W.is 85 hc241 (by kernel_rfl) ?_
     refine W.run D_ok 11 101 (by kernel_rfl) ?_
     (revert hv240; refine cond_rev (fun hc246 hv240 => ?_) (fun hc246 hv240 => ?_))
     ·refine W.is 96 hc246 (by kernel_rfl) ?_
      refine W.run D_ok 4 101 (by kernel_rfl) ?_
      have hv240 := Option.some.inj hv240
      subst hv240
      exact W.fs [] [6] (by kernel_rfl)
     refine W.is 96 hc246 (by kernel_rfl) ?_
     refine W.run D_ok 4 101 (by kernel_rfl) ?_
     have hv240 := Option.some.inj hv240
     subst hv240
     exact W.fs [] [6] (by kernel_rfl)
     ) ?_
    refine CodeOk.ret ?_
    have h181 := Option.some.inj h181
    subst h181
    exact Ends.gen [] (.inr rfl) (RetV.one rfl (OneR.tmp (t := 6) (r := V.bool y72) (by kernel_rfl))) (by kernel_rfl) (by kernel_rfl) (by kernel_rfl)
   refine CodeOk.ifF hc233 (by kernel_rfl) ?_
   refine CodeOk.join (fun (⟨a1, a2, a0, y74⟩ : (Int × Int × SNode × Bool)) => ⟨tl 184 [(1, V.int a1), (2, V.int a2), (3, .loc 100 0), (7, V.bool (a1 == (IntKind.wrap .i64 ((a0.Kids.length : Int) - 1)))), (8, V.bool (a2 == 33)), (18, V.int a0.Kind), (100, V.bool y74)], [(100, .cells 48 [V.int a0.Kind, V.int a0.Op, V.str a0.Text, V.str a0.Other, .sl false false (a0.Kids.map encI)])]⟩) (fun i => m_spec_l7Kid_k2 i = some r) ?_ ?_
   · rintro ⟨a1, a2, a0, y74⟩ h249
     rw [m_spec_l7Kid_k2] at h249
     (revert h249; refine cond_rev (fun hc250 h249 => ?_) (fun hc250 h249 => ?_))
     ·refine CodeOk.ifT hc250 (by kernel_rfl) ?_
      refine cu D_ok mix 2 101 (tl 184 [(6, V.bool (a2 == 33))]) [] (by kernel_rfl) ?_
      refine CodeOk.ret ?_
      have h249 := Option.some.inj h249
      subst h249
      exact Ends.gen [] (.inr rfl) (RetV.one rfl (OneR.tmp (t := 6) (r := V.bool (a2 == 33)) (by kernel_rfl))) (by kernel_rfl) (by kernel_rfl) (by kernel_rfl)
     refine CodeOk.ifF hc250 (by kernel_rfl) ?_
     refine cu D_ok mix 2 101 (tl 184 [(1, V.int a1), (2, V.int a2), (3, .loc 100 0), (7, V.bool (a1 == (IntKind.wrap .i64 ((a0.Kids.length : Int) - 1)))), (8, V.bool (a2 == 33)), (18, V.int a0.Kind), (105, V.bool (a0.Kind == 33))]) [(100, .cells 48 [V.int a0.Kind, V.int a0.Op, V.str a0.Text, V.str a0.Other, .sl false false (a0.Kids.map encI)])] (by kernel_rfl) ?_
     (revert h249; refine cond_rev (fun hc251 h249 => ?_) (fun hc251 h249 => ?_))
     ·refine CodeOk.ifT hc251 (by kernel_rfl) ?_
      (revert h249; refine bind_rev fun r76 hx253 h249 => ?_)
      refine CodeOk.cutR (tl 184 [(6, V.bool r76)]) [] mix (by
       refine W.run D_ok 1 101 (by kernel_rfl) ?_
       refine W.call0 (m_spec_IsStmt_ok a2 hx253) cok103 rfl (by kernel_rfl) ?_
       refine W.run D_ok 1 101 (by kernel_rfl) ?_
       exact W.fi (by kernel_rfl)
       ) ?_
      refine CodeOk.ret ?_
      have h249 := Option.some.inj h249
      subst h249
      exact Ends.gen [] (.inr rfl) (RetV.one rfl (OneR.tmp (t := 6) (r := V.bool r76) (by kernel_rfl))) (by kernel_rfl) (by kernel_rfl) (by kernel_rfl)
     refine CodeOk.ifF hc251 (by kernel_rfl) ?_
     refine cu D_ok mix 2 101 (tl 184 [(1, V.int a1), (2, V.int a2), (3, .loc 100 0), (7, V.bool (a1 == (IntKind.wrap .i64 ((a0.Kids.length : Int) - 1)))), (8, V.bool (a2 == 33)), (18, V.int a0.Kind), (109, V.bool (a0.Kind == 42))]) [(100, .cells 48 [V.int a0.Kind, V.int a0.Op, V.str a0.Text, V.str a0.Other, .sl false false (a0.Kids.map encI)])] (by kernel_rfl) ?_
     (revert h249; refine cond_rev (fun hc254 h249 => ?_) (fun hc254 h249 => ?_))
     ·refine CodeOk.ifT hc254 (by kernel_rfl) ?_
      (revert h249; refine bind_rev fun y86 hv290 h249 => ?_)
      refine CodeOk.cutR (tl 184 [(6, V.bool y86)]) [] mix (by
       refine W.run D_ok 4 101 (by kernel_rfl) ?_
       (revert hv290; refine cond_rev (fun hc291 hv290 => ?_) (fun hc291 hv290 => ?_))
       ·refine W.is 114 hc291 (by kernel_rfl) ?_
        refine W.run D_ok 1 101 (by kernel_rfl) ?_
        (revert hv290; refine bind_rev fun r87 hx292 hv290 => ?_)
        refine W.call0 (m_spec_IsExpr_ok a2 hx292) cok81 rfl (by kernel_rfl) ?_
        refine W.run D_ok 2 101 (by kernel_rfl) ?_
        (revert hv290; refine cond_rev (fun hc293 hv290 => ?_) (fun hc293 hv290 => ?_))
        ·refine W.is 118 hc293 (by kernel_rfl) ?_
         refine W.run D_ok 27 101 (by kernel_rfl) ?_
         have hv290 := Option.some.inj hv290
         subst hv290
         exact W.fs [] [6] (by kernel_rfl)
        refine W.is 118 hc293 (by kernel_rfl) ?_
        refine W.run D_ok 4 101 (by kernel_rfl) ?_
        (revert hv290; refine cond_rev (fun hc294 hv290 => ?_) (fun hc294 hv290 => ?_))
        ·refine W.is 122 hc294 (by kernel_rfl) ?_
         refine W.run D_ok 4 101 (by kernel_rfl) ?_
         (revert hv290; refine cond_rev (fun hc295 hv290 => ?_) (fun hc295 hv290 => ?_))
         ·refine W.is 126 hc295 (by kernel_rfl) ?_
          refine W.run D_ok 19 101 (by kernel_rfl) ?_
          have hv290 := Option.some.inj hv290
          subst hv290
          exact W.fs [] [6] (by kernel_rfl)
         refine W.is 126 hc295 (by kernel_rfl) ?_
         refine W.run D_ok 4 101 (by kernel_rfl) ?_
         (revert hv290; refine cond_rev (fun hc296 hv290 => ?_) (fun hc296 hv290 => ?_))
         ·refine W.is 130 hc296 (by kernel_rfl) ?_
          refine W.run D_ok 2 101 (by kernel_rfl) ?_
          (revert hv290; refine cond_rev (fun hc297 hv290 => ?_) (fun hc297 hv290 => ?_))
          ·refine W.is 132 hc297 (by kernel_rfl) ?_
           refine W.run D_ok 3 101 (by kernel_rfl) ?_
           (revert hv290; refine cond_rev (fun hc298 hv290 => ?_) (fun hc298 hv290 => ?_))
           ·refine W.is 135 hc298 (by kernel_rfl) ?_
            refine W.run D_ok 10 101 (by kernel_rfl) ?_
            have hv290 := Option.some.inj hv290
            subst hv290
            exact W.fs [] [6] (by kernel_rfl)
           refine W.is 135 hc298 (by kernel_rfl) ?_
           refine W.run D_ok 3 101 (by kernel_rfl) ?_
           (revert hv290; refine cond_rev (fun hc299 hv290 => ?_) (fun hc299 hv290 => ?_))
           ·refine W.is 138 hc299 (by kernel_rfl) ?_
            refine W.run D_ok 1 101 (by kernel_rfl) ?_
            (revert hv290; refine bind_rev fun r88 hx300 hv290 => ?_)
            refine W.call0 (m_spec_IsExpr_ok a2 hx300) cok81 rfl (by kernel_rfl) ?_
            refine W.run D_ok 5 101 (by kernel_rfl) ?_
            have hv290 := Option.some.inj hv290
            subst hv290
            exact W.fs [] [6] (by kernel_rfl)
           refine W.is 138 hc299 (by kernel_rfl) ?_
           refine W.run D_ok 7 101 (by kernel_rfl) ?_
           have hv290 := Option.some.inj hv290
           subst hv290
           exact W.fs [] [6] (by kernel_rfl)
          refine W.is 132 hc297 (by kernel_rfl) ?_
          refine W.run D_ok 6 101 (by kernel_rfl) ?_
          (revert hv290; refine cond_rev (fun hc301 hv290 => ?_) (fun hc301 hv290 => ?_))
          ·refine W.is 138 hc301 (by kernel_rfl) ?_
           refine W.run D_ok 1 101 (by kernel_rfl) ?_
           (revert hv290; refine bind_rev fun r89 hx302 hv290 => ?_)
           refine W.call0 (m_spec_IsExpr_ok a2 hx302) cok81 rfl (by kernel_rfl) ?_
           refine W.run D_ok 5 101 (by kernel_rfl) ?_
           have hv290 := Option.some.inj hv290
           subst hv290
           exact W.fs [] [6] (by kernel_rfl)
          refine W.is 138 hc301 (by kernel_rfl) ?_
          refine W.run D_ok 7 101 (by kernel_rfl) ?_
          have hv290 := Option.some.inj hv290
          subst hv290
          exact W.fs [] [6] (by kernel_rfl)
         refine W.is 130 hc296 (by kernel_rfl) ?_
         refine W.run D_ok 15 101 (by kernel_rfl) ?_
         have hv290 := Option.some.inj hv290
         subst hv290
         exact W.fs [] [6] (by kernel_rfl)
        refine W.is 122 hc294 (by kernel_rfl) ?_
        refine W.run D_ok 8 101 (by kernel_rfl) ?_
        (revert hv290; refine cond_rev (fun hc303 hv290 => ?_) (fun hc303 hv290 => ?_))
        ·refine W.is 130 hc303 (by kernel_rfl) ?_
         refine W.run D_ok 2 101 (by kernel_rfl) ?_
         (revert hv290; refine cond_rev (fun hc304 hv290 => ?_) (fun hc304 hv290 => ?_))
         ·refine W.is 132 hc304 (by kernel_rfl) ?_
          refine W.run D_ok 3 101 (by kernel_rfl) ?_
          (revert hv290; refine cond_rev (fun hc305 hv290 => ?_) (fun hc305 hv290 => ?_))
          ·refine W.is 135 hc305 (by kernel_rfl) ?_
           refine W.run D_ok 10 101 (by kernel_rfl) ?_
           have hv290 := Option.some.inj hv290
           subst hv290
           exact W.fs [] [6] (by kernel_rfl)
          refine W.is 135 hc305 (by kernel_rfl) ?_
          refine W.run D_ok 3 101 (by kernel_rfl) ?_
          (revert hv290; refine cond_rev (fun hc306 hv290 => ?_) (fun hc306 hv290 => ?_))
          ·refine W.is 138 hc306 (by kernel_rfl) ?_
           refine W.run D_ok 1 101 (by kernel_rfl) ?_
           (revert hv290; refine bind_rev fun r90 hx307 hv290 => ?_)
           refine W.call0 (m_spec_IsExpr_ok a2 hx307) cok81 rfl (by kernel_rfl) ?_
           refine W.run D_ok 5 101 (by kernel_rfl) ?_
           have hv290 := Option.some.inj hv290
           subst hv290
           exact W.fs [] [6] (by kernel_rfl)
          refine W.is 138 hc306 (by kernel_rfl) ?_
          refine W.run D_ok 7 101 (by kernel_rfl) ?_
          have hv290 := Option.some.inj hv290
          subst hv290
          exact W.fs [] [6] (by kernel_rfl)
         refine W.is 132 hc304 (by kernel_rfl) ?_
         refine W.run D_ok 6 101 (by kernel_rfl) ?_
         (revert hv290; refine cond_rev (fun hc308 hv290 => ?_) (fun hc308 hv290 => ?_))
         ·refine W.is 138 hc308 (by kernel_rfl) ?_
          refine W.run D_ok 1 101 (by kernel_rfl) ?_
          (revert hv290; refine bind_rev fun r91 hx309 hv290 => ?_)
          refine W.call0 (m_spec_IsExpr_ok a2 hx309) cok81 rfl (by kernel_rfl) ?_
          refine W.run D_ok 5 101 (by kernel_rfl) ?_
          have hv290 := Option.some.inj hv290
          subst hv290
          exact W.fs [] [6] (by kernel_rfl)
         refine W.is 138 hc308 (by kernel_rfl) ?_
         refine W.run D_ok 7 101 (by kernel_rfl) ?_
         have hv290 := Option.some.inj hv290
         subst hv290
         exact W.fs [] [6] (by kernel_rfl)
        refine W.is 130 hc303 (by kernel_rfl) ?_
        refine W.run D_ok 15 101 (by kernel_rfl) ?_
        have hv290 := Option.some.inj hv290
        subst hv290
        exact W.fs [] [6] (by kernel_rfl)
       refine W.is 114 hc291 (by kernel_rfl) ?_
       refine W.run D_ok 8 101 (by kernel_rfl) ?_
       (revert hv290; refine cond_rev (fun hc310 hv290 => ?_) (fun hc310 hv290 => ?_))
       ·refine W.is 122 hc310 (by kernel_rfl) ?_
        refine W.run D_ok 4 101 (by kernel_rfl) ?_
        (revert hv290; refine cond_rev (fun hc311 hv290 => ?_) (fun hc311 hv290 => ?_))
        ·refine W.is 126 hc311 (by kernel_rfl) ?_
         refine W.run D_ok 19 101 (by kernel_rfl) ?_
         have hv290 := Option.some.inj hv290
         subst hv290
         exact W.fs [] [6] (by kernel_rfl)
        refine W.is 126 hc311 (by kernel_rfl) ?_
        refine W.run D_ok 4 101 (by kernel_rfl) ?_
        (revert hv290; refine cond_rev (fun hc312 hv290 => ?_) (fun hc312 hv290 => ?_))
        ·refine W.is 130 hc312 (by kernel_rfl) ?_
         refine W.run D_ok 2 101 (by kernel_rfl) ?_
         (revert hv290; refine cond_rev (fun hc313 hv290 => ?_) (fun hc313 hv290 => ?_))
         ·refine W.is 132 hc313 (by kernel_rfl) ?_
          refine W.run D_ok 3 101 (by kernel_rfl) ?_
          (revert hv290; refine cond_rev (fun hc314 hv290 => ?_) (fun hc314 hv290 => ?_))
          ·refine W.is 135 hc314 (by kernel_rfl) ?_
           refine W.run D_ok 10 101 (by kernel_rfl) ?_
           have hv290 := Option.some.inj hv290
           subst hv290
           exact W.fs [] [6] (by kernel_rfl)
          refine W.is 135 hc314 (by kernel_rfl) ?_
          refine W.run D_ok 3 101 (by kernel_rfl) ?_
          (revert hv290; refine cond_rev (fun hc315 hv290 => ?_) (fun hc315 hv290 => ?_))
          ·refine W.is 138 hc315 (by kernel_rfl) ?_
           refine W.run D_ok 1 101 (by kernel_rfl) ?_
           (revert hv290; refine bind_rev fun r92 hx316 hv290 => ?_)
           refine W.call0 (m_spec_IsExpr_ok a2 hx316) cok81 rfl (by kernel_rfl) ?_
           refine W.run D_ok 5 101 (by kernel_rfl) ?_
           have hv290 := Option.some.inj hv290
           subst hv290
           exact W.fs [] [6] (by kernel_rfl)
          refine W.is 138 hc315 (by kernel_rfl) ?_
          refine W.run D_ok 7 101 (by kernel_rfl) ?_
          have hv290 := Option.some.inj hv290
          subst hv290
          exact W.fs [] [6] (by kernel_rfl)
         refine W.is 132 hc313 (by kernel_rfl) ?_
         refine W.run D_ok 6 101 (by kernel_rfl) ?_
         (revert hv290; refine cond_rev (fun hc317 hv290 => ?_) (fun hc317 hv290 => ?_))
         ·refine W.is 138 hc317 (by kernel_rfl) ?_
          refine W.run D_ok 1 101 (by kernel_rfl) ?_
          (revert hv290; refine bind_rev fun r93 hx318 hv290 => ?_)
          refine W.call0 (m_spec_IsExpr_ok a2 hx318) cok81 rfl (by kernel_rfl) ?_
          refine W.run D_ok 5 101 (by kernel_rfl) ?_
          have hv290 := Option.some.inj hv290
          subst hv290
          exact W.fs [] [6] (by kernel_rfl)
         refine W.is 138 hc317 (by kernel_rfl) ?_
         refine W.run D_ok 7 101 (by kernel_rfl) ?_
         have hv290 := Option.some.inj hv290
         subst hv290
         exact W.fs [] [6] (by kernel_rfl)
        refine W.is 130 hc312 (by kernel_rfl) ?_
        refine W.run D_ok 15 101 (by kernel_rfl) ?_
        have hv290 := Option.some.inj hv290
        subst hv290
        exact W.fs [] [6] (by kernel_rfl)
       refine W.is 122 hc310 (by kernel_rfl) ?_
       refine W.run D_ok 8 101 (by kernel_rfl) ?_
       (revert hv290; refine cond_rev (fun hc319 hv290 => ?_) (fun hc319 hv290 => ?_))
       ·refine W.is 130 hc319 (by kernel_rfl) ?_
        refine W.run D_ok 2 101 (by kernel_rfl) ?_
        (revert hv290; refine cond_rev (fun hc320 hv290 => ?_) (fun hc320 hv290 => ?_))
        ·refine W.is 132 hc320 (by kernel_rfl) ?_
         refine W.run D_ok 3 101 (by kernel_rfl) ?_
         (revert hv290; refine cond_rev (fun hc321 hv290 => ?_) (fun hc321 hv290 => ?_))
         ·refine W.is 135 hc321 (by kernel_rfl) ?_
          refine W.run D_ok 10 101 (by kernel_rfl) ?_
          have hv290 := Option.some.inj hv290
          subst hv290
          exact W.fs [] [6] (by kernel_rfl)
         refine W.is 135 hc321 (by kernel_rfl) ?_
         refine W.run D_ok 3 101 (by kernel_rfl) ?_
         (revert hv290; refine cond_rev (fun hc322 hv290 => ?_) (fun hc322 hv290 => ?_))
         ·refine W.is 138 hc322 (by kernel_rfl) ?_
          refine W.run D_ok 1 101 (by kernel_rfl) ?_
          (revert hv290; refine bind_rev fun r94 hx323 hv290 => ?_)
          refine W.call0 (m_spec_IsExpr_ok a2 hx323) cok81 rfl (by kernel_rfl) ?_
          refine W.run D_ok 5 101 (by kernel_rfl) ?_
          have hv290 := Option.some.inj hv290
          subst hv290
          exact W.fs [] [6] (by kernel_rfl)
         refine W.is 138 hc322 (by kernel_rfl) ?_
         refine W.run D_ok 7 101 (by kernel_rfl) ?_
         have hv290 := Option.some.inj hv290
         subst hv290
         exact W.fs [] [6] (by kernel_rfl)
        refine W.is 132 hc320 (by kernel_rfl) ?_
        refine W.run D_ok 6 101 (by kernel_rfl) ?_
        (revert hv290; refine cond_rev (fun hc324 hv290 => ?_) (fun hc324 hv290 => ?_))
        ·refine W.is 138 hc324 (by kernel_rfl) ?_
         refine W.run D_ok 1 101 (by kernel_rfl) ?_
         (revert hv290; refine bind_rev fun r95 hx325 hv290 => ?_)
         refine W.call0 (m_spec_IsExpr_ok a2 hx325) cok81 rfl (by kernel_rfl) ?_
         refine W.run D_ok 5 101 (by kernel_rfl) ?_
         have hv290 := Option.some.inj hv290
         subst hv290
         exact W.fs [] [6] (by kernel_rfl)
        refine W.is 138 hc324 (by kernel_rfl) ?_
        refine W.run D_ok 7 101 (by kernel_rfl) ?_
        have hv290 := Option.some.inj hv290
        subst hv290
        exact W.fs [] [6] (by kernel_rfl)
       refine W.is 130 hc319 (by kernel_rfl) ?_
       refine W.run D_ok 15 101 (by kernel_rfl) ?_
       have hv290 := Option.some.inj hv290
       subst hv290
       exact W.fs [] [6] (by kernel_rfl)
       ) ?_
      refine CodeOk.ret ?_
      have h249 := Option.some.inj h249
      subst h249
      exact Ends.gen [] (.inr rfl) (RetV.one rfl (OneR.tmp (t := 6) (r := V.bool y86) (by kernel_rfl))) (by kernel_rfl) (by kernel_rfl) (by kernel_rfl)
     refine CodeOk.ifF hc254 (by kernel_rfl) ?_
     refine cu D_ok mix 2 101 (tl 184 [(1, V.int a1), (2, V.int a2), (7, V.bool (a1 == (IntKind.wrap .i64 ((a0.Kids.length : Int) - 1)))), (8, V.bool (a2 == 33)), (18, V.int a0.Kind), (145, V.bool (a0.Kind == 43))]) [] (by kernel_rfl) ?_
     (revert h249; refine cond_rev (fun hc326 h249 => ?_) (fun hc326 h249 => ?_))
     ·refine CodeOk.ifT hc326 (by kernel_rfl) ?_
      (revert h249; refine bind_rev fun y97 hv332 h249 => ?_)
      refine CodeOk.cutR (tl 184 [(6, V.bool y97)]) [] mix (by
       refine W.run D_ok 3 101 (by kernel_rfl) ?_
       (revert hv332; refine cond_rev (fun hc333 hv332 => ?_) (fun hc333 hv332 => ?_))
       ·refine W.is 149 hc333 (by kernel_rfl) ?_
        refine W.run D_ok 1 101 (by kernel_rfl) ?_
        (revert hv332; refine bind_rev fun r98 hx334 hv332 => ?_)
        refine W.call0 (m_spec_IsExpr_ok a2 hx334) cok81 rfl (by kernel_rfl) ?_
        refine W.run D_ok 2 101 (by kernel_rfl) ?_
        (revert hv332; refine cond_rev (fun hc335 hv332 => ?_) (fun hc335 hv332 => ?_))
        ·refine W.is 153 hc335 (by kernel_rfl) ?_
         refine W.run D_ok 7 101 (by kernel_rfl) ?_
         have hv332 := Option.some.inj hv332
         subst hv332
         exact W.fs [] [6] (by kernel_rfl)
        refine W.is 153 hc335 (by kernel_rfl) ?_
        refine W.run D_ok 3 101 (by kernel_rfl) ?_
        (revert hv332; refine cond_rev (fun hc336 hv332 => ?_) (fun hc336 hv332 => ?_))
        ·refine W.is 156 hc336 (by kernel_rfl) ?_
         refine W.run D_ok 4 101 (by kernel_rfl) ?_
         have hv332 := Option.some.inj hv332
         subst hv332
         exact W.fs [] [6] (by kernel_rfl)
        refine W.is 156 hc336 (by kernel_rfl) ?_
        refine W.run D_ok 4 101 (by kernel_rfl) ?_
        have hv332 := Option.some.inj hv332
        subst hv332
        exact W.fs [] [6] (by kernel_rfl)
       refine W.is 149 hc333 (by kernel_rfl) ?_
       refine W.run D_ok 7 101 (by kernel_rfl) ?_
       (revert hv332; refine cond_rev (fun hc337 hv332 => ?_) (fun hc337 hv332 => ?_))
       ·refine W.is 156 hc337 (by kernel_rfl) ?_
        refine W.run D_ok 4 101 (by kernel_rfl) ?_
        have hv332 := Option.some.inj hv332
        subst hv332
        exact W.fs [] [6] (by kernel_rfl)
       refine W.is 156 hc337 (by kernel_rfl) ?_
       refine W.run D_ok 4 101 (by kernel_rfl) ?_
       have hv332 := Option.some.inj hv332
       subst hv332
       exact W.fs [] [6] (by kernel_rfl)
       ) ?_
      refine CodeOk.ret ?_
      have h249 := Option.some.inj h249
      subst h249
      exact Ends.gen [] (.inr rfl) (RetV.one rfl (OneR.tmp (t := 6) (r := V.bool y97) (by kernel_rfl))) (by kernel_rfl) (by kernel_rfl) (by kernel_rfl)
     refine CodeOk.ifF hc326 (by kernel_rfl) ?_
     refine cu D_ok mix 2 101 (tl 184 [(2, V.int a2), (7, V.bool (a1 == (IntKind.wrap .i64 ((a0.Kids.length : Int) - 1)))), (8, V.bool (a2 == 33)), (18, V.int a0.Kind), (160, V.bool (a0.Kind == 44))]) [] (by kernel_rfl) ?_
     (revert h249; refine cond_rev (fun hc338 h249 => ?_) (fun hc338 h249 => ?_))
     ·refine CodeOk.ifT hc338 (by kernel_rfl) ?_
      (revert h249; refine bind_rev fun y99 hv343 h249 => ?_)
      refine CodeOk.cutR (tl 184 [(6, V.bool y99)]) [] mix (by
       refine W.run D_ok 2 101 (by kernel_rfl) ?_
       (revert hv343; refine cond_rev (fun hc344 hv343 => ?_) (fun hc344 hv343 => ?_))
       ·refine W.is 163 hc344 (by kernel_rfl) ?_
        refine W.run D_ok 3 101 (by kernel_rfl) ?_
        (revert hv343; refine cond_rev (fun hc345 hv343 => ?_) (fun hc345 hv343 => ?_))
        ·refine W.is 166 hc345 (by kernel_rfl) ?_
         refine W.run D_ok 8 101 (by kernel_rfl) ?_
         have hv343 := Option.some.inj hv343
         subst hv343
         exact W.fs [] [6] (by kernel_rfl)
        refine W.is 166 hc345 (by kernel_rfl) ?_
        refine W.run D_ok 3 101 (by kernel_rfl) ?_
        (revert hv343; refine cond_rev (fun hc346 hv343 => ?_) (fun hc346 hv343 => ?_))
        ·refine W.is 169 hc346 (by kernel_rfl) ?_
         refine W.run D_ok 5 101 (by kernel_rfl) ?_
         have hv343 := Option.some.inj hv343
         subst hv343
         exact W.fs [] [6] (by kernel_rfl)
        refine W.is 169 hc346 (by kernel_rfl) ?_
        refine W.run D_ok 5 101 (by kernel_rfl) ?_
        have hv343 := Option.some.inj hv343
        subst hv343
        exact W.fs [] [6] (by kernel_rfl)
       refine W.is 163 hc344 (by kernel_rfl) ?_
       refine W.run D_ok 6 101 (by kernel_rfl) ?_
       (revert hv343; refine cond_rev (fun hc347 hv343 => ?_) (fun hc347 hv343 => ?_))
       ·refine W.is 169 hc347 (by kernel_rfl) ?_
        refine W.run D_ok 5 101 (by kernel_rfl) ?_
        have hv343 := Option.some.inj hv343
        subst hv343
        exact W.fs [] [6] (by kernel_rfl)
       refine W.is 169 hc347 (by kernel_rfl) ?_
       refine W.run D_ok 5 101 (by kernel_rfl) ?_
       have hv343 := Option.some.inj hv343
       subst hv343
       exact W.fs [] [6] (by kernel_rfl)
       ) ?_
      refine CodeOk.ret ?_
      have h249 := Option.some.inj h249
      subst h249
      exact Ends.gen [] (.inr rfl) (RetV.one rfl (OneR.tmp (t := 6) (r := V.bool y99) (by kernel_rfl))) (by kernel_rfl) (by kernel_rfl) (by kernel_rfl)
     refine CodeOk.ifF hc338 (by kernel_rfl) ?_
     refine cu D_ok mix 2 101 (tl 184 [(2, V.int a2), (174, V.bool (a0.Kind == 45))]) [] (by kernel_rfl) ?_
     (revert h249; refine cond_rev (fun hc348 h249 => ?_) (fun hc348 h249 => ?_))
     ·refine CodeOk.ifT hc348 (by kernel_rfl) ?_
      (revert h249; refine bind_rev fun y101 hv351 h249 => ?_)
      refine CodeOk.cutR (tl 184 [(6, V.bool y101)]) [] mix (by
       refine W.run D_ok 1 101 (by kernel_rfl) ?_
       (revert hv351; refine bind_rev fun r102 hx352 hv351 => ?_)
       refine W.call0 (m_spec_l1In_ok a2 40 44 hx352) cok51 rfl (by kernel_rfl) ?_
       refine W.run D_ok 1 101 (by kernel_rfl) ?_
       (revert hv351; refine cond_rev (fun hc353 hv351 => ?_) (fun hc353 hv351 => ?_))
       ·refine W.is 178 hc353 (by kernel_rfl) ?_
        refine W.run D_ok 4 101 (by kernel_rfl) ?_
        have hv351 := Option.some.inj hv351
        subst hv351
        exact W.fs [] [6] (by kernel_rfl)
       refine W.is 178 hc353 (by kernel_rfl) ?_
       refine W.run D_ok 4 101 (by kernel_rfl) ?_
       have hv351 := Option.some.inj hv351
       subst hv351
       exact W.fs [] [6] (by kernel_rfl)
       ) ?_
      refine CodeOk.ret ?_
      have h249 := Option.some.inj h249
      subst h249
      exact Ends.gen [] (.inr rfl) (RetV.one rfl (OneR.tmp (t := 6) (r := V.bool y101) (by kernel_rfl))) (by kernel_rfl) (by kernel_rfl) (by kernel_rfl)
     refine CodeOk.ifF hc348 (by kernel_rfl) ?_
     refine CodeOk.skip ?_
     (revert h249; refine bind_rev fun r104 hx355 h249 => ?_)
     refine CodeOk.cutR (tl 184 [(6, V.bool r104)]) [] mix (by
      refine W.run D_ok 1 101 (by kernel_rfl) ?_
      refine W.call0 (m_spec_IsExpr_ok a2 hx355) cok81 rfl (by kernel_rfl) ?_
      refine W.run D_ok 1 101 (by kernel_rfl) ?_
      exact W.fi (by kernel_rfl)
      ) ?_
     refine CodeOk.ret ?_
     have h249 := Option.some.inj h249
     subst h249
     exact Ends.gen [] (.inr rfl) (RetV.one rfl (OneR.tmp (t := 6) (r := V.bool r104) (by kernel_rfl))) (by kernel_rfl) (by kernel_rfl) (by kernel_rfl)
   intro hk356
   refine cu D_ok mix 2 101 (tl 184 [(1, V.int a1), (2, V.int a2), (3, .loc 100 0), (7, V.bool (a1 == (IntKind.wrap .i64 ((a0.Kids.length : Int) - 1)))), (8, V.bool (a2 == 33)), (18, V.int a0.Kind), (100, V.bool (a0.Kind == 32))]) [(100, .cells 48 [V.int a0.Kind, V.int a0.Op, V.str a0.Text, V.str a0.Other, .sl false false (a0.Kids.map encI)])] (by kernel_rfl) ?_
   (revert h181; refine cond_rev (fun hc357 h181 => ?_) (fun hc357 h181 => ?_))
   ·refine CodeOk.ifT hc357 (by kernel_rfl) ?_
    refine CodeOk.skip ?_
    exact hk356 (a1, a2, a0, (a0.Kind == 32)) h181 _ (Weak.sel [(100, 100)] [1, 2, 3, 7, 8, 18, 100] (by kernel_rfl) (by kernel_rfl) (by kernel_rfl))
   refine CodeOk.ifF hc357 (by kernel_rfl) ?_
   refine cu D_ok mix 2 101 (tl 184 [(1, V.int a1), (2, V.int a2), (3, .loc 100 0), (7, V.bool (a1 == (IntKind.wrap .i64 ((a0.Kids.length : Int) - 1)))), (8, V.bool (a2 == 33)), (18, V.int a0.Kind), (100, V.bool (a0.Kind == 40))]) [(100, .cells 48 [V.int a0.Kind, V.int a0.Op, V.str a0.Text, V.str a0.Other, .sl false false (a0.Kids.map encI)])] (by kernel_rfl) ?_
   (revert h181; refine cond_rev (fun hc358 h181 => ?_) (fun hc358 h181 => ?_))
   ·refine CodeOk.ifT hc358 (by kernel_rfl) ?_
    refine CodeOk.skip ?_
    exact hk356 (a1, a2, a0, (a0.Kind == 40)) h181 _ (Weak.sel [(100, 100)] [1, 2, 3, 7, 8, 18, 100] (by kernel_rfl) (by kernel_rfl) (by kernel_rfl))
   refine CodeOk.ifF hc358 (by kernel_rfl) ?_
   refine ce D_ok mix 2 101 (tl 184 [(1, V.int a1), (2, V.int a2), (3, .loc 100 0), (7, V.bool (a1 == (IntKind.wrap .i64 ((a0.Kids.length : Int) - 1)))), (8, V.bool (a2 == 33)), (18, V.int a0.Kind), (100, V.bool (a0.Kind == 41))]) [(100, .cells 48 [V.int a0.Kind, V.int a0.Op, V.str a0.Text, V.str a0.Other, .sl false false (a0.Kids.map encI)])] (by kernel_rfl) (fun st hw => ?_)
   exact hk356 (a1, a2, a0, (a0.Kind == 41)) h181 _ (hw.trans (Weak.sel [(100, 100)] [1, 2, 3, 7, 8, 18, 100] (by kernel_rfl) (by kernel_rfl) (by kernel_rfl)))
 intro hk359
 refine cu D_ok mix 2 101 (tl 184 [(1, V.int a1), (2, V.int a2), (3, .loc 100 0), (7, V.bool (a1 == (IntKind.wrap .i64 ((a0.Kids.length : Int) - 1)))), (8, V.bool (a2 == 33)), (18, V.int a0.Kind), (19, V.bool (a0.Kind == 9))]) [(100, .cells 48 [V.int a0.Kind, V.int a0.Op, V.str a0.Text, V.str a0.Other, .sl false false (a0.Kids.map encI)])] (by kernel_rfl) ?_
 (revert h; refine cond_rev (fun hc360 h => ?_) (fun hc360 h => ?_))
 ·refine CodeOk.ifT hc360 (by kernel_rfl) ?_
  refine CodeOk.skip ?_
  exact hk359 (a1, a2, a0, (a0.Kind == 9)) h _ (Weak.sel [(100, 100)] [1, 2, 3, 7, 8, 18, 19] (by kernel_rfl) (by kernel_rfl) (by kernel_rfl))
 refine CodeOk.ifF hc360 (by kernel_rfl) ?_
 refine ce D_ok mix 2 101 (tl 184 [(1, V.int a1), (2, V.int a2), (3, .loc 100 0), (7, V.bool (a1 == (IntKind.wrap .i64 ((a0.Kids.length : Int) - 1)))), (8, V.bool (a2 == 33)), (18, V.int a0.Kind), (19, V.bool (a0.Kind == 10))]) [(100, .cells 48 [V.int a0.Kind, V.int a0.Op, V.str a0.Text, V.str a0.Other, .sl false false (a0.Kids.map encI)])] (by kernel_rfl) (fun st hw => ?_)
 exact hk359 (a1, a2, a0, (a0.Kind == 10)) h _ (hw.trans (Weak.sel [(100, 100)] [1, 2, 3, 7, 8, 18, 19] (by kernel_rfl) (by kernel_rfl) (by kernel_rfl)))

theorem m_spec_TreeOk_ok (N : Nat) (a0 : List SNode) {r : Bool} (h : m_spec_TreeOk N a0 = some r) :
    AC Tryz.prog (GS []) 32 [.sl false false (a0.map (encSNode false))] [] (V.bool r) [] := by
 rw [m_spec_TreeOk] at h
 refine AC.enter Tryz.func32 rfl ?_
 refine cu D_ok mix 1 100 (tl 54 [(0, .sl false false (a0.map (encSNode false)))]) [] (by kernel_rfl) ?_
 refine CodeOk.seq' ?_
 (revert h; refine bind_rev fun y8 hv12 h => ?_)
 refine CodeOk.cutR (tl 54 [(0, .sl false false (a0.map (encSNode false))), (12, V.bool y8)]) [] mix (by
  refine W.run D_ok 1 100 (by kernel_rfl) ?_
  (revert hv12; refine bind_rev fun r9 hx13 hv12 => ?_)
  refine W.call0 (m_spec_ShapeOk_ok N a0 hx13) cok68 rfl (by kernel_rfl) ?_
  refine W.run D_ok 2 100 (by kernel_rfl) ?_
  (revert hv12; refine cond_rev (fun hc14 hv12 => ?_) (fun hc14 hv12 => ?_))
  ·refine W.is 8 hc14 (by kernel_rfl) ?_
   refine W.run D_ok 4 100 (by kernel_rfl) ?_
   have hv12 := Option.some.inj hv12
   subst hv12
   exact W.fs [] [0, 12] (by kernel_rfl)
  refine W.is 8 hc14 (by kernel_rfl) ?_
  refine W.run D_ok 1 100 (by kernel_rfl) ?_
  (revert hv12; refine bind_rev fun r10 hx15 hv12 => ?_)
  refine W.call0 (m_spec_DepthOf_ok N a0 hx15) cok69 rfl (by kernel_rfl) ?_
  refine W.run D_ok 2 100 (by kernel_rfl) ?_
  have hv12 := Option.some.inj hv12
  subst hv12
  exact W.fs [] [0, 12] (by kernel_rfl)
  ) ?_
 (revert h; refine cond_rev (fun hc16 h => ?_) (fun hc16 h => ?_))
 ·refine CodeOk.ifT hc16 (by kernel_rfl) ?_
  refine cu D_ok mix 1 100 (tl 54 [(2, V.bool false)]) [] (by kernel_rfl) ?_
  refine CodeOk.ret ?_
  have h := Option.some.inj h
  subst h
  exact Ends.gen [] (.inr rfl) (RetV.one rfl (OneR.tmp (t := 2) (r := V.bool false) (by kernel_rfl))) (by kernel_rfl) (by kernel_rfl) (by kernel_rfl)
 refine CodeOk.ifF hc16 (by kernel_rfl) ?_
 refine CodeOk.skip ?_
 refine CodeOk.seq' ?_
 refine cu D_ok mix 1 100 (tl 54 [(0, .sl false false (a0.map (encSNode false))), (3, V.int 0)]) [] (by kernel_rfl) ?_
 refine CodeOk.block' ?_
 refine CodeOk.loopJ (fun (⟨a0, y669⟩ : ((List SNode) × Int)) => ⟨tl 54 [(0, .sl false false (a0.map (encSNode false))), (3, V.int y669)], []⟩) (fun n i => m_spec_TreeOk_l1 N n i = some r) (n0 := N) (i0 := (a0, 0)) (Weak.sel [] [0, 3] (by kernel_rfl) (by kernel_rfl) (by kernel_rfl)) h (fun i h => by simp [m_spec_TreeOk_l1] at h) ?_
 rintro n1 ⟨a0, y669⟩ h989 ih990
 rw [m_spec_TreeOk_l1] at h989
 refine CodeOk.seq' ?_
 refine CodeOk.cutR (tl 54 [(0, .sl false false (a0.map (encSNode false))), (3, V.int y669), (16, V.bool (decide (y669 < (a0.length : Int))))]) [] mix (by
  refine W.run D_ok 2 280 (by kernel_rfl) ?_
  refine W.len D_ok (encSNode false) a0 [] (by kernel_rfl) (by kernel_rfl) ?_
  refine W.run D_ok 1 280 (by kernel_rfl) ?_
  exact W.fi (by kernel_rfl)
  ) ?_
 (revert h989; refine cond_rev (fun hc992 h989 => ?_) (fun hc992 h989 => ?_))
 ·refine CodeOk.ifT hc992 (by kernel_rfl) ?_
  refine CodeOk.skip ?_
  refine CodeOk.seq' ?_
  refine CodeOk.block' ?_
  refine CodeOk.seq' ?_
  (revert h989; refine bind_rev fun e923 hx1096 h989 => ?_)
  (revert h989; refine bind_rev fun r924 hx1097 h989 => ?_)
  refine CodeOk.cutR (tl 54 [(0, .sl false false (a0.map (encSNode false))), (3, V.int y669), (24, V.bool (!r924))]) [] mix (by
   refine W.run D_ok 2 280 (by kernel_rfl) ?_
   refine W.ixD D_ok (encSNode false) hx1096 5 (by kernel_rfl) (by kernel_rfl) ?_
   refine W.run D_ok 1 280 (by kernel_rfl) ?_
   refine W.call0 (m_spec_FieldsOk_ok N e923 hx1097) cok70 rfl (by kernel_rfl) ?_
   refine W.run D_ok 1 280 (by kernel_rfl) ?_
   exact W.fi (by kernel_rfl)
   ) ?_
  (revert h989; refine cond_rev (fun hc1098 h989 => ?_) (fun hc1098 h989 => ?_))
  ·refine CodeOk.ifT hc1098 (by kernel_rfl) ?_
   refine cu D_ok mix 1 280 (tl 54 [(2, V.bool false)]) [] (by kernel_rfl) ?_
   refine CodeOk.ret ?_
   have h989 := Option.some.inj h989
   subst h989
   exact Ends.gen [] (.inr rfl) (RetV.one rfl (OneR.tmp (t := 2) (r := V.bool false) (by kernel_rfl))) (by kernel_rfl) (by kernel_rfl) (by kernel_rfl)
  refine CodeOk.ifF hc1098 (by kernel_rfl) ?_
  refine CodeOk.skip ?_
  refine cu D_ok mix 1 280 (tl 54 [(0, .sl false false (a0.map (encSNode false))), (3, V.int y669), (4, V.int 0)]) [] (by kernel_rfl) ?_
  refine CodeOk.block' ?_
  refine CodeOk.loopJ (fun (⟨a0, y669, y949⟩ : ((List SNode) × Int × Int)) => ⟨tl 54 [(0, .sl false false (a0.map (encSNode false))), (3, V.int y669), (4, V.int y949)], []⟩) (fun n i => m_spec_TreeOk_l2 N (m_spec_TreeOk_l1 N n1) n i = some r) (n0 := N) (i0 := (a0, y669, 0)) (Weak.sel [] [0, 3, 4] (by kernel_rfl) (by kernel_rfl) (by kernel_rfl)) h989 (fun i h => by simp [m_spec_TreeOk_l2] at h) ?_
  rintro n2 ⟨a0, y669, y949⟩ h1155 ih1156
  rw [m_spec_TreeOk_l2] at h1155
  refine CodeOk.seq' ?_
  (revert h1155; refine bind_rev fun e978 hx1161 h1155 => ?_)
  refine CodeOk.cutR (tl 54 [(0, .sl false false (a0.map (encSNode false))), (3, V.int y669), (4, V.int y949), (32, V.bool (decide (y949 < (e978.Kids.length : Int))))]) [] mix (by
   refine W.run D_ok 3 340 (by kernel_rfl) ?_
   refine W.ixD D_ok (encSNode false) hx1161 5 (by kernel_rfl) (by kernel_rfl) ?_
   refine W.run D_ok 2 340 (by kernel_rfl) ?_
   refine W.len D_ok encI e978.Kids [] (by kernel_rfl) (by kernel_rfl) ?_
   refine W.run D_ok 1 340 (by kernel_rfl) ?_
   exact W.fi (by kernel_rfl)
   ) ?_
  (revert h1155; refine cond_rev (fun hc1162 h1155 => ?_) (fun hc1162 h1155 => ?_))
  ·refine CodeOk.ifT hc1162 (by kernel_rfl) ?_
   refine CodeOk.skip ?_
   refine CodeOk.seq' ?_
   refine CodeOk.block' ?_
   (revert h1155; refine bind_rev fun e994 hx1179 h1155 => ?_)
   (revert h1155; refine bind_rev fun e995 hx1180 h1155 => ?_)
   (revert h1155; refine bind_rev fun e996 hx1181 h1155 => ?_)
   (revert h1155; refine bind_rev fun e997 hx1182 h1155 => ?_)
   (revert h1155; refine bind_rev fun r998 hx1183 h1155 => ?_)
   refine CodeOk.cutR (tl 54 [(0, .sl false false (a0.map (encSNode false))), (3, V.int y669), (4, V.int y949), (53, V.bool (!r998))]) [] mix (by
    refine W.run D_ok 2 340 (by kernel_rfl) ?_
    refine W.ixD D_ok (encSNode false) hx1179 5 (by kernel_rfl) (by kernel_rfl) ?_
    refine W.run D_ok 5 340 (by kernel_rfl) ?_
    refine W.ixD D_ok (encSNode false) hx1180 5 (by kernel_rfl) (by kernel_rfl) ?_
    refine W.run D_ok 3 340 (by kernel_rfl) ?_
    refine W.ixD D_ok encI hx1181 1 (by kernel_rfl) (by kernel_rfl) ?_
    refine W.run D_ok 1 340 (by kernel_rfl) ?_
    refine W.ixD D_ok (encSNode false) hx1182 5 (by kernel_rfl) (by kernel_rfl) ?_
    refine W.run D_ok 2 340 (by kernel_rfl) ?_
    refine W.call0 (m_spec_l7Kid_ok e994 y949 e997.Kind hx1183) cok71 rfl (by kernel_rfl) ?_
    refine W.run D_ok 1 340 (by kernel_rfl) ?_
    exact W.fi (by kernel_rfl)
    ) ?_
   (revert h1155; refine cond_rev (fun hc1184 h1155 => ?_) (fun hc1184 h1155 => ?_))
   ·refine CodeOk.ifT hc1184 (by kernel_rfl) ?_
    refine cu D_ok mix 1 340 (tl 54 [(2, V.bool false)]) [] (by kernel_rfl) ?_
    refine CodeOk.ret ?_
    have h1155 := Option.some.inj h1155
    subst h1155
    exact Ends.gen [] (.inr rfl) (RetV.one rfl (OneR.tmp (t := 2) (r := V.bool false) (by kernel_rfl))) (by kernel_rfl) (by kernel_rfl) (by kernel_rfl)
   refine CodeOk.ifF hc1184 (by kernel_rfl) ?_
   refine CodeOk.skip ?_
   refine ce D_ok mix 3 340 (tl 54 [(0, .sl false false (a0.map (encSNode false))), (3, V.int y669), (4, V.int (IntKind.wrap .i64 (y949 + 1)))]) [] (by kernel_rfl) (fun st hw => ?_)
   exact ih1156 (a0, y669, (IntKind.wrap .i64 (y949 + 1))) h1155 _ (hw.trans (Weak.sel [] [0, 3, 4] (by kernel_rfl) (by kernel_rfl) (by kernel_rfl)))
  refine CodeOk.ifF hc1162 (by kernel_rfl) ?_
  refine CodeOk.exit ?_
  refine ce D_ok mix 3 340 (tl 54 [(0, .sl false false (a0.map (encSNode false))), (3, V.int (IntKind.wrap .i64 (y669 + 1)))]) [] (by kernel_rfl) (fun st hw => ?_)
  exact ih990 (a0, (IntKind.wrap .i64 (y669 + 1))) h1155 _ (hw.trans (Weak.sel [] [0, 3] (by kernel_rfl) (by kernel_rfl) (by kernel_rfl)))
 refine CodeOk.ifF hc992 (by kernel_rfl) ?_
 refine CodeOk.exit ?_
 refine cu D_ok mix 1 280 (tl 54 [(2, V.bool true)]) [] (by kernel_rfl) ?_
 refine CodeOk.ret ?_
 have h989 := Option.some.inj h989
 subst h989
 exact Ends.gen [] (.inr rfl) (RetV.one rfl (OneR.tmp (t := 2) (r := V.bool true) (by kernel_rfl))) (by kernel_rfl) (by kernel_rfl) (by kernel_rfl)

theorem m_spec_l43Text_ok (N : Nat) (a0 : List UInt8) {r : (List UInt8)} (h : m_spec_l43Text N a0 = some r) :
    AC Tryz.prog (GS []) 73 [V.str a0] [] (V.str r) [] := by
 rw [m_spec_l43Text] at h
 refine AC.enter Tryz.func73 rfl ?_
 refine cu D_ok mix 1 100 (tl 8 [(0, V.str a0)]) [] (by kernel_rfl) ?_
 (revert h; refine bind_rev fun r3 hx3 h => ?_)
 (revert h; refine bind_rev fun s4 hx4 h => ?_)
 refine CodeOk.cutR (tl 8 [(2, V.str s4)]) [] mix (by
  refine W.run D_ok 2 100 (by kernel_rfl) ?_
  refine W.call0 (m_spec_Var_ok N (a0.length : Int) hx3) cok72 rfl (by kernel_rfl) ?_
  refine W.run D_ok 1 100 (by kernel_rfl) ?_
  refine W.cat hx4 (by kernel_rfl) ?_
  refine W.run D_ok 1 100 (by kernel_rfl) ?_
  exact W.fi (by kernel_rfl)
  ) ?_
 refine CodeOk.ret ?_
 have h := Option.some.inj h
 subst h
 exact Ends.gen [] (.inr rfl) (RetV.one rfl (OneR.tmp (t := 2) (r := V.str s4) (by kernel_rfl))) (by kernel_rfl) (by kernel_rfl) (by kernel_rfl)

theorem m_spec_ShowTree_ok (N : Nat) (a0 : List SNode) {r : (List UInt8)} (h : m_spec_ShowTree N a0 = some r) :
    AC Tryz.prog (GS []) 33 [.sl false false (a0.map (encSNode false))] [] (V.str r) [] := by
 rw [m_spec_ShowTree] at h
 refine AC.enter Tryz.func33 rfl ?_
 refine cu D_ok mix 1 100 (tl 55 [(0, .sl false false (a0.map (encSNode false)))]) [] (by kernel_rfl) ?_
 refine CodeOk.seq' ?_
 (revert h; refine bind_rev fun r4 hx5 h => ?_)
 refine CodeOk.cutR (tl 55 [(0, .sl false false (a0.map (encSNode false))), (7, V.bool (!r4))]) [] mix (by
  refine W.run D_ok 1 100 (by kernel_rfl) ?_
  refine W.call0 (m_spec_TreeOk_ok N a0 hx5) cok32 rfl (by kernel_rfl) ?_
  refine W.run D_ok 1 100 (by kernel_rfl) ?_
  exact W.fi (by kernel_rfl)
  ) ?_
 (revert h; refine cond_rev (fun hc6 h => ?_) (fun hc6 h => ?_))
 ·refine CodeOk.ifT hc6 (by kernel_rfl) ?_
  refine cu D_ok mix 1 100 (tl 55 [(2, V.str [])]) [] (by kernel_rfl) ?_
  refine CodeOk.ret ?_
  have h := Option.some.inj h
  subst h
  exact Ends.gen [] (.inr rfl) (RetV.one rfl (OneR.tmp (t := 2) (r := V.str []) (by kernel_rfl))) (by kernel_rfl) (by kernel_rfl) (by kernel_rfl)
 refine CodeOk.ifF hc6 (by kernel_rfl) ?_
 refine CodeOk.skip ?_
 (revert h; refine bind_rev fun r6 hx8 h => ?_)
 refine CodeOk.cutR (tl 55 [(0, .sl false false (a0.map (encSNode false))), (3, V.str r6)]) [] mix (by
  refine W.run D_ok 1 100 (by kernel_rfl) ?_
  refine W.len D_ok (encSNode false) a0 [] (by kernel_rfl) (by kernel_rfl) ?_
  refine W.call0 (m_spec_Var_ok N (a0.length : Int) hx8) cok72 rfl (by kernel_rfl) ?_
  refine W.run D_ok 1 100 (by kernel_rfl) ?_
  exact W.fi (by kernel_rfl)
  ) ?_
 refine CodeOk.seq' ?_
 refine cu D_ok mix 1 100 (tl 55 [(0, .sl false false (a0.map (encSNode false))), (3, V.str r6), (4, V.int 0)]) [] (by kernel_rfl) ?_
 refine CodeOk.block' ?_
 refine CodeOk.loopJ (fun (⟨a0, y251, y252⟩ : ((List SNode) × (List UInt8) × Int)) => ⟨tl 55 [(0, .sl false false (a0.map (encSNode false))), (3, V.str y251), (4, V.int y252)], []⟩) (fun n i => m_spec_ShowTree_l1 N n i = some r) (n0 := N) (i0 := (a0, r6, 0)) (Weak.sel [] [0, 3, 4] (by kernel_rfl) (by kernel_rfl) (by kernel_rfl)) h (fun i h => by simp [m_spec_ShowTree_l1] at h) ?_
 rintro n1 ⟨a0, y251, y252⟩ h321 ih322
 rw [m_spec_ShowTree_l1] at h321
 refine CodeOk.seq' ?_
 refine CodeOk.cutR (tl 55 [(0, .sl false false (a0.map (encSNode false))), (3, V.str y251), (4, V.int y252), (14, V.bool (decide (y252 < (a0.length : Int))))]) [] mix (by
  refine W.run D_ok 2 160 (by kernel_rfl) ?_
  refine W.len D_ok (encSNode false) a0 [] (by kernel_rfl) (by kernel_rfl) ?_
  refine W.run D_ok 1 160 (by kernel_rfl) ?_
  exact W.fi (by kernel_rfl)
  ) ?_
 (revert h321; refine cond_rev (fun hc324 h321 => ?_) (fun hc324 h321 => ?_))
 ·refine CodeOk.ifT hc324 (by kernel_rfl) ?_
  refine CodeOk.skip ?_
  refine CodeOk.seq' ?_
  refine CodeOk.block' ?_
  (revert h321; refine bind_rev fun e360 hx370 h321 => ?_)
  (revert h321; refine bind_rev fun r361 hx371 h321 => ?_)
  (revert h321; refine bind_rev fun s362 hx372 h321 => ?_)
  (revert h321; refine bind_rev fun e363 hx373 h321 => ?_)
  (revert h321; refine bind_rev fun r364 hx374 h321 => ?_)
  (revert h321; refine bind_rev fun s365 hx375 h321 => ?_)
  (revert h321; refine bind_rev fun e366 hx376 h321 => ?_)
  (revert h321; refine bind_rev fun r367 hx377 h321 => ?_)
  (revert h321; refine bind_rev fun s368 hx378 h321 => ?_)
  (revert h321; refine bind_rev fun e369 hx379 h321 => ?_)
  (revert h321; refine bind_rev fun r370 hx380 h321 => ?_)
  (revert h321; refine bind_rev fun s371 hx381 h321 => ?_)
  (revert h321; refine bind_rev fun e372 hx382 h321 => ?_)
  (revert h321; refine bind_rev fun r373 hx383 h321 => ?_)
  (revert h321; refine bind_rev fun s374 hx384 h321 => ?_)
  refine CodeOk.endR (tl 55 [(0, .sl false false (a0.map (encSNode false))), (3, V.str s374), (4, V.int y252)]) [] mix (by
   refine W.run D_ok 3 160 (by kernel_rfl) ?_
   refine W.ixD D_ok (encSNode false) hx370 5 (by kernel_rfl) (by kernel_rfl) ?_
   refine W.run D_ok 2 160 (by kernel_rfl) ?_
   refine W.call0 (m_spec_Var_ok N e360.Kind hx371) cok72 rfl (by kernel_rfl) ?_
   refine W.cat hx372 (by kernel_rfl) ?_
   refine W.run D_ok 2 160 (by kernel_rfl) ?_
   refine W.ixD D_ok (encSNode false) hx373 5 (by kernel_rfl) (by kernel_rfl) ?_
   refine W.run D_ok 2 160 (by kernel_rfl) ?_
   refine W.call0 (m_spec_Var_ok N e363.Op hx374) cok72 rfl (by kernel_rfl) ?_
   refine W.cat hx375 (by kernel_rfl) ?_
   refine W.run D_ok 2 160 (by kernel_rfl) ?_
   refine W.ixD D_ok (encSNode false) hx376 5 (by kernel_rfl) (by kernel_rfl) ?_
   refine W.run D_ok 2 160 (by kernel_rfl) ?_
   refine W.call0 (m_spec_l43Text_ok N e366.Text hx377) cok73 rfl (by kernel_rfl) ?_
   refine W.cat hx378 (by kernel_rfl) ?_
   refine W.run D_ok 2 160 (by kernel_rfl) ?_
   refine W.ixD D_ok (encSNode false) hx379 5 (by kernel_rfl) (by kernel_rfl) ?_
   refine W.run D_ok 2 160 (by kernel_rfl) ?_
   refine W.call0 (m_spec_l43Text_ok N e369.Other hx380) cok73 rfl (by kernel_rfl) ?_
   refine W.cat hx381 (by kernel_rfl) ?_
   refine W.run D_ok 2 160 (by kernel_rfl) ?_
   refine W.ixD D_ok (encSNode false) hx382 5 (by kernel_rfl) (by kernel_rfl) ?_
   refine W.run D_ok 2 160 (by kernel_rfl) ?_
   refine W.len D_ok encI e372.Kids [] (by kernel_rfl) (by kernel_rfl) ?_
   refine W.call0 (m_spec_Var_ok N (e372.Kids.length : Int) hx383) cok72 rfl (by kernel_rfl) ?_
   refine W.cat hx384 (by kernel_rfl) ?_
   refine W.run D_ok 1 160 (by kernel_rfl) ?_
   exact W.fi (by kernel_rfl)
   ) (fun st hw => ?_)
  refine CodeOk.weak hw ?_
  refine ce D_ok mix 3 160 (tl 55 [(0, .sl false false (a0.map (encSNode false))), (3, V.str s374), (4, V.int (IntKind.wrap .i64 (y252 + 1)))]) [] (by kernel_rfl) (fun st hw => ?_)
  exact ih322 (a0, s374, (IntKind.wrap .i64 (y252 + 1))) h321 _ (hw.trans (Weak.sel [] [0, 3, 4] (by kernel_rfl) (by kernel_rfl) (by kernel_rfl)))
 refine CodeOk.ifF hc324 (by kernel_rfl) ?_
 refine CodeOk.exit ?_
 refine cu D_ok mix 2 160 (tl 55 [(2, V.str y251)]) [] (by kernel_rfl) ?_
 refine CodeOk.ret ?_
 have h321 := Option.some.inj h321
 subst h321
 exact Ends.gen [] (.inr rfl) (RetV.one rfl (OneR.tmp (t := 2) (r := V.str y251) (by kernel_rfl))) (by kernel_rfl) (by kernel_rfl) (by kernel_rfl)

theorem m_spec_ReadTree_ok (N : Nat) (a0 : List UInt8) {r : ((List SNode) × Bool)} (h : m_spec_ReadTree N a0 = some r) :
    AC Tryz.prog (GS []) 8 [V.str a0] [] (.tup [.own 100, V.bool r.2]) [(100, .vec false 48 5 (r.1.map (encSNode true)))] := by
 rw [m_spec_ReadTree] at h
 refine AC.enter Tryz.func8 rfl ?_
 refine cu D_ok mix 2 100 (tl 106 [(0, V.str a0)]) [] (by kernel_rfl) ?_
 refine cu D_ok mix 2 100 (tl 106 [(0, V.str a0), (4, .own 100)]) [(100, .vec false 48 5 ([].map (encSNode true)))] (by kernel_rfl) ?_
 refine cu D_ok mix 2 101 (tl 106 [(0, V.str a0), (4, .own 100), (5, .own 101)]) [(101, .vec false 3 1 ([].map encI)), (100, .vec false 48 5 ([].map (encSNode true)))] (by kernel_rfl) ?_
 (revert h; refine bind_rev fun r2 hx2 h => ?_)
 refine CodeOk.cutR (tl 106 [(0, V.str a0), (4, .own 100), (5, .own 101), (6, V.int r2.1), (7, V.int r2.2)]) [(101, .vec false 3 1 ([].map encI)), (100, .vec false 48 5 ([].map (encSNode true)))] mix (by
  refine W.run D_ok 1 102 (by kernel_rfl) ?_
  refine W.call0 (m_spec_l43Num_ok N a0 0 hx2) cok29 rfl (by kernel_rfl) ?_
  refine W.run D_ok 5 102 (by kernel_rfl) ?_
  exact W.fi (by kernel_rfl)
  ) ?_
 refine CodeOk.seq' ?_
 refine cu D_ok mix 1 102 (tl 106 [(0, V.str a0), (4, .own 100), (5, .own 101), (6, V.int r2.1), (7, V.int r2.2), (8, V.int 0)]) [(101, .vec false 3 1 ([].map encI)), (100, .vec false 48 5 ([].map (encSNode true)))] (by kernel_rfl) ?_
 refine CodeOk.block' ?_
 refine CodeOk.loopJ (fun (⟨a0, r2, y171, y172, y173, y174⟩ : ((List UInt8) × (Int × Int) × Int × Int × (List SNode) × (List Int))) => ⟨tl 106 [(0, V.str a0), (4, .own 100), (5, .own 101), (6, V.int r2.1), (7, V.int y171), (8, V.int y172)], [(100, .vec false 48 5 (y173.map (encSNode true))), (101, .vec false 3 1 (y174.map encI))]⟩) (fun n i => m_spec_ReadTree_l1 N n i = some r) (n0 := N) (i0 := (a0, r2, r2.2, 0, [], [])) (Weak.sel [(100, 100), (101, 101)] [0, 4, 5, 6, 7, 8] (by kernel_rfl) (by kernel_rfl) (by kernel_rfl)) h (fun i h => by simp [m_spec_ReadTree_l1] at h) ?_
 rintro n1 ⟨a0, r2, y171, y172, y173, y174⟩ h247 ih248
 rw [m_spec_ReadTree_l1] at h247
 refine CodeOk.seq' ?_
 (revert h247; refine bind_rev fun y220 hv257 h247 => ?_)
 refine CodeOk.cutR (tl 106 [(0, V.str a0), (4, .own 100), (5, .own 101), (6, V.int r2.1), (7, V.int y171), (8, V.int y172), (28, V.bool y220)]) [(100, .vec false 48 5 (y173.map (encSNode true))), (101, .vec false 3 1 (y174.map encI))] mix (by
  refine W.run D_ok 4 178 (by kernel_rfl) ?_
  (revert hv257; refine cond_rev (fun hc258 hv257 => ?_) (fun hc258 hv257 => ?_))
  ·refine W.is 21 hc258 (by kernel_rfl) ?_
   refine W.run D_ok 4 178 (by kernel_rfl) ?_
   (revert hv257; refine cond_rev (fun hc259 hv257 => ?_) (fun hc259 hv257 => ?_))
   ·refine W.is 25 hc259 (by kernel_rfl) ?_
    refine W.run D_ok 3 178 (by kernel_rfl) ?_
    have hv257 := Option.some.inj hv257
    subst hv257
    exact W.fs [(100, 100), (101, 101)] [0, 4, 5, 6, 7, 8, 28] (by kernel_rfl)
   refine W.is 25 hc259 (by kernel_rfl) ?_
   refine W.run D_ok 3 178 (by kernel_rfl) ?_
   have hv257 := Option.some.inj hv257
   subst hv257
   exact W.fs [(100, 100), (101, 101)] [0, 4, 5, 6, 7, 8, 28] (by kernel_rfl)
  refine W.is 21 hc258 (by kernel_rfl) ?_
  refine W.run D_ok 7 178 (by kernel_rfl) ?_
  have hv257 := Option.some.inj hv257
  subst hv257
  exact W.fs [(100, 100), (101, 101)] [0, 4, 5, 6, 7, 8, 28] (by kernel_rfl)
  ) ?_
 (revert h247; refine cond_rev (fun hc260 h247 => ?_) (fun hc260 h247 => ?_))
 ·refine CodeOk.ifT hc260 (by kernel_rfl) ?_
  refine CodeOk.skip ?_
  refine CodeOk.seq' ?_
  refine CodeOk.block' ?_
  refine cu D_ok mix 3 178 (tl 106 [(0, V.str a0), (4, .own 100), (5, .own 101), (6, V.int r2.1), (7, V.int y171), (8, V.int y172), (9, .loc 178 0)]) [(178, .cells 48 [V.int 0, V.int 0, V.str [], V.str [], .c (.slice none 0 0)]), (100, .vec false 48 5 (y173.map (encSNode true))), (101, .vec false 3 1 (y174.map encI))] (by kernel_rfl) ?_
  refine cu D_ok mix 1 179 (tl 106 [(0, V.str a0), (4, .own 100), (5, .own 101), (6, V.int r2.1), (7, V.int y171), (8, V.int y172), (9, .loc 178 0)]) [(178, .cells 48 [V.int 0, V.int 0, V.str [], V.str [], .c (.slice none 0 0)]), (100, .vec false 48 5 (y173.map (encSNode true))), (101, .vec false 3 1 (y174.map encI))] (by kernel_rfl) ?_
  (revert h247; refine bind_rev fun r241 hx281 h247 => ?_)
  refine CodeOk.cutR (tl 106 [(0, V.str a0), (4, .own 100), (5, .own 101), (6, V.int r2.1), (7, V.int r241.2), (8, V.int y172), (9, .loc 178 0)]) [(178, .cells 48 [V.int r241.1, V.int 0, V.str [], V.str [], .c (.slice none 0 0)]), (100, .vec false 48 5 (y173.map (encSNode true))), (101, .vec false 3 1 (y174.map encI))] mix (by
   refine W.run D_ok 2 179 (by kernel_rfl) ?_
   refine W.call0 (m_spec_l43Num_ok N a0 y171 hx281) cok29 rfl (by kernel_rfl) ?_
   refine W.run D_ok 6 179 (by kernel_rfl) ?_
   exact W.fi (by kernel_rfl)
   ) ?_
  (revert h247; refine bind_rev fun r243 hx283 h247 => ?_)
  refine CodeOk.cutR (tl 106 [(0, V.str a0), (4, .own 100), (5, .own 101), (6, V.int r2.1), (7, V.int r243.2), (8, V.int y172), (9, .loc 178 0)]) [(178, .cells 48 [V.int r241.1, V.int r243.1, V.str [], V.str [], .c (.slice none 0 0)]), (100, .vec false 48 5 (y173.map (encSNode true))), (101, .vec false 3 1 (y174.map encI))] mix (by
   refine W.run D_ok 2 179 (by kernel_rfl) ?_
   refine W.call0 (m_spec_l43Num_ok N a0 r241.2 hx283) cok29 rfl (by kernel_rfl) ?_
   refine W.run D_ok 6 179 (by kernel_rfl) ?_
   exact W.fi (by kernel_rfl)
   ) ?_
  (revert h247; refine bind_rev fun r245 hx285 h247 => ?_)
  refine CodeOk.cutR (tl 106 [(0, V.str a0), (4, .own 100), (5, .own 101), (6, V.int r2.1), (7, V.int r245.2), (8, V.int y172), (9, .loc 178 0)]) [(178, .cells 48 [V.int r241.1, V.int r243.1, V.str r245.1, V.str [], .c (.slice none 0 0)]), (100, .vec false 48 5 (y173.map (encSNode true))), (101, .vec false 3 1 (y174.map encI))] mix (by
   refine W.run D_ok 2 179 (by kernel_rfl) ?_
   refine W.call0 (m_spec_l43Read_ok N a0 r243.2 hx285) cok30 rfl (by kernel_rfl) ?_
   refine W.run D_ok 6 179 (by kernel_rfl) ?_
   exact W.fi (by kernel_rfl)
   ) ?_
  (revert h247; refine bind_rev fun r247 hx287 h247 => ?_)
  refine CodeOk.cutR (tl 106 [(0, V.str a0), (4, .own 100), (5, .own 101), (6, V.int r2.1), (7, V.int r247.2), (8, V.int y172), (9, .loc 178 0)]) [(178, .cells 48 [V.int r241.1, V.int r243.1, V.str r245.1, V.str r247.1, .c (.slice none 0 0)]), (100, .vec false 48 5 (y173.map (encSNode true))), (101, .vec false 3 1 (y174.map encI))] mix (by
   refine W.run D_ok 2 179 (by kernel_rfl) ?_
   refine W.call0 (m_spec_l43Read_ok N a0 r245.2 hx287) cok30 rfl (by kernel_rfl) ?_
   refine W.run D_ok 6 179 (by kernel_rfl) ?_
   exact W.fi (by kernel_rfl)
   ) ?_
  (revert h247; refine bind_rev fun r249 hx289 h247 => ?_)
  refine CodeOk.cutR (tl 106 [(0, V.str a0), (4, .own 100), (5, .own 101), (6, V.int r2.1), (7, V.int r249.2), (8, V.int y172), (9, .loc 178 0), (10, V.int r249.1)]) [(178, .cells 48 [V.int r241.1, V.int r243.1, V.str r245.1, V.str r247.1, .c (.slice none 0 0)]), (100, .vec false 48 5 (y173.map (encSNode true))), (101, .vec false 3 1 (y174.map encI))] mix (by
   refine W.run D_ok 2 179 (by kernel_rfl) ?_
   refine W.call0 (m_spec_l43Num_ok N a0 r247.2 hx289) cok29 rfl (by kernel_rfl) ?_
   refine W.run D_ok 5 179 (by kernel_rfl) ?_
   exact W.fi (by kernel_rfl)
   ) ?_
  refine CodeOk.lay (tl 106 [(0, V.str a0), (4, .own 100), (5, .sl false false (y174.map encI)), (6, V.int r2.1), (7, V.int r249.2), (8, V.int y172), (9, .loc 178 0), (10, V.int r249.1)]) [(178, .cells 48 [V.int r241.1, V.int r243.1, V.str r245.1, V.str r247.1, .sl false false ([].map encI)]), (100, .vec false 48 5 (y173.map (encSNode true)))] (LayOk.cons (j := 101) encI encI y174 (by kernel_rfl) (fun _ => rfl) (show LayOk _ [] from trivial)) (by kernel_rfl) (by kernel_rfl) (by kernel_rfl) ?_
  (revert h247; refine bind_rev fun r252 hx292 h247 => ?_)
  refine CodeOk.cutR (tl 106 [(0, V.str a0), (4, .own 100), (5, .sl false false (r252.1.map encI)), (6, V.int r2.1), (7, V.int r249.2), (8, V.int y172), (9, .loc 178 0)]) [(178, .cells 48 [V.int r241.1, V.int r243.1, V.str r245.1, V.str r247.1, .own 179]), (179, .vec false 3 1 (r252.2.map encI)), (100, .vec false 48 5 (y173.map (encSNode true)))] mix (by
   refine W.run D_ok 2 179 (by kernel_rfl) ?_
   refine W.call (m_spec_l43Kids_ok y174 r249.1 hx292) cok31 [] [(100, 179)] [179] (show LayOk _ [] from trivial) (by kernel_rfl) (by kernel_rfl) ?_
   refine W.run D_ok 6 180 (by kernel_rfl) ?_
   exact W.fi (by kernel_rfl)
   ) ?_
  (revert h247; refine bind_rev fun x255 hx295 h247 => ?_)
  (revert h247; refine bind_rev fun x256 hx296 h247 => ?_)
  refine CodeOk.cutR (tl 106 [(0, V.str a0), (4, .own 100), (5, .own 183), (6, V.int r2.1), (7, V.int r249.2), (8, V.int y172), (9, .loc 178 0)]) [(183, .vec false 3 1 (x256.map encI)), (178, .cells 48 [V.int r241.1, V.int r243.1, V.str r245.1, V.str r247.1, .own 179]), (179, .vec false 3 1 (r252.2.map encI)), (100, .vec false 48 5 (y173.map (encSNode true)))] mix (by
   refine W.run D_ok 2 180 (by kernel_rfl) ?_
   refine W.appD D_ok encI (a := 180) (el := 3) 8 hx295 rfl 181 1 (fun _ => by first | rfl | kernel_rfl) (by kernel_rfl) ?_
   refine W.run D_ok 2 182 (by kernel_rfl) ?_
   refine W.appO D_ok encI (a := 181) (c := 182) (el := 3) (sz := 1) 8 hx296 rfl 183 (by kernel_rfl) ?_
   refine W.run D_ok 1 184 (by kernel_rfl) ?_
   exact W.fi (by kernel_rfl)
   ) ?_
  (revert h247; refine bind_rev fun x258 hx298 h247 => ?_)
  refine CodeOk.endR (tl 106 [(0, V.str a0), (4, .own 185), (5, .own 183), (6, V.int r2.1), (7, V.int r249.2), (8, V.int y172)]) [(185, .vec false 48 5 (x258.map (encSNode true))), (183, .vec false 3 1 (x256.map encI))] mix (by
   refine W.run D_ok 3 184 (by kernel_rfl) ?_
   refine W.appO D_ok (encSNode true) (a := 100) (c := 184) (el := 48) (sz := 5) 72 hx298 rfl 185 (by kernel_rfl) ?_
   refine W.run D_ok 1 186 (by kernel_rfl) ?_
   exact W.fi (by kernel_rfl)
   ) (fun st hw => ?_)
  refine CodeOk.weak hw ?_
  refine ce D_ok mix 3 186 (tl 106 [(0, V.str a0), (4, .own 185), (5, .own 183), (6, V.int r2.1), (7, V.int r249.2), (8, V.int (IntKind.wrap .i64 (y172 + 1)))]) [(185, .vec false 48 5 (x258.map (encSNode true))), (183, .vec false 3 1 (x256.map encI))] (by kernel_rfl) (fun st hw => ?_)
  exact ih248 (a0, r2, r249.2, (IntKind.wrap .i64 (y172 + 1)), x258, x256) h247 _ (hw.trans (Weak.sel [(185, 100), (183, 101)] [0, 4, 5, 6, 7, 8] (by kernel_rfl) (by kernel_rfl) (by kernel_rfl)))
 refine CodeOk.ifF hc260 (by kernel_rfl) ?_
 refine CodeOk.exit ?_
 refine CodeOk.seq' ?_
 (revert h247; refine bind_rev fun y266 hv316 h247 => ?_)
 refine CodeOk.cutR (tl 106 [(4, .own 100), (103, V.bool y266)]) [(100, .vec false 48 5 (y173.map (encSNode true)))] mix (by
  refine W.run D_ok 5 178 (by kernel_rfl) ?_
  (revert hv316; refine cond_rev (fun hc317 hv316 => ?_) (fun hc317 hv316 => ?_))
  ·refine W.is 87 hc317 (by kernel_rfl) ?_
   refine W.run D_ok 16 178 (by kernel_rfl) ?_
   have hv316 := Option.some.inj hv316
   subst hv316
   exact W.fs [(100, 100)] [4, 103] (by kernel_rfl)
  refine W.is 87 hc317 (by kernel_rfl) ?_
  refine W.run D_ok 1 178 (by kernel_rfl) ?_
  refine W.len D_ok (encSNode true) y173 [100] (by kernel_rfl) (by kernel_rfl) ?_
  refine W.run D_ok 4 178 (by kernel_rfl) ?_
  (revert hv316; refine cond_rev (fun hc318 hv316 => ?_) (fun hc318 hv316 => ?_))
  ·refine W.is 93 hc318 (by kernel_rfl) ?_
   refine W.run D_ok 10 178 (by kernel_rfl) ?_
   have hv316 := Option.some.inj hv316
   subst hv316
   exact W.fs [(100, 100)] [4, 103] (by kernel_rfl)
  refine W.is 93 hc318 (by kernel_rfl) ?_
  refine W.run D_ok 1 178 (by kernel_rfl) ?_
  (revert hv316; refine bind_rev fun r267 hx319 hv316 => ?_)
  refine W.lend (m_spec_TreeOk_ok N y173 hx319) cok32 [] [] (LayOk.cons (j := 100) (encSNode true) (encSNode false) y173 (by kernel_rfl) (share_encSNode _) (show LayOk _ [] from trivial)) (.c _) .nil (by kernel_rfl) (by kernel_rfl) ?_
  refine W.run D_ok 3 178 (by kernel_rfl) ?_
  (revert hv316; refine cond_rev (fun hc320 hv316 => ?_) (fun hc320 hv316 => ?_))
  ·refine W.is 98 hc320 (by kernel_rfl) ?_
   refine W.run D_ok 5 178 (by kernel_rfl) ?_
   have hv316 := Option.some.inj hv316
   subst hv316
   exact W.fs [(100, 100)] [4, 103] (by kernel_rfl)
  refine W.is 98 hc320 (by kernel_rfl) ?_
  refine W.run D_ok 1 178 (by kernel_rfl) ?_
  (revert hv316; refine bind_rev fun r268 hx321 hv316 => ?_)
  refine W.lend (m_spec_ShowTree_ok N y173 hx321) cok33 [] [] (LayOk.cons (j := 100) (encSNode true) (encSNode false) y173 (by kernel_rfl) (share_encSNode _) (show LayOk _ [] from trivial)) (.c _) .nil (by kernel_rfl) (by kernel_rfl) ?_
  refine W.run D_ok 3 178 (by kernel_rfl) ?_
  have hv316 := Option.some.inj hv316
  subst hv316
  exact W.fs [(100, 100)] [4, 103] (by kernel_rfl)
  ) ?_
 (revert h247; refine cond_rev (fun hc322 h247 => ?_) (fun hc322 h247 => ?_))
 ·refine CodeOk.ifT hc322 (by kernel_rfl) ?_
  refine cu D_ok mix 3 178 (tl 106 [(2, .own 178), (3, V.bool false)]) [(178, .vec false 48 5 ([].map (encSNode true)))] (by kernel_rfl) ?_
  refine CodeOk.ret ?_
  have h247 := Option.some.inj h247
  subst h247
  exact Ends.gen [(178, 100)] (.inr rfl) (RetV.two rfl (OneR.tmp (t := 2) (r := .own 178) (by kernel_rfl)) (OneR.tmp (t := 3) (r := V.bool false) (by kernel_rfl))) (by kernel_rfl) (by kernel_rfl) (by kernel_rfl)
 refine CodeOk.ifF hc322 (by kernel_rfl) ?_
 refine CodeOk.skip ?_
 refine cu D_ok mix 3 178 (tl 106 [(2, .own 100), (3, V.bool true)]) [(100, .vec false 48 5 (y173.map (encSNode true)))] (by kernel_rfl) ?_
 refine CodeOk.ret ?_
 have h247 := Option.some.inj h247
 subst h247
 exact Ends.gen [(100, 100)] (.inr rfl) (RetV.two rfl (OneR.tmp (t := 2) (r := .own 100) (by kernel_rfl)) (OneR.tmp (t := 3) (r := V.bool true) (by kernel_rfl))) (by kernel_rfl) (by kernel_rfl) (by kernel_rfl)

theorem m_impl_ReadVar_ok (N : Nat) (a0 : List UInt8) {r : (Int × Int)} (h : m_impl_ReadVar N a0 = some r) :
    AC Tryz.prog (GS []) 74 [V.str a0] [] (.tup [V.int r.1, V.int r.2]) [] := by
 rw [m_impl_ReadVar] at h
 refine AC.enter Tryz.func74 rfl ?_
 refine cu D_ok mix 2 100 (tl 39 [(0, V.str a0)]) [] (by kernel_rfl) ?_
 refine cu D_ok mix 1 100 (tl 39 [(0, V.str a0), (4, V.int 0)]) [] (by kernel_rfl) ?_
 refine CodeOk.join (fun (_ : Unit) => ⟨tl 39 [], []⟩) (fun i => m_impl_ReadVar_k1 N i = some r) ?_ ?_
 · rintro ⟨⟩ h99
   rw [m_impl_ReadVar_k1] at h99
   refine cu D_ok mix 2 160 (tl 39 [(2, V.int 0), (3, V.int 0)]) [] (by kernel_rfl) ?_
   refine CodeOk.ret ?_
   have h99 := Option.some.inj h99
   subst h99
   exact Ends.gen [] (.inr rfl) (RetV.two rfl (OneR.tmp (t := 2) (r := V.int 0) (by kernel_rfl)) (OneR.tmp (t := 3) (r := V.int 0) (by kernel_rfl))) (by kernel_rfl) (by kernel_rfl) (by kernel_rfl)
 intro hk100
 refine cu D_ok mix 4 100 (tl 39 [(0, V.str a0), (4, V.int 0), (8, V.int (if 7 < (a0.length : Int) then 7 else (a0.length : Int))), (9, V.int 0)]) [] (by kernel_rfl) ?_
 refine CodeOk.block' ?_
 refine CodeOk.loopJ (fun (⟨a0, y77, y78⟩ : ((List UInt8) × Int × Int)) => ⟨tl 39 [(0, V.str a0), (4, V.int y77), (8, V.int (if 7 < (a0.length : Int) then 7 else (a0.length : Int))), (9, V.int y78)], []⟩) (fun n i => m_impl_ReadVar_l2 N n i = some r) (n0 := N) (i0 := (a0, 0, 0)) (Weak.sel [] [0, 4, 8, 9] (by kernel_rfl) (by kernel_rfl) (by kernel_rfl)) h (fun i h => by simp [m_impl_ReadVar_l2] at h) ?_
 rintro n2 ⟨a0, y77, y78⟩ h157 ih158
 rw [m_impl_ReadVar_l2] at h157
 refine cu D_ok mix 1 160 (tl 39 [(0, V.str a0), (4, V.int y77), (8, V.int (if 7 < (a0.length : Int) then 7 else (a0.length : Int))), (9, V.int y78), (10, V.bool (decide (y78 < (if 7 < (a0.length : Int) then 7 else (a0.length : Int)))))]) [] (by kernel_rfl) ?_
 refine CodeOk.seq' ?_
 (revert h157; refine cond_rev (fun hc160 h157 => ?_) (fun hc160 h157 => ?_))
 ·refine CodeOk.ifT hc160 (by kernel_rfl) ?_
  refine CodeOk.skip ?_
  refine CodeOk.seq' ?_
  refine CodeOk.block' ?_
  refine cu D_ok mix 2 160 (tl 39 [(0, V.str a0), (4, V.int y77), (5, V.int y78), (8, V.int (if 7 < (a0.length : Int) then 7 else (a0.length : Int))), (9, V.int y78)]) [] (by kernel_rfl) ?_
  (revert h157; refine bind_rev fun b119 hx182 h157 => ?_)
  (revert h157; refine bind_rev fun x120 hx183 h157 => ?_)
  refine CodeOk.cutR (tl 39 [(0, V.str a0), (4, V.int (bits .or .i64 y77 x120)), (5, V.int y78), (8, V.int (if 7 < (a0.length : Int) then 7 else (a0.length : Int))), (9, V.int y78)]) [] mix (by
   refine W.run D_ok 3 160 (by kernel_rfl) ?_
   refine W.ixS D_ok hx182 (by kernel_rfl) ?_
   refine W.run D_ok 5 160 (by kernel_rfl) ?_
   refine W.shl (k' := .u64) hx183 (by kernel_rfl) ?_
   refine W.run D_ok 2 160 (by kernel_rfl) ?_
   exact W.fi (by kernel_rfl)
   ) ?_
  (revert h157; refine bind_rev fun b122 hx185 h157 => ?_)
  refine CodeOk.cutR (tl 39 [(0, V.str a0), (4, V.int (bits .or .i64 y77 x120)), (5, V.int y78), (8, V.int (if 7 < (a0.length : Int) then 7 else (a0.length : Int))), (9, V.int y78), (26, V.bool (decide (((b122).toNat : Int) < 128)))]) [] mix (by
   refine W.run D_ok 2 160 (by kernel_rfl) ?_
   refine W.ixS D_ok hx185 (by kernel_rfl) ?_
   refine W.run D_ok 1 160 (by kernel_rfl) ?_
   exact W.fi (by kernel_rfl)
   ) ?_
  (revert h157; refine cond_rev (fun hc186 h157 => ?_) (fun hc186 h157 => ?_))
  ·refine CodeOk.ifT hc186 (by kernel_rfl) ?_
   refine CodeOk.seq' ?_
   (revert h157; refine bind_rev fun y127 hv195 h157 => ?_)
   refine CodeOk.cutR (tl 39 [(4, V.int (bits .or .i64 y77 x120)), (5, V.int y78), (34, V.bool y127)]) [] mix (by
    refine W.run D_ok 3 160 (by kernel_rfl) ?_
    (revert hv195; refine cond_rev (fun hc196 hv195 => ?_) (fun hc196 hv195 => ?_))
    ·refine W.is 29 hc196 (by kernel_rfl) ?_
     refine W.run D_ok 2 160 (by kernel_rfl) ?_
     (revert hv195; refine bind_rev fun b128 hx197 hv195 => ?_)
     refine W.ixS D_ok hx197 (by kernel_rfl) ?_
     refine W.run D_ok 2 160 (by kernel_rfl) ?_
     have hv195 := Option.some.inj hv195
     subst hv195
     exact W.fs [] [4, 5, 34] (by kernel_rfl)
    refine W.is 29 hc196 (by kernel_rfl) ?_
    refine W.run D_ok 5 160 (by kernel_rfl) ?_
    have hv195 := Option.some.inj hv195
    subst hv195
    exact W.fs [] [4, 5, 34] (by kernel_rfl)
    ) ?_
   (revert h157; refine cond_rev (fun hc198 h157 => ?_) (fun hc198 h157 => ?_))
   ·refine CodeOk.ifT hc198 (by kernel_rfl) ?_
    refine CodeOk.exit ?_
    exact hk100 () h157 _ (Weak.sel [] [] (by kernel_rfl) (by kernel_rfl) (by kernel_rfl))
   refine CodeOk.ifF hc198 (by kernel_rfl) ?_
   refine CodeOk.skip ?_
   refine cu D_ok mix 5 160 (tl 39 [(2, V.int (bits .or .i64 y77 x120)), (3, V.int (IntKind.wrap .i64 (y78 + 1)))]) [] (by kernel_rfl) ?_
   refine CodeOk.ret ?_
   have h157 := Option.some.inj h157
   subst h157
   exact Ends.gen [] (.inr rfl) (RetV.two rfl (OneR.tmp (t := 2) (r := V.int (bits .or .i64 y77 x120)) (by kernel_rfl)) (OneR.tmp (t := 3) (r := V.int (IntKind.wrap .i64 (y78 + 1))) (by kernel_rfl))) (by kernel_rfl) (by kernel_rfl) (by kernel_rfl)
  refine CodeOk.ifF hc186 (by kernel_rfl) ?_
  refine CodeOk.skip ?_
  refine ce D_ok mix 2 160 (tl 39 [(0, V.str a0), (4, V.int (bits .or .i64 y77 x120)), (8, V.int (if 7 < (a0.length : Int) then 7 else (a0.length : Int))), (9, V.int (IntKind.wrap .i64 (y78 + 1)))]) [] (by kernel_rfl) (fun st hw => ?_)
  exact ih158 (a0, (bits .or .i64 y77 x120), (IntKind.wrap .i64 (y78 + 1))) h157 _ (hw.trans (Weak.sel [] [0, 4, 8, 9] (by kernel_rfl) (by kernel_rfl) (by kernel_rfl)))
 refine CodeOk.ifF hc160 (by kernel_rfl) ?_
 refine CodeOk.exit ?_
 exact hk100 () h157 _ (Weak.sel [] [] (by kernel_rfl) (by kernel_rfl) (by kernel_rfl))

theorem m_impl_byteReader__number_ok (N : Nat) (p0_0 : List UInt8) (p0_1 : Bool) {r : (Int × (List UInt8) × Bool)} (h : m_impl_byteReader__number N p0_0 p0_1 = some r) :
    AC Tryz.prog (GS []) 34 [.loc 0 0] [(0, .cells 57 [V.str p0_0, V.bool p0_1])] (V.int r.1) [(0, .cells 57 [V.str r.2.1, V.bool r.2.2])] := by
 rw [m_impl_byteReader__number] at h
 refine AC.enter Tryz.func34 rfl ?_
 refine cu D_ok mix 1 100 (tl 34 [(0, .loc 0 0)]) [(0, .cells 57 [V.str p0_0, V.bool p0_1])] (by kernel_rfl) ?_
 (revert h; refine bind_rev fun r2 hx2 h => ?_)
 refine CodeOk.cutR (tl 34 [(0, .loc 0 0), (3, V.int r2.1), (4, V.int r2.2)]) [(0, .cells 57 [V.str p0_0, V.bool p0_1])] mix (by
  refine W.run D_ok 4 100 (by kernel_rfl) ?_
  refine W.call0 (m_impl_ReadVar_ok N p0_0 hx2) cok74 rfl (by kernel_rfl) ?_
  refine W.run D_ok 5 100 (by kernel_rfl) ?_
  exact W.fi (by kernel_rfl)
  ) ?_
 (revert h; refine bind_rev fun y3 hv4 h => ?_)
 refine CodeOk.cutR (tl 34 [(0, .loc 0 0), (3, V.int r2.1), (4, V.int r2.2)]) [(0, .cells 57 [V.str p0_0, V.bool y3])] mix (by
  refine W.run D_ok 6 100 (by kernel_rfl) ?_
  (revert hv4; refine cond_rev (fun hc5 hv4 => ?_) (fun hc5 hv4 => ?_))
  ·refine W.is 18 hc5 (by kernel_rfl) ?_
   refine W.run D_ok 6 100 (by kernel_rfl) ?_
   have hv4 := Option.some.inj hv4
   subst hv4
   exact W.fs [(0, 0)] [0, 3, 4] (by kernel_rfl)
  refine W.is 18 hc5 (by kernel_rfl) ?_
  refine W.run D_ok 6 100 (by kernel_rfl) ?_
  have hv4 := Option.some.inj hv4
  subst hv4
  exact W.fs [(0, 0)] [0, 3, 4] (by kernel_rfl)
  ) ?_
 (revert h; refine bind_rev fun s5 hx7 h => ?_)
 refine CodeOk.cutR (tl 34 [(3, V.int r2.1)]) [(0, .cells 57 [V.str s5, V.bool y3])] mix (by
  refine W.run D_ok 6 100 (by kernel_rfl) ?_
  refine W.cutS D_ok hx7 (by kernel_rfl) ?_
  refine W.run D_ok 3 100 (by kernel_rfl) ?_
  exact W.fi (by kernel_rfl)
  ) ?_
 refine cu D_ok mix 2 100 (tl 34 [(2, V.int r2.1)]) [(0, .cells 57 [V.str s5, V.bool y3])] (by kernel_rfl) ?_
 refine CodeOk.ret ?_
 have h := Option.some.inj h
 subst h
 exact Ends.gen [(0, 0)] (.inr rfl) (RetV.one rfl (OneR.tmp (t := 2) (r := V.int r2.1) (by kernel_rfl))) (by kernel_rfl) (by kernel_rfl) (by kernel_rfl)

theorem m_impl_byteReader__text_ok (N : Nat) (p0_0 : List UInt8) (p0_1 : Bool) {r : ((List UInt8) × (List UInt8) × Bool)} (h : m_impl_byteReader__text N p0_0 p0_1 = some r) :
    AC Tryz.prog (GS []) 35 [.loc 0 0] [(0, .cells 57 [V.str p0_0, V.bool p0_1])] (V.str r.1) [(0, .cells 57 [V.str r.2.1, V.bool r.2.2])] := by
 rw [m_impl_byteReader__text] at h
 refine AC.enter Tryz.func35 rfl ?_
 refine cu D_ok mix 1 100 (tl 33 [(0, .loc 0 0)]) [(0, .cells 57 [V.str p0_0, V.bool p0_1])] (by kernel_rfl) ?_
 (revert h; refine bind_rev fun r2 hx2 h => ?_)
 refine CodeOk.cutR (tl 33 [(0, .loc 0 0), (3, V.int r2.1)]) [(0, .cells 57 [V.str r2.2.1, V.bool r2.2.2])] mix (by
  refine W.run D_ok 1 100 (by kernel_rfl) ?_
  refine W.call (m_impl_byteReader__number_ok N p0_0 p0_1 hx2) cok34 [(0, 0)] [(0, 0)] [] (show LayOk _ [] from trivial) (by kernel_rfl) (by kernel_rfl) ?_
  refine W.run D_ok 1 100 (by kernel_rfl) ?_
  exact W.fi (by kernel_rfl)
  ) ?_
 refine CodeOk.seq' ?_
 refine cu D_ok mix 7 100 (tl 33 [(0, .loc 0 0), (3, V.int r2.1), (13, V.bool (decide (r2.1 > (r2.2.1.length : Int))))]) [(0, .cells 57 [V.str r2.2.1, V.bool r2.2.2])] (by kernel_rfl) ?_
 (revert h; refine cond_rev (fun hc4 h => ?_) (fun hc4 h => ?_))
 ·refine CodeOk.ifT hc4 (by kernel_rfl) ?_
  refine cu D_ok mix 4 100 (tl 33 []) [(0, .cells 57 [V.str r2.2.1, V.bool true])] (by kernel_rfl) ?_
  refine cu D_ok mix 1 100 (tl 33 [(2, V.str [])]) [(0, .cells 57 [V.str r2.2.1, V.bool true])] (by kernel_rfl) ?_
  refine CodeOk.ret ?_
  have h := Option.some.inj h
  subst h
  exact Ends.gen [(0, 0)] (.inr rfl) (RetV.one rfl (OneR.tmp (t := 2) (r := V.str []) (by kernel_rfl))) (by kernel_rfl) (by kernel_rfl) (by kernel_rfl)
 refine CodeOk.ifF hc4 (by kernel_rfl) ?_
 refine CodeOk.skip ?_
 (revert h; refine bind_rev fun s4 hx6 h => ?_)
 refine CodeOk.cutR (tl 33 [(0, .loc 0 0), (3, V.int r2.1), (4, V.str s4)]) [(0, .cells 57 [V.str r2.2.1, V.bool r2.2.2])] mix (by
  refine W.run D_ok 5 100 (by kernel_rfl) ?_
  refine W.cutS D_ok hx6 (by kernel_rfl) ?_
  refine W.run D_ok 1 100 (by kernel_rfl) ?_
  exact W.fi (by kernel_rfl)
  ) ?_
 (revert h; refine bind_rev fun s6 hx8 h => ?_)
 refine CodeOk.cutR (tl 33 [(4, V.str s4)]) [(0, .cells 57 [V.str s6, V.bool r2.2.2])] mix (by
  refine W.run D_ok 6 100 (by kernel_rfl) ?_
  refine W.cutS D_ok hx8 (by kernel_rfl) ?_
  refine W.run D_ok 3 100 (by kernel_rfl) ?_
  exact W.fi (by kernel_rfl)
  ) ?_
 refine cu D_ok mix 2 100 (tl 33 [(2, V.str s4)]) [(0, .cells 57 [V.str s6, V.bool r2.2.2])] (by kernel_rfl) ?_
 refine CodeOk.ret ?_
 have h := Option.some.inj h
 subst h
 exact Ends.gen [(0, 0)] (.inr rfl) (RetV.one rfl (OneR.tmp (t := 2) (r := V.str s4) (by kernel_rfl))) (by kernel_rfl) (by kernel_rfl) (by kernel_rfl)

theorem m_impl_within_ok (a0 : Int) (a1 : Int) (a2 : Int) {r : Bool} (h : m_impl_within a0 a1 a2 = some r) :
    AC Tryz.prog (GS []) 55 [V.int a0, V.int a1, V.int a2] [] (V.bool r) [] := by
 rw [m_impl_within] at h
 refine AC.enter Tryz.func55 rfl ?_
 refine cu D_ok mix 1 100 (tl 15 [(0, V.int a0), (1, V.int a1), (2, V.int a2)]) [] (by kernel_rfl) ?_
 (revert h; refine bind_rev fun y1 hv2 h => ?_)
 refine CodeOk.cutR (tl 15 [(6, V.bool y1)]) [] mix (by
  refine W.run D_ok 4 100 (by kernel_rfl) ?_
  (revert hv2; refine cond_rev (fun hc3 hv2 => ?_) (fun hc3 hv2 => ?_))
  ·refine W.is 10 hc3 (by kernel_rfl) ?_
   refine W.run D_ok 5 100 (by kernel_rfl) ?_
   have hv2 := Option.some.inj hv2
   subst hv2
   exact W.fs [] [6] (by kernel_rfl)
  refine W.is 10 hc3 (by kernel_rfl) ?_
  refine W.run D_ok 5 100 (by kernel_rfl) ?_
  have hv2 := Option.some.inj hv2
  subst hv2
  exact W.fs [] [6] (by kernel_rfl)
  ) ?_
 refine CodeOk.ret ?_
 have h := Option.some.inj h
 subst h
 exact Ends.gen [] (.inr rfl) (RetV.one rfl (OneR.tmp (t := 6) (r := V.bool y1) (by kernel_rfl))) (by kernel_rfl) (by kernel_rfl) (by kernel_rfl)

theorem m_impl_startsOf_ok (N : Nat) (a0 : List SNode) {r : ((List Int) × Bool)} (h : m_impl_startsOf N a0 = some r) :
    AC Tryz.prog (GS []) 104 [.sl false false (a0.map (encSNode false))] [] (.tup [.own 100, V.bool r.2]) [(100, .vec false 3 1 (r.1.map encI))] := by
 rw [m_impl_startsOf] at h
 refine AC.enter Tryz.func104 rfl ?_
 refine cu D_ok mix 2 100 (tl 57 [(0, .sl false false (a0.map (encSNode false))), (2, .loc 100 0), (3, .loc 101 0)]) [(101, .cells 4 [V.bool false]), (100, .cells 30 [.c (.slice none 0 0)])] (by kernel_rfl) ?_
 refine CodeOk.seq' ?_
 (revert h; refine bind_rev fun r4 hx5 h => ?_)
 refine CodeOk.cutR (tl 57 [(0, .sl false false (a0.map (encSNode false))), (2, .loc 100 0), (3, .loc 101 0), (13, V.bool (!r4))]) [(101, .cells 4 [V.bool false]), (100, .cells 30 [.c (.slice none 0 0)])] mix (by
  refine W.run D_ok 1 102 (by kernel_rfl) ?_
  refine W.len D_ok (encSNode false) a0 [] (by kernel_rfl) (by kernel_rfl) ?_
  refine W.call0 (m_impl_within_ok (a0.length : Int) 1 400 hx5) cok55 rfl (by kernel_rfl) ?_
  refine W.run D_ok 1 102 (by kernel_rfl) ?_
  exact W.fi (by kernel_rfl)
  ) ?_
 (revert h; refine cond_rev (fun hc6 h => ?_) (fun hc6 h => ?_))
 ·refine CodeOk.ifT hc6 (by kernel_rfl) ?_
  refine cu D_ok mix 2 102 (tl 57 [(2, .loc 100 0), (3, .loc 101 0)]) [(101, .cells 4 [V.bool false]), (100, .cells 30 [.c (.slice none 0 0)])] (by kernel_rfl) ?_
  refine CodeOk.weak (Weak.nilCell 100 0 102 3 1 (ety := 30) (cs := [.c (.slice none 0 0)]) (by kernel_rfl) (by kernel_rfl) (by kernel_rfl)) ?_
  refine CodeOk.ret ?_
  have h := Option.some.inj h
  subst h
  exact Ends.gen [(102, 100)] (.inr rfl) (RetV.two rfl (OneR.cell D_ok (r := .own 102) (i := 100) (ety := 30) (cs := [.own 102]) (by kernel_rfl) (by kernel_rfl) (by kernel_rfl)) (OneR.cell D_ok (r := V.bool false) (i := 101) (ety := 4) (cs := [V.bool false]) (by kernel_rfl) (by kernel_rfl) (by kernel_rfl))) (by kernel_rfl) (by kernel_rfl) (by kernel_rfl)
 refine CodeOk.ifF hc6 (by kernel_rfl) ?_
 refine CodeOk.skip ?_
 (revert h; refine bind_rev fun x6 hx8 h => ?_)
 refine CodeOk.cutR (tl 57 [(0, .sl false false (a0.map (encSNode false))), (2, .loc 100 0), (3, .loc 101 0), (4, .loc 103 0)]) [(103, .cells 30 [.own 102]), (102, .vec false 3 1 (x6.map encI)), (101, .cells 4 [V.bool false]), (100, .cells 30 [.c (.slice none 0 0)])] mix (by
  refine W.run D_ok 1 102 (by kernel_rfl) ?_
  refine W.len D_ok (encSNode false) a0 [] (by kernel_rfl) (by kernel_rfl) ?_
  refine W.mk D_ok encI 8 hx8 102 3 1 [.int .i64 0] (by kernel_rfl) (by kernel_rfl) ?_
  refine W.run D_ok 2 103 (by kernel_rfl) ?_
  exact W.fi (by kernel_rfl)
  ) ?_
 refine CodeOk.seq' ?_
 refine CodeOk.cutR (tl 57 [(0, .sl false false (a0.map (encSNode false))), (2, .loc 100 0), (3, .loc 101 0), (4, .loc 103 0), (17, .sl false false (a0.map (encSNode false))), (18, V.int (a0.length : Int)), (19, V.int 0)]) [(103, .cells 30 [.own 102]), (102, .vec false 3 1 (x6.map encI)), (101, .cells 4 [V.bool false]), (100, .cells 30 [.c (.slice none 0 0)])] mix (by
  refine W.run D_ok 1 104 (by kernel_rfl) ?_
  refine W.len D_ok (encSNode false) a0 [] (by kernel_rfl) (by kernel_rfl) ?_
  refine W.run D_ok 1 104 (by kernel_rfl) ?_
  exact W.fi (by kernel_rfl)
  ) ?_
 refine CodeOk.block' ?_
 refine CodeOk.loopJ (fun (⟨a0, y203, y204⟩ : ((List SNode) × Int × (List Int))) => ⟨tl 57 [(0, .sl false false (a0.map (encSNode false))), (2, .loc 100 0), (3, .loc 101 0), (4, .loc 102 0), (17, .sl false false (a0.map (encSNode false))), (18, V.int (a0.length : Int)), (19, V.int y203)], [(100, .cells 30 [.c (.slice none 0 0)]), (101, .cells 4 [V.bool false]), (102, .cells 30 [.own 103]), (103, .vec false 3 1 (y204.map encI))]⟩) (fun n i => m_impl_startsOf_l1 N n i = some r) (n0 := N) (i0 := (a0, 0, x6)) (Weak.sel [(100, 100), (101, 101), (103, 102), (102, 103)] [0, 2, 3, 4, 17, 18, 19] (by kernel_rfl) (by kernel_rfl) (by kernel_rfl)) h (fun i h => by simp [m_impl_startsOf_l1] at h) ?_
 rintro n1 ⟨a0, y203, y204⟩ h481 ih482
 rw [m_impl_startsOf_l1] at h481
 refine cu D_ok mix 1 272 (tl 57 [(0, .sl false false (a0.map (encSNode false))), (2, .loc 100 0), (3, .loc 101 0), (4, .loc 102 0), (17, .sl false false (a0.map (encSNode false))), (18, V.int (a0.length : Int)), (19, V.int y203), (20, V.bool (decide (y203 < (a0.length : Int))))]) [(100, .cells 30 [.c (.slice none 0 0)]), (101, .cells 4 [V.bool false]), (102, .cells 30 [.own 103]), (103, .vec false 3 1 (y204.map encI))] (by kernel_rfl) ?_
 refine CodeOk.seq' ?_
 (revert h481; refine cond_rev (fun hc484 h481 => ?_) (fun hc484 h481 => ?_))
 ·refine CodeOk.ifT hc484 (by kernel_rfl) ?_
  refine CodeOk.skip ?_
  refine CodeOk.seq' ?_
  refine CodeOk.block' ?_
  (revert h481; refine bind_rev fun e322 hx556 h481 => ?_)
  refine CodeOk.cutR (tl 57 [(0, .sl false false (a0.map (encSNode false))), (2, .loc 100 0), (3, .loc 101 0), (4, .loc 102 0), (5, V.int y203), (6, .loc 272 0), (17, .sl false false (a0.map (encSNode false))), (18, V.int (a0.length : Int)), (19, V.int y203)]) [(272, .cells 48 [V.int e322.Kind, V.int e322.Op, V.str e322.Text, V.str e322.Other, .sl false false (e322.Kids.map encI)]), (100, .cells 30 [.c (.slice none 0 0)]), (101, .cells 4 [V.bool false]), (102, .cells 30 [.own 103]), (103, .vec false 3 1 (y204.map encI))] mix (by
   refine W.run D_ok 1 272 (by kernel_rfl) ?_
   refine W.ixD D_ok (encSNode false) hx556 5 (by kernel_rfl) (by kernel_rfl) ?_
   refine W.run D_ok 4 272 (by kernel_rfl) ?_
   exact W.fi (by kernel_rfl)
   ) ?_
  refine cu D_ok mix 4 273 (tl 57 [(0, .sl false false (a0.map (encSNode false))), (2, .loc 100 0), (3, .loc 101 0), (4, .loc 102 0), (5, V.int y203), (6, .loc 272 0), (7, .loc 273 0), (17, .sl false false (a0.map (encSNode false))), (18, V.int (a0.length : Int)), (19, V.int y203)]) [(273, .cells 3 [V.int (IntKind.wrap .i64 (y203 - 1))]), (272, .cells 48 [V.int e322.Kind, V.int e322.Op, V.str e322.Text, V.str e322.Other, .sl false false (e322.Kids.map encI)]), (100, .cells 30 [.c (.slice none 0 0)]), (101, .cells 4 [V.bool false]), (102, .cells 30 [.own 103]), (103, .vec false 3 1 (y204.map encI))] (by kernel_rfl) ?_
  refine CodeOk.seq' ?_
  refine CodeOk.cutR (tl 57 [(0, .sl false false (a0.map (encSNode false))), (2, .loc 100 0), (3, .loc 101 0), (4, .loc 102 0), (5, V.int y203), (7, .loc 273 0), (17, .sl false false (a0.map (encSNode false))), (18, V.int (a0.length : Int)), (19, V.int y203), (28, .fn 137 [.loc 274 0])]) [(274, .cells 30 [.sl false false (e322.Kids.map encI)]), (273, .cells 3 [V.int (IntKind.wrap .i64 (y203 - 1))]), (100, .cells 30 [.c (.slice none 0 0)]), (101, .cells 4 [V.bool false]), (102, .cells 30 [.own 103]), (103, .vec false 3 1 (y204.map encI))] mix (by
   refine W.run D_ok 2 274 (by kernel_rfl) ?_
   refine W.call (back119 e322.Kids) cok119 [] [(100, 274)] [274] (show LayOk _ [] from trivial) (by kernel_rfl) (by kernel_rfl) ?_
   exact W.fi (by kernel_rfl)
   ) ?_
  refine CodeOk.block' ?_
  refine CodeOk.rangeB backok137 cok137 V.int e322.Kids [(100, 2), (101, 3), (102, 4), (273, 1), (274, 0), (103, 5)] [0, 2, 3, 4, 5, 7, 17, 18, 19, 28] (tl 57 [(0, .sl false false (a0.map (encSNode false))), (2, .loc 2 0), (3, .loc 3 0), (4, .loc 4 0), (5, V.int y203), (7, .loc 1 0), (17, .sl false false (a0.map (encSNode false))), (18, V.int (a0.length : Int)), (19, V.int y203), (28, .fn 137 [.loc 0 0])]) (IntKind.wrap .i64 (y203 - 1)) (fun (y345 : Int) => [(2, .cells 30 [.c (.slice none 0 0)]), (3, .cells 4 [V.bool false]), (4, .cells 30 [.own 5]), (1, .cells 3 [V.int y345]), (0, .cells 30 [.sl false false (e322.Kids.map encI)]), (5, .vec false 3 1 (y204.map encI))]) (fun es i => m_impl_startsOf_r2 N (m_impl_startsOf_l1 N n1) a0 y203 e322 y204 es i = some r) 0 30 false 29 30 (by kernel_rfl) (by kernel_rfl) (by kernel_rfl) (by kernel_rfl) (by rintro y345; kernel_rfl) h481 ?_ ?_
  ·rintro e339 es340 y345 h609 L
   rw [m_impl_startsOf_r2] at h609
   refine ⟨tl 57 [(0, .sl false false (a0.map (encSNode false))), (2, .loc 2 0), (3, .loc 3 0), (4, .loc 4 0), (5, V.int y203), (7, .loc 1 0), (9, V.int e339), (17, .sl false false (a0.map (encSNode false))), (18, V.int (a0.length : Int)), (19, V.int y203), (28, .fn 137 [.loc 0 0])], [(2, .cells 30 [.c (.slice none 0 0)]), (3, .cells 4 [V.bool false]), (4, .cells 30 [.own 5]), (1, .cells 3 [V.int y345]), (0, .cells 30 [.sl false false (e322.Kids.map encI)]), (5, .vec false 3 1 (y204.map encI))], ?_, ?_⟩
   ·refine ce D_ok mix 1 316 (tl 57 [(0, .sl false false (a0.map (encSNode false))), (2, .loc 2 0), (3, .loc 3 0), (4, .loc 4 0), (5, V.int y203), (7, .loc 1 0), (9, V.int e339), (17, .sl false false (a0.map (encSNode false))), (18, V.int (a0.length : Int)), (19, V.int y203), (28, .fn 137 [.loc 0 0])]) [(2, .cells 30 [.c (.slice none 0 0)]), (3, .cells 4 [V.bool false]), (4, .cells 30 [.own 5]), (1, .cells 3 [V.int y345]), (0, .cells 30 [.sl false false (e322.Kids.map encI)]), (5, .vec false 3 1 (y204.map encI))] (by kernel_rfl) (fun st hw => ?_)
    exact ⟨rfl, hw⟩
   ·refine CodeOk.block' ?_
    refine CodeOk.seq' ?_
    (revert h609; refine bind_rev fun y352 hv616 h609 => ?_)
    refine CodeOk.cutR (tl 57 [(0, .sl false false (a0.map (encSNode false))), (2, .loc 2 0), (3, .loc 3 0), (4, .loc 4 0), (5, V.int y203), (7, .loc 1 0), (9, V.int e339), (17, .sl false false (a0.map (encSNode false))), (18, V.int (a0.length : Int)), (19, V.int y203), (28, .fn 137 [.loc 0 0]), (37, V.bool y352)]) [(2, .cells 30 [.c (.slice none 0 0)]), (3, .cells 4 [V.bool false]), (4, .cells 30 [.own 5]), (1, .cells 3 [V.int y345]), (0, .cells 30 [.sl false false (e322.Kids.map encI)]), (5, .vec false 3 1 (y204.map encI))] mix (by
     refine W.run D_ok 3 316 (by kernel_rfl) ?_
     (revert hv616; refine cond_rev (fun hc617 hv616 => ?_) (fun hc617 hv616 => ?_))
     ·refine W.is 33 hc617 (by kernel_rfl) ?_
      refine W.run D_ok 4 316 (by kernel_rfl) ?_
      have hv616 := Option.some.inj hv616
      subst hv616
      exact W.fs [(2, 2), (3, 3), (4, 4), (1, 1), (0, 0), (5, 5)] [0, 2, 3, 4, 5, 7, 9, 17, 18, 19, 28, 37] (by kernel_rfl)
     refine W.is 33 hc617 (by kernel_rfl) ?_
     refine W.run D_ok 4 316 (by kernel_rfl) ?_
     have hv616 := Option.some.inj hv616
     subst hv616
     exact W.fs [(2, 2), (3, 3), (4, 4), (1, 1), (0, 0), (5, 5)] [0, 2, 3, 4, 5, 7, 9, 17, 18, 19, 28, 37] (by kernel_rfl)
     ) ?_
    (revert h609; refine cond_rev (fun hc618 h609 => ?_) (fun hc618 h609 => ?_))
    ·refine CodeOk.ifT hc618 (by kernel_rfl) ?_
     refine cu D_ok mix 2 316 (tl 57 [(2, .loc 2 0), (3, .loc 3 0)]) [(3, .cells 4 [V.bool false]), (2, .cells 30 [.c (.slice none 0 0)]), (4, .cells 30 [.own 5]), (1, .cells 3 [V.int y345]), (0, .cells 30 [.sl false false (e322.Kids.map encI)]), (5, .vec false 3 1 (y204.map encI))] (by kernel_rfl) ?_
     refine CodeOk.weak (Weak.nilCell 2 0 316 3 1 (ety := 30) (cs := [.c (.slice none 0 0)]) (by kernel_rfl) (by kernel_rfl) (by kernel_rfl)) ?_
     refine CodeOk.ret ?_
     refine Fin.mk' [(316, 316), (3, 101), (2, 100), (4, 102), (1, 273), (0, 274), (5, 103)] [0, 2, 3, 4, 5, 7, 17, 18, 19, 28] (tl 57 [(0, .sl false false (a0.map (encSNode false))), (2, .loc 100 0), (3, .loc 101 0), (4, .loc 102 0), (5, V.int y203), (7, .loc 273 0), (17, .sl false false (a0.map (encSNode false))), (18, V.int (a0.length : Int)), (19, V.int y203), (28, .fn 137 [.loc 274 0])]) [(316, .vec false 3 1 ([].map encI)), (101, .cells 4 [V.bool false]), (100, .cells 30 [.own 316]), (102, .cells 30 [.own 103]), (273, .cells 3 [V.int y345]), (274, .cells 30 [.sl false false (e322.Kids.map encI)]), (103, .vec false 3 1 (y204.map encI))] (by kernel_rfl) (by kernel_rfl) (by kernel_rfl) ?_
     have h609 := Option.some.inj h609
     subst h609
     exact Ends.gen [(316, 100)] (.inr rfl) (RetV.two rfl (OneR.cell D_ok (r := .own 316) (i := 100) (ety := 30) (cs := [.own 316]) (by kernel_rfl) (by kernel_rfl) (by kernel_rfl)) (OneR.cell D_ok (r := V.bool false) (i := 101) (ety := 4) (cs := [V.bool false]) (by kernel_rfl) (by kernel_rfl) (by kernel_rfl))) (by kernel_rfl) (by kernel_rfl) (by kernel_rfl)
    refine CodeOk.ifF hc618 (by kernel_rfl) ?_
    refine CodeOk.skip ?_
    (revert h609; refine bind_rev fun e354 hx620 h609 => ?_)
    refine CodeOk.endR (tl 57 [(0, .sl false false (a0.map (encSNode false))), (2, .loc 2 0), (3, .loc 3 0), (4, .loc 4 0), (5, V.int y203), (7, .loc 1 0), (17, .sl false false (a0.map (encSNode false))), (18, V.int (a0.length : Int)), (19, V.int y203), (28, .fn 137 [.loc 0 0])]) [(1, .cells 3 [V.int (IntKind.wrap .i64 (e354 - 1))]), (2, .cells 30 [.c (.slice none 0 0)]), (3, .cells 4 [V.bool false]), (4, .cells 30 [.own 5]), (0, .cells 30 [.sl false false (e322.Kids.map encI)]), (5, .vec false 3 1 (y204.map encI))] mix (by
     refine W.run D_ok 2 316 (by kernel_rfl) ?_
     refine W.ixO D_ok encI hx620 5 1 (by kernel_rfl) ?_
     refine W.ldO D_ok encI hx620 3 5 0 (V.int e354) (by kernel_rfl) (by kernel_rfl) ?_
     refine W.run D_ok 2 316 (by kernel_rfl) ?_
     exact W.fi (by kernel_rfl)
     ) (fun st hw => ?_)
    exact ⟨tl 57 [], _, (hw.trans (Weak.sel [(2, 2), (3, 3), (4, 4), (1, 1), (0, 0), (5, 5)] [] (by kernel_rfl) (by kernel_rfl) (by kernel_rfl))), (IntKind.wrap .i64 (e354 - 1)), h609, rfl⟩
  ·rintro y345 h610
   rw [m_impl_startsOf_r2] at h610
   refine Fin.mk' [(2, 100), (3, 101), (4, 102), (1, 273), (0, 274), (5, 103)] [0, 2, 3, 4, 5, 7, 17, 18, 19, 28] (tl 57 [(0, .sl false false (a0.map (encSNode false))), (2, .loc 100 0), (3, .loc 101 0), (4, .loc 102 0), (5, V.int y203), (7, .loc 273 0), (17, .sl false false (a0.map (encSNode false))), (18, V.int (a0.length : Int)), (19, V.int y203), (28, .fn 137 [.loc 274 0])]) [(100, .cells 30 [.c (.slice none 0 0)]), (101, .cells 4 [V.bool false]), (102, .cells 30 [.own 103]), (273, .cells 3 [V.int y345]), (274, .cells 30 [.sl false false (e322.Kids.map encI)]), (103, .vec false 3 1 (y204.map encI))] (by kernel_rfl) (by kernel_rfl) (by kernel_rfl) ?_
   (revert h610; refine bind_rev fun e357 hx623 h610 => ?_)
   (revert h610; refine bind_rev fun x358 hu624 h610 => ?_)
   refine CodeOk.endR (tl 57 [(0, .sl false false (a0.map (encSNode false))), (2, .loc 100 0), (3, .loc 101 0), (4, .loc 102 0), (17, .sl false false (a0.map (encSNode false))), (18, V.int (a0.length : Int)), (19, V.int y203)]) [(103, .vec false 3 1 (x358.map encI)), (100, .cells 30 [.c (.slice none 0 0)]), (101, .cells 4 [V.bool false]), (102, .cells 30 [.own 103])] mix (by
    refine W.run D_ok 4 336 (by kernel_rfl) ?_
    refine W.ixO D_ok encI hx623 103 1 (by kernel_rfl) ?_
    refine W.stO D_ok encI (x' := (IntKind.wrap .i64 (y345 + 1))) hx623 hu624 (j := 103) (nn := false) (ety := 3) (sz := 1) (b := 0) (ys := [V.int (IntKind.wrap .i64 (y345 + 1))]) (C := []) (R := []) (by kernel_rfl) (by kernel_rfl) ?_
    exact W.fi (by kernel_rfl)
    ) (fun st hw => ?_)
   refine CodeOk.weak hw ?_
   refine ce D_ok mix 2 336 (tl 57 [(0, .sl false false (a0.map (encSNode false))), (2, .loc 100 0), (3, .loc 101 0), (4, .loc 102 0), (17, .sl false false (a0.map (encSNode false))), (18, V.int (a0.length : Int)), (19, V.int (IntKind.wrap .i64 (y203 + 1)))]) [(103, .vec false 3 1 (x358.map encI)), (100, .cells 30 [.c (.slice none 0 0)]), (101, .cells 4 [V.bool false]), (102, .cells 30 [.own 103])] (by kernel_rfl) (fun st hw => ?_)
   exact ih482 (a0, (IntKind.wrap .i64 (y203 + 1)), x358) h610 _ (hw.trans (Weak.sel [(100, 100), (101, 101), (102, 102), (103, 103)] [0, 2, 3, 4, 17, 18, 19] (by kernel_rfl) (by kernel_rfl) (by kernel_rfl)))
 refine CodeOk.ifF hc484 (by kernel_rfl) ?_
 refine CodeOk.exit ?_
 (revert h481; refine bind_rev fun e360 hx626 h481 => ?_)
 refine CodeOk.cutR (tl 57 [(2, .loc 100 0), (3, .loc 101 0)]) [(101, .cells 4 [V.bool (e360 == 0)]), (100, .cells 30 [.own 103]), (103, .vec false 3 1 (y204.map encI))] mix (by
  refine W.run D_ok 3 272 (by kernel_rfl) ?_
  refine W.len D_ok (encSNode false) a0 [] (by kernel_rfl) (by kernel_rfl) ?_
  refine W.run D_ok 1 272 (by kernel_rfl) ?_
  refine W.ixO D_ok encI hx626 103 1 (by kernel_rfl) ?_
  refine W.ldO D_ok encI hx626 3 103 0 (V.int e360) (by kernel_rfl) (by kernel_rfl) ?_
  refine W.run D_ok 3 272 (by kernel_rfl) ?_
  exact W.fi (by kernel_rfl)
  ) ?_
 refine CodeOk.ret ?_
 have h481 := Option.some.inj h481
 subst h481
 exact Ends.gen [(103, 100)] (.inr rfl) (RetV.two rfl (OneR.cell D_ok (r := .own 103) (i := 100) (ety := 30) (cs := [.own 103]) (by kernel_rfl) (by kernel_rfl) (by kernel_rfl)) (OneR.cell D_ok (r := V.bool (e360 == 0)) (i := 101) (ety := 4) (cs := [V.bool (e360 == 0)]) (by kernel_rfl) (by kernel_rfl) (by kernel_rfl))) (by kernel_rfl) (by kernel_rfl) (by kernel_rfl)

theorem m_impl_ShapeOk_ok (N : Nat) (a0 : List SNode) {r : Bool} (h : m_impl_ShapeOk N a0 = some r) :
    AC Tryz.prog (GS []) 75 [.sl false false (a0.map (encSNode false))] [] (V.bool r) [] := by
 rw [m_impl_ShapeOk] at h
 refine AC.enter Tryz.func75 rfl ?_
 refine cu D_ok mix 1 100 (tl 11 [(0, .sl false false (a0.map (encSNode false)))]) [] (by kernel_rfl) ?_
 (revert h; refine bind_rev fun r2 hx2 h => ?_)
 refine CodeOk.cutR (tl 11 [(4, V.bool r2.2)]) [] mix (by
  refine W.run D_ok 1 100 (by kernel_rfl) ?_
  refine W.call (m_impl_startsOf_ok N a0 hx2) cok104 [] [(100, 100)] [100] (show LayOk _ [] from trivial) (by kernel_rfl) (by kernel_rfl) ?_
  refine W.run D_ok 5 101 (by kernel_rfl) ?_
  exact W.fi (by kernel_rfl)
  ) ?_
 refine cu D_ok mix 2 101 (tl 11 [(2, V.bool r2.2)]) [] (by kernel_rfl) ?_
 refine CodeOk.ret ?_
 have h := Option.some.inj h
 subst h
 exact Ends.gen [] (.inr rfl) (RetV.one rfl (OneR.tmp (t := 2) (r := V.bool r2.2) (by kernel_rfl))) (by kernel_rfl) (by kernel_rfl) (by kernel_rfl)

theorem m_impl_IsExpr_ok (a0 : Int) {r : Bool} (h : m_impl_IsExpr a0 = some r) :
    AC Tryz.prog (GS []) 46 [V.int a0] [] (V.bool r) [] := by
 rw [m_impl_IsExpr] at h
 refine AC.enter Tryz.func46 rfl ?_
 refine cu D_ok mix 1 100 (tl 5 [(0, V.int a0)]) [] (by kernel_rfl) ?_
 (revert h; refine bind_rev fun r2 hx2 h => ?_)
 refine CodeOk.cutR (tl 5 [(2, V.bool r2)]) [] mix (by
  refine W.run D_ok 1 100 (by kernel_rfl) ?_
  refine W.call0 (m_impl_within_ok a0 1 15 hx2) cok55 rfl (by kernel_rfl) ?_
  refine W.run D_ok 1 100 (by kernel_rfl) ?_
  exact W.fi (by kernel_rfl)
  ) ?_
 refine CodeOk.ret ?_
 have h := Option.some.inj h
 subst h
 exact Ends.gen [] (.inr rfl) (RetV.one rfl (OneR.tmp (t := 2) (r := V.bool r2) (by kernel_rfl))) (by kernel_rfl) (by kernel_rfl) (by kernel_rfl)

theorem m_impl_IsLetter_ok (a0 : Int) {r : Bool} (h : m_impl_IsLetter a0 = some r) :
    AC Tryz.prog (GS []) 154 [V.int a0] [] (V.bool r) [] := by
 rw [m_impl_IsLetter] at h
 refine AC.enter Tryz.func154 rfl ?_
 refine cu D_ok mix 1 100 (tl 21 [(0, V.int a0)]) [] (by kernel_rfl) ?_
 (revert h; refine bind_rev fun y1 hv7 h => ?_)
 refine CodeOk.cutR (tl 21 [(2, V.bool y1)]) [] mix (by
  refine W.run D_ok 3 100 (by kernel_rfl) ?_
  (revert hv7; refine cond_rev (fun hc8 hv7 => ?_) (fun hc8 hv7 => ?_))
  ·refine W.is 5 hc8 (by kernel_rfl) ?_
   refine W.run D_ok 4 100 (by kernel_rfl) ?_
   (revert hv7; refine cond_rev (fun hc9 hv7 => ?_) (fun hc9 hv7 => ?_))
   ·refine W.is 9 hc9 (by kernel_rfl) ?_
    refine W.run D_ok 12 100 (by kernel_rfl) ?_
    have hv7 := Option.some.inj hv7
    subst hv7
    exact W.fs [] [2] (by kernel_rfl)
   refine W.is 9 hc9 (by kernel_rfl) ?_
   refine W.run D_ok 3 100 (by kernel_rfl) ?_
   (revert hv7; refine cond_rev (fun hc10 hv7 => ?_) (fun hc10 hv7 => ?_))
   ·refine W.is 12 hc10 (by kernel_rfl) ?_
    refine W.run D_ok 5 100 (by kernel_rfl) ?_
    (revert hv7; refine cond_rev (fun hc11 hv7 => ?_) (fun hc11 hv7 => ?_))
    ·refine W.is 17 hc11 (by kernel_rfl) ?_
     refine W.run D_ok 4 100 (by kernel_rfl) ?_
     have hv7 := Option.some.inj hv7
     subst hv7
     exact W.fs [] [2] (by kernel_rfl)
    refine W.is 17 hc11 (by kernel_rfl) ?_
    refine W.run D_ok 4 100 (by kernel_rfl) ?_
    have hv7 := Option.some.inj hv7
    subst hv7
    exact W.fs [] [2] (by kernel_rfl)
   refine W.is 12 hc10 (by kernel_rfl) ?_
   refine W.run D_ok 9 100 (by kernel_rfl) ?_
   have hv7 := Option.some.inj hv7
   subst hv7
   exact W.fs [] [2] (by kernel_rfl)
  refine W.is 5 hc8 (by kernel_rfl) ?_
  refine W.run D_ok 7 100 (by kernel_rfl) ?_
  (revert hv7; refine cond_rev (fun hc12 hv7 => ?_) (fun hc12 hv7 => ?_))
  ·refine W.is 12 hc12 (by kernel_rfl) ?_
   refine W.run D_ok 5 100 (by kernel_rfl) ?_
   (revert hv7; refine cond_rev (fun hc13 hv7 => ?_) (fun hc13 hv7 => ?_))
   ·refine W.is 17 hc13 (by kernel_rfl) ?_
    refine W.run D_ok 4 100 (by kernel_rfl) ?_
    have hv7 := Option.some.inj hv7
    subst hv7
    exact W.fs [] [2] (by kernel_rfl)
   refine W.is 17 hc13 (by kernel_rfl) ?_
   refine W.run D_ok 4 100 (by kernel_rfl) ?_
   have hv7 := Option.some.inj hv7
   subst hv7
   exact W.fs [] [2] (by kernel_rfl)
  refine W.is 12 hc12 (by kernel_rfl) ?_
  refine W.run D_ok 9 100 (by kernel_rfl) ?_
  have hv7 := Option.some.inj hv7
  subst hv7
  exact W.fs [] [2] (by kernel_rfl)
  ) ?_
 refine CodeOk.ret ?_
 have h := Option.some.inj h
 subst h
 exact Ends.gen [] (.inr rfl) (RetV.one rfl (OneR.tmp (t := 2) (r := V.bool y1) (by kernel_rfl))) (by kernel_rfl) (by kernel_rfl) (by kernel_rfl)

theorem m_impl_IsDigit_ok (a0 : Int) {r : Bool} (h : m_impl_IsDigit a0 = some r) :
    AC Tryz.prog (GS []) 162 [V.int a0] [] (V.bool r) [] := by
 rw [m_impl_IsDigit] at h
 refine AC.enter Tryz.func162 rfl ?_
 refine cu D_ok mix 1 100 (tl 9 [(0, V.int a0)]) [] (by kernel_rfl) ?_
 (revert h; refine bind_rev fun y1 hv2 h => ?_)
 refine CodeOk.cutR (tl 9 [(2, V.bool y1)]) [] mix (by
  refine W.run D_ok 3 100 (by kernel_rfl) ?_
  (revert hv2; refine cond_rev (fun hc3 hv2 => ?_) (fun hc3 hv2 => ?_))
  ·refine W.is 5 hc3 (by kernel_rfl) ?_
   refine W.run D_ok 4 100 (by kernel_rfl) ?_
   have hv2 := Option.some.inj hv2
   subst hv2
   exact W.fs [] [2] (by kernel_rfl)
  refine W.is 5 hc3 (by kernel_rfl) ?_
  refine W.run D_ok 4 100 (by kernel_rfl) ?_
  have hv2 := Option.some.inj hv2
  subst hv2
  exact W.fs [] [2] (by kernel_rfl)
  ) ?_
 refine CodeOk.ret ?_
 have h := Option.some.inj h
 subst h
 exact Ends.gen [] (.inr rfl) (RetV.one rfl (OneR.tmp (t := 2) (r := V.bool y1) (by kernel_rfl))) (by kernel_rfl) (by kernel_rfl) (by kernel_rfl)

theorem m_impl_IsWordByte_ok (a0 : Int) {r : Bool} (h : m_impl_IsWordByte a0 = some r) :
    AC Tryz.prog (GS []) 153 [V.int a0] [] (V.bool r) [] := by
 rw [m_impl_IsWordByte] at h
 refine AC.enter Tryz.func153 rfl ?_
 refine cu D_ok mix 1 100 (tl 9 [(0, V.int a0)]) [] (by kernel_rfl) ?_
 (revert h; refine bind_rev fun y3 hv4 h => ?_)
 refine CodeOk.cutR (tl 9 [(2, V.bool y3)]) [] mix (by
  refine W.run D_ok 1 100 (by kernel_rfl) ?_
  (revert hv4; refine bind_rev fun r4 hx5 hv4 => ?_)
  refine W.call0 (m_impl_IsLetter_ok a0 hx5) cok154 rfl (by kernel_rfl) ?_
  refine W.run D_ok 1 100 (by kernel_rfl) ?_
  (revert hv4; refine cond_rev (fun hc6 hv4 => ?_) (fun hc6 hv4 => ?_))
  ·refine W.is 5 hc6 (by kernel_rfl) ?_
   refine W.run D_ok 4 100 (by kernel_rfl) ?_
   have hv4 := Option.some.inj hv4
   subst hv4
   exact W.fs [] [2] (by kernel_rfl)
  refine W.is 5 hc6 (by kernel_rfl) ?_
  refine W.run D_ok 1 100 (by kernel_rfl) ?_
  (revert hv4; refine bind_rev fun r5 hx7 hv4 => ?_)
  refine W.call0 (m_impl_IsDigit_ok a0 hx7) cok162 rfl (by kernel_rfl) ?_
  refine W.run D_ok 2 100 (by kernel_rfl) ?_
  have hv4 := Option.some.inj hv4
  subst hv4
  exact W.fs [] [2] (by kernel_rfl)
  ) ?_
 refine CodeOk.ret ?_
 have h := Option.some.inj h
 subst h
 exact Ends.gen [] (.inr rfl) (RetV.one rfl (OneR.tmp (t := 2) (r := V.bool y3) (by kernel_rfl))) (by kernel_rfl) (by kernel_rfl) (by kernel_rfl)

theorem m_impl_NameShape_ok (N : Nat) (a0 : List UInt8) {r : Bool} (h : m_impl_NameShape N a0 = some r) :
    AC Tryz.prog (GS []) 138 [V.str a0] [] (V.bool r) [] := by
 rw [m_impl_NameShape] at h
 refine AC.enter Tryz.func138 rfl ?_
 refine cu D_ok mix 1 100 (tl 25 [(0, V.str a0)]) [] (by kernel_rfl) ?_
 refine CodeOk.seq' ?_
 refine cu D_ok mix 3 100 (tl 25 [(0, V.str a0), (5, V.int (a0.length : Int)), (6, V.int 0)]) [] (by kernel_rfl) ?_
 refine CodeOk.block' ?_
 refine CodeOk.loopJ (fun (⟨a0, y35⟩ : ((List UInt8) × Int)) => ⟨tl 25 [(0, V.str a0), (5, V.int (a0.length : Int)), (6, V.int y35)], []⟩) (fun n i => m_impl_NameShape_l1 N n i = some r) (n0 := N) (i0 := (a0, 0)) (Weak.sel [] [0, 5, 6] (by kernel_rfl) (by kernel_rfl) (by kernel_rfl)) h (fun i h => by simp [m_impl_NameShape_l1] at h) ?_
 rintro n1 ⟨a0, y35⟩ h63 ih64
 rw [m_impl_NameShape_l1] at h63
 refine cu D_ok mix 1 160 (tl 25 [(0, V.str a0), (5, V.int (a0.length : Int)), (6, V.int y35), (7, V.bool (decide (y35 < (a0.length : Int))))]) [] (by kernel_rfl) ?_
 refine CodeOk.seq' ?_
 (revert h63; refine cond_rev (fun hc66 h63 => ?_) (fun hc66 h63 => ?_))
 ·refine CodeOk.ifT hc66 (by kernel_rfl) ?_
  refine CodeOk.skip ?_
  refine CodeOk.seq' ?_
  refine CodeOk.block' ?_
  refine cu D_ok mix 2 160 (tl 25 [(0, V.str a0), (3, V.int y35), (5, V.int (a0.length : Int)), (6, V.int y35)]) [] (by kernel_rfl) ?_
  (revert h63; refine bind_rev fun b51 hx74 h63 => ?_)
  (revert h63; refine bind_rev fun r52 hx75 h63 => ?_)
  refine CodeOk.cutR (tl 25 [(0, V.str a0), (5, V.int (a0.length : Int)), (6, V.int y35), (14, V.bool (!r52))]) [] mix (by
   refine W.run D_ok 2 160 (by kernel_rfl) ?_
   refine W.ixS D_ok hx74 (by kernel_rfl) ?_
   refine W.run D_ok 1 160 (by kernel_rfl) ?_
   refine W.call0 (m_impl_IsWordByte_ok (IntKind.wrap .i64 ((b51).toNat : Int)) hx75) cok153 rfl (by kernel_rfl) ?_
   refine W.run D_ok 1 160 (by kernel_rfl) ?_
   exact W.fi (by kernel_rfl)
   ) ?_
  (revert h63; refine cond_rev (fun hc76 h63 => ?_) (fun hc76 h63 => ?_))
  ·refine CodeOk.ifT hc76 (by kernel_rfl) ?_
   refine cu D_ok mix 1 160 (tl 25 [(2, V.bool false)]) [] (by kernel_rfl) ?_
   refine CodeOk.ret ?_
   have h63 := Option.some.inj h63
   subst h63
   exact Ends.gen [] (.inr rfl) (RetV.one rfl (OneR.tmp (t := 2) (r := V.bool false) (by kernel_rfl))) (by kernel_rfl) (by kernel_rfl) (by kernel_rfl)
  refine CodeOk.ifF hc76 (by kernel_rfl) ?_
  refine CodeOk.skip ?_
  refine ce D_ok mix 2 160 (tl 25 [(0, V.str a0), (5, V.int (a0.length : Int)), (6, V.int (IntKind.wrap .i64 (y35 + 1)))]) [] (by kernel_rfl) (fun st hw => ?_)
  exact ih64 (a0, (IntKind.wrap .i64 (y35 + 1))) h63 _ (hw.trans (Weak.sel [] [0, 5, 6] (by kernel_rfl) (by kernel_rfl) (by kernel_rfl)))
 refine CodeOk.ifF hc66 (by kernel_rfl) ?_
 refine CodeOk.exit ?_
 (revert h63; refine bind_rev fun y56 hv81 h63 => ?_)
 refine CodeOk.cutR (tl 25 [(2, V.bool y56)]) [] mix (by
  refine W.run D_ok 2 160 (by kernel_rfl) ?_
  (revert hv81; refine bind_rev fun r57 hx82 hv81 => ?_)
  refine W.call0 (m_impl_within_ok (a0.length : Int) 1 12 hx82) cok55 rfl (by kernel_rfl) ?_
  refine W.run D_ok 1 160 (by kernel_rfl) ?_
  (revert hv81; refine cond_rev (fun hc83 hv81 => ?_) (fun hc83 hv81 => ?_))
  ·refine W.is 19 hc83 (by kernel_rfl) ?_
   refine W.run D_ok 1 160 (by kernel_rfl) ?_
   (revert hv81; refine bind_rev fun b58 hx84 hv81 => ?_)
   refine W.ixS D_ok hx84 (by kernel_rfl) ?_
   refine W.run D_ok 1 160 (by kernel_rfl) ?_
   (revert hv81; refine bind_rev fun r59 hx85 hv81 => ?_)
   refine W.call0 (m_impl_IsLetter_ok (IntKind.wrap .i64 ((b58).toNat : Int)) hx85) cok154 rfl (by kernel_rfl) ?_
   refine W.run D_ok 2 160 (by kernel_rfl) ?_
   have hv81 := Option.some.inj hv81
   subst hv81
   exact W.fs [] [2] (by kernel_rfl)
  refine W.is 19 hc83 (by kernel_rfl) ?_
  refine W.run D_ok 6 160 (by kernel_rfl) ?_
  have hv81 := Option.some.inj hv81
  subst hv81
  exact W.fs [] [2] (by kernel_rfl)
  ) ?_
 refine CodeOk.ret ?_
 have h63 := Option.some.inj h63
 subst h63
 exact Ends.gen [] (.inr rfl) (RetV.one rfl (OneR.tmp (t := 2) (r := V.bool y56) (by kernel_rfl))) (by kernel_rfl) (by kernel_rfl) (by kernel_rfl)

theorem m_slices_Index_string_ok (N : Nat) (a0 : List (List UInt8)) (a1 : List UInt8) {r : Int} (h : m_slices_Index_string N a0 a1 = some r) :
    AC Tryz.prog (GS []) 145 [.sl false false (a0.map encS), V.str a1] [] (V.int r) [] := by
 rw [m_slices_Index_string] at h
 refine AC.enter Tryz.func145 rfl ?_
 refine cu D_ok mix 1 100 (tl 19 [(0, .sl false false (a0.map encS)), (1, V.str a1)]) [] (by kernel_rfl) ?_
 refine CodeOk.seq' ?_
 refine CodeOk.cutR (tl 19 [(0, .sl false false (a0.map encS)), (1, V.str a1), (7, V.int (a0.length : Int)), (8, V.int 0)]) [] mix (by
  refine W.run D_ok 1 100 (by kernel_rfl) ?_
  refine W.len D_ok encS a0 [] (by kernel_rfl) (by kernel_rfl) ?_
  refine W.run D_ok 1 100 (by kernel_rfl) ?_
  exact W.fi (by kernel_rfl)
  ) ?_
 refine CodeOk.block' ?_
 refine CodeOk.loopJ (fun (⟨a0, a1, y19⟩ : ((List (List UInt8)) × (List UInt8) × Int)) => ⟨tl 19 [(0, .sl false false (a0.map encS)), (1, V.str a1), (7, V.int (a0.length : Int)), (8, V.int y19)], []⟩) (fun n i => m_slices_Index_string_l1 N n i = some r) (n0 := N) (i0 := (a0, a1, 0)) (Weak.sel [] [0, 1, 7, 8] (by kernel_rfl) (by kernel_rfl) (by kernel_rfl)) h (fun i h => by simp [m_slices_Index_string_l1] at h) ?_
 rintro n1 ⟨a0, a1, y19⟩ h43 ih44
 rw [m_slices_Index_string_l1] at h43
 refine cu D_ok mix 1 160 (tl 19 [(0, .sl false false (a0.map encS)), (1, V.str a1), (7, V.int (a0.length : Int)), (8, V.int y19), (9, V.bool (decide (y19 < (a0.length : Int))))]) [] (by kernel_rfl) ?_
 refine CodeOk.seq' ?_
 (revert h43; refine cond_rev (fun hc46 h43 => ?_) (fun hc46 h43 => ?_))
 ·refine CodeOk.ifT hc46 (by kernel_rfl) ?_
  refine CodeOk.skip ?_
  refine CodeOk.seq' ?_
  refine CodeOk.block' ?_
  refine cu D_ok mix 2 160 (tl 19 [(0, .sl false false (a0.map encS)), (1, V.str a1), (5, V.int y19), (7, V.int (a0.length : Int)), (8, V.int y19)]) [] (by kernel_rfl) ?_
  (revert h43; refine bind_rev fun e28 hx51 h43 => ?_)
  refine CodeOk.cutR (tl 19 [(0, .sl false false (a0.map encS)), (1, V.str a1), (5, V.int y19), (7, V.int (a0.length : Int)), (8, V.int y19), (16, V.bool (a1 == e28))]) [] mix (by
   refine W.run D_ok 3 160 (by kernel_rfl) ?_
   refine W.ixD D_ok encS hx51 1 (by kernel_rfl) (by kernel_rfl) ?_
   refine W.run D_ok 2 160 (by kernel_rfl) ?_
   exact W.fi (by kernel_rfl)
   ) ?_
  (revert h43; refine cond_rev (fun hc52 h43 => ?_) (fun hc52 h43 => ?_))
  ·refine CodeOk.ifT hc52 (by kernel_rfl) ?_
   refine cu D_ok mix 2 160 (tl 19 [(4, V.int y19)]) [] (by kernel_rfl) ?_
   refine CodeOk.ret ?_
   have h43 := Option.some.inj h43
   subst h43
   exact Ends.gen [] (.inr rfl) (RetV.one rfl (OneR.tmp (t := 4) (r := V.int y19) (by kernel_rfl))) (by kernel_rfl) (by kernel_rfl) (by kernel_rfl)
  refine CodeOk.ifF hc52 (by kernel_rfl) ?_
  refine CodeOk.skip ?_
  refine ce D_ok mix 2 160 (tl 19 [(0, .sl false false (a0.map encS)), (1, V.str a1), (7, V.int (a0.length : Int)), (8, V.int (IntKind.wrap .i64 (y19 + 1)))]) [] (by kernel_rfl) (fun st hw => ?_)
  exact ih44 (a0, a1, (IntKind.wrap .i64 (y19 + 1))) h43 _ (hw.trans (Weak.sel [] [0, 1, 7, 8] (by kernel_rfl) (by kernel_rfl) (by kernel_rfl)))
 refine CodeOk.ifF hc46 (by kernel_rfl) ?_
 refine CodeOk.exit ?_
 refine cu D_ok mix 1 160 (tl 19 [(4, V.int (-1))]) [] (by kernel_rfl) ?_
 refine CodeOk.ret ?_
 have h43 := Option.some.inj h43
 subst h43
 exact Ends.gen [] (.inr rfl) (RetV.one rfl (OneR.tmp (t := 4) (r := V.int (-1)) (by kernel_rfl))) (by kernel_rfl) (by kernel_rfl) (by kernel_rfl)

theorem m_impl_KeywordOf_ok (N : Nat) (a0 : List UInt8) {r : Int} (h : m_impl_KeywordOf N a0 = some r) :
    AC Tryz.prog (GS [1]) 139 [V.str a0] [] (V.int r) [] := by
 rw [m_impl_KeywordOf] at h
 refine AC.enter Tryz.func139 rfl ?_
 refine cu D_ok mix 1 100 (tl 11 [(0, V.str a0)]) [] (by kernel_rfl) ?_
 (revert h; refine bind_rev fun r2 hx2 h => ?_)
 refine CodeOk.cutR (tl 11 [(3, V.int r2)]) [] mix (by
  refine W.cutG D_ok V.str tab_keywords (by kernel_rfl) ?_
  refine W.run D_ok 1 100 (by kernel_rfl) ?_
  refine W.call0 (AC.gs (m_slices_Index_string_ok N tab_keywords a0 hx2) (by decide)) cok145 rfl (by kernel_rfl) ?_
  refine W.run D_ok 1 100 (by kernel_rfl) ?_
  exact W.fi (by kernel_rfl)
  ) ?_
 refine CodeOk.seq' ?_
 refine cu D_ok mix 2 100 (tl 11 [(3, V.int r2), (8, V.bool (decide (r2 < 0)))]) [] (by kernel_rfl) ?_
 (revert h; refine cond_rev (fun hc4 h => ?_) (fun hc4 h => ?_))
 ·refine CodeOk.ifT hc4 (by kernel_rfl) ?_
  refine cu D_ok mix 1 100 (tl 11 [(2, V.int 0)]) [] (by kernel_rfl) ?_
  refine CodeOk.ret ?_
  have h := Option.some.inj h
  subst h
  exact Ends.gen [] (.inr rfl) (RetV.one rfl (OneR.tmp (t := 2) (r := V.int 0) (by kernel_rfl))) (by kernel_rfl) (by kernel_rfl) (by kernel_rfl)
 refine CodeOk.ifF hc4 (by kernel_rfl) ?_
 refine CodeOk.skip ?_
 refine cu D_ok mix 3 100 (tl 11 [(2, V.int (IntKind.wrap .i64 (10 + r2)))]) [] (by kernel_rfl) ?_
 refine CodeOk.ret ?_
 have h := Option.some.inj h
 subst h
 exact Ends.gen [] (.inr rfl) (RetV.one rfl (OneR.tmp (t := 2) (r := V.int (IntKind.wrap .i64 (10 + r2))) (by kernel_rfl))) (by kernel_rfl) (by kernel_rfl) (by kernel_rfl)

theorem m_slices_Contains_string_ok (N : Nat) (a0 : List (List UInt8)) (a1 : List UInt8) {r : Bool} (h : m_slices_Contains_string N a0 a1 = some r) :
    AC Tryz.prog (GS []) 126 [.sl false false (a0.map encS), V.str a1] [] (V.bool r) [] := by
 rw [m_slices_Contains_string] at h
 refine AC.enter Tryz.func126 rfl ?_
 refine cu D_ok mix 1 100 (tl 9 [(0, .sl false false (a0.map encS)), (1, V.str a1)]) [] (by kernel_rfl) ?_
 (revert h; refine bind_rev fun r2 hx2 h => ?_)
 refine CodeOk.cutR (tl 9 [(4, V.bool (decide (r2 ≥ 0)))]) [] mix (by
  refine W.run D_ok 2 100 (by kernel_rfl) ?_
  refine W.call0 (m_slices_Index_string_ok N a0 a1 hx2) cok145 rfl (by kernel_rfl) ?_
  refine W.run D_ok 2 100 (by kernel_rfl) ?_
  exact W.fi (by kernel_rfl)
  ) ?_
 refine CodeOk.ret ?_
 have h := Option.some.inj h
 subst h
 exact Ends.gen [] (.inr rfl) (RetV.one rfl (OneR.tmp (t := 4) (r := V.bool (decide (r2 ≥ 0))) (by kernel_rfl))) (by kernel_rfl) (by kernel_rfl) (by kernel_rfl)

theorem m_impl_IsBuiltin_ok (N : Nat) (a0 : List UInt8) {r : Bool} (h : m_impl_IsBuiltin N a0 = some r) :
    AC Tryz.prog (GS [0]) 122 [V.str a0] [] (V.bool r) [] := by
 rw [m_impl_IsBuiltin] at h
 refine AC.enter Tryz.func122 rfl ?_
 refine cu D_ok mix 1 100 (tl 6 [(0, V.str a0)]) [] (by kernel_rfl) ?_
 (revert h; refine bind_rev fun r2 hx2 h => ?_)
 refine CodeOk.cutR (tl 6 [(2, V.bool r2)]) [] mix (by
  refine W.cutG D_ok V.str tab_builtins (by kernel_rfl) ?_
  refine W.run D_ok 1 100 (by kernel_rfl) ?_
  refine W.call0 (AC.gs (m_slices_Contains_string_ok N tab_builtins a0 hx2) (by decide)) cok126 rfl (by kernel_rfl) ?_
  refine W.run D_ok 1 100 (by kernel_rfl) ?_
  exact W.fi (by kernel_rfl)
  ) ?_
 refine CodeOk.ret ?_
 have h := Option.some.inj h
 subst h
 exact Ends.gen [] (.inr rfl) (RetV.one rfl (OneR.tmp (t := 2) (r := V.bool r2) (by kernel_rfl))) (by kernel_rfl) (by kernel_rfl) (by kernel_rfl)

theorem m_impl_NameOk_ok (N : Nat) (a0 : List UInt8) {r : Bool} (h : m_impl_NameOk N a0 = some r) :
    AC Tryz.prog (GS [0, 1]) 120 [V.str a0] [] (V.bool r) [] := by
 rw [m_impl_NameOk] at h
 refine AC.enter Tryz.func120 rfl ?_
 refine cu D_ok mix 1 100 (tl 15 [(0, V.str a0)]) [] (by kernel_rfl) ?_
 (revert h; refine bind_rev fun y4 hv6 h => ?_)
 refine CodeOk.cutR (tl 15 [(2, V.bool y4)]) [] mix (by
  refine W.run D_ok 1 100 (by kernel_rfl) ?_
  (revert hv6; refine bind_rev fun r5 hx7 hv6 => ?_)
  refine W.call0 (AC.gs (m_impl_NameShape_ok N a0 hx7) (by decide)) cok138 rfl (by kernel_rfl) ?_
  refine W.run D_ok 1 100 (by kernel_rfl) ?_
  (revert hv6; refine cond_rev (fun hc8 hv6 => ?_) (fun hc8 hv6 => ?_))
  ·refine W.is 5 hc8 (by kernel_rfl) ?_
   refine W.run D_ok 1 100 (by kernel_rfl) ?_
   (revert hv6; refine bind_rev fun r6 hx9 hv6 => ?_)
   refine W.call0 (AC.gs (m_impl_KeywordOf_ok N a0 hx9) (by decide)) cok139 rfl (by kernel_rfl) ?_
   refine W.run D_ok 3 100 (by kernel_rfl) ?_
   (revert hv6; refine cond_rev (fun hc10 hv6 => ?_) (fun hc10 hv6 => ?_))
   ·refine W.is 10 hc10 (by kernel_rfl) ?_
    refine W.run D_ok 1 100 (by kernel_rfl) ?_
    (revert hv6; refine bind_rev fun r7 hx11 hv6 => ?_)
    refine W.call0 (AC.gs (m_impl_IsBuiltin_ok N a0 hx11) (by decide)) cok122 rfl (by kernel_rfl) ?_
    refine W.run D_ok 3 100 (by kernel_rfl) ?_
    have hv6 := Option.some.inj hv6
    subst hv6
    exact W.fs [] [2] (by kernel_rfl)
   refine W.is 10 hc10 (by kernel_rfl) ?_
   refine W.run D_ok 5 100 (by kernel_rfl) ?_
   have hv6 := Option.some.inj hv6
   subst hv6
   exact W.fs [] [2] (by kernel_rfl)
  refine W.is 5 hc8 (by kernel_rfl) ?_
  refine W.run D_ok 10 100 (by kernel_rfl) ?_
  have hv6 := Option.some.inj hv6
  subst hv6
  exact W.fs [] [2] (by kernel_rfl)
  ) ?_
 refine CodeOk.ret ?_
 have h := Option.some.inj h
 subst h
 exact Ends.gen [] (.inr rfl) (RetV.one rfl (OneR.tmp (t := 2) (r := V.bool y4) (by kernel_rfl))) (by kernel_rfl) (by kernel_rfl) (by kernel_rfl)

theorem m_stringslite_IndexByte_ok (a0 : List UInt8) (a1 : Int) {r : Int} (h : m_stringslite_IndexByte a0 a1 = some r) :
    AC Tryz.prog (GS []) 164 [V.str a0, .c (.int .u8 a1)] [] (V.int r) [] := by
 rw [m_stringslite_IndexByte] at h
 refine AC.enter Tryz.func164 rfl ?_
 refine cu D_ok mix 1 100 (tl 8 [(0, V.str a0), (1, .c (.int .u8 a1))]) [] (by kernel_rfl) ?_
 refine CodeOk.cutR (tl 8 [(4, V.int (Go.Lib.indexByte a0 (Int.toNat a1).toUInt8))]) [] mix (by
  refine W.run D_ok 2 100 (by kernel_rfl) ?_
  refine W.ext (vs := [.string ⟨⟨a0⟩⟩, .int .u8 a1]) (ext168 _ _) (by kernel_rfl) ?_
  refine W.run D_ok 1 100 (by kernel_rfl) ?_
  exact W.fi (by kernel_rfl)
  ) ?_
 refine CodeOk.ret ?_
 have h := Option.some.inj h
 subst h
 exact Ends.gen [] (.inr rfl) (RetV.one rfl (OneR.tmp (t := 4) (r := V.int (Go.Lib.indexByte a0 (Int.toNat a1).toUInt8)) (by kernel_rfl))) (by kernel_rfl) (by kernel_rfl) (by kernel_rfl)

theorem m_stringslite_Index_ok (a0 : List UInt8) {r : Int} (h : m_stringslite_Index a0 = some r) :
    AC Tryz.prog (GS []) 163 [V.str a0, V.str [10]] [] (V.int r) [] := by
 rw [m_stringslite_Index] at h
 refine AC.enter Tryz.func163 rfl ?_
 refine cu D_ok mix 1 100 (tl 143 [(0, V.str a0), (1, V.str [10])]) [] (by kernel_rfl) ?_
 refine cu D_ok mix 3 100 (tl 143 [(0, V.str a0), (1, V.str [10]), (5, V.int 1)]) [] (by kernel_rfl) ?_
 refine CodeOk.seq' ?_
 refine CodeOk.block' ?_
 refine cu D_ok mix 8 100 (tl 143 [(0, V.str a0), (1, V.str [10]), (5, V.int 1), (16, V.bool (([10] : List UInt8) == a0))]) [] (by kernel_rfl) ?_
 (revert h; refine cond_rev (fun hc6 h => ?_) (fun hc6 h => ?_))
 ·refine CodeOk.ifT hc6 (by kernel_rfl) ?_
  refine cu D_ok mix 1 100 (tl 143 [(4, V.int 0)]) [] (by kernel_rfl) ?_
  refine CodeOk.ret ?_
  have h := Option.some.inj h
  subst h
  exact Ends.gen [] (.inr rfl) (RetV.one rfl (OneR.tmp (t := 4) (r := V.int 0) (by kernel_rfl))) (by kernel_rfl) (by kernel_rfl) (by kernel_rfl)
 refine CodeOk.ifF hc6 (by kernel_rfl) ?_
 refine cu D_ok mix 3 100 (tl 143 [(0, V.str a0), (1, V.str [10]), (5, V.int 1), (24, V.bool true)]) [] (by kernel_rfl) ?_
 refine CodeOk.ifT (c := true) rfl (by kernel_rfl) ?_
 (revert h; refine bind_rev fun b7 hx9 h => ?_)
 (revert h; refine bind_rev fun r8 hx10 h => ?_)
 refine CodeOk.cutR (tl 143 [(4, V.int r8)]) [] mix (by
  refine W.run D_ok 2 100 (by kernel_rfl) ?_
  refine W.ixS D_ok hx9 (by kernel_rfl) ?_
  refine W.call0 (m_stringslite_IndexByte_ok a0 ((b7).toNat : Int) hx10) cok164 rfl (by kernel_rfl) ?_
  refine W.run D_ok 1 100 (by kernel_rfl) ?_
  exact W.fi (by kernel_rfl)
  ) ?_
 refine CodeOk.ret ?_
 have h := Option.some.inj h
 subst h
 exact Ends.gen [] (.inr rfl) (RetV.one rfl (OneR.tmp (t := 4) (r := V.int r8) (by kernel_rfl))) (by kernel_rfl) (by kernel_rfl) (by kernel_rfl)

theorem m_strings_Index_ok (a0 : List UInt8) {r : Int} (h : m_strings_Index a0 = some r) :
    AC Tryz.prog (GS []) 155 [V.str a0, V.str [10]] [] (V.int r) [] := by
 rw [m_strings_Index] at h
 refine AC.enter Tryz.func155 rfl ?_
 refine cu D_ok mix 1 100 (tl 8 [(0, V.str a0), (1, V.str [10])]) [] (by kernel_rfl) ?_
 (revert h; refine bind_rev fun r2 hx2 h => ?_)
 refine CodeOk.cutR (tl 8 [(4, V.int r2)]) [] mix (by
  refine W.run D_ok 2 100 (by kernel_rfl) ?_
  refine W.call0 (m_stringslite_Index_ok a0 hx2) cok163 rfl (by kernel_rfl) ?_
  refine W.run D_ok 1 100 (by kernel_rfl) ?_
  exact W.fi (by kernel_rfl)
  ) ?_
 refine CodeOk.ret ?_
 have h := Option.some.inj h
 subst h
 exact Ends.gen [] (.inr rfl) (RetV.one rfl (OneR.tmp (t := 4) (r := V.int r2) (by kernel_rfl))) (by kernel_rfl) (by kernel_rfl) (by kernel_rfl)

theorem m_strings_Contains_ok (a0 : List UInt8) {r : Bool} (h : m_strings_Contains a0 = some r) :
    AC Tryz.prog (GS []) 140 [V.str a0, V.str [10]] [] (V.bool r) [] := by
 rw [m_strings_Contains] at h
 refine AC.enter Tryz.func140 rfl ?_
 refine cu D_ok mix 1 100 (tl 9 [(0, V.str a0), (1, V.str [10])]) [] (by kernel_rfl) ?_
 (revert h; refine bind_rev fun r2 hx2 h => ?_)
 refine CodeOk.cutR (tl 9 [(4, V.bool (decide (r2 ≥ 0)))]) [] mix (by
  refine W.run D_ok 2 100 (by kernel_rfl) ?_
  refine W.call0 (m_strings_Index_ok a0 hx2) cok155 rfl (by kernel_rfl) ?_
  refine W.run D_ok 2 100 (by kernel_rfl) ?_
  exact W.fi (by kernel_rfl)
  ) ?_
 refine CodeOk.ret ?_
 have h := Option.some.inj h
 subst h
 exact Ends.gen [] (.inr rfl) (RetV.one rfl (OneR.tmp (t := 4) (r := V.bool (decide (r2 ≥ 0))) (by kernel_rfl))) (by kernel_rfl) (by kernel_rfl) (by kernel_rfl)

theorem m_impl_byteAt_ok (a0 : List UInt8) (a1 : Int) {r : Int} (h : m_impl_byteAt a0 a1 = some r) :
    AC Tryz.prog (GS []) 157 [V.str a0, V.int a1] [] (V.int r) [] := by
 rw [m_impl_byteAt] at h
 refine AC.enter Tryz.func157 rfl ?_
 refine cu D_ok mix 1 100 (tl 15 [(0, V.str a0), (1, V.int a1)]) [] (by kernel_rfl) ?_
 refine CodeOk.seq' ?_
 (revert h; refine bind_rev fun r4 hx5 h => ?_)
 refine CodeOk.cutR (tl 15 [(0, V.str a0), (1, V.int a1), (10, V.bool (!r4))]) [] mix (by
  refine W.run D_ok 4 100 (by kernel_rfl) ?_
  refine W.call0 (m_impl_within_ok a1 0 (IntKind.wrap .i64 ((a0.length : Int) - 1)) hx5) cok55 rfl (by kernel_rfl) ?_
  refine W.run D_ok 1 100 (by kernel_rfl) ?_
  exact W.fi (by kernel_rfl)
  ) ?_
 (revert h; refine cond_rev (fun hc6 h => ?_) (fun hc6 h => ?_))
 ·refine CodeOk.ifT hc6 (by kernel_rfl) ?_
  refine cu D_ok mix 1 100 (tl 15 [(4, V.int (-1))]) [] (by kernel_rfl) ?_
  refine CodeOk.ret ?_
  have h := Option.some.inj h
  subst h
  exact Ends.gen [] (.inr rfl) (RetV.one rfl (OneR.tmp (t := 4) (r := V.int (-1)) (by kernel_rfl))) (by kernel_rfl) (by kernel_rfl) (by kernel_rfl)
 refine CodeOk.ifF hc6 (by kernel_rfl) ?_
 refine CodeOk.skip ?_
 (revert h; refine bind_rev fun b6 hx8 h => ?_)
 refine CodeOk.cutR (tl 15 [(4, V.int (IntKind.wrap .i64 ((b6).toNat : Int)))]) [] mix (by
  refine W.run D_ok 2 100 (by kernel_rfl) ?_
  refine W.ixS D_ok hx8 (by kernel_rfl) ?_
  refine W.run D_ok 2 100 (by kernel_rfl) ?_
  exact W.fi (by kernel_rfl)
  ) ?_
 refine CodeOk.ret ?_
 have h := Option.some.inj h
 subst h
 exact Ends.gen [] (.inr rfl) (RetV.one rfl (OneR.tmp (t := 4) (r := V.int (IntKind.wrap .i64 ((b6).toNat : Int))) (by kernel_rfl))) (by kernel_rfl) (by kernel_rfl) (by kernel_rfl)

theorem m_impl_digitsEnd_ok (N : Nat) (a0 : List UInt8) (a1 : Int) {r : Int} (h : m_impl_digitsEnd N a0 a1 = some r) :
    AC Tryz.prog (GS []) 156 [V.str a0, V.int a1] [] (V.int r) [] := by
 rw [m_impl_digitsEnd] at h
 refine AC.enter Tryz.func156 rfl ?_
 refine cu D_ok mix 1 100 (tl 12 [(0, V.str a0), (1, V.int a1)]) [] (by kernel_rfl) ?_
 refine CodeOk.seq' ?_
 refine CodeOk.block' ?_
 refine CodeOk.loopJ (fun (⟨a0, a1⟩ : ((List UInt8) × Int)) => ⟨tl 12 [(0, V.str a0), (1, V.int a1)], []⟩) (fun n i => m_impl_digitsEnd_l1 N n i = some r) (n0 := N) (i0 := (a0, a1)) (Weak.sel [] [0, 1] (by kernel_rfl) (by kernel_rfl) (by kernel_rfl)) h (fun i h => by simp [m_impl_digitsEnd_l1] at h) ?_
 rintro n1 ⟨a0, a1⟩ h33 ih34
 rw [m_impl_digitsEnd_l1] at h33
 refine CodeOk.seq' ?_
 (revert h33; refine bind_rev fun r33 hx42 h33 => ?_)
 (revert h33; refine bind_rev fun r34 hx43 h33 => ?_)
 refine CodeOk.cutR (tl 12 [(0, V.str a0), (1, V.int a1), (8, V.bool r34)]) [] mix (by
  refine W.run D_ok 2 140 (by kernel_rfl) ?_
  refine W.call0 (m_impl_byteAt_ok a0 a1 hx42) cok157 rfl (by kernel_rfl) ?_
  refine W.call0 (m_impl_IsDigit_ok r33 hx43) cok162 rfl (by kernel_rfl) ?_
  exact W.fi (by kernel_rfl)
  ) ?_
 (revert h33; refine cond_rev (fun hc44 h33 => ?_) (fun hc44 h33 => ?_))
 ·refine CodeOk.ifT hc44 (by kernel_rfl) ?_
  refine CodeOk.skip ?_
  refine CodeOk.block' ?_
  refine ce D_ok mix 3 140 (tl 12 [(0, V.str a0), (1, V.int (IntKind.wrap .i64 (a1 + 1)))]) [] (by kernel_rfl) (fun st hw => ?_)
  exact ih34 (a0, (IntKind.wrap .i64 (a1 + 1))) h33 _ (hw.trans (Weak.sel [] [0, 1] (by kernel_rfl) (by kernel_rfl) (by kernel_rfl)))
 refine CodeOk.ifF hc44 (by kernel_rfl) ?_
 refine CodeOk.exit ?_
 refine cu D_ok mix 2 140 (tl 12 [(4, V.int a1)]) [] (by kernel_rfl) ?_
 refine CodeOk.ret ?_
 have h33 := Option.some.inj h33
 subst h33
 exact Ends.gen [] (.inr rfl) (RetV.one rfl (OneR.tmp (t := 4) (r := V.int a1) (by kernel_rfl))) (by kernel_rfl) (by kernel_rfl) (by kernel_rfl)

theorem m_impl_NumEnd_ok (N : Nat) (a0 : List UInt8) (a1 : Int) {r : Int} (h : m_impl_NumEnd N a0 a1 = some r) :
    AC Tryz.prog (GS []) 141 [V.str a0, V.int a1] [] (V.int r) [] := by
 rw [m_impl_NumEnd] at h
 refine AC.enter Tryz.func141 rfl ?_
 refine cu D_ok mix 1 100 (tl 71 [(0, V.str a0), (1, V.int a1)]) [] (by kernel_rfl) ?_
 refine CodeOk.seq' ?_
 (revert h; refine bind_rev fun r4 hx5 h => ?_)
 refine CodeOk.cutR (tl 71 [(0, V.str a0), (1, V.int a1), (17, V.bool (!r4))]) [] mix (by
  refine W.run D_ok 4 100 (by kernel_rfl) ?_
  refine W.call0 (m_impl_within_ok a1 0 (IntKind.wrap .i64 ((a0.length : Int) - 1)) hx5) cok55 rfl (by kernel_rfl) ?_
  refine W.run D_ok 1 100 (by kernel_rfl) ?_
  exact W.fi (by kernel_rfl)
  ) ?_
 (revert h; refine cond_rev (fun hc6 h => ?_) (fun hc6 h => ?_))
 ·refine CodeOk.ifT hc6 (by kernel_rfl) ?_
  refine cu D_ok mix 1 100 (tl 71 [(4, V.int (-1))]) [] (by kernel_rfl) ?_
  refine CodeOk.ret ?_
  have h := Option.some.inj h
  subst h
  exact Ends.gen [] (.inr rfl) (RetV.one rfl (OneR.tmp (t := 4) (r := V.int (-1)) (by kernel_rfl))) (by kernel_rfl) (by kernel_rfl) (by kernel_rfl)
 refine CodeOk.ifF hc6 (by kernel_rfl) ?_
 refine CodeOk.skip ?_
 (revert h; refine bind_rev fun r6 hx8 h => ?_)
 refine CodeOk.cutR (tl 71 [(0, V.str a0), (1, V.int a1), (5, V.int r6)]) [] mix (by
  refine W.run D_ok 2 100 (by kernel_rfl) ?_
  refine W.call0 (m_impl_digitsEnd_ok N a0 a1 hx8) cok156 rfl (by kernel_rfl) ?_
  refine W.run D_ok 1 100 (by kernel_rfl) ?_
  exact W.fi (by kernel_rfl)
  ) ?_
 refine cu D_ok mix 4 100 (tl 71 [(0, V.str a0), (5, V.int r6), (6, V.int (IntKind.wrap .i64 (r6 - a1)))]) [] (by kernel_rfl) ?_
 refine CodeOk.join (fun (⟨a0, y11, y12⟩ : ((List UInt8) × Int × Int)) => ⟨tl 71 [(0, V.str a0), (5, V.int y11), (6, V.int y12)], []⟩) (fun i => m_impl_NumEnd_k1 N i = some r) ?_ ?_
 · rintro ⟨a0, y11, y12⟩ h14
   rw [m_impl_NumEnd_k1] at h14
   refine CodeOk.seq' ?_
   refine cu D_ok mix 2 100 (tl 71 [(0, V.str a0), (5, V.int y11), (40, V.bool (y12 == 0))]) [] (by kernel_rfl) ?_
   (revert h14; refine cond_rev (fun hc16 h14 => ?_) (fun hc16 h14 => ?_))
   ·refine CodeOk.ifT hc16 (by kernel_rfl) ?_
    refine cu D_ok mix 1 100 (tl 71 [(4, V.int (-1))]) [] (by kernel_rfl) ?_
    refine CodeOk.ret ?_
    have h14 := Option.some.inj h14
    subst h14
    exact Ends.gen [] (.inr rfl) (RetV.one rfl (OneR.tmp (t := 4) (r := V.int (-1)) (by kernel_rfl))) (by kernel_rfl) (by kernel_rfl) (by kernel_rfl)
   refine CodeOk.ifF hc16 (by kernel_rfl) ?_
   refine CodeOk.skip ?_
   refine CodeOk.join (fun (y11 : Int) => ⟨tl 71 [(5, V.int y11)], []⟩) (fun i => m_impl_NumEnd_k2 N i = some r) ?_ ?_
   · rintro y11 h40
     rw [m_impl_NumEnd_k2] at h40
     refine cu D_ok mix 2 100 (tl 71 [(4, V.int y11)]) [] (by kernel_rfl) ?_
     refine CodeOk.ret ?_
     have h40 := Option.some.inj h40
     subst h40
     exact Ends.gen [] (.inr rfl) (RetV.one rfl (OneR.tmp (t := 4) (r := V.int y11) (by kernel_rfl))) (by kernel_rfl) (by kernel_rfl) (by kernel_rfl)
   intro hk41
   (revert h14; refine bind_rev fun r26 hx43 h14 => ?_)
   refine CodeOk.cutR (tl 71 [(0, V.str a0), (5, V.int y11), (8, V.int r26)]) [] mix (by
    refine W.run D_ok 2 100 (by kernel_rfl) ?_
    refine W.call0 (m_impl_byteAt_ok a0 y11 hx43) cok157 rfl (by kernel_rfl) ?_
    refine W.run D_ok 1 100 (by kernel_rfl) ?_
    exact W.fi (by kernel_rfl)
    ) ?_
   (revert h14; refine bind_rev fun y27 hv45 h14 => ?_)
   refine CodeOk.cutR (tl 71 [(0, V.str a0), (5, V.int y11), (49, V.bool y27)]) [] mix (by
    refine W.run D_ok 3 100 (by kernel_rfl) ?_
    (revert hv45; refine cond_rev (fun hc46 hv45 => ?_) (fun hc46 hv45 => ?_))
    ·refine W.is 46 hc46 (by kernel_rfl) ?_
     refine W.run D_ok 3 100 (by kernel_rfl) ?_
     have hv45 := Option.some.inj hv45
     subst hv45
     exact W.fs [] [0, 5, 49] (by kernel_rfl)
    refine W.is 46 hc46 (by kernel_rfl) ?_
    refine W.run D_ok 3 100 (by kernel_rfl) ?_
    have hv45 := Option.some.inj hv45
    subst hv45
    exact W.fs [] [0, 5, 49] (by kernel_rfl)
    ) ?_
   (revert h14; refine cond_rev (fun hc47 h14 => ?_) (fun hc47 h14 => ?_))
   ·refine CodeOk.ifT hc47 (by kernel_rfl) ?_
    refine cu D_ok mix 3 100 (tl 71 [(0, V.str a0), (5, V.int y11), (9, V.int (IntKind.wrap .i64 (y11 + 1)))]) [] (by kernel_rfl) ?_
    refine CodeOk.join (fun (⟨a0, y11, y31⟩ : ((List UInt8) × Int × Int)) => ⟨tl 71 [(0, V.str a0), (5, V.int y11), (9, V.int y31)], []⟩) (fun i => m_impl_NumEnd_k3 N i = some r) ?_ ?_
    · rintro ⟨a0, y11, y31⟩ h54
      rw [m_impl_NumEnd_k3] at h54
      (revert h54; refine bind_rev fun r33 hx56 h54 => ?_)
      refine CodeOk.cutR (tl 71 [(5, V.int y11), (9, V.int y31), (11, V.int r33)]) [] mix (by
       refine W.run D_ok 2 100 (by kernel_rfl) ?_
       refine W.call0 (m_impl_digitsEnd_ok N a0 y31 hx56) cok156 rfl (by kernel_rfl) ?_
       refine W.run D_ok 1 100 (by kernel_rfl) ?_
       exact W.fi (by kernel_rfl)
       ) ?_
      refine cu D_ok mix 3 100 (tl 71 [(5, V.int y11), (11, V.int r33), (68, V.bool (decide (r33 > y31)))]) [] (by kernel_rfl) ?_
      (revert h54; refine cond_rev (fun hc57 h54 => ?_) (fun hc57 h54 => ?_))
      ·refine CodeOk.ifT hc57 (by kernel_rfl) ?_
       refine cu D_ok mix 2 100 (tl 71 [(4, V.int r33)]) [] (by kernel_rfl) ?_
       refine CodeOk.ret ?_
       have h54 := Option.some.inj h54
       subst h54
       exact Ends.gen [] (.inr rfl) (RetV.one rfl (OneR.tmp (t := 4) (r := V.int r33) (by kernel_rfl))) (by kernel_rfl) (by kernel_rfl) (by kernel_rfl)
      refine CodeOk.ifF hc57 (by kernel_rfl) ?_
      refine CodeOk.skip ?_
      exact hk41 y11 h54 _ (Weak.sel [] [5] (by kernel_rfl) (by kernel_rfl) (by kernel_rfl))
    intro hk58
    (revert h14; refine bind_rev fun r35 hx60 h14 => ?_)
    refine CodeOk.cutR (tl 71 [(0, V.str a0), (5, V.int y11), (9, V.int (IntKind.wrap .i64 (y11 + 1))), (10, V.int r35)]) [] mix (by
     refine W.run D_ok 2 100 (by kernel_rfl) ?_
     refine W.call0 (m_impl_byteAt_ok a0 (IntKind.wrap .i64 (y11 + 1)) hx60) cok157 rfl (by kernel_rfl) ?_
     refine W.run D_ok 1 100 (by kernel_rfl) ?_
     exact W.fi (by kernel_rfl)
     ) ?_
    (revert h14; refine bind_rev fun y36 hv62 h14 => ?_)
    refine CodeOk.cutR (tl 71 [(0, V.str a0), (5, V.int y11), (9, V.int (IntKind.wrap .i64 (y11 + 1))), (60, V.bool y36)]) [] mix (by
     refine W.run D_ok 3 100 (by kernel_rfl) ?_
     (revert hv62; refine cond_rev (fun hc63 hv62 => ?_) (fun hc63 hv62 => ?_))
     ·refine W.is 57 hc63 (by kernel_rfl) ?_
      refine W.run D_ok 3 100 (by kernel_rfl) ?_
      have hv62 := Option.some.inj hv62
      subst hv62
      exact W.fs [] [0, 5, 9, 60] (by kernel_rfl)
     refine W.is 57 hc63 (by kernel_rfl) ?_
     refine W.run D_ok 3 100 (by kernel_rfl) ?_
     have hv62 := Option.some.inj hv62
     subst hv62
     exact W.fs [] [0, 5, 9, 60] (by kernel_rfl)
     ) ?_
    (revert h14; refine cond_rev (fun hc64 h14 => ?_) (fun hc64 h14 => ?_))
    ·refine CodeOk.ifT hc64 (by kernel_rfl) ?_
     refine ce D_ok mix 3 100 (tl 71 [(0, V.str a0), (5, V.int y11), (9, V.int (IntKind.wrap .i64 ((IntKind.wrap .i64 (y11 + 1)) + 1)))]) [] (by kernel_rfl) (fun st hw => ?_)
     exact hk58 (a0, y11, (IntKind.wrap .i64 ((IntKind.wrap .i64 (y11 + 1)) + 1))) h14 _ (hw.trans (Weak.sel [] [0, 5, 9] (by kernel_rfl) (by kernel_rfl) (by kernel_rfl)))
    refine CodeOk.ifF hc64 (by kernel_rfl) ?_
    refine CodeOk.skip ?_
    exact hk58 (a0, y11, (IntKind.wrap .i64 (y11 + 1))) h14 _ (Weak.sel [] [0, 5, 9] (by kernel_rfl) (by kernel_rfl) (by kernel_rfl))
   refine CodeOk.ifF hc47 (by kernel_rfl) ?_
   refine CodeOk.skip ?_
   exact hk41 y11 h14 _ (Weak.sel [] [5] (by kernel_rfl) (by kernel_rfl) (by kernel_rfl))
 intro hk65
 (revert h; refine bind_rev fun r38 hx67 h => ?_)
 refine CodeOk.cutR (tl 71 [(0, V.str a0), (5, V.int r6), (6, V.int (IntKind.wrap .i64 (r6 - a1))), (27, V.bool (r38 == 46))]) [] mix (by
  refine W.run D_ok 2 100 (by kernel_rfl) ?_
  refine W.call0 (m_impl_byteAt_ok a0 r6 hx67) cok157 rfl (by kernel_rfl) ?_
  refine W.run D_ok 1 100 (by kernel_rfl) ?_
  exact W.fi (by kernel_rfl)
  ) ?_
 (revert h; refine cond_rev (fun hc68 h => ?_) (fun hc68 h => ?_))
 ·refine CodeOk.ifT hc68 (by kernel_rfl) ?_
  (revert h; refine bind_rev fun r40 hx70 h => ?_)
  refine CodeOk.cutR (tl 71 [(0, V.str a0), (5, V.int r6), (6, V.int (IntKind.wrap .i64 (r6 - a1))), (7, V.int r40)]) [] mix (by
   refine W.run D_ok 3 100 (by kernel_rfl) ?_
   refine W.call0 (m_impl_digitsEnd_ok N a0 (IntKind.wrap .i64 (r6 + 1)) hx70) cok156 rfl (by kernel_rfl) ?_
   refine W.run D_ok 1 100 (by kernel_rfl) ?_
   exact W.fi (by kernel_rfl)
   ) ?_
  refine cu D_ok mix 7 100 (tl 71 [(0, V.str a0), (6, V.int (IntKind.wrap .i64 ((IntKind.wrap .i64 (r6 - a1)) + (IntKind.wrap .i64 ((IntKind.wrap .i64 (r40 - r6)) - 1))))), (7, V.int r40)]) [] (by kernel_rfl) ?_
  refine ce D_ok mix 2 100 (tl 71 [(0, V.str a0), (5, V.int r40), (6, V.int (IntKind.wrap .i64 ((IntKind.wrap .i64 (r6 - a1)) + (IntKind.wrap .i64 ((IntKind.wrap .i64 (r40 - r6)) - 1)))))]) [] (by kernel_rfl) (fun st hw => ?_)
  exact hk65 (a0, r40, (IntKind.wrap .i64 ((IntKind.wrap .i64 (r6 - a1)) + (IntKind.wrap .i64 ((IntKind.wrap .i64 (r40 - r6)) - 1))))) h _ (hw.trans (Weak.sel [] [0, 5, 6] (by kernel_rfl) (by kernel_rfl) (by kernel_rfl)))
 refine CodeOk.ifF hc68 (by kernel_rfl) ?_
 refine CodeOk.skip ?_
 exact hk65 (a0, r6, (IntKind.wrap .i64 (r6 - a1))) h _ (Weak.sel [] [0, 5, 6] (by kernel_rfl) (by kernel_rfl) (by kernel_rfl))

theorem m_impl_quotedEnd_ok (N : Nat) (a0 : List UInt8) (a1 : Int) (a2 : Int) {r : Int} (h : m_impl_quotedEnd N a0 a1 a2 = some r) :
    AC Tryz.prog (GS []) 158 [V.str a0, V.int a1, V.int a2] [] (V.int r) [] := by
 rw [m_impl_quotedEnd] at h
 refine AC.enter Tryz.func158 rfl ?_
 refine cu D_ok mix 1 100 (tl 50 [(0, V.str a0), (1, V.int a1), (2, V.int a2)]) [] (by kernel_rfl) ?_
 refine CodeOk.seq' ?_
 (revert h; refine bind_rev fun r4 hx5 h => ?_)
 refine CodeOk.cutR (tl 50 [(0, V.str a0), (1, V.int a1), (2, V.int a2), (12, V.bool (r4 != a2))]) [] mix (by
  refine W.run D_ok 2 100 (by kernel_rfl) ?_
  refine W.call0 (m_impl_byteAt_ok a0 a1 hx5) cok157 rfl (by kernel_rfl) ?_
  refine W.run D_ok 2 100 (by kernel_rfl) ?_
  exact W.fi (by kernel_rfl)
  ) ?_
 (revert h; refine cond_rev (fun hc6 h => ?_) (fun hc6 h => ?_))
 ·refine CodeOk.ifT hc6 (by kernel_rfl) ?_
  refine cu D_ok mix 1 100 (tl 50 [(6, V.int (-1))]) [] (by kernel_rfl) ?_
  refine CodeOk.ret ?_
  have h := Option.some.inj h
  subst h
  exact Ends.gen [] (.inr rfl) (RetV.one rfl (OneR.tmp (t := 6) (r := V.int (-1)) (by kernel_rfl))) (by kernel_rfl) (by kernel_rfl) (by kernel_rfl)
 refine CodeOk.ifF hc6 (by kernel_rfl) ?_
 refine CodeOk.skip ?_
 refine CodeOk.seq' ?_
 refine cu D_ok mix 3 100 (tl 50 [(0, V.str a0), (2, V.int a2), (7, V.int (IntKind.wrap .i64 (a1 + 1)))]) [] (by kernel_rfl) ?_
 refine CodeOk.block' ?_
 refine CodeOk.loopJ (fun (⟨a0, a2, y91⟩ : ((List UInt8) × Int × Int)) => ⟨tl 50 [(0, V.str a0), (2, V.int a2), (7, V.int y91)], []⟩) (fun n i => m_impl_quotedEnd_l1 N n i = some r) (n0 := N) (i0 := (a0, a2, (IntKind.wrap .i64 (a1 + 1)))) (Weak.sel [] [0, 2, 7] (by kernel_rfl) (by kernel_rfl) (by kernel_rfl)) h (fun i h => by simp [m_impl_quotedEnd_l1] at h) ?_
 rintro n1 ⟨a0, a2, y91⟩ h189 ih190
 rw [m_impl_quotedEnd_l1] at h189
 refine CodeOk.seq' ?_
 (revert h189; refine bind_rev fun y118 hv199 h189 => ?_)
 refine CodeOk.cutR (tl 50 [(0, V.str a0), (2, V.int a2), (7, V.int y91), (24, V.bool y118)]) [] mix (by
  refine W.run D_ok 5 160 (by kernel_rfl) ?_
  (revert hv199; refine cond_rev (fun hc200 hv199 => ?_) (fun hc200 hv199 => ?_))
  ·refine W.is 19 hc200 (by kernel_rfl) ?_
   refine W.run D_ok 2 160 (by kernel_rfl) ?_
   (revert hv199; refine bind_rev fun b119 hx201 hv199 => ?_)
   refine W.ixS D_ok hx201 (by kernel_rfl) ?_
   refine W.run D_ok 2 160 (by kernel_rfl) ?_
   have hv199 := Option.some.inj hv199
   subst hv199
   exact W.fs [] [0, 2, 7, 24] (by kernel_rfl)
  refine W.is 19 hc200 (by kernel_rfl) ?_
  refine W.run D_ok 5 160 (by kernel_rfl) ?_
  have hv199 := Option.some.inj hv199
  subst hv199
  exact W.fs [] [0, 2, 7, 24] (by kernel_rfl)
  ) ?_
 (revert h189; refine cond_rev (fun hc202 h189 => ?_) (fun hc202 h189 => ?_))
 ·refine CodeOk.ifT hc202 (by kernel_rfl) ?_
  refine CodeOk.skip ?_
  refine CodeOk.join (fun (⟨a0, a2, y127⟩ : ((List UInt8) × Int × Int)) => ⟨tl 50 [(0, V.str a0), (2, V.int a2), (7, V.int y127)], []⟩) (fun i => m_impl_quotedEnd_k2 N (m_impl_quotedEnd_l1 N n1) i = some r) ?_ ?_
  · rintro ⟨a0, a2, y127⟩ h214
    rw [m_impl_quotedEnd_k2] at h214
    refine ce D_ok mix 3 160 (tl 50 [(0, V.str a0), (2, V.int a2), (7, V.int (IntKind.wrap .i64 (y127 + 1)))]) [] (by kernel_rfl) (fun st hw => ?_)
    exact ih190 (a0, a2, (IntKind.wrap .i64 (y127 + 1))) h214 _ (hw.trans (Weak.sel [] [0, 2, 7] (by kernel_rfl) (by kernel_rfl) (by kernel_rfl)))
  intro hk215
  refine CodeOk.block' ?_
  refine CodeOk.block' ?_
  (revert h189; refine bind_rev fun b129 hx217 h189 => ?_)
  refine CodeOk.cutR (tl 50 [(0, V.str a0), (2, V.int a2), (7, V.int y91), (27, V.bool ((IntKind.wrap .i64 ((b129).toNat : Int)) == a2))]) [] mix (by
   refine W.run D_ok 2 160 (by kernel_rfl) ?_
   refine W.ixS D_ok hx217 (by kernel_rfl) ?_
   refine W.run D_ok 4 160 (by kernel_rfl) ?_
   exact W.fi (by kernel_rfl)
   ) ?_
  (revert h189; refine cond_rev (fun hc218 h189 => ?_) (fun hc218 h189 => ?_))
  ·refine CodeOk.ifT hc218 (by kernel_rfl) ?_
   refine cu D_ok mix 3 160 (tl 50 [(6, V.int (IntKind.wrap .i64 (y91 + 1)))]) [] (by kernel_rfl) ?_
   refine CodeOk.ret ?_
   have h189 := Option.some.inj h189
   subst h189
   exact Ends.gen [] (.inr rfl) (RetV.one rfl (OneR.tmp (t := 6) (r := V.int (IntKind.wrap .i64 (y91 + 1))) (by kernel_rfl))) (by kernel_rfl) (by kernel_rfl) (by kernel_rfl)
  refine CodeOk.ifF hc218 (by kernel_rfl) ?_
  (revert h189; refine bind_rev fun y132 hv222 h189 => ?_)
  refine CodeOk.cutR (tl 50 [(0, V.str a0), (2, V.int a2), (7, V.int y91), (36, V.bool y132)]) [] mix (by
   refine W.run D_ok 2 160 (by kernel_rfl) ?_
   (revert hv222; refine bind_rev fun b133 hx223 hv222 => ?_)
   refine W.ixS D_ok hx223 (by kernel_rfl) ?_
   refine W.run D_ok 2 160 (by kernel_rfl) ?_
   (revert hv222; refine cond_rev (fun hc224 hv222 => ?_) (fun hc224 hv222 => ?_))
   ·refine W.is 41 hc224 (by kernel_rfl) ?_
    refine W.run D_ok 3 160 (by kernel_rfl) ?_
    (revert hv222; refine bind_rev fun r134 hx225 hv222 => ?_)
    refine W.call0 (m_impl_byteAt_ok a0 (IntKind.wrap .i64 (y91 + 1)) hx225) cok157 rfl (by kernel_rfl) ?_
    refine W.run D_ok 3 160 (by kernel_rfl) ?_
    have hv222 := Option.some.inj hv222
    subst hv222
    exact W.fs [] [0, 2, 7, 36] (by kernel_rfl)
   refine W.is 41 hc224 (by kernel_rfl) ?_
   refine W.run D_ok 7 160 (by kernel_rfl) ?_
   have hv222 := Option.some.inj hv222
   subst hv222
   exact W.fs [] [0, 2, 7, 36] (by kernel_rfl)
   ) ?_
  (revert h189; refine cond_rev (fun hc226 h189 => ?_) (fun hc226 h189 => ?_))
  ·refine CodeOk.ifT hc226 (by kernel_rfl) ?_
   refine ce D_ok mix 3 160 (tl 50 [(0, V.str a0), (2, V.int a2), (7, V.int (IntKind.wrap .i64 (y91 + 1)))]) [] (by kernel_rfl) (fun st hw => ?_)
   exact hk215 (a0, a2, (IntKind.wrap .i64 (y91 + 1))) h189 _ (hw.trans (Weak.sel [] [0, 2, 7] (by kernel_rfl) (by kernel_rfl) (by kernel_rfl)))
  refine CodeOk.ifF hc226 (by kernel_rfl) ?_
  refine CodeOk.skip ?_
  exact hk215 (a0, a2, y91) h189 _ (Weak.sel [] [0, 2, 7] (by kernel_rfl) (by kernel_rfl) (by kernel_rfl))
 refine CodeOk.ifF hc202 (by kernel_rfl) ?_
 refine CodeOk.exit ?_
 refine cu D_ok mix 1 160 (tl 50 [(6, V.int (-1))]) [] (by kernel_rfl) ?_
 refine CodeOk.ret ?_
 have h189 := Option.some.inj h189
 subst h189
 exact Ends.gen [] (.inr rfl) (RetV.one rfl (OneR.tmp (t := 6) (r := V.int (-1)) (by kernel_rfl))) (by kernel_rfl) (by kernel_rfl) (by kernel_rfl)

theorem m_impl_StrEnd_ok (N : Nat) (a0 : List UInt8) (a1 : Int) {r : Int} (h : m_impl_StrEnd N a0 a1 = some r) :
    AC Tryz.prog (GS []) 142 [V.str a0, V.int a1] [] (V.int r) [] := by
 rw [m_impl_StrEnd] at h
 refine AC.enter Tryz.func142 rfl ?_
 refine cu D_ok mix 1 100 (tl 8 [(0, V.str a0), (1, V.int a1)]) [] (by kernel_rfl) ?_
 (revert h; refine bind_rev fun r2 hx2 h => ?_)
 refine CodeOk.cutR (tl 8 [(4, V.int r2)]) [] mix (by
  refine W.run D_ok 2 100 (by kernel_rfl) ?_
  refine W.call0 (m_impl_quotedEnd_ok N a0 a1 34 hx2) cok158 rfl (by kernel_rfl) ?_
  refine W.run D_ok 1 100 (by kernel_rfl) ?_
  exact W.fi (by kernel_rfl)
  ) ?_
 refine CodeOk.ret ?_
 have h := Option.some.inj h
 subst h
 exact Ends.gen [] (.inr rfl) (RetV.one rfl (OneR.tmp (t := 4) (r := V.int r2) (by kernel_rfl))) (by kernel_rfl) (by kernel_rfl) (by kernel_rfl)

theorem m_impl_EreEnd_ok (N : Nat) (a0 : List UInt8) (a1 : Int) {r : Int} (h : m_impl_EreEnd N a0 a1 = some r) :
    AC Tryz.prog (GS []) 143 [V.str a0, V.int a1] [] (V.int r) [] := by
 rw [m_impl_EreEnd] at h
 refine AC.enter Tryz.func143 rfl ?_
 refine cu D_ok mix 1 100 (tl 14 [(0, V.str a0), (1, V.int a1)]) [] (by kernel_rfl) ?_
 (revert h; refine bind_rev fun r2 hx2 h => ?_)
 refine CodeOk.cutR (tl 14 [(1, V.int a1), (5, V.int r2)]) [] mix (by
  refine W.run D_ok 2 100 (by kernel_rfl) ?_
  refine W.call0 (m_impl_quotedEnd_ok N a0 a1 47 hx2) cok158 rfl (by kernel_rfl) ?_
  refine W.run D_ok 1 100 (by kernel_rfl) ?_
  exact W.fi (by kernel_rfl)
  ) ?_
 refine CodeOk.seq' ?_
 refine cu D_ok mix 4 100 (tl 14 [(5, V.int r2), (12, V.bool (r2 == (IntKind.wrap .i64 (a1 + 2))))]) [] (by kernel_rfl) ?_
 (revert h; refine cond_rev (fun hc4 h => ?_) (fun hc4 h => ?_))
 ·refine CodeOk.ifT hc4 (by kernel_rfl) ?_
  refine cu D_ok mix 1 100 (tl 14 [(4, V.int (-1))]) [] (by kernel_rfl) ?_
  refine CodeOk.ret ?_
  have h := Option.some.inj h
  subst h
  exact Ends.gen [] (.inr rfl) (RetV.one rfl (OneR.tmp (t := 4) (r := V.int (-1)) (by kernel_rfl))) (by kernel_rfl) (by kernel_rfl) (by kernel_rfl)
 refine CodeOk.ifF hc4 (by kernel_rfl) ?_
 refine CodeOk.skip ?_
 refine cu D_ok mix 2 100 (tl 14 [(4, V.int r2)]) [] (by kernel_rfl) ?_
 refine CodeOk.ret ?_
 have h := Option.some.inj h
 subst h
 exact Ends.gen [] (.inr rfl) (RetV.one rfl (OneR.tmp (t := 4) (r := V.int r2) (by kernel_rfl))) (by kernel_rfl) (by kernel_rfl) (by kernel_rfl)

theorem m_impl_isKeywordKind_ok (a0 : Int) {r : Bool} (h : m_impl_isKeywordKind a0 = some r) :
    AC Tryz.prog (GS []) 159 [V.int a0] [] (V.bool r) [] := by
 rw [m_impl_isKeywordKind] at h
 refine AC.enter Tryz.func159 rfl ?_
 refine cu D_ok mix 1 100 (tl 5 [(0, V.int a0)]) [] (by kernel_rfl) ?_
 (revert h; refine bind_rev fun r2 hx2 h => ?_)
 refine CodeOk.cutR (tl 5 [(2, V.bool r2)]) [] mix (by
  refine W.run D_ok 1 100 (by kernel_rfl) ?_
  refine W.call0 (m_impl_within_ok a0 10 26 hx2) cok55 rfl (by kernel_rfl) ?_
  refine W.run D_ok 1 100 (by kernel_rfl) ?_
  exact W.fi (by kernel_rfl)
  ) ?_
 refine CodeOk.ret ?_
 have h := Option.some.inj h
 subst h
 exact Ends.gen [] (.inr rfl) (RetV.one rfl (OneR.tmp (t := 2) (r := V.bool r2) (by kernel_rfl))) (by kernel_rfl) (by kernel_rfl) (by kernel_rfl)

theorem m_impl_isSignKind_ok (a0 : Int) {r : Bool} (h : m_impl_isSignKind a0 = some r) :
    AC Tryz.prog (GS []) 160 [V.int a0] [] (V.bool r) [] := by
 rw [m_impl_isSignKind] at h
 refine AC.enter Tryz.func160 rfl ?_
 refine cu D_ok mix 1 100 (tl 5 [(0, V.int a0)]) [] (by kernel_rfl) ?_
 (revert h; refine bind_rev fun r2 hx2 h => ?_)
 refine CodeOk.cutR (tl 5 [(2, V.bool r2)]) [] mix (by
  refine W.run D_ok 1 100 (by kernel_rfl) ?_
  refine W.call0 (m_impl_within_ok a0 30 68 hx2) cok55 rfl (by kernel_rfl) ?_
  refine W.run D_ok 1 100 (by kernel_rfl) ?_
  exact W.fi (by kernel_rfl)
  ) ?_
 refine CodeOk.ret ?_
 have h := Option.some.inj h
 subst h
 exact Ends.gen [] (.inr rfl) (RetV.one rfl (OneR.tmp (t := 2) (r := V.bool r2) (by kernel_rfl))) (by kernel_rfl) (by kernel_rfl) (by kernel_rfl)

theorem m_impl_SpellOf_ok (a0 : Int) {r : (List UInt8)} (h : m_impl_SpellOf a0 = some r) :
    AC Tryz.prog (GS [1, 2]) 144 [V.int a0] [] (V.str r) [] := by
 rw [m_impl_SpellOf] at h
 refine AC.enter Tryz.func144 rfl ?_
 refine cu D_ok mix 1 100 (tl 20 [(0, V.int a0)]) [] (by kernel_rfl) ?_
 refine CodeOk.seq' ?_
 refine CodeOk.block' ?_
 refine cu D_ok mix 3 100 (tl 20 [(0, V.int a0), (3, V.bool (a0 == 1))]) [] (by kernel_rfl) ?_
 (revert h; refine cond_rev (fun hc12 h => ?_) (fun hc12 h => ?_))
 ·refine CodeOk.ifT hc12 (by kernel_rfl) ?_
  refine cu D_ok mix 1 100 (tl 20 [(2, V.str [10])]) [] (by kernel_rfl) ?_
  refine CodeOk.ret ?_
  have h := Option.some.inj h
  subst h
  exact Ends.gen [] (.inr rfl) (RetV.one rfl (OneR.tmp (t := 2) (r := V.str [10]) (by kernel_rfl))) (by kernel_rfl) (by kernel_rfl) (by kernel_rfl)
 refine CodeOk.ifF hc12 (by kernel_rfl) ?_
 (revert h; refine bind_rev fun r10 hx14 h => ?_)
 refine CodeOk.cutR (tl 20 [(0, V.int a0), (6, V.bool r10)]) [] mix (by
  refine W.run D_ok 1 100 (by kernel_rfl) ?_
  refine W.call0 (AC.gs (m_impl_isKeywordKind_ok a0 hx14) (by decide)) cok159 rfl (by kernel_rfl) ?_
  refine W.run D_ok 1 100 (by kernel_rfl) ?_
  exact W.fi (by kernel_rfl)
  ) ?_
 (revert h; refine cond_rev (fun hc15 h => ?_) (fun hc15 h => ?_))
 ·refine CodeOk.ifT hc15 (by kernel_rfl) ?_
  (revert h; refine bind_rev fun e12 hx17 h => ?_)
  refine CodeOk.cutR (tl 20 [(2, V.str e12)]) [] mix (by
   refine W.run D_ok 2 100 (by kernel_rfl) ?_
   refine W.ixG D_ok V.str (l := tab_keywords) hx17 (by kernel_rfl) ?_
   refine W.run D_ok 2 100 (by kernel_rfl) ?_
   exact W.fi (by kernel_rfl)
   ) ?_
  refine CodeOk.ret ?_
  have h := Option.some.inj h
  subst h
  exact Ends.gen [] (.inr rfl) (RetV.one rfl (OneR.tmp (t := 2) (r := V.str e12) (by kernel_rfl))) (by kernel_rfl) (by kernel_rfl) (by kernel_rfl)
 refine CodeOk.ifF hc15 (by kernel_rfl) ?_
 (revert h; refine bind_rev fun r14 hx19 h => ?_)
 refine CodeOk.cutR (tl 20 [(0, V.int a0), (13, V.bool r14)]) [] mix (by
  refine W.run D_ok 1 100 (by kernel_rfl) ?_
  refine W.call0 (AC.gs (m_impl_isSignKind_ok a0 hx19) (by decide)) cok160 rfl (by kernel_rfl) ?_
  refine W.run D_ok 1 100 (by kernel_rfl) ?_
  exact W.fi (by kernel_rfl)
  ) ?_
 (revert h; refine cond_rev (fun hc20 h => ?_) (fun hc20 h => ?_))
 ·refine CodeOk.ifT hc20 (by kernel_rfl) ?_
  (revert h; refine bind_rev fun e16 hx22 h => ?_)
  refine CodeOk.cutR (tl 20 [(2, V.str e16)]) [] mix (by
   refine W.run D_ok 2 100 (by kernel_rfl) ?_
   refine W.ixG D_ok V.str (l := tab_signs) hx22 (by kernel_rfl) ?_
   refine W.run D_ok 2 100 (by kernel_rfl) ?_
   exact W.fi (by kernel_rfl)
   ) ?_
  refine CodeOk.ret ?_
  have h := Option.some.inj h
  subst h
  exact Ends.gen [] (.inr rfl) (RetV.one rfl (OneR.tmp (t := 2) (r := V.str e16) (by kernel_rfl))) (by kernel_rfl) (by kernel_rfl) (by kernel_rfl)
 refine CodeOk.ifF hc20 (by kernel_rfl) ?_
 refine CodeOk.skip ?_
 refine cu D_ok mix 1 100 (tl 20 [(2, V.str [])]) [] (by kernel_rfl) ?_
 refine CodeOk.ret ?_
 have h := Option.some.inj h
 subst h
 exact Ends.gen [] (.inr rfl) (RetV.one rfl (OneR.tmp (t := 2) (r := V.str []) (by kernel_rfl))) (by kernel_rfl) (by kernel_rfl) (by kernel_rfl)

theorem m_impl_TokenOk_ok (N : Nat) (a0 : SToken) {r : Bool} (h : m_impl_TokenOk N a0 = some r) :
    AC Tryz.prog (GS [0, 1, 2]) 121 [.agg [V.int a0.Kind, V.str a0.Text, V.int a0.At]] [] (V.bool r) [] := by
 rw [m_impl_TokenOk] at h
 refine AC.enter Tryz.func121 rfl ?_
 refine cu D_ok mix 2 100 (tl 64 [(1, .loc 100 0)]) [(100, .cells 120 [V.int a0.Kind, V.str a0.Text, V.int a0.At])] (by kernel_rfl) ?_
 refine CodeOk.seq' ?_
 refine cu D_ok mix 3 101 (tl 64 [(1, .loc 100 0), (5, V.bool (a0.Text == []))]) [(100, .cells 120 [V.int a0.Kind, V.str a0.Text, V.int a0.At])] (by kernel_rfl) ?_
 (revert h; refine cond_rev (fun hc2 h => ?_) (fun hc2 h => ?_))
 ·refine CodeOk.ifT hc2 (by kernel_rfl) ?_
  refine cu D_ok mix 1 101 (tl 64 [(2, V.bool false)]) [] (by kernel_rfl) ?_
  refine CodeOk.ret ?_
  have h := Option.some.inj h
  subst h
  exact Ends.gen [] (.inr rfl) (RetV.one rfl (OneR.tmp (t := 2) (r := V.bool false) (by kernel_rfl))) (by kernel_rfl) (by kernel_rfl) (by kernel_rfl)
 refine CodeOk.ifF hc2 (by kernel_rfl) ?_
 refine CodeOk.skip ?_
 refine CodeOk.seq' ?_
 refine cu D_ok mix 2 101 (tl 64 [(1, .loc 100 0), (7, V.int a0.Kind)]) [(100, .cells 120 [V.int a0.Kind, V.str a0.Text, V.int a0.At])] (by kernel_rfl) ?_
 refine CodeOk.block' ?_
 refine cu D_ok mix 2 101 (tl 64 [(1, .loc 100 0), (7, V.int a0.Kind), (8, V.bool (a0.Kind == 2))]) [(100, .cells 120 [V.int a0.Kind, V.str a0.Text, V.int a0.At])] (by kernel_rfl) ?_
 (revert h; refine cond_rev (fun hc30 h => ?_) (fun hc30 h => ?_))
 ·refine CodeOk.ifT hc30 (by kernel_rfl) ?_
  (revert h; refine bind_rev fun y19 hv34 h => ?_)
  refine CodeOk.cutR (tl 64 [(2, V.bool y19)]) [] mix (by
   refine W.run D_ok 2 101 (by kernel_rfl) ?_
   (revert hv34; refine bind_rev fun b20 hx35 hv34 => ?_)
   refine W.ixS D_ok hx35 (by kernel_rfl) ?_
   refine W.run D_ok 2 101 (by kernel_rfl) ?_
   (revert hv34; refine cond_rev (fun hc36 hv34 => ?_) (fun hc36 hv34 => ?_))
   ·refine W.is 14 hc36 (by kernel_rfl) ?_
    refine W.run D_ok 2 101 (by kernel_rfl) ?_
    (revert hv34; refine bind_rev fun r21 hx37 hv34 => ?_)
    refine W.call0 (AC.gs (m_strings_Contains_ok a0.Text hx37) (by decide)) cok140 rfl (by kernel_rfl) ?_
    refine W.run D_ok 3 101 (by kernel_rfl) ?_
    have hv34 := Option.some.inj hv34
    subst hv34
    exact W.fs [] [2] (by kernel_rfl)
   refine W.is 14 hc36 (by kernel_rfl) ?_
   refine W.run D_ok 6 101 (by kernel_rfl) ?_
   have hv34 := Option.some.inj hv34
   subst hv34
   exact W.fs [] [2] (by kernel_rfl)
   ) ?_
  refine CodeOk.ret ?_
  have h := Option.some.inj h
  subst h
  exact Ends.gen [] (.inr rfl) (RetV.one rfl (OneR.tmp (t := 2) (r := V.bool y19) (by kernel_rfl))) (by kernel_rfl) (by kernel_rfl) (by kernel_rfl)
 refine CodeOk.ifF hc30 (by kernel_rfl) ?_
 refine cu D_ok mix 2 101 (tl 64 [(1, .loc 100 0), (7, V.int a0.Kind), (20, V.bool (a0.Kind == 3))]) [(100, .cells 120 [V.int a0.Kind, V.str a0.Text, V.int a0.At])] (by kernel_rfl) ?_
 (revert h; refine cond_rev (fun hc38 h => ?_) (fun hc38 h => ?_))
 ·refine CodeOk.ifT hc38 (by kernel_rfl) ?_
  (revert h; refine bind_rev fun r23 hx40 h => ?_)
  refine CodeOk.cutR (tl 64 [(2, V.bool (r23 == (a0.Text.length : Int)))]) [] mix (by
   refine W.run D_ok 2 101 (by kernel_rfl) ?_
   refine W.call0 (AC.gs (m_impl_NumEnd_ok N a0.Text 0 hx40) (by decide)) cok141 rfl (by kernel_rfl) ?_
   refine W.run D_ok 5 101 (by kernel_rfl) ?_
   exact W.fi (by kernel_rfl)
   ) ?_
  refine CodeOk.ret ?_
  have h := Option.some.inj h
  subst h
  exact Ends.gen [] (.inr rfl) (RetV.one rfl (OneR.tmp (t := 2) (r := V.bool (r23 == (a0.Text.length : Int))) (by kernel_rfl))) (by kernel_rfl) (by kernel_rfl) (by kernel_rfl)
 refine CodeOk.ifF hc38 (by kernel_rfl) ?_
 refine cu D_ok mix 2 101 (tl 64 [(1, .loc 100 0), (7, V.int a0.Kind), (29, V.bool (a0.Kind == 4))]) [(100, .cells 120 [V.int a0.Kind, V.str a0.Text, V.int a0.At])] (by kernel_rfl) ?_
 (revert h; refine cond_rev (fun hc41 h => ?_) (fun hc41 h => ?_))
 ·refine CodeOk.ifT hc41 (by kernel_rfl) ?_
  (revert h; refine bind_rev fun r25 hx43 h => ?_)
  refine CodeOk.cutR (tl 64 [(2, V.bool (r25 == (a0.Text.length : Int)))]) [] mix (by
   refine W.run D_ok 2 101 (by kernel_rfl) ?_
   refine W.call0 (AC.gs (m_impl_StrEnd_ok N a0.Text 0 hx43) (by decide)) cok142 rfl (by kernel_rfl) ?_
   refine W.run D_ok 5 101 (by kernel_rfl) ?_
   exact W.fi (by kernel_rfl)
   ) ?_
  refine CodeOk.ret ?_
  have h := Option.some.inj h
  subst h
  exact Ends.gen [] (.inr rfl) (RetV.one rfl (OneR.tmp (t := 2) (r := V.bool (r25 == (a0.Text.length : Int))) (by kernel_rfl))) (by kernel_rfl) (by kernel_rfl) (by kernel_rfl)
 refine CodeOk.ifF hc41 (by kernel_rfl) ?_
 refine cu D_ok mix 2 101 (tl 64 [(1, .loc 100 0), (7, V.int a0.Kind), (38, V.bool (a0.Kind == 5))]) [(100, .cells 120 [V.int a0.Kind, V.str a0.Text, V.int a0.At])] (by kernel_rfl) ?_
 (revert h; refine cond_rev (fun hc44 h => ?_) (fun hc44 h => ?_))
 ·refine CodeOk.ifT hc44 (by kernel_rfl) ?_
  (revert h; refine bind_rev fun r27 hx46 h => ?_)
  refine CodeOk.cutR (tl 64 [(2, V.bool (r27 == (a0.Text.length : Int)))]) [] mix (by
   refine W.run D_ok 2 101 (by kernel_rfl) ?_
   refine W.call0 (AC.gs (m_impl_EreEnd_ok N a0.Text 0 hx46) (by decide)) cok143 rfl (by kernel_rfl) ?_
   refine W.run D_ok 5 101 (by kernel_rfl) ?_
   exact W.fi (by kernel_rfl)
   ) ?_
  refine CodeOk.ret ?_
  have h := Option.some.inj h
  subst h
  exact Ends.gen [] (.inr rfl) (RetV.one rfl (OneR.tmp (t := 2) (r := V.bool (r27 == (a0.Text.length : Int))) (by kernel_rfl))) (by kernel_rfl) (by kernel_rfl) (by kernel_rfl)
 refine CodeOk.ifF hc44 (by kernel_rfl) ?_
 refine CodeOk.join (fun (⟨a0, y28⟩ : (SToken × Bool)) => ⟨tl 64 [(1, .loc 100 0), (7, V.int a0.Kind), (47, V.bool y28)], [(100, .cells 120 [V.int a0.Kind, V.str a0.Text, V.int a0.At])]⟩) (fun i => m_impl_TokenOk_k1 N i = some r) ?_ ?_
 · rintro ⟨a0, y28⟩ h48
   rw [m_impl_TokenOk_k1] at h48
   (revert h48; refine cond_rev (fun hc49 h48 => ?_) (fun hc49 h48 => ?_))
   ·refine CodeOk.ifT hc49 (by kernel_rfl) ?_
    (revert h48; refine bind_rev fun r30 hx51 h48 => ?_)
    refine CodeOk.cutR (tl 64 [(2, V.bool r30)]) [] mix (by
     refine W.run D_ok 2 101 (by kernel_rfl) ?_
     refine W.call0 (AC.gs (m_impl_NameOk_ok N a0.Text hx51) (by decide)) cok120 rfl (by kernel_rfl) ?_
     refine W.run D_ok 1 101 (by kernel_rfl) ?_
     exact W.fi (by kernel_rfl)
     ) ?_
    refine CodeOk.ret ?_
    have h48 := Option.some.inj h48
    subst h48
    exact Ends.gen [] (.inr rfl) (RetV.one rfl (OneR.tmp (t := 2) (r := V.bool r30) (by kernel_rfl))) (by kernel_rfl) (by kernel_rfl) (by kernel_rfl)
   refine CodeOk.ifF hc49 (by kernel_rfl) ?_
   refine cu D_ok mix 2 101 (tl 64 [(1, .loc 100 0), (53, V.bool (a0.Kind == 8))]) [(100, .cells 120 [V.int a0.Kind, V.str a0.Text, V.int a0.At])] (by kernel_rfl) ?_
   (revert h48; refine cond_rev (fun hc52 h48 => ?_) (fun hc52 h48 => ?_))
   ·refine CodeOk.ifT hc52 (by kernel_rfl) ?_
    (revert h48; refine bind_rev fun r32 hx54 h48 => ?_)
    refine CodeOk.cutR (tl 64 [(2, V.bool r32)]) [] mix (by
     refine W.run D_ok 2 101 (by kernel_rfl) ?_
     refine W.call0 (AC.gs (m_impl_IsBuiltin_ok N a0.Text hx54) (by decide)) cok122 rfl (by kernel_rfl) ?_
     refine W.run D_ok 1 101 (by kernel_rfl) ?_
     exact W.fi (by kernel_rfl)
     ) ?_
    refine CodeOk.ret ?_
    have h48 := Option.some.inj h48
    subst h48
    exact Ends.gen [] (.inr rfl) (RetV.one rfl (OneR.tmp (t := 2) (r := V.bool r32) (by kernel_rfl))) (by kernel_rfl) (by kernel_rfl) (by kernel_rfl)
   refine CodeOk.ifF hc52 (by kernel_rfl) ?_
   refine CodeOk.skip ?_
   (revert h48; refine bind_rev fun r34 hx56 h48 => ?_)
   refine CodeOk.cutR (tl 64 [(2, V.bool (a0.Text == r34))]) [] mix (by
    refine W.run D_ok 4 101 (by kernel_rfl) ?_
    refine W.call0 (AC.gs (m_impl_SpellOf_ok a0.Kind hx56) (by decide)) cok144 rfl (by kernel_rfl) ?_
    refine W.run D_ok 2 101 (by kernel_rfl) ?_
    exact W.fi (by kernel_rfl)
    ) ?_
   refine CodeOk.ret ?_
   have h48 := Option.some.inj h48
   subst h48
   exact Ends.gen [] (.inr rfl) (RetV.one rfl (OneR.tmp (t := 2) (r := V.bool (a0.Text == r34)) (by kernel_rfl))) (by kernel_rfl) (by kernel_rfl) (by kernel_rfl)
 intro hk57
 refine cu D_ok mix 2 101 (tl 64 [(1, .loc 100 0), (7, V.int a0.Kind), (47, V.bool (a0.Kind == 6))]) [(100, .cells 120 [V.int a0.Kind, V.str a0.Text, V.int a0.At])] (by kernel_rfl) ?_
 (revert h; refine cond_rev (fun hc58 h => ?_) (fun hc58 h => ?_))
 ·refine CodeOk.ifT hc58 (by kernel_rfl) ?_
  refine CodeOk.skip ?_
  exact hk57 (a0, (a0.Kind == 6)) h _ (Weak.sel [(100, 100)] [1, 7, 47] (by kernel_rfl) (by kernel_rfl) (by kernel_rfl))
 refine CodeOk.ifF hc58 (by kernel_rfl) ?_
 refine ce D_ok mix 2 101 (tl 64 [(1, .loc 100 0), (7, V.int a0.Kind), (47, V.bool (a0.Kind == 7))]) [(100, .cells 120 [V.int a0.Kind, V.str a0.Text, V.int a0.At])] (by kernel_rfl) (fun st hw => ?_)
 exact hk57 (a0, (a0.Kind == 7)) h _ (hw.trans (Weak.sel [(100, 100)] [1, 7, 47] (by kernel_rfl) (by kernel_rfl) (by kernel_rfl)))

theorem m_impl_isStep_ok (a0 : Int) {r : Bool} (h : m_impl_isStep a0 = some r) :
    AC Tryz.prog (GS []) 123 [V.int a0] [] (V.bool r) [] := by
 rw [m_impl_isStep] at h
 refine AC.enter Tryz.func123 rfl ?_
 refine cu D_ok mix 1 100 (tl 9 [(0, V.int a0)]) [] (by kernel_rfl) ?_
 (revert h; refine bind_rev fun y1 hv2 h => ?_)
 refine CodeOk.cutR (tl 9 [(2, V.bool y1)]) [] mix (by
  refine W.run D_ok 3 100 (by kernel_rfl) ?_
  (revert hv2; refine cond_rev (fun hc3 hv2 => ?_) (fun hc3 hv2 => ?_))
  ·refine W.is 5 hc3 (by kernel_rfl) ?_
   refine W.run D_ok 4 100 (by kernel_rfl) ?_
   have hv2 := Option.some.inj hv2
   subst hv2
   exact W.fs [] [2] (by kernel_rfl)
  refine W.is 5 hc3 (by kernel_rfl) ?_
  refine W.run D_ok 4 100 (by kernel_rfl) ?_
  have hv2 := Option.some.inj hv2
  subst hv2
  exact W.fs [] [2] (by kernel_rfl)
  ) ?_
 refine CodeOk.ret ?_
 have h := Option.some.inj h
 subst h
 exact Ends.gen [] (.inr rfl) (RetV.one rfl (OneR.tmp (t := 2) (r := V.bool y1) (by kernel_rfl))) (by kernel_rfl) (by kernel_rfl) (by kernel_rfl)

theorem m_impl_OpLevel_ok (a0 : Int) {r : Int} (h : m_impl_OpLevel a0 = some r) :
    AC Tryz.prog (GS []) 124 [V.int a0] [] (V.int r) [] := by
 rw [m_impl_OpLevel] at h
 refine AC.enter Tryz.func124 rfl ?_
 refine cu D_ok mix 1 100 (tl 29 [(0, V.int a0)]) [] (by kernel_rfl) ?_
 refine CodeOk.seq' ?_
 refine cu D_ok mix 1 100 (tl 29 [(3, V.int a0)]) [] (by kernel_rfl) ?_
 refine CodeOk.block' ?_
 refine cu D_ok mix 2 100 (tl 29 [(3, V.int a0), (4, V.bool (a0 == 44))]) [] (by kernel_rfl) ?_
 (revert h; refine cond_rev (fun hc35 h => ?_) (fun hc35 h => ?_))
 ·refine CodeOk.ifT hc35 (by kernel_rfl) ?_
  refine cu D_ok mix 1 100 (tl 29 [(2, V.int 3)]) [] (by kernel_rfl) ?_
  refine CodeOk.ret ?_
  have h := Option.some.inj h
  subst h
  exact Ends.gen [] (.inr rfl) (RetV.one rfl (OneR.tmp (t := 2) (r := V.int 3) (by kernel_rfl))) (by kernel_rfl) (by kernel_rfl) (by kernel_rfl)
 refine CodeOk.ifF hc35 (by kernel_rfl) ?_
 refine cu D_ok mix 2 100 (tl 29 [(3, V.int a0), (6, V.bool (a0 == 45))]) [] (by kernel_rfl) ?_
 (revert h; refine cond_rev (fun hc36 h => ?_) (fun hc36 h => ?_))
 ·refine CodeOk.ifT hc36 (by kernel_rfl) ?_
  refine cu D_ok mix 1 100 (tl 29 [(2, V.int 4)]) [] (by kernel_rfl) ?_
  refine CodeOk.ret ?_
  have h := Option.some.inj h
  subst h
  exact Ends.gen [] (.inr rfl) (RetV.one rfl (OneR.tmp (t := 2) (r := V.int 4) (by kernel_rfl))) (by kernel_rfl) (by kernel_rfl) (by kernel_rfl)
 refine CodeOk.ifF hc36 (by kernel_rfl) ?_
 refine CodeOk.join (fun (⟨a0, y5⟩ : (Int × Bool)) => ⟨tl 29 [(3, V.int a0), (8, V.bool y5)], []⟩) (fun i => m_impl_OpLevel_k1 i = some r) ?_ ?_
 · rintro ⟨a0, y5⟩ h38
   rw [m_impl_OpLevel_k1] at h38
   (revert h38; refine cond_rev (fun hc39 h38 => ?_) (fun hc39 h38 => ?_))
   ·refine CodeOk.ifT hc39 (by kernel_rfl) ?_
    refine cu D_ok mix 1 100 (tl 29 [(2, V.int 6)]) [] (by kernel_rfl) ?_
    refine CodeOk.ret ?_
    have h38 := Option.some.inj h38
    subst h38
    exact Ends.gen [] (.inr rfl) (RetV.one rfl (OneR.tmp (t := 2) (r := V.int 6) (by kernel_rfl))) (by kernel_rfl) (by kernel_rfl) (by kernel_rfl)
   refine CodeOk.ifF hc39 (by kernel_rfl) ?_
   refine CodeOk.join (fun (⟨a0, y6⟩ : (Int × Bool)) => ⟨tl 29 [(3, V.int a0), (11, V.bool y6)], []⟩) (fun i => m_impl_OpLevel_k2 i = some r) ?_ ?_
   · rintro ⟨a0, y6⟩ h45
     rw [m_impl_OpLevel_k2] at h45
     (revert h45; refine cond_rev (fun hc46 h45 => ?_) (fun hc46 h45 => ?_))
     ·refine CodeOk.ifT hc46 (by kernel_rfl) ?_
      refine cu D_ok mix 1 100 (tl 29 [(2, V.int 7)]) [] (by kernel_rfl) ?_
      refine CodeOk.ret ?_
      have h45 := Option.some.inj h45
      subst h45
      exact Ends.gen [] (.inr rfl) (RetV.one rfl (OneR.tmp (t := 2) (r := V.int 7) (by kernel_rfl))) (by kernel_rfl) (by kernel_rfl) (by kernel_rfl)
     refine CodeOk.ifF hc46 (by kernel_rfl) ?_
     refine cu D_ok mix 2 100 (tl 29 [(3, V.int a0), (18, V.bool (a0 == 99))]) [] (by kernel_rfl) ?_
     (revert h45; refine cond_rev (fun hc47 h45 => ?_) (fun hc47 h45 => ?_))
     ·refine CodeOk.ifT hc47 (by kernel_rfl) ?_
      refine cu D_ok mix 1 100 (tl 29 [(2, V.int 8)]) [] (by kernel_rfl) ?_
      refine CodeOk.ret ?_
      have h45 := Option.some.inj h45
      subst h45
      exact Ends.gen [] (.inr rfl) (RetV.one rfl (OneR.tmp (t := 2) (r := V.int 8) (by kernel_rfl))) (by kernel_rfl) (by kernel_rfl) (by kernel_rfl)
     refine CodeOk.ifF hc47 (by kernel_rfl) ?_
     refine CodeOk.join (fun (⟨a0, y7⟩ : (Int × Bool)) => ⟨tl 29 [(3, V.int a0), (20, V.bool y7)], []⟩) (fun i => m_impl_OpLevel_k3 i = some r) ?_ ?_
     · rintro ⟨a0, y7⟩ h49
       rw [m_impl_OpLevel_k3] at h49
       (revert h49; refine cond_rev (fun hc50 h49 => ?_) (fun hc50 h49 => ?_))
       ·refine CodeOk.ifT hc50 (by kernel_rfl) ?_
        refine cu D_ok mix 1 100 (tl 29 [(2, V.int 9)]) [] (by kernel_rfl) ?_
        refine CodeOk.ret ?_
        have h49 := Option.some.inj h49
        subst h49
        exact Ends.gen [] (.inr rfl) (RetV.one rfl (OneR.tmp (t := 2) (r := V.int 9) (by kernel_rfl))) (by kernel_rfl) (by kernel_rfl) (by kernel_rfl)
       refine CodeOk.ifF hc50 (by kernel_rfl) ?_
       refine CodeOk.join (fun (⟨a0, y8⟩ : (Int × Bool)) => ⟨tl 29 [(3, V.int a0), (23, V.bool y8)], []⟩) (fun i => m_impl_OpLevel_k4 i = some r) ?_ ?_
       · rintro ⟨a0, y8⟩ h53
         rw [m_impl_OpLevel_k4] at h53
         (revert h53; refine cond_rev (fun hc54 h53 => ?_) (fun hc54 h53 => ?_))
         ·refine CodeOk.ifT hc54 (by kernel_rfl) ?_
          refine cu D_ok mix 1 100 (tl 29 [(2, V.int 10)]) [] (by kernel_rfl) ?_
          refine CodeOk.ret ?_
          have h53 := Option.some.inj h53
          subst h53
          exact Ends.gen [] (.inr rfl) (RetV.one rfl (OneR.tmp (t := 2) (r := V.int 10) (by kernel_rfl))) (by kernel_rfl) (by kernel_rfl) (by kernel_rfl)
         refine CodeOk.ifF hc54 (by kernel_rfl) ?_
         refine cu D_ok mix 2 100 (tl 29 [(27, V.bool (a0 == 60))]) [] (by kernel_rfl) ?_
         (revert h53; refine cond_rev (fun hc55 h53 => ?_) (fun hc55 h53 => ?_))
         ·refine CodeOk.ifT hc55 (by kernel_rfl) ?_
          refine cu D_ok mix 1 100 (tl 29 [(2, V.int 12)]) [] (by kernel_rfl) ?_
          refine CodeOk.ret ?_
          have h53 := Option.some.inj h53
          subst h53
          exact Ends.gen [] (.inr rfl) (RetV.one rfl (OneR.tmp (t := 2) (r := V.int 12) (by kernel_rfl))) (by kernel_rfl) (by kernel_rfl) (by kernel_rfl)
         refine CodeOk.ifF hc55 (by kernel_rfl) ?_
         refine CodeOk.skip ?_
         refine cu D_ok mix 1 100 (tl 29 [(2, V.int 0)]) [] (by kernel_rfl) ?_
         refine CodeOk.ret ?_
         have h53 := Option.some.inj h53
         subst h53
         exact Ends.gen [] (.inr rfl) (RetV.one rfl (OneR.tmp (t := 2) (r := V.int 0) (by kernel_rfl))) (by kernel_rfl) (by kernel_rfl) (by kernel_rfl)
       intro hk56
       refine cu D_ok mix 2 100 (tl 29 [(3, V.int a0), (23, V.bool (a0 == 57))]) [] (by kernel_rfl) ?_
       (revert h49; refine cond_rev (fun hc57 h49 => ?_) (fun hc57 h49 => ?_))
       ·refine CodeOk.ifT hc57 (by kernel_rfl) ?_
        refine CodeOk.skip ?_
        exact hk56 (a0, (a0 == 57)) h49 _ (Weak.sel [] [3, 23] (by kernel_rfl) (by kernel_rfl) (by kernel_rfl))
       refine CodeOk.ifF hc57 (by kernel_rfl) ?_
       refine cu D_ok mix 2 100 (tl 29 [(3, V.int a0), (23, V.bool (a0 == 58))]) [] (by kernel_rfl) ?_
       (revert h49; refine cond_rev (fun hc58 h49 => ?_) (fun hc58 h49 => ?_))
       ·refine CodeOk.ifT hc58 (by kernel_rfl) ?_
        refine CodeOk.skip ?_
        exact hk56 (a0, (a0 == 58)) h49 _ (Weak.sel [] [3, 23] (by kernel_rfl) (by kernel_rfl) (by kernel_rfl))
       refine CodeOk.ifF hc58 (by kernel_rfl) ?_
       refine ce D_ok mix 2 100 (tl 29 [(3, V.int a0), (23, V.bool (a0 == 59))]) [] (by kernel_rfl) (fun st hw => ?_)
       exact hk56 (a0, (a0 == 59)) h49 _ (hw.trans (Weak.sel [] [3, 23] (by kernel_rfl) (by kernel_rfl) (by kernel_rfl)))
     intro hk59
     refine cu D_ok mix 2 100 (tl 29 [(3, V.int a0), (20, V.bool (a0 == 55))]) [] (by kernel_rfl) ?_
     (revert h45; refine cond_rev (fun hc60 h45 => ?_) (fun hc60 h45 => ?_))
     ·refine CodeOk.ifT hc60 (by kernel_rfl) ?_
      refine CodeOk.skip ?_
      exact hk59 (a0, (a0 == 55)) h45 _ (Weak.sel [] [3, 20] (by kernel_rfl) (by kernel_rfl) (by kernel_rfl))
     refine CodeOk.ifF hc60 (by kernel_rfl) ?_
     refine ce D_ok mix 2 100 (tl 29 [(3, V.int a0), (20, V.bool (a0 == 56))]) [] (by kernel_rfl) (fun st hw => ?_)
     exact hk59 (a0, (a0 == 56)) h45 _ (hw.trans (Weak.sel [] [3, 20] (by kernel_rfl) (by kernel_rfl) (by kernel_rfl)))
   intro hk61
   refine cu D_ok mix 2 100 (tl 29 [(3, V.int a0), (11, V.bool (a0 == 63))]) [] (by kernel_rfl) ?_
   (revert h38; refine cond_rev (fun hc62 h38 => ?_) (fun hc62 h38 => ?_))
   ·refine CodeOk.ifT hc62 (by kernel_rfl) ?_
    refine CodeOk.skip ?_
    exact hk61 (a0, (a0 == 63)) h38 _ (Weak.sel [] [3, 11] (by kernel_rfl) (by kernel_rfl) (by kernel_rfl))
   refine CodeOk.ifF hc62 (by kernel_rfl) ?_
   refine cu D_ok mix 2 100 (tl 29 [(3, V.int a0), (11, V.bool (a0 == 48))]) [] (by kernel_rfl) ?_
   (revert h38; refine cond_rev (fun hc63 h38 => ?_) (fun hc63 h38 => ?_))
   ·refine CodeOk.ifT hc63 (by kernel_rfl) ?_
    refine CodeOk.skip ?_
    exact hk61 (a0, (a0 == 48)) h38 _ (Weak.sel [] [3, 11] (by kernel_rfl) (by kernel_rfl) (by kernel_rfl))
   refine CodeOk.ifF hc63 (by kernel_rfl) ?_
   refine cu D_ok mix 2 100 (tl 29 [(3, V.int a0), (11, V.bool (a0 == 47))]) [] (by kernel_rfl) ?_
   (revert h38; refine cond_rev (fun hc64 h38 => ?_) (fun hc64 h38 => ?_))
   ·refine CodeOk.ifT hc64 (by kernel_rfl) ?_
    refine CodeOk.skip ?_
    exact hk61 (a0, (a0 == 47)) h38 _ (Weak.sel [] [3, 11] (by kernel_rfl) (by kernel_rfl) (by kernel_rfl))
   refine CodeOk.ifF hc64 (by kernel_rfl) ?_
   refine cu D_ok mix 2 100 (tl 29 [(3, V.int a0), (11, V.bool (a0 == 50))]) [] (by kernel_rfl) ?_
   (revert h38; refine cond_rev (fun hc65 h38 => ?_) (fun hc65 h38 => ?_))
   ·refine CodeOk.ifT hc65 (by kernel_rfl) ?_
    refine CodeOk.skip ?_
    exact hk61 (a0, (a0 == 50)) h38 _ (Weak.sel [] [3, 11] (by kernel_rfl) (by kernel_rfl) (by kernel_rfl))
   refine CodeOk.ifF hc65 (by kernel_rfl) ?_
   refine cu D_ok mix 2 100 (tl 29 [(3, V.int a0), (11, V.bool (a0 == 62))]) [] (by kernel_rfl) ?_
   (revert h38; refine cond_rev (fun hc66 h38 => ?_) (fun hc66 h38 => ?_))
   ·refine CodeOk.ifT hc66 (by kernel_rfl) ?_
    refine CodeOk.skip ?_
    exact hk61 (a0, (a0 == 62)) h38 _ (Weak.sel [] [3, 11] (by kernel_rfl) (by kernel_rfl) (by kernel_rfl))
   refine CodeOk.ifF hc66 (by kernel_rfl) ?_
   refine ce D_ok mix 2 100 (tl 29 [(3, V.int a0), (11, V.bool (a0 == 49))]) [] (by kernel_rfl) (fun st hw => ?_)
   exact hk61 (a0, (a0 == 49)) h38 _ (hw.trans (Weak.sel [] [3, 11] (by kernel_rfl) (by kernel_rfl) (by kernel_rfl)))
 intro hk67
 refine cu D_ok mix 2 100 (tl 29 [(3, V.int a0), (8, V.bool (a0 == 67))]) [] (by kernel_rfl) ?_
 (revert h; refine cond_rev (fun hc68 h => ?_) (fun hc68 h => ?_))
 ·refine CodeOk.ifT hc68 (by kernel_rfl) ?_
  refine CodeOk.skip ?_
  exact hk67 (a0, (a0 == 67)) h _ (Weak.sel [] [3, 8] (by kernel_rfl) (by kernel_rfl) (by kernel_rfl))
 refine CodeOk.ifF hc68 (by kernel_rfl) ?_
 refine ce D_ok mix 2 100 (tl 29 [(3, V.int a0), (8, V.bool (a0 == 46))]) [] (by kernel_rfl) (fun st hw => ?_)
 exact hk67 (a0, (a0 == 46)) h _ (hw.trans (Weak.sel [] [3, 8] (by kernel_rfl) (by kernel_rfl) (by kernel_rfl)))

theorem m_impl_isAssign_ok (a0 : Int) {r : Bool} (h : m_impl_isAssign a0 = some r) :
    AC Tryz.prog (GS []) 125 [V.int a0] [] (V.bool r) [] := by
 rw [m_impl_isAssign] at h
 refine AC.enter Tryz.func125 rfl ?_
 refine cu D_ok mix 1 100 (tl 9 [(0, V.int a0)]) [] (by kernel_rfl) ?_
 (revert h; refine bind_rev fun y2 hv3 h => ?_)
 refine CodeOk.cutR (tl 9 [(2, V.bool y2)]) [] mix (by
  refine W.run D_ok 3 100 (by kernel_rfl) ?_
  (revert hv3; refine cond_rev (fun hc4 hv3 => ?_) (fun hc4 hv3 => ?_))
  ·refine W.is 5 hc4 (by kernel_rfl) ?_
   refine W.run D_ok 4 100 (by kernel_rfl) ?_
   have hv3 := Option.some.inj hv3
   subst hv3
   exact W.fs [] [2] (by kernel_rfl)
  refine W.is 5 hc4 (by kernel_rfl) ?_
  refine W.run D_ok 1 100 (by kernel_rfl) ?_
  (revert hv3; refine bind_rev fun r3 hx5 hv3 => ?_)
  refine W.call0 (m_impl_within_ok a0 38 43 hx5) cok55 rfl (by kernel_rfl) ?_
  refine W.run D_ok 2 100 (by kernel_rfl) ?_
  have hv3 := Option.some.inj hv3
  subst hv3
  exact W.fs [] [2] (by kernel_rfl)
  ) ?_
 refine CodeOk.ret ?_
 have h := Option.some.inj h
 subst h
 exact Ends.gen [] (.inr rfl) (RetV.one rfl (OneR.tmp (t := 2) (r := V.bool y2) (by kernel_rfl))) (by kernel_rfl) (by kernel_rfl) (by kernel_rfl)

theorem m_impl_exprForm_ok (N : Nat) (a0 : SNode) {r : SForm} (h : m_impl_exprForm N a0 = some r) :
    AC Tryz.prog (GS [0, 1, 2]) 105 [.agg [V.int a0.Kind, V.int a0.Op, V.str a0.Text, V.str a0.Other, .sl false false (a0.Kids.map encI)]] [] (.agg [V.bool r.op, V.bool r.text, V.bool r.other, V.int r.least, V.int r.most]) [] := by
 rw [m_impl_exprForm] at h
 refine AC.enter Tryz.func105 rfl ?_
 refine cu D_ok mix 2 100 (tl 123 [(1, .loc 100 0), (2, .loc 101 0)]) [(101, .cells 114 [V.bool false, V.bool false, V.bool false, V.int 0, V.int 0]), (100, .cells 48 [V.int a0.Kind, V.int a0.Op, V.str a0.Text, V.str a0.Other, .sl false false (a0.Kids.map encI)])] (by kernel_rfl) ?_
 refine CodeOk.seq' ?_
 refine cu D_ok mix 2 102 (tl 123 [(1, .loc 100 0), (2, .loc 101 0), (4, V.int a0.Kind)]) [(101, .cells 114 [V.bool false, V.bool false, V.bool false, V.int 0, V.int 0]), (100, .cells 48 [V.int a0.Kind, V.int a0.Op, V.str a0.Text, V.str a0.Other, .sl false false (a0.Kids.map encI)])] (by kernel_rfl) ?_
 refine CodeOk.block' ?_
 refine cu D_ok mix 2 102 (tl 123 [(1, .loc 100 0), (2, .loc 101 0), (4, V.int a0.Kind), (5, V.bool (a0.Kind == 1))]) [(101, .cells 114 [V.bool false, V.bool false, V.bool false, V.int 0, V.int 0]), (100, .cells 48 [V.int a0.Kind, V.int a0.Op, V.str a0.Text, V.str a0.Other, .sl false false (a0.Kids.map encI)])] (by kernel_rfl) ?_
 (revert h; refine cond_rev (fun hc46 h => ?_) (fun hc46 h => ?_))
 ·refine CodeOk.ifT hc46 (by kernel_rfl) ?_
  (revert h; refine bind_rev fun r22 hx48 h => ?_)
  refine CodeOk.cutR (tl 123 [(2, .loc 101 0)]) [(101, .cells 114 [V.bool (a0.Op == 0), V.bool r22, V.bool false, V.int 0, V.int 0])] mix (by
   refine W.run D_ok 5 102 (by kernel_rfl) ?_
   refine W.call0 (AC.gs (m_impl_NameOk_ok N a0.Text hx48) (by decide)) cok120 rfl (by kernel_rfl) ?_
   refine W.run D_ok 2 102 (by kernel_rfl) ?_
   exact W.fi (by kernel_rfl)
   ) ?_
  refine CodeOk.ret ?_
  have h := Option.some.inj h
  subst h
  exact Ends.gen [] (.inr rfl) (RetV.one rfl (OneR.cell D_ok (r := .agg [V.bool (a0.Op == 0), V.bool r22, V.bool false, V.int 0, V.int 0]) (i := 101) (ety := 114) (cs := [V.bool (a0.Op == 0), V.bool r22, V.bool false, V.int 0, V.int 0]) (by kernel_rfl) (by kernel_rfl) (by kernel_rfl))) (by kernel_rfl) (by kernel_rfl) (by kernel_rfl)
 refine CodeOk.ifF hc46 (by kernel_rfl) ?_
 refine CodeOk.join (fun (⟨a0, y23⟩ : (SNode × Bool)) => ⟨tl 123 [(1, .loc 100 0), (2, .loc 101 0), (4, V.int a0.Kind), (14, V.bool y23)], [(100, .cells 48 [V.int a0.Kind, V.int a0.Op, V.str a0.Text, V.str a0.Other, .sl false false (a0.Kids.map encI)]), (101, .cells 114 [V.bool false, V.bool false, V.bool false, V.int 0, V.int 0])]⟩) (fun i => m_impl_exprForm_k1 N i = some r) ?_ ?_
 · rintro ⟨a0, y23⟩ h51
   rw [m_impl_exprForm_k1] at h51
   (revert h51; refine cond_rev (fun hc52 h51 => ?_) (fun hc52 h51 => ?_))
   ·refine CodeOk.ifT hc52 (by kernel_rfl) ?_
    (revert h51; refine bind_rev fun e26 hx55 h51 => ?_)
    (revert h51; refine bind_rev fun r27 hx56 h51 => ?_)
    refine CodeOk.cutR (tl 123 [(2, .loc 101 0)]) [(101, .cells 114 [V.bool (a0.Op == 0), V.bool r27, V.bool false, V.int 0, V.int 0])] mix (by
     refine W.run D_ok 7 102 (by kernel_rfl) ?_
     refine W.ixA D_ok V.int hx55 (by kernel_rfl) ?_
     refine W.run D_ok 3 102 (by kernel_rfl) ?_
     refine W.call0 (m_impl_TokenOk_ok N (⟨e26, a0.Text, 0⟩ : SToken) hx56) cok121 rfl (by kernel_rfl) ?_
     refine W.run D_ok 2 102 (by kernel_rfl) ?_
     exact W.fi (by kernel_rfl)
     ) ?_
    refine CodeOk.ret ?_
    have h51 := Option.some.inj h51
    subst h51
    exact Ends.gen [] (.inr rfl) (RetV.one rfl (OneR.cell D_ok (r := .agg [V.bool (a0.Op == 0), V.bool r27, V.bool false, V.int 0, V.int 0]) (i := 101) (ety := 114) (cs := [V.bool (a0.Op == 0), V.bool r27, V.bool false, V.int 0, V.int 0]) (by kernel_rfl) (by kernel_rfl) (by kernel_rfl))) (by kernel_rfl) (by kernel_rfl) (by kernel_rfl)
   refine CodeOk.ifF hc52 (by kernel_rfl) ?_
   refine CodeOk.join (fun (⟨a0, y28⟩ : (SNode × Bool)) => ⟨tl 123 [(1, .loc 100 0), (2, .loc 101 0), (4, V.int a0.Kind), (31, V.bool y28)], [(100, .cells 48 [V.int a0.Kind, V.int a0.Op, V.str a0.Text, V.str a0.Other, .sl false false (a0.Kids.map encI)]), (101, .cells 114 [V.bool false, V.bool false, V.bool false, V.int 0, V.int 0])]⟩) (fun i => m_impl_exprForm_k2 N i = some r) ?_ ?_
   · rintro ⟨a0, y28⟩ h58
     rw [m_impl_exprForm_k2] at h58
     (revert h58; refine cond_rev (fun hc59 h58 => ?_) (fun hc59 h58 => ?_))
     ·refine CodeOk.ifT hc59 (by kernel_rfl) ?_
      (revert h58; refine bind_rev fun r30 hx61 h58 => ?_)
      refine CodeOk.cutR (tl 123 [(2, .loc 101 0)]) [(101, .cells 114 [V.bool (a0.Op == 0), V.bool r30, V.bool false, V.int 1, V.int 6])] mix (by
       refine W.run D_ok 5 102 (by kernel_rfl) ?_
       refine W.call0 (AC.gs (m_impl_NameOk_ok N a0.Text hx61) (by decide)) cok120 rfl (by kernel_rfl) ?_
       refine W.run D_ok 2 102 (by kernel_rfl) ?_
       exact W.fi (by kernel_rfl)
       ) ?_
      refine CodeOk.ret ?_
      have h58 := Option.some.inj h58
      subst h58
      exact Ends.gen [] (.inr rfl) (RetV.one rfl (OneR.cell D_ok (r := .agg [V.bool (a0.Op == 0), V.bool r30, V.bool false, V.int 1, V.int 6]) (i := 101) (ety := 114) (cs := [V.bool (a0.Op == 0), V.bool r30, V.bool false, V.int 1, V.int 6]) (by kernel_rfl) (by kernel_rfl) (by kernel_rfl))) (by kernel_rfl) (by kernel_rfl) (by kernel_rfl)
     refine CodeOk.ifF hc59 (by kernel_rfl) ?_
     refine cu D_ok mix 2 102 (tl 123 [(1, .loc 100 0), (2, .loc 101 0), (4, V.int a0.Kind), (41, V.bool (a0.Kind == 6))]) [(100, .cells 48 [V.int a0.Kind, V.int a0.Op, V.str a0.Text, V.str a0.Other, .sl false false (a0.Kids.map encI)]), (101, .cells 114 [V.bool false, V.bool false, V.bool false, V.int 0, V.int 0])] (by kernel_rfl) ?_
     (revert h58; refine cond_rev (fun hc62 h58 => ?_) (fun hc62 h58 => ?_))
     ·refine CodeOk.ifT hc62 (by kernel_rfl) ?_
      refine cu D_ok mix 8 102 (tl 123 [(2, .loc 101 0)]) [(101, .cells 114 [V.bool (a0.Op == 0), V.bool (a0.Text == []), V.bool false, V.int 1, V.int 1])] (by kernel_rfl) ?_
      refine CodeOk.ret ?_
      have h58 := Option.some.inj h58
      subst h58
      exact Ends.gen [] (.inr rfl) (RetV.one rfl (OneR.cell D_ok (r := .agg [V.bool (a0.Op == 0), V.bool (a0.Text == []), V.bool false, V.int 1, V.int 1]) (i := 101) (ety := 114) (cs := [V.bool (a0.Op == 0), V.bool (a0.Text == []), V.bool false, V.int 1, V.int 1]) (by kernel_rfl) (by kernel_rfl) (by kernel_rfl))) (by kernel_rfl) (by kernel_rfl) (by kernel_rfl)
     refine CodeOk.ifF hc62 (by kernel_rfl) ?_
     refine cu D_ok mix 2 102 (tl 123 [(1, .loc 100 0), (2, .loc 101 0), (4, V.int a0.Kind), (50, V.bool (a0.Kind == 7))]) [(100, .cells 48 [V.int a0.Kind, V.int a0.Op, V.str a0.Text, V.str a0.Other, .sl false false (a0.Kids.map encI)]), (101, .cells 114 [V.bool false, V.bool false, V.bool false, V.int 0, V.int 0])] (by kernel_rfl) ?_
     (revert h58; refine cond_rev (fun hc63 h58 => ?_) (fun hc63 h58 => ?_))
     ·refine CodeOk.ifT hc63 (by kernel_rfl) ?_
      (revert h58; refine bind_rev fun r32 hx65 h58 => ?_)
      refine CodeOk.cutR (tl 123 [(2, .loc 101 0)]) [(101, .cells 114 [V.bool (a0.Op == 0), V.bool r32, V.bool false, V.int 0, V.int 6])] mix (by
       refine W.run D_ok 5 102 (by kernel_rfl) ?_
       refine W.call0 (AC.gs (m_impl_NameOk_ok N a0.Text hx65) (by decide)) cok120 rfl (by kernel_rfl) ?_
       refine W.run D_ok 2 102 (by kernel_rfl) ?_
       exact W.fi (by kernel_rfl)
       ) ?_
      refine CodeOk.ret ?_
      have h58 := Option.some.inj h58
      subst h58
      exact Ends.gen [] (.inr rfl) (RetV.one rfl (OneR.cell D_ok (r := .agg [V.bool (a0.Op == 0), V.bool r32, V.bool false, V.int 0, V.int 6]) (i := 101) (ety := 114) (cs := [V.bool (a0.Op == 0), V.bool r32, V.bool false, V.int 0, V.int 6]) (by kernel_rfl) (by kernel_rfl) (by kernel_rfl))) (by kernel_rfl) (by kernel_rfl) (by kernel_rfl)
     refine CodeOk.ifF hc63 (by kernel_rfl) ?_
     refine cu D_ok mix 2 102 (tl 123 [(1, .loc 100 0), (2, .loc 101 0), (4, V.int a0.Kind), (59, V.bool (a0.Kind == 8))]) [(100, .cells 48 [V.int a0.Kind, V.int a0.Op, V.str a0.Text, V.str a0.Other, .sl false false (a0.Kids.map encI)]), (101, .cells 114 [V.bool false, V.bool false, V.bool false, V.int 0, V.int 0])] (by kernel_rfl) ?_
     (revert h58; refine cond_rev (fun hc66 h58 => ?_) (fun hc66 h58 => ?_))
     ·refine CodeOk.ifT hc66 (by kernel_rfl) ?_
      (revert h58; refine bind_rev fun r34 hx68 h58 => ?_)
      refine CodeOk.cutR (tl 123 [(2, .loc 101 0)]) [(101, .cells 114 [V.bool (a0.Op == 0), V.bool r34, V.bool false, V.int 0, V.int 6])] mix (by
       refine W.run D_ok 5 102 (by kernel_rfl) ?_
       refine W.call0 (AC.gs (m_impl_IsBuiltin_ok N a0.Text hx68) (by decide)) cok122 rfl (by kernel_rfl) ?_
       refine W.run D_ok 2 102 (by kernel_rfl) ?_
       exact W.fi (by kernel_rfl)
       ) ?_
      refine CodeOk.ret ?_
      have h58 := Option.some.inj h58
      subst h58
      exact Ends.gen [] (.inr rfl) (RetV.one rfl (OneR.cell D_ok (r := .agg [V.bool (a0.Op == 0), V.bool r34, V.bool false, V.int 0, V.int 6]) (i := 101) (ety := 114) (cs := [V.bool (a0.Op == 0), V.bool r34, V.bool false, V.int 0, V.int 6]) (by kernel_rfl) (by kernel_rfl) (by kernel_rfl))) (by kernel_rfl) (by kernel_rfl) (by kernel_rfl)
     refine CodeOk.ifF hc66 (by kernel_rfl) ?_
     refine CodeOk.join (fun (⟨a0, y35⟩ : (SNode × Bool)) => ⟨tl 123 [(1, .loc 100 0), (2, .loc 101 0), (4, V.int a0.Kind), (68, V.bool y35)], [(100, .cells 48 [V.int a0.Kind, V.int a0.Op, V.str a0.Text, V.str a0.Other, .sl false false (a0.Kids.map encI)]), (101, .cells 114 [V.bool false, V.bool false, V.bool false, V.int 0, V.int 0])]⟩) (fun i => m_impl_exprForm_k3 N i = some r) ?_ ?_
     · rintro ⟨a0, y35⟩ h70
       rw [m_impl_exprForm_k3] at h70
       (revert h70; refine cond_rev (fun hc71 h70 => ?_) (fun hc71 h70 => ?_))
       ·refine CodeOk.ifT hc71 (by kernel_rfl) ?_
        (revert h70; refine bind_rev fun r37 hx73 h70 => ?_)
        refine CodeOk.cutR (tl 123 [(2, .loc 101 0)]) [(101, .cells 114 [V.bool r37, V.bool (a0.Text == []), V.bool false, V.int 1, V.int 1])] mix (by
         refine W.run D_ok 2 102 (by kernel_rfl) ?_
         refine W.call0 (AC.gs (m_impl_isStep_ok a0.Op hx73) (by decide)) cok123 rfl (by kernel_rfl) ?_
         refine W.run D_ok 5 102 (by kernel_rfl) ?_
         exact W.fi (by kernel_rfl)
         ) ?_
        refine CodeOk.ret ?_
        have h70 := Option.some.inj h70
        subst h70
        exact Ends.gen [] (.inr rfl) (RetV.one rfl (OneR.cell D_ok (r := .agg [V.bool r37, V.bool (a0.Text == []), V.bool false, V.int 1, V.int 1]) (i := 101) (ety := 114) (cs := [V.bool r37, V.bool (a0.Text == []), V.bool false, V.int 1, V.int 1]) (by kernel_rfl) (by kernel_rfl) (by kernel_rfl))) (by kernel_rfl) (by kernel_rfl) (by kernel_rfl)
       refine CodeOk.ifF hc71 (by kernel_rfl) ?_
       refine cu D_ok mix 2 102 (tl 123 [(1, .loc 100 0), (2, .loc 101 0), (4, V.int a0.Kind), (78, V.bool (a0.Kind == 11))]) [(100, .cells 48 [V.int a0.Kind, V.int a0.Op, V.str a0.Text, V.str a0.Other, .sl false false (a0.Kids.map encI)]), (101, .cells 114 [V.bool false, V.bool false, V.bool false, V.int 0, V.int 0])] (by kernel_rfl) ?_
       (revert h70; refine cond_rev (fun hc74 h70 => ?_) (fun hc74 h70 => ?_))
       ·refine CodeOk.ifT hc74 (by kernel_rfl) ?_
        (revert h70; refine bind_rev fun y38 hv77 h70 => ?_)
        refine CodeOk.cutR (tl 123 [(2, .loc 100 0)]) [(100, .cells 114 [V.bool y38, V.bool (a0.Text == []), V.bool false, V.int 1, V.int 1])] mix (by
         refine W.run D_ok 4 102 (by kernel_rfl) ?_
         (revert hv77; refine cond_rev (fun hc78 hv77 => ?_) (fun hc78 hv77 => ?_))
         ·refine W.is 83 hc78 (by kernel_rfl) ?_
          refine W.run D_ok 14 102 (by kernel_rfl) ?_
          have hv77 := Option.some.inj hv77
          subst hv77
          exact W.fs [(101, 100)] [2] (by kernel_rfl)
         refine W.is 83 hc78 (by kernel_rfl) ?_
         refine W.run D_ok 5 102 (by kernel_rfl) ?_
         (revert hv77; refine cond_rev (fun hc79 hv77 => ?_) (fun hc79 hv77 => ?_))
         ·refine W.is 88 hc79 (by kernel_rfl) ?_
          refine W.run D_ok 9 102 (by kernel_rfl) ?_
          have hv77 := Option.some.inj hv77
          subst hv77
          exact W.fs [(101, 100)] [2] (by kernel_rfl)
         refine W.is 88 hc79 (by kernel_rfl) ?_
         refine W.run D_ok 9 102 (by kernel_rfl) ?_
         have hv77 := Option.some.inj hv77
         subst hv77
         exact W.fs [(101, 100)] [2] (by kernel_rfl)
         ) ?_
        refine CodeOk.ret ?_
        have h70 := Option.some.inj h70
        subst h70
        exact Ends.gen [] (.inr rfl) (RetV.one rfl (OneR.cell D_ok (r := .agg [V.bool y38, V.bool (a0.Text == []), V.bool false, V.int 1, V.int 1]) (i := 100) (ety := 114) (cs := [V.bool y38, V.bool (a0.Text == []), V.bool false, V.int 1, V.int 1]) (by kernel_rfl) (by kernel_rfl) (by kernel_rfl))) (by kernel_rfl) (by kernel_rfl) (by kernel_rfl)
       refine CodeOk.ifF hc74 (by kernel_rfl) ?_
       refine cu D_ok mix 2 102 (tl 123 [(1, .loc 100 0), (2, .loc 101 0), (4, V.int a0.Kind), (97, V.bool (a0.Kind == 12))]) [(100, .cells 48 [V.int a0.Kind, V.int a0.Op, V.str a0.Text, V.str a0.Other, .sl false false (a0.Kids.map encI)]), (101, .cells 114 [V.bool false, V.bool false, V.bool false, V.int 0, V.int 0])] (by kernel_rfl) ?_
       (revert h70; refine cond_rev (fun hc80 h70 => ?_) (fun hc80 h70 => ?_))
       ·refine CodeOk.ifT hc80 (by kernel_rfl) ?_
        (revert h70; refine bind_rev fun r40 hx82 h70 => ?_)
        refine CodeOk.cutR (tl 123 [(2, .loc 101 0)]) [(101, .cells 114 [V.bool (r40 != 0), V.bool (a0.Text == []), V.bool false, V.int 2, V.int 2])] mix (by
         refine W.run D_ok 2 102 (by kernel_rfl) ?_
         refine W.call0 (AC.gs (m_impl_OpLevel_ok a0.Op hx82) (by decide)) cok124 rfl (by kernel_rfl) ?_
         refine W.run D_ok 6 102 (by kernel_rfl) ?_
         exact W.fi (by kernel_rfl)
         ) ?_
        refine CodeOk.ret ?_
        have h70 := Option.some.inj h70
        subst h70
        exact Ends.gen [] (.inr rfl) (RetV.one rfl (OneR.cell D_ok (r := .agg [V.bool (r40 != 0), V.bool (a0.Text == []), V.bool false, V.int 2, V.int 2]) (i := 101) (ety := 114) (cs := [V.bool (r40 != 0), V.bool (a0.Text == []), V.bool false, V.int 2, V.int 2]) (by kernel_rfl) (by kernel_rfl) (by kernel_rfl))) (by kernel_rfl) (by kernel_rfl) (by kernel_rfl)
       refine CodeOk.ifF hc80 (by kernel_rfl) ?_
       refine cu D_ok mix 2 102 (tl 123 [(1, .loc 100 0), (2, .loc 101 0), (107, V.bool (a0.Kind == 14))]) [(100, .cells 48 [V.int a0.Kind, V.int a0.Op, V.str a0.Text, V.str a0.Other, .sl false false (a0.Kids.map encI)]), (101, .cells 114 [V.bool false, V.bool false, V.bool false, V.int 0, V.int 0])] (by kernel_rfl) ?_
       (revert h70; refine cond_rev (fun hc83 h70 => ?_) (fun hc83 h70 => ?_))
       ·refine CodeOk.ifT hc83 (by kernel_rfl) ?_
        refine cu D_ok mix 8 102 (tl 123 [(2, .loc 101 0)]) [(101, .cells 114 [V.bool (a0.Op == 0), V.bool (a0.Text == []), V.bool false, V.int 3, V.int 3])] (by kernel_rfl) ?_
        refine CodeOk.ret ?_
        have h70 := Option.some.inj h70
        subst h70
        exact Ends.gen [] (.inr rfl) (RetV.one rfl (OneR.cell D_ok (r := .agg [V.bool (a0.Op == 0), V.bool (a0.Text == []), V.bool false, V.int 3, V.int 3]) (i := 101) (ety := 114) (cs := [V.bool (a0.Op == 0), V.bool (a0.Text == []), V.bool false, V.int 3, V.int 3]) (by kernel_rfl) (by kernel_rfl) (by kernel_rfl))) (by kernel_rfl) (by kernel_rfl) (by kernel_rfl)
       refine CodeOk.ifF hc83 (by kernel_rfl) ?_
       refine CodeOk.skip ?_
       (revert h70; refine bind_rev fun r42 hx85 h70 => ?_)
       refine CodeOk.cutR (tl 123 [(2, .loc 101 0)]) [(101, .cells 114 [V.bool r42, V.bool (a0.Text == []), V.bool false, V.int 2, V.int 2])] mix (by
        refine W.run D_ok 2 102 (by kernel_rfl) ?_
        refine W.call0 (AC.gs (m_impl_isAssign_ok a0.Op hx85) (by decide)) cok125 rfl (by kernel_rfl) ?_
        refine W.run D_ok 5 102 (by kernel_rfl) ?_
        exact W.fi (by kernel_rfl)
        ) ?_
       refine CodeOk.ret ?_
       have h70 := Option.some.inj h70
       subst h70
       exact Ends.gen [] (.inr rfl) (RetV.one rfl (OneR.cell D_ok (r := .agg [V.bool r42, V.bool (a0.Text == []), V.bool false, V.int 2, V.int 2]) (i := 101) (ety := 114) (cs := [V.bool r42, V.bool (a0.Text == []), V.bool false, V.int 2, V.int 2]) (by kernel_rfl) (by kernel_rfl) (by kernel_rfl))) (by kernel_rfl) (by kernel_rfl) (by kernel_rfl)
     intro hk86
     refine cu D_ok mix 2 102 (tl 123 [(1, .loc 100 0), (2, .loc 101 0), (4, V.int a0.Kind), (68, V.bool (a0.Kind == 9))]) [(100, .cells 48 [V.int a0.Kind, V.int a0.Op, V.str a0.Text, V.str a0.Other, .sl false false (a0.Kids.map encI)]), (101, .cells 114 [V.bool false, V.bool false, V.bool false, V.int 0, V.int 0])] (by kernel_rfl) ?_
     (revert h58; refine cond_rev (fun hc87 h58 => ?_) (fun hc87 h58 => ?_))
     ·refine CodeOk.ifT hc87 (by kernel_rfl) ?_
      refine CodeOk.skip ?_
      exact hk86 (a0, (a0.Kind == 9)) h58 _ (Weak.sel [(100, 100), (101, 101)] [1, 2, 4, 68] (by kernel_rfl) (by kernel_rfl) (by kernel_rfl))
     refine CodeOk.ifF hc87 (by kernel_rfl) ?_
     refine ce D_ok mix 2 102 (tl 123 [(1, .loc 100 0), (2, .loc 101 0), (4, V.int a0.Kind), (68, V.bool (a0.Kind == 10))]) [(100, .cells 48 [V.int a0.Kind, V.int a0.Op, V.str a0.Text, V.str a0.Other, .sl false false (a0.Kids.map encI)]), (101, .cells 114 [V.bool false, V.bool false, V.bool false, V.int 0, V.int 0])] (by kernel_rfl) (fun st hw => ?_)
     exact hk86 (a0, (a0.Kind == 10)) h58 _ (hw.trans (Weak.sel [(100, 100), (101, 101)] [1, 2, 4, 68] (by kernel_rfl) (by kernel_rfl) (by kernel_rfl)))
   intro hk88
   refine cu D_ok mix 2 102 (tl 123 [(1, .loc 100 0), (2, .loc 101 0), (4, V.int a0.Kind), (31, V.bool (a0.Kind == 5))]) [(100, .cells 48 [V.int a0.Kind, V.int a0.Op, V.str a0.Text, V.str a0.Other, .sl false false (a0.Kids.map encI)]), (101, .cells 114 [V.bool false, V.bool false, V.bool false, V.int 0, V.int 0])] (by kernel_rfl) ?_
   (revert h51; refine cond_rev (fun hc89 h51 => ?_) (fun hc89 h51 => ?_))
   ·refine CodeOk.ifT hc89 (by kernel_rfl) ?_
    refine CodeOk.skip ?_
    exact hk88 (a0, (a0.Kind == 5)) h51 _ (Weak.sel [(100, 100), (101, 101)] [1, 2, 4, 31] (by kernel_rfl) (by kernel_rfl) (by kernel_rfl))
   refine CodeOk.ifF hc89 (by kernel_rfl) ?_
   refine ce D_ok mix 2 102 (tl 123 [(1, .loc 100 0), (2, .loc 101 0), (4, V.int a0.Kind), (31, V.bool (a0.Kind == 13))]) [(100, .cells 48 [V.int a0.Kind, V.int a0.Op, V.str a0.Text, V.str a0.Other, .sl false false (a0.Kids.map encI)]), (101, .cells 114 [V.bool false, V.bool false, V.bool false, V.int 0, V.int 0])] (by kernel_rfl) (fun st hw => ?_)
   exact hk88 (a0, (a0.Kind == 13)) h51 _ (hw.trans (Weak.sel [(100, 100), (101, 101)] [1, 2, 4, 31] (by kernel_rfl) (by kernel_rfl) (by kernel_rfl)))
 intro hk90
 refine cu D_ok mix 2 102 (tl 123 [(1, .loc 100 0), (2, .loc 101 0), (4, V.int a0.Kind), (14, V.bool (a0.Kind == 2))]) [(101, .cells 114 [V.bool false, V.bool false, V.bool false, V.int 0, V.int 0]), (100, .cells 48 [V.int a0.Kind, V.int a0.Op, V.str a0.Text, V.str a0.Other, .sl false false (a0.Kids.map encI)])] (by kernel_rfl) ?_
 (revert h; refine cond_rev (fun hc91 h => ?_) (fun hc91 h => ?_))
 ·refine CodeOk.ifT hc91 (by kernel_rfl) ?_
  refine CodeOk.skip ?_
  exact hk90 (a0, (a0.Kind == 2)) h _ (Weak.sel [(100, 100), (101, 101)] [1, 2, 4, 14] (by kernel_rfl) (by kernel_rfl) (by kernel_rfl))
 refine CodeOk.ifF hc91 (by kernel_rfl) ?_
 refine cu D_ok mix 2 102 (tl 123 [(1, .loc 100 0), (2, .loc 101 0), (4, V.int a0.Kind), (14, V.bool (a0.Kind == 3))]) [(101, .cells 114 [V.bool false, V.bool false, V.bool false, V.int 0, V.int 0]), (100, .cells 48 [V.int a0.Kind, V.int a0.Op, V.str a0.Text, V.str a0.Other, .sl false false (a0.Kids.map encI)])] (by kernel_rfl) ?_
 (revert h; refine cond_rev (fun hc92 h => ?_) (fun hc92 h => ?_))
 ·refine CodeOk.ifT hc92 (by kernel_rfl) ?_
  refine CodeOk.skip ?_
  exact hk90 (a0, (a0.Kind == 3)) h _ (Weak.sel [(100, 100), (101, 101)] [1, 2, 4, 14] (by kernel_rfl) (by kernel_rfl) (by kernel_rfl))
 refine CodeOk.ifF hc92 (by kernel_rfl) ?_
 refine ce D_ok mix 2 102 (tl 123 [(1, .loc 100 0), (2, .loc 101 0), (4, V.int a0.Kind), (14, V.bool (a0.Kind == 4))]) [(101, .cells 114 [V.bool false, V.bool false, V.bool false, V.int 0, V.int 0]), (100, .cells 48 [V.int a0.Kind, V.int a0.Op, V.str a0.Text, V.str a0.Other, .sl false false (a0.Kids.map encI)])] (by kernel_rfl) (fun st hw => ?_)
 exact hk90 (a0, (a0.Kind == 4)) h _ (hw.trans (Weak.sel [(100, 100), (101, 101)] [1, 2, 4, 14] (by kernel_rfl) (by kernel_rfl) (by kernel_rfl)))

theorem m_impl_IsStmt_ok (a0 : Int) {r : Bool} (h : m_impl_IsStmt a0 = some r) :
    AC Tryz.prog (GS []) 106 [V.int a0] [] (V.bool r) [] := by
 rw [m_impl_IsStmt] at h
 refine AC.enter Tryz.func106 rfl ?_
 refine cu D_ok mix 1 100 (tl 5 [(0, V.int a0)]) [] (by kernel_rfl) ?_
 (revert h; refine bind_rev fun r2 hx2 h => ?_)
 refine CodeOk.cutR (tl 5 [(2, V.bool r2)]) [] mix (by
  refine W.run D_ok 1 100 (by kernel_rfl) ?_
  refine W.call0 (m_impl_within_ok a0 20 34 hx2) cok55 rfl (by kernel_rfl) ?_
  refine W.run D_ok 1 100 (by kernel_rfl) ?_
  exact W.fi (by kernel_rfl)
  ) ?_
 refine CodeOk.ret ?_
 have h := Option.some.inj h
 subst h
 exact Ends.gen [] (.inr rfl) (RetV.one rfl (OneR.tmp (t := 2) (r := V.bool r2) (by kernel_rfl))) (by kernel_rfl) (by kernel_rfl) (by kernel_rfl)

end Go.Proofs.Tryz
