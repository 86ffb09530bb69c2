/-
  The walks that show that the code computes the models, part 2.
-/
import Derived.Test.YtkfpmbinifaakaaGreatDoorPnQW1
namespace Go.Proofs.Tryz
open Go.Av
set_option maxRecDepth 100000
set_option maxHeartbeats 8000000
set_option linter.unusedSimpArgs false
set_option linter.unusedVariables false

theorem m_spec_l7Kid_ok (a0 : SNode) (a1 : Int) (a2 : Int) {r : Bool} (h : m_spec_l7Kid a0 a1 a2 = some r) :
    AC Tryz.prog (GS []) 88 [.agg [V.i a0.Kind, V.i a0.Op, V.s a0.Text, V.s a0.Other, .sl false false (a0.Kids.map encI)], V.i a1, V.i a2] [] (V.b r) [] := by
 rw [m_spec_l7Kid] at h
 refine AC.enter Tryz.func88 rfl ?_
 refine cu Dk mix 2 100 (tl 184 [(1, V.i a1), (2, V.i a2), (3, .loc 100 0)]) [(100, .cells 53 [V.i a0.Kind, V.i a0.Op, V.s a0.Text, V.s a0.Other, .sl false false (a0.Kids.map encI)])] (by kernel_rfl) ?_
 refine CO.cutR (tl 184 [(1, V.i a1), (2, V.i a2), (3, .loc 100 0), (7, V.b (a1 == (IntKind.wrap .i64 ((a0.Kids.length : Int) - 1))))]) [(100, .cells 53 [V.i a0.Kind, V.i a0.Op, V.s a0.Text, V.s a0.Other, .sl false false (a0.Kids.map encI)])] mix (by
  refine W.run Dk 3 101 (by kernel_rfl) ?_
  refine W.len Dk encI a0.Kids [] (by kernel_rfl) (by kernel_rfl) ?_
  refine W.run Dk 3 101 (by kernel_rfl) ?_
  exact W.fi (by kernel_rfl)
  ) ?_
 refine cu Dk mix 3 101 (tl 184 [(1, V.i a1), (2, V.i a2), (3, .loc 100 0), (7, V.b (a1 == (IntKind.wrap .i64 ((a0.Kids.length : Int) - 1)))), (8, V.b (a2 == 33))]) [(100, .cells 53 [V.i a0.Kind, V.i a0.Op, V.s a0.Text, V.s a0.Other, .sl false false (a0.Kids.map encI)])] (by kernel_rfl) ?_
 refine CO.seq' ?_
 refine cu Dk mix 2 101 (tl 184 [(1, V.i a1), (2, V.i a2), (3, .loc 100 0), (7, V.b (a1 == (IntKind.wrap .i64 ((a0.Kids.length : Int) - 1)))), (8, V.b (a2 == 33)), (18, V.i a0.Kind)]) [(100, .cells 53 [V.i a0.Kind, V.i a0.Op, V.s a0.Text, V.s a0.Other, .sl false false (a0.Kids.map encI)])] (by kernel_rfl) ?_
 refine CO.block' ?_
 refine CO.join (fun (⟨a1, a2, a0, y52⟩ : (Int × Int × SNode × Bool)) => ⟨tl 184 [(1, V.i a1), (2, V.i a2), (3, .loc 100 0), (7, V.b (a1 == (IntKind.wrap .i64 ((a0.Kids.length : Int) - 1)))), (8, V.b (a2 == 33)), (18, V.i a0.Kind), (19, V.b y52)], [(100, .cells 53 [V.i a0.Kind, V.i a0.Op, V.s a0.Text, V.s a0.Other, .sl false false (a0.Kids.map encI)])]⟩) (fun i => m_spec_l7Kid_k1 i = some r) ?_ ?_
 · rintro ⟨a1, a2, a0, y52⟩ h181
   rw [m_spec_l7Kid_k1] at h181
   rcases cond_some h181 with ⟨hc182, h181⟩ | ⟨hc182, h181⟩
   ·refine CO.ifT hc182 (by kernel_rfl) ?_
    obtain ⟨r54, hx184, h181⟩ := bind_some h181
    refine CO.cutR (tl 184 [(6, V.b r54)]) [] mix (by
     refine W.run Dk 1 101 (by kernel_rfl) ?_
     refine W.call0 (m_spec_IsLvalue_ok a2 hx184) cok124 rfl (by kernel_rfl) ?_
     refine W.run Dk 1 101 (by kernel_rfl) ?_
     exact W.fi (by kernel_rfl)
     ) ?_
    refine CO.ret ?_
    have h181 := Option.some.inj h181
    subst h181
    exact Ends.gen [] (.inr rfl) (RetV.one rfl (OneR.tmp (t := 6) (r := V.b r54) (by kernel_rfl))) (by kernel_rfl) (by kernel_rfl) (by kernel_rfl)
   refine CO.ifF hc182 (by kernel_rfl) ?_
   refine cu Dk mix 2 101 (tl 184 [(1, V.i a1), (2, V.i a2), (3, .loc 100 0), (7, V.b (a1 == (IntKind.wrap .i64 ((a0.Kids.length : Int) - 1)))), (8, V.b (a2 == 33)), (18, V.i a0.Kind), (24, V.b (a0.Kind == 15))]) [(100, .cells 53 [V.i a0.Kind, V.i a0.Op, V.s a0.Text, V.s a0.Other, .sl false false (a0.Kids.map encI)])] (by kernel_rfl) ?_
   rcases cond_some h181 with ⟨hc185, h181⟩ | ⟨hc185, h181⟩
   ·refine CO.ifT hc185 (by kernel_rfl) ?_
    obtain ⟨y57, hv190, h181⟩ := bind_some h181
    refine CO.cutR (tl 184 [(6, V.b y57)]) [] mix (by
     refine W.run Dk 1 101 (by kernel_rfl) ?_
     obtain ⟨r58, hx191, hv190⟩ := bind_some hv190
     refine W.call0 (m_spec_IsExpr_ok a2 hx191) cok98 rfl (by kernel_rfl) ?_
     refine W.run Dk 1 101 (by kernel_rfl) ?_
     rcases cond_some hv190 with ⟨hc192, hv190⟩ | ⟨hc192, hv190⟩
     ·refine W.is 28 hc192 (by kernel_rfl) ?_
      refine W.run Dk 3 101 (by kernel_rfl) ?_
      rcases cond_some hv190 with ⟨hc193, hv190⟩ | ⟨hc193, hv190⟩
      ·refine W.is 31 hc193 (by kernel_rfl) ?_
       refine W.run Dk 5 101 (by kernel_rfl) ?_
       have hv190 := Option.some.inj hv190
       subst hv190
       exact W.fs [] [6] (by kernel_rfl)
      refine W.is 31 hc193 (by kernel_rfl) ?_
      refine W.run Dk 1 101 (by kernel_rfl) ?_
      obtain ⟨r59, hx194, hv190⟩ := bind_some hv190
      refine W.call0 (m_spec_IsLvalue_ok a2 hx194) cok124 rfl (by kernel_rfl) ?_
      refine W.run Dk 3 101 (by kernel_rfl) ?_
      have hv190 := Option.some.inj hv190
      subst hv190
      exact W.fs [] [6] (by kernel_rfl)
     refine W.is 28 hc192 (by kernel_rfl) ?_
     refine W.run Dk 8 101 (by kernel_rfl) ?_
     have hv190 := Option.some.inj hv190
     subst hv190
     exact W.fs [] [6] (by kernel_rfl)
     ) ?_
    refine CO.ret ?_
    have h181 := Option.some.inj h181
    subst h181
    exact Ends.gen [] (.inr rfl) (RetV.one rfl (OneR.tmp (t := 6) (r := V.b y57) (by kernel_rfl))) (by kernel_rfl) (by kernel_rfl) (by kernel_rfl)
   refine CO.ifF hc185 (by kernel_rfl) ?_
   refine cu Dk mix 2 101 (tl 184 [(1, V.i a1), (2, V.i a2), (3, .loc 100 0), (7, V.b (a1 == (IntKind.wrap .i64 ((a0.Kids.length : Int) - 1)))), (8, V.b (a2 == 33)), (18, V.i a0.Kind), (36, V.b (a0.Kind == 28))]) [(100, .cells 53 [V.i a0.Kind, V.i a0.Op, V.s a0.Text, V.s a0.Other, .sl false false (a0.Kids.map encI)])] (by kernel_rfl) ?_
   rcases cond_some h181 with ⟨hc195, h181⟩ | ⟨hc195, h181⟩
   ·refine CO.ifT hc195 (by kernel_rfl) ?_
    obtain ⟨y61, hv201, h181⟩ := bind_some h181
    refine CO.cutR (tl 184 [(6, V.b y61)]) [] mix (by
     refine W.run Dk 3 101 (by kernel_rfl) ?_
     rcases cond_some hv201 with ⟨hc202, hv201⟩ | ⟨hc202, hv201⟩
     ·refine W.is 40 hc202 (by kernel_rfl) ?_
      refine W.run Dk 1 101 (by kernel_rfl) ?_
      obtain ⟨r62, hx203, hv201⟩ := bind_some hv201
      refine W.call0 (m_spec_IsExpr_ok a2 hx203) cok98 rfl (by kernel_rfl) ?_
      refine W.run Dk 2 101 (by kernel_rfl) ?_
      rcases cond_some hv201 with ⟨hc204, hv201⟩ | ⟨hc204, hv201⟩
      ·refine W.is 44 hc204 (by kernel_rfl) ?_
       refine W.run Dk 7 101 (by kernel_rfl) ?_
       have hv201 := Option.some.inj hv201
       subst hv201
       exact W.fs [] [6] (by kernel_rfl)
      refine W.is 44 hc204 (by kernel_rfl) ?_
      refine W.run Dk 3 101 (by kernel_rfl) ?_
      rcases cond_some hv201 with ⟨hc205, hv201⟩ | ⟨hc205, hv201⟩
      ·refine W.is 47 hc205 (by kernel_rfl) ?_
       refine W.run Dk 4 101 (by kernel_rfl) ?_
       have hv201 := Option.some.inj hv201
       subst hv201
       exact W.fs [] [6] (by kernel_rfl)
      refine W.is 47 hc205 (by kernel_rfl) ?_
      refine W.run Dk 4 101 (by kernel_rfl) ?_
      have hv201 := Option.some.inj hv201
      subst hv201
      exact W.fs [] [6] (by kernel_rfl)
     refine W.is 40 hc202 (by kernel_rfl) ?_
     refine W.run Dk 7 101 (by kernel_rfl) ?_
     rcases cond_some hv201 with ⟨hc206, hv201⟩ | ⟨hc206, hv201⟩
     ·refine W.is 47 hc206 (by kernel_rfl) ?_
      refine W.run Dk 4 101 (by kernel_rfl) ?_
      have hv201 := Option.some.inj hv201
      subst hv201
      exact W.fs [] [6] (by kernel_rfl)
     refine W.is 47 hc206 (by kernel_rfl) ?_
     refine W.run Dk 4 101 (by kernel_rfl) ?_
     have hv201 := Option.some.inj hv201
     subst hv201
     exact W.fs [] [6] (by kernel_rfl)
     ) ?_
    refine CO.ret ?_
    have h181 := Option.some.inj h181
    subst h181
    exact Ends.gen [] (.inr rfl) (RetV.one rfl (OneR.tmp (t := 6) (r := V.b y61) (by kernel_rfl))) (by kernel_rfl) (by kernel_rfl) (by kernel_rfl)
   refine CO.ifF hc195 (by kernel_rfl) ?_
   refine cu Dk mix 2 101 (tl 184 [(1, V.i a1), (2, V.i a2), (3, .loc 100 0), (7, V.b (a1 == (IntKind.wrap .i64 ((a0.Kids.length : Int) - 1)))), (8, V.b (a2 == 33)), (18, V.i a0.Kind), (51, V.b (a0.Kind == 29))]) [(100, .cells 53 [V.i a0.Kind, V.i a0.Op, V.s a0.Text, V.s a0.Other, .sl false false (a0.Kids.map encI)])] (by kernel_rfl) ?_
   rcases cond_some h181 with ⟨hc207, h181⟩ | ⟨hc207, h181⟩
   ·refine CO.ifT hc207 (by kernel_rfl) ?_
    obtain ⟨y64, hv213, h181⟩ := bind_some h181
    refine CO.cutR (tl 184 [(6, V.b y64)]) [] mix (by
     refine W.run Dk 3 101 (by kernel_rfl) ?_
     rcases cond_some hv213 with ⟨hc214, hv213⟩ | ⟨hc214, hv213⟩
     ·refine W.is 55 hc214 (by kernel_rfl) ?_
      refine W.run Dk 1 101 (by kernel_rfl) ?_
      obtain ⟨r65, hx215, hv213⟩ := bind_some hv213
      refine W.call0 (m_spec_IsExpr_ok a2 hx215) cok98 rfl (by kernel_rfl) ?_
      refine W.run Dk 2 101 (by kernel_rfl) ?_
      rcases cond_some hv213 with ⟨hc216, hv213⟩ | ⟨hc216, hv213⟩
      ·refine W.is 59 hc216 (by kernel_rfl) ?_
       refine W.run Dk 7 101 (by kernel_rfl) ?_
       have hv213 := Option.some.inj hv213
       subst hv213
       exact W.fs [] [6] (by kernel_rfl)
      refine W.is 59 hc216 (by kernel_rfl) ?_
      refine W.run Dk 3 101 (by kernel_rfl) ?_
      rcases cond_some hv213 with ⟨hc217, hv213⟩ | ⟨hc217, hv213⟩
      ·refine W.is 62 hc217 (by kernel_rfl) ?_
       refine W.run Dk 4 101 (by kernel_rfl) ?_
       have hv213 := Option.some.inj hv213
       subst hv213
       exact W.fs [] [6] (by kernel_rfl)
      refine W.is 62 hc217 (by kernel_rfl) ?_
      refine W.run Dk 4 101 (by kernel_rfl) ?_
      have hv213 := Option.some.inj hv213
      subst hv213
      exact W.fs [] [6] (by kernel_rfl)
     refine W.is 55 hc214 (by kernel_rfl) ?_
     refine W.run Dk 7 101 (by kernel_rfl) ?_
     rcases cond_some hv213 with ⟨hc218, hv213⟩ | ⟨hc218, hv213⟩
     ·refine W.is 62 hc218 (by kernel_rfl) ?_
      refine W.run Dk 4 101 (by kernel_rfl) ?_
      have hv213 := Option.some.inj hv213
      subst hv213
      exact W.fs [] [6] (by kernel_rfl)
     refine W.is 62 hc218 (by kernel_rfl) ?_
     refine W.run Dk 4 101 (by kernel_rfl) ?_
     have hv213 := Option.some.inj hv213
     subst hv213
     exact W.fs [] [6] (by kernel_rfl)
     ) ?_
    refine CO.ret ?_
    have h181 := Option.some.inj h181
    subst h181
    exact Ends.gen [] (.inr rfl) (RetV.one rfl (OneR.tmp (t := 6) (r := V.b y64) (by kernel_rfl))) (by kernel_rfl) (by kernel_rfl) (by kernel_rfl)
   refine CO.ifF hc207 (by kernel_rfl) ?_
   refine cu Dk mix 2 101 (tl 184 [(1, V.i a1), (2, V.i a2), (3, .loc 100 0), (7, V.b (a1 == (IntKind.wrap .i64 ((a0.Kids.length : Int) - 1)))), (8, V.b (a2 == 33)), (18, V.i a0.Kind), (66, V.b (a0.Kind == 30))]) [(100, .cells 53 [V.i a0.Kind, V.i a0.Op, V.s a0.Text, V.s a0.Other, .sl false false (a0.Kids.map encI)])] (by kernel_rfl) ?_
   rcases cond_some h181 with ⟨hc219, h181⟩ | ⟨hc219, h181⟩
   ·refine CO.ifT hc219 (by kernel_rfl) ?_
    obtain ⟨y68, hv226, h181⟩ := bind_some h181
    refine CO.cutR (tl 184 [(6, V.b y68)]) [] mix (by
     refine W.run Dk 3 101 (by kernel_rfl) ?_
     rcases cond_some hv226 with ⟨hc227, hv226⟩ | ⟨hc227, hv226⟩
     ·refine W.is 70 hc227 (by kernel_rfl) ?_
      refine W.run Dk 3 101 (by kernel_rfl) ?_
      rcases cond_some hv226 with ⟨hc228, hv226⟩ | ⟨hc228, hv226⟩
      ·refine W.is 73 hc228 (by kernel_rfl) ?_
       refine W.run Dk 8 101 (by kernel_rfl) ?_
       have hv226 := Option.some.inj hv226
       subst hv226
       exact W.fs [] [6] (by kernel_rfl)
      refine W.is 73 hc228 (by kernel_rfl) ?_
      refine W.run Dk 3 101 (by kernel_rfl) ?_
      rcases cond_some hv226 with ⟨hc229, hv226⟩ | ⟨hc229, hv226⟩
      ·refine W.is 76 hc229 (by kernel_rfl) ?_
       refine W.run Dk 1 101 (by kernel_rfl) ?_
       obtain ⟨r69, hx230, hv226⟩ := bind_some hv226
       refine W.call0 (m_spec_IsExpr_ok a2 hx230) cok98 rfl (by kernel_rfl) ?_
       refine W.run Dk 3 101 (by kernel_rfl) ?_
       have hv226 := Option.some.inj hv226
       subst hv226
       exact W.fs [] [6] (by kernel_rfl)
      refine W.is 76 hc229 (by kernel_rfl) ?_
      refine W.run Dk 5 101 (by kernel_rfl) ?_
      have hv226 := Option.some.inj hv226
      subst hv226
      exact W.fs [] [6] (by kernel_rfl)
     refine W.is 70 hc227 (by kernel_rfl) ?_
     refine W.run Dk 6 101 (by kernel_rfl) ?_
     rcases cond_some hv226 with ⟨hc231, hv226⟩ | ⟨hc231, hv226⟩
     ·refine W.is 76 hc231 (by kernel_rfl) ?_
      refine W.run Dk 1 101 (by kernel_rfl) ?_
      obtain ⟨r70, hx232, hv226⟩ := bind_some hv226
      refine W.call0 (m_spec_IsExpr_ok a2 hx232) cok98 rfl (by kernel_rfl) ?_
      refine W.run Dk 3 101 (by kernel_rfl) ?_
      have hv226 := Option.some.inj hv226
      subst hv226
      exact W.fs [] [6] (by kernel_rfl)
     refine W.is 76 hc231 (by kernel_rfl) ?_
     refine W.run Dk 5 101 (by kernel_rfl) ?_
     have hv226 := Option.some.inj hv226
     subst hv226
     exact W.fs [] [6] (by kernel_rfl)
     ) ?_
    refine CO.ret ?_
    have h181 := Option.some.inj h181
    subst h181
    exact Ends.gen [] (.inr rfl) (RetV.one rfl (OneR.tmp (t := 6) (r := V.b y68) (by kernel_rfl))) (by kernel_rfl) (by kernel_rfl) (by kernel_rfl)
   refine CO.ifF hc219 (by kernel_rfl) ?_
   refine cu Dk mix 2 101 (tl 184 [(1, V.i a1), (2, V.i a2), (3, .loc 100 0), (7, V.b (a1 == (IntKind.wrap .i64 ((a0.Kids.length : Int) - 1)))), (8, V.b (a2 == 33)), (18, V.i a0.Kind), (81, V.b (a0.Kind == 31))]) [(100, .cells 53 [V.i a0.Kind, V.i a0.Op, V.s a0.Text, V.s a0.Other, .sl false false (a0.Kids.map encI)])] (by kernel_rfl) ?_
   rcases cond_some h181 with ⟨hc233, h181⟩ | ⟨hc233, h181⟩
   ·refine CO.ifT hc233 (by kernel_rfl) ?_
    obtain ⟨y72, hv240, h181⟩ := bind_some h181
    refine CO.cutR (tl 184 [(6, V.b y72)]) [] mix (by
     refine W.run Dk 3 101 (by kernel_rfl) ?_
     rcases cond_some hv240 with ⟨hc241, hv240⟩ | ⟨hc241, hv240⟩
     ·refine W.is 85 hc241 (by kernel_rfl) ?_
      refine W.run Dk 1 101 (by kernel_rfl) ?_
      obtain ⟨r73, hx242, hv240⟩ := bind_some hv240
      refine W.call0 (m_spec_IsExpr_ok a2 hx242) cok98 rfl (by kernel_rfl) ?_
      refine W.run Dk 1 101 (by kernel_rfl) ?_
      rcases cond_some hv240 with ⟨hc243, hv240⟩ | ⟨hc243, hv240⟩
      ·refine W.is 88 hc243 (by kernel_rfl) ?_
       refine W.run Dk 12 101 (by kernel_rfl) ?_
       have hv240 := Option.some.inj hv240
       subst hv240
       exact W.fs [] [6] (by kernel_rfl)
      refine W.is 88 hc243 (by kernel_rfl) ?_
      refine W.run Dk 5 101 (by kernel_rfl) ?_
      rcases cond_some hv240 with ⟨hc244, hv240⟩ | ⟨hc244, hv240⟩
      ·refine W.is 93 hc244 (by kernel_rfl) ?_
       refine W.run Dk 7 101 (by kernel_rfl) ?_
       have hv240 := Option.some.inj hv240
       subst hv240
       exact W.fs [] [6] (by kernel_rfl)
      refine W.is 93 hc244 (by kernel_rfl) ?_
      refine W.run Dk 3 101 (by kernel_rfl) ?_
      rcases cond_some hv240 with ⟨hc245, hv240⟩ | ⟨hc245, hv240⟩
      ·refine W.is 96 hc245 (by kernel_rfl) ?_
       refine W.run Dk 4 101 (by kernel_rfl) ?_
       have hv240 := Option.some.inj hv240
       subst hv240
       exact W.fs [] [6] (by kernel_rfl)
      refine W.is 96 hc245 (by kernel_rfl) ?_
      refine W.run Dk 4 101 (by kernel_rfl) ?_
      have hv240 := Option.some.inj hv240
      subst hv240
      exact W.fs [] [6] (by kernel_rfl)
     refine W.is 85 hc241 (by kernel_rfl) ?_
     refine W.run Dk 11 101 (by kernel_rfl) ?_
     rcases cond_some hv240 with ⟨hc246, hv240⟩ | ⟨hc246, hv240⟩
     ·refine W.is 96 hc246 (by kernel_rfl) ?_
      refine W.run Dk 4 101 (by kernel_rfl) ?_
      have hv240 := Option.some.inj hv240
      subst hv240
      exact W.fs [] [6] (by kernel_rfl)
     refine W.is 96 hc246 (by kernel_rfl) ?_
     refine W.run Dk 4 101 (by kernel_rfl) ?_
     have hv240 := Option.some.inj hv240
     subst hv240
     exact W.fs [] [6] (by kernel_rfl)
     ) ?_
    refine CO.ret ?_
    have h181 := Option.some.inj h181
    subst h181
    exact Ends.gen [] (.inr rfl) (RetV.one rfl (OneR.tmp (t := 6) (r := V.b y72) (by kernel_rfl))) (by kernel_rfl) (by kernel_rfl) (by kernel_rfl)
   refine CO.ifF hc233 (by kernel_rfl) ?_
   refine CO.join (fun (⟨a1, a2, a0, y74⟩ : (Int × Int × SNode × Bool)) => ⟨tl 184 [(1, V.i a1), (2, V.i a2), (3, .loc 100 0), (7, V.b (a1 == (IntKind.wrap .i64 ((a0.Kids.length : Int) - 1)))), (8, V.b (a2 == 33)), (18, V.i a0.Kind), (100, V.b y74)], [(100, .cells 53 [V.i a0.Kind, V.i a0.Op, V.s a0.Text, V.s a0.Other, .sl false false (a0.Kids.map encI)])]⟩) (fun i => m_spec_l7Kid_k2 i = some r) ?_ ?_
   · rintro ⟨a1, a2, a0, y74⟩ h249
     rw [m_spec_l7Kid_k2] at h249
     rcases cond_some h249 with ⟨hc250, h249⟩ | ⟨hc250, h249⟩
     ·refine CO.ifT hc250 (by kernel_rfl) ?_
      refine cu Dk mix 2 101 (tl 184 [(6, V.b (a2 == 33))]) [] (by kernel_rfl) ?_
      refine CO.ret ?_
      have h249 := Option.some.inj h249
      subst h249
      exact Ends.gen [] (.inr rfl) (RetV.one rfl (OneR.tmp (t := 6) (r := V.b (a2 == 33)) (by kernel_rfl))) (by kernel_rfl) (by kernel_rfl) (by kernel_rfl)
     refine CO.ifF hc250 (by kernel_rfl) ?_
     refine cu Dk mix 2 101 (tl 184 [(1, V.i a1), (2, V.i a2), (3, .loc 100 0), (7, V.b (a1 == (IntKind.wrap .i64 ((a0.Kids.length : Int) - 1)))), (8, V.b (a2 == 33)), (18, V.i a0.Kind), (105, V.b (a0.Kind == 33))]) [(100, .cells 53 [V.i a0.Kind, V.i a0.Op, V.s a0.Text, V.s a0.Other, .sl false false (a0.Kids.map encI)])] (by kernel_rfl) ?_
     rcases cond_some h249 with ⟨hc251, h249⟩ | ⟨hc251, h249⟩
     ·refine CO.ifT hc251 (by kernel_rfl) ?_
      obtain ⟨r76, hx253, h249⟩ := bind_some h249
      refine CO.cutR (tl 184 [(6, V.b r76)]) [] mix (by
       refine W.run Dk 1 101 (by kernel_rfl) ?_
       refine W.call0 (m_spec_IsStmt_ok a2 hx253) cok125 rfl (by kernel_rfl) ?_
       refine W.run Dk 1 101 (by kernel_rfl) ?_
       exact W.fi (by kernel_rfl)
       ) ?_
      refine CO.ret ?_
      have h249 := Option.some.inj h249
      subst h249
      exact Ends.gen [] (.inr rfl) (RetV.one rfl (OneR.tmp (t := 6) (r := V.b r76) (by kernel_rfl))) (by kernel_rfl) (by kernel_rfl) (by kernel_rfl)
     refine CO.ifF hc251 (by kernel_rfl) ?_
     refine cu Dk mix 2 101 (tl 184 [(1, V.i a1), (2, V.i a2), (3, .loc 100 0), (7, V.b (a1 == (IntKind.wrap .i64 ((a0.Kids.length : Int) - 1)))), (8, V.b (a2 == 33)), (18, V.i a0.Kind), (109, V.b (a0.Kind == 42))]) [(100, .cells 53 [V.i a0.Kind, V.i a0.Op, V.s a0.Text, V.s a0.Other, .sl false false (a0.Kids.map encI)])] (by kernel_rfl) ?_
     rcases cond_some h249 with ⟨hc254, h249⟩ | ⟨hc254, h249⟩
     ·refine CO.ifT hc254 (by kernel_rfl) ?_
      obtain ⟨y86, hv290, h249⟩ := bind_some h249
      refine CO.cutR (tl 184 [(6, V.b y86)]) [] mix (by
       refine W.run Dk 4 101 (by kernel_rfl) ?_
       rcases cond_some hv290 with ⟨hc291, hv290⟩ | ⟨hc291, hv290⟩
       ·refine W.is 114 hc291 (by kernel_rfl) ?_
        refine W.run Dk 1 101 (by kernel_rfl) ?_
        obtain ⟨r87, hx292, hv290⟩ := bind_some hv290
        refine W.call0 (m_spec_IsExpr_ok a2 hx292) cok98 rfl (by kernel_rfl) ?_
        refine W.run Dk 2 101 (by kernel_rfl) ?_
        rcases cond_some hv290 with ⟨hc293, hv290⟩ | ⟨hc293, hv290⟩
        ·refine W.is 118 hc293 (by kernel_rfl) ?_
         refine W.run Dk 27 101 (by kernel_rfl) ?_
         have hv290 := Option.some.inj hv290
         subst hv290
         exact W.fs [] [6] (by kernel_rfl)
        refine W.is 118 hc293 (by kernel_rfl) ?_
        refine W.run Dk 4 101 (by kernel_rfl) ?_
        rcases cond_some hv290 with ⟨hc294, hv290⟩ | ⟨hc294, hv290⟩
        ·refine W.is 122 hc294 (by kernel_rfl) ?_
         refine W.run Dk 4 101 (by kernel_rfl) ?_
         rcases cond_some hv290 with ⟨hc295, hv290⟩ | ⟨hc295, hv290⟩
         ·refine W.is 126 hc295 (by kernel_rfl) ?_
          refine W.run Dk 19 101 (by kernel_rfl) ?_
          have hv290 := Option.some.inj hv290
          subst hv290
          exact W.fs [] [6] (by kernel_rfl)
         refine W.is 126 hc295 (by kernel_rfl) ?_
         refine W.run Dk 4 101 (by kernel_rfl) ?_
         rcases cond_some hv290 with ⟨hc296, hv290⟩ | ⟨hc296, hv290⟩
         ·refine W.is 130 hc296 (by kernel_rfl) ?_
          refine W.run Dk 2 101 (by kernel_rfl) ?_
          rcases cond_some hv290 with ⟨hc297, hv290⟩ | ⟨hc297, hv290⟩
          ·refine W.is 132 hc297 (by kernel_rfl) ?_
           refine W.run Dk 3 101 (by kernel_rfl) ?_
           rcases cond_some hv290 with ⟨hc298, hv290⟩ | ⟨hc298, hv290⟩
           ·refine W.is 135 hc298 (by kernel_rfl) ?_
            refine W.run Dk 10 101 (by kernel_rfl) ?_
            have hv290 := Option.some.inj hv290
            subst hv290
            exact W.fs [] [6] (by kernel_rfl)
           refine W.is 135 hc298 (by kernel_rfl) ?_
           refine W.run Dk 3 101 (by kernel_rfl) ?_
           rcases cond_some hv290 with ⟨hc299, hv290⟩ | ⟨hc299, hv290⟩
           ·refine W.is 138 hc299 (by kernel_rfl) ?_
            refine W.run Dk 1 101 (by kernel_rfl) ?_
            obtain ⟨r88, hx300, hv290⟩ := bind_some hv290
            refine W.call0 (m_spec_IsExpr_ok a2 hx300) cok98 rfl (by kernel_rfl) ?_
            refine W.run Dk 5 101 (by kernel_rfl) ?_
            have hv290 := Option.some.inj hv290
            subst hv290
            exact W.fs [] [6] (by kernel_rfl)
           refine W.is 138 hc299 (by kernel_rfl) ?_
           refine W.run Dk 7 101 (by kernel_rfl) ?_
           have hv290 := Option.some.inj hv290
           subst hv290
           exact W.fs [] [6] (by kernel_rfl)
          refine W.is 132 hc297 (by kernel_rfl) ?_
          refine W.run Dk 6 101 (by kernel_rfl) ?_
          rcases cond_some hv290 with ⟨hc301, hv290⟩ | ⟨hc301, hv290⟩
          ·refine W.is 138 hc301 (by kernel_rfl) ?_
           refine W.run Dk 1 101 (by kernel_rfl) ?_
           obtain ⟨r89, hx302, hv290⟩ := bind_some hv290
           refine W.call0 (m_spec_IsExpr_ok a2 hx302) cok98 rfl (by kernel_rfl) ?_
           refine W.run Dk 5 101 (by kernel_rfl) ?_
           have hv290 := Option.some.inj hv290
           subst hv290
           exact W.fs [] [6] (by kernel_rfl)
          refine W.is 138 hc301 (by kernel_rfl) ?_
          refine W.run Dk 7 101 (by kernel_rfl) ?_
          have hv290 := Option.some.inj hv290
          subst hv290
          exact W.fs [] [6] (by kernel_rfl)
         refine W.is 130 hc296 (by kernel_rfl) ?_
         refine W.run Dk 15 101 (by kernel_rfl) ?_
         have hv290 := Option.some.inj hv290
         subst hv290
         exact W.fs [] [6] (by kernel_rfl)
        refine W.is 122 hc294 (by kernel_rfl) ?_
        refine W.run Dk 8 101 (by kernel_rfl) ?_
        rcases cond_some hv290 with ⟨hc303, hv290⟩ | ⟨hc303, hv290⟩
        ·refine W.is 130 hc303 (by kernel_rfl) ?_
         refine W.run Dk 2 101 (by kernel_rfl) ?_
         rcases cond_some hv290 with ⟨hc304, hv290⟩ | ⟨hc304, hv290⟩
         ·refine W.is 132 hc304 (by kernel_rfl) ?_
          refine W.run Dk 3 101 (by kernel_rfl) ?_
          rcases cond_some hv290 with ⟨hc305, hv290⟩ | ⟨hc305, hv290⟩
          ·refine W.is 135 hc305 (by kernel_rfl) ?_
           refine W.run Dk 10 101 (by kernel_rfl) ?_
           have hv290 := Option.some.inj hv290
           subst hv290
           exact W.fs [] [6] (by kernel_rfl)
          refine W.is 135 hc305 (by kernel_rfl) ?_
          refine W.run Dk 3 101 (by kernel_rfl) ?_
          rcases cond_some hv290 with ⟨hc306, hv290⟩ | ⟨hc306, hv290⟩
          ·refine W.is 138 hc306 (by kernel_rfl) ?_
           refine W.run Dk 1 101 (by kernel_rfl) ?_
           obtain ⟨r90, hx307, hv290⟩ := bind_some hv290
           refine W.call0 (m_spec_IsExpr_ok a2 hx307) cok98 rfl (by kernel_rfl) ?_
           refine W.run Dk 5 101 (by kernel_rfl) ?_
           have hv290 := Option.some.inj hv290
           subst hv290
           exact W.fs [] [6] (by kernel_rfl)
          refine W.is 138 hc306 (by kernel_rfl) ?_
          refine W.run Dk 7 101 (by kernel_rfl) ?_
          have hv290 := Option.some.inj hv290
          subst hv290
          exact W.fs [] [6] (by kernel_rfl)
         refine W.is 132 hc304 (by kernel_rfl) ?_
         refine W.run Dk 6 101 (by kernel_rfl) ?_
         rcases cond_some hv290 with ⟨hc308, hv290⟩ | ⟨hc308, hv290⟩
         ·refine W.is 138 hc308 (by kernel_rfl) ?_
          refine W.run Dk 1 101 (by kernel_rfl) ?_
          obtain ⟨r91, hx309, hv290⟩ := bind_some hv290
          refine W.call0 (m_spec_IsExpr_ok a2 hx309) cok98 rfl (by kernel_rfl) ?_
          refine W.run Dk 5 101 (by kernel_rfl) ?_
          have hv290 := Option.some.inj hv290
          subst hv290
          exact W.fs [] [6] (by kernel_rfl)
         refine W.is 138 hc308 (by kernel_rfl) ?_
         refine W.run Dk 7 101 (by kernel_rfl) ?_
         have hv290 := Option.some.inj hv290
         subst hv290
         exact W.fs [] [6] (by kernel_rfl)
        refine W.is 130 hc303 (by kernel_rfl) ?_
        refine W.run Dk 15 101 (by kernel_rfl) ?_
        have hv290 := Option.some.inj hv290
        subst hv290
        exact W.fs [] [6] (by kernel_rfl)
       refine W.is 114 hc291 (by kernel_rfl) ?_
       refine W.run Dk 8 101 (by kernel_rfl) ?_
       rcases cond_some hv290 with ⟨hc310, hv290⟩ | ⟨hc310, hv290⟩
       ·refine W.is 122 hc310 (by kernel_rfl) ?_
        refine W.run Dk 4 101 (by kernel_rfl) ?_
        rcases cond_some hv290 with ⟨hc311, hv290⟩ | ⟨hc311, hv290⟩
        ·refine W.is 126 hc311 (by kernel_rfl) ?_
         refine W.run Dk 19 101 (by kernel_rfl) ?_
         have hv290 := Option.some.inj hv290
         subst hv290
         exact W.fs [] [6] (by kernel_rfl)
        refine W.is 126 hc311 (by kernel_rfl) ?_
        refine W.run Dk 4 101 (by kernel_rfl) ?_
        rcases cond_some hv290 with ⟨hc312, hv290⟩ | ⟨hc312, hv290⟩
        ·refine W.is 130 hc312 (by kernel_rfl) ?_
         refine W.run Dk 2 101 (by kernel_rfl) ?_
         rcases cond_some hv290 with ⟨hc313, hv290⟩ | ⟨hc313, hv290⟩
         ·refine W.is 132 hc313 (by kernel_rfl) ?_
          refine W.run Dk 3 101 (by kernel_rfl) ?_
          rcases cond_some hv290 with ⟨hc314, hv290⟩ | ⟨hc314, hv290⟩
          ·refine W.is 135 hc314 (by kernel_rfl) ?_
           refine W.run Dk 10 101 (by kernel_rfl) ?_
           have hv290 := Option.some.inj hv290
           subst hv290
           exact W.fs [] [6] (by kernel_rfl)
          refine W.is 135 hc314 (by kernel_rfl) ?_
          refine W.run Dk 3 101 (by kernel_rfl) ?_
          rcases cond_some hv290 with ⟨hc315, hv290⟩ | ⟨hc315, hv290⟩
          ·refine W.is 138 hc315 (by kernel_rfl) ?_
           refine W.run Dk 1 101 (by kernel_rfl) ?_
           obtain ⟨r92, hx316, hv290⟩ := bind_some hv290
           refine W.call0 (m_spec_IsExpr_ok a2 hx316) cok98 rfl (by kernel_rfl) ?_
           refine W.run Dk 5 101 (by kernel_rfl) ?_
           have hv290 := Option.some.inj hv290
           subst hv290
           exact W.fs [] [6] (by kernel_rfl)
          refine W.is 138 hc315 (by kernel_rfl) ?_
          refine W.run Dk 7 101 (by kernel_rfl) ?_
          have hv290 := Option.some.inj hv290
          subst hv290
          exact W.fs [] [6] (by kernel_rfl)
         refine W.is 132 hc313 (by kernel_rfl) ?_
         refine W.run Dk 6 101 (by kernel_rfl) ?_
         rcases cond_some hv290 with ⟨hc317, hv290⟩ | ⟨hc317, hv290⟩
         ·refine W.is 138 hc317 (by kernel_rfl) ?_
          refine W.run Dk 1 101 (by kernel_rfl) ?_
          obtain ⟨r93, hx318, hv290⟩ := bind_some hv290
          refine W.call0 (m_spec_IsExpr_ok a2 hx318) cok98 rfl (by kernel_rfl) ?_
          refine W.run Dk 5 101 (by kernel_rfl) ?_
          have hv290 := Option.some.inj hv290
          subst hv290
          exact W.fs [] [6] (by kernel_rfl)
         refine W.is 138 hc317 (by kernel_rfl) ?_
         refine W.run Dk 7 101 (by kernel_rfl) ?_
         have hv290 := Option.some.inj hv290
         subst hv290
         exact W.fs [] [6] (by kernel_rfl)
        refine W.is 130 hc312 (by kernel_rfl) ?_
        refine W.run Dk 15 101 (by kernel_rfl) ?_
        have hv290 := Option.some.inj hv290
        subst hv290
        exact W.fs [] [6] (by kernel_rfl)
       refine W.is 122 hc310 (by kernel_rfl) ?_
       refine W.run Dk 8 101 (by kernel_rfl) ?_
       rcases cond_some hv290 with ⟨hc319, hv290⟩ | ⟨hc319, hv290⟩
       ·refine W.is 130 hc319 (by kernel_rfl) ?_
        refine W.run Dk 2 101 (by kernel_rfl) ?_
        rcases cond_some hv290 with ⟨hc320, hv290⟩ | ⟨hc320, hv290⟩
        ·refine W.is 132 hc320 (by kernel_rfl) ?_
         refine W.run Dk 3 101 (by kernel_rfl) ?_
         rcases cond_some hv290 with ⟨hc321, hv290⟩ | ⟨hc321, hv290⟩
         ·refine W.is 135 hc321 (by kernel_rfl) ?_
          refine W.run Dk 10 101 (by kernel_rfl) ?_
          have hv290 := Option.some.inj hv290
          subst hv290
          exact W.fs [] [6] (by kernel_rfl)
         refine W.is 135 hc321 (by kernel_rfl) ?_
         refine W.run Dk 3 101 (by kernel_rfl) ?_
         rcases cond_some hv290 with ⟨hc322, hv290⟩ | ⟨hc322, hv290⟩
         ·refine W.is 138 hc322 (by kernel_rfl) ?_
          refine W.run Dk 1 101 (by kernel_rfl) ?_
          obtain ⟨r94, hx323, hv290⟩ := bind_some hv290
          refine W.call0 (m_spec_IsExpr_ok a2 hx323) cok98 rfl (by kernel_rfl) ?_
          refine W.run Dk 5 101 (by kernel_rfl) ?_
          have hv290 := Option.some.inj hv290
          subst hv290
          exact W.fs [] [6] (by kernel_rfl)
         refine W.is 138 hc322 (by kernel_rfl) ?_
         refine W.run Dk 7 101 (by kernel_rfl) ?_
         have hv290 := Option.some.inj hv290
         subst hv290
         exact W.fs [] [6] (by kernel_rfl)
        refine W.is 132 hc320 (by kernel_rfl) ?_
        refine W.run Dk 6 101 (by kernel_rfl) ?_
        rcases cond_some hv290 with ⟨hc324, hv290⟩ | ⟨hc324, hv290⟩
        ·refine W.is 138 hc324 (by kernel_rfl) ?_
         refine W.run Dk 1 101 (by kernel_rfl) ?_
         obtain ⟨r95, hx325, hv290⟩ := bind_some hv290
         refine W.call0 (m_spec_IsExpr_ok a2 hx325) cok98 rfl (by kernel_rfl) ?_
         refine W.run Dk 5 101 (by kernel_rfl) ?_
         have hv290 := Option.some.inj hv290
         subst hv290
         exact W.fs [] [6] (by kernel_rfl)
        refine W.is 138 hc324 (by kernel_rfl) ?_
        refine W.run Dk 7 101 (by kernel_rfl) ?_
        have hv290 := Option.some.inj hv290
        subst hv290
        exact W.fs [] [6] (by kernel_rfl)
       refine W.is 130 hc319 (by kernel_rfl) ?_
       refine W.run Dk 15 101 (by kernel_rfl) ?_
       have hv290 := Option.some.inj hv290
       subst hv290
       exact W.fs [] [6] (by kernel_rfl)
       ) ?_
      refine CO.ret ?_
      have h249 := Option.some.inj h249
      subst h249
      exact Ends.gen [] (.inr rfl) (RetV.one rfl (OneR.tmp (t := 6) (r := V.b y86) (by kernel_rfl))) (by kernel_rfl) (by kernel_rfl) (by kernel_rfl)
     refine CO.ifF hc254 (by kernel_rfl) ?_
     refine cu Dk mix 2 101 (tl 184 [(1, V.i a1), (2, V.i a2), (7, V.b (a1 == (IntKind.wrap .i64 ((a0.Kids.length : Int) - 1)))), (8, V.b (a2 == 33)), (18, V.i a0.Kind), (145, V.b (a0.Kind == 43))]) [] (by kernel_rfl) ?_
     rcases cond_some h249 with ⟨hc326, h249⟩ | ⟨hc326, h249⟩
     ·refine CO.ifT hc326 (by kernel_rfl) ?_
      obtain ⟨y97, hv332, h249⟩ := bind_some h249
      refine CO.cutR (tl 184 [(6, V.b y97)]) [] mix (by
       refine W.run Dk 3 101 (by kernel_rfl) ?_
       rcases cond_some hv332 with ⟨hc333, hv332⟩ | ⟨hc333, hv332⟩
       ·refine W.is 149 hc333 (by kernel_rfl) ?_
        refine W.run Dk 1 101 (by kernel_rfl) ?_
        obtain ⟨r98, hx334, hv332⟩ := bind_some hv332
        refine W.call0 (m_spec_IsExpr_ok a2 hx334) cok98 rfl (by kernel_rfl) ?_
        refine W.run Dk 2 101 (by kernel_rfl) ?_
        rcases cond_some hv332 with ⟨hc335, hv332⟩ | ⟨hc335, hv332⟩
        ·refine W.is 153 hc335 (by kernel_rfl) ?_
         refine W.run Dk 7 101 (by kernel_rfl) ?_
         have hv332 := Option.some.inj hv332
         subst hv332
         exact W.fs [] [6] (by kernel_rfl)
        refine W.is 153 hc335 (by kernel_rfl) ?_
        refine W.run Dk 3 101 (by kernel_rfl) ?_
        rcases cond_some hv332 with ⟨hc336, hv332⟩ | ⟨hc336, hv332⟩
        ·refine W.is 156 hc336 (by kernel_rfl) ?_
         refine W.run Dk 4 101 (by kernel_rfl) ?_
         have hv332 := Option.some.inj hv332
         subst hv332
         exact W.fs [] [6] (by kernel_rfl)
        refine W.is 156 hc336 (by kernel_rfl) ?_
        refine W.run Dk 4 101 (by kernel_rfl) ?_
        have hv332 := Option.some.inj hv332
        subst hv332
        exact W.fs [] [6] (by kernel_rfl)
       refine W.is 149 hc333 (by kernel_rfl) ?_
       refine W.run Dk 7 101 (by kernel_rfl) ?_
       rcases cond_some hv332 with ⟨hc337, hv332⟩ | ⟨hc337, hv332⟩
       ·refine W.is 156 hc337 (by kernel_rfl) ?_
        refine W.run Dk 4 101 (by kernel_rfl) ?_
        have hv332 := Option.some.inj hv332
        subst hv332
        exact W.fs [] [6] (by kernel_rfl)
       refine W.is 156 hc337 (by kernel_rfl) ?_
       refine W.run Dk 4 101 (by kernel_rfl) ?_
       have hv332 := Option.some.inj hv332
       subst hv332
       exact W.fs [] [6] (by kernel_rfl)
       ) ?_
      refine CO.ret ?_
      have h249 := Option.some.inj h249
      subst h249
      exact Ends.gen [] (.inr rfl) (RetV.one rfl (OneR.tmp (t := 6) (r := V.b y97) (by kernel_rfl))) (by kernel_rfl) (by kernel_rfl) (by kernel_rfl)
     refine CO.ifF hc326 (by kernel_rfl) ?_
     refine cu Dk mix 2 101 (tl 184 [(2, V.i a2), (7, V.b (a1 == (IntKind.wrap .i64 ((a0.Kids.length : Int) - 1)))), (8, V.b (a2 == 33)), (18, V.i a0.Kind), (160, V.b (a0.Kind == 44))]) [] (by kernel_rfl) ?_
     rcases cond_some h249 with ⟨hc338, h249⟩ | ⟨hc338, h249⟩
     ·refine CO.ifT hc338 (by kernel_rfl) ?_
      obtain ⟨y99, hv343, h249⟩ := bind_some h249
      refine CO.cutR (tl 184 [(6, V.b y99)]) [] mix (by
       refine W.run Dk 2 101 (by kernel_rfl) ?_
       rcases cond_some hv343 with ⟨hc344, hv343⟩ | ⟨hc344, hv343⟩
       ·refine W.is 163 hc344 (by kernel_rfl) ?_
        refine W.run Dk 3 101 (by kernel_rfl) ?_
        rcases cond_some hv343 with ⟨hc345, hv343⟩ | ⟨hc345, hv343⟩
        ·refine W.is 166 hc345 (by kernel_rfl) ?_
         refine W.run Dk 8 101 (by kernel_rfl) ?_
         have hv343 := Option.some.inj hv343
         subst hv343
         exact W.fs [] [6] (by kernel_rfl)
        refine W.is 166 hc345 (by kernel_rfl) ?_
        refine W.run Dk 3 101 (by kernel_rfl) ?_
        rcases cond_some hv343 with ⟨hc346, hv343⟩ | ⟨hc346, hv343⟩
        ·refine W.is 169 hc346 (by kernel_rfl) ?_
         refine W.run Dk 5 101 (by kernel_rfl) ?_
         have hv343 := Option.some.inj hv343
         subst hv343
         exact W.fs [] [6] (by kernel_rfl)
        refine W.is 169 hc346 (by kernel_rfl) ?_
        refine W.run Dk 5 101 (by kernel_rfl) ?_
        have hv343 := Option.some.inj hv343
        subst hv343
        exact W.fs [] [6] (by kernel_rfl)
       refine W.is 163 hc344 (by kernel_rfl) ?_
       refine W.run Dk 6 101 (by kernel_rfl) ?_
       rcases cond_some hv343 with ⟨hc347, hv343⟩ | ⟨hc347, hv343⟩
       ·refine W.is 169 hc347 (by kernel_rfl) ?_
        refine W.run Dk 5 101 (by kernel_rfl) ?_
        have hv343 := Option.some.inj hv343
        subst hv343
        exact W.fs [] [6] (by kernel_rfl)
       refine W.is 169 hc347 (by kernel_rfl) ?_
       refine W.run Dk 5 101 (by kernel_rfl) ?_
       have hv343 := Option.some.inj hv343
       subst hv343
       exact W.fs [] [6] (by kernel_rfl)
       ) ?_
      refine CO.ret ?_
      have h249 := Option.some.inj h249
      subst h249
      exact Ends.gen [] (.inr rfl) (RetV.one rfl (OneR.tmp (t := 6) (r := V.b y99) (by kernel_rfl))) (by kernel_rfl) (by kernel_rfl) (by kernel_rfl)
     refine CO.ifF hc338 (by kernel_rfl) ?_
     refine cu Dk mix 2 101 (tl 184 [(2, V.i a2), (174, V.b (a0.Kind == 45))]) [] (by kernel_rfl) ?_
     rcases cond_some h249 with ⟨hc348, h249⟩ | ⟨hc348, h249⟩
     ·refine CO.ifT hc348 (by kernel_rfl) ?_
      obtain ⟨y101, hv351, h249⟩ := bind_some h249
      refine CO.cutR (tl 184 [(6, V.b y101)]) [] mix (by
       refine W.run Dk 1 101 (by kernel_rfl) ?_
       obtain ⟨r102, hx352, hv351⟩ := bind_some hv351
       refine W.call0 (m_spec_l1In_ok a2 40 44 hx352) cok64 rfl (by kernel_rfl) ?_
       refine W.run Dk 1 101 (by kernel_rfl) ?_
       rcases cond_some hv351 with ⟨hc353, hv351⟩ | ⟨hc353, hv351⟩
       ·refine W.is 178 hc353 (by kernel_rfl) ?_
        refine W.run Dk 4 101 (by kernel_rfl) ?_
        have hv351 := Option.some.inj hv351
        subst hv351
        exact W.fs [] [6] (by kernel_rfl)
       refine W.is 178 hc353 (by kernel_rfl) ?_
       refine W.run Dk 4 101 (by kernel_rfl) ?_
       have hv351 := Option.some.inj hv351
       subst hv351
       exact W.fs [] [6] (by kernel_rfl)
       ) ?_
      refine CO.ret ?_
      have h249 := Option.some.inj h249
      subst h249
      exact Ends.gen [] (.inr rfl) (RetV.one rfl (OneR.tmp (t := 6) (r := V.b y101) (by kernel_rfl))) (by kernel_rfl) (by kernel_rfl) (by kernel_rfl)
     refine CO.ifF hc348 (by kernel_rfl) ?_
     refine CO.skip ?_
     obtain ⟨r104, hx355, h249⟩ := bind_some h249
     refine CO.cutR (tl 184 [(6, V.b r104)]) [] mix (by
      refine W.run Dk 1 101 (by kernel_rfl) ?_
      refine W.call0 (m_spec_IsExpr_ok a2 hx355) cok98 rfl (by kernel_rfl) ?_
      refine W.run Dk 1 101 (by kernel_rfl) ?_
      exact W.fi (by kernel_rfl)
      ) ?_
     refine CO.ret ?_
     have h249 := Option.some.inj h249
     subst h249
     exact Ends.gen [] (.inr rfl) (RetV.one rfl (OneR.tmp (t := 6) (r := V.b r104) (by kernel_rfl))) (by kernel_rfl) (by kernel_rfl) (by kernel_rfl)
   intro hk356
   refine cu Dk mix 2 101 (tl 184 [(1, V.i a1), (2, V.i a2), (3, .loc 100 0), (7, V.b (a1 == (IntKind.wrap .i64 ((a0.Kids.length : Int) - 1)))), (8, V.b (a2 == 33)), (18, V.i a0.Kind), (100, V.b (a0.Kind == 32))]) [(100, .cells 53 [V.i a0.Kind, V.i a0.Op, V.s a0.Text, V.s a0.Other, .sl false false (a0.Kids.map encI)])] (by kernel_rfl) ?_
   rcases cond_some h181 with ⟨hc357, h181⟩ | ⟨hc357, h181⟩
   ·refine CO.ifT hc357 (by kernel_rfl) ?_
    refine CO.skip ?_
    exact hk356 (a1, a2, a0, (a0.Kind == 32)) h181 _ (Weak.sel [(100, 100)] [1, 2, 3, 7, 8, 18, 100] (by kernel_rfl) (by kernel_rfl) (by kernel_rfl))
   refine CO.ifF hc357 (by kernel_rfl) ?_
   refine cu Dk mix 2 101 (tl 184 [(1, V.i a1), (2, V.i a2), (3, .loc 100 0), (7, V.b (a1 == (IntKind.wrap .i64 ((a0.Kids.length : Int) - 1)))), (8, V.b (a2 == 33)), (18, V.i a0.Kind), (100, V.b (a0.Kind == 40))]) [(100, .cells 53 [V.i a0.Kind, V.i a0.Op, V.s a0.Text, V.s a0.Other, .sl false false (a0.Kids.map encI)])] (by kernel_rfl) ?_
   rcases cond_some h181 with ⟨hc358, h181⟩ | ⟨hc358, h181⟩
   ·refine CO.ifT hc358 (by kernel_rfl) ?_
    refine CO.skip ?_
    exact hk356 (a1, a2, a0, (a0.Kind == 40)) h181 _ (Weak.sel [(100, 100)] [1, 2, 3, 7, 8, 18, 100] (by kernel_rfl) (by kernel_rfl) (by kernel_rfl))
   refine CO.ifF hc358 (by kernel_rfl) ?_
   refine ce Dk mix 2 101 (tl 184 [(1, V.i a1), (2, V.i a2), (3, .loc 100 0), (7, V.b (a1 == (IntKind.wrap .i64 ((a0.Kids.length : Int) - 1)))), (8, V.b (a2 == 33)), (18, V.i a0.Kind), (100, V.b (a0.Kind == 41))]) [(100, .cells 53 [V.i a0.Kind, V.i a0.Op, V.s a0.Text, V.s a0.Other, .sl false false (a0.Kids.map encI)])] (by kernel_rfl) (fun st hw => ?_)
   exact hk356 (a1, a2, a0, (a0.Kind == 41)) h181 _ (hw.trans (Weak.sel [(100, 100)] [1, 2, 3, 7, 8, 18, 100] (by kernel_rfl) (by kernel_rfl) (by kernel_rfl)))
 intro hk359
 refine cu Dk mix 2 101 (tl 184 [(1, V.i a1), (2, V.i a2), (3, .loc 100 0), (7, V.b (a1 == (IntKind.wrap .i64 ((a0.Kids.length : Int) - 1)))), (8, V.b (a2 == 33)), (18, V.i a0.Kind), (19, V.b (a0.Kind == 9))]) [(100, .cells 53 [V.i a0.Kind, V.i a0.Op, V.s a0.Text, V.s a0.Other, .sl false false (a0.Kids.map encI)])] (by kernel_rfl) ?_
 rcases cond_some h with ⟨hc360, h⟩ | ⟨hc360, h⟩
 ·refine CO.ifT hc360 (by kernel_rfl) ?_
  refine CO.skip ?_
  exact hk359 (a1, a2, a0, (a0.Kind == 9)) h _ (Weak.sel [(100, 100)] [1, 2, 3, 7, 8, 18, 19] (by kernel_rfl) (by kernel_rfl) (by kernel_rfl))
 refine CO.ifF hc360 (by kernel_rfl) ?_
 refine ce Dk mix 2 101 (tl 184 [(1, V.i a1), (2, V.i a2), (3, .loc 100 0), (7, V.b (a1 == (IntKind.wrap .i64 ((a0.Kids.length : Int) - 1)))), (8, V.b (a2 == 33)), (18, V.i a0.Kind), (19, V.b (a0.Kind == 10))]) [(100, .cells 53 [V.i a0.Kind, V.i a0.Op, V.s a0.Text, V.s a0.Other, .sl false false (a0.Kids.map encI)])] (by kernel_rfl) (fun st hw => ?_)
 exact hk359 (a1, a2, a0, (a0.Kind == 10)) h _ (hw.trans (Weak.sel [(100, 100)] [1, 2, 3, 7, 8, 18, 19] (by kernel_rfl) (by kernel_rfl) (by kernel_rfl)))

theorem m_spec_TreeOk_ok (N : Nat) (a0 : List SNode) {r : Bool} (h : m_spec_TreeOk N a0 = some r) :
    AC Tryz.prog (GS []) 44 [.sl false false (a0.map (eSN false))] [] (V.b r) [] := by
 rw [m_spec_TreeOk] at h
 refine AC.enter Tryz.func44 rfl ?_
 refine cu Dk mix 1 100 (tl 54 [(0, .sl false false (a0.map (eSN false)))]) [] (by kernel_rfl) ?_
 refine CO.seq' ?_
 obtain ⟨y8, hv12, h⟩ := bind_some h
 refine CO.cutR (tl 54 [(0, .sl false false (a0.map (eSN false))), (12, V.b y8)]) [] mix (by
  refine W.run Dk 1 100 (by kernel_rfl) ?_
  obtain ⟨r9, hx13, hv12⟩ := bind_some hv12
  refine W.call0 (m_spec_ShapeOk_ok N a0 hx13) cok85 rfl (by kernel_rfl) ?_
  refine W.run Dk 2 100 (by kernel_rfl) ?_
  rcases cond_some hv12 with ⟨hc14, hv12⟩ | ⟨hc14, hv12⟩
  ·refine W.is 8 hc14 (by kernel_rfl) ?_
   refine W.run Dk 4 100 (by kernel_rfl) ?_
   have hv12 := Option.some.inj hv12
   subst hv12
   exact W.fs [] [0, 12] (by kernel_rfl)
  refine W.is 8 hc14 (by kernel_rfl) ?_
  refine W.run Dk 1 100 (by kernel_rfl) ?_
  obtain ⟨r10, hx15, hv12⟩ := bind_some hv12
  refine W.call0 (m_spec_DepthOf_ok N a0 hx15) cok86 rfl (by kernel_rfl) ?_
  refine W.run Dk 2 100 (by kernel_rfl) ?_
  have hv12 := Option.some.inj hv12
  subst hv12
  exact W.fs [] [0, 12] (by kernel_rfl)
  ) ?_
 rcases cond_some h with ⟨hc16, h⟩ | ⟨hc16, h⟩
 ·refine CO.ifT hc16 (by kernel_rfl) ?_
  refine cu Dk mix 1 100 (tl 54 [(2, V.b false)]) [] (by kernel_rfl) ?_
  refine CO.ret ?_
  have h := Option.some.inj h
  subst h
  exact Ends.gen [] (.inr rfl) (RetV.one rfl (OneR.tmp (t := 2) (r := V.b false) (by kernel_rfl))) (by kernel_rfl) (by kernel_rfl) (by kernel_rfl)
 refine CO.ifF hc16 (by kernel_rfl) ?_
 refine CO.skip ?_
 refine CO.seq' ?_
 refine cu Dk mix 1 100 (tl 54 [(0, .sl false false (a0.map (eSN false))), (3, V.i 0)]) [] (by kernel_rfl) ?_
 refine CO.block' ?_
 refine CO.loopJ (fun (⟨a0, y669⟩ : ((List SNode) × Int)) => ⟨tl 54 [(0, .sl false false (a0.map (eSN false))), (3, V.i y669)], []⟩) (fun n i => m_spec_TreeOk_l1 N n i = some r) (n0 := N) (i0 := (a0, 0)) (Weak.sel [] [0, 3] (by kernel_rfl) (by kernel_rfl) (by kernel_rfl)) h (fun i h => by simp [m_spec_TreeOk_l1] at h) ?_
 rintro n1 ⟨a0, y669⟩ h989 ih990
 rw [m_spec_TreeOk_l1] at h989
 refine CO.seq' ?_
 refine CO.cutR (tl 54 [(0, .sl false false (a0.map (eSN false))), (3, V.i y669), (16, V.b (decide (y669 < (a0.length : Int))))]) [] mix (by
  refine W.run Dk 2 280 (by kernel_rfl) ?_
  refine W.len Dk (eSN false) a0 [] (by kernel_rfl) (by kernel_rfl) ?_
  refine W.run Dk 1 280 (by kernel_rfl) ?_
  exact W.fi (by kernel_rfl)
  ) ?_
 rcases cond_some h989 with ⟨hc992, h989⟩ | ⟨hc992, h989⟩
 ·refine CO.ifT hc992 (by kernel_rfl) ?_
  refine CO.skip ?_
  refine CO.seq' ?_
  refine CO.block' ?_
  refine CO.seq' ?_
  obtain ⟨e923, hx1096, h989⟩ := bind_some h989
  obtain ⟨r924, hx1097, h989⟩ := bind_some h989
  refine CO.cutR (tl 54 [(0, .sl false false (a0.map (eSN false))), (3, V.i y669), (24, V.b (!r924))]) [] mix (by
   refine W.run Dk 2 280 (by kernel_rfl) ?_
   refine W.ixD Dk (eSN false) hx1096 5 (by kernel_rfl) (by kernel_rfl) ?_
   refine W.run Dk 1 280 (by kernel_rfl) ?_
   refine W.call0 (m_spec_FieldsOk_ok N e923 hx1097) cok87 rfl (by kernel_rfl) ?_
   refine W.run Dk 1 280 (by kernel_rfl) ?_
   exact W.fi (by kernel_rfl)
   ) ?_
  rcases cond_some h989 with ⟨hc1098, h989⟩ | ⟨hc1098, h989⟩
  ·refine CO.ifT hc1098 (by kernel_rfl) ?_
   refine cu Dk mix 1 280 (tl 54 [(2, V.b false)]) [] (by kernel_rfl) ?_
   refine CO.ret ?_
   have h989 := Option.some.inj h989
   subst h989
   exact Ends.gen [] (.inr rfl) (RetV.one rfl (OneR.tmp (t := 2) (r := V.b false) (by kernel_rfl))) (by kernel_rfl) (by kernel_rfl) (by kernel_rfl)
  refine CO.ifF hc1098 (by kernel_rfl) ?_
  refine CO.skip ?_
  refine cu Dk mix 1 280 (tl 54 [(0, .sl false false (a0.map (eSN false))), (3, V.i y669), (4, V.i 0)]) [] (by kernel_rfl) ?_
  refine CO.block' ?_
  refine CO.loopJ (fun (⟨a0, y669, y949⟩ : ((List SNode) × Int × Int)) => ⟨tl 54 [(0, .sl false false (a0.map (eSN false))), (3, V.i y669), (4, V.i y949)], []⟩) (fun n i => m_spec_TreeOk_l2 N (m_spec_TreeOk_l1 N n1) n i = some r) (n0 := N) (i0 := (a0, y669, 0)) (Weak.sel [] [0, 3, 4] (by kernel_rfl) (by kernel_rfl) (by kernel_rfl)) h989 (fun i h => by simp [m_spec_TreeOk_l2] at h) ?_
  rintro n2 ⟨a0, y669, y949⟩ h1155 ih1156
  rw [m_spec_TreeOk_l2] at h1155
  refine CO.seq' ?_
  obtain ⟨e978, hx1161, h1155⟩ := bind_some h1155
  refine CO.cutR (tl 54 [(0, .sl false false (a0.map (eSN false))), (3, V.i y669), (4, V.i y949), (32, V.b (decide (y949 < (e978.Kids.length : Int))))]) [] mix (by
   refine W.run Dk 3 340 (by kernel_rfl) ?_
   refine W.ixD Dk (eSN false) hx1161 5 (by kernel_rfl) (by kernel_rfl) ?_
   refine W.run Dk 2 340 (by kernel_rfl) ?_
   refine W.len Dk encI e978.Kids [] (by kernel_rfl) (by kernel_rfl) ?_
   refine W.run Dk 1 340 (by kernel_rfl) ?_
   exact W.fi (by kernel_rfl)
   ) ?_
  rcases cond_some h1155 with ⟨hc1162, h1155⟩ | ⟨hc1162, h1155⟩
  ·refine CO.ifT hc1162 (by kernel_rfl) ?_
   refine CO.skip ?_
   refine CO.seq' ?_
   refine CO.block' ?_
   obtain ⟨e994, hx1179, h1155⟩ := bind_some h1155
   obtain ⟨e995, hx1180, h1155⟩ := bind_some h1155
   obtain ⟨e996, hx1181, h1155⟩ := bind_some h1155
   obtain ⟨e997, hx1182, h1155⟩ := bind_some h1155
   obtain ⟨r998, hx1183, h1155⟩ := bind_some h1155
   refine CO.cutR (tl 54 [(0, .sl false false (a0.map (eSN false))), (3, V.i y669), (4, V.i y949), (53, V.b (!r998))]) [] mix (by
    refine W.run Dk 2 340 (by kernel_rfl) ?_
    refine W.ixD Dk (eSN false) hx1179 5 (by kernel_rfl) (by kernel_rfl) ?_
    refine W.run Dk 5 340 (by kernel_rfl) ?_
    refine W.ixD Dk (eSN false) hx1180 5 (by kernel_rfl) (by kernel_rfl) ?_
    refine W.run Dk 3 340 (by kernel_rfl) ?_
    refine W.ixD Dk encI hx1181 1 (by kernel_rfl) (by kernel_rfl) ?_
    refine W.run Dk 1 340 (by kernel_rfl) ?_
    refine W.ixD Dk (eSN false) hx1182 5 (by kernel_rfl) (by kernel_rfl) ?_
    refine W.run Dk 2 340 (by kernel_rfl) ?_
    refine W.call0 (m_spec_l7Kid_ok e994 y949 e997.Kind hx1183) cok88 rfl (by kernel_rfl) ?_
    refine W.run Dk 1 340 (by kernel_rfl) ?_
    exact W.fi (by kernel_rfl)
    ) ?_
   rcases cond_some h1155 with ⟨hc1184, h1155⟩ | ⟨hc1184, h1155⟩
   ·refine CO.ifT hc1184 (by kernel_rfl) ?_
    refine cu Dk mix 1 340 (tl 54 [(2, V.b false)]) [] (by kernel_rfl) ?_
    refine CO.ret ?_
    have h1155 := Option.some.inj h1155
    subst h1155
    exact Ends.gen [] (.inr rfl) (RetV.one rfl (OneR.tmp (t := 2) (r := V.b false) (by kernel_rfl))) (by kernel_rfl) (by kernel_rfl) (by kernel_rfl)
   refine CO.ifF hc1184 (by kernel_rfl) ?_
   refine CO.skip ?_
   refine ce Dk mix 3 340 (tl 54 [(0, .sl false false (a0.map (eSN false))), (3, V.i y669), (4, V.i (IntKind.wrap .i64 (y949 + 1)))]) [] (by kernel_rfl) (fun st hw => ?_)
   exact ih1156 (a0, y669, (IntKind.wrap .i64 (y949 + 1))) h1155 _ (hw.trans (Weak.sel [] [0, 3, 4] (by kernel_rfl) (by kernel_rfl) (by kernel_rfl)))
  refine CO.ifF hc1162 (by kernel_rfl) ?_
  refine CO.exit ?_
  refine ce Dk mix 3 340 (tl 54 [(0, .sl false false (a0.map (eSN false))), (3, V.i (IntKind.wrap .i64 (y669 + 1)))]) [] (by kernel_rfl) (fun st hw => ?_)
  exact ih990 (a0, (IntKind.wrap .i64 (y669 + 1))) h1155 _ (hw.trans (Weak.sel [] [0, 3] (by kernel_rfl) (by kernel_rfl) (by kernel_rfl)))
 refine CO.ifF hc992 (by kernel_rfl) ?_
 refine CO.exit ?_
 refine cu Dk mix 1 280 (tl 54 [(2, V.b true)]) [] (by kernel_rfl) ?_
 refine CO.ret ?_
 have h989 := Option.some.inj h989
 subst h989
 exact Ends.gen [] (.inr rfl) (RetV.one rfl (OneR.tmp (t := 2) (r := V.b true) (by kernel_rfl))) (by kernel_rfl) (by kernel_rfl) (by kernel_rfl)

theorem m_spec_l39Under_ok (a0 : Int) {r : Int} (h : m_spec_l39Under a0 = some r) :
    AC Tryz.prog (GS []) 112 [V.i a0] [] (V.i r) [] := by
 rw [m_spec_l39Under] at h
 refine AC.enter Tryz.func112 rfl ?_
 refine cu Dk mix 1 100 (tl 20 [(0, V.i a0)]) [] (by kernel_rfl) ?_
 refine CO.seq' ?_
 refine cu Dk mix 1 100 (tl 20 [(3, V.i a0)]) [] (by kernel_rfl) ?_
 refine CO.block' ?_
 refine cu Dk mix 2 100 (tl 20 [(3, V.i a0), (4, V.b (a0 == 63))]) [] (by kernel_rfl) ?_
 rcases cond_some h with ⟨hc9, h⟩ | ⟨hc9, h⟩
 ·refine CO.ifT hc9 (by kernel_rfl) ?_
  refine cu Dk mix 1 100 (tl 20 [(2, V.i 49)]) [] (by kernel_rfl) ?_
  refine CO.ret ?_
  have h := Option.some.inj h
  subst h
  exact Ends.gen [] (.inr rfl) (RetV.one rfl (OneR.tmp (t := 2) (r := V.i 49) (by kernel_rfl))) (by kernel_rfl) (by kernel_rfl) (by kernel_rfl)
 refine CO.ifF hc9 (by kernel_rfl) ?_
 refine cu Dk mix 2 100 (tl 20 [(3, V.i a0), (6, V.b (a0 == 49))]) [] (by kernel_rfl) ?_
 rcases cond_some h with ⟨hc10, h⟩ | ⟨hc10, h⟩
 ·refine CO.ifT hc10 (by kernel_rfl) ?_
  refine cu Dk mix 1 100 (tl 20 [(2, V.i 63)]) [] (by kernel_rfl) ?_
  refine CO.ret ?_
  have h := Option.some.inj h
  subst h
  exact Ends.gen [] (.inr rfl) (RetV.one rfl (OneR.tmp (t := 2) (r := V.i 63) (by kernel_rfl))) (by kernel_rfl) (by kernel_rfl) (by kernel_rfl)
 refine CO.ifF hc10 (by kernel_rfl) ?_
 refine cu Dk mix 2 100 (tl 20 [(3, V.i a0), (8, V.b (a0 == 62))]) [] (by kernel_rfl) ?_
 rcases cond_some h with ⟨hc11, h⟩ | ⟨hc11, h⟩
 ·refine CO.ifT hc11 (by kernel_rfl) ?_
  refine cu Dk mix 1 100 (tl 20 [(2, V.i 48)]) [] (by kernel_rfl) ?_
  refine CO.ret ?_
  have h := Option.some.inj h
  subst h
  exact Ends.gen [] (.inr rfl) (RetV.one rfl (OneR.tmp (t := 2) (r := V.i 48) (by kernel_rfl))) (by kernel_rfl) (by kernel_rfl) (by kernel_rfl)
 refine CO.ifF hc11 (by kernel_rfl) ?_
 refine cu Dk mix 2 100 (tl 20 [(3, V.i a0), (10, V.b (a0 == 48))]) [] (by kernel_rfl) ?_
 rcases cond_some h with ⟨hc12, h⟩ | ⟨hc12, h⟩
 ·refine CO.ifT hc12 (by kernel_rfl) ?_
  refine cu Dk mix 1 100 (tl 20 [(2, V.i 62)]) [] (by kernel_rfl) ?_
  refine CO.ret ?_
  have h := Option.some.inj h
  subst h
  exact Ends.gen [] (.inr rfl) (RetV.one rfl (OneR.tmp (t := 2) (r := V.i 62) (by kernel_rfl))) (by kernel_rfl) (by kernel_rfl) (by kernel_rfl)
 refine CO.ifF hc12 (by kernel_rfl) ?_
 refine cu Dk mix 2 100 (tl 20 [(3, V.i a0), (12, V.b (a0 == 47))]) [] (by kernel_rfl) ?_
 rcases cond_some h with ⟨hc13, h⟩ | ⟨hc13, h⟩
 ·refine CO.ifT hc13 (by kernel_rfl) ?_
  refine cu Dk mix 1 100 (tl 20 [(2, V.i 50)]) [] (by kernel_rfl) ?_
  refine CO.ret ?_
  have h := Option.some.inj h
  subst h
  exact Ends.gen [] (.inr rfl) (RetV.one rfl (OneR.tmp (t := 2) (r := V.i 50) (by kernel_rfl))) (by kernel_rfl) (by kernel_rfl) (by kernel_rfl)
 refine CO.ifF hc13 (by kernel_rfl) ?_
 refine cu Dk mix 2 100 (tl 20 [(3, V.i a0), (14, V.b (a0 == 50))]) [] (by kernel_rfl) ?_
 rcases cond_some h with ⟨hc14, h⟩ | ⟨hc14, h⟩
 ·refine CO.ifT hc14 (by kernel_rfl) ?_
  refine cu Dk mix 1 100 (tl 20 [(2, V.i 47)]) [] (by kernel_rfl) ?_
  refine CO.ret ?_
  have h := Option.some.inj h
  subst h
  exact Ends.gen [] (.inr rfl) (RetV.one rfl (OneR.tmp (t := 2) (r := V.i 47) (by kernel_rfl))) (by kernel_rfl) (by kernel_rfl) (by kernel_rfl)
 refine CO.ifF hc14 (by kernel_rfl) ?_
 refine cu Dk mix 2 100 (tl 20 [(3, V.i a0), (16, V.b (a0 == 67))]) [] (by kernel_rfl) ?_
 rcases cond_some h with ⟨hc15, h⟩ | ⟨hc15, h⟩
 ·refine CO.ifT hc15 (by kernel_rfl) ?_
  refine cu Dk mix 1 100 (tl 20 [(2, V.i 46)]) [] (by kernel_rfl) ?_
  refine CO.ret ?_
  have h := Option.some.inj h
  subst h
  exact Ends.gen [] (.inr rfl) (RetV.one rfl (OneR.tmp (t := 2) (r := V.i 46) (by kernel_rfl))) (by kernel_rfl) (by kernel_rfl) (by kernel_rfl)
 refine CO.ifF hc15 (by kernel_rfl) ?_
 refine cu Dk mix 2 100 (tl 20 [(18, V.b (a0 == 46))]) [] (by kernel_rfl) ?_
 rcases cond_some h with ⟨hc16, h⟩ | ⟨hc16, h⟩
 ·refine CO.ifT hc16 (by kernel_rfl) ?_
  refine cu Dk mix 1 100 (tl 20 [(2, V.i 67)]) [] (by kernel_rfl) ?_
  refine CO.ret ?_
  have h := Option.some.inj h
  subst h
  exact Ends.gen [] (.inr rfl) (RetV.one rfl (OneR.tmp (t := 2) (r := V.i 67) (by kernel_rfl))) (by kernel_rfl) (by kernel_rfl) (by kernel_rfl)
 refine CO.ifF hc16 (by kernel_rfl) ?_
 refine CO.skip ?_
 refine cu Dk mix 1 100 (tl 20 [(2, V.i 0)]) [] (by kernel_rfl) ?_
 refine CO.ret ?_
 have h := Option.some.inj h
 subst h
 exact Ends.gen [] (.inr rfl) (RetV.one rfl (OneR.tmp (t := 2) (r := V.i 0) (by kernel_rfl))) (by kernel_rfl) (by kernel_rfl) (by kernel_rfl)

theorem m_spec_l39Bool_ok (a0 : SNode) {r : Bool} (h : m_spec_l39Bool a0 = some r) :
    AC Tryz.prog (GS []) 111 [.agg [V.i a0.Kind, V.i a0.Op, V.s a0.Text, V.s a0.Other, .sl false false (a0.Kids.map encI)]] [] (V.b r) [] := by
 rw [m_spec_l39Bool] at h
 refine AC.enter Tryz.func111 rfl ?_
 refine cu Dk mix 2 100 (tl 32 [(1, .loc 100 0)]) [(100, .cells 53 [V.i a0.Kind, V.i a0.Op, V.s a0.Text, V.s a0.Other, .sl false false (a0.Kids.map encI)])] (by kernel_rfl) ?_
 obtain ⟨y3, hv11, h⟩ := bind_some h
 refine CO.cutR (tl 32 [(2, V.b y3)]) [] mix (by
  refine W.run Dk 4 101 (by kernel_rfl) ?_
  rcases cond_some hv11 with ⟨hc12, hv11⟩ | ⟨hc12, hv11⟩
  ·refine W.is 6 hc12 (by kernel_rfl) ?_
   refine W.run Dk 5 101 (by kernel_rfl) ?_
   rcases cond_some hv11 with ⟨hc13, hv11⟩ | ⟨hc13, hv11⟩
   ·refine W.is 11 hc13 (by kernel_rfl) ?_
    refine W.run Dk 21 101 (by kernel_rfl) ?_
    have hv11 := Option.some.inj hv11
    subst hv11
    exact W.fs [] [2] (by kernel_rfl)
   refine W.is 11 hc13 (by kernel_rfl) ?_
   refine W.run Dk 4 101 (by kernel_rfl) ?_
   rcases cond_some hv11 with ⟨hc14, hv11⟩ | ⟨hc14, hv11⟩
   ·refine W.is 15 hc14 (by kernel_rfl) ?_
    refine W.run Dk 2 101 (by kernel_rfl) ?_
    obtain ⟨r4, hx15, hv11⟩ := bind_some hv11
    refine W.call0 (m_spec_l39Under_ok a0.Op hx15) cok112 rfl (by kernel_rfl) ?_
    refine W.run Dk 2 101 (by kernel_rfl) ?_
    rcases cond_some hv11 with ⟨hc16, hv11⟩ | ⟨hc16, hv11⟩
    ·refine W.is 20 hc16 (by kernel_rfl) ?_
     refine W.run Dk 12 101 (by kernel_rfl) ?_
     have hv11 := Option.some.inj hv11
     subst hv11
     exact W.fs [] [2] (by kernel_rfl)
    refine W.is 20 hc16 (by kernel_rfl) ?_
    refine W.run Dk 5 101 (by kernel_rfl) ?_
    rcases cond_some hv11 with ⟨hc17, hv11⟩ | ⟨hc17, hv11⟩
    ·refine W.is 25 hc17 (by kernel_rfl) ?_
     refine W.run Dk 7 101 (by kernel_rfl) ?_
     have hv11 := Option.some.inj hv11
     subst hv11
     exact W.fs [] [2] (by kernel_rfl)
    refine W.is 25 hc17 (by kernel_rfl) ?_
    refine W.run Dk 7 101 (by kernel_rfl) ?_
    have hv11 := Option.some.inj hv11
    subst hv11
    exact W.fs [] [2] (by kernel_rfl)
   refine W.is 15 hc14 (by kernel_rfl) ?_
   refine W.run Dk 17 101 (by kernel_rfl) ?_
   have hv11 := Option.some.inj hv11
   subst hv11
   exact W.fs [] [2] (by kernel_rfl)
  refine W.is 6 hc12 (by kernel_rfl) ?_
  refine W.run Dk 9 101 (by kernel_rfl) ?_
  rcases cond_some hv11 with ⟨hc18, hv11⟩ | ⟨hc18, hv11⟩
  ·refine W.is 15 hc18 (by kernel_rfl) ?_
   refine W.run Dk 2 101 (by kernel_rfl) ?_
   obtain ⟨r5, hx19, hv11⟩ := bind_some hv11
   refine W.call0 (m_spec_l39Under_ok a0.Op hx19) cok112 rfl (by kernel_rfl) ?_
   refine W.run Dk 2 101 (by kernel_rfl) ?_
   rcases cond_some hv11 with ⟨hc20, hv11⟩ | ⟨hc20, hv11⟩
   ·refine W.is 20 hc20 (by kernel_rfl) ?_
    refine W.run Dk 12 101 (by kernel_rfl) ?_
    have hv11 := Option.some.inj hv11
    subst hv11
    exact W.fs [] [2] (by kernel_rfl)
   refine W.is 20 hc20 (by kernel_rfl) ?_
   refine W.run Dk 5 101 (by kernel_rfl) ?_
   rcases cond_some hv11 with ⟨hc21, hv11⟩ | ⟨hc21, hv11⟩
   ·refine W.is 25 hc21 (by kernel_rfl) ?_
    refine W.run Dk 7 101 (by kernel_rfl) ?_
    have hv11 := Option.some.inj hv11
    subst hv11
    exact W.fs [] [2] (by kernel_rfl)
   refine W.is 25 hc21 (by kernel_rfl) ?_
   refine W.run Dk 7 101 (by kernel_rfl) ?_
   have hv11 := Option.some.inj hv11
   subst hv11
   exact W.fs [] [2] (by kernel_rfl)
  refine W.is 15 hc18 (by kernel_rfl) ?_
  refine W.run Dk 17 101 (by kernel_rfl) ?_
  have hv11 := Option.some.inj hv11
  subst hv11
  exact W.fs [] [2] (by kernel_rfl)
  ) ?_
 refine CO.ret ?_
 have h := Option.some.inj h
 subst h
 exact Ends.gen [] (.inr rfl) (RetV.one rfl (OneR.tmp (t := 2) (r := V.b y3) (by kernel_rfl))) (by kernel_rfl) (by kernel_rfl) (by kernel_rfl)

theorem m_spec_l6Shift_ok (N : Nat) (a0 : List SNode) (a1 : Int) {r : (List SNode)} (h : m_spec_l6Shift N a0 a1 = some r) :
    AC Tryz.prog (GS []) 99 [.sl false false (a0.map (eSN false)), V.i a1] [] (.own 100) [(100, .vec false 53 5 (r.map (eSN true)))] := by
 rw [m_spec_l6Shift] at h
 refine AC.enter Tryz.func99 rfl ?_
 refine cu Dk mix 1 100 (tl 52 [(0, .sl false false (a0.map (eSN false))), (1, V.i a1)]) [] (by kernel_rfl) ?_
 refine cu Dk mix 2 100 (tl 52 [(0, .sl false false (a0.map (eSN false))), (1, V.i a1), (5, .own 100)]) [(100, .vec false 53 5 ([].map (eSN true)))] (by kernel_rfl) ?_
 refine CO.seq' ?_
 refine cu Dk mix 1 101 (tl 52 [(0, .sl false false (a0.map (eSN false))), (1, V.i a1), (5, .own 100), (6, V.i 0)]) [(100, .vec false 53 5 ([].map (eSN true)))] (by kernel_rfl) ?_
 refine CO.block' ?_
 refine CO.loopJ (fun (⟨a0, a1, y869, y870⟩ : ((List SNode) × Int × Int × (List SNode))) => ⟨tl 52 [(0, .sl false false (a0.map (eSN false))), (1, V.i a1), (5, .own 100), (6, V.i y869)], [(100, .vec false 53 5 (y870.map (eSN true)))]⟩) (fun n i => m_spec_l6Shift_l1 N n i = some r) (n0 := N) (i0 := (a0, a1, 0, [])) (Weak.sel [(100, 100)] [0, 1, 5, 6] (by kernel_rfl) (by kernel_rfl) (by kernel_rfl)) h (fun i h => by simp [m_spec_l6Shift_l1] at h) ?_
 rintro n1 ⟨a0, a1, y869, y870⟩ h1173 ih1174
 rw [m_spec_l6Shift_l1] at h1173
 refine CO.seq' ?_
 refine CO.cutR (tl 52 [(0, .sl false false (a0.map (eSN false))), (1, V.i a1), (5, .own 100), (6, V.i y869), (13, V.b (decide (y869 < (a0.length : Int))))]) [(100, .vec false 53 5 (y870.map (eSN true)))] mix (by
  refine W.run Dk 2 297 (by kernel_rfl) ?_
  refine W.len Dk (eSN false) a0 [] (by kernel_rfl) (by kernel_rfl) ?_
  refine W.run Dk 1 297 (by kernel_rfl) ?_
  exact W.fi (by kernel_rfl)
  ) ?_
 rcases cond_some h1173 with ⟨hc1176, h1173⟩ | ⟨hc1176, h1173⟩
 ·refine CO.ifT hc1176 (by kernel_rfl) ?_
  refine CO.skip ?_
  refine CO.seq' ?_
  refine CO.block' ?_
  obtain ⟨e1198, hx1294, h1173⟩ := bind_some h1173
  refine CO.cutR (tl 52 [(0, .sl false false (a0.map (eSN false))), (1, V.i a1), (5, .own 100), (6, V.i y869), (7, .loc 297 0)]) [(297, .cells 53 [V.i e1198.Kind, V.i e1198.Op, V.s e1198.Text, V.s e1198.Other, .sl false false (e1198.Kids.map encI)]), (100, .vec false 53 5 (y870.map (eSN true)))] mix (by
   refine W.run Dk 2 297 (by kernel_rfl) ?_
   refine W.ixD Dk (eSN false) hx1294 5 (by kernel_rfl) (by kernel_rfl) ?_
   refine W.run Dk 3 297 (by kernel_rfl) ?_
   exact W.fi (by kernel_rfl)
   ) ?_
  refine cu Dk mix 3 298 (tl 52 [(0, .sl false false (a0.map (eSN false))), (1, V.i a1), (5, .own 100), (6, V.i y869), (7, .loc 297 0)]) [(297, .cells 53 [V.i e1198.Kind, V.i e1198.Op, V.s e1198.Text, V.s e1198.Other, .own 298]), (298, .vec false 3 1 ([].map encI)), (100, .vec false 53 5 (y870.map (eSN true)))] (by kernel_rfl) ?_
  refine CO.seq' ?_
  refine cu Dk mix 1 299 (tl 52 [(0, .sl false false (a0.map (eSN false))), (1, V.i a1), (5, .own 100), (6, V.i y869), (7, .loc 297 0), (8, V.i 0)]) [(297, .cells 53 [V.i e1198.Kind, V.i e1198.Op, V.s e1198.Text, V.s e1198.Other, .own 298]), (298, .vec false 3 1 ([].map encI)), (100, .vec false 53 5 (y870.map (eSN true)))] (by kernel_rfl) ?_
  refine CO.block' ?_
  refine CO.loopJ (fun (⟨a0, a1, y869, y870, e1198, y1267, y1268⟩ : ((List SNode) × Int × Int × (List SNode) × SNode × Int × (List Int))) => ⟨tl 52 [(0, .sl false false (a0.map (eSN false))), (1, V.i a1), (5, .own 100), (6, V.i y869), (7, .loc 101 0), (8, V.i y1267)], [(100, .vec false 53 5 (y870.map (eSN true))), (101, .cells 53 [V.i e1198.Kind, V.i e1198.Op, V.s e1198.Text, V.s e1198.Other, .own 102]), (102, .vec false 3 1 (y1268.map encI))]⟩) (fun n i => m_spec_l6Shift_l2 N (m_spec_l6Shift_l1 N n1) n i = some r) (n0 := N) (i0 := (a0, a1, y869, y870, e1198, 0, [])) (Weak.sel [(100, 100), (297, 101), (298, 102)] [0, 1, 5, 6, 7, 8] (by kernel_rfl) (by kernel_rfl) (by kernel_rfl)) h1173 (fun i h => by simp [m_spec_l6Shift_l2] at h) ?_
  rintro n2 ⟨a0, a1, y869, y870, e1198, y1267, y1268⟩ h1387 ih1388
  rw [m_spec_l6Shift_l2] at h1387
  refine CO.seq' ?_
  obtain ⟨e1290, hx1393, h1387⟩ := bind_some h1387
  refine CO.cutR (tl 52 [(0, .sl false false (a0.map (eSN false))), (1, V.i a1), (5, .own 100), (6, V.i y869), (7, .loc 101 0), (8, V.i y1267), (29, V.b (decide (y1267 < (e1290.Kids.length : Int))))]) [(100, .vec false 53 5 (y870.map (eSN true))), (101, .cells 53 [V.i e1198.Kind, V.i e1198.Op, V.s e1198.Text, V.s e1198.Other, .own 102]), (102, .vec false 3 1 (y1268.map encI))] mix (by
   refine W.run Dk 3 363 (by kernel_rfl) ?_
   refine W.ixD Dk (eSN false) hx1393 5 (by kernel_rfl) (by kernel_rfl) ?_
   refine W.run Dk 2 363 (by kernel_rfl) ?_
   refine W.len Dk encI e1290.Kids [] (by kernel_rfl) (by kernel_rfl) ?_
   refine W.run Dk 1 363 (by kernel_rfl) ?_
   exact W.fi (by kernel_rfl)
   ) ?_
  rcases cond_some h1387 with ⟨hc1394, h1387⟩ | ⟨hc1394, h1387⟩
  ·refine CO.ifT hc1394 (by kernel_rfl) ?_
   refine CO.skip ?_
   refine CO.seq' ?_
   refine CO.block' ?_
   obtain ⟨e1300, hx1404, h1387⟩ := bind_some h1387
   obtain ⟨e1301, hx1405, h1387⟩ := bind_some h1387
   obtain ⟨x1302, hx1406, h1387⟩ := bind_some h1387
   refine CO.endR (tl 52 [(0, .sl false false (a0.map (eSN false))), (1, V.i a1), (5, .own 100), (6, V.i y869), (7, .loc 101 0), (8, V.i y1267)]) [(101, .cells 53 [V.i e1198.Kind, V.i e1198.Op, V.s e1198.Text, V.s e1198.Other, .own 364]), (364, .vec false 3 1 (x1302.map encI)), (100, .vec false 53 5 (y870.map (eSN true)))] mix (by
    refine W.run Dk 4 363 (by kernel_rfl) ?_
    refine W.ixD Dk (eSN false) hx1404 5 (by kernel_rfl) (by kernel_rfl) ?_
    refine W.run Dk 3 363 (by kernel_rfl) ?_
    refine W.ixD Dk encI hx1405 1 (by kernel_rfl) (by kernel_rfl) ?_
    refine W.run Dk 4 363 (by kernel_rfl) ?_
    refine W.appO Dk encI (a := 102) (c := 363) (el := 3) (sz := 1) 8 hx1406 rfl 364 (by kernel_rfl) ?_
    refine W.run Dk 2 365 (by kernel_rfl) ?_
    exact W.fi (by kernel_rfl)
    ) (fun st hw => ?_)
   refine CO.weak hw ?_
   refine ce Dk mix 3 365 (tl 52 [(0, .sl false false (a0.map (eSN false))), (1, V.i a1), (5, .own 100), (6, V.i y869), (7, .loc 101 0), (8, V.i (IntKind.wrap .i64 (y1267 + 1)))]) [(101, .cells 53 [V.i e1198.Kind, V.i e1198.Op, V.s e1198.Text, V.s e1198.Other, .own 364]), (364, .vec false 3 1 (x1302.map encI)), (100, .vec false 53 5 (y870.map (eSN true)))] (by kernel_rfl) (fun st hw => ?_)
   exact ih1388 (a0, a1, y869, y870, e1198, (IntKind.wrap .i64 (y1267 + 1)), x1302) h1387 _ (hw.trans (Weak.sel [(100, 100), (101, 101), (364, 102)] [0, 1, 5, 6, 7, 8] (by kernel_rfl) (by kernel_rfl) (by kernel_rfl)))
  refine CO.ifF hc1394 (by kernel_rfl) ?_
  refine CO.exit ?_
  obtain ⟨x1304, hx1408, h1387⟩ := bind_some h1387
  refine CO.endR (tl 52 [(0, .sl false false (a0.map (eSN false))), (1, V.i a1), (5, .own 364), (6, V.i y869)]) [(364, .vec false 53 5 (x1304.map (eSN true)))] mix (by
   refine W.run Dk 3 363 (by kernel_rfl) ?_
   refine W.appO Dk (eSN true) (a := 100) (c := 363) (el := 53) (sz := 5) 72 hx1408 rfl 364 (by kernel_rfl) ?_
   refine W.run Dk 1 365 (by kernel_rfl) ?_
   exact W.fi (by kernel_rfl)
   ) (fun st hw => ?_)
  refine CO.weak hw ?_
  refine ce Dk mix 3 365 (tl 52 [(0, .sl false false (a0.map (eSN false))), (1, V.i a1), (5, .own 364), (6, V.i (IntKind.wrap .i64 (y869 + 1)))]) [(364, .vec false 53 5 (x1304.map (eSN true)))] (by kernel_rfl) (fun st hw => ?_)
  exact ih1174 (a0, a1, (IntKind.wrap .i64 (y869 + 1)), x1304) h1387 _ (hw.trans (Weak.sel [(364, 100)] [0, 1, 5, 6] (by kernel_rfl) (by kernel_rfl) (by kernel_rfl)))
 refine CO.ifF hc1176 (by kernel_rfl) ?_
 refine CO.exit ?_
 refine cu Dk mix 2 297 (tl 52 [(4, .own 100)]) [(100, .vec false 53 5 (y870.map (eSN true)))] (by kernel_rfl) ?_
 refine CO.ret ?_
 have h1173 := Option.some.inj h1173
 subst h1173
 exact Ends.gen [(100, 100)] (.inr rfl) (RetV.one rfl (OneR.tmp (t := 4) (r := .own 100) (by kernel_rfl))) (by kernel_rfl) (by kernel_rfl) (by kernel_rfl)

theorem m_spec_l6Make_ok (N : Nat) (a0 : SNode) (a1 : List (List SNode)) {r : (List SNode)} (h : m_spec_l6Make N a0 a1 = some r) :
    AC Tryz.prog (GS []) 57 [.agg [V.i a0.Kind, V.i a0.Op, V.s a0.Text, V.s a0.Other, .sl false false (a0.Kids.map encI)], .sl false false (a1.map (encL false (eSN false)))] [] (.own 100) [(100, .vec false 53 5 (r.map (eSN true)))] := by
 rw [m_spec_l6Make] at h
 refine AC.enter Tryz.func57 rfl ?_
 refine cu Dk mix 2 100 (tl 37 [(1, .sl false false (a1.map (encL false (eSN false)))), (2, .loc 100 0)]) [(100, .cells 53 [V.i a0.Kind, V.i a0.Op, V.s a0.Text, V.s a0.Other, .sl false false (a0.Kids.map encI)])] (by kernel_rfl) ?_
 refine cu Dk mix 2 101 (tl 37 [(1, .sl false false (a1.map (encL false (eSN false)))), (2, .loc 100 0), (5, .own 101)]) [(101, .vec false 53 5 ([].map (eSN true))), (100, .cells 53 [V.i a0.Kind, V.i a0.Op, V.s a0.Text, V.s a0.Other, .sl false false (a0.Kids.map encI)])] (by kernel_rfl) ?_
 refine cu Dk mix 3 102 (tl 37 [(1, .sl false false (a1.map (encL false (eSN false)))), (2, .loc 100 0), (5, .own 101)]) [(100, .cells 53 [V.i a0.Kind, V.i a0.Op, V.s a0.Text, V.s a0.Other, .own 102]), (102, .vec false 3 1 ([].map encI)), (101, .vec false 53 5 ([].map (eSN true)))] (by kernel_rfl) ?_
 refine CO.seq' ?_
 refine cu Dk mix 1 103 (tl 37 [(1, .sl false false (a1.map (encL false (eSN false)))), (2, .loc 100 0), (5, .own 101), (6, V.i 0)]) [(100, .cells 53 [V.i a0.Kind, V.i a0.Op, V.s a0.Text, V.s a0.Other, .own 102]), (102, .vec false 3 1 ([].map encI)), (101, .vec false 53 5 ([].map (eSN true)))] (by kernel_rfl) ?_
 refine CO.block' ?_
 refine CO.loopJ (fun (⟨a1, a0, y71, y72, y73⟩ : ((List (List SNode)) × SNode × Int × (List SNode) × (List Int))) => ⟨tl 37 [(1, .sl false false (a1.map (encL false (eSN false)))), (2, .loc 100 0), (5, .own 101), (6, V.i y71)], [(100, .cells 53 [V.i a0.Kind, V.i a0.Op, V.s a0.Text, V.s a0.Other, .own 102]), (101, .vec false 53 5 (y72.map (eSN true))), (102, .vec false 3 1 (y73.map encI))]⟩) (fun n i => m_spec_l6Make_l1 N n i = some r) (n0 := N) (i0 := (a1, a0, 0, [], [])) (Weak.sel [(100, 100), (101, 101), (102, 102)] [1, 2, 5, 6] (by kernel_rfl) (by kernel_rfl) (by kernel_rfl)) h (fun i h => by simp [m_spec_l6Make_l1] at h) ?_
 rintro n1 ⟨a1, a0, y71, y72, y73⟩ h93 ih94
 rw [m_spec_l6Make_l1] at h93
 refine CO.seq' ?_
 refine CO.cutR (tl 37 [(1, .sl false false (a1.map (encL false (eSN false)))), (2, .loc 100 0), (5, .own 101), (6, V.i y71), (13, V.b (decide (y71 < (a1.length : Int))))]) [(100, .cells 53 [V.i a0.Kind, V.i a0.Op, V.s a0.Text, V.s a0.Other, .own 102]), (101, .vec false 53 5 (y72.map (eSN true))), (102, .vec false 3 1 (y73.map encI))] mix (by
  refine W.run Dk 2 171 (by kernel_rfl) ?_
  refine W.len Dk (encL false (eSN false)) a1 [] (by kernel_rfl) (by kernel_rfl) ?_
  refine W.run Dk 1 171 (by kernel_rfl) ?_
  exact W.fi (by kernel_rfl)
  ) ?_
 rcases cond_some h93 with ⟨hc96, h93⟩ | ⟨hc96, h93⟩
 ·refine CO.ifT hc96 (by kernel_rfl) ?_
  refine CO.skip ?_
  refine CO.seq' ?_
  refine CO.block' ?_
  obtain ⟨e104, hx108, h93⟩ := bind_some h93
  obtain ⟨r105, hx109, h93⟩ := bind_some h93
  obtain ⟨x106, hx110, h93⟩ := bind_some h93
  refine CO.cutR (tl 37 [(1, .sl false false (a1.map (encL false (eSN false)))), (2, .loc 100 0), (5, .own 172), (6, V.i y71)]) [(172, .vec false 53 5 (x106.map (eSN true))), (100, .cells 53 [V.i a0.Kind, V.i a0.Op, V.s a0.Text, V.s a0.Other, .own 102]), (102, .vec false 3 1 (y73.map encI))] mix (by
   refine W.run Dk 3 171 (by kernel_rfl) ?_
   refine W.ixD Dk (encL false (eSN false)) hx108 1 (by kernel_rfl) (by kernel_rfl) ?_
   refine W.run Dk 2 171 (by kernel_rfl) ?_
   refine W.len Dk (eSN true) y72 [101] (by kernel_rfl) (by kernel_rfl) ?_
   refine W.call (m_spec_l6Shift_ok N e104 (y72.length : Int) hx109) cok99 [] [(100, 171)] [171] (show LayOk _ [] from trivial) (by kernel_rfl) (by kernel_rfl) ?_
   refine W.appO Dk (eSN true) (a := 101) (c := 171) (el := 53) (sz := 5) 72 hx110 rfl 172 (by kernel_rfl) ?_
   refine W.run Dk 1 173 (by kernel_rfl) ?_
   exact W.fi (by kernel_rfl)
   ) ?_
  obtain ⟨x108, hx112, h93⟩ := bind_some h93
  refine CO.endR (tl 37 [(1, .sl false false (a1.map (encL false (eSN false)))), (2, .loc 100 0), (5, .own 172), (6, V.i y71)]) [(100, .cells 53 [V.i a0.Kind, V.i a0.Op, V.s a0.Text, V.s a0.Other, .own 174]), (174, .vec false 3 1 (x108.map encI)), (172, .vec false 53 5 (x106.map (eSN true)))] mix (by
   refine W.run Dk 3 173 (by kernel_rfl) ?_
   refine W.len Dk (eSN true) x106 [172] (by kernel_rfl) (by kernel_rfl) ?_
   refine W.run Dk 2 173 (by kernel_rfl) ?_
   refine W.appO Dk encI (a := 102) (c := 173) (el := 3) (sz := 1) 8 hx112 rfl 174 (by kernel_rfl) ?_
   refine W.run Dk 2 175 (by kernel_rfl) ?_
   exact W.fi (by kernel_rfl)
   ) (fun st hw => ?_)
  refine CO.weak hw ?_
  refine ce Dk mix 3 175 (tl 37 [(1, .sl false false (a1.map (encL false (eSN false)))), (2, .loc 100 0), (5, .own 172), (6, V.i (IntKind.wrap .i64 (y71 + 1)))]) [(100, .cells 53 [V.i a0.Kind, V.i a0.Op, V.s a0.Text, V.s a0.Other, .own 174]), (174, .vec false 3 1 (x108.map encI)), (172, .vec false 53 5 (x106.map (eSN true)))] (by kernel_rfl) (fun st hw => ?_)
  exact ih94 (a1, a0, (IntKind.wrap .i64 (y71 + 1)), x106, x108) h93 _ (hw.trans (Weak.sel [(100, 100), (172, 101), (174, 102)] [1, 2, 5, 6] (by kernel_rfl) (by kernel_rfl) (by kernel_rfl)))
 refine CO.ifF hc96 (by kernel_rfl) ?_
 refine CO.exit ?_
 obtain ⟨x110, hx114, h93⟩ := bind_some h93
 refine CO.cutR (tl 37 [(4, .own 172)]) [(172, .vec false 53 5 (x110.map (eSN true)))] mix (by
  refine W.run Dk 3 171 (by kernel_rfl) ?_
  refine W.appO Dk (eSN true) (a := 101) (c := 171) (el := 53) (sz := 5) 72 hx114 rfl 172 (by kernel_rfl) ?_
  refine W.run Dk 1 173 (by kernel_rfl) ?_
  exact W.fi (by kernel_rfl)
  ) ?_
 refine CO.ret ?_
 have h93 := Option.some.inj h93
 subst h93
 exact Ends.gen [(172, 100)] (.inr rfl) (RetV.one rfl (OneR.tmp (t := 4) (r := .own 172) (by kernel_rfl))) (by kernel_rfl) (by kernel_rfl) (by kernel_rfl)

structure RecOk1 (R : Rec1) : Prop where
  m_spec_l39Not : ∀ (a0 : List SNode) (a1 : Int) (r : (List SNode)), R.m_spec_l39Not a0 a1 = some r → AC Tryz.prog (GS []) 74 [.sl false false (a0.map (eSN false)), V.i a1] [] (.own 100) [(100, .vec false 53 5 (r.map (eSN true)))]
  m_spec_l39Push : ∀ (a0 : List SNode) (a1 : Int) (r : (List SNode)), R.m_spec_l39Push a0 a1 = some r → AC Tryz.prog (GS []) 76 [.sl false false (a0.map (eSN false)), V.i a1] [] (.own 100) [(100, .vec false 53 5 (r.map (eSN true)))]

theorem m_spec_l39Not_F_ok (N : Nat) (R : Rec1) (HR : RecOk1 R) (a0 : List SNode) (a1 : Int) {r : (List SNode)} (h : m_spec_l39Not_F N R a0 a1 = some r) :
    AC Tryz.prog (GS []) 74 [.sl false false (a0.map (eSN false)), V.i a1] [] (.own 100) [(100, .vec false 53 5 (r.map (eSN true)))] := by
 rw [m_spec_l39Not_F] at h
 refine AC.enter Tryz.func74 rfl ?_
 refine cu Dk mix 1 100 (tl 140 [(0, .sl false false (a0.map (eSN false))), (1, V.i a1)]) [] (by kernel_rfl) ?_
 obtain ⟨e2, hx2, h⟩ := bind_some h
 refine CO.cutR (tl 140 [(0, .sl false false (a0.map (eSN false))), (1, V.i a1), (5, .loc 100 0)]) [(100, .cells 53 [V.i e2.Kind, V.i e2.Op, V.s e2.Text, V.s e2.Other, .sl false false (e2.Kids.map encI)])] mix (by
  refine W.run Dk 2 100 (by kernel_rfl) ?_
  refine W.ixD Dk (eSN false) hx2 5 (by kernel_rfl) (by kernel_rfl) ?_
  refine W.run Dk 3 100 (by kernel_rfl) ?_
  exact W.fi (by kernel_rfl)
  ) ?_
 refine CO.seq' ?_
 refine CO.block' ?_
 obtain ⟨y63, hv82, h⟩ := bind_some h
 refine CO.cutR (tl 140 [(0, .sl false false (a0.map (eSN false))), (1, V.i a1), (5, .loc 100 0), (11, V.b y63)]) [(100, .cells 53 [V.i e2.Kind, V.i e2.Op, V.s e2.Text, V.s e2.Other, .sl false false (e2.Kids.map encI)])] mix (by
  refine W.run Dk 4 101 (by kernel_rfl) ?_
  rcases cond_some hv82 with ⟨hc83, hv82⟩ | ⟨hc83, hv82⟩
  ·refine W.is 15 hc83 (by kernel_rfl) ?_
   refine W.run Dk 5 101 (by kernel_rfl) ?_
   rcases cond_some hv82 with ⟨hc84, hv82⟩ | ⟨hc84, hv82⟩
   ·refine W.is 20 hc84 (by kernel_rfl) ?_
    refine W.run Dk 3 101 (by kernel_rfl) ?_
    obtain ⟨e64, hx85, hv82⟩ := bind_some hv82
    refine W.ixD Dk encI hx85 1 (by kernel_rfl) (by kernel_rfl) ?_
    refine W.run Dk 1 101 (by kernel_rfl) ?_
    obtain ⟨e65, hx86, hv82⟩ := bind_some hv82
    refine W.ixD Dk (eSN false) hx86 5 (by kernel_rfl) (by kernel_rfl) ?_
    refine W.run Dk 1 101 (by kernel_rfl) ?_
    obtain ⟨r66, hx87, hv82⟩ := bind_some hv82
    refine W.call0 (m_spec_l39Bool_ok e65 hx87) cok111 rfl (by kernel_rfl) ?_
    refine W.run Dk 2 101 (by kernel_rfl) ?_
    have hv82 := Option.some.inj hv82
    subst hv82
    exact W.fs [(100, 100)] [0, 1, 5, 11] (by kernel_rfl)
   refine W.is 20 hc84 (by kernel_rfl) ?_
   refine W.run Dk 10 101 (by kernel_rfl) ?_
   have hv82 := Option.some.inj hv82
   subst hv82
   exact W.fs [(100, 100)] [0, 1, 5, 11] (by kernel_rfl)
  refine W.is 15 hc83 (by kernel_rfl) ?_
  refine W.run Dk 15 101 (by kernel_rfl) ?_
  have hv82 := Option.some.inj hv82
  subst hv82
  exact W.fs [(100, 100)] [0, 1, 5, 11] (by kernel_rfl)
  ) ?_
 rcases cond_some h with ⟨hc88, h⟩ | ⟨hc88, h⟩
 ·refine CO.ifT hc88 (by kernel_rfl) ?_
  obtain ⟨e69, hx91, h⟩ := bind_some h
  obtain ⟨r70, hx92, h⟩ := bind_some h
  refine CO.cutR (tl 140 [(4, .own 101)]) [(101, .vec false 53 5 (r70.map (eSN true)))] mix (by
   refine W.run Dk 3 101 (by kernel_rfl) ?_
   refine W.ixD Dk encI hx91 1 (by kernel_rfl) (by kernel_rfl) ?_
   refine W.run Dk 1 101 (by kernel_rfl) ?_
   refine W.call (HR.m_spec_l39Push a0 e69 _ hx92) cok76 [] [(100, 101)] [101] (show LayOk _ [] from trivial) (by kernel_rfl) (by kernel_rfl) ?_
   refine W.run Dk 1 102 (by kernel_rfl) ?_
   exact W.fi (by kernel_rfl)
   ) ?_
  refine CO.ret ?_
  have h := Option.some.inj h
  subst h
  exact Ends.gen [(101, 100)] (.inr rfl) (RetV.one rfl (OneR.tmp (t := 4) (r := .own 101) (by kernel_rfl))) (by kernel_rfl) (by kernel_rfl) (by kernel_rfl)
 refine CO.ifF hc88 (by kernel_rfl) ?_
 obtain ⟨y71, hv94, h⟩ := bind_some h
 refine CO.cutR (tl 140 [(0, .sl false false (a0.map (eSN false))), (1, V.i a1), (5, .loc 100 0), (36, V.b y71)]) [(100, .cells 53 [V.i e2.Kind, V.i e2.Op, V.s e2.Text, V.s e2.Other, .sl false false (e2.Kids.map encI)])] mix (by
  refine W.run Dk 4 101 (by kernel_rfl) ?_
  rcases cond_some hv94 with ⟨hc95, hv94⟩ | ⟨hc95, hv94⟩
  ·refine W.is 40 hc95 (by kernel_rfl) ?_
   refine W.run Dk 5 101 (by kernel_rfl) ?_
   have hv94 := Option.some.inj hv94
   subst hv94
   exact W.fs [(100, 100)] [0, 1, 5, 36] (by kernel_rfl)
  refine W.is 40 hc95 (by kernel_rfl) ?_
  refine W.run Dk 5 101 (by kernel_rfl) ?_
  have hv94 := Option.some.inj hv94
  subst hv94
  exact W.fs [(100, 100)] [0, 1, 5, 36] (by kernel_rfl)
  ) ?_
 rcases cond_some h with ⟨hc96, h⟩ | ⟨hc96, h⟩
 ·refine CO.ifT hc96 (by kernel_rfl) ?_
  obtain ⟨e75, hx100, h⟩ := bind_some h
  obtain ⟨r76, hx101, h⟩ := bind_some h
  obtain ⟨r77, hx102, h⟩ := bind_some h
  refine CO.cutR (tl 140 [(6, .own 103)]) [(103, .vec false 53 5 (r77.map (eSN true)))] mix (by
   refine W.run Dk 4 101 (by kernel_rfl) ?_
   refine W.ixD Dk encI hx100 1 (by kernel_rfl) (by kernel_rfl) ?_
   refine W.run Dk 1 101 (by kernel_rfl) ?_
   refine W.call (HR.m_spec_l39Push a0 e75 _ hx101) cok76 [] [(100, 101)] [101] (show LayOk _ [] from trivial) (by kernel_rfl) (by kernel_rfl) ?_
   refine W.run Dk 1 102 (by kernel_rfl) ?_
   refine W.lend (m_spec_l6Make_ok N (⟨11, 61, [], [], []⟩ : SNode) [r76] hx102) cok57 [(100, 103)] [103] (LayOk.cons (j := 102) (encL true (eSN true)) (encL false (eSN false)) ([r76] : List (List SNode)) (by kernel_rfl) (share_encL _ (sh_eSN _)) (show LayOk _ [] from trivial)) (.own _) (.cons (DeepR.map (fun _ => (.cons (.c _) (.cons (.c _) (.cons (.c _) (.cons (.c _) (.cons (.sl _ _ (DeepR.map (fun _ => (.cons (.c _) .nil)) _)) .nil)))))) _) .nil) (by kernel_rfl) (by kernel_rfl) ?_
   refine W.run Dk 1 104 (by kernel_rfl) ?_
   exact W.fi (by kernel_rfl)
   ) ?_
  obtain ⟨r79, hx104, h⟩ := bind_some h
  refine CO.cutR (tl 140 [(4, .own 105)]) [(105, .vec false 53 5 (r79.map (eSN true)))] mix (by
   refine W.run Dk 3 104 (by kernel_rfl) ?_
   refine W.lend (m_spec_l6Make_ok N (⟨11, 61, [], [], []⟩ : SNode) [r77] hx104) cok57 [(100, 105)] [105] (LayOk.cons (j := 104) (encL true (eSN true)) (encL false (eSN false)) ([r77] : List (List SNode)) (by kernel_rfl) (share_encL _ (sh_eSN _)) (show LayOk _ [] from trivial)) (.own _) (.cons (DeepR.map (fun _ => (.cons (.c _) (.cons (.c _) (.cons (.c _) (.cons (.c _) (.cons (.sl _ _ (DeepR.map (fun _ => (.cons (.c _) .nil)) _)) .nil)))))) _) .nil) (by kernel_rfl) (by kernel_rfl) ?_
   refine W.run Dk 1 106 (by kernel_rfl) ?_
   exact W.fi (by kernel_rfl)
   ) ?_
  refine CO.ret ?_
  have h := Option.some.inj h
  subst h
  exact Ends.gen [(105, 100)] (.inr rfl) (RetV.one rfl (OneR.tmp (t := 4) (r := .own 105) (by kernel_rfl))) (by kernel_rfl) (by kernel_rfl) (by kernel_rfl)
 refine CO.ifF hc96 (by kernel_rfl) ?_
 obtain ⟨y81, hv107, h⟩ := bind_some h
 refine CO.cutR (tl 140 [(0, .sl false false (a0.map (eSN false))), (1, V.i a1), (5, .loc 100 0), (58, V.b y81)]) [(100, .cells 53 [V.i e2.Kind, V.i e2.Op, V.s e2.Text, V.s e2.Other, .sl false false (e2.Kids.map encI)])] mix (by
  refine W.run Dk 4 101 (by kernel_rfl) ?_
  rcases cond_some hv107 with ⟨hc108, hv107⟩ | ⟨hc108, hv107⟩
  ·refine W.is 62 hc108 (by kernel_rfl) ?_
   refine W.run Dk 2 101 (by kernel_rfl) ?_
   obtain ⟨r82, hx109, hv107⟩ := bind_some hv107
   refine W.call0 (m_spec_l39Under_ok e2.Op hx109) cok112 rfl (by kernel_rfl) ?_
   refine W.run Dk 3 101 (by kernel_rfl) ?_
   have hv107 := Option.some.inj hv107
   subst hv107
   exact W.fs [(100, 100)] [0, 1, 5, 58] (by kernel_rfl)
  refine W.is 62 hc108 (by kernel_rfl) ?_
  refine W.run Dk 6 101 (by kernel_rfl) ?_
  have hv107 := Option.some.inj hv107
  subst hv107
  exact W.fs [(100, 100)] [0, 1, 5, 58] (by kernel_rfl)
  ) ?_
 rcases cond_some h with ⟨hc110, h⟩ | ⟨hc110, h⟩
 ·refine CO.ifT hc110 (by kernel_rfl) ?_
  obtain ⟨r89, hx117, h⟩ := bind_some h
  obtain ⟨e90, hx118, h⟩ := bind_some h
  obtain ⟨r91, hx119, h⟩ := bind_some h
  obtain ⟨e92, hx120, h⟩ := bind_some h
  obtain ⟨r93, hx121, h⟩ := bind_some h
  obtain ⟨r94, hx122, h⟩ := bind_some h
  refine CO.cutR (tl 140 [(4, .own 104)]) [(104, .vec false 53 5 (r94.map (eSN true)))] mix (by
   refine W.run Dk 2 101 (by kernel_rfl) ?_
   refine W.call0 (m_spec_l39Under_ok e2.Op hx117) cok112 rfl (by kernel_rfl) ?_
   refine W.run Dk 4 101 (by kernel_rfl) ?_
   refine W.ixD Dk encI hx118 1 (by kernel_rfl) (by kernel_rfl) ?_
   refine W.run Dk 1 101 (by kernel_rfl) ?_
   refine W.call (HR.m_spec_l39Push a0 e90 _ hx119) cok76 [] [(100, 101)] [101] (show LayOk _ [] from trivial) (by kernel_rfl) (by kernel_rfl) ?_
   refine W.run Dk 3 102 (by kernel_rfl) ?_
   refine W.ixD Dk encI hx120 1 (by kernel_rfl) (by kernel_rfl) ?_
   refine W.run Dk 1 102 (by kernel_rfl) ?_
   refine W.call (HR.m_spec_l39Push a0 e92 _ hx121) cok76 [] [(100, 102)] [102] (show LayOk _ [] from trivial) (by kernel_rfl) (by kernel_rfl) ?_
   refine W.run Dk 1 103 (by kernel_rfl) ?_
   refine W.lend (m_spec_l6Make_ok N (⟨12, r89, [], [], []⟩ : SNode) [r91, r93] hx122) cok57 [(100, 104)] [104] (LayOk.cons (j := 103) (encL true (eSN true)) (encL false (eSN false)) ([r91, r93] : List (List SNode)) (by kernel_rfl) (share_encL _ (sh_eSN _)) (show LayOk _ [] from trivial)) (.own _) (.cons (DeepR.map (fun _ => (.cons (.c _) (.cons (.c _) (.cons (.c _) (.cons (.c _) (.cons (.sl _ _ (DeepR.map (fun _ => (.cons (.c _) .nil)) _)) .nil)))))) _) .nil) (by kernel_rfl) (by kernel_rfl) ?_
   refine W.run Dk 1 105 (by kernel_rfl) ?_
   exact W.fi (by kernel_rfl)
   ) ?_
  refine CO.ret ?_
  have h := Option.some.inj h
  subst h
  exact Ends.gen [(104, 100)] (.inr rfl) (RetV.one rfl (OneR.tmp (t := 4) (r := .own 104) (by kernel_rfl))) (by kernel_rfl) (by kernel_rfl) (by kernel_rfl)
 refine CO.ifF hc110 (by kernel_rfl) ?_
 obtain ⟨y95, hv124, h⟩ := bind_some h
 refine CO.cutR (tl 140 [(0, .sl false false (a0.map (eSN false))), (1, V.i a1), (5, .loc 100 0), (86, V.b y95)]) [(100, .cells 53 [V.i e2.Kind, V.i e2.Op, V.s e2.Text, V.s e2.Other, .sl false false (e2.Kids.map encI)])] mix (by
  refine W.run Dk 4 101 (by kernel_rfl) ?_
  rcases cond_some hv124 with ⟨hc125, hv124⟩ | ⟨hc125, hv124⟩
  ·refine W.is 90 hc125 (by kernel_rfl) ?_
   refine W.run Dk 5 101 (by kernel_rfl) ?_
   have hv124 := Option.some.inj hv124
   subst hv124
   exact W.fs [(100, 100)] [0, 1, 5, 86] (by kernel_rfl)
  refine W.is 90 hc125 (by kernel_rfl) ?_
  refine W.run Dk 5 101 (by kernel_rfl) ?_
  have hv124 := Option.some.inj hv124
  subst hv124
  exact W.fs [(100, 100)] [0, 1, 5, 86] (by kernel_rfl)
  ) ?_
 rcases cond_some h with ⟨hc126, h⟩ | ⟨hc126, h⟩
 ·refine CO.ifT hc126 (by kernel_rfl) ?_
  obtain ⟨e101, hx132, h⟩ := bind_some h
  obtain ⟨r102, hx133, h⟩ := bind_some h
  obtain ⟨e103, hx134, h⟩ := bind_some h
  obtain ⟨r104, hx135, h⟩ := bind_some h
  obtain ⟨r105, hx136, h⟩ := bind_some h
  refine CO.cutR (tl 140 [(4, .own 104)]) [(104, .vec false 53 5 (r105.map (eSN true)))] mix (by
   refine W.run Dk 4 101 (by kernel_rfl) ?_
   refine W.ixD Dk encI hx132 1 (by kernel_rfl) (by kernel_rfl) ?_
   refine W.run Dk 1 101 (by kernel_rfl) ?_
   refine W.call (HR.m_spec_l39Not a0 e101 _ hx133) cok74 [] [(100, 101)] [101] (show LayOk _ [] from trivial) (by kernel_rfl) (by kernel_rfl) ?_
   refine W.run Dk 3 102 (by kernel_rfl) ?_
   refine W.ixD Dk encI hx134 1 (by kernel_rfl) (by kernel_rfl) ?_
   refine W.run Dk 1 102 (by kernel_rfl) ?_
   refine W.call (HR.m_spec_l39Not a0 e103 _ hx135) cok74 [] [(100, 102)] [102] (show LayOk _ [] from trivial) (by kernel_rfl) (by kernel_rfl) ?_
   refine W.run Dk 1 103 (by kernel_rfl) ?_
   refine W.lend (m_spec_l6Make_ok N (⟨12, 44, [], [], []⟩ : SNode) [r102, r104] hx136) cok57 [(100, 104)] [104] (LayOk.cons (j := 103) (encL true (eSN true)) (encL false (eSN false)) ([r102, r104] : List (List SNode)) (by kernel_rfl) (share_encL _ (sh_eSN _)) (show LayOk _ [] from trivial)) (.own _) (.cons (DeepR.map (fun _ => (.cons (.c _) (.cons (.c _) (.cons (.c _) (.cons (.c _) (.cons (.sl _ _ (DeepR.map (fun _ => (.cons (.c _) .nil)) _)) .nil)))))) _) .nil) (by kernel_rfl) (by kernel_rfl) ?_
   refine W.run Dk 1 105 (by kernel_rfl) ?_
   exact W.fi (by kernel_rfl)
   ) ?_
  refine CO.ret ?_
  have h := Option.some.inj h
  subst h
  exact Ends.gen [(104, 100)] (.inr rfl) (RetV.one rfl (OneR.tmp (t := 4) (r := .own 104) (by kernel_rfl))) (by kernel_rfl) (by kernel_rfl) (by kernel_rfl)
 refine CO.ifF hc126 (by kernel_rfl) ?_
 obtain ⟨y106, hv138, h⟩ := bind_some h
 refine CO.cutR (tl 140 [(0, .sl false false (a0.map (eSN false))), (1, V.i a1), (5, .loc 100 0), (110, V.b y106)]) [(100, .cells 53 [V.i e2.Kind, V.i e2.Op, V.s e2.Text, V.s e2.Other, .sl false false (e2.Kids.map encI)])] mix (by
  refine W.run Dk 4 101 (by kernel_rfl) ?_
  rcases cond_some hv138 with ⟨hc139, hv138⟩ | ⟨hc139, hv138⟩
  ·refine W.is 114 hc139 (by kernel_rfl) ?_
   refine W.run Dk 5 101 (by kernel_rfl) ?_
   have hv138 := Option.some.inj hv138
   subst hv138
   exact W.fs [(100, 100)] [0, 1, 5, 110] (by kernel_rfl)
  refine W.is 114 hc139 (by kernel_rfl) ?_
  refine W.run Dk 5 101 (by kernel_rfl) ?_
  have hv138 := Option.some.inj hv138
  subst hv138
  exact W.fs [(100, 100)] [0, 1, 5, 110] (by kernel_rfl)
  ) ?_
 rcases cond_some h with ⟨hc140, h⟩ | ⟨hc140, h⟩
 ·refine CO.ifT hc140 (by kernel_rfl) ?_
  obtain ⟨e112, hx146, h⟩ := bind_some h
  obtain ⟨r113, hx147, h⟩ := bind_some h
  obtain ⟨e114, hx148, h⟩ := bind_some h
  obtain ⟨r115, hx149, h⟩ := bind_some h
  obtain ⟨r116, hx150, h⟩ := bind_some h
  refine CO.cutR (tl 140 [(4, .own 104)]) [(104, .vec false 53 5 (r116.map (eSN true)))] mix (by
   refine W.run Dk 4 101 (by kernel_rfl) ?_
   refine W.ixD Dk encI hx146 1 (by kernel_rfl) (by kernel_rfl) ?_
   refine W.run Dk 1 101 (by kernel_rfl) ?_
   refine W.call (HR.m_spec_l39Not a0 e112 _ hx147) cok74 [] [(100, 101)] [101] (show LayOk _ [] from trivial) (by kernel_rfl) (by kernel_rfl) ?_
   refine W.run Dk 3 102 (by kernel_rfl) ?_
   refine W.ixD Dk encI hx148 1 (by kernel_rfl) (by kernel_rfl) ?_
   refine W.run Dk 1 102 (by kernel_rfl) ?_
   refine W.call (HR.m_spec_l39Not a0 e114 _ hx149) cok74 [] [(100, 102)] [102] (show LayOk _ [] from trivial) (by kernel_rfl) (by kernel_rfl) ?_
   refine W.run Dk 1 103 (by kernel_rfl) ?_
   refine W.lend (m_spec_l6Make_ok N (⟨12, 45, [], [], []⟩ : SNode) [r113, r115] hx150) cok57 [(100, 104)] [104] (LayOk.cons (j := 103) (encL true (eSN true)) (encL false (eSN false)) ([r113, r115] : List (List SNode)) (by kernel_rfl) (share_encL _ (sh_eSN _)) (show LayOk _ [] from trivial)) (.own _) (.cons (DeepR.map (fun _ => (.cons (.c _) (.cons (.c _) (.cons (.c _) (.cons (.c _) (.cons (.sl _ _ (DeepR.map (fun _ => (.cons (.c _) .nil)) _)) .nil)))))) _) .nil) (by kernel_rfl) (by kernel_rfl) ?_
   refine W.run Dk 1 105 (by kernel_rfl) ?_
   exact W.fi (by kernel_rfl)
   ) ?_
  refine CO.ret ?_
  have h := Option.some.inj h
  subst h
  exact Ends.gen [(104, 100)] (.inr rfl) (RetV.one rfl (OneR.tmp (t := 4) (r := .own 104) (by kernel_rfl))) (by kernel_rfl) (by kernel_rfl) (by kernel_rfl)
 refine CO.ifF hc140 (by kernel_rfl) ?_
 refine CO.skip ?_
 obtain ⟨r119, hx153, h⟩ := bind_some h
 obtain ⟨r120, hx154, h⟩ := bind_some h
 refine CO.cutR (tl 140 [(4, .own 103)]) [(103, .vec false 53 5 (r120.map (eSN true)))] mix (by
  refine W.run Dk 3 101 (by kernel_rfl) ?_
  refine W.call (HR.m_spec_l39Push a0 a1 _ hx153) cok76 [] [(100, 101)] [101] (show LayOk _ [] from trivial) (by kernel_rfl) (by kernel_rfl) ?_
  refine W.run Dk 1 102 (by kernel_rfl) ?_
  refine W.lend (m_spec_l6Make_ok N (⟨11, 61, [], [], []⟩ : SNode) [r119] hx154) cok57 [(100, 103)] [103] (LayOk.cons (j := 102) (encL true (eSN true)) (encL false (eSN false)) ([r119] : List (List SNode)) (by kernel_rfl) (share_encL _ (sh_eSN _)) (show LayOk _ [] from trivial)) (.own _) (.cons (DeepR.map (fun _ => (.cons (.c _) (.cons (.c _) (.cons (.c _) (.cons (.c _) (.cons (.sl _ _ (DeepR.map (fun _ => (.cons (.c _) .nil)) _)) .nil)))))) _) .nil) (by kernel_rfl) (by kernel_rfl) ?_
  refine W.run Dk 1 104 (by kernel_rfl) ?_
  exact W.fi (by kernel_rfl)
  ) ?_
 refine CO.ret ?_
 have h := Option.some.inj h
 subst h
 exact Ends.gen [(103, 100)] (.inr rfl) (RetV.one rfl (OneR.tmp (t := 4) (r := .own 103) (by kernel_rfl))) (by kernel_rfl) (by kernel_rfl) (by kernel_rfl)

theorem m_spec_l39Push_F_ok (N : Nat) (R : Rec1) (HR : RecOk1 R) (a0 : List SNode) (a1 : Int) {r : (List SNode)} (h : m_spec_l39Push_F N R a0 a1 = some r) :
    AC Tryz.prog (GS []) 76 [.sl false false (a0.map (eSN false)), V.i a1] [] (.own 100) [(100, .vec false 53 5 (r.map (eSN true)))] := by
 rw [m_spec_l39Push_F] at h
 refine AC.enter Tryz.func76 rfl ?_
 refine cu Dk mix 1 100 (tl 47 [(0, .sl false false (a0.map (eSN false))), (1, V.i a1)]) [] (by kernel_rfl) ?_
 obtain ⟨e2, hx2, h⟩ := bind_some h
 refine CO.cutR (tl 47 [(0, .sl false false (a0.map (eSN false))), (5, .loc 100 0)]) [(100, .cells 53 [V.i e2.Kind, V.i e2.Op, V.s e2.Text, V.s e2.Other, .sl false false (e2.Kids.map encI)])] mix (by
  refine W.run Dk 2 100 (by kernel_rfl) ?_
  refine W.ixD Dk (eSN false) hx2 5 (by kernel_rfl) (by kernel_rfl) ?_
  refine W.run Dk 3 100 (by kernel_rfl) ?_
  exact W.fi (by kernel_rfl)
  ) ?_
 refine CO.seq' ?_
 obtain ⟨y8, hv12, h⟩ := bind_some h
 refine CO.cutR (tl 47 [(0, .sl false false (a0.map (eSN false))), (5, .loc 100 0), (19, V.b y8)]) [(100, .cells 53 [V.i e2.Kind, V.i e2.Op, V.s e2.Text, V.s e2.Other, .sl false false (e2.Kids.map encI)])] mix (by
  refine W.run Dk 4 101 (by kernel_rfl) ?_
  rcases cond_some hv12 with ⟨hc13, hv12⟩ | ⟨hc13, hv12⟩
  ·refine W.is 15 hc13 (by kernel_rfl) ?_
   refine W.run Dk 4 101 (by kernel_rfl) ?_
   have hv12 := Option.some.inj hv12
   subst hv12
   exact W.fs [(100, 100)] [0, 5, 19] (by kernel_rfl)
  refine W.is 15 hc13 (by kernel_rfl) ?_
  refine W.run Dk 4 101 (by kernel_rfl) ?_
  have hv12 := Option.some.inj hv12
  subst hv12
  exact W.fs [(100, 100)] [0, 5, 19] (by kernel_rfl)
  ) ?_
 rcases cond_some h with ⟨hc14, h⟩ | ⟨hc14, h⟩
 ·refine CO.ifT hc14 (by kernel_rfl) ?_
  obtain ⟨e11, hx17, h⟩ := bind_some h
  obtain ⟨r12, hx18, h⟩ := bind_some h
  refine CO.cutR (tl 47 [(4, .own 101)]) [(101, .vec false 53 5 (r12.map (eSN true)))] mix (by
   refine W.run Dk 3 101 (by kernel_rfl) ?_
   refine W.ixD Dk encI hx17 1 (by kernel_rfl) (by kernel_rfl) ?_
   refine W.run Dk 1 101 (by kernel_rfl) ?_
   refine W.call (HR.m_spec_l39Not a0 e11 _ hx18) cok74 [] [(100, 101)] [101] (show LayOk _ [] from trivial) (by kernel_rfl) (by kernel_rfl) ?_
   refine W.run Dk 1 102 (by kernel_rfl) ?_
   exact W.fi (by kernel_rfl)
   ) ?_
  refine CO.ret ?_
  have h := Option.some.inj h
  subst h
  exact Ends.gen [(101, 100)] (.inr rfl) (RetV.one rfl (OneR.tmp (t := 4) (r := .own 101) (by kernel_rfl))) (by kernel_rfl) (by kernel_rfl) (by kernel_rfl)
 refine CO.ifF hc14 (by kernel_rfl) ?_
 refine CO.skip ?_
 refine cu Dk mix 2 101 (tl 47 [(0, .sl false false (a0.map (eSN false))), (5, .loc 100 0), (6, .own 101)]) [(101, .vec false 22 1 ([].map (encL true (eSN true)))), (100, .cells 53 [V.i e2.Kind, V.i e2.Op, V.s e2.Text, V.s e2.Other, .sl false false (e2.Kids.map encI)])] (by kernel_rfl) ?_
 refine CO.seq' ?_
 refine cu Dk mix 1 102 (tl 47 [(0, .sl false false (a0.map (eSN false))), (5, .loc 100 0), (6, .own 101), (7, V.i 0)]) [(101, .vec false 22 1 ([].map (encL true (eSN true)))), (100, .cells 53 [V.i e2.Kind, V.i e2.Op, V.s e2.Text, V.s e2.Other, .sl false false (e2.Kids.map encI)])] (by kernel_rfl) ?_
 refine CO.block' ?_
 refine CO.loopJ (fun (⟨a0, e2, y65, y66⟩ : ((List SNode) × SNode × Int × (List (List SNode)))) => ⟨tl 47 [(0, .sl false false (a0.map (eSN false))), (5, .loc 100 0), (6, .own 101), (7, V.i y65)], [(100, .cells 53 [V.i e2.Kind, V.i e2.Op, V.s e2.Text, V.s e2.Other, .sl false false (e2.Kids.map encI)]), (101, .vec false 22 1 (y66.map (encL true (eSN true))))]⟩) (fun n i => m_spec_l39Push_l1 N R n i = some r) (n0 := N) (i0 := (a0, e2, 0, [])) (Weak.sel [(100, 100), (101, 101)] [0, 5, 6, 7] (by kernel_rfl) (by kernel_rfl) (by kernel_rfl)) h (fun i h => by simp [m_spec_l39Push_l1] at h) ?_
 rintro n1 ⟨a0, e2, y65, y66⟩ h91 ih92
 rw [m_spec_l39Push_l1] at h91
 refine CO.seq' ?_
 refine CO.cutR (tl 47 [(0, .sl false false (a0.map (eSN false))), (5, .loc 100 0), (6, .own 101), (7, V.i y65), (31, V.b (decide (y65 < (e2.Kids.length : Int))))]) [(100, .cells 53 [V.i e2.Kind, V.i e2.Op, V.s e2.Text, V.s e2.Other, .sl false false (e2.Kids.map encI)]), (101, .vec false 22 1 (y66.map (encL true (eSN true))))] mix (by
  refine W.run Dk 3 168 (by kernel_rfl) ?_
  refine W.len Dk encI e2.Kids [] (by kernel_rfl) (by kernel_rfl) ?_
  refine W.run Dk 1 168 (by kernel_rfl) ?_
  exact W.fi (by kernel_rfl)
  ) ?_
 rcases cond_some h91 with ⟨hc94, h91⟩ | ⟨hc94, h91⟩
 ·refine CO.ifT hc94 (by kernel_rfl) ?_
  refine CO.skip ?_
  refine CO.seq' ?_
  refine CO.block' ?_
  obtain ⟨e90, hx104, h91⟩ := bind_some h91
  obtain ⟨r91, hx105, h91⟩ := bind_some h91
  obtain ⟨x92, hx106, h91⟩ := bind_some h91
  refine CO.endR (tl 47 [(0, .sl false false (a0.map (eSN false))), (5, .loc 100 0), (6, .own 170), (7, V.i y65)]) [(170, .vec false 22 1 (x92.map (encL true (eSN true)))), (100, .cells 53 [V.i e2.Kind, V.i e2.Op, V.s e2.Text, V.s e2.Other, .sl false false (e2.Kids.map encI)])] mix (by
   refine W.run Dk 5 168 (by kernel_rfl) ?_
   refine W.ixD Dk encI hx104 1 (by kernel_rfl) (by kernel_rfl) ?_
   refine W.run Dk 1 168 (by kernel_rfl) ?_
   refine W.call (HR.m_spec_l39Push a0 e90 _ hx105) cok76 [] [(100, 168)] [168] (show LayOk _ [] from trivial) (by kernel_rfl) (by kernel_rfl) ?_
   refine W.run Dk 1 169 (by kernel_rfl) ?_
   refine W.appO Dk (encL true (eSN true)) (a := 101) (c := 169) (el := 22) (sz := 1) 24 hx106 rfl 170 (by kernel_rfl) ?_
   refine W.run Dk 1 171 (by kernel_rfl) ?_
   exact W.fi (by kernel_rfl)
   ) (fun st hw => ?_)
  refine CO.weak hw ?_
  refine ce Dk mix 3 171 (tl 47 [(0, .sl false false (a0.map (eSN false))), (5, .loc 100 0), (6, .own 170), (7, V.i (IntKind.wrap .i64 (y65 + 1)))]) [(170, .vec false 22 1 (x92.map (encL true (eSN true)))), (100, .cells 53 [V.i e2.Kind, V.i e2.Op, V.s e2.Text, V.s e2.Other, .sl false false (e2.Kids.map encI)])] (by kernel_rfl) (fun st hw => ?_)
  exact ih92 (a0, e2, (IntKind.wrap .i64 (y65 + 1)), x92) h91 _ (hw.trans (Weak.sel [(100, 100), (170, 101)] [0, 5, 6, 7] (by kernel_rfl) (by kernel_rfl) (by kernel_rfl)))
 refine CO.ifF hc94 (by kernel_rfl) ?_
 refine CO.exit ?_
 obtain ⟨r94, hx108, h91⟩ := bind_some h91
 refine CO.cutR (tl 47 [(4, .own 168)]) [(168, .vec false 53 5 (r94.map (eSN true)))] mix (by
  refine W.run Dk 2 168 (by kernel_rfl) ?_
  refine W.lend (m_spec_l6Make_ok N e2 y66 hx108) cok57 [(100, 168)] [168] (LayOk.cons (j := 101) (encL true (eSN true)) (encL false (eSN false)) y66 (by kernel_rfl) (share_encL _ (sh_eSN _)) (show LayOk _ [] from trivial)) (.own _) (.cons (DeepR.map (fun _ => (.cons (.c _) (.cons (.c _) (.cons (.c _) (.cons (.c _) (.cons (.sl _ _ (DeepR.map (fun _ => (.cons (.c _) .nil)) _)) .nil)))))) _) .nil) (by kernel_rfl) (by kernel_rfl) ?_
  refine W.run Dk 1 169 (by kernel_rfl) ?_
  exact W.fi (by kernel_rfl)
  ) ?_
 refine CO.ret ?_
 have h91 := Option.some.inj h91
 subst h91
 exact Ends.gen [(168, 100)] (.inr rfl) (RetV.one rfl (OneR.tmp (t := 4) (r := .own 168) (by kernel_rfl))) (by kernel_rfl) (by kernel_rfl) (by kernel_rfl)

theorem scc1_ok : ∀ N, RecOk1 (scc1 N)
  | 0 => ⟨fun _ _ _ h => (by cases h), fun _ _ _ h => (by cases h)⟩
  | N + 1 => ⟨fun a0 a1 _ h => m_spec_l39Not_F_ok N (scc1 N) (scc1_ok N) a0 a1 h, fun a0 a1 _ h => m_spec_l39Push_F_ok N (scc1 N) (scc1_ok N) a0 a1 h⟩

theorem m_spec_l39Not_ok (N : Nat) (a0 : List SNode) (a1 : Int) {r : (List SNode)} (h : m_spec_l39Not N a0 a1 = some r) :
    AC Tryz.prog (GS []) 74 [.sl false false (a0.map (eSN false)), V.i a1] [] (.own 100) [(100, .vec false 53 5 (r.map (eSN true)))] :=
  (scc1_ok N).m_spec_l39Not a0 a1 r h
theorem m_spec_l39Push_ok (N : Nat) (a0 : List SNode) (a1 : Int) {r : (List SNode)} (h : m_spec_l39Push N a0 a1 = some r) :
    AC Tryz.prog (GS []) 76 [.sl false false (a0.map (eSN false)), V.i a1] [] (.own 100) [(100, .vec false 53 5 (r.map (eSN true)))] :=
  (scc1_ok N).m_spec_l39Push a0 a1 r h

theorem m_spec_l6Copy_ok (N : Nat) (a0 : List SNode) {r : (List SNode)} (h : m_spec_l6Copy N a0 = some r) :
    AC Tryz.prog (GS []) 55 [.sl false false (a0.map (eSN false))] [] (.own 100) [(100, .vec false 53 5 (r.map (eSN true)))] := by
 rw [m_spec_l6Copy] at h
 refine AC.enter Tryz.func55 rfl ?_
 refine cu Dk mix 1 100 (tl 5 [(0, .sl false false (a0.map (eSN false)))]) [] (by kernel_rfl) ?_
 obtain ⟨r2, hx2, h⟩ := bind_some h
 refine CO.cutR (tl 5 [(2, .own 100)]) [(100, .vec false 53 5 (r2.map (eSN true)))] mix (by
  refine W.run Dk 1 100 (by kernel_rfl) ?_
  refine W.call (m_spec_l6Shift_ok N a0 0 hx2) cok99 [] [(100, 100)] [100] (show LayOk _ [] from trivial) (by kernel_rfl) (by kernel_rfl) ?_
  refine W.run Dk 1 101 (by kernel_rfl) ?_
  exact W.fi (by kernel_rfl)
  ) ?_
 refine CO.ret ?_
 have h := Option.some.inj h
 subst h
 exact Ends.gen [(100, 100)] (.inr rfl) (RetV.one rfl (OneR.tmp (t := 2) (r := .own 100) (by kernel_rfl))) (by kernel_rfl) (by kernel_rfl) (by kernel_rfl)

theorem m_spec_PushNot_ok (N : Nat) (a0 : List SNode) {r : (List SNode)} (h : m_spec_PushNot N a0 = some r) :
    AC Tryz.prog (GS []) 32 [.sl false false (a0.map (eSN false))] [] (.own 100) [(100, .vec false 53 5 (r.map (eSN true)))] := by
 rw [m_spec_PushNot] at h
 refine AC.enter Tryz.func32 rfl ?_
 refine cu Dk mix 1 100 (tl 19 [(0, .sl false false (a0.map (eSN false)))]) [] (by kernel_rfl) ?_
 refine CO.seq' ?_
 obtain ⟨r4, hx5, h⟩ := bind_some h
 refine CO.cutR (tl 19 [(0, .sl false false (a0.map (eSN false))), (6, V.b (!r4))]) [] mix (by
  refine W.run Dk 1 100 (by kernel_rfl) ?_
  refine W.call0 (m_spec_TreeOk_ok N a0 hx5) cok44 rfl (by kernel_rfl) ?_
  refine W.run Dk 1 100 (by kernel_rfl) ?_
  exact W.fi (by kernel_rfl)
  ) ?_
 rcases cond_some h with ⟨hc6, h⟩ | ⟨hc6, h⟩
 ·refine CO.ifT hc6 (by kernel_rfl) ?_
  refine cu Dk mix 2 100 (tl 19 [(2, .own 100)]) [(100, .vec false 53 5 ([].map (eSN true)))] (by kernel_rfl) ?_
  refine CO.ret ?_
  have h := Option.some.inj h
  subst h
  exact Ends.gen [(100, 100)] (.inr rfl) (RetV.one rfl (OneR.tmp (t := 2) (r := .own 100) (by kernel_rfl))) (by kernel_rfl) (by kernel_rfl) (by kernel_rfl)
 refine CO.ifF hc6 (by kernel_rfl) ?_
 refine CO.skip ?_
 obtain ⟨r6, hx8, h⟩ := bind_some h
 refine CO.cutR (tl 19 [(0, .sl false false (a0.map (eSN false))), (3, .own 100)]) [(100, .vec false 53 5 (r6.map (eSN true)))] mix (by
  refine W.run Dk 2 100 (by kernel_rfl) ?_
  refine W.len Dk (eSN false) a0 [] (by kernel_rfl) (by kernel_rfl) ?_
  refine W.run Dk 1 100 (by kernel_rfl) ?_
  refine W.call (m_spec_l39Push_ok N a0 (IntKind.wrap .i64 ((a0.length : Int) - 1)) hx8) cok76 [] [(100, 100)] [100] (show LayOk _ [] from trivial) (by kernel_rfl) (by kernel_rfl) ?_
  refine W.run Dk 1 101 (by kernel_rfl) ?_
  exact W.fi (by kernel_rfl)
  ) ?_
 refine CO.seq' ?_
 obtain ⟨r12, hx15, h⟩ := bind_some h
 refine CO.cutR (tl 19 [(0, .sl false false (a0.map (eSN false))), (3, .own 100), (15, V.b (!r12))]) [(100, .vec false 53 5 (r6.map (eSN true)))] mix (by
  refine W.run Dk 1 101 (by kernel_rfl) ?_
  refine W.lend (m_spec_TreeOk_ok N r6 hx15) cok44 [] [] (LayOk.cons (j := 100) (eSN true) (eSN false) r6 (by kernel_rfl) (sh_eSN _) (show LayOk _ [] from trivial)) (.c _) .nil (by kernel_rfl) (by kernel_rfl) ?_
  refine W.run Dk 1 101 (by kernel_rfl) ?_
  exact W.fi (by kernel_rfl)
  ) ?_
 rcases cond_some h with ⟨hc16, h⟩ | ⟨hc16, h⟩
 ·refine CO.ifT hc16 (by kernel_rfl) ?_
  obtain ⟨r14, hx18, h⟩ := bind_some h
  refine CO.cutR (tl 19 [(2, .own 101)]) [(101, .vec false 53 5 (r14.map (eSN true)))] mix (by
   refine W.run Dk 1 101 (by kernel_rfl) ?_
   refine W.call (m_spec_l6Copy_ok N a0 hx18) cok55 [] [(100, 101)] [101] (show LayOk _ [] from trivial) (by kernel_rfl) (by kernel_rfl) ?_
   refine W.run Dk 1 102 (by kernel_rfl) ?_
   exact W.fi (by kernel_rfl)
   ) ?_
  refine CO.ret ?_
  have h := Option.some.inj h
  subst h
  exact Ends.gen [(101, 100)] (.inr rfl) (RetV.one rfl (OneR.tmp (t := 2) (r := .own 101) (by kernel_rfl))) (by kernel_rfl) (by kernel_rfl) (by kernel_rfl)
 refine CO.ifF hc16 (by kernel_rfl) ?_
 refine CO.skip ?_
 refine cu Dk mix 2 101 (tl 19 [(2, .own 100)]) [(100, .vec false 53 5 (r6.map (eSN true)))] (by kernel_rfl) ?_
 refine CO.ret ?_
 have h := Option.some.inj h
 subst h
 exact Ends.gen [(100, 100)] (.inr rfl) (RetV.one rfl (OneR.tmp (t := 2) (r := .own 100) (by kernel_rfl))) (by kernel_rfl) (by kernel_rfl) (by kernel_rfl)

theorem m_impl_within_ok (a0 : Int) (a1 : Int) (a2 : Int) {r : Bool} (h : m_impl_within a0 a1 a2 = some r) :
    AC Tryz.prog (GS []) 80 [V.i a0, V.i a1, V.i a2] [] (V.b r) [] := by
 rw [m_impl_within] at h
 refine AC.enter Tryz.func80 rfl ?_
 refine cu Dk mix 1 100 (tl 15 [(0, V.i a0), (1, V.i a1), (2, V.i a2)]) [] (by kernel_rfl) ?_
 obtain ⟨y1, hv2, h⟩ := bind_some h
 refine CO.cutR (tl 15 [(6, V.b y1)]) [] mix (by
  refine W.run Dk 4 100 (by kernel_rfl) ?_
  rcases cond_some hv2 with ⟨hc3, hv2⟩ | ⟨hc3, hv2⟩
  ·refine W.is 10 hc3 (by kernel_rfl) ?_
   refine W.run Dk 5 100 (by kernel_rfl) ?_
   have hv2 := Option.some.inj hv2
   subst hv2
   exact W.fs [] [6] (by kernel_rfl)
  refine W.is 10 hc3 (by kernel_rfl) ?_
  refine W.run Dk 5 100 (by kernel_rfl) ?_
  have hv2 := Option.some.inj hv2
  subst hv2
  exact W.fs [] [6] (by kernel_rfl)
  ) ?_
 refine CO.ret ?_
 have h := Option.some.inj h
 subst h
 exact Ends.gen [] (.inr rfl) (RetV.one rfl (OneR.tmp (t := 6) (r := V.b y1) (by kernel_rfl))) (by kernel_rfl) (by kernel_rfl) (by kernel_rfl)

theorem m_impl_startsOf_ok (N : Nat) (a0 : List SNode) {r : ((List Int) × Bool)} (h : m_impl_startsOf N a0 = some r) :
    AC Tryz.prog (GS []) 126 [.sl false false (a0.map (eSN false))] [] (.tup [.own 100, V.b r.2]) [(100, .vec false 3 1 (r.1.map encI))] := by
 rw [m_impl_startsOf] at h
 refine AC.enter Tryz.func126 rfl ?_
 refine cu Dk mix 2 100 (tl 57 [(0, .sl false false (a0.map (eSN false))), (2, .loc 100 0), (3, .loc 101 0)]) [(101, .cells 4 [V.b false]), (100, .cells 37 [.c (.slice none 0 0)])] (by kernel_rfl) ?_
 refine CO.seq' ?_
 obtain ⟨r4, hx5, h⟩ := bind_some h
 refine CO.cutR (tl 57 [(0, .sl false false (a0.map (eSN false))), (2, .loc 100 0), (3, .loc 101 0), (13, V.b (!r4))]) [(101, .cells 4 [V.b false]), (100, .cells 37 [.c (.slice none 0 0)])] mix (by
  refine W.run Dk 1 102 (by kernel_rfl) ?_
  refine W.len Dk (eSN false) a0 [] (by kernel_rfl) (by kernel_rfl) ?_
  refine W.call0 (m_impl_within_ok (a0.length : Int) 1 400 hx5) cok80 rfl (by kernel_rfl) ?_
  refine W.run Dk 1 102 (by kernel_rfl) ?_
  exact W.fi (by kernel_rfl)
  ) ?_
 rcases cond_some h with ⟨hc6, h⟩ | ⟨hc6, h⟩
 ·refine CO.ifT hc6 (by kernel_rfl) ?_
  refine cu Dk mix 2 102 (tl 57 [(2, .loc 100 0), (3, .loc 101 0)]) [(101, .cells 4 [V.b false]), (100, .cells 37 [.c (.slice none 0 0)])] (by kernel_rfl) ?_
  refine CO.weak (Weak.nilCell 100 0 102 3 1 (ety := 37) (cs := [.c (.slice none 0 0)]) (by kernel_rfl) (by kernel_rfl) (by kernel_rfl)) ?_
  refine CO.ret ?_
  have h := Option.some.inj h
  subst h
  exact Ends.gen [(102, 100)] (.inr rfl) (RetV.two rfl (OneR.cell Dk (r := .own 102) (i := 100) (ety := 37) (cs := [.own 102]) (by kernel_rfl) (by kernel_rfl) (by kernel_rfl)) (OneR.cell Dk (r := V.b false) (i := 101) (ety := 4) (cs := [V.b false]) (by kernel_rfl) (by kernel_rfl) (by kernel_rfl))) (by kernel_rfl) (by kernel_rfl) (by kernel_rfl)
 refine CO.ifF hc6 (by kernel_rfl) ?_
 refine CO.skip ?_
 obtain ⟨x6, hx8, h⟩ := bind_some h
 refine CO.cutR (tl 57 [(0, .sl false false (a0.map (eSN false))), (2, .loc 100 0), (3, .loc 101 0), (4, .loc 103 0)]) [(103, .cells 37 [.own 102]), (102, .vec false 3 1 (x6.map encI)), (101, .cells 4 [V.b false]), (100, .cells 37 [.c (.slice none 0 0)])] mix (by
  refine W.run Dk 1 102 (by kernel_rfl) ?_
  refine W.len Dk (eSN false) a0 [] (by kernel_rfl) (by kernel_rfl) ?_
  refine W.mk Dk encI 8 hx8 102 3 1 [.int .i64 0] (by kernel_rfl) (by kernel_rfl) ?_
  refine W.run Dk 2 103 (by kernel_rfl) ?_
  exact W.fi (by kernel_rfl)
  ) ?_
 refine CO.seq' ?_
 refine CO.cutR (tl 57 [(0, .sl false false (a0.map (eSN false))), (2, .loc 100 0), (3, .loc 101 0), (4, .loc 103 0), (17, .sl false false (a0.map (eSN false))), (18, V.i (a0.length : Int)), (19, V.i 0)]) [(103, .cells 37 [.own 102]), (102, .vec false 3 1 (x6.map encI)), (101, .cells 4 [V.b false]), (100, .cells 37 [.c (.slice none 0 0)])] mix (by
  refine W.run Dk 1 104 (by kernel_rfl) ?_
  refine W.len Dk (eSN false) a0 [] (by kernel_rfl) (by kernel_rfl) ?_
  refine W.run Dk 1 104 (by kernel_rfl) ?_
  exact W.fi (by kernel_rfl)
  ) ?_
 refine CO.block' ?_
 refine CO.loopJ (fun (⟨a0, y203, y204⟩ : ((List SNode) × Int × (List Int))) => ⟨tl 57 [(0, .sl false false (a0.map (eSN false))), (2, .loc 100 0), (3, .loc 101 0), (4, .loc 102 0), (17, .sl false false (a0.map (eSN false))), (18, V.i (a0.length : Int)), (19, V.i y203)], [(100, .cells 37 [.c (.slice none 0 0)]), (101, .cells 4 [V.b false]), (102, .cells 37 [.own 103]), (103, .vec false 3 1 (y204.map encI))]⟩) (fun n i => m_impl_startsOf_l1 N n i = some r) (n0 := N) (i0 := (a0, 0, x6)) (Weak.sel [(100, 100), (101, 101), (103, 102), (102, 103)] [0, 2, 3, 4, 17, 18, 19] (by kernel_rfl) (by kernel_rfl) (by kernel_rfl)) h (fun i h => by simp [m_impl_startsOf_l1] at h) ?_
 rintro n1 ⟨a0, y203, y204⟩ h481 ih482
 rw [m_impl_startsOf_l1] at h481
 refine cu Dk mix 1 272 (tl 57 [(0, .sl false false (a0.map (eSN false))), (2, .loc 100 0), (3, .loc 101 0), (4, .loc 102 0), (17, .sl false false (a0.map (eSN false))), (18, V.i (a0.length : Int)), (19, V.i y203), (20, V.b (decide (y203 < (a0.length : Int))))]) [(100, .cells 37 [.c (.slice none 0 0)]), (101, .cells 4 [V.b false]), (102, .cells 37 [.own 103]), (103, .vec false 3 1 (y204.map encI))] (by kernel_rfl) ?_
 refine CO.seq' ?_
 rcases cond_some h481 with ⟨hc484, h481⟩ | ⟨hc484, h481⟩
 ·refine CO.ifT hc484 (by kernel_rfl) ?_
  refine CO.skip ?_
  refine CO.seq' ?_
  refine CO.block' ?_
  obtain ⟨e322, hx556, h481⟩ := bind_some h481
  refine CO.cutR (tl 57 [(0, .sl false false (a0.map (eSN false))), (2, .loc 100 0), (3, .loc 101 0), (4, .loc 102 0), (5, V.i y203), (6, .loc 272 0), (17, .sl false false (a0.map (eSN false))), (18, V.i (a0.length : Int)), (19, V.i y203)]) [(272, .cells 53 [V.i e322.Kind, V.i e322.Op, V.s e322.Text, V.s e322.Other, .sl false false (e322.Kids.map encI)]), (100, .cells 37 [.c (.slice none 0 0)]), (101, .cells 4 [V.b false]), (102, .cells 37 [.own 103]), (103, .vec false 3 1 (y204.map encI))] mix (by
   refine W.run Dk 1 272 (by kernel_rfl) ?_
   refine W.ixD Dk (eSN false) hx556 5 (by kernel_rfl) (by kernel_rfl) ?_
   refine W.run Dk 4 272 (by kernel_rfl) ?_
   exact W.fi (by kernel_rfl)
   ) ?_
  refine cu Dk mix 4 273 (tl 57 [(0, .sl false false (a0.map (eSN false))), (2, .loc 100 0), (3, .loc 101 0), (4, .loc 102 0), (5, V.i y203), (6, .loc 272 0), (7, .loc 273 0), (17, .sl false false (a0.map (eSN false))), (18, V.i (a0.length : Int)), (19, V.i y203)]) [(273, .cells 3 [V.i (IntKind.wrap .i64 (y203 - 1))]), (272, .cells 53 [V.i e322.Kind, V.i e322.Op, V.s e322.Text, V.s e322.Other, .sl false false (e322.Kids.map encI)]), (100, .cells 37 [.c (.slice none 0 0)]), (101, .cells 4 [V.b false]), (102, .cells 37 [.own 103]), (103, .vec false 3 1 (y204.map encI))] (by kernel_rfl) ?_
  refine CO.seq' ?_
  refine CO.cutR (tl 57 [(0, .sl false false (a0.map (eSN false))), (2, .loc 100 0), (3, .loc 101 0), (4, .loc 102 0), (5, V.i y203), (7, .loc 273 0), (17, .sl false false (a0.map (eSN false))), (18, V.i (a0.length : Int)), (19, V.i y203), (28, .fn 160 [.loc 274 0])]) [(274, .cells 37 [.sl false false (e322.Kids.map encI)]), (273, .cells 3 [V.i (IntKind.wrap .i64 (y203 - 1))]), (100, .cells 37 [.c (.slice none 0 0)]), (101, .cells 4 [V.b false]), (102, .cells 37 [.own 103]), (103, .vec false 3 1 (y204.map encI))] mix (by
   refine W.run Dk 2 274 (by kernel_rfl) ?_
   refine W.call (back142 e322.Kids) cok142 [] [(100, 274)] [274] (show LayOk _ [] from trivial) (by kernel_rfl) (by kernel_rfl) ?_
   exact W.fi (by kernel_rfl)
   ) ?_
  refine CO.block' ?_
  refine CO.rangeB backok160 cok160 V.i e322.Kids [(100, 2), (101, 3), (102, 4), (273, 1), (274, 0), (103, 5)] [0, 2, 3, 4, 5, 7, 17, 18, 19, 28] (tl 57 [(0, .sl false false (a0.map (eSN false))), (2, .loc 2 0), (3, .loc 3 0), (4, .loc 4 0), (5, V.i y203), (7, .loc 1 0), (17, .sl false false (a0.map (eSN false))), (18, V.i (a0.length : Int)), (19, V.i y203), (28, .fn 160 [.loc 0 0])]) (IntKind.wrap .i64 (y203 - 1)) (fun (y345 : Int) => [(2, .cells 37 [.c (.slice none 0 0)]), (3, .cells 4 [V.b false]), (4, .cells 37 [.own 5]), (1, .cells 3 [V.i y345]), (0, .cells 37 [.sl false false (e322.Kids.map encI)]), (5, .vec false 3 1 (y204.map encI))]) (fun es i => m_impl_startsOf_r2 N (m_impl_startsOf_l1 N n1) a0 y203 e322 y204 es i = some r) 0 37 false 29 30 (by kernel_rfl) (by kernel_rfl) (by kernel_rfl) (by kernel_rfl) (by rintro y345; kernel_rfl) h481 ?_ ?_
  ·rintro e339 es340 y345 h609 L
   rw [m_impl_startsOf_r2] at h609
   refine ⟨tl 57 [(0, .sl false false (a0.map (eSN false))), (2, .loc 2 0), (3, .loc 3 0), (4, .loc 4 0), (5, V.i y203), (7, .loc 1 0), (9, V.i e339), (17, .sl false false (a0.map (eSN false))), (18, V.i (a0.length : Int)), (19, V.i y203), (28, .fn 160 [.loc 0 0])], [(2, .cells 37 [.c (.slice none 0 0)]), (3, .cells 4 [V.b false]), (4, .cells 37 [.own 5]), (1, .cells 3 [V.i y345]), (0, .cells 37 [.sl false false (e322.Kids.map encI)]), (5, .vec false 3 1 (y204.map encI))], ?_, ?_⟩
   ·refine ce Dk mix 1 316 (tl 57 [(0, .sl false false (a0.map (eSN false))), (2, .loc 2 0), (3, .loc 3 0), (4, .loc 4 0), (5, V.i y203), (7, .loc 1 0), (9, V.i e339), (17, .sl false false (a0.map (eSN false))), (18, V.i (a0.length : Int)), (19, V.i y203), (28, .fn 160 [.loc 0 0])]) [(2, .cells 37 [.c (.slice none 0 0)]), (3, .cells 4 [V.b false]), (4, .cells 37 [.own 5]), (1, .cells 3 [V.i y345]), (0, .cells 37 [.sl false false (e322.Kids.map encI)]), (5, .vec false 3 1 (y204.map encI))] (by kernel_rfl) (fun st hw => ?_)
    exact ⟨rfl, hw⟩
   ·refine CO.block' ?_
    refine CO.seq' ?_
    obtain ⟨y352, hv616, h609⟩ := bind_some h609
    refine CO.cutR (tl 57 [(0, .sl false false (a0.map (eSN false))), (2, .loc 2 0), (3, .loc 3 0), (4, .loc 4 0), (5, V.i y203), (7, .loc 1 0), (9, V.i e339), (17, .sl false false (a0.map (eSN false))), (18, V.i (a0.length : Int)), (19, V.i y203), (28, .fn 160 [.loc 0 0]), (37, V.b y352)]) [(2, .cells 37 [.c (.slice none 0 0)]), (3, .cells 4 [V.b false]), (4, .cells 37 [.own 5]), (1, .cells 3 [V.i y345]), (0, .cells 37 [.sl false false (e322.Kids.map encI)]), (5, .vec false 3 1 (y204.map encI))] mix (by
     refine W.run Dk 3 316 (by kernel_rfl) ?_
     rcases cond_some hv616 with ⟨hc617, hv616⟩ | ⟨hc617, hv616⟩
     ·refine W.is 33 hc617 (by kernel_rfl) ?_
      refine W.run Dk 4 316 (by kernel_rfl) ?_
      have hv616 := Option.some.inj hv616
      subst hv616
      exact W.fs [(2, 2), (3, 3), (4, 4), (1, 1), (0, 0), (5, 5)] [0, 2, 3, 4, 5, 7, 9, 17, 18, 19, 28, 37] (by kernel_rfl)
     refine W.is 33 hc617 (by kernel_rfl) ?_
     refine W.run Dk 4 316 (by kernel_rfl) ?_
     have hv616 := Option.some.inj hv616
     subst hv616
     exact W.fs [(2, 2), (3, 3), (4, 4), (1, 1), (0, 0), (5, 5)] [0, 2, 3, 4, 5, 7, 9, 17, 18, 19, 28, 37] (by kernel_rfl)
     ) ?_
    rcases cond_some h609 with ⟨hc618, h609⟩ | ⟨hc618, h609⟩
    ·refine CO.ifT hc618 (by kernel_rfl) ?_
     refine cu Dk mix 2 316 (tl 57 [(2, .loc 2 0), (3, .loc 3 0)]) [(3, .cells 4 [V.b false]), (2, .cells 37 [.c (.slice none 0 0)]), (4, .cells 37 [.own 5]), (1, .cells 3 [V.i y345]), (0, .cells 37 [.sl false false (e322.Kids.map encI)]), (5, .vec false 3 1 (y204.map encI))] (by kernel_rfl) ?_
     refine CO.weak (Weak.nilCell 2 0 316 3 1 (ety := 37) (cs := [.c (.slice none 0 0)]) (by kernel_rfl) (by kernel_rfl) (by kernel_rfl)) ?_
     refine CO.ret ?_
     refine Fin.mk' [(316, 316), (3, 101), (2, 100), (4, 102), (1, 273), (0, 274), (5, 103)] [0, 2, 3, 4, 5, 7, 17, 18, 19, 28] (tl 57 [(0, .sl false false (a0.map (eSN false))), (2, .loc 100 0), (3, .loc 101 0), (4, .loc 102 0), (5, V.i y203), (7, .loc 273 0), (17, .sl false false (a0.map (eSN false))), (18, V.i (a0.length : Int)), (19, V.i y203), (28, .fn 160 [.loc 274 0])]) [(316, .vec false 3 1 ([].map encI)), (101, .cells 4 [V.b false]), (100, .cells 37 [.own 316]), (102, .cells 37 [.own 103]), (273, .cells 3 [V.i y345]), (274, .cells 37 [.sl false false (e322.Kids.map encI)]), (103, .vec false 3 1 (y204.map encI))] (by kernel_rfl) (by kernel_rfl) (by kernel_rfl) ?_
     have h609 := Option.some.inj h609
     subst h609
     exact Ends.gen [(316, 100)] (.inr rfl) (RetV.two rfl (OneR.cell Dk (r := .own 316) (i := 100) (ety := 37) (cs := [.own 316]) (by kernel_rfl) (by kernel_rfl) (by kernel_rfl)) (OneR.cell Dk (r := V.b false) (i := 101) (ety := 4) (cs := [V.b false]) (by kernel_rfl) (by kernel_rfl) (by kernel_rfl))) (by kernel_rfl) (by kernel_rfl) (by kernel_rfl)
    refine CO.ifF hc618 (by kernel_rfl) ?_
    refine CO.skip ?_
    obtain ⟨e354, hx620, h609⟩ := bind_some h609
    refine CO.endR (tl 57 [(0, .sl false false (a0.map (eSN false))), (2, .loc 2 0), (3, .loc 3 0), (4, .loc 4 0), (5, V.i y203), (7, .loc 1 0), (17, .sl false false (a0.map (eSN false))), (18, V.i (a0.length : Int)), (19, V.i y203), (28, .fn 160 [.loc 0 0])]) [(1, .cells 3 [V.i (IntKind.wrap .i64 (e354 - 1))]), (2, .cells 37 [.c (.slice none 0 0)]), (3, .cells 4 [V.b false]), (4, .cells 37 [.own 5]), (0, .cells 37 [.sl false false (e322.Kids.map encI)]), (5, .vec false 3 1 (y204.map encI))] mix (by
     refine W.run Dk 2 316 (by kernel_rfl) ?_
     refine W.ixO Dk encI hx620 5 1 (by kernel_rfl) ?_
     refine W.ldO Dk encI hx620 3 5 0 (V.i e354) (by kernel_rfl) (by kernel_rfl) ?_
     refine W.run Dk 2 316 (by kernel_rfl) ?_
     exact W.fi (by kernel_rfl)
     ) (fun st hw => ?_)
    exact ⟨tl 57 [], _, (hw.trans (Weak.sel [(2, 2), (3, 3), (4, 4), (1, 1), (0, 0), (5, 5)] [] (by kernel_rfl) (by kernel_rfl) (by kernel_rfl))), (IntKind.wrap .i64 (e354 - 1)), h609, rfl⟩
  ·rintro y345 h610
   rw [m_impl_startsOf_r2] at h610
   refine Fin.mk' [(2, 100), (3, 101), (4, 102), (1, 273), (0, 274), (5, 103)] [0, 2, 3, 4, 5, 7, 17, 18, 19, 28] (tl 57 [(0, .sl false false (a0.map (eSN false))), (2, .loc 100 0), (3, .loc 101 0), (4, .loc 102 0), (5, V.i y203), (7, .loc 273 0), (17, .sl false false (a0.map (eSN false))), (18, V.i (a0.length : Int)), (19, V.i y203), (28, .fn 160 [.loc 274 0])]) [(100, .cells 37 [.c (.slice none 0 0)]), (101, .cells 4 [V.b false]), (102, .cells 37 [.own 103]), (273, .cells 3 [V.i y345]), (274, .cells 37 [.sl false false (e322.Kids.map encI)]), (103, .vec false 3 1 (y204.map encI))] (by kernel_rfl) (by kernel_rfl) (by kernel_rfl) ?_
   obtain ⟨e357, hx623, h610⟩ := bind_some h610
   obtain ⟨x358, hu624, h610⟩ := bind_some h610
   refine CO.endR (tl 57 [(0, .sl false false (a0.map (eSN false))), (2, .loc 100 0), (3, .loc 101 0), (4, .loc 102 0), (17, .sl false false (a0.map (eSN false))), (18, V.i (a0.length : Int)), (19, V.i y203)]) [(103, .vec false 3 1 (x358.map encI)), (100, .cells 37 [.c (.slice none 0 0)]), (101, .cells 4 [V.b false]), (102, .cells 37 [.own 103])] mix (by
    refine W.run Dk 4 336 (by kernel_rfl) ?_
    refine W.ixO Dk encI hx623 103 1 (by kernel_rfl) ?_
    refine W.stO Dk encI (x' := (IntKind.wrap .i64 (y345 + 1))) hx623 hu624 (j := 103) (nn := false) (ety := 3) (sz := 1) (b := 0) (ys := [V.i (IntKind.wrap .i64 (y345 + 1))]) (C := []) (R := []) (by kernel_rfl) (by kernel_rfl) ?_
    exact W.fi (by kernel_rfl)
    ) (fun st hw => ?_)
   refine CO.weak hw ?_
   refine ce Dk mix 2 336 (tl 57 [(0, .sl false false (a0.map (eSN false))), (2, .loc 100 0), (3, .loc 101 0), (4, .loc 102 0), (17, .sl false false (a0.map (eSN false))), (18, V.i (a0.length : Int)), (19, V.i (IntKind.wrap .i64 (y203 + 1)))]) [(103, .vec false 3 1 (x358.map encI)), (100, .cells 37 [.c (.slice none 0 0)]), (101, .cells 4 [V.b false]), (102, .cells 37 [.own 103])] (by kernel_rfl) (fun st hw => ?_)
   exact ih482 (a0, (IntKind.wrap .i64 (y203 + 1)), x358) h610 _ (hw.trans (Weak.sel [(100, 100), (101, 101), (102, 102), (103, 103)] [0, 2, 3, 4, 17, 18, 19] (by kernel_rfl) (by kernel_rfl) (by kernel_rfl)))
 refine CO.ifF hc484 (by kernel_rfl) ?_
 refine CO.exit ?_
 obtain ⟨e360, hx626, h481⟩ := bind_some h481
 refine CO.cutR (tl 57 [(2, .loc 100 0), (3, .loc 101 0)]) [(101, .cells 4 [V.b (e360 == 0)]), (100, .cells 37 [.own 103]), (103, .vec false 3 1 (y204.map encI))] mix (by
  refine W.run Dk 3 272 (by kernel_rfl) ?_
  refine W.len Dk (eSN false) a0 [] (by kernel_rfl) (by kernel_rfl) ?_
  refine W.run Dk 1 272 (by kernel_rfl) ?_
  refine W.ixO Dk encI hx626 103 1 (by kernel_rfl) ?_
  refine W.ldO Dk encI hx626 3 103 0 (V.i e360) (by kernel_rfl) (by kernel_rfl) ?_
  refine W.run Dk 3 272 (by kernel_rfl) ?_
  exact W.fi (by kernel_rfl)
  ) ?_
 refine CO.ret ?_
 have h481 := Option.some.inj h481
 subst h481
 exact Ends.gen [(103, 100)] (.inr rfl) (RetV.two rfl (OneR.cell Dk (r := .own 103) (i := 100) (ety := 37) (cs := [.own 103]) (by kernel_rfl) (by kernel_rfl) (by kernel_rfl)) (OneR.cell Dk (r := V.b (e360 == 0)) (i := 101) (ety := 4) (cs := [V.b (e360 == 0)]) (by kernel_rfl) (by kernel_rfl) (by kernel_rfl))) (by kernel_rfl) (by kernel_rfl) (by kernel_rfl)

theorem m_impl_ShapeOk_ok (N : Nat) (a0 : List SNode) {r : Bool} (h : m_impl_ShapeOk N a0 = some r) :
    AC Tryz.prog (GS []) 92 [.sl false false (a0.map (eSN false))] [] (V.b r) [] := by
 rw [m_impl_ShapeOk] at h
 refine AC.enter Tryz.func92 rfl ?_
 refine cu Dk mix 1 100 (tl 11 [(0, .sl false false (a0.map (eSN false)))]) [] (by kernel_rfl) ?_
 obtain ⟨r2, hx2, h⟩ := bind_some h
 refine CO.cutR (tl 11 [(4, V.b r2.2)]) [] mix (by
  refine W.run Dk 1 100 (by kernel_rfl) ?_
  refine W.call (m_impl_startsOf_ok N a0 hx2) cok126 [] [(100, 100)] [100] (show LayOk _ [] from trivial) (by kernel_rfl) (by kernel_rfl) ?_
  refine W.run Dk 5 101 (by kernel_rfl) ?_
  exact W.fi (by kernel_rfl)
  ) ?_
 refine cu Dk mix 2 101 (tl 11 [(2, V.b r2.2)]) [] (by kernel_rfl) ?_
 refine CO.ret ?_
 have h := Option.some.inj h
 subst h
 exact Ends.gen [] (.inr rfl) (RetV.one rfl (OneR.tmp (t := 2) (r := V.b r2.2) (by kernel_rfl))) (by kernel_rfl) (by kernel_rfl) (by kernel_rfl)

theorem m_impl_IsExpr_ok (a0 : Int) {r : Bool} (h : m_impl_IsExpr a0 = some r) :
    AC Tryz.prog (GS []) 71 [V.i a0] [] (V.b r) [] := by
 rw [m_impl_IsExpr] at h
 refine AC.enter Tryz.func71 rfl ?_
 refine cu Dk mix 1 100 (tl 5 [(0, V.i a0)]) [] (by kernel_rfl) ?_
 obtain ⟨r2, hx2, h⟩ := bind_some h
 refine CO.cutR (tl 5 [(2, V.b r2)]) [] mix (by
  refine W.run Dk 1 100 (by kernel_rfl) ?_
  refine W.call0 (m_impl_within_ok a0 1 15 hx2) cok80 rfl (by kernel_rfl) ?_
  refine W.run Dk 1 100 (by kernel_rfl) ?_
  exact W.fi (by kernel_rfl)
  ) ?_
 refine CO.ret ?_
 have h := Option.some.inj h
 subst h
 exact Ends.gen [] (.inr rfl) (RetV.one rfl (OneR.tmp (t := 2) (r := V.b r2) (by kernel_rfl))) (by kernel_rfl) (by kernel_rfl) (by kernel_rfl)

theorem m_impl_IsLetter_ok (a0 : Int) {r : Bool} (h : m_impl_IsLetter a0 = some r) :
    AC Tryz.prog (GS []) 177 [V.i a0] [] (V.b r) [] := by
 rw [m_impl_IsLetter] at h
 refine AC.enter Tryz.func177 rfl ?_
 refine cu Dk mix 1 100 (tl 21 [(0, V.i a0)]) [] (by kernel_rfl) ?_
 obtain ⟨y1, hv7, h⟩ := bind_some h
 refine CO.cutR (tl 21 [(2, V.b y1)]) [] mix (by
  refine W.run Dk 3 100 (by kernel_rfl) ?_
  rcases cond_some hv7 with ⟨hc8, hv7⟩ | ⟨hc8, hv7⟩
  ·refine W.is 5 hc8 (by kernel_rfl) ?_
   refine W.run Dk 4 100 (by kernel_rfl) ?_
   rcases cond_some hv7 with ⟨hc9, hv7⟩ | ⟨hc9, hv7⟩
   ·refine W.is 9 hc9 (by kernel_rfl) ?_
    refine W.run Dk 12 100 (by kernel_rfl) ?_
    have hv7 := Option.some.inj hv7
    subst hv7
    exact W.fs [] [2] (by kernel_rfl)
   refine W.is 9 hc9 (by kernel_rfl) ?_
   refine W.run Dk 3 100 (by kernel_rfl) ?_
   rcases cond_some hv7 with ⟨hc10, hv7⟩ | ⟨hc10, hv7⟩
   ·refine W.is 12 hc10 (by kernel_rfl) ?_
    refine W.run Dk 5 100 (by kernel_rfl) ?_
    rcases cond_some hv7 with ⟨hc11, hv7⟩ | ⟨hc11, hv7⟩
    ·refine W.is 17 hc11 (by kernel_rfl) ?_
     refine W.run Dk 4 100 (by kernel_rfl) ?_
     have hv7 := Option.some.inj hv7
     subst hv7
     exact W.fs [] [2] (by kernel_rfl)
    refine W.is 17 hc11 (by kernel_rfl) ?_
    refine W.run Dk 4 100 (by kernel_rfl) ?_
    have hv7 := Option.some.inj hv7
    subst hv7
    exact W.fs [] [2] (by kernel_rfl)
   refine W.is 12 hc10 (by kernel_rfl) ?_
   refine W.run Dk 9 100 (by kernel_rfl) ?_
   have hv7 := Option.some.inj hv7
   subst hv7
   exact W.fs [] [2] (by kernel_rfl)
  refine W.is 5 hc8 (by kernel_rfl) ?_
  refine W.run Dk 7 100 (by kernel_rfl) ?_
  rcases cond_some hv7 with ⟨hc12, hv7⟩ | ⟨hc12, hv7⟩
  ·refine W.is 12 hc12 (by kernel_rfl) ?_
   refine W.run Dk 5 100 (by kernel_rfl) ?_
   rcases cond_some hv7 with ⟨hc13, hv7⟩ | ⟨hc13, hv7⟩
   ·refine W.is 17 hc13 (by kernel_rfl) ?_
    refine W.run Dk 4 100 (by kernel_rfl) ?_
    have hv7 := Option.some.inj hv7
    subst hv7
    exact W.fs [] [2] (by kernel_rfl)
   refine W.is 17 hc13 (by kernel_rfl) ?_
   refine W.run Dk 4 100 (by kernel_rfl) ?_
   have hv7 := Option.some.inj hv7
   subst hv7
   exact W.fs [] [2] (by kernel_rfl)
  refine W.is 12 hc12 (by kernel_rfl) ?_
  refine W.run Dk 9 100 (by kernel_rfl) ?_
  have hv7 := Option.some.inj hv7
  subst hv7
  exact W.fs [] [2] (by kernel_rfl)
  ) ?_
 refine CO.ret ?_
 have h := Option.some.inj h
 subst h
 exact Ends.gen [] (.inr rfl) (RetV.one rfl (OneR.tmp (t := 2) (r := V.b y1) (by kernel_rfl))) (by kernel_rfl) (by kernel_rfl) (by kernel_rfl)

theorem m_impl_IsDigit_ok (a0 : Int) {r : Bool} (h : m_impl_IsDigit a0 = some r) :
    AC Tryz.prog (GS []) 185 [V.i a0] [] (V.b r) [] := by
 rw [m_impl_IsDigit] at h
 refine AC.enter Tryz.func185 rfl ?_
 refine cu Dk mix 1 100 (tl 9 [(0, V.i a0)]) [] (by kernel_rfl) ?_
 obtain ⟨y1, hv2, h⟩ := bind_some h
 refine CO.cutR (tl 9 [(2, V.b y1)]) [] mix (by
  refine W.run Dk 3 100 (by kernel_rfl) ?_
  rcases cond_some hv2 with ⟨hc3, hv2⟩ | ⟨hc3, hv2⟩
  ·refine W.is 5 hc3 (by kernel_rfl) ?_
   refine W.run Dk 4 100 (by kernel_rfl) ?_
   have hv2 := Option.some.inj hv2
   subst hv2
   exact W.fs [] [2] (by kernel_rfl)
  refine W.is 5 hc3 (by kernel_rfl) ?_
  refine W.run Dk 4 100 (by kernel_rfl) ?_
  have hv2 := Option.some.inj hv2
  subst hv2
  exact W.fs [] [2] (by kernel_rfl)
  ) ?_
 refine CO.ret ?_
 have h := Option.some.inj h
 subst h
 exact Ends.gen [] (.inr rfl) (RetV.one rfl (OneR.tmp (t := 2) (r := V.b y1) (by kernel_rfl))) (by kernel_rfl) (by kernel_rfl) (by kernel_rfl)

theorem m_impl_IsWordByte_ok (a0 : Int) {r : Bool} (h : m_impl_IsWordByte a0 = some r) :
    AC Tryz.prog (GS []) 176 [V.i a0] [] (V.b r) [] := by
 rw [m_impl_IsWordByte] at h
 refine AC.enter Tryz.func176 rfl ?_
 refine cu Dk mix 1 100 (tl 9 [(0, V.i a0)]) [] (by kernel_rfl) ?_
 obtain ⟨y3, hv4, h⟩ := bind_some h
 refine CO.cutR (tl 9 [(2, V.b y3)]) [] mix (by
  refine W.run Dk 1 100 (by kernel_rfl) ?_
  obtain ⟨r4, hx5, hv4⟩ := bind_some hv4
  refine W.call0 (m_impl_IsLetter_ok a0 hx5) cok177 rfl (by kernel_rfl) ?_
  refine W.run Dk 1 100 (by kernel_rfl) ?_
  rcases cond_some hv4 with ⟨hc6, hv4⟩ | ⟨hc6, hv4⟩
  ·refine W.is 5 hc6 (by kernel_rfl) ?_
   refine W.run Dk 4 100 (by kernel_rfl) ?_
   have hv4 := Option.some.inj hv4
   subst hv4
   exact W.fs [] [2] (by kernel_rfl)
  refine W.is 5 hc6 (by kernel_rfl) ?_
  refine W.run Dk 1 100 (by kernel_rfl) ?_
  obtain ⟨r5, hx7, hv4⟩ := bind_some hv4
  refine W.call0 (m_impl_IsDigit_ok a0 hx7) cok185 rfl (by kernel_rfl) ?_
  refine W.run Dk 2 100 (by kernel_rfl) ?_
  have hv4 := Option.some.inj hv4
  subst hv4
  exact W.fs [] [2] (by kernel_rfl)
  ) ?_
 refine CO.ret ?_
 have h := Option.some.inj h
 subst h
 exact Ends.gen [] (.inr rfl) (RetV.one rfl (OneR.tmp (t := 2) (r := V.b y3) (by kernel_rfl))) (by kernel_rfl) (by kernel_rfl) (by kernel_rfl)

theorem m_impl_NameShape_ok (N : Nat) (a0 : List UInt8) {r : Bool} (h : m_impl_NameShape N a0 = some r) :
    AC Tryz.prog (GS []) 161 [V.s a0] [] (V.b r) [] := by
 rw [m_impl_NameShape] at h
 refine AC.enter Tryz.func161 rfl ?_
 refine cu Dk mix 1 100 (tl 25 [(0, V.s a0)]) [] (by kernel_rfl) ?_
 refine CO.seq' ?_
 refine cu Dk mix 3 100 (tl 25 [(0, V.s a0), (5, V.i (a0.length : Int)), (6, V.i 0)]) [] (by kernel_rfl) ?_
 refine CO.block' ?_
 refine CO.loopJ (fun (⟨a0, y35⟩ : ((List UInt8) × Int)) => ⟨tl 25 [(0, V.s a0), (5, V.i (a0.length : Int)), (6, V.i y35)], []⟩) (fun n i => m_impl_NameShape_l1 N n i = some r) (n0 := N) (i0 := (a0, 0)) (Weak.sel [] [0, 5, 6] (by kernel_rfl) (by kernel_rfl) (by kernel_rfl)) h (fun i h => by simp [m_impl_NameShape_l1] at h) ?_
 rintro n1 ⟨a0, y35⟩ h63 ih64
 rw [m_impl_NameShape_l1] at h63
 refine cu Dk mix 1 160 (tl 25 [(0, V.s a0), (5, V.i (a0.length : Int)), (6, V.i y35), (7, V.b (decide (y35 < (a0.length : Int))))]) [] (by kernel_rfl) ?_
 refine CO.seq' ?_
 rcases cond_some h63 with ⟨hc66, h63⟩ | ⟨hc66, h63⟩
 ·refine CO.ifT hc66 (by kernel_rfl) ?_
  refine CO.skip ?_
  refine CO.seq' ?_
  refine CO.block' ?_
  refine cu Dk mix 2 160 (tl 25 [(0, V.s a0), (3, V.i y35), (5, V.i (a0.length : Int)), (6, V.i y35)]) [] (by kernel_rfl) ?_
  obtain ⟨b51, hx74, h63⟩ := bind_some h63
  obtain ⟨r52, hx75, h63⟩ := bind_some h63
  refine CO.cutR (tl 25 [(0, V.s a0), (5, V.i (a0.length : Int)), (6, V.i y35), (14, V.b (!r52))]) [] mix (by
   refine W.run Dk 2 160 (by kernel_rfl) ?_
   refine W.ixS Dk hx74 (by kernel_rfl) ?_
   refine W.run Dk 1 160 (by kernel_rfl) ?_
   refine W.call0 (m_impl_IsWordByte_ok (IntKind.wrap .i64 ((b51).toNat : Int)) hx75) cok176 rfl (by kernel_rfl) ?_
   refine W.run Dk 1 160 (by kernel_rfl) ?_
   exact W.fi (by kernel_rfl)
   ) ?_
  rcases cond_some h63 with ⟨hc76, h63⟩ | ⟨hc76, h63⟩
  ·refine CO.ifT hc76 (by kernel_rfl) ?_
   refine cu Dk mix 1 160 (tl 25 [(2, V.b false)]) [] (by kernel_rfl) ?_
   refine CO.ret ?_
   have h63 := Option.some.inj h63
   subst h63
   exact Ends.gen [] (.inr rfl) (RetV.one rfl (OneR.tmp (t := 2) (r := V.b false) (by kernel_rfl))) (by kernel_rfl) (by kernel_rfl) (by kernel_rfl)
  refine CO.ifF hc76 (by kernel_rfl) ?_
  refine CO.skip ?_
  refine ce Dk mix 2 160 (tl 25 [(0, V.s a0), (5, V.i (a0.length : Int)), (6, V.i (IntKind.wrap .i64 (y35 + 1)))]) [] (by kernel_rfl) (fun st hw => ?_)
  exact ih64 (a0, (IntKind.wrap .i64 (y35 + 1))) h63 _ (hw.trans (Weak.sel [] [0, 5, 6] (by kernel_rfl) (by kernel_rfl) (by kernel_rfl)))
 refine CO.ifF hc66 (by kernel_rfl) ?_
 refine CO.exit ?_
 obtain ⟨y56, hv81, h63⟩ := bind_some h63
 refine CO.cutR (tl 25 [(2, V.b y56)]) [] mix (by
  refine W.run Dk 2 160 (by kernel_rfl) ?_
  obtain ⟨r57, hx82, hv81⟩ := bind_some hv81
  refine W.call0 (m_impl_within_ok (a0.length : Int) 1 12 hx82) cok80 rfl (by kernel_rfl) ?_
  refine W.run Dk 1 160 (by kernel_rfl) ?_
  rcases cond_some hv81 with ⟨hc83, hv81⟩ | ⟨hc83, hv81⟩
  ·refine W.is 19 hc83 (by kernel_rfl) ?_
   refine W.run Dk 1 160 (by kernel_rfl) ?_
   obtain ⟨b58, hx84, hv81⟩ := bind_some hv81
   refine W.ixS Dk hx84 (by kernel_rfl) ?_
   refine W.run Dk 1 160 (by kernel_rfl) ?_
   obtain ⟨r59, hx85, hv81⟩ := bind_some hv81
   refine W.call0 (m_impl_IsLetter_ok (IntKind.wrap .i64 ((b58).toNat : Int)) hx85) cok177 rfl (by kernel_rfl) ?_
   refine W.run Dk 2 160 (by kernel_rfl) ?_
   have hv81 := Option.some.inj hv81
   subst hv81
   exact W.fs [] [2] (by kernel_rfl)
  refine W.is 19 hc83 (by kernel_rfl) ?_
  refine W.run Dk 6 160 (by kernel_rfl) ?_
  have hv81 := Option.some.inj hv81
  subst hv81
  exact W.fs [] [2] (by kernel_rfl)
  ) ?_
 refine CO.ret ?_
 have h63 := Option.some.inj h63
 subst h63
 exact Ends.gen [] (.inr rfl) (RetV.one rfl (OneR.tmp (t := 2) (r := V.b y56) (by kernel_rfl))) (by kernel_rfl) (by kernel_rfl) (by kernel_rfl)

theorem m_slices_Index_string_ok (N : Nat) (a0 : List (List UInt8)) (a1 : List UInt8) {r : Int} (h : m_slices_Index_string N a0 a1 = some r) :
    AC Tryz.prog (GS []) 168 [.sl false false (a0.map encS), V.s a1] [] (V.i r) [] := by
 rw [m_slices_Index_string] at h
 refine AC.enter Tryz.func168 rfl ?_
 refine cu Dk mix 1 100 (tl 19 [(0, .sl false false (a0.map encS)), (1, V.s a1)]) [] (by kernel_rfl) ?_
 refine CO.seq' ?_
 refine CO.cutR (tl 19 [(0, .sl false false (a0.map encS)), (1, V.s a1), (7, V.i (a0.length : Int)), (8, V.i 0)]) [] mix (by
  refine W.run Dk 1 100 (by kernel_rfl) ?_
  refine W.len Dk encS a0 [] (by kernel_rfl) (by kernel_rfl) ?_
  refine W.run Dk 1 100 (by kernel_rfl) ?_
  exact W.fi (by kernel_rfl)
  ) ?_
 refine CO.block' ?_
 refine CO.loopJ (fun (⟨a0, a1, y19⟩ : ((List (List UInt8)) × (List UInt8) × Int)) => ⟨tl 19 [(0, .sl false false (a0.map encS)), (1, V.s a1), (7, V.i (a0.length : Int)), (8, V.i y19)], []⟩) (fun n i => m_slices_Index_string_l1 N n i = some r) (n0 := N) (i0 := (a0, a1, 0)) (Weak.sel [] [0, 1, 7, 8] (by kernel_rfl) (by kernel_rfl) (by kernel_rfl)) h (fun i h => by simp [m_slices_Index_string_l1] at h) ?_
 rintro n1 ⟨a0, a1, y19⟩ h43 ih44
 rw [m_slices_Index_string_l1] at h43
 refine cu Dk mix 1 160 (tl 19 [(0, .sl false false (a0.map encS)), (1, V.s a1), (7, V.i (a0.length : Int)), (8, V.i y19), (9, V.b (decide (y19 < (a0.length : Int))))]) [] (by kernel_rfl) ?_
 refine CO.seq' ?_
 rcases cond_some h43 with ⟨hc46, h43⟩ | ⟨hc46, h43⟩
 ·refine CO.ifT hc46 (by kernel_rfl) ?_
  refine CO.skip ?_
  refine CO.seq' ?_
  refine CO.block' ?_
  refine cu Dk mix 2 160 (tl 19 [(0, .sl false false (a0.map encS)), (1, V.s a1), (5, V.i y19), (7, V.i (a0.length : Int)), (8, V.i y19)]) [] (by kernel_rfl) ?_
  obtain ⟨e28, hx51, h43⟩ := bind_some h43
  refine CO.cutR (tl 19 [(0, .sl false false (a0.map encS)), (1, V.s a1), (5, V.i y19), (7, V.i (a0.length : Int)), (8, V.i y19), (16, V.b (a1 == e28))]) [] mix (by
   refine W.run Dk 3 160 (by kernel_rfl) ?_
   refine W.ixD Dk encS hx51 1 (by kernel_rfl) (by kernel_rfl) ?_
   refine W.run Dk 2 160 (by kernel_rfl) ?_
   exact W.fi (by kernel_rfl)
   ) ?_
  rcases cond_some h43 with ⟨hc52, h43⟩ | ⟨hc52, h43⟩
  ·refine CO.ifT hc52 (by kernel_rfl) ?_
   refine cu Dk mix 2 160 (tl 19 [(4, V.i y19)]) [] (by kernel_rfl) ?_
   refine CO.ret ?_
   have h43 := Option.some.inj h43
   subst h43
   exact Ends.gen [] (.inr rfl) (RetV.one rfl (OneR.tmp (t := 4) (r := V.i y19) (by kernel_rfl))) (by kernel_rfl) (by kernel_rfl) (by kernel_rfl)
  refine CO.ifF hc52 (by kernel_rfl) ?_
  refine CO.skip ?_
  refine ce Dk mix 2 160 (tl 19 [(0, .sl false false (a0.map encS)), (1, V.s a1), (7, V.i (a0.length : Int)), (8, V.i (IntKind.wrap .i64 (y19 + 1)))]) [] (by kernel_rfl) (fun st hw => ?_)
  exact ih44 (a0, a1, (IntKind.wrap .i64 (y19 + 1))) h43 _ (hw.trans (Weak.sel [] [0, 1, 7, 8] (by kernel_rfl) (by kernel_rfl) (by kernel_rfl)))
 refine CO.ifF hc46 (by kernel_rfl) ?_
 refine CO.exit ?_
 refine cu Dk mix 1 160 (tl 19 [(4, V.i (-1))]) [] (by kernel_rfl) ?_
 refine CO.ret ?_
 have h43 := Option.some.inj h43
 subst h43
 exact Ends.gen [] (.inr rfl) (RetV.one rfl (OneR.tmp (t := 4) (r := V.i (-1)) (by kernel_rfl))) (by kernel_rfl) (by kernel_rfl) (by kernel_rfl)

theorem m_impl_KeywordOf_ok (N : Nat) (a0 : List UInt8) {r : Int} (h : m_impl_KeywordOf N a0 = some r) :
    AC Tryz.prog (GS [1]) 162 [V.s a0] [] (V.i r) [] := by
 rw [m_impl_KeywordOf] at h
 refine AC.enter Tryz.func162 rfl ?_
 refine cu Dk mix 1 100 (tl 11 [(0, V.s a0)]) [] (by kernel_rfl) ?_
 obtain ⟨r2, hx2, h⟩ := bind_some h
 refine CO.cutR (tl 11 [(3, V.i r2)]) [] mix (by
  refine W.cutG Dk V.s tab_keywords (by kernel_rfl) ?_
  refine W.run Dk 1 100 (by kernel_rfl) ?_
  refine W.call0 (AC.gs (m_slices_Index_string_ok N tab_keywords a0 hx2) (by decide)) cok168 rfl (by kernel_rfl) ?_
  refine W.run Dk 1 100 (by kernel_rfl) ?_
  exact W.fi (by kernel_rfl)
  ) ?_
 refine CO.seq' ?_
 refine cu Dk mix 2 100 (tl 11 [(3, V.i r2), (8, V.b (decide (r2 < 0)))]) [] (by kernel_rfl) ?_
 rcases cond_some h with ⟨hc4, h⟩ | ⟨hc4, h⟩
 ·refine CO.ifT hc4 (by kernel_rfl) ?_
  refine cu Dk mix 1 100 (tl 11 [(2, V.i 0)]) [] (by kernel_rfl) ?_
  refine CO.ret ?_
  have h := Option.some.inj h
  subst h
  exact Ends.gen [] (.inr rfl) (RetV.one rfl (OneR.tmp (t := 2) (r := V.i 0) (by kernel_rfl))) (by kernel_rfl) (by kernel_rfl) (by kernel_rfl)
 refine CO.ifF hc4 (by kernel_rfl) ?_
 refine CO.skip ?_
 refine cu Dk mix 3 100 (tl 11 [(2, V.i (IntKind.wrap .i64 (10 + r2)))]) [] (by kernel_rfl) ?_
 refine CO.ret ?_
 have h := Option.some.inj h
 subst h
 exact Ends.gen [] (.inr rfl) (RetV.one rfl (OneR.tmp (t := 2) (r := V.i (IntKind.wrap .i64 (10 + r2))) (by kernel_rfl))) (by kernel_rfl) (by kernel_rfl) (by kernel_rfl)

theorem m_slices_Contains_string_ok (N : Nat) (a0 : List (List UInt8)) (a1 : List UInt8) {r : Bool} (h : m_slices_Contains_string N a0 a1 = some r) :
    AC Tryz.prog (GS []) 149 [.sl false false (a0.map encS), V.s a1] [] (V.b r) [] := by
 rw [m_slices_Contains_string] at h
 refine AC.enter Tryz.func149 rfl ?_
 refine cu Dk mix 1 100 (tl 9 [(0, .sl false false (a0.map encS)), (1, V.s a1)]) [] (by kernel_rfl) ?_
 obtain ⟨r2, hx2, h⟩ := bind_some h
 refine CO.cutR (tl 9 [(4, V.b (decide (r2 ≥ 0)))]) [] mix (by
  refine W.run Dk 2 100 (by kernel_rfl) ?_
  refine W.call0 (m_slices_Index_string_ok N a0 a1 hx2) cok168 rfl (by kernel_rfl) ?_
  refine W.run Dk 2 100 (by kernel_rfl) ?_
  exact W.fi (by kernel_rfl)
  ) ?_
 refine CO.ret ?_
 have h := Option.some.inj h
 subst h
 exact Ends.gen [] (.inr rfl) (RetV.one rfl (OneR.tmp (t := 4) (r := V.b (decide (r2 ≥ 0))) (by kernel_rfl))) (by kernel_rfl) (by kernel_rfl) (by kernel_rfl)

theorem m_impl_IsBuiltin_ok (N : Nat) (a0 : List UInt8) {r : Bool} (h : m_impl_IsBuiltin N a0 = some r) :
    AC Tryz.prog (GS [0]) 145 [V.s a0] [] (V.b r) [] := by
 rw [m_impl_IsBuiltin] at h
 refine AC.enter Tryz.func145 rfl ?_
 refine cu Dk mix 1 100 (tl 6 [(0, V.s a0)]) [] (by kernel_rfl) ?_
 obtain ⟨r2, hx2, h⟩ := bind_some h
 refine CO.cutR (tl 6 [(2, V.b r2)]) [] mix (by
  refine W.cutG Dk V.s tab_builtins (by kernel_rfl) ?_
  refine W.run Dk 1 100 (by kernel_rfl) ?_
  refine W.call0 (AC.gs (m_slices_Contains_string_ok N tab_builtins a0 hx2) (by decide)) cok149 rfl (by kernel_rfl) ?_
  refine W.run Dk 1 100 (by kernel_rfl) ?_
  exact W.fi (by kernel_rfl)
  ) ?_
 refine CO.ret ?_
 have h := Option.some.inj h
 subst h
 exact Ends.gen [] (.inr rfl) (RetV.one rfl (OneR.tmp (t := 2) (r := V.b r2) (by kernel_rfl))) (by kernel_rfl) (by kernel_rfl) (by kernel_rfl)

theorem m_impl_NameOk_ok (N : Nat) (a0 : List UInt8) {r : Bool} (h : m_impl_NameOk N a0 = some r) :
    AC Tryz.prog (GS [0, 1]) 143 [V.s a0] [] (V.b r) [] := by
 rw [m_impl_NameOk] at h
 refine AC.enter Tryz.func143 rfl ?_
 refine cu Dk mix 1 100 (tl 15 [(0, V.s a0)]) [] (by kernel_rfl) ?_
 obtain ⟨y4, hv6, h⟩ := bind_some h
 refine CO.cutR (tl 15 [(2, V.b y4)]) [] mix (by
  refine W.run Dk 1 100 (by kernel_rfl) ?_
  obtain ⟨r5, hx7, hv6⟩ := bind_some hv6
  refine W.call0 (AC.gs (m_impl_NameShape_ok N a0 hx7) (by decide)) cok161 rfl (by kernel_rfl) ?_
  refine W.run Dk 1 100 (by kernel_rfl) ?_
  rcases cond_some hv6 with ⟨hc8, hv6⟩ | ⟨hc8, hv6⟩
  ·refine W.is 5 hc8 (by kernel_rfl) ?_
   refine W.run Dk 1 100 (by kernel_rfl) ?_
   obtain ⟨r6, hx9, hv6⟩ := bind_some hv6
   refine W.call0 (AC.gs (m_impl_KeywordOf_ok N a0 hx9) (by decide)) cok162 rfl (by kernel_rfl) ?_
   refine W.run Dk 3 100 (by kernel_rfl) ?_
   rcases cond_some hv6 with ⟨hc10, hv6⟩ | ⟨hc10, hv6⟩
   ·refine W.is 10 hc10 (by kernel_rfl) ?_
    refine W.run Dk 1 100 (by kernel_rfl) ?_
    obtain ⟨r7, hx11, hv6⟩ := bind_some hv6
    refine W.call0 (AC.gs (m_impl_IsBuiltin_ok N a0 hx11) (by decide)) cok145 rfl (by kernel_rfl) ?_
    refine W.run Dk 3 100 (by kernel_rfl) ?_
    have hv6 := Option.some.inj hv6
    subst hv6
    exact W.fs [] [2] (by kernel_rfl)
   refine W.is 10 hc10 (by kernel_rfl) ?_
   refine W.run Dk 5 100 (by kernel_rfl) ?_
   have hv6 := Option.some.inj hv6
   subst hv6
   exact W.fs [] [2] (by kernel_rfl)
  refine W.is 5 hc8 (by kernel_rfl) ?_
  refine W.run Dk 10 100 (by kernel_rfl) ?_
  have hv6 := Option.some.inj hv6
  subst hv6
  exact W.fs [] [2] (by kernel_rfl)
  ) ?_
 refine CO.ret ?_
 have h := Option.some.inj h
 subst h
 exact Ends.gen [] (.inr rfl) (RetV.one rfl (OneR.tmp (t := 2) (r := V.b y4) (by kernel_rfl))) (by kernel_rfl) (by kernel_rfl) (by kernel_rfl)

theorem m_stringslite_IndexByte_ok (a0 : List UInt8) (a1 : Int) {r : Int} (h : m_stringslite_IndexByte a0 a1 = some r) :
    AC Tryz.prog (GS []) 187 [V.s a0, .c (.int .u8 a1)] [] (V.i r) [] := by
 rw [m_stringslite_IndexByte] at h
 refine AC.enter Tryz.func187 rfl ?_
 refine cu Dk mix 1 100 (tl 8 [(0, V.s a0), (1, .c (.int .u8 a1))]) [] (by kernel_rfl) ?_
 refine CO.cutR (tl 8 [(4, V.i (Go.Lib.indexByte a0 (Int.toNat a1).toUInt8))]) [] mix (by
  refine W.run Dk 2 100 (by kernel_rfl) ?_
  refine W.ext (vs := [.string ⟨⟨a0⟩⟩, .int .u8 a1]) (ext191 _ _) (by kernel_rfl) ?_
  refine W.run Dk 1 100 (by kernel_rfl) ?_
  exact W.fi (by kernel_rfl)
  ) ?_
 refine CO.ret ?_
 have h := Option.some.inj h
 subst h
 exact Ends.gen [] (.inr rfl) (RetV.one rfl (OneR.tmp (t := 4) (r := V.i (Go.Lib.indexByte a0 (Int.toNat a1).toUInt8)) (by kernel_rfl))) (by kernel_rfl) (by kernel_rfl) (by kernel_rfl)

theorem m_stringslite_Index_ok (a0 : List UInt8) {r : Int} (h : m_stringslite_Index a0 = some r) :
    AC Tryz.prog (GS []) 186 [V.s a0, V.s [10]] [] (V.i r) [] := by
 rw [m_stringslite_Index] at h
 refine AC.enter Tryz.func186 rfl ?_
 refine cu Dk mix 1 100 (tl 143 [(0, V.s a0), (1, V.s [10])]) [] (by kernel_rfl) ?_
 refine cu Dk mix 3 100 (tl 143 [(0, V.s a0), (1, V.s [10]), (5, V.i 1)]) [] (by kernel_rfl) ?_
 refine CO.seq' ?_
 refine CO.block' ?_
 refine cu Dk mix 8 100 (tl 143 [(0, V.s a0), (1, V.s [10]), (5, V.i 1), (16, V.b (([10] : List UInt8) == a0))]) [] (by kernel_rfl) ?_
 rcases cond_some h with ⟨hc6, h⟩ | ⟨hc6, h⟩
 ·refine CO.ifT hc6 (by kernel_rfl) ?_
  refine cu Dk mix 1 100 (tl 143 [(4, V.i 0)]) [] (by kernel_rfl) ?_
  refine CO.ret ?_
  have h := Option.some.inj h
  subst h
  exact Ends.gen [] (.inr rfl) (RetV.one rfl (OneR.tmp (t := 4) (r := V.i 0) (by kernel_rfl))) (by kernel_rfl) (by kernel_rfl) (by kernel_rfl)
 refine CO.ifF hc6 (by kernel_rfl) ?_
 refine cu Dk mix 3 100 (tl 143 [(0, V.s a0), (1, V.s [10]), (5, V.i 1), (24, V.b true)]) [] (by kernel_rfl) ?_
 refine CO.ifT (c := true) rfl (by kernel_rfl) ?_
 obtain ⟨b7, hx9, h⟩ := bind_some h
 obtain ⟨r8, hx10, h⟩ := bind_some h
 refine CO.cutR (tl 143 [(4, V.i r8)]) [] mix (by
  refine W.run Dk 2 100 (by kernel_rfl) ?_
  refine W.ixS Dk hx9 (by kernel_rfl) ?_
  refine W.call0 (m_stringslite_IndexByte_ok a0 ((b7).toNat : Int) hx10) cok187 rfl (by kernel_rfl) ?_
  refine W.run Dk 1 100 (by kernel_rfl) ?_
  exact W.fi (by kernel_rfl)
  ) ?_
 refine CO.ret ?_
 have h := Option.some.inj h
 subst h
 exact Ends.gen [] (.inr rfl) (RetV.one rfl (OneR.tmp (t := 4) (r := V.i r8) (by kernel_rfl))) (by kernel_rfl) (by kernel_rfl) (by kernel_rfl)

theorem m_strings_Index_ok (a0 : List UInt8) {r : Int} (h : m_strings_Index a0 = some r) :
    AC Tryz.prog (GS []) 178 [V.s a0, V.s [10]] [] (V.i r) [] := by
 rw [m_strings_Index] at h
 refine AC.enter Tryz.func178 rfl ?_
 refine cu Dk mix 1 100 (tl 8 [(0, V.s a0), (1, V.s [10])]) [] (by kernel_rfl) ?_
 obtain ⟨r2, hx2, h⟩ := bind_some h
 refine CO.cutR (tl 8 [(4, V.i r2)]) [] mix (by
  refine W.run Dk 2 100 (by kernel_rfl) ?_
  refine W.call0 (m_stringslite_Index_ok a0 hx2) cok186 rfl (by kernel_rfl) ?_
  refine W.run Dk 1 100 (by kernel_rfl) ?_
  exact W.fi (by kernel_rfl)
  ) ?_
 refine CO.ret ?_
 have h := Option.some.inj h
 subst h
 exact Ends.gen [] (.inr rfl) (RetV.one rfl (OneR.tmp (t := 4) (r := V.i r2) (by kernel_rfl))) (by kernel_rfl) (by kernel_rfl) (by kernel_rfl)

theorem m_strings_Contains_ok (a0 : List UInt8) {r : Bool} (h : m_strings_Contains a0 = some r) :
    AC Tryz.prog (GS []) 163 [V.s a0, V.s [10]] [] (V.b r) [] := by
 rw [m_strings_Contains] at h
 refine AC.enter Tryz.func163 rfl ?_
 refine cu Dk mix 1 100 (tl 9 [(0, V.s a0), (1, V.s [10])]) [] (by kernel_rfl) ?_
 obtain ⟨r2, hx2, h⟩ := bind_some h
 refine CO.cutR (tl 9 [(4, V.b (decide (r2 ≥ 0)))]) [] mix (by
  refine W.run Dk 2 100 (by kernel_rfl) ?_
  refine W.call0 (m_strings_Index_ok a0 hx2) cok178 rfl (by kernel_rfl) ?_
  refine W.run Dk 2 100 (by kernel_rfl) ?_
  exact W.fi (by kernel_rfl)
  ) ?_
 refine CO.ret ?_
 have h := Option.some.inj h
 subst h
 exact Ends.gen [] (.inr rfl) (RetV.one rfl (OneR.tmp (t := 4) (r := V.b (decide (r2 ≥ 0))) (by kernel_rfl))) (by kernel_rfl) (by kernel_rfl) (by kernel_rfl)

theorem m_impl_byteAt_ok (a0 : List UInt8) (a1 : Int) {r : Int} (h : m_impl_byteAt a0 a1 = some r) :
    AC Tryz.prog (GS []) 180 [V.s a0, V.i a1] [] (V.i r) [] := by
 rw [m_impl_byteAt] at h
 refine AC.enter Tryz.func180 rfl ?_
 refine cu Dk mix 1 100 (tl 15 [(0, V.s a0), (1, V.i a1)]) [] (by kernel_rfl) ?_
 refine CO.seq' ?_
 obtain ⟨r4, hx5, h⟩ := bind_some h
 refine CO.cutR (tl 15 [(0, V.s a0), (1, V.i a1), (10, V.b (!r4))]) [] mix (by
  refine W.run Dk 4 100 (by kernel_rfl) ?_
  refine W.call0 (m_impl_within_ok a1 0 (IntKind.wrap .i64 ((a0.length : Int) - 1)) hx5) cok80 rfl (by kernel_rfl) ?_
  refine W.run Dk 1 100 (by kernel_rfl) ?_
  exact W.fi (by kernel_rfl)
  ) ?_
 rcases cond_some h with ⟨hc6, h⟩ | ⟨hc6, h⟩
 ·refine CO.ifT hc6 (by kernel_rfl) ?_
  refine cu Dk mix 1 100 (tl 15 [(4, V.i (-1))]) [] (by kernel_rfl) ?_
  refine CO.ret ?_
  have h := Option.some.inj h
  subst h
  exact Ends.gen [] (.inr rfl) (RetV.one rfl (OneR.tmp (t := 4) (r := V.i (-1)) (by kernel_rfl))) (by kernel_rfl) (by kernel_rfl) (by kernel_rfl)
 refine CO.ifF hc6 (by kernel_rfl) ?_
 refine CO.skip ?_
 obtain ⟨b6, hx8, h⟩ := bind_some h
 refine CO.cutR (tl 15 [(4, V.i (IntKind.wrap .i64 ((b6).toNat : Int)))]) [] mix (by
  refine W.run Dk 2 100 (by kernel_rfl) ?_
  refine W.ixS Dk hx8 (by kernel_rfl) ?_
  refine W.run Dk 2 100 (by kernel_rfl) ?_
  exact W.fi (by kernel_rfl)
  ) ?_
 refine CO.ret ?_
 have h := Option.some.inj h
 subst h
 exact Ends.gen [] (.inr rfl) (RetV.one rfl (OneR.tmp (t := 4) (r := V.i (IntKind.wrap .i64 ((b6).toNat : Int))) (by kernel_rfl))) (by kernel_rfl) (by kernel_rfl) (by kernel_rfl)

theorem m_impl_digitsEnd_ok (N : Nat) (a0 : List UInt8) (a1 : Int) {r : Int} (h : m_impl_digitsEnd N a0 a1 = some r) :
    AC Tryz.prog (GS []) 179 [V.s a0, V.i a1] [] (V.i r) [] := by
 rw [m_impl_digitsEnd] at h
 refine AC.enter Tryz.func179 rfl ?_
 refine cu Dk mix 1 100 (tl 12 [(0, V.s a0), (1, V.i a1)]) [] (by kernel_rfl) ?_
 refine CO.seq' ?_
 refine CO.block' ?_
 refine CO.loopJ (fun (⟨a0, a1⟩ : ((List UInt8) × Int)) => ⟨tl 12 [(0, V.s a0), (1, V.i a1)], []⟩) (fun n i => m_impl_digitsEnd_l1 N n i = some r) (n0 := N) (i0 := (a0, a1)) (Weak.sel [] [0, 1] (by kernel_rfl) (by kernel_rfl) (by kernel_rfl)) h (fun i h => by simp [m_impl_digitsEnd_l1] at h) ?_
 rintro n1 ⟨a0, a1⟩ h33 ih34
 rw [m_impl_digitsEnd_l1] at h33
 refine CO.seq' ?_
 obtain ⟨r33, hx42, h33⟩ := bind_some h33
 obtain ⟨r34, hx43, h33⟩ := bind_some h33
 refine CO.cutR (tl 12 [(0, V.s a0), (1, V.i a1), (8, V.b r34)]) [] mix (by
  refine W.run Dk 2 140 (by kernel_rfl) ?_
  refine W.call0 (m_impl_byteAt_ok a0 a1 hx42) cok180 rfl (by kernel_rfl) ?_
  refine W.call0 (m_impl_IsDigit_ok r33 hx43) cok185 rfl (by kernel_rfl) ?_
  exact W.fi (by kernel_rfl)
  ) ?_
 rcases cond_some h33 with ⟨hc44, h33⟩ | ⟨hc44, h33⟩
 ·refine CO.ifT hc44 (by kernel_rfl) ?_
  refine CO.skip ?_
  refine CO.block' ?_
  refine ce Dk mix 3 140 (tl 12 [(0, V.s a0), (1, V.i (IntKind.wrap .i64 (a1 + 1)))]) [] (by kernel_rfl) (fun st hw => ?_)
  exact ih34 (a0, (IntKind.wrap .i64 (a1 + 1))) h33 _ (hw.trans (Weak.sel [] [0, 1] (by kernel_rfl) (by kernel_rfl) (by kernel_rfl)))
 refine CO.ifF hc44 (by kernel_rfl) ?_
 refine CO.exit ?_
 refine cu Dk mix 2 140 (tl 12 [(4, V.i a1)]) [] (by kernel_rfl) ?_
 refine CO.ret ?_
 have h33 := Option.some.inj h33
 subst h33
 exact Ends.gen [] (.inr rfl) (RetV.one rfl (OneR.tmp (t := 4) (r := V.i a1) (by kernel_rfl))) (by kernel_rfl) (by kernel_rfl) (by kernel_rfl)

theorem m_impl_NumEnd_ok (N : Nat) (a0 : List UInt8) (a1 : Int) {r : Int} (h : m_impl_NumEnd N a0 a1 = some r) :
    AC Tryz.prog (GS []) 164 [V.s a0, V.i a1] [] (V.i r) [] := by
 rw [m_impl_NumEnd] at h
 refine AC.enter Tryz.func164 rfl ?_
 refine cu Dk mix 1 100 (tl 71 [(0, V.s a0), (1, V.i a1)]) [] (by kernel_rfl) ?_
 refine CO.seq' ?_
 obtain ⟨r4, hx5, h⟩ := bind_some h
 refine CO.cutR (tl 71 [(0, V.s a0), (1, V.i a1), (17, V.b (!r4))]) [] mix (by
  refine W.run Dk 4 100 (by kernel_rfl) ?_
  refine W.call0 (m_impl_within_ok a1 0 (IntKind.wrap .i64 ((a0.length : Int) - 1)) hx5) cok80 rfl (by kernel_rfl) ?_
  refine W.run Dk 1 100 (by kernel_rfl) ?_
  exact W.fi (by kernel_rfl)
  ) ?_
 rcases cond_some h with ⟨hc6, h⟩ | ⟨hc6, h⟩
 ·refine CO.ifT hc6 (by kernel_rfl) ?_
  refine cu Dk mix 1 100 (tl 71 [(4, V.i (-1))]) [] (by kernel_rfl) ?_
  refine CO.ret ?_
  have h := Option.some.inj h
  subst h
  exact Ends.gen [] (.inr rfl) (RetV.one rfl (OneR.tmp (t := 4) (r := V.i (-1)) (by kernel_rfl))) (by kernel_rfl) (by kernel_rfl) (by kernel_rfl)
 refine CO.ifF hc6 (by kernel_rfl) ?_
 refine CO.skip ?_
 obtain ⟨r6, hx8, h⟩ := bind_some h
 refine CO.cutR (tl 71 [(0, V.s a0), (1, V.i a1), (5, V.i r6)]) [] mix (by
  refine W.run Dk 2 100 (by kernel_rfl) ?_
  refine W.call0 (m_impl_digitsEnd_ok N a0 a1 hx8) cok179 rfl (by kernel_rfl) ?_
  refine W.run Dk 1 100 (by kernel_rfl) ?_
  exact W.fi (by kernel_rfl)
  ) ?_
 refine cu Dk mix 4 100 (tl 71 [(0, V.s a0), (5, V.i r6), (6, V.i (IntKind.wrap .i64 (r6 - a1)))]) [] (by kernel_rfl) ?_
 refine CO.join (fun (⟨a0, y11, y12⟩ : ((List UInt8) × Int × Int)) => ⟨tl 71 [(0, V.s a0), (5, V.i y11), (6, V.i y12)], []⟩) (fun i => m_impl_NumEnd_k1 N i = some r) ?_ ?_
 · rintro ⟨a0, y11, y12⟩ h14
   rw [m_impl_NumEnd_k1] at h14
   refine CO.seq' ?_
   refine cu Dk mix 2 100 (tl 71 [(0, V.s a0), (5, V.i y11), (40, V.b (y12 == 0))]) [] (by kernel_rfl) ?_
   rcases cond_some h14 with ⟨hc16, h14⟩ | ⟨hc16, h14⟩
   ·refine CO.ifT hc16 (by kernel_rfl) ?_
    refine cu Dk mix 1 100 (tl 71 [(4, V.i (-1))]) [] (by kernel_rfl) ?_
    refine CO.ret ?_
    have h14 := Option.some.inj h14
    subst h14
    exact Ends.gen [] (.inr rfl) (RetV.one rfl (OneR.tmp (t := 4) (r := V.i (-1)) (by kernel_rfl))) (by kernel_rfl) (by kernel_rfl) (by kernel_rfl)
   refine CO.ifF hc16 (by kernel_rfl) ?_
   refine CO.skip ?_
   refine CO.join (fun (y11 : Int) => ⟨tl 71 [(5, V.i y11)], []⟩) (fun i => m_impl_NumEnd_k2 N i = some r) ?_ ?_
   · rintro y11 h40
     rw [m_impl_NumEnd_k2] at h40
     refine cu Dk mix 2 100 (tl 71 [(4, V.i y11)]) [] (by kernel_rfl) ?_
     refine CO.ret ?_
     have h40 := Option.some.inj h40
     subst h40
     exact Ends.gen [] (.inr rfl) (RetV.one rfl (OneR.tmp (t := 4) (r := V.i y11) (by kernel_rfl))) (by kernel_rfl) (by kernel_rfl) (by kernel_rfl)
   intro hk41
   obtain ⟨r26, hx43, h14⟩ := bind_some h14
   refine CO.cutR (tl 71 [(0, V.s a0), (5, V.i y11), (8, V.i r26)]) [] mix (by
    refine W.run Dk 2 100 (by kernel_rfl) ?_
    refine W.call0 (m_impl_byteAt_ok a0 y11 hx43) cok180 rfl (by kernel_rfl) ?_
    refine W.run Dk 1 100 (by kernel_rfl) ?_
    exact W.fi (by kernel_rfl)
    ) ?_
   obtain ⟨y27, hv45, h14⟩ := bind_some h14
   refine CO.cutR (tl 71 [(0, V.s a0), (5, V.i y11), (49, V.b y27)]) [] mix (by
    refine W.run Dk 3 100 (by kernel_rfl) ?_
    rcases cond_some hv45 with ⟨hc46, hv45⟩ | ⟨hc46, hv45⟩
    ·refine W.is 46 hc46 (by kernel_rfl) ?_
     refine W.run Dk 3 100 (by kernel_rfl) ?_
     have hv45 := Option.some.inj hv45
     subst hv45
     exact W.fs [] [0, 5, 49] (by kernel_rfl)
    refine W.is 46 hc46 (by kernel_rfl) ?_
    refine W.run Dk 3 100 (by kernel_rfl) ?_
    have hv45 := Option.some.inj hv45
    subst hv45
    exact W.fs [] [0, 5, 49] (by kernel_rfl)
    ) ?_
   rcases cond_some h14 with ⟨hc47, h14⟩ | ⟨hc47, h14⟩
   ·refine CO.ifT hc47 (by kernel_rfl) ?_
    refine cu Dk mix 3 100 (tl 71 [(0, V.s a0), (5, V.i y11), (9, V.i (IntKind.wrap .i64 (y11 + 1)))]) [] (by kernel_rfl) ?_
    refine CO.join (fun (⟨a0, y11, y31⟩ : ((List UInt8) × Int × Int)) => ⟨tl 71 [(0, V.s a0), (5, V.i y11), (9, V.i y31)], []⟩) (fun i => m_impl_NumEnd_k3 N i = some r) ?_ ?_
    · rintro ⟨a0, y11, y31⟩ h54
      rw [m_impl_NumEnd_k3] at h54
      obtain ⟨r33, hx56, h54⟩ := bind_some h54
      refine CO.cutR (tl 71 [(5, V.i y11), (9, V.i y31), (11, V.i r33)]) [] mix (by
       refine W.run Dk 2 100 (by kernel_rfl) ?_
       refine W.call0 (m_impl_digitsEnd_ok N a0 y31 hx56) cok179 rfl (by kernel_rfl) ?_
       refine W.run Dk 1 100 (by kernel_rfl) ?_
       exact W.fi (by kernel_rfl)
       ) ?_
      refine cu Dk mix 3 100 (tl 71 [(5, V.i y11), (11, V.i r33), (68, V.b (decide (r33 > y31)))]) [] (by kernel_rfl) ?_
      rcases cond_some h54 with ⟨hc57, h54⟩ | ⟨hc57, h54⟩
      ·refine CO.ifT hc57 (by kernel_rfl) ?_
       refine cu Dk mix 2 100 (tl 71 [(4, V.i r33)]) [] (by kernel_rfl) ?_
       refine CO.ret ?_
       have h54 := Option.some.inj h54
       subst h54
       exact Ends.gen [] (.inr rfl) (RetV.one rfl (OneR.tmp (t := 4) (r := V.i r33) (by kernel_rfl))) (by kernel_rfl) (by kernel_rfl) (by kernel_rfl)
      refine CO.ifF hc57 (by kernel_rfl) ?_
      refine CO.skip ?_
      exact hk41 y11 h54 _ (Weak.sel [] [5] (by kernel_rfl) (by kernel_rfl) (by kernel_rfl))
    intro hk58
    obtain ⟨r35, hx60, h14⟩ := bind_some h14
    refine CO.cutR (tl 71 [(0, V.s a0), (5, V.i y11), (9, V.i (IntKind.wrap .i64 (y11 + 1))), (10, V.i r35)]) [] mix (by
     refine W.run Dk 2 100 (by kernel_rfl) ?_
     refine W.call0 (m_impl_byteAt_ok a0 (IntKind.wrap .i64 (y11 + 1)) hx60) cok180 rfl (by kernel_rfl) ?_
     refine W.run Dk 1 100 (by kernel_rfl) ?_
     exact W.fi (by kernel_rfl)
     ) ?_
    obtain ⟨y36, hv62, h14⟩ := bind_some h14
    refine CO.cutR (tl 71 [(0, V.s a0), (5, V.i y11), (9, V.i (IntKind.wrap .i64 (y11 + 1))), (60, V.b y36)]) [] mix (by
     refine W.run Dk 3 100 (by kernel_rfl) ?_
     rcases cond_some hv62 with ⟨hc63, hv62⟩ | ⟨hc63, hv62⟩
     ·refine W.is 57 hc63 (by kernel_rfl) ?_
      refine W.run Dk 3 100 (by kernel_rfl) ?_
      have hv62 := Option.some.inj hv62
      subst hv62
      exact W.fs [] [0, 5, 9, 60] (by kernel_rfl)
     refine W.is 57 hc63 (by kernel_rfl) ?_
     refine W.run Dk 3 100 (by kernel_rfl) ?_
     have hv62 := Option.some.inj hv62
     subst hv62
     exact W.fs [] [0, 5, 9, 60] (by kernel_rfl)
     ) ?_
    rcases cond_some h14 with ⟨hc64, h14⟩ | ⟨hc64, h14⟩
    ·refine CO.ifT hc64 (by kernel_rfl) ?_
     refine ce Dk mix 3 100 (tl 71 [(0, V.s a0), (5, V.i y11), (9, V.i (IntKind.wrap .i64 ((IntKind.wrap .i64 (y11 + 1)) + 1)))]) [] (by kernel_rfl) (fun st hw => ?_)
     exact hk58 (a0, y11, (IntKind.wrap .i64 ((IntKind.wrap .i64 (y11 + 1)) + 1))) h14 _ (hw.trans (Weak.sel [] [0, 5, 9] (by kernel_rfl) (by kernel_rfl) (by kernel_rfl)))
    refine CO.ifF hc64 (by kernel_rfl) ?_
    refine CO.skip ?_
    exact hk58 (a0, y11, (IntKind.wrap .i64 (y11 + 1))) h14 _ (Weak.sel [] [0, 5, 9] (by kernel_rfl) (by kernel_rfl) (by kernel_rfl))
   refine CO.ifF hc47 (by kernel_rfl) ?_
   refine CO.skip ?_
   exact hk41 y11 h14 _ (Weak.sel [] [5] (by kernel_rfl) (by kernel_rfl) (by kernel_rfl))
 intro hk65
 obtain ⟨r38, hx67, h⟩ := bind_some h
 refine CO.cutR (tl 71 [(0, V.s a0), (5, V.i r6), (6, V.i (IntKind.wrap .i64 (r6 - a1))), (27, V.b (r38 == 46))]) [] mix (by
  refine W.run Dk 2 100 (by kernel_rfl) ?_
  refine W.call0 (m_impl_byteAt_ok a0 r6 hx67) cok180 rfl (by kernel_rfl) ?_
  refine W.run Dk 1 100 (by kernel_rfl) ?_
  exact W.fi (by kernel_rfl)
  ) ?_
 rcases cond_some h with ⟨hc68, h⟩ | ⟨hc68, h⟩
 ·refine CO.ifT hc68 (by kernel_rfl) ?_
  obtain ⟨r40, hx70, h⟩ := bind_some h
  refine CO.cutR (tl 71 [(0, V.s a0), (5, V.i r6), (6, V.i (IntKind.wrap .i64 (r6 - a1))), (7, V.i r40)]) [] mix (by
   refine W.run Dk 3 100 (by kernel_rfl) ?_
   refine W.call0 (m_impl_digitsEnd_ok N a0 (IntKind.wrap .i64 (r6 + 1)) hx70) cok179 rfl (by kernel_rfl) ?_
   refine W.run Dk 1 100 (by kernel_rfl) ?_
   exact W.fi (by kernel_rfl)
   ) ?_
  refine cu Dk mix 7 100 (tl 71 [(0, V.s a0), (6, V.i (IntKind.wrap .i64 ((IntKind.wrap .i64 (r6 - a1)) + (IntKind.wrap .i64 ((IntKind.wrap .i64 (r40 - r6)) - 1))))), (7, V.i r40)]) [] (by kernel_rfl) ?_
  refine ce Dk mix 2 100 (tl 71 [(0, V.s a0), (5, V.i r40), (6, V.i (IntKind.wrap .i64 ((IntKind.wrap .i64 (r6 - a1)) + (IntKind.wrap .i64 ((IntKind.wrap .i64 (r40 - r6)) - 1)))))]) [] (by kernel_rfl) (fun st hw => ?_)
  exact hk65 (a0, r40, (IntKind.wrap .i64 ((IntKind.wrap .i64 (r6 - a1)) + (IntKind.wrap .i64 ((IntKind.wrap .i64 (r40 - r6)) - 1))))) h _ (hw.trans (Weak.sel [] [0, 5, 6] (by kernel_rfl) (by kernel_rfl) (by kernel_rfl)))
 refine CO.ifF hc68 (by kernel_rfl) ?_
 refine CO.skip ?_
 exact hk65 (a0, r6, (IntKind.wrap .i64 (r6 - a1))) h _ (Weak.sel [] [0, 5, 6] (by kernel_rfl) (by kernel_rfl) (by kernel_rfl))

theorem m_impl_quotedEnd_ok (N : Nat) (a0 : List UInt8) (a1 : Int) (a2 : Int) {r : Int} (h : m_impl_quotedEnd N a0 a1 a2 = some r) :
    AC Tryz.prog (GS []) 181 [V.s a0, V.i a1, V.i a2] [] (V.i r) [] := by
 rw [m_impl_quotedEnd] at h
 refine AC.enter Tryz.func181 rfl ?_
 refine cu Dk mix 1 100 (tl 50 [(0, V.s a0), (1, V.i a1), (2, V.i a2)]) [] (by kernel_rfl) ?_
 refine CO.seq' ?_
 obtain ⟨r4, hx5, h⟩ := bind_some h
 refine CO.cutR (tl 50 [(0, V.s a0), (1, V.i a1), (2, V.i a2), (12, V.b (r4 != a2))]) [] mix (by
  refine W.run Dk 2 100 (by kernel_rfl) ?_
  refine W.call0 (m_impl_byteAt_ok a0 a1 hx5) cok180 rfl (by kernel_rfl) ?_
  refine W.run Dk 2 100 (by kernel_rfl) ?_
  exact W.fi (by kernel_rfl)
  ) ?_
 rcases cond_some h with ⟨hc6, h⟩ | ⟨hc6, h⟩
 ·refine CO.ifT hc6 (by kernel_rfl) ?_
  refine cu Dk mix 1 100 (tl 50 [(6, V.i (-1))]) [] (by kernel_rfl) ?_
  refine CO.ret ?_
  have h := Option.some.inj h
  subst h
  exact Ends.gen [] (.inr rfl) (RetV.one rfl (OneR.tmp (t := 6) (r := V.i (-1)) (by kernel_rfl))) (by kernel_rfl) (by kernel_rfl) (by kernel_rfl)
 refine CO.ifF hc6 (by kernel_rfl) ?_
 refine CO.skip ?_
 refine CO.seq' ?_
 refine cu Dk mix 3 100 (tl 50 [(0, V.s a0), (2, V.i a2), (7, V.i (IntKind.wrap .i64 (a1 + 1)))]) [] (by kernel_rfl) ?_
 refine CO.block' ?_
 refine CO.loopJ (fun (⟨a0, a2, y91⟩ : ((List UInt8) × Int × Int)) => ⟨tl 50 [(0, V.s a0), (2, V.i a2), (7, V.i y91)], []⟩) (fun n i => m_impl_quotedEnd_l1 N n i = some r) (n0 := N) (i0 := (a0, a2, (IntKind.wrap .i64 (a1 + 1)))) (Weak.sel [] [0, 2, 7] (by kernel_rfl) (by kernel_rfl) (by kernel_rfl)) h (fun i h => by simp [m_impl_quotedEnd_l1] at h) ?_
 rintro n1 ⟨a0, a2, y91⟩ h189 ih190
 rw [m_impl_quotedEnd_l1] at h189
 refine CO.seq' ?_
 obtain ⟨y118, hv199, h189⟩ := bind_some h189
 refine CO.cutR (tl 50 [(0, V.s a0), (2, V.i a2), (7, V.i y91), (24, V.b y118)]) [] mix (by
  refine W.run Dk 5 160 (by kernel_rfl) ?_
  rcases cond_some hv199 with ⟨hc200, hv199⟩ | ⟨hc200, hv199⟩
  ·refine W.is 19 hc200 (by kernel_rfl) ?_
   refine W.run Dk 2 160 (by kernel_rfl) ?_
   obtain ⟨b119, hx201, hv199⟩ := bind_some hv199
   refine W.ixS Dk hx201 (by kernel_rfl) ?_
   refine W.run Dk 2 160 (by kernel_rfl) ?_
   have hv199 := Option.some.inj hv199
   subst hv199
   exact W.fs [] [0, 2, 7, 24] (by kernel_rfl)
  refine W.is 19 hc200 (by kernel_rfl) ?_
  refine W.run Dk 5 160 (by kernel_rfl) ?_
  have hv199 := Option.some.inj hv199
  subst hv199
  exact W.fs [] [0, 2, 7, 24] (by kernel_rfl)
  ) ?_
 rcases cond_some h189 with ⟨hc202, h189⟩ | ⟨hc202, h189⟩
 ·refine CO.ifT hc202 (by kernel_rfl) ?_
  refine CO.skip ?_
  refine CO.join (fun (⟨a0, a2, y127⟩ : ((List UInt8) × Int × Int)) => ⟨tl 50 [(0, V.s a0), (2, V.i a2), (7, V.i y127)], []⟩) (fun i => m_impl_quotedEnd_k2 N (m_impl_quotedEnd_l1 N n1) i = some r) ?_ ?_
  · rintro ⟨a0, a2, y127⟩ h214
    rw [m_impl_quotedEnd_k2] at h214
    refine ce Dk mix 3 160 (tl 50 [(0, V.s a0), (2, V.i a2), (7, V.i (IntKind.wrap .i64 (y127 + 1)))]) [] (by kernel_rfl) (fun st hw => ?_)
    exact ih190 (a0, a2, (IntKind.wrap .i64 (y127 + 1))) h214 _ (hw.trans (Weak.sel [] [0, 2, 7] (by kernel_rfl) (by kernel_rfl) (by kernel_rfl)))
  intro hk215
  refine CO.block' ?_
  refine CO.block' ?_
  obtain ⟨b129, hx217, h189⟩ := bind_some h189
  refine CO.cutR (tl 50 [(0, V.s a0), (2, V.i a2), (7, V.i y91), (27, V.b ((IntKind.wrap .i64 ((b129).toNat : Int)) == a2))]) [] mix (by
   refine W.run Dk 2 160 (by kernel_rfl) ?_
   refine W.ixS Dk hx217 (by kernel_rfl) ?_
   refine W.run Dk 4 160 (by kernel_rfl) ?_
   exact W.fi (by kernel_rfl)
   ) ?_
  rcases cond_some h189 with ⟨hc218, h189⟩ | ⟨hc218, h189⟩
  ·refine CO.ifT hc218 (by kernel_rfl) ?_
   refine cu Dk mix 3 160 (tl 50 [(6, V.i (IntKind.wrap .i64 (y91 + 1)))]) [] (by kernel_rfl) ?_
   refine CO.ret ?_
   have h189 := Option.some.inj h189
   subst h189
   exact Ends.gen [] (.inr rfl) (RetV.one rfl (OneR.tmp (t := 6) (r := V.i (IntKind.wrap .i64 (y91 + 1))) (by kernel_rfl))) (by kernel_rfl) (by kernel_rfl) (by kernel_rfl)
  refine CO.ifF hc218 (by kernel_rfl) ?_
  obtain ⟨y132, hv222, h189⟩ := bind_some h189
  refine CO.cutR (tl 50 [(0, V.s a0), (2, V.i a2), (7, V.i y91), (36, V.b y132)]) [] mix (by
   refine W.run Dk 2 160 (by kernel_rfl) ?_
   obtain ⟨b133, hx223, hv222⟩ := bind_some hv222
   refine W.ixS Dk hx223 (by kernel_rfl) ?_
   refine W.run Dk 2 160 (by kernel_rfl) ?_
   rcases cond_some hv222 with ⟨hc224, hv222⟩ | ⟨hc224, hv222⟩
   ·refine W.is 41 hc224 (by kernel_rfl) ?_
    refine W.run Dk 3 160 (by kernel_rfl) ?_
    obtain ⟨r134, hx225, hv222⟩ := bind_some hv222
    refine W.call0 (m_impl_byteAt_ok a0 (IntKind.wrap .i64 (y91 + 1)) hx225) cok180 rfl (by kernel_rfl) ?_
    refine W.run Dk 3 160 (by kernel_rfl) ?_
    have hv222 := Option.some.inj hv222
    subst hv222
    exact W.fs [] [0, 2, 7, 36] (by kernel_rfl)
   refine W.is 41 hc224 (by kernel_rfl) ?_
   refine W.run Dk 7 160 (by kernel_rfl) ?_
   have hv222 := Option.some.inj hv222
   subst hv222
   exact W.fs [] [0, 2, 7, 36] (by kernel_rfl)
   ) ?_
  rcases cond_some h189 with ⟨hc226, h189⟩ | ⟨hc226, h189⟩
  ·refine CO.ifT hc226 (by kernel_rfl) ?_
   refine ce Dk mix 3 160 (tl 50 [(0, V.s a0), (2, V.i a2), (7, V.i (IntKind.wrap .i64 (y91 + 1)))]) [] (by kernel_rfl) (fun st hw => ?_)
   exact hk215 (a0, a2, (IntKind.wrap .i64 (y91 + 1))) h189 _ (hw.trans (Weak.sel [] [0, 2, 7] (by kernel_rfl) (by kernel_rfl) (by kernel_rfl)))
  refine CO.ifF hc226 (by kernel_rfl) ?_
  refine CO.skip ?_
  exact hk215 (a0, a2, y91) h189 _ (Weak.sel [] [0, 2, 7] (by kernel_rfl) (by kernel_rfl) (by kernel_rfl))
 refine CO.ifF hc202 (by kernel_rfl) ?_
 refine CO.exit ?_
 refine cu Dk mix 1 160 (tl 50 [(6, V.i (-1))]) [] (by kernel_rfl) ?_
 refine CO.ret ?_
 have h189 := Option.some.inj h189
 subst h189
 exact Ends.gen [] (.inr rfl) (RetV.one rfl (OneR.tmp (t := 6) (r := V.i (-1)) (by kernel_rfl))) (by kernel_rfl) (by kernel_rfl) (by kernel_rfl)

theorem m_impl_StrEnd_ok (N : Nat) (a0 : List UInt8) (a1 : Int) {r : Int} (h : m_impl_StrEnd N a0 a1 = some r) :
    AC Tryz.prog (GS []) 165 [V.s a0, V.i a1] [] (V.i r) [] := by
 rw [m_impl_StrEnd] at h
 refine AC.enter Tryz.func165 rfl ?_
 refine cu Dk mix 1 100 (tl 8 [(0, V.s a0), (1, V.i a1)]) [] (by kernel_rfl) ?_
 obtain ⟨r2, hx2, h⟩ := bind_some h
 refine CO.cutR (tl 8 [(4, V.i r2)]) [] mix (by
  refine W.run Dk 2 100 (by kernel_rfl) ?_
  refine W.call0 (m_impl_quotedEnd_ok N a0 a1 34 hx2) cok181 rfl (by kernel_rfl) ?_
  refine W.run Dk 1 100 (by kernel_rfl) ?_
  exact W.fi (by kernel_rfl)
  ) ?_
 refine CO.ret ?_
 have h := Option.some.inj h
 subst h
 exact Ends.gen [] (.inr rfl) (RetV.one rfl (OneR.tmp (t := 4) (r := V.i r2) (by kernel_rfl))) (by kernel_rfl) (by kernel_rfl) (by kernel_rfl)

theorem m_impl_EreEnd_ok (N : Nat) (a0 : List UInt8) (a1 : Int) {r : Int} (h : m_impl_EreEnd N a0 a1 = some r) :
    AC Tryz.prog (GS []) 166 [V.s a0, V.i a1] [] (V.i r) [] := by
 rw [m_impl_EreEnd] at h
 refine AC.enter Tryz.func166 rfl ?_
 refine cu Dk mix 1 100 (tl 14 [(0, V.s a0), (1, V.i a1)]) [] (by kernel_rfl) ?_
 obtain ⟨r2, hx2, h⟩ := bind_some h
 refine CO.cutR (tl 14 [(1, V.i a1), (5, V.i r2)]) [] mix (by
  refine W.run Dk 2 100 (by kernel_rfl) ?_
  refine W.call0 (m_impl_quotedEnd_ok N a0 a1 47 hx2) cok181 rfl (by kernel_rfl) ?_
  refine W.run Dk 1 100 (by kernel_rfl) ?_
  exact W.fi (by kernel_rfl)
  ) ?_
 refine CO.seq' ?_
 refine cu Dk mix 4 100 (tl 14 [(5, V.i r2), (12, V.b (r2 == (IntKind.wrap .i64 (a1 + 2))))]) [] (by kernel_rfl) ?_
 rcases cond_some h with ⟨hc4, h⟩ | ⟨hc4, h⟩
 ·refine CO.ifT hc4 (by kernel_rfl) ?_
  refine cu Dk mix 1 100 (tl 14 [(4, V.i (-1))]) [] (by kernel_rfl) ?_
  refine CO.ret ?_
  have h := Option.some.inj h
  subst h
  exact Ends.gen [] (.inr rfl) (RetV.one rfl (OneR.tmp (t := 4) (r := V.i (-1)) (by kernel_rfl))) (by kernel_rfl) (by kernel_rfl) (by kernel_rfl)
 refine CO.ifF hc4 (by kernel_rfl) ?_
 refine CO.skip ?_
 refine cu Dk mix 2 100 (tl 14 [(4, V.i r2)]) [] (by kernel_rfl) ?_
 refine CO.ret ?_
 have h := Option.some.inj h
 subst h
 exact Ends.gen [] (.inr rfl) (RetV.one rfl (OneR.tmp (t := 4) (r := V.i r2) (by kernel_rfl))) (by kernel_rfl) (by kernel_rfl) (by kernel_rfl)

theorem m_impl_isKeywordKind_ok (a0 : Int) {r : Bool} (h : m_impl_isKeywordKind a0 = some r) :
    AC Tryz.prog (GS []) 182 [V.i a0] [] (V.b r) [] := by
 rw [m_impl_isKeywordKind] at h
 refine AC.enter Tryz.func182 rfl ?_
 refine cu Dk mix 1 100 (tl 5 [(0, V.i a0)]) [] (by kernel_rfl) ?_
 obtain ⟨r2, hx2, h⟩ := bind_some h
 refine CO.cutR (tl 5 [(2, V.b r2)]) [] mix (by
  refine W.run Dk 1 100 (by kernel_rfl) ?_
  refine W.call0 (m_impl_within_ok a0 10 26 hx2) cok80 rfl (by kernel_rfl) ?_
  refine W.run Dk 1 100 (by kernel_rfl) ?_
  exact W.fi (by kernel_rfl)
  ) ?_
 refine CO.ret ?_
 have h := Option.some.inj h
 subst h
 exact Ends.gen [] (.inr rfl) (RetV.one rfl (OneR.tmp (t := 2) (r := V.b r2) (by kernel_rfl))) (by kernel_rfl) (by kernel_rfl) (by kernel_rfl)

theorem m_impl_isSignKind_ok (a0 : Int) {r : Bool} (h : m_impl_isSignKind a0 = some r) :
    AC Tryz.prog (GS []) 183 [V.i a0] [] (V.b r) [] := by
 rw [m_impl_isSignKind] at h
 refine AC.enter Tryz.func183 rfl ?_
 refine cu Dk mix 1 100 (tl 5 [(0, V.i a0)]) [] (by kernel_rfl) ?_
 obtain ⟨r2, hx2, h⟩ := bind_some h
 refine CO.cutR (tl 5 [(2, V.b r2)]) [] mix (by
  refine W.run Dk 1 100 (by kernel_rfl) ?_
  refine W.call0 (m_impl_within_ok a0 30 68 hx2) cok80 rfl (by kernel_rfl) ?_
  refine W.run Dk 1 100 (by kernel_rfl) ?_
  exact W.fi (by kernel_rfl)
  ) ?_
 refine CO.ret ?_
 have h := Option.some.inj h
 subst h
 exact Ends.gen [] (.inr rfl) (RetV.one rfl (OneR.tmp (t := 2) (r := V.b r2) (by kernel_rfl))) (by kernel_rfl) (by kernel_rfl) (by kernel_rfl)

theorem m_impl_SpellOf_ok (a0 : Int) {r : (List UInt8)} (h : m_impl_SpellOf a0 = some r) :
    AC Tryz.prog (GS [1, 2]) 167 [V.i a0] [] (V.s r) [] := by
 rw [m_impl_SpellOf] at h
 refine AC.enter Tryz.func167 rfl ?_
 refine cu Dk mix 1 100 (tl 20 [(0, V.i a0)]) [] (by kernel_rfl) ?_
 refine CO.seq' ?_
 refine CO.block' ?_
 refine cu Dk mix 3 100 (tl 20 [(0, V.i a0), (3, V.b (a0 == 1))]) [] (by kernel_rfl) ?_
 rcases cond_some h with ⟨hc12, h⟩ | ⟨hc12, h⟩
 ·refine CO.ifT hc12 (by kernel_rfl) ?_
  refine cu Dk mix 1 100 (tl 20 [(2, V.s [10])]) [] (by kernel_rfl) ?_
  refine CO.ret ?_
  have h := Option.some.inj h
  subst h
  exact Ends.gen [] (.inr rfl) (RetV.one rfl (OneR.tmp (t := 2) (r := V.s [10]) (by kernel_rfl))) (by kernel_rfl) (by kernel_rfl) (by kernel_rfl)
 refine CO.ifF hc12 (by kernel_rfl) ?_
 obtain ⟨r10, hx14, h⟩ := bind_some h
 refine CO.cutR (tl 20 [(0, V.i a0), (6, V.b r10)]) [] mix (by
  refine W.run Dk 1 100 (by kernel_rfl) ?_
  refine W.call0 (AC.gs (m_impl_isKeywordKind_ok a0 hx14) (by decide)) cok182 rfl (by kernel_rfl) ?_
  refine W.run Dk 1 100 (by kernel_rfl) ?_
  exact W.fi (by kernel_rfl)
  ) ?_
 rcases cond_some h with ⟨hc15, h⟩ | ⟨hc15, h⟩
 ·refine CO.ifT hc15 (by kernel_rfl) ?_
  obtain ⟨e12, hx17, h⟩ := bind_some h
  refine CO.cutR (tl 20 [(2, V.s e12)]) [] mix (by
   refine W.run Dk 2 100 (by kernel_rfl) ?_
   refine W.ixG Dk V.s (l := tab_keywords) hx17 (by kernel_rfl) ?_
   refine W.run Dk 2 100 (by kernel_rfl) ?_
   exact W.fi (by kernel_rfl)
   ) ?_
  refine CO.ret ?_
  have h := Option.some.inj h
  subst h
  exact Ends.gen [] (.inr rfl) (RetV.one rfl (OneR.tmp (t := 2) (r := V.s e12) (by kernel_rfl))) (by kernel_rfl) (by kernel_rfl) (by kernel_rfl)
 refine CO.ifF hc15 (by kernel_rfl) ?_
 obtain ⟨r14, hx19, h⟩ := bind_some h
 refine CO.cutR (tl 20 [(0, V.i a0), (13, V.b r14)]) [] mix (by
  refine W.run Dk 1 100 (by kernel_rfl) ?_
  refine W.call0 (AC.gs (m_impl_isSignKind_ok a0 hx19) (by decide)) cok183 rfl (by kernel_rfl) ?_
  refine W.run Dk 1 100 (by kernel_rfl) ?_
  exact W.fi (by kernel_rfl)
  ) ?_
 rcases cond_some h with ⟨hc20, h⟩ | ⟨hc20, h⟩
 ·refine CO.ifT hc20 (by kernel_rfl) ?_
  obtain ⟨e16, hx22, h⟩ := bind_some h
  refine CO.cutR (tl 20 [(2, V.s e16)]) [] mix (by
   refine W.run Dk 2 100 (by kernel_rfl) ?_
   refine W.ixG Dk V.s (l := tab_signs) hx22 (by kernel_rfl) ?_
   refine W.run Dk 2 100 (by kernel_rfl) ?_
   exact W.fi (by kernel_rfl)
   ) ?_
  refine CO.ret ?_
  have h := Option.some.inj h
  subst h
  exact Ends.gen [] (.inr rfl) (RetV.one rfl (OneR.tmp (t := 2) (r := V.s e16) (by kernel_rfl))) (by kernel_rfl) (by kernel_rfl) (by kernel_rfl)
 refine CO.ifF hc20 (by kernel_rfl) ?_
 refine CO.skip ?_
 refine cu Dk mix 1 100 (tl 20 [(2, V.s [])]) [] (by kernel_rfl) ?_
 refine CO.ret ?_
 have h := Option.some.inj h
 subst h
 exact Ends.gen [] (.inr rfl) (RetV.one rfl (OneR.tmp (t := 2) (r := V.s []) (by kernel_rfl))) (by kernel_rfl) (by kernel_rfl) (by kernel_rfl)

theorem m_impl_TokenOk_ok (N : Nat) (a0 : SToken) {r : Bool} (h : m_impl_TokenOk N a0 = some r) :
    AC Tryz.prog (GS [0, 1, 2]) 144 [.agg [V.i a0.Kind, V.s a0.Text, V.i a0.At]] [] (V.b r) [] := by
 rw [m_impl_TokenOk] at h
 refine AC.enter Tryz.func144 rfl ?_
 refine cu Dk mix 2 100 (tl 64 [(1, .loc 100 0)]) [(100, .cells 125 [V.i a0.Kind, V.s a0.Text, V.i a0.At])] (by kernel_rfl) ?_
 refine CO.seq' ?_
 refine cu Dk mix 3 101 (tl 64 [(1, .loc 100 0), (5, V.b (a0.Text == []))]) [(100, .cells 125 [V.i a0.Kind, V.s a0.Text, V.i a0.At])] (by kernel_rfl) ?_
 rcases cond_some h with ⟨hc2, h⟩ | ⟨hc2, h⟩
 ·refine CO.ifT hc2 (by kernel_rfl) ?_
  refine cu Dk mix 1 101 (tl 64 [(2, V.b false)]) [] (by kernel_rfl) ?_
  refine CO.ret ?_
  have h := Option.some.inj h
  subst h
  exact Ends.gen [] (.inr rfl) (RetV.one rfl (OneR.tmp (t := 2) (r := V.b false) (by kernel_rfl))) (by kernel_rfl) (by kernel_rfl) (by kernel_rfl)
 refine CO.ifF hc2 (by kernel_rfl) ?_
 refine CO.skip ?_
 refine CO.seq' ?_
 refine cu Dk mix 2 101 (tl 64 [(1, .loc 100 0), (7, V.i a0.Kind)]) [(100, .cells 125 [V.i a0.Kind, V.s a0.Text, V.i a0.At])] (by kernel_rfl) ?_
 refine CO.block' ?_
 refine cu Dk mix 2 101 (tl 64 [(1, .loc 100 0), (7, V.i a0.Kind), (8, V.b (a0.Kind == 2))]) [(100, .cells 125 [V.i a0.Kind, V.s a0.Text, V.i a0.At])] (by kernel_rfl) ?_
 rcases cond_some h with ⟨hc30, h⟩ | ⟨hc30, h⟩
 ·refine CO.ifT hc30 (by kernel_rfl) ?_
  obtain ⟨y19, hv34, h⟩ := bind_some h
  refine CO.cutR (tl 64 [(2, V.b y19)]) [] mix (by
   refine W.run Dk 2 101 (by kernel_rfl) ?_
   obtain ⟨b20, hx35, hv34⟩ := bind_some hv34
   refine W.ixS Dk hx35 (by kernel_rfl) ?_
   refine W.run Dk 2 101 (by kernel_rfl) ?_
   rcases cond_some hv34 with ⟨hc36, hv34⟩ | ⟨hc36, hv34⟩
   ·refine W.is 14 hc36 (by kernel_rfl) ?_
    refine W.run Dk 2 101 (by kernel_rfl) ?_
    obtain ⟨r21, hx37, hv34⟩ := bind_some hv34
    refine W.call0 (AC.gs (m_strings_Contains_ok a0.Text hx37) (by decide)) cok163 rfl (by kernel_rfl) ?_
    refine W.run Dk 3 101 (by kernel_rfl) ?_
    have hv34 := Option.some.inj hv34
    subst hv34
    exact W.fs [] [2] (by kernel_rfl)
   refine W.is 14 hc36 (by kernel_rfl) ?_
   refine W.run Dk 6 101 (by kernel_rfl) ?_
   have hv34 := Option.some.inj hv34
   subst hv34
   exact W.fs [] [2] (by kernel_rfl)
   ) ?_
  refine CO.ret ?_
  have h := Option.some.inj h
  subst h
  exact Ends.gen [] (.inr rfl) (RetV.one rfl (OneR.tmp (t := 2) (r := V.b y19) (by kernel_rfl))) (by kernel_rfl) (by kernel_rfl) (by kernel_rfl)
 refine CO.ifF hc30 (by kernel_rfl) ?_
 refine cu Dk mix 2 101 (tl 64 [(1, .loc 100 0), (7, V.i a0.Kind), (20, V.b (a0.Kind == 3))]) [(100, .cells 125 [V.i a0.Kind, V.s a0.Text, V.i a0.At])] (by kernel_rfl) ?_
 rcases cond_some h with ⟨hc38, h⟩ | ⟨hc38, h⟩
 ·refine CO.ifT hc38 (by kernel_rfl) ?_
  obtain ⟨r23, hx40, h⟩ := bind_some h
  refine CO.cutR (tl 64 [(2, V.b (r23 == (a0.Text.length : Int)))]) [] mix (by
   refine W.run Dk 2 101 (by kernel_rfl) ?_
   refine W.call0 (AC.gs (m_impl_NumEnd_ok N a0.Text 0 hx40) (by decide)) cok164 rfl (by kernel_rfl) ?_
   refine W.run Dk 5 101 (by kernel_rfl) ?_
   exact W.fi (by kernel_rfl)
   ) ?_
  refine CO.ret ?_
  have h := Option.some.inj h
  subst h
  exact Ends.gen [] (.inr rfl) (RetV.one rfl (OneR.tmp (t := 2) (r := V.b (r23 == (a0.Text.length : Int))) (by kernel_rfl))) (by kernel_rfl) (by kernel_rfl) (by kernel_rfl)
 refine CO.ifF hc38 (by kernel_rfl) ?_
 refine cu Dk mix 2 101 (tl 64 [(1, .loc 100 0), (7, V.i a0.Kind), (29, V.b (a0.Kind == 4))]) [(100, .cells 125 [V.i a0.Kind, V.s a0.Text, V.i a0.At])] (by kernel_rfl) ?_
 rcases cond_some h with ⟨hc41, h⟩ | ⟨hc41, h⟩
 ·refine CO.ifT hc41 (by kernel_rfl) ?_
  obtain ⟨r25, hx43, h⟩ := bind_some h
  refine CO.cutR (tl 64 [(2, V.b (r25 == (a0.Text.length : Int)))]) [] mix (by
   refine W.run Dk 2 101 (by kernel_rfl) ?_
   refine W.call0 (AC.gs (m_impl_StrEnd_ok N a0.Text 0 hx43) (by decide)) cok165 rfl (by kernel_rfl) ?_
   refine W.run Dk 5 101 (by kernel_rfl) ?_
   exact W.fi (by kernel_rfl)
   ) ?_
  refine CO.ret ?_
  have h := Option.some.inj h
  subst h
  exact Ends.gen [] (.inr rfl) (RetV.one rfl (OneR.tmp (t := 2) (r := V.b (r25 == (a0.Text.length : Int))) (by kernel_rfl))) (by kernel_rfl) (by kernel_rfl) (by kernel_rfl)
 refine CO.ifF hc41 (by kernel_rfl) ?_
 refine cu Dk mix 2 101 (tl 64 [(1, .loc 100 0), (7, V.i a0.Kind), (38, V.b (a0.Kind == 5))]) [(100, .cells 125 [V.i a0.Kind, V.s a0.Text, V.i a0.At])] (by kernel_rfl) ?_
 rcases cond_some h with ⟨hc44, h⟩ | ⟨hc44, h⟩
 ·refine CO.ifT hc44 (by kernel_rfl) ?_
  obtain ⟨r27, hx46, h⟩ := bind_some h
  refine CO.cutR (tl 64 [(2, V.b (r27 == (a0.Text.length : Int)))]) [] mix (by
   refine W.run Dk 2 101 (by kernel_rfl) ?_
   refine W.call0 (AC.gs (m_impl_EreEnd_ok N a0.Text 0 hx46) (by decide)) cok166 rfl (by kernel_rfl) ?_
   refine W.run Dk 5 101 (by kernel_rfl) ?_
   exact W.fi (by kernel_rfl)
   ) ?_
  refine CO.ret ?_
  have h := Option.some.inj h
  subst h
  exact Ends.gen [] (.inr rfl) (RetV.one rfl (OneR.tmp (t := 2) (r := V.b (r27 == (a0.Text.length : Int))) (by kernel_rfl))) (by kernel_rfl) (by kernel_rfl) (by kernel_rfl)
 refine CO.ifF hc44 (by kernel_rfl) ?_
 refine CO.join (fun (⟨a0, y28⟩ : (SToken × Bool)) => ⟨tl 64 [(1, .loc 100 0), (7, V.i a0.Kind), (47, V.b y28)], [(100, .cells 125 [V.i a0.Kind, V.s a0.Text, V.i a0.At])]⟩) (fun i => m_impl_TokenOk_k1 N i = some r) ?_ ?_
 · rintro ⟨a0, y28⟩ h48
   rw [m_impl_TokenOk_k1] at h48
   rcases cond_some h48 with ⟨hc49, h48⟩ | ⟨hc49, h48⟩
   ·refine CO.ifT hc49 (by kernel_rfl) ?_
    obtain ⟨r30, hx51, h48⟩ := bind_some h48
    refine CO.cutR (tl 64 [(2, V.b r30)]) [] mix (by
     refine W.run Dk 2 101 (by kernel_rfl) ?_
     refine W.call0 (AC.gs (m_impl_NameOk_ok N a0.Text hx51) (by decide)) cok143 rfl (by kernel_rfl) ?_
     refine W.run Dk 1 101 (by kernel_rfl) ?_
     exact W.fi (by kernel_rfl)
     ) ?_
    refine CO.ret ?_
    have h48 := Option.some.inj h48
    subst h48
    exact Ends.gen [] (.inr rfl) (RetV.one rfl (OneR.tmp (t := 2) (r := V.b r30) (by kernel_rfl))) (by kernel_rfl) (by kernel_rfl) (by kernel_rfl)
   refine CO.ifF hc49 (by kernel_rfl) ?_
   refine cu Dk mix 2 101 (tl 64 [(1, .loc 100 0), (53, V.b (a0.Kind == 8))]) [(100, .cells 125 [V.i a0.Kind, V.s a0.Text, V.i a0.At])] (by kernel_rfl) ?_
   rcases cond_some h48 with ⟨hc52, h48⟩ | ⟨hc52, h48⟩
   ·refine CO.ifT hc52 (by kernel_rfl) ?_
    obtain ⟨r32, hx54, h48⟩ := bind_some h48
    refine CO.cutR (tl 64 [(2, V.b r32)]) [] mix (by
     refine W.run Dk 2 101 (by kernel_rfl) ?_
     refine W.call0 (AC.gs (m_impl_IsBuiltin_ok N a0.Text hx54) (by decide)) cok145 rfl (by kernel_rfl) ?_
     refine W.run Dk 1 101 (by kernel_rfl) ?_
     exact W.fi (by kernel_rfl)
     ) ?_
    refine CO.ret ?_
    have h48 := Option.some.inj h48
    subst h48
    exact Ends.gen [] (.inr rfl) (RetV.one rfl (OneR.tmp (t := 2) (r := V.b r32) (by kernel_rfl))) (by kernel_rfl) (by kernel_rfl) (by kernel_rfl)
   refine CO.ifF hc52 (by kernel_rfl) ?_
   refine CO.skip ?_
   obtain ⟨r34, hx56, h48⟩ := bind_some h48
   refine CO.cutR (tl 64 [(2, V.b (a0.Text == r34))]) [] mix (by
    refine W.run Dk 4 101 (by kernel_rfl) ?_
    refine W.call0 (AC.gs (m_impl_SpellOf_ok a0.Kind hx56) (by decide)) cok167 rfl (by kernel_rfl) ?_
    refine W.run Dk 2 101 (by kernel_rfl) ?_
    exact W.fi (by kernel_rfl)
    ) ?_
   refine CO.ret ?_
   have h48 := Option.some.inj h48
   subst h48
   exact Ends.gen [] (.inr rfl) (RetV.one rfl (OneR.tmp (t := 2) (r := V.b (a0.Text == r34)) (by kernel_rfl))) (by kernel_rfl) (by kernel_rfl) (by kernel_rfl)
 intro hk57
 refine cu Dk mix 2 101 (tl 64 [(1, .loc 100 0), (7, V.i a0.Kind), (47, V.b (a0.Kind == 6))]) [(100, .cells 125 [V.i a0.Kind, V.s a0.Text, V.i a0.At])] (by kernel_rfl) ?_
 rcases cond_some h with ⟨hc58, h⟩ | ⟨hc58, h⟩
 ·refine CO.ifT hc58 (by kernel_rfl) ?_
  refine CO.skip ?_
  exact hk57 (a0, (a0.Kind == 6)) h _ (Weak.sel [(100, 100)] [1, 7, 47] (by kernel_rfl) (by kernel_rfl) (by kernel_rfl))
 refine CO.ifF hc58 (by kernel_rfl) ?_
 refine ce Dk mix 2 101 (tl 64 [(1, .loc 100 0), (7, V.i a0.Kind), (47, V.b (a0.Kind == 7))]) [(100, .cells 125 [V.i a0.Kind, V.s a0.Text, V.i a0.At])] (by kernel_rfl) (fun st hw => ?_)
 exact hk57 (a0, (a0.Kind == 7)) h _ (hw.trans (Weak.sel [(100, 100)] [1, 7, 47] (by kernel_rfl) (by kernel_rfl) (by kernel_rfl)))

theorem m_impl_isStep_ok (a0 : Int) {r : Bool} (h : m_impl_isStep a0 = some r) :
    AC Tryz.prog (GS []) 146 [V.i a0] [] (V.b r) [] := by
 rw [m_impl_isStep] at h
 refine AC.enter Tryz.func146 rfl ?_
 refine cu Dk mix 1 100 (tl 9 [(0, V.i a0)]) [] (by kernel_rfl) ?_
 obtain ⟨y1, hv2, h⟩ := bind_some h
 refine CO.cutR (tl 9 [(2, V.b y1)]) [] mix (by
  refine W.run Dk 3 100 (by kernel_rfl) ?_
  rcases cond_some hv2 with ⟨hc3, hv2⟩ | ⟨hc3, hv2⟩
  ·refine W.is 5 hc3 (by kernel_rfl) ?_
   refine W.run Dk 4 100 (by kernel_rfl) ?_
   have hv2 := Option.some.inj hv2
   subst hv2
   exact W.fs [] [2] (by kernel_rfl)
  refine W.is 5 hc3 (by kernel_rfl) ?_
  refine W.run Dk 4 100 (by kernel_rfl) ?_
  have hv2 := Option.some.inj hv2
  subst hv2
  exact W.fs [] [2] (by kernel_rfl)
  ) ?_
 refine CO.ret ?_
 have h := Option.some.inj h
 subst h
 exact Ends.gen [] (.inr rfl) (RetV.one rfl (OneR.tmp (t := 2) (r := V.b y1) (by kernel_rfl))) (by kernel_rfl) (by kernel_rfl) (by kernel_rfl)

theorem m_impl_OpLevel_ok (a0 : Int) {r : Int} (h : m_impl_OpLevel a0 = some r) :
    AC Tryz.prog (GS []) 147 [V.i a0] [] (V.i r) [] := by
 rw [m_impl_OpLevel] at h
 refine AC.enter Tryz.func147 rfl ?_
 refine cu Dk mix 1 100 (tl 29 [(0, V.i a0)]) [] (by kernel_rfl) ?_
 refine CO.seq' ?_
 refine cu Dk mix 1 100 (tl 29 [(3, V.i a0)]) [] (by kernel_rfl) ?_
 refine CO.block' ?_
 refine cu Dk mix 2 100 (tl 29 [(3, V.i a0), (4, V.b (a0 == 44))]) [] (by kernel_rfl) ?_
 rcases cond_some h with ⟨hc35, h⟩ | ⟨hc35, h⟩
 ·refine CO.ifT hc35 (by kernel_rfl) ?_
  refine cu Dk mix 1 100 (tl 29 [(2, V.i 3)]) [] (by kernel_rfl) ?_
  refine CO.ret ?_
  have h := Option.some.inj h
  subst h
  exact Ends.gen [] (.inr rfl) (RetV.one rfl (OneR.tmp (t := 2) (r := V.i 3) (by kernel_rfl))) (by kernel_rfl) (by kernel_rfl) (by kernel_rfl)
 refine CO.ifF hc35 (by kernel_rfl) ?_
 refine cu Dk mix 2 100 (tl 29 [(3, V.i a0), (6, V.b (a0 == 45))]) [] (by kernel_rfl) ?_
 rcases cond_some h with ⟨hc36, h⟩ | ⟨hc36, h⟩
 ·refine CO.ifT hc36 (by kernel_rfl) ?_
  refine cu Dk mix 1 100 (tl 29 [(2, V.i 4)]) [] (by kernel_rfl) ?_
  refine CO.ret ?_
  have h := Option.some.inj h
  subst h
  exact Ends.gen [] (.inr rfl) (RetV.one rfl (OneR.tmp (t := 2) (r := V.i 4) (by kernel_rfl))) (by kernel_rfl) (by kernel_rfl) (by kernel_rfl)
 refine CO.ifF hc36 (by kernel_rfl) ?_
 refine CO.join (fun (⟨a0, y5⟩ : (Int × Bool)) => ⟨tl 29 [(3, V.i a0), (8, V.b y5)], []⟩) (fun i => m_impl_OpLevel_k1 i = some r) ?_ ?_
 · rintro ⟨a0, y5⟩ h38
   rw [m_impl_OpLevel_k1] at h38
   rcases cond_some h38 with ⟨hc39, h38⟩ | ⟨hc39, h38⟩
   ·refine CO.ifT hc39 (by kernel_rfl) ?_
    refine cu Dk mix 1 100 (tl 29 [(2, V.i 6)]) [] (by kernel_rfl) ?_
    refine CO.ret ?_
    have h38 := Option.some.inj h38
    subst h38
    exact Ends.gen [] (.inr rfl) (RetV.one rfl (OneR.tmp (t := 2) (r := V.i 6) (by kernel_rfl))) (by kernel_rfl) (by kernel_rfl) (by kernel_rfl)
   refine CO.ifF hc39 (by kernel_rfl) ?_
   refine CO.join (fun (⟨a0, y6⟩ : (Int × Bool)) => ⟨tl 29 [(3, V.i a0), (11, V.b y6)], []⟩) (fun i => m_impl_OpLevel_k2 i = some r) ?_ ?_
   · rintro ⟨a0, y6⟩ h45
     rw [m_impl_OpLevel_k2] at h45
     rcases cond_some h45 with ⟨hc46, h45⟩ | ⟨hc46, h45⟩
     ·refine CO.ifT hc46 (by kernel_rfl) ?_
      refine cu Dk mix 1 100 (tl 29 [(2, V.i 7)]) [] (by kernel_rfl) ?_
      refine CO.ret ?_
      have h45 := Option.some.inj h45
      subst h45
      exact Ends.gen [] (.inr rfl) (RetV.one rfl (OneR.tmp (t := 2) (r := V.i 7) (by kernel_rfl))) (by kernel_rfl) (by kernel_rfl) (by kernel_rfl)
     refine CO.ifF hc46 (by kernel_rfl) ?_
     refine cu Dk mix 2 100 (tl 29 [(3, V.i a0), (18, V.b (a0 == 99))]) [] (by kernel_rfl) ?_
     rcases cond_some h45 with ⟨hc47, h45⟩ | ⟨hc47, h45⟩
     ·refine CO.ifT hc47 (by kernel_rfl) ?_
      refine cu Dk mix 1 100 (tl 29 [(2, V.i 8)]) [] (by kernel_rfl) ?_
      refine CO.ret ?_
      have h45 := Option.some.inj h45
      subst h45
      exact Ends.gen [] (.inr rfl) (RetV.one rfl (OneR.tmp (t := 2) (r := V.i 8) (by kernel_rfl))) (by kernel_rfl) (by kernel_rfl) (by kernel_rfl)
     refine CO.ifF hc47 (by kernel_rfl) ?_
     refine CO.join (fun (⟨a0, y7⟩ : (Int × Bool)) => ⟨tl 29 [(3, V.i a0), (20, V.b y7)], []⟩) (fun i => m_impl_OpLevel_k3 i = some r) ?_ ?_
     · rintro ⟨a0, y7⟩ h49
       rw [m_impl_OpLevel_k3] at h49
       rcases cond_some h49 with ⟨hc50, h49⟩ | ⟨hc50, h49⟩
       ·refine CO.ifT hc50 (by kernel_rfl) ?_
        refine cu Dk mix 1 100 (tl 29 [(2, V.i 9)]) [] (by kernel_rfl) ?_
        refine CO.ret ?_
        have h49 := Option.some.inj h49
        subst h49
        exact Ends.gen [] (.inr rfl) (RetV.one rfl (OneR.tmp (t := 2) (r := V.i 9) (by kernel_rfl))) (by kernel_rfl) (by kernel_rfl) (by kernel_rfl)
       refine CO.ifF hc50 (by kernel_rfl) ?_
       refine CO.join (fun (⟨a0, y8⟩ : (Int × Bool)) => ⟨tl 29 [(3, V.i a0), (23, V.b y8)], []⟩) (fun i => m_impl_OpLevel_k4 i = some r) ?_ ?_
       · rintro ⟨a0, y8⟩ h53
         rw [m_impl_OpLevel_k4] at h53
         rcases cond_some h53 with ⟨hc54, h53⟩ | ⟨hc54, h53⟩
         ·refine CO.ifT hc54 (by kernel_rfl) ?_
          refine cu Dk mix 1 100 (tl 29 [(2, V.i 10)]) [] (by kernel_rfl) ?_
          refine CO.ret ?_
          have h53 := Option.some.inj h53
          subst h53
          exact Ends.gen [] (.inr rfl) (RetV.one rfl (OneR.tmp (t := 2) (r := V.i 10) (by kernel_rfl))) (by kernel_rfl) (by kernel_rfl) (by kernel_rfl)
         refine CO.ifF hc54 (by kernel_rfl) ?_
         refine cu Dk mix 2 100 (tl 29 [(27, V.b (a0 == 60))]) [] (by kernel_rfl) ?_
         rcases cond_some h53 with ⟨hc55, h53⟩ | ⟨hc55, h53⟩
         ·refine CO.ifT hc55 (by kernel_rfl) ?_
          refine cu Dk mix 1 100 (tl 29 [(2, V.i 12)]) [] (by kernel_rfl) ?_
          refine CO.ret ?_
          have h53 := Option.some.inj h53
          subst h53
          exact Ends.gen [] (.inr rfl) (RetV.one rfl (OneR.tmp (t := 2) (r := V.i 12) (by kernel_rfl))) (by kernel_rfl) (by kernel_rfl) (by kernel_rfl)
         refine CO.ifF hc55 (by kernel_rfl) ?_
         refine CO.skip ?_
         refine cu Dk mix 1 100 (tl 29 [(2, V.i 0)]) [] (by kernel_rfl) ?_
         refine CO.ret ?_
         have h53 := Option.some.inj h53
         subst h53
         exact Ends.gen [] (.inr rfl) (RetV.one rfl (OneR.tmp (t := 2) (r := V.i 0) (by kernel_rfl))) (by kernel_rfl) (by kernel_rfl) (by kernel_rfl)
       intro hk56
       refine cu Dk mix 2 100 (tl 29 [(3, V.i a0), (23, V.b (a0 == 57))]) [] (by kernel_rfl) ?_
       rcases cond_some h49 with ⟨hc57, h49⟩ | ⟨hc57, h49⟩
       ·refine CO.ifT hc57 (by kernel_rfl) ?_
        refine CO.skip ?_
        exact hk56 (a0, (a0 == 57)) h49 _ (Weak.sel [] [3, 23] (by kernel_rfl) (by kernel_rfl) (by kernel_rfl))
       refine CO.ifF hc57 (by kernel_rfl) ?_
       refine cu Dk mix 2 100 (tl 29 [(3, V.i a0), (23, V.b (a0 == 58))]) [] (by kernel_rfl) ?_
       rcases cond_some h49 with ⟨hc58, h49⟩ | ⟨hc58, h49⟩
       ·refine CO.ifT hc58 (by kernel_rfl) ?_
        refine CO.skip ?_
        exact hk56 (a0, (a0 == 58)) h49 _ (Weak.sel [] [3, 23] (by kernel_rfl) (by kernel_rfl) (by kernel_rfl))
       refine CO.ifF hc58 (by kernel_rfl) ?_
       refine ce Dk mix 2 100 (tl 29 [(3, V.i a0), (23, V.b (a0 == 59))]) [] (by kernel_rfl) (fun st hw => ?_)
       exact hk56 (a0, (a0 == 59)) h49 _ (hw.trans (Weak.sel [] [3, 23] (by kernel_rfl) (by kernel_rfl) (by kernel_rfl)))
     intro hk59
     refine cu Dk mix 2 100 (tl 29 [(3, V.i a0), (20, V.b (a0 == 55))]) [] (by kernel_rfl) ?_
     rcases cond_some h45 with ⟨hc60, h45⟩ | ⟨hc60, h45⟩
     ·refine CO.ifT hc60 (by kernel_rfl) ?_
      refine CO.skip ?_
      exact hk59 (a0, (a0 == 55)) h45 _ (Weak.sel [] [3, 20] (by kernel_rfl) (by kernel_rfl) (by kernel_rfl))
     refine CO.ifF hc60 (by kernel_rfl) ?_
     refine ce Dk mix 2 100 (tl 29 [(3, V.i a0), (20, V.b (a0 == 56))]) [] (by kernel_rfl) (fun st hw => ?_)
     exact hk59 (a0, (a0 == 56)) h45 _ (hw.trans (Weak.sel [] [3, 20] (by kernel_rfl) (by kernel_rfl) (by kernel_rfl)))
   intro hk61
   refine cu Dk mix 2 100 (tl 29 [(3, V.i a0), (11, V.b (a0 == 63))]) [] (by kernel_rfl) ?_
   rcases cond_some h38 with ⟨hc62, h38⟩ | ⟨hc62, h38⟩
   ·refine CO.ifT hc62 (by kernel_rfl) ?_
    refine CO.skip ?_
    exact hk61 (a0, (a0 == 63)) h38 _ (Weak.sel [] [3, 11] (by kernel_rfl) (by kernel_rfl) (by kernel_rfl))
   refine CO.ifF hc62 (by kernel_rfl) ?_
   refine cu Dk mix 2 100 (tl 29 [(3, V.i a0), (11, V.b (a0 == 48))]) [] (by kernel_rfl) ?_
   rcases cond_some h38 with ⟨hc63, h38⟩ | ⟨hc63, h38⟩
   ·refine CO.ifT hc63 (by kernel_rfl) ?_
    refine CO.skip ?_
    exact hk61 (a0, (a0 == 48)) h38 _ (Weak.sel [] [3, 11] (by kernel_rfl) (by kernel_rfl) (by kernel_rfl))
   refine CO.ifF hc63 (by kernel_rfl) ?_
   refine cu Dk mix 2 100 (tl 29 [(3, V.i a0), (11, V.b (a0 == 47))]) [] (by kernel_rfl) ?_
   rcases cond_some h38 with ⟨hc64, h38⟩ | ⟨hc64, h38⟩
   ·refine CO.ifT hc64 (by kernel_rfl) ?_
    refine CO.skip ?_
    exact hk61 (a0, (a0 == 47)) h38 _ (Weak.sel [] [3, 11] (by kernel_rfl) (by kernel_rfl) (by kernel_rfl))
   refine CO.ifF hc64 (by kernel_rfl) ?_
   refine cu Dk mix 2 100 (tl 29 [(3, V.i a0), (11, V.b (a0 == 50))]) [] (by kernel_rfl) ?_
   rcases cond_some h38 with ⟨hc65, h38⟩ | ⟨hc65, h38⟩
   ·refine CO.ifT hc65 (by kernel_rfl) ?_
    refine CO.skip ?_
    exact hk61 (a0, (a0 == 50)) h38 _ (Weak.sel [] [3, 11] (by kernel_rfl) (by kernel_rfl) (by kernel_rfl))
   refine CO.ifF hc65 (by kernel_rfl) ?_
   refine cu Dk mix 2 100 (tl 29 [(3, V.i a0), (11, V.b (a0 == 62))]) [] (by kernel_rfl) ?_
   rcases cond_some h38 with ⟨hc66, h38⟩ | ⟨hc66, h38⟩
   ·refine CO.ifT hc66 (by kernel_rfl) ?_
    refine CO.skip ?_
    exact hk61 (a0, (a0 == 62)) h38 _ (Weak.sel [] [3, 11] (by kernel_rfl) (by kernel_rfl) (by kernel_rfl))
   refine CO.ifF hc66 (by kernel_rfl) ?_
   refine ce Dk mix 2 100 (tl 29 [(3, V.i a0), (11, V.b (a0 == 49))]) [] (by kernel_rfl) (fun st hw => ?_)
   exact hk61 (a0, (a0 == 49)) h38 _ (hw.trans (Weak.sel [] [3, 11] (by kernel_rfl) (by kernel_rfl) (by kernel_rfl)))
 intro hk67
 refine cu Dk mix 2 100 (tl 29 [(3, V.i a0), (8, V.b (a0 == 67))]) [] (by kernel_rfl) ?_
 rcases cond_some h with ⟨hc68, h⟩ | ⟨hc68, h⟩
 ·refine CO.ifT hc68 (by kernel_rfl) ?_
  refine CO.skip ?_
  exact hk67 (a0, (a0 == 67)) h _ (Weak.sel [] [3, 8] (by kernel_rfl) (by kernel_rfl) (by kernel_rfl))
 refine CO.ifF hc68 (by kernel_rfl) ?_
 refine ce Dk mix 2 100 (tl 29 [(3, V.i a0), (8, V.b (a0 == 46))]) [] (by kernel_rfl) (fun st hw => ?_)
 exact hk67 (a0, (a0 == 46)) h _ (hw.trans (Weak.sel [] [3, 8] (by kernel_rfl) (by kernel_rfl) (by kernel_rfl)))

theorem m_impl_isAssign_ok (a0 : Int) {r : Bool} (h : m_impl_isAssign a0 = some r) :
    AC Tryz.prog (GS []) 148 [V.i a0] [] (V.b r) [] := by
 rw [m_impl_isAssign] at h
 refine AC.enter Tryz.func148 rfl ?_
 refine cu Dk mix 1 100 (tl 9 [(0, V.i a0)]) [] (by kernel_rfl) ?_
 obtain ⟨y2, hv3, h⟩ := bind_some h
 refine CO.cutR (tl 9 [(2, V.b y2)]) [] mix (by
  refine W.run Dk 3 100 (by kernel_rfl) ?_
  rcases cond_some hv3 with ⟨hc4, hv3⟩ | ⟨hc4, hv3⟩
  ·refine W.is 5 hc4 (by kernel_rfl) ?_
   refine W.run Dk 4 100 (by kernel_rfl) ?_
   have hv3 := Option.some.inj hv3
   subst hv3
   exact W.fs [] [2] (by kernel_rfl)
  refine W.is 5 hc4 (by kernel_rfl) ?_
  refine W.run Dk 1 100 (by kernel_rfl) ?_
  obtain ⟨r3, hx5, hv3⟩ := bind_some hv3
  refine W.call0 (m_impl_within_ok a0 38 43 hx5) cok80 rfl (by kernel_rfl) ?_
  refine W.run Dk 2 100 (by kernel_rfl) ?_
  have hv3 := Option.some.inj hv3
  subst hv3
  exact W.fs [] [2] (by kernel_rfl)
  ) ?_
 refine CO.ret ?_
 have h := Option.some.inj h
 subst h
 exact Ends.gen [] (.inr rfl) (RetV.one rfl (OneR.tmp (t := 2) (r := V.b y2) (by kernel_rfl))) (by kernel_rfl) (by kernel_rfl) (by kernel_rfl)

end Go.Proofs.Tryz
