/-
  The walks that show that the code computes the models, part 3.
-/
import Derived.Test.YtkfpmbinifaakaaGreatDoorPnQW2
namespace Go.Proofs.Tryz
open Go.Av
set_option maxRecDepth 100000
set_option maxHeartbeats 8000000
set_option linter.unusedSimpArgs false
set_option linter.unusedVariables false

theorem m_impl_exprForm_ok (N : Nat) (a0 : SNode) {r : SForm} (h : m_impl_exprForm N a0 = some r) :
    AC Tryz.prog (GS [0, 1, 2]) 127 [.agg [V.i a0.Kind, V.i a0.Op, V.s a0.Text, V.s a0.Other, .sl false false (a0.Kids.map encI)]] [] (.agg [V.b r.op, V.b r.text, V.b r.other, V.i r.least, V.i r.most]) [] := by
 rw [m_impl_exprForm] at h
 refine AC.enter Tryz.func127 rfl ?_
 refine cu Dk mix 2 100 (tl 123 [(1, .loc 100 0), (2, .loc 101 0)]) [(101, .cells 119 [V.b false, V.b false, V.b false, V.i 0, V.i 0]), (100, .cells 53 [V.i a0.Kind, V.i a0.Op, V.s a0.Text, V.s a0.Other, .sl false false (a0.Kids.map encI)])] (by kernel_rfl) ?_
 refine CO.seq' ?_
 refine cu Dk mix 2 102 (tl 123 [(1, .loc 100 0), (2, .loc 101 0), (4, V.i a0.Kind)]) [(101, .cells 119 [V.b false, V.b false, V.b false, V.i 0, V.i 0]), (100, .cells 53 [V.i a0.Kind, V.i a0.Op, V.s a0.Text, V.s a0.Other, .sl false false (a0.Kids.map encI)])] (by kernel_rfl) ?_
 refine CO.block' ?_
 refine cu Dk mix 2 102 (tl 123 [(1, .loc 100 0), (2, .loc 101 0), (4, V.i a0.Kind), (5, V.b (a0.Kind == 1))]) [(101, .cells 119 [V.b false, V.b false, V.b false, V.i 0, V.i 0]), (100, .cells 53 [V.i a0.Kind, V.i a0.Op, V.s a0.Text, V.s a0.Other, .sl false false (a0.Kids.map encI)])] (by kernel_rfl) ?_
 rcases cond_some h with ⟨hc46, h⟩ | ⟨hc46, h⟩
 ·refine CO.ifT hc46 (by kernel_rfl) ?_
  obtain ⟨r22, hx48, h⟩ := bind_some h
  refine CO.cutR (tl 123 [(2, .loc 101 0)]) [(101, .cells 119 [V.b (a0.Op == 0), V.b r22, V.b false, V.i 0, V.i 0])] mix (by
   refine W.run Dk 5 102 (by kernel_rfl) ?_
   refine W.call0 (AC.gs (m_impl_NameOk_ok N a0.Text hx48) (by decide)) cok143 rfl (by kernel_rfl) ?_
   refine W.run Dk 2 102 (by kernel_rfl) ?_
   exact W.fi (by kernel_rfl)
   ) ?_
  refine CO.ret ?_
  have h := Option.some.inj h
  subst h
  exact Ends.gen [] (.inr rfl) (RetV.one rfl (OneR.cell Dk (r := .agg [V.b (a0.Op == 0), V.b r22, V.b false, V.i 0, V.i 0]) (i := 101) (ety := 119) (cs := [V.b (a0.Op == 0), V.b r22, V.b false, V.i 0, V.i 0]) (by kernel_rfl) (by kernel_rfl) (by kernel_rfl))) (by kernel_rfl) (by kernel_rfl) (by kernel_rfl)
 refine CO.ifF hc46 (by kernel_rfl) ?_
 refine CO.join (fun (⟨a0, y23⟩ : (SNode × Bool)) => ⟨tl 123 [(1, .loc 100 0), (2, .loc 101 0), (4, V.i a0.Kind), (14, V.b y23)], [(100, .cells 53 [V.i a0.Kind, V.i a0.Op, V.s a0.Text, V.s a0.Other, .sl false false (a0.Kids.map encI)]), (101, .cells 119 [V.b false, V.b false, V.b false, V.i 0, V.i 0])]⟩) (fun i => m_impl_exprForm_k1 N i = some r) ?_ ?_
 · rintro ⟨a0, y23⟩ h51
   rw [m_impl_exprForm_k1] at h51
   rcases cond_some h51 with ⟨hc52, h51⟩ | ⟨hc52, h51⟩
   ·refine CO.ifT hc52 (by kernel_rfl) ?_
    obtain ⟨e26, hx55, h51⟩ := bind_some h51
    obtain ⟨r27, hx56, h51⟩ := bind_some h51
    refine CO.cutR (tl 123 [(2, .loc 101 0)]) [(101, .cells 119 [V.b (a0.Op == 0), V.b r27, V.b false, V.i 0, V.i 0])] mix (by
     refine W.run Dk 7 102 (by kernel_rfl) ?_
     refine W.ixA Dk V.i hx55 (by kernel_rfl) ?_
     refine W.run Dk 3 102 (by kernel_rfl) ?_
     refine W.call0 (m_impl_TokenOk_ok N (⟨e26, a0.Text, 0⟩ : SToken) hx56) cok144 rfl (by kernel_rfl) ?_
     refine W.run Dk 2 102 (by kernel_rfl) ?_
     exact W.fi (by kernel_rfl)
     ) ?_
    refine CO.ret ?_
    have h51 := Option.some.inj h51
    subst h51
    exact Ends.gen [] (.inr rfl) (RetV.one rfl (OneR.cell Dk (r := .agg [V.b (a0.Op == 0), V.b r27, V.b false, V.i 0, V.i 0]) (i := 101) (ety := 119) (cs := [V.b (a0.Op == 0), V.b r27, V.b false, V.i 0, V.i 0]) (by kernel_rfl) (by kernel_rfl) (by kernel_rfl))) (by kernel_rfl) (by kernel_rfl) (by kernel_rfl)
   refine CO.ifF hc52 (by kernel_rfl) ?_
   refine CO.join (fun (⟨a0, y28⟩ : (SNode × Bool)) => ⟨tl 123 [(1, .loc 100 0), (2, .loc 101 0), (4, V.i a0.Kind), (31, V.b y28)], [(100, .cells 53 [V.i a0.Kind, V.i a0.Op, V.s a0.Text, V.s a0.Other, .sl false false (a0.Kids.map encI)]), (101, .cells 119 [V.b false, V.b false, V.b false, V.i 0, V.i 0])]⟩) (fun i => m_impl_exprForm_k2 N i = some r) ?_ ?_
   · rintro ⟨a0, y28⟩ h58
     rw [m_impl_exprForm_k2] at h58
     rcases cond_some h58 with ⟨hc59, h58⟩ | ⟨hc59, h58⟩
     ·refine CO.ifT hc59 (by kernel_rfl) ?_
      obtain ⟨r30, hx61, h58⟩ := bind_some h58
      refine CO.cutR (tl 123 [(2, .loc 101 0)]) [(101, .cells 119 [V.b (a0.Op == 0), V.b r30, V.b false, V.i 1, V.i 6])] mix (by
       refine W.run Dk 5 102 (by kernel_rfl) ?_
       refine W.call0 (AC.gs (m_impl_NameOk_ok N a0.Text hx61) (by decide)) cok143 rfl (by kernel_rfl) ?_
       refine W.run Dk 2 102 (by kernel_rfl) ?_
       exact W.fi (by kernel_rfl)
       ) ?_
      refine CO.ret ?_
      have h58 := Option.some.inj h58
      subst h58
      exact Ends.gen [] (.inr rfl) (RetV.one rfl (OneR.cell Dk (r := .agg [V.b (a0.Op == 0), V.b r30, V.b false, V.i 1, V.i 6]) (i := 101) (ety := 119) (cs := [V.b (a0.Op == 0), V.b r30, V.b false, V.i 1, V.i 6]) (by kernel_rfl) (by kernel_rfl) (by kernel_rfl))) (by kernel_rfl) (by kernel_rfl) (by kernel_rfl)
     refine CO.ifF hc59 (by kernel_rfl) ?_
     refine cu Dk mix 2 102 (tl 123 [(1, .loc 100 0), (2, .loc 101 0), (4, V.i a0.Kind), (41, V.b (a0.Kind == 6))]) [(100, .cells 53 [V.i a0.Kind, V.i a0.Op, V.s a0.Text, V.s a0.Other, .sl false false (a0.Kids.map encI)]), (101, .cells 119 [V.b false, V.b false, V.b false, V.i 0, V.i 0])] (by kernel_rfl) ?_
     rcases cond_some h58 with ⟨hc62, h58⟩ | ⟨hc62, h58⟩
     ·refine CO.ifT hc62 (by kernel_rfl) ?_
      refine cu Dk mix 8 102 (tl 123 [(2, .loc 101 0)]) [(101, .cells 119 [V.b (a0.Op == 0), V.b (a0.Text == []), V.b false, V.i 1, V.i 1])] (by kernel_rfl) ?_
      refine CO.ret ?_
      have h58 := Option.some.inj h58
      subst h58
      exact Ends.gen [] (.inr rfl) (RetV.one rfl (OneR.cell Dk (r := .agg [V.b (a0.Op == 0), V.b (a0.Text == []), V.b false, V.i 1, V.i 1]) (i := 101) (ety := 119) (cs := [V.b (a0.Op == 0), V.b (a0.Text == []), V.b false, V.i 1, V.i 1]) (by kernel_rfl) (by kernel_rfl) (by kernel_rfl))) (by kernel_rfl) (by kernel_rfl) (by kernel_rfl)
     refine CO.ifF hc62 (by kernel_rfl) ?_
     refine cu Dk mix 2 102 (tl 123 [(1, .loc 100 0), (2, .loc 101 0), (4, V.i a0.Kind), (50, V.b (a0.Kind == 7))]) [(100, .cells 53 [V.i a0.Kind, V.i a0.Op, V.s a0.Text, V.s a0.Other, .sl false false (a0.Kids.map encI)]), (101, .cells 119 [V.b false, V.b false, V.b false, V.i 0, V.i 0])] (by kernel_rfl) ?_
     rcases cond_some h58 with ⟨hc63, h58⟩ | ⟨hc63, h58⟩
     ·refine CO.ifT hc63 (by kernel_rfl) ?_
      obtain ⟨r32, hx65, h58⟩ := bind_some h58
      refine CO.cutR (tl 123 [(2, .loc 101 0)]) [(101, .cells 119 [V.b (a0.Op == 0), V.b r32, V.b false, V.i 0, V.i 6])] mix (by
       refine W.run Dk 5 102 (by kernel_rfl) ?_
       refine W.call0 (AC.gs (m_impl_NameOk_ok N a0.Text hx65) (by decide)) cok143 rfl (by kernel_rfl) ?_
       refine W.run Dk 2 102 (by kernel_rfl) ?_
       exact W.fi (by kernel_rfl)
       ) ?_
      refine CO.ret ?_
      have h58 := Option.some.inj h58
      subst h58
      exact Ends.gen [] (.inr rfl) (RetV.one rfl (OneR.cell Dk (r := .agg [V.b (a0.Op == 0), V.b r32, V.b false, V.i 0, V.i 6]) (i := 101) (ety := 119) (cs := [V.b (a0.Op == 0), V.b r32, V.b false, V.i 0, V.i 6]) (by kernel_rfl) (by kernel_rfl) (by kernel_rfl))) (by kernel_rfl) (by kernel_rfl) (by kernel_rfl)
     refine CO.ifF hc63 (by kernel_rfl) ?_
     refine cu Dk mix 2 102 (tl 123 [(1, .loc 100 0), (2, .loc 101 0), (4, V.i a0.Kind), (59, V.b (a0.Kind == 8))]) [(100, .cells 53 [V.i a0.Kind, V.i a0.Op, V.s a0.Text, V.s a0.Other, .sl false false (a0.Kids.map encI)]), (101, .cells 119 [V.b false, V.b false, V.b false, V.i 0, V.i 0])] (by kernel_rfl) ?_
     rcases cond_some h58 with ⟨hc66, h58⟩ | ⟨hc66, h58⟩
     ·refine CO.ifT hc66 (by kernel_rfl) ?_
      obtain ⟨r34, hx68, h58⟩ := bind_some h58
      refine CO.cutR (tl 123 [(2, .loc 101 0)]) [(101, .cells 119 [V.b (a0.Op == 0), V.b r34, V.b false, V.i 0, V.i 6])] mix (by
       refine W.run Dk 5 102 (by kernel_rfl) ?_
       refine W.call0 (AC.gs (m_impl_IsBuiltin_ok N a0.Text hx68) (by decide)) cok145 rfl (by kernel_rfl) ?_
       refine W.run Dk 2 102 (by kernel_rfl) ?_
       exact W.fi (by kernel_rfl)
       ) ?_
      refine CO.ret ?_
      have h58 := Option.some.inj h58
      subst h58
      exact Ends.gen [] (.inr rfl) (RetV.one rfl (OneR.cell Dk (r := .agg [V.b (a0.Op == 0), V.b r34, V.b false, V.i 0, V.i 6]) (i := 101) (ety := 119) (cs := [V.b (a0.Op == 0), V.b r34, V.b false, V.i 0, V.i 6]) (by kernel_rfl) (by kernel_rfl) (by kernel_rfl))) (by kernel_rfl) (by kernel_rfl) (by kernel_rfl)
     refine CO.ifF hc66 (by kernel_rfl) ?_
     refine CO.join (fun (⟨a0, y35⟩ : (SNode × Bool)) => ⟨tl 123 [(1, .loc 100 0), (2, .loc 101 0), (4, V.i a0.Kind), (68, V.b y35)], [(100, .cells 53 [V.i a0.Kind, V.i a0.Op, V.s a0.Text, V.s a0.Other, .sl false false (a0.Kids.map encI)]), (101, .cells 119 [V.b false, V.b false, V.b false, V.i 0, V.i 0])]⟩) (fun i => m_impl_exprForm_k3 N i = some r) ?_ ?_
     · rintro ⟨a0, y35⟩ h70
       rw [m_impl_exprForm_k3] at h70
       rcases cond_some h70 with ⟨hc71, h70⟩ | ⟨hc71, h70⟩
       ·refine CO.ifT hc71 (by kernel_rfl) ?_
        obtain ⟨r37, hx73, h70⟩ := bind_some h70
        refine CO.cutR (tl 123 [(2, .loc 101 0)]) [(101, .cells 119 [V.b r37, V.b (a0.Text == []), V.b false, V.i 1, V.i 1])] mix (by
         refine W.run Dk 2 102 (by kernel_rfl) ?_
         refine W.call0 (AC.gs (m_impl_isStep_ok a0.Op hx73) (by decide)) cok146 rfl (by kernel_rfl) ?_
         refine W.run Dk 5 102 (by kernel_rfl) ?_
         exact W.fi (by kernel_rfl)
         ) ?_
        refine CO.ret ?_
        have h70 := Option.some.inj h70
        subst h70
        exact Ends.gen [] (.inr rfl) (RetV.one rfl (OneR.cell Dk (r := .agg [V.b r37, V.b (a0.Text == []), V.b false, V.i 1, V.i 1]) (i := 101) (ety := 119) (cs := [V.b r37, V.b (a0.Text == []), V.b false, V.i 1, V.i 1]) (by kernel_rfl) (by kernel_rfl) (by kernel_rfl))) (by kernel_rfl) (by kernel_rfl) (by kernel_rfl)
       refine CO.ifF hc71 (by kernel_rfl) ?_
       refine cu Dk mix 2 102 (tl 123 [(1, .loc 100 0), (2, .loc 101 0), (4, V.i a0.Kind), (78, V.b (a0.Kind == 11))]) [(100, .cells 53 [V.i a0.Kind, V.i a0.Op, V.s a0.Text, V.s a0.Other, .sl false false (a0.Kids.map encI)]), (101, .cells 119 [V.b false, V.b false, V.b false, V.i 0, V.i 0])] (by kernel_rfl) ?_
       rcases cond_some h70 with ⟨hc74, h70⟩ | ⟨hc74, h70⟩
       ·refine CO.ifT hc74 (by kernel_rfl) ?_
        obtain ⟨y38, hv77, h70⟩ := bind_some h70
        refine CO.cutR (tl 123 [(2, .loc 100 0)]) [(100, .cells 119 [V.b y38, V.b (a0.Text == []), V.b false, V.i 1, V.i 1])] mix (by
         refine W.run Dk 4 102 (by kernel_rfl) ?_
         rcases cond_some hv77 with ⟨hc78, hv77⟩ | ⟨hc78, hv77⟩
         ·refine W.is 83 hc78 (by kernel_rfl) ?_
          refine W.run Dk 14 102 (by kernel_rfl) ?_
          have hv77 := Option.some.inj hv77
          subst hv77
          exact W.fs [(101, 100)] [2] (by kernel_rfl)
         refine W.is 83 hc78 (by kernel_rfl) ?_
         refine W.run Dk 5 102 (by kernel_rfl) ?_
         rcases cond_some hv77 with ⟨hc79, hv77⟩ | ⟨hc79, hv77⟩
         ·refine W.is 88 hc79 (by kernel_rfl) ?_
          refine W.run Dk 9 102 (by kernel_rfl) ?_
          have hv77 := Option.some.inj hv77
          subst hv77
          exact W.fs [(101, 100)] [2] (by kernel_rfl)
         refine W.is 88 hc79 (by kernel_rfl) ?_
         refine W.run Dk 9 102 (by kernel_rfl) ?_
         have hv77 := Option.some.inj hv77
         subst hv77
         exact W.fs [(101, 100)] [2] (by kernel_rfl)
         ) ?_
        refine CO.ret ?_
        have h70 := Option.some.inj h70
        subst h70
        exact Ends.gen [] (.inr rfl) (RetV.one rfl (OneR.cell Dk (r := .agg [V.b y38, V.b (a0.Text == []), V.b false, V.i 1, V.i 1]) (i := 100) (ety := 119) (cs := [V.b y38, V.b (a0.Text == []), V.b false, V.i 1, V.i 1]) (by kernel_rfl) (by kernel_rfl) (by kernel_rfl))) (by kernel_rfl) (by kernel_rfl) (by kernel_rfl)
       refine CO.ifF hc74 (by kernel_rfl) ?_
       refine cu Dk mix 2 102 (tl 123 [(1, .loc 100 0), (2, .loc 101 0), (4, V.i a0.Kind), (97, V.b (a0.Kind == 12))]) [(100, .cells 53 [V.i a0.Kind, V.i a0.Op, V.s a0.Text, V.s a0.Other, .sl false false (a0.Kids.map encI)]), (101, .cells 119 [V.b false, V.b false, V.b false, V.i 0, V.i 0])] (by kernel_rfl) ?_
       rcases cond_some h70 with ⟨hc80, h70⟩ | ⟨hc80, h70⟩
       ·refine CO.ifT hc80 (by kernel_rfl) ?_
        obtain ⟨r40, hx82, h70⟩ := bind_some h70
        refine CO.cutR (tl 123 [(2, .loc 101 0)]) [(101, .cells 119 [V.b (r40 != 0), V.b (a0.Text == []), V.b false, V.i 2, V.i 2])] mix (by
         refine W.run Dk 2 102 (by kernel_rfl) ?_
         refine W.call0 (AC.gs (m_impl_OpLevel_ok a0.Op hx82) (by decide)) cok147 rfl (by kernel_rfl) ?_
         refine W.run Dk 6 102 (by kernel_rfl) ?_
         exact W.fi (by kernel_rfl)
         ) ?_
        refine CO.ret ?_
        have h70 := Option.some.inj h70
        subst h70
        exact Ends.gen [] (.inr rfl) (RetV.one rfl (OneR.cell Dk (r := .agg [V.b (r40 != 0), V.b (a0.Text == []), V.b false, V.i 2, V.i 2]) (i := 101) (ety := 119) (cs := [V.b (r40 != 0), V.b (a0.Text == []), V.b false, V.i 2, V.i 2]) (by kernel_rfl) (by kernel_rfl) (by kernel_rfl))) (by kernel_rfl) (by kernel_rfl) (by kernel_rfl)
       refine CO.ifF hc80 (by kernel_rfl) ?_
       refine cu Dk mix 2 102 (tl 123 [(1, .loc 100 0), (2, .loc 101 0), (107, V.b (a0.Kind == 14))]) [(100, .cells 53 [V.i a0.Kind, V.i a0.Op, V.s a0.Text, V.s a0.Other, .sl false false (a0.Kids.map encI)]), (101, .cells 119 [V.b false, V.b false, V.b false, V.i 0, V.i 0])] (by kernel_rfl) ?_
       rcases cond_some h70 with ⟨hc83, h70⟩ | ⟨hc83, h70⟩
       ·refine CO.ifT hc83 (by kernel_rfl) ?_
        refine cu Dk mix 8 102 (tl 123 [(2, .loc 101 0)]) [(101, .cells 119 [V.b (a0.Op == 0), V.b (a0.Text == []), V.b false, V.i 3, V.i 3])] (by kernel_rfl) ?_
        refine CO.ret ?_
        have h70 := Option.some.inj h70
        subst h70
        exact Ends.gen [] (.inr rfl) (RetV.one rfl (OneR.cell Dk (r := .agg [V.b (a0.Op == 0), V.b (a0.Text == []), V.b false, V.i 3, V.i 3]) (i := 101) (ety := 119) (cs := [V.b (a0.Op == 0), V.b (a0.Text == []), V.b false, V.i 3, V.i 3]) (by kernel_rfl) (by kernel_rfl) (by kernel_rfl))) (by kernel_rfl) (by kernel_rfl) (by kernel_rfl)
       refine CO.ifF hc83 (by kernel_rfl) ?_
       refine CO.skip ?_
       obtain ⟨r42, hx85, h70⟩ := bind_some h70
       refine CO.cutR (tl 123 [(2, .loc 101 0)]) [(101, .cells 119 [V.b r42, V.b (a0.Text == []), V.b false, V.i 2, V.i 2])] mix (by
        refine W.run Dk 2 102 (by kernel_rfl) ?_
        refine W.call0 (AC.gs (m_impl_isAssign_ok a0.Op hx85) (by decide)) cok148 rfl (by kernel_rfl) ?_
        refine W.run Dk 5 102 (by kernel_rfl) ?_
        exact W.fi (by kernel_rfl)
        ) ?_
       refine CO.ret ?_
       have h70 := Option.some.inj h70
       subst h70
       exact Ends.gen [] (.inr rfl) (RetV.one rfl (OneR.cell Dk (r := .agg [V.b r42, V.b (a0.Text == []), V.b false, V.i 2, V.i 2]) (i := 101) (ety := 119) (cs := [V.b r42, V.b (a0.Text == []), V.b false, V.i 2, V.i 2]) (by kernel_rfl) (by kernel_rfl) (by kernel_rfl))) (by kernel_rfl) (by kernel_rfl) (by kernel_rfl)
     intro hk86
     refine cu Dk mix 2 102 (tl 123 [(1, .loc 100 0), (2, .loc 101 0), (4, V.i a0.Kind), (68, V.b (a0.Kind == 9))]) [(100, .cells 53 [V.i a0.Kind, V.i a0.Op, V.s a0.Text, V.s a0.Other, .sl false false (a0.Kids.map encI)]), (101, .cells 119 [V.b false, V.b false, V.b false, V.i 0, V.i 0])] (by kernel_rfl) ?_
     rcases cond_some h58 with ⟨hc87, h58⟩ | ⟨hc87, h58⟩
     ·refine CO.ifT hc87 (by kernel_rfl) ?_
      refine CO.skip ?_
      exact hk86 (a0, (a0.Kind == 9)) h58 _ (Weak.sel [(100, 100), (101, 101)] [1, 2, 4, 68] (by kernel_rfl) (by kernel_rfl) (by kernel_rfl))
     refine CO.ifF hc87 (by kernel_rfl) ?_
     refine ce Dk mix 2 102 (tl 123 [(1, .loc 100 0), (2, .loc 101 0), (4, V.i a0.Kind), (68, V.b (a0.Kind == 10))]) [(100, .cells 53 [V.i a0.Kind, V.i a0.Op, V.s a0.Text, V.s a0.Other, .sl false false (a0.Kids.map encI)]), (101, .cells 119 [V.b false, V.b false, V.b false, V.i 0, V.i 0])] (by kernel_rfl) (fun st hw => ?_)
     exact hk86 (a0, (a0.Kind == 10)) h58 _ (hw.trans (Weak.sel [(100, 100), (101, 101)] [1, 2, 4, 68] (by kernel_rfl) (by kernel_rfl) (by kernel_rfl)))
   intro hk88
   refine cu Dk mix 2 102 (tl 123 [(1, .loc 100 0), (2, .loc 101 0), (4, V.i a0.Kind), (31, V.b (a0.Kind == 5))]) [(100, .cells 53 [V.i a0.Kind, V.i a0.Op, V.s a0.Text, V.s a0.Other, .sl false false (a0.Kids.map encI)]), (101, .cells 119 [V.b false, V.b false, V.b false, V.i 0, V.i 0])] (by kernel_rfl) ?_
   rcases cond_some h51 with ⟨hc89, h51⟩ | ⟨hc89, h51⟩
   ·refine CO.ifT hc89 (by kernel_rfl) ?_
    refine CO.skip ?_
    exact hk88 (a0, (a0.Kind == 5)) h51 _ (Weak.sel [(100, 100), (101, 101)] [1, 2, 4, 31] (by kernel_rfl) (by kernel_rfl) (by kernel_rfl))
   refine CO.ifF hc89 (by kernel_rfl) ?_
   refine ce Dk mix 2 102 (tl 123 [(1, .loc 100 0), (2, .loc 101 0), (4, V.i a0.Kind), (31, V.b (a0.Kind == 13))]) [(100, .cells 53 [V.i a0.Kind, V.i a0.Op, V.s a0.Text, V.s a0.Other, .sl false false (a0.Kids.map encI)]), (101, .cells 119 [V.b false, V.b false, V.b false, V.i 0, V.i 0])] (by kernel_rfl) (fun st hw => ?_)
   exact hk88 (a0, (a0.Kind == 13)) h51 _ (hw.trans (Weak.sel [(100, 100), (101, 101)] [1, 2, 4, 31] (by kernel_rfl) (by kernel_rfl) (by kernel_rfl)))
 intro hk90
 refine cu Dk mix 2 102 (tl 123 [(1, .loc 100 0), (2, .loc 101 0), (4, V.i a0.Kind), (14, V.b (a0.Kind == 2))]) [(101, .cells 119 [V.b false, V.b false, V.b false, V.i 0, V.i 0]), (100, .cells 53 [V.i a0.Kind, V.i a0.Op, V.s a0.Text, V.s a0.Other, .sl false false (a0.Kids.map encI)])] (by kernel_rfl) ?_
 rcases cond_some h with ⟨hc91, h⟩ | ⟨hc91, h⟩
 ·refine CO.ifT hc91 (by kernel_rfl) ?_
  refine CO.skip ?_
  exact hk90 (a0, (a0.Kind == 2)) h _ (Weak.sel [(100, 100), (101, 101)] [1, 2, 4, 14] (by kernel_rfl) (by kernel_rfl) (by kernel_rfl))
 refine CO.ifF hc91 (by kernel_rfl) ?_
 refine cu Dk mix 2 102 (tl 123 [(1, .loc 100 0), (2, .loc 101 0), (4, V.i a0.Kind), (14, V.b (a0.Kind == 3))]) [(101, .cells 119 [V.b false, V.b false, V.b false, V.i 0, V.i 0]), (100, .cells 53 [V.i a0.Kind, V.i a0.Op, V.s a0.Text, V.s a0.Other, .sl false false (a0.Kids.map encI)])] (by kernel_rfl) ?_
 rcases cond_some h with ⟨hc92, h⟩ | ⟨hc92, h⟩
 ·refine CO.ifT hc92 (by kernel_rfl) ?_
  refine CO.skip ?_
  exact hk90 (a0, (a0.Kind == 3)) h _ (Weak.sel [(100, 100), (101, 101)] [1, 2, 4, 14] (by kernel_rfl) (by kernel_rfl) (by kernel_rfl))
 refine CO.ifF hc92 (by kernel_rfl) ?_
 refine ce Dk mix 2 102 (tl 123 [(1, .loc 100 0), (2, .loc 101 0), (4, V.i a0.Kind), (14, V.b (a0.Kind == 4))]) [(101, .cells 119 [V.b false, V.b false, V.b false, V.i 0, V.i 0]), (100, .cells 53 [V.i a0.Kind, V.i a0.Op, V.s a0.Text, V.s a0.Other, .sl false false (a0.Kids.map encI)])] (by kernel_rfl) (fun st hw => ?_)
 exact hk90 (a0, (a0.Kind == 4)) h _ (hw.trans (Weak.sel [(100, 100), (101, 101)] [1, 2, 4, 14] (by kernel_rfl) (by kernel_rfl) (by kernel_rfl)))

theorem m_impl_IsStmt_ok (a0 : Int) {r : Bool} (h : m_impl_IsStmt a0 = some r) :
    AC Tryz.prog (GS []) 128 [V.i a0] [] (V.b r) [] := by
 rw [m_impl_IsStmt] at h
 refine AC.enter Tryz.func128 rfl ?_
 refine cu Dk mix 1 100 (tl 5 [(0, V.i a0)]) [] (by kernel_rfl) ?_
 obtain ⟨r2, hx2, h⟩ := bind_some h
 refine CO.cutR (tl 5 [(2, V.b r2)]) [] mix (by
  refine W.run Dk 1 100 (by kernel_rfl) ?_
  refine W.call0 (m_impl_within_ok a0 20 34 hx2) cok80 rfl (by kernel_rfl) ?_
  refine W.run Dk 1 100 (by kernel_rfl) ?_
  exact W.fi (by kernel_rfl)
  ) ?_
 refine CO.ret ?_
 have h := Option.some.inj h
 subst h
 exact Ends.gen [] (.inr rfl) (RetV.one rfl (OneR.tmp (t := 2) (r := V.b r2) (by kernel_rfl))) (by kernel_rfl) (by kernel_rfl) (by kernel_rfl)

theorem m_impl_stmtForm_ok (N : Nat) (a0 : SNode) {r : SForm} (h : m_impl_stmtForm N a0 = some r) :
    AC Tryz.prog (GS [0, 1, 2]) 129 [.agg [V.i a0.Kind, V.i a0.Op, V.s a0.Text, V.s a0.Other, .sl false false (a0.Kids.map encI)]] [] (.agg [V.b r.op, V.b r.text, V.b r.other, V.i r.least, V.i r.most]) [] := by
 rw [m_impl_stmtForm] at h
 refine AC.enter Tryz.func129 rfl ?_
 refine cu Dk mix 2 100 (tl 98 [(1, .loc 100 0), (2, .loc 101 0)]) [(101, .cells 119 [V.b false, V.b false, V.b false, V.i 0, V.i 0]), (100, .cells 53 [V.i a0.Kind, V.i a0.Op, V.s a0.Text, V.s a0.Other, .sl false false (a0.Kids.map encI)])] (by kernel_rfl) ?_
 refine cu Dk mix 12 102 (tl 98 [(1, .loc 100 0), (2, .loc 101 0), (3, .loc 102 0)]) [(102, .cells 119 [V.b (a0.Op == 0), V.b (a0.Text == []), V.b (a0.Other == []), V.i 0, V.i 0]), (101, .cells 119 [V.b false, V.b false, V.b false, V.i 0, V.i 0]), (100, .cells 53 [V.i a0.Kind, V.i a0.Op, V.s a0.Text, V.s a0.Other, .sl false false (a0.Kids.map encI)])] (by kernel_rfl) ?_
 refine CO.join (fun (⟨y14, y15, y16, y17, y18⟩ : (Bool × Bool × Bool × Int × Int)) => ⟨tl 98 [(2, .loc 100 0), (3, .loc 101 0)], [(100, .cells 119 [V.b false, V.b false, V.b false, V.i 0, V.i 0]), (101, .cells 119 [V.b y14, V.b y15, V.b y16, V.i y17, V.i y18])]⟩) (fun i => m_impl_stmtForm_k1 N i = some r) ?_ ?_
 · rintro ⟨y14, y15, y16, y17, y18⟩ h33
   rw [m_impl_stmtForm_k1] at h33
   refine cu Dk mix 2 104 (tl 98 [(2, .loc 100 0)]) [(100, .cells 119 [V.b y14, V.b y15, V.b y16, V.i y17, V.i y18])] (by kernel_rfl) ?_
   refine CO.ret ?_
   have h33 := Option.some.inj h33
   subst h33
   exact Ends.gen [] (.inr rfl) (RetV.one rfl (OneR.cell Dk (r := .agg [V.b y14, V.b y15, V.b y16, V.i y17, V.i y18]) (i := 100) (ety := 119) (cs := [V.b y14, V.b y15, V.b y16, V.i y17, V.i y18]) (by kernel_rfl) (by kernel_rfl) (by kernel_rfl))) (by kernel_rfl) (by kernel_rfl) (by kernel_rfl)
 intro hk34
 refine cu Dk mix 2 103 (tl 98 [(1, .loc 100 0), (2, .loc 101 0), (3, .loc 102 0), (15, V.i a0.Kind)]) [(102, .cells 119 [V.b (a0.Op == 0), V.b (a0.Text == []), V.b (a0.Other == []), V.i 0, V.i 0]), (101, .cells 119 [V.b false, V.b false, V.b false, V.i 0, V.i 0]), (100, .cells 53 [V.i a0.Kind, V.i a0.Op, V.s a0.Text, V.s a0.Other, .sl false false (a0.Kids.map encI)])] (by kernel_rfl) ?_
 refine CO.block' ?_
 refine cu Dk mix 2 103 (tl 98 [(1, .loc 100 0), (2, .loc 101 0), (3, .loc 102 0), (15, V.i a0.Kind), (16, V.b (a0.Kind == 20))]) [(102, .cells 119 [V.b (a0.Op == 0), V.b (a0.Text == []), V.b (a0.Other == []), V.i 0, V.i 0]), (101, .cells 119 [V.b false, V.b false, V.b false, V.i 0, V.i 0]), (100, .cells 53 [V.i a0.Kind, V.i a0.Op, V.s a0.Text, V.s a0.Other, .sl false false (a0.Kids.map encI)])] (by kernel_rfl) ?_
 rcases cond_some h with ⟨hc35, h⟩ | ⟨hc35, h⟩
 ·refine CO.ifT hc35 (by kernel_rfl) ?_
  refine ce Dk mix 4 103 (tl 98 [(2, .loc 101 0), (3, .loc 102 0)]) [(102, .cells 119 [V.b (a0.Op == 0), V.b (a0.Text == []), V.b (a0.Other == []), V.i 1, V.i 1]), (101, .cells 119 [V.b false, V.b false, V.b false, V.i 0, V.i 0])] (by kernel_rfl) (fun st hw => ?_)
  exact hk34 ((a0.Op == 0), (a0.Text == []), (a0.Other == []), 1, 1) h _ (hw.trans (Weak.sel [(101, 100), (102, 101)] [2, 3] (by kernel_rfl) (by kernel_rfl) (by kernel_rfl)))
 refine CO.ifF hc35 (by kernel_rfl) ?_
 refine cu Dk mix 2 103 (tl 98 [(1, .loc 100 0), (2, .loc 101 0), (3, .loc 102 0), (15, V.i a0.Kind), (20, V.b (a0.Kind == 21))]) [(102, .cells 119 [V.b (a0.Op == 0), V.b (a0.Text == []), V.b (a0.Other == []), V.i 0, V.i 0]), (101, .cells 119 [V.b false, V.b false, V.b false, V.i 0, V.i 0]), (100, .cells 53 [V.i a0.Kind, V.i a0.Op, V.s a0.Text, V.s a0.Other, .sl false false (a0.Kids.map encI)])] (by kernel_rfl) ?_
 rcases cond_some h with ⟨hc36, h⟩ | ⟨hc36, h⟩
 ·refine CO.ifT hc36 (by kernel_rfl) ?_
  obtain ⟨y19, hv38, h⟩ := bind_some h
  refine CO.cutR (tl 98 [(1, .loc 100 0), (2, .loc 101 0), (3, .loc 102 0)]) [(100, .cells 53 [V.i a0.Kind, V.i a0.Op, V.s a0.Text, V.s a0.Other, .sl false false (a0.Kids.map encI)]), (101, .cells 119 [V.b false, V.b false, V.b false, V.i 0, V.i 0]), (102, .cells 119 [V.b y19, V.b (a0.Text == []), V.b (a0.Other == []), V.i 0, V.i 0])] mix (by
   refine W.run Dk 4 103 (by kernel_rfl) ?_
   rcases cond_some hv38 with ⟨hc39, hv38⟩ | ⟨hc39, hv38⟩
   ·refine W.is 25 hc39 (by kernel_rfl) ?_
    refine W.run Dk 6 103 (by kernel_rfl) ?_
    have hv38 := Option.some.inj hv38
    subst hv38
    exact W.fs [(100, 100), (101, 101), (102, 102)] [1, 2, 3] (by kernel_rfl)
   refine W.is 25 hc39 (by kernel_rfl) ?_
   refine W.run Dk 6 103 (by kernel_rfl) ?_
   have hv38 := Option.some.inj hv38
   subst hv38
   exact W.fs [(100, 100), (101, 101), (102, 102)] [1, 2, 3] (by kernel_rfl)
   ) ?_
  obtain ⟨r21, hx41, h⟩ := bind_some h
  refine CO.cutR (tl 98 [(1, .loc 100 0), (2, .loc 101 0), (3, .loc 102 0)]) [(102, .cells 119 [V.b y19, V.b (a0.Text == []), V.b r21, V.i 0, V.i 0]), (100, .cells 53 [V.i a0.Kind, V.i a0.Op, V.s a0.Text, V.s a0.Other, .sl false false (a0.Kids.map encI)]), (101, .cells 119 [V.b false, V.b false, V.b false, V.i 0, V.i 0])] mix (by
   refine W.run Dk 3 103 (by kernel_rfl) ?_
   refine W.lend (AC.gs (m_slices_Contains_string_ok N [[], [62], [62, 62], [124]] a0.Other hx41) (by decide)) cok149 [] [] (LayOk.cons (j := 103) encS encS ([[], [62], [62, 62], [124]] : List (List UInt8)) (by kernel_rfl) (fun _ => rfl) (show LayOk _ [] from trivial)) (.c _) .nil (by kernel_rfl) (by kernel_rfl) ?_
   refine W.run Dk 2 104 (by kernel_rfl) ?_
   exact W.fi (by kernel_rfl)
   ) ?_
  refine cu Dk mix 6 104 (tl 98 [(1, .loc 100 0), (2, .loc 101 0), (3, .loc 102 0)]) [(102, .cells 119 [V.b y19, V.b (a0.Text == []), V.b r21, V.i a0.Op, V.i 6]), (100, .cells 53 [V.i a0.Kind, V.i a0.Op, V.s a0.Text, V.s a0.Other, .sl false false (a0.Kids.map encI)]), (101, .cells 119 [V.b false, V.b false, V.b false, V.i 0, V.i 0])] (by kernel_rfl) ?_
  refine cu Dk mix 3 104 (tl 98 [(2, .loc 101 0), (3, .loc 102 0), (42, V.b (!(a0.Other == [])))]) [(102, .cells 119 [V.b y19, V.b (a0.Text == []), V.b r21, V.i a0.Op, V.i 6]), (101, .cells 119 [V.b false, V.b false, V.b false, V.i 0, V.i 0])] (by kernel_rfl) ?_
  rcases cond_some h with ⟨hc42, h⟩ | ⟨hc42, h⟩
  ·refine CO.ifT hc42 (by kernel_rfl) ?_
   refine ce Dk mix 10 104 (tl 98 [(2, .loc 101 0), (3, .loc 102 0)]) [(102, .cells 119 [V.b y19, V.b (a0.Text == []), V.b r21, V.i (IntKind.wrap .i64 (a0.Op + 1)), V.i 7]), (101, .cells 119 [V.b false, V.b false, V.b false, V.i 0, V.i 0])] (by kernel_rfl) (fun st hw => ?_)
   exact hk34 (y19, (a0.Text == []), r21, (IntKind.wrap .i64 (a0.Op + 1)), 7) h _ (hw.trans (Weak.sel [(101, 100), (102, 101)] [2, 3] (by kernel_rfl) (by kernel_rfl) (by kernel_rfl)))
  refine CO.ifF hc42 (by kernel_rfl) ?_
  refine CO.skip ?_
  exact hk34 (y19, (a0.Text == []), r21, a0.Op, 6) h _ (Weak.sel [(101, 100), (102, 101)] [2, 3] (by kernel_rfl) (by kernel_rfl) (by kernel_rfl))
 refine CO.ifF hc36 (by kernel_rfl) ?_
 refine CO.join (fun (⟨a0, y22⟩ : (SNode × Bool)) => ⟨tl 98 [(1, .loc 100 0), (2, .loc 101 0), (3, .loc 102 0), (15, V.i a0.Kind), (51, V.b y22)], [(100, .cells 53 [V.i a0.Kind, V.i a0.Op, V.s a0.Text, V.s a0.Other, .sl false false (a0.Kids.map encI)]), (101, .cells 119 [V.b false, V.b false, V.b false, V.i 0, V.i 0]), (102, .cells 119 [V.b (a0.Op == 0), V.b (a0.Text == []), V.b (a0.Other == []), V.i 0, V.i 0])]⟩) (fun i => m_impl_stmtForm_k2 N i = some r) ?_ ?_
 · rintro ⟨a0, y22⟩ h44
   rw [m_impl_stmtForm_k2] at h44
   rcases cond_some h44 with ⟨hc45, h44⟩ | ⟨hc45, h44⟩
   ·refine CO.ifT hc45 (by kernel_rfl) ?_
    refine ce Dk mix 2 103 (tl 98 [(2, .loc 101 0), (3, .loc 102 0)]) [(102, .cells 119 [V.b (a0.Op == 0), V.b (a0.Text == []), V.b (a0.Other == []), V.i 0, V.i 1]), (101, .cells 119 [V.b false, V.b false, V.b false, V.i 0, V.i 0])] (by kernel_rfl) (fun st hw => ?_)
    exact hk34 ((a0.Op == 0), (a0.Text == []), (a0.Other == []), 0, 1) h44 _ (hw.trans (Weak.sel [(101, 100), (102, 101)] [2, 3] (by kernel_rfl) (by kernel_rfl) (by kernel_rfl)))
   refine CO.ifF hc45 (by kernel_rfl) ?_
   refine cu Dk mix 2 103 (tl 98 [(1, .loc 100 0), (2, .loc 101 0), (3, .loc 102 0), (15, V.i a0.Kind), (55, V.b (a0.Kind == 27))]) [(100, .cells 53 [V.i a0.Kind, V.i a0.Op, V.s a0.Text, V.s a0.Other, .sl false false (a0.Kids.map encI)]), (101, .cells 119 [V.b false, V.b false, V.b false, V.i 0, V.i 0]), (102, .cells 119 [V.b (a0.Op == 0), V.b (a0.Text == []), V.b (a0.Other == []), V.i 0, V.i 0])] (by kernel_rfl) ?_
   rcases cond_some h44 with ⟨hc46, h44⟩ | ⟨hc46, h44⟩
   ·refine CO.ifT hc46 (by kernel_rfl) ?_
    obtain ⟨r24, hx48, h44⟩ := bind_some h44
    refine CO.endR (tl 98 [(2, .loc 101 0), (3, .loc 102 0)]) [(102, .cells 119 [V.b (a0.Op == 0), V.b r24, V.b (a0.Other == []), V.i 0, V.i 6]), (101, .cells 119 [V.b false, V.b false, V.b false, V.i 0, V.i 0])] mix (by
     refine W.run Dk 2 103 (by kernel_rfl) ?_
     refine W.call0 (AC.gs (m_impl_NameOk_ok N a0.Text hx48) (by decide)) cok143 rfl (by kernel_rfl) ?_
     refine W.run Dk 4 103 (by kernel_rfl) ?_
     exact W.fi (by kernel_rfl)
     ) (fun st hw => ?_)
    exact hk34 ((a0.Op == 0), r24, (a0.Other == []), 0, 6) h44 _ (hw.trans (Weak.sel [(101, 100), (102, 101)] [2, 3] (by kernel_rfl) (by kernel_rfl) (by kernel_rfl)))
   refine CO.ifF hc46 (by kernel_rfl) ?_
   refine cu Dk mix 2 103 (tl 98 [(1, .loc 100 0), (2, .loc 101 0), (3, .loc 102 0), (15, V.i a0.Kind), (62, V.b (a0.Kind == 28))]) [(100, .cells 53 [V.i a0.Kind, V.i a0.Op, V.s a0.Text, V.s a0.Other, .sl false false (a0.Kids.map encI)]), (101, .cells 119 [V.b false, V.b false, V.b false, V.i 0, V.i 0]), (102, .cells 119 [V.b (a0.Op == 0), V.b (a0.Text == []), V.b (a0.Other == []), V.i 0, V.i 0])] (by kernel_rfl) ?_
   rcases cond_some h44 with ⟨hc49, h44⟩ | ⟨hc49, h44⟩
   ·refine CO.ifT hc49 (by kernel_rfl) ?_
    refine ce Dk mix 4 103 (tl 98 [(2, .loc 101 0), (3, .loc 102 0)]) [(102, .cells 119 [V.b (a0.Op == 0), V.b (a0.Text == []), V.b (a0.Other == []), V.i 2, V.i 3]), (101, .cells 119 [V.b false, V.b false, V.b false, V.i 0, V.i 0])] (by kernel_rfl) (fun st hw => ?_)
    exact hk34 ((a0.Op == 0), (a0.Text == []), (a0.Other == []), 2, 3) h44 _ (hw.trans (Weak.sel [(101, 100), (102, 101)] [2, 3] (by kernel_rfl) (by kernel_rfl) (by kernel_rfl)))
   refine CO.ifF hc49 (by kernel_rfl) ?_
   refine CO.join (fun (⟨a0, y25⟩ : (SNode × Bool)) => ⟨tl 98 [(1, .loc 100 0), (2, .loc 101 0), (3, .loc 102 0), (15, V.i a0.Kind), (66, V.b y25)], [(100, .cells 53 [V.i a0.Kind, V.i a0.Op, V.s a0.Text, V.s a0.Other, .sl false false (a0.Kids.map encI)]), (101, .cells 119 [V.b false, V.b false, V.b false, V.i 0, V.i 0]), (102, .cells 119 [V.b (a0.Op == 0), V.b (a0.Text == []), V.b (a0.Other == []), V.i 0, V.i 0])]⟩) (fun i => m_impl_stmtForm_k3 N i = some r) ?_ ?_
   · rintro ⟨a0, y25⟩ h51
     rw [m_impl_stmtForm_k3] at h51
     rcases cond_some h51 with ⟨hc52, h51⟩ | ⟨hc52, h51⟩
     ·refine CO.ifT hc52 (by kernel_rfl) ?_
      refine ce Dk mix 4 103 (tl 98 [(2, .loc 101 0), (3, .loc 102 0)]) [(102, .cells 119 [V.b (a0.Op == 0), V.b (a0.Text == []), V.b (a0.Other == []), V.i 2, V.i 2]), (101, .cells 119 [V.b false, V.b false, V.b false, V.i 0, V.i 0])] (by kernel_rfl) (fun st hw => ?_)
      exact hk34 ((a0.Op == 0), (a0.Text == []), (a0.Other == []), 2, 2) h51 _ (hw.trans (Weak.sel [(101, 100), (102, 101)] [2, 3] (by kernel_rfl) (by kernel_rfl) (by kernel_rfl)))
     refine CO.ifF hc52 (by kernel_rfl) ?_
     refine cu Dk mix 2 103 (tl 98 [(1, .loc 100 0), (2, .loc 101 0), (3, .loc 102 0), (15, V.i a0.Kind), (71, V.b (a0.Kind == 31))]) [(100, .cells 53 [V.i a0.Kind, V.i a0.Op, V.s a0.Text, V.s a0.Other, .sl false false (a0.Kids.map encI)]), (101, .cells 119 [V.b false, V.b false, V.b false, V.i 0, V.i 0]), (102, .cells 119 [V.b (a0.Op == 0), V.b (a0.Text == []), V.b (a0.Other == []), V.i 0, V.i 0])] (by kernel_rfl) ?_
     rcases cond_some h51 with ⟨hc53, h51⟩ | ⟨hc53, h51⟩
     ·refine CO.ifT hc53 (by kernel_rfl) ?_
      refine ce Dk mix 4 103 (tl 98 [(2, .loc 101 0), (3, .loc 102 0)]) [(102, .cells 119 [V.b (a0.Op == 0), V.b (a0.Text == []), V.b (a0.Other == []), V.i 4, V.i 4]), (101, .cells 119 [V.b false, V.b false, V.b false, V.i 0, V.i 0])] (by kernel_rfl) (fun st hw => ?_)
      exact hk34 ((a0.Op == 0), (a0.Text == []), (a0.Other == []), 4, 4) h51 _ (hw.trans (Weak.sel [(101, 100), (102, 101)] [2, 3] (by kernel_rfl) (by kernel_rfl) (by kernel_rfl)))
     refine CO.ifF hc53 (by kernel_rfl) ?_
     refine cu Dk mix 2 103 (tl 98 [(1, .loc 100 0), (2, .loc 101 0), (3, .loc 102 0), (15, V.i a0.Kind), (75, V.b (a0.Kind == 32))]) [(100, .cells 53 [V.i a0.Kind, V.i a0.Op, V.s a0.Text, V.s a0.Other, .sl false false (a0.Kids.map encI)]), (101, .cells 119 [V.b false, V.b false, V.b false, V.i 0, V.i 0]), (102, .cells 119 [V.b (a0.Op == 0), V.b (a0.Text == []), V.b (a0.Other == []), V.i 0, V.i 0])] (by kernel_rfl) ?_
     rcases cond_some h51 with ⟨hc54, h51⟩ | ⟨hc54, h51⟩
     ·refine CO.ifT hc54 (by kernel_rfl) ?_
      obtain ⟨r28, hx57, h51⟩ := bind_some h51
      obtain ⟨r29, hx58, h51⟩ := bind_some h51
      refine CO.endR (tl 98 [(2, .loc 101 0), (3, .loc 102 0)]) [(102, .cells 119 [V.b (a0.Op == 0), V.b r28, V.b r29, V.i 1, V.i 1]), (101, .cells 119 [V.b false, V.b false, V.b false, V.i 0, V.i 0])] mix (by
       refine W.run Dk 2 103 (by kernel_rfl) ?_
       refine W.call0 (AC.gs (m_impl_NameOk_ok N a0.Text hx57) (by decide)) cok143 rfl (by kernel_rfl) ?_
       refine W.run Dk 2 103 (by kernel_rfl) ?_
       refine W.call0 (AC.gs (m_impl_NameOk_ok N a0.Other hx58) (by decide)) cok143 rfl (by kernel_rfl) ?_
       refine W.run Dk 8 103 (by kernel_rfl) ?_
       exact W.fi (by kernel_rfl)
       ) (fun st hw => ?_)
      exact hk34 ((a0.Op == 0), r28, r29, 1, 1) h51 _ (hw.trans (Weak.sel [(101, 100), (102, 101)] [2, 3] (by kernel_rfl) (by kernel_rfl) (by kernel_rfl)))
     refine CO.ifF hc54 (by kernel_rfl) ?_
     refine cu Dk mix 2 103 (tl 98 [(1, .loc 100 0), (2, .loc 101 0), (3, .loc 102 0), (15, V.i a0.Kind), (87, V.b (a0.Kind == 33))]) [(100, .cells 53 [V.i a0.Kind, V.i a0.Op, V.s a0.Text, V.s a0.Other, .sl false false (a0.Kids.map encI)]), (101, .cells 119 [V.b false, V.b false, V.b false, V.i 0, V.i 0]), (102, .cells 119 [V.b (a0.Op == 0), V.b (a0.Text == []), V.b (a0.Other == []), V.i 0, V.i 0])] (by kernel_rfl) ?_
     rcases cond_some h51 with ⟨hc59, h51⟩ | ⟨hc59, h51⟩
     ·refine CO.ifT hc59 (by kernel_rfl) ?_
      refine ce Dk mix 2 103 (tl 98 [(2, .loc 101 0), (3, .loc 102 0)]) [(102, .cells 119 [V.b (a0.Op == 0), V.b (a0.Text == []), V.b (a0.Other == []), V.i 0, V.i 400]), (101, .cells 119 [V.b false, V.b false, V.b false, V.i 0, V.i 0])] (by kernel_rfl) (fun st hw => ?_)
      exact hk34 ((a0.Op == 0), (a0.Text == []), (a0.Other == []), 0, 400) h51 _ (hw.trans (Weak.sel [(101, 100), (102, 101)] [2, 3] (by kernel_rfl) (by kernel_rfl) (by kernel_rfl)))
     refine CO.ifF hc59 (by kernel_rfl) ?_
     refine cu Dk mix 2 103 (tl 98 [(1, .loc 100 0), (2, .loc 101 0), (3, .loc 102 0), (90, V.b (a0.Kind == 34))]) [(100, .cells 53 [V.i a0.Kind, V.i a0.Op, V.s a0.Text, V.s a0.Other, .sl false false (a0.Kids.map encI)]), (101, .cells 119 [V.b false, V.b false, V.b false, V.i 0, V.i 0]), (102, .cells 119 [V.b (a0.Op == 0), V.b (a0.Text == []), V.b (a0.Other == []), V.i 0, V.i 0])] (by kernel_rfl) ?_
     rcases cond_some h51 with ⟨hc60, h51⟩ | ⟨hc60, h51⟩
     ·refine CO.ifT hc60 (by kernel_rfl) ?_
      obtain ⟨r31, hx62, h51⟩ := bind_some h51
      refine CO.endR (tl 98 [(2, .loc 101 0), (3, .loc 102 0)]) [(102, .cells 119 [V.b (a0.Op == 0), V.b r31, V.b (a0.Other == []), V.i 0, V.i 0]), (101, .cells 119 [V.b false, V.b false, V.b false, V.i 0, V.i 0])] mix (by
       refine W.run Dk 3 103 (by kernel_rfl) ?_
       refine W.call0 (m_impl_TokenOk_ok N (⟨2, a0.Text, 0⟩ : SToken) hx62) cok144 rfl (by kernel_rfl) ?_
       refine W.run Dk 2 103 (by kernel_rfl) ?_
       exact W.fi (by kernel_rfl)
       ) (fun st hw => ?_)
      exact hk34 ((a0.Op == 0), r31, (a0.Other == []), 0, 0) h51 _ (hw.trans (Weak.sel [(101, 100), (102, 101)] [2, 3] (by kernel_rfl) (by kernel_rfl) (by kernel_rfl)))
     refine CO.ifF hc60 (by kernel_rfl) ?_
     refine CO.skip ?_
     exact hk34 ((a0.Op == 0), (a0.Text == []), (a0.Other == []), 0, 0) h51 _ (Weak.sel [(101, 100), (102, 101)] [2, 3] (by kernel_rfl) (by kernel_rfl) (by kernel_rfl))
   intro hk63
   refine cu Dk mix 2 103 (tl 98 [(1, .loc 100 0), (2, .loc 101 0), (3, .loc 102 0), (15, V.i a0.Kind), (66, V.b (a0.Kind == 29))]) [(100, .cells 53 [V.i a0.Kind, V.i a0.Op, V.s a0.Text, V.s a0.Other, .sl false false (a0.Kids.map encI)]), (101, .cells 119 [V.b false, V.b false, V.b false, V.i 0, V.i 0]), (102, .cells 119 [V.b (a0.Op == 0), V.b (a0.Text == []), V.b (a0.Other == []), V.i 0, V.i 0])] (by kernel_rfl) ?_
   rcases cond_some h44 with ⟨hc64, h44⟩ | ⟨hc64, h44⟩
   ·refine CO.ifT hc64 (by kernel_rfl) ?_
    refine CO.skip ?_
    exact hk63 (a0, (a0.Kind == 29)) h44 _ (Weak.sel [(100, 100), (101, 101), (102, 102)] [1, 2, 3, 15, 66] (by kernel_rfl) (by kernel_rfl) (by kernel_rfl))
   refine CO.ifF hc64 (by kernel_rfl) ?_
   refine ce Dk mix 2 103 (tl 98 [(1, .loc 100 0), (2, .loc 101 0), (3, .loc 102 0), (15, V.i a0.Kind), (66, V.b (a0.Kind == 30))]) [(100, .cells 53 [V.i a0.Kind, V.i a0.Op, V.s a0.Text, V.s a0.Other, .sl false false (a0.Kids.map encI)]), (101, .cells 119 [V.b false, V.b false, V.b false, V.i 0, V.i 0]), (102, .cells 119 [V.b (a0.Op == 0), V.b (a0.Text == []), V.b (a0.Other == []), V.i 0, V.i 0])] (by kernel_rfl) (fun st hw => ?_)
   exact hk63 (a0, (a0.Kind == 30)) h44 _ (hw.trans (Weak.sel [(100, 100), (101, 101), (102, 102)] [1, 2, 3, 15, 66] (by kernel_rfl) (by kernel_rfl) (by kernel_rfl)))
 intro hk65
 refine cu Dk mix 2 103 (tl 98 [(1, .loc 100 0), (2, .loc 101 0), (3, .loc 102 0), (15, V.i a0.Kind), (51, V.b (a0.Kind == 23))]) [(102, .cells 119 [V.b (a0.Op == 0), V.b (a0.Text == []), V.b (a0.Other == []), V.i 0, V.i 0]), (101, .cells 119 [V.b false, V.b false, V.b false, V.i 0, V.i 0]), (100, .cells 53 [V.i a0.Kind, V.i a0.Op, V.s a0.Text, V.s a0.Other, .sl false false (a0.Kids.map encI)])] (by kernel_rfl) ?_
 rcases cond_some h with ⟨hc66, h⟩ | ⟨hc66, h⟩
 ·refine CO.ifT hc66 (by kernel_rfl) ?_
  refine CO.skip ?_
  exact hk65 (a0, (a0.Kind == 23)) h _ (Weak.sel [(100, 100), (101, 101), (102, 102)] [1, 2, 3, 15, 51] (by kernel_rfl) (by kernel_rfl) (by kernel_rfl))
 refine CO.ifF hc66 (by kernel_rfl) ?_
 refine ce Dk mix 2 103 (tl 98 [(1, .loc 100 0), (2, .loc 101 0), (3, .loc 102 0), (15, V.i a0.Kind), (51, V.b (a0.Kind == 24))]) [(102, .cells 119 [V.b (a0.Op == 0), V.b (a0.Text == []), V.b (a0.Other == []), V.i 0, V.i 0]), (101, .cells 119 [V.b false, V.b false, V.b false, V.i 0, V.i 0]), (100, .cells 53 [V.i a0.Kind, V.i a0.Op, V.s a0.Text, V.s a0.Other, .sl false false (a0.Kids.map encI)])] (by kernel_rfl) (fun st hw => ?_)
 exact hk65 (a0, (a0.Kind == 24)) h _ (hw.trans (Weak.sel [(100, 100), (101, 101), (102, 102)] [1, 2, 3, 15, 51] (by kernel_rfl) (by kernel_rfl) (by kernel_rfl)))

theorem m_impl_itemForm_ok (N : Nat) (a0 : SNode) {r : SForm} (h : m_impl_itemForm N a0 = some r) :
    AC Tryz.prog (GS [0, 1]) 130 [.agg [V.i a0.Kind, V.i a0.Op, V.s a0.Text, V.s a0.Other, .sl false false (a0.Kids.map encI)]] [] (.agg [V.b r.op, V.b r.text, V.b r.other, V.i r.least, V.i r.most]) [] := by
 rw [m_impl_itemForm] at h
 refine AC.enter Tryz.func130 rfl ?_
 refine cu Dk mix 2 100 (tl 64 [(1, .loc 100 0), (2, .loc 101 0)]) [(101, .cells 119 [V.b false, V.b false, V.b false, V.i 0, V.i 0]), (100, .cells 53 [V.i a0.Kind, V.i a0.Op, V.s a0.Text, V.s a0.Other, .sl false false (a0.Kids.map encI)])] (by kernel_rfl) ?_
 refine cu Dk mix 12 102 (tl 64 [(1, .loc 100 0), (2, .loc 101 0), (3, .loc 102 0)]) [(102, .cells 119 [V.b (a0.Op == 0), V.b (a0.Text == []), V.b (a0.Other == []), V.i 0, V.i 0]), (101, .cells 119 [V.b false, V.b false, V.b false, V.i 0, V.i 0]), (100, .cells 53 [V.i a0.Kind, V.i a0.Op, V.s a0.Text, V.s a0.Other, .sl false false (a0.Kids.map encI)])] (by kernel_rfl) ?_
 refine CO.join (fun (⟨a0, y9, y10, y11, y12⟩ : (SNode × Bool × Bool × Int × Int)) => ⟨tl 64 [(2, .loc 100 0), (3, .loc 101 0)], [(100, .cells 119 [V.b false, V.b false, V.b false, V.i 0, V.i 0]), (101, .cells 119 [V.b y9, V.b y10, V.b (a0.Other == []), V.i y11, V.i y12])]⟩) (fun i => m_impl_itemForm_k1 N i = some r) ?_ ?_
 · rintro ⟨a0, y9, y10, y11, y12⟩ h24
   rw [m_impl_itemForm_k1] at h24
   refine cu Dk mix 2 103 (tl 64 [(2, .loc 100 0)]) [(100, .cells 119 [V.b y9, V.b y10, V.b (a0.Other == []), V.i y11, V.i y12])] (by kernel_rfl) ?_
   refine CO.ret ?_
   have h24 := Option.some.inj h24
   subst h24
   exact Ends.gen [] (.inr rfl) (RetV.one rfl (OneR.cell Dk (r := .agg [V.b y9, V.b y10, V.b (a0.Other == []), V.i y11, V.i y12]) (i := 100) (ety := 119) (cs := [V.b y9, V.b y10, V.b (a0.Other == []), V.i y11, V.i y12]) (by kernel_rfl) (by kernel_rfl) (by kernel_rfl))) (by kernel_rfl) (by kernel_rfl) (by kernel_rfl)
 intro hk25
 refine cu Dk mix 2 103 (tl 64 [(1, .loc 100 0), (2, .loc 101 0), (3, .loc 102 0), (15, V.i a0.Kind)]) [(102, .cells 119 [V.b (a0.Op == 0), V.b (a0.Text == []), V.b (a0.Other == []), V.i 0, V.i 0]), (101, .cells 119 [V.b false, V.b false, V.b false, V.i 0, V.i 0]), (100, .cells 53 [V.i a0.Kind, V.i a0.Op, V.s a0.Text, V.s a0.Other, .sl false false (a0.Kids.map encI)])] (by kernel_rfl) ?_
 refine CO.block' ?_
 refine CO.join (fun (⟨a0, y13⟩ : (SNode × Bool)) => ⟨tl 64 [(1, .loc 100 0), (2, .loc 101 0), (3, .loc 102 0), (15, V.i a0.Kind), (17, V.b y13)], [(100, .cells 53 [V.i a0.Kind, V.i a0.Op, V.s a0.Text, V.s a0.Other, .sl false false (a0.Kids.map encI)]), (101, .cells 119 [V.b false, V.b false, V.b false, V.i 0, V.i 0]), (102, .cells 119 [V.b (a0.Op == 0), V.b (a0.Text == []), V.b (a0.Other == []), V.i 0, V.i 0])]⟩) (fun i => m_impl_itemForm_k2 N i = some r) ?_ ?_
 · rintro ⟨a0, y13⟩ h27
   rw [m_impl_itemForm_k2] at h27
   rcases cond_some h27 with ⟨hc28, h27⟩ | ⟨hc28, h27⟩
   ·refine CO.ifT hc28 (by kernel_rfl) ?_
    refine ce Dk mix 4 103 (tl 64 [(2, .loc 101 0), (3, .loc 102 0)]) [(102, .cells 119 [V.b (a0.Op == 0), V.b (a0.Text == []), V.b (a0.Other == []), V.i 1, V.i 1]), (101, .cells 119 [V.b false, V.b false, V.b false, V.i 0, V.i 0])] (by kernel_rfl) (fun st hw => ?_)
    exact hk25 (a0, (a0.Op == 0), (a0.Text == []), 1, 1) h27 _ (hw.trans (Weak.sel [(101, 100), (102, 101)] [2, 3] (by kernel_rfl) (by kernel_rfl) (by kernel_rfl)))
   refine CO.ifF hc28 (by kernel_rfl) ?_
   refine cu Dk mix 2 103 (tl 64 [(1, .loc 100 0), (2, .loc 101 0), (3, .loc 102 0), (15, V.i a0.Kind), (22, V.b (a0.Kind == 42))]) [(100, .cells 53 [V.i a0.Kind, V.i a0.Op, V.s a0.Text, V.s a0.Other, .sl false false (a0.Kids.map encI)]), (101, .cells 119 [V.b false, V.b false, V.b false, V.i 0, V.i 0]), (102, .cells 119 [V.b (a0.Op == 0), V.b (a0.Text == []), V.b (a0.Other == []), V.i 0, V.i 0])] (by kernel_rfl) ?_
   rcases cond_some h27 with ⟨hc29, h27⟩ | ⟨hc29, h27⟩
   ·refine CO.ifT hc29 (by kernel_rfl) ?_
    obtain ⟨r15, hx31, h27⟩ := bind_some h27
    refine CO.cutR (tl 64 [(1, .loc 100 0), (2, .loc 101 0), (3, .loc 102 0)]) [(102, .cells 119 [V.b r15, V.b (a0.Text == []), V.b (a0.Other == []), V.i 1, V.i 0]), (100, .cells 53 [V.i a0.Kind, V.i a0.Op, V.s a0.Text, V.s a0.Other, .sl false false (a0.Kids.map encI)]), (101, .cells 119 [V.b false, V.b false, V.b false, V.i 0, V.i 0])] mix (by
     refine W.run Dk 2 103 (by kernel_rfl) ?_
     refine W.call0 (AC.gs (m_impl_within_ok a0.Op 1 3 hx31) (by decide)) cok80 rfl (by kernel_rfl) ?_
     refine W.run Dk 4 103 (by kernel_rfl) ?_
     exact W.fi (by kernel_rfl)
     ) ?_
    refine CO.join (fun (⟨r15, a0, y16⟩ : (Bool × SNode × Int)) => ⟨tl 64 [(2, .loc 100 0), (3, .loc 101 0)], [(100, .cells 119 [V.b false, V.b false, V.b false, V.i 0, V.i 0]), (101, .cells 119 [V.b r15, V.b (a0.Text == []), V.b (a0.Other == []), V.i y16, V.i 0])]⟩) (fun i => m_impl_itemForm_k3 N i = some r) ?_ ?_
    · rintro ⟨r15, a0, y16⟩ h33
      rw [m_impl_itemForm_k3] at h33
      refine ce Dk mix 4 103 (tl 64 [(2, .loc 100 0), (3, .loc 101 0)]) [(101, .cells 119 [V.b r15, V.b (a0.Text == []), V.b (a0.Other == []), V.i y16, V.i y16]), (100, .cells 119 [V.b false, V.b false, V.b false, V.i 0, V.i 0])] (by kernel_rfl) (fun st hw => ?_)
      exact hk25 (a0, r15, (a0.Text == []), y16, y16) h33 _ (hw.trans (Weak.sel [(100, 100), (101, 101)] [2, 3] (by kernel_rfl) (by kernel_rfl) (by kernel_rfl)))
    intro hk34
    refine cu Dk mix 3 103 (tl 64 [(2, .loc 101 0), (3, .loc 102 0), (31, V.b (a0.Op == 3))]) [(102, .cells 119 [V.b r15, V.b (a0.Text == []), V.b (a0.Other == []), V.i 1, V.i 0]), (101, .cells 119 [V.b false, V.b false, V.b false, V.i 0, V.i 0])] (by kernel_rfl) ?_
    rcases cond_some h27 with ⟨hc35, h27⟩ | ⟨hc35, h27⟩
    ·refine CO.ifT hc35 (by kernel_rfl) ?_
     refine ce Dk mix 2 103 (tl 64 [(2, .loc 101 0), (3, .loc 102 0)]) [(102, .cells 119 [V.b r15, V.b (a0.Text == []), V.b (a0.Other == []), V.i 2, V.i 0]), (101, .cells 119 [V.b false, V.b false, V.b false, V.i 0, V.i 0])] (by kernel_rfl) (fun st hw => ?_)
     exact hk34 (r15, a0, 2) h27 _ (hw.trans (Weak.sel [(101, 100), (102, 101)] [2, 3] (by kernel_rfl) (by kernel_rfl) (by kernel_rfl)))
    refine CO.ifF hc35 (by kernel_rfl) ?_
    refine CO.skip ?_
    exact hk34 (r15, a0, 1) h27 _ (Weak.sel [(101, 100), (102, 101)] [2, 3] (by kernel_rfl) (by kernel_rfl) (by kernel_rfl))
   refine CO.ifF hc29 (by kernel_rfl) ?_
   refine cu Dk mix 2 103 (tl 64 [(1, .loc 100 0), (2, .loc 101 0), (3, .loc 102 0), (15, V.i a0.Kind), (36, V.b (a0.Kind == 43))]) [(100, .cells 53 [V.i a0.Kind, V.i a0.Op, V.s a0.Text, V.s a0.Other, .sl false false (a0.Kids.map encI)]), (101, .cells 119 [V.b false, V.b false, V.b false, V.i 0, V.i 0]), (102, .cells 119 [V.b (a0.Op == 0), V.b (a0.Text == []), V.b (a0.Other == []), V.i 0, V.i 0])] (by kernel_rfl) ?_
   rcases cond_some h27 with ⟨hc36, h27⟩ | ⟨hc36, h27⟩
   ·refine CO.ifT hc36 (by kernel_rfl) ?_
    obtain ⟨y17, hv38, h27⟩ := bind_some h27
    refine CO.cutR (tl 64 [(1, .loc 100 0), (2, .loc 101 0), (3, .loc 102 0)]) [(100, .cells 53 [V.i a0.Kind, V.i a0.Op, V.s a0.Text, V.s a0.Other, .sl false false (a0.Kids.map encI)]), (101, .cells 119 [V.b false, V.b false, V.b false, V.i 0, V.i 0]), (102, .cells 119 [V.b y17, V.b (a0.Text == []), V.b (a0.Other == []), V.i 2, V.i 0])] mix (by
     refine W.run Dk 4 103 (by kernel_rfl) ?_
     rcases cond_some hv38 with ⟨hc39, hv38⟩ | ⟨hc39, hv38⟩
     ·refine W.is 41 hc39 (by kernel_rfl) ?_
      refine W.run Dk 8 103 (by kernel_rfl) ?_
      have hv38 := Option.some.inj hv38
      subst hv38
      exact W.fs [(100, 100), (101, 101), (102, 102)] [1, 2, 3] (by kernel_rfl)
     refine W.is 41 hc39 (by kernel_rfl) ?_
     refine W.run Dk 8 103 (by kernel_rfl) ?_
     have hv38 := Option.some.inj hv38
     subst hv38
     exact W.fs [(100, 100), (101, 101), (102, 102)] [1, 2, 3] (by kernel_rfl)
     ) ?_
    refine CO.join (fun (⟨y17, a0, y18⟩ : (Bool × SNode × Int)) => ⟨tl 64 [(2, .loc 100 0), (3, .loc 101 0)], [(100, .cells 119 [V.b false, V.b false, V.b false, V.i 0, V.i 0]), (101, .cells 119 [V.b y17, V.b (a0.Text == []), V.b (a0.Other == []), V.i y18, V.i 0])]⟩) (fun i => m_impl_itemForm_k4 N i = some r) ?_ ?_
    · rintro ⟨y17, a0, y18⟩ h41
      rw [m_impl_itemForm_k4] at h41
      refine ce Dk mix 4 103 (tl 64 [(2, .loc 100 0), (3, .loc 101 0)]) [(101, .cells 119 [V.b y17, V.b (a0.Text == []), V.b (a0.Other == []), V.i y18, V.i y18]), (100, .cells 119 [V.b false, V.b false, V.b false, V.i 0, V.i 0])] (by kernel_rfl) (fun st hw => ?_)
      exact hk25 (a0, y17, (a0.Text == []), y18, y18) h41 _ (hw.trans (Weak.sel [(100, 100), (101, 101)] [2, 3] (by kernel_rfl) (by kernel_rfl) (by kernel_rfl)))
    intro hk42
    refine cu Dk mix 3 103 (tl 64 [(2, .loc 101 0), (3, .loc 102 0), (50, V.b (a0.Op == 3))]) [(101, .cells 119 [V.b false, V.b false, V.b false, V.i 0, V.i 0]), (102, .cells 119 [V.b y17, V.b (a0.Text == []), V.b (a0.Other == []), V.i 2, V.i 0])] (by kernel_rfl) ?_
    rcases cond_some h27 with ⟨hc43, h27⟩ | ⟨hc43, h27⟩
    ·refine CO.ifT hc43 (by kernel_rfl) ?_
     refine ce Dk mix 2 103 (tl 64 [(2, .loc 101 0), (3, .loc 102 0)]) [(102, .cells 119 [V.b y17, V.b (a0.Text == []), V.b (a0.Other == []), V.i 3, V.i 0]), (101, .cells 119 [V.b false, V.b false, V.b false, V.i 0, V.i 0])] (by kernel_rfl) (fun st hw => ?_)
     exact hk42 (y17, a0, 3) h27 _ (hw.trans (Weak.sel [(101, 100), (102, 101)] [2, 3] (by kernel_rfl) (by kernel_rfl) (by kernel_rfl)))
    refine CO.ifF hc43 (by kernel_rfl) ?_
    refine CO.skip ?_
    exact hk42 (y17, a0, 2) h27 _ (Weak.sel [(101, 100), (102, 101)] [2, 3] (by kernel_rfl) (by kernel_rfl) (by kernel_rfl))
   refine CO.ifF hc36 (by kernel_rfl) ?_
   refine cu Dk mix 2 103 (tl 64 [(1, .loc 100 0), (2, .loc 101 0), (3, .loc 102 0), (55, V.b (a0.Kind == 44))]) [(100, .cells 53 [V.i a0.Kind, V.i a0.Op, V.s a0.Text, V.s a0.Other, .sl false false (a0.Kids.map encI)]), (101, .cells 119 [V.b false, V.b false, V.b false, V.i 0, V.i 0]), (102, .cells 119 [V.b (a0.Op == 0), V.b (a0.Text == []), V.b (a0.Other == []), V.i 0, V.i 0])] (by kernel_rfl) ?_
   rcases cond_some h27 with ⟨hc44, h27⟩ | ⟨hc44, h27⟩
   ·refine CO.ifT hc44 (by kernel_rfl) ?_
    obtain ⟨r20, hx46, h27⟩ := bind_some h27
    refine CO.endR (tl 64 [(2, .loc 101 0), (3, .loc 102 0)]) [(102, .cells 119 [V.b (a0.Op == 0), V.b r20, V.b (a0.Other == []), V.i 1, V.i 7]), (101, .cells 119 [V.b false, V.b false, V.b false, V.i 0, V.i 0])] mix (by
     refine W.run Dk 2 103 (by kernel_rfl) ?_
     refine W.call0 (m_impl_NameOk_ok N a0.Text hx46) cok143 rfl (by kernel_rfl) ?_
     refine W.run Dk 6 103 (by kernel_rfl) ?_
     exact W.fi (by kernel_rfl)
     ) (fun st hw => ?_)
    exact hk25 (a0, (a0.Op == 0), r20, 1, 7) h27 _ (hw.trans (Weak.sel [(101, 100), (102, 101)] [2, 3] (by kernel_rfl) (by kernel_rfl) (by kernel_rfl)))
   refine CO.ifF hc44 (by kernel_rfl) ?_
   refine ce Dk mix 2 103 (tl 64 [(2, .loc 101 0), (3, .loc 102 0)]) [(102, .cells 119 [V.b (a0.Op == 0), V.b (a0.Text == []), V.b (a0.Other == []), V.i 0, V.i 400]), (101, .cells 119 [V.b false, V.b false, V.b false, V.i 0, V.i 0])] (by kernel_rfl) (fun st hw => ?_)
   exact hk25 (a0, (a0.Op == 0), (a0.Text == []), 0, 400) h27 _ (hw.trans (Weak.sel [(101, 100), (102, 101)] [2, 3] (by kernel_rfl) (by kernel_rfl) (by kernel_rfl)))
 intro hk47
 refine cu Dk mix 2 103 (tl 64 [(1, .loc 100 0), (2, .loc 101 0), (3, .loc 102 0), (15, V.i a0.Kind), (17, V.b (a0.Kind == 40))]) [(102, .cells 119 [V.b (a0.Op == 0), V.b (a0.Text == []), V.b (a0.Other == []), V.i 0, V.i 0]), (101, .cells 119 [V.b false, V.b false, V.b false, V.i 0, V.i 0]), (100, .cells 53 [V.i a0.Kind, V.i a0.Op, V.s a0.Text, V.s a0.Other, .sl false false (a0.Kids.map encI)])] (by kernel_rfl) ?_
 rcases cond_some h with ⟨hc48, h⟩ | ⟨hc48, h⟩
 ·refine CO.ifT hc48 (by kernel_rfl) ?_
  refine CO.skip ?_
  exact hk47 (a0, (a0.Kind == 40)) h _ (Weak.sel [(100, 100), (101, 101), (102, 102)] [1, 2, 3, 15, 17] (by kernel_rfl) (by kernel_rfl) (by kernel_rfl))
 refine CO.ifF hc48 (by kernel_rfl) ?_
 refine ce Dk mix 2 103 (tl 64 [(1, .loc 100 0), (2, .loc 101 0), (3, .loc 102 0), (15, V.i a0.Kind), (17, V.b (a0.Kind == 41))]) [(102, .cells 119 [V.b (a0.Op == 0), V.b (a0.Text == []), V.b (a0.Other == []), V.i 0, V.i 0]), (101, .cells 119 [V.b false, V.b false, V.b false, V.i 0, V.i 0]), (100, .cells 53 [V.i a0.Kind, V.i a0.Op, V.s a0.Text, V.s a0.Other, .sl false false (a0.Kids.map encI)])] (by kernel_rfl) (fun st hw => ?_)
 exact hk47 (a0, (a0.Kind == 41)) h _ (hw.trans (Weak.sel [(100, 100), (101, 101), (102, 102)] [1, 2, 3, 15, 17] (by kernel_rfl) (by kernel_rfl) (by kernel_rfl)))

theorem m_impl_FieldsOk_ok (N : Nat) (a0 : SNode) {r : Bool} (h : m_impl_FieldsOk N a0 = some r) :
    AC Tryz.prog (GS [0, 1, 2]) 93 [.agg [V.i a0.Kind, V.i a0.Op, V.s a0.Text, V.s a0.Other, .sl false false (a0.Kids.map encI)]] [] (V.b r) [] := by
 rw [m_impl_FieldsOk] at h
 refine AC.enter Tryz.func93 rfl ?_
 refine cu Dk mix 2 100 (tl 61 [(1, .loc 100 0)]) [(100, .cells 53 [V.i a0.Kind, V.i a0.Op, V.s a0.Text, V.s a0.Other, .sl false false (a0.Kids.map encI)])] (by kernel_rfl) ?_
 refine cu Dk mix 3 101 (tl 61 [(1, .loc 100 0), (3, .loc 101 0)]) [(101, .cells 119 [V.b false, V.b false, V.b false, V.i 0, V.i 0]), (100, .cells 53 [V.i a0.Kind, V.i a0.Op, V.s a0.Text, V.s a0.Other, .sl false false (a0.Kids.map encI)])] (by kernel_rfl) ?_
 refine CO.join (fun (⟨a0, y13, y14, y15, y16, y17⟩ : (SNode × Bool × Bool × Bool × Int × Int)) => ⟨tl 61 [(1, .loc 100 0), (3, .loc 101 0)], [(100, .cells 53 [V.i a0.Kind, V.i a0.Op, V.s a0.Text, V.s a0.Other, .sl false false (a0.Kids.map encI)]), (101, .cells 119 [V.b y13, V.b y14, V.b y15, V.i y16, V.i y17])]⟩) (fun i => m_impl_FieldsOk_k1 N i = some r) ?_ ?_
 · rintro ⟨a0, y13, y14, y15, y16, y17⟩ h17
   rw [m_impl_FieldsOk_k1] at h17
   obtain ⟨y19, hv22, h17⟩ := bind_some h17
   refine CO.cutR (tl 61 [(2, V.b y19)]) [] mix (by
    refine W.run Dk 3 102 (by kernel_rfl) ?_
    rcases cond_some hv22 with ⟨hc23, hv22⟩ | ⟨hc23, hv22⟩
    ·refine W.is 43 hc23 (by kernel_rfl) ?_
     refine W.run Dk 4 102 (by kernel_rfl) ?_
     rcases cond_some hv22 with ⟨hc24, hv22⟩ | ⟨hc24, hv22⟩
     ·refine W.is 47 hc24 (by kernel_rfl) ?_
      refine W.run Dk 4 102 (by kernel_rfl) ?_
      rcases cond_some hv22 with ⟨hc25, hv22⟩ | ⟨hc25, hv22⟩
      ·refine W.is 51 hc25 (by kernel_rfl) ?_
       refine W.run Dk 2 102 (by kernel_rfl) ?_
       refine W.len Dk encI a0.Kids [] (by kernel_rfl) (by kernel_rfl) ?_
       refine W.run Dk 4 102 (by kernel_rfl) ?_
       obtain ⟨r20, hx26, hv22⟩ := bind_some hv22
       refine W.call0 (AC.gs (m_impl_within_ok (a0.Kids.length : Int) y16 y17 hx26) (by decide)) cok80 rfl (by kernel_rfl) ?_
       refine W.run Dk 2 102 (by kernel_rfl) ?_
       have hv22 := Option.some.inj hv22
       subst hv22
       exact W.fs [] [2] (by kernel_rfl)
      refine W.is 51 hc25 (by kernel_rfl) ?_
      refine W.run Dk 10 102 (by kernel_rfl) ?_
      have hv22 := Option.some.inj hv22
      subst hv22
      exact W.fs [] [2] (by kernel_rfl)
     refine W.is 47 hc24 (by kernel_rfl) ?_
     refine W.run Dk 14 102 (by kernel_rfl) ?_
     have hv22 := Option.some.inj hv22
     subst hv22
     exact W.fs [] [2] (by kernel_rfl)
    refine W.is 43 hc23 (by kernel_rfl) ?_
    refine W.run Dk 18 102 (by kernel_rfl) ?_
    have hv22 := Option.some.inj hv22
    subst hv22
    exact W.fs [] [2] (by kernel_rfl)
    ) ?_
   refine CO.ret ?_
   have h17 := Option.some.inj h17
   subst h17
   exact Ends.gen [] (.inr rfl) (RetV.one rfl (OneR.tmp (t := 2) (r := V.b y19) (by kernel_rfl))) (by kernel_rfl) (by kernel_rfl) (by kernel_rfl)
 intro hk27
 refine CO.block' ?_
 obtain ⟨r22, hx29, h⟩ := bind_some h
 refine CO.cutR (tl 61 [(1, .loc 100 0), (3, .loc 101 0), (5, V.b r22)]) [(101, .cells 119 [V.b false, V.b false, V.b false, V.i 0, V.i 0]), (100, .cells 53 [V.i a0.Kind, V.i a0.Op, V.s a0.Text, V.s a0.Other, .sl false false (a0.Kids.map encI)])] mix (by
  refine W.run Dk 2 102 (by kernel_rfl) ?_
  refine W.call0 (AC.gs (m_impl_IsExpr_ok a0.Kind hx29) (by decide)) cok71 rfl (by kernel_rfl) ?_
  refine W.run Dk 1 102 (by kernel_rfl) ?_
  exact W.fi (by kernel_rfl)
  ) ?_
 rcases cond_some h with ⟨hc30, h⟩ | ⟨hc30, h⟩
 ·refine CO.ifT hc30 (by kernel_rfl) ?_
  obtain ⟨r24, hx32, h⟩ := bind_some h
  refine CO.cutR (tl 61 [(1, .loc 100 0), (3, .loc 101 0)]) [(101, .cells 119 [V.b r24.op, V.b r24.text, V.b r24.other, V.i r24.least, V.i r24.most]), (100, .cells 53 [V.i a0.Kind, V.i a0.Op, V.s a0.Text, V.s a0.Other, .sl false false (a0.Kids.map encI)])] mix (by
   refine W.run Dk 1 102 (by kernel_rfl) ?_
   refine W.call0 (m_impl_exprForm_ok N a0 hx32) cok127 rfl (by kernel_rfl) ?_
   refine W.run Dk 1 102 (by kernel_rfl) ?_
   exact W.fi (by kernel_rfl)
   ) ?_
  refine ce Dk mix 5 102 (tl 61 [(1, .loc 100 0), (3, .loc 101 0)]) [(101, .cells 119 [V.b r24.op, V.b r24.text, V.b (a0.Other == []), V.i r24.least, V.i r24.most]), (100, .cells 53 [V.i a0.Kind, V.i a0.Op, V.s a0.Text, V.s a0.Other, .sl false false (a0.Kids.map encI)])] (by kernel_rfl) (fun st hw => ?_)
  exact hk27 (a0, r24.op, r24.text, (a0.Other == []), r24.least, r24.most) h _ (hw.trans (Weak.sel [(100, 100), (101, 101)] [1, 3] (by kernel_rfl) (by kernel_rfl) (by kernel_rfl)))
 refine CO.ifF hc30 (by kernel_rfl) ?_
 refine cu Dk mix 4 102 (tl 61 [(1, .loc 100 0), (3, .loc 101 0), (15, V.b (a0.Kind == 16))]) [(101, .cells 119 [V.b false, V.b false, V.b false, V.i 0, V.i 0]), (100, .cells 53 [V.i a0.Kind, V.i a0.Op, V.s a0.Text, V.s a0.Other, .sl false false (a0.Kids.map encI)])] (by kernel_rfl) ?_
 rcases cond_some h with ⟨hc33, h⟩ | ⟨hc33, h⟩
 ·refine CO.ifT hc33 (by kernel_rfl) ?_
  refine ce Dk mix 11 102 (tl 61 [(1, .loc 100 0), (3, .loc 101 0)]) [(101, .cells 119 [V.b (a0.Op == 0), V.b (a0.Text == []), V.b (a0.Other == []), V.i 0, V.i 0]), (100, .cells 53 [V.i a0.Kind, V.i a0.Op, V.s a0.Text, V.s a0.Other, .sl false false (a0.Kids.map encI)])] (by kernel_rfl) (fun st hw => ?_)
  exact hk27 (a0, (a0.Op == 0), (a0.Text == []), (a0.Other == []), 0, 0) h _ (hw.trans (Weak.sel [(100, 100), (101, 101)] [1, 3] (by kernel_rfl) (by kernel_rfl) (by kernel_rfl)))
 refine CO.ifF hc33 (by kernel_rfl) ?_
 obtain ⟨r26, hx35, h⟩ := bind_some h
 refine CO.cutR (tl 61 [(1, .loc 100 0), (3, .loc 101 0), (29, V.b r26)]) [(101, .cells 119 [V.b false, V.b false, V.b false, V.i 0, V.i 0]), (100, .cells 53 [V.i a0.Kind, V.i a0.Op, V.s a0.Text, V.s a0.Other, .sl false false (a0.Kids.map encI)])] mix (by
  refine W.run Dk 2 102 (by kernel_rfl) ?_
  refine W.call0 (AC.gs (m_impl_IsStmt_ok a0.Kind hx35) (by decide)) cok128 rfl (by kernel_rfl) ?_
  refine W.run Dk 1 102 (by kernel_rfl) ?_
  exact W.fi (by kernel_rfl)
  ) ?_
 rcases cond_some h with ⟨hc36, h⟩ | ⟨hc36, h⟩
 ·refine CO.ifT hc36 (by kernel_rfl) ?_
  obtain ⟨r28, hx38, h⟩ := bind_some h
  refine CO.endR (tl 61 [(1, .loc 100 0), (3, .loc 101 0)]) [(101, .cells 119 [V.b r28.op, V.b r28.text, V.b r28.other, V.i r28.least, V.i r28.most]), (100, .cells 53 [V.i a0.Kind, V.i a0.Op, V.s a0.Text, V.s a0.Other, .sl false false (a0.Kids.map encI)])] mix (by
   refine W.run Dk 1 102 (by kernel_rfl) ?_
   refine W.call0 (m_impl_stmtForm_ok N a0 hx38) cok129 rfl (by kernel_rfl) ?_
   refine W.run Dk 1 102 (by kernel_rfl) ?_
   exact W.fi (by kernel_rfl)
   ) (fun st hw => ?_)
  exact hk27 (a0, r28.op, r28.text, r28.other, r28.least, r28.most) h _ (hw.trans (Weak.sel [(100, 100), (101, 101)] [1, 3] (by kernel_rfl) (by kernel_rfl) (by kernel_rfl)))
 refine CO.ifF hc36 (by kernel_rfl) ?_
 obtain ⟨r30, hx40, h⟩ := bind_some h
 refine CO.cutR (tl 61 [(1, .loc 100 0), (3, .loc 101 0), (35, V.b r30)]) [(101, .cells 119 [V.b false, V.b false, V.b false, V.i 0, V.i 0]), (100, .cells 53 [V.i a0.Kind, V.i a0.Op, V.s a0.Text, V.s a0.Other, .sl false false (a0.Kids.map encI)])] mix (by
  refine W.run Dk 2 102 (by kernel_rfl) ?_
  refine W.call0 (AC.gs (m_impl_within_ok a0.Kind 40 45 hx40) (by decide)) cok80 rfl (by kernel_rfl) ?_
  refine W.run Dk 1 102 (by kernel_rfl) ?_
  exact W.fi (by kernel_rfl)
  ) ?_
 rcases cond_some h with ⟨hc41, h⟩ | ⟨hc41, h⟩
 ·refine CO.ifT hc41 (by kernel_rfl) ?_
  obtain ⟨r32, hx43, h⟩ := bind_some h
  refine CO.endR (tl 61 [(1, .loc 100 0), (3, .loc 101 0)]) [(101, .cells 119 [V.b r32.op, V.b r32.text, V.b r32.other, V.i r32.least, V.i r32.most]), (100, .cells 53 [V.i a0.Kind, V.i a0.Op, V.s a0.Text, V.s a0.Other, .sl false false (a0.Kids.map encI)])] mix (by
   refine W.run Dk 1 102 (by kernel_rfl) ?_
   refine W.call0 (AC.gs (m_impl_itemForm_ok N a0 hx43) (by decide)) cok130 rfl (by kernel_rfl) ?_
   refine W.run Dk 1 102 (by kernel_rfl) ?_
   exact W.fi (by kernel_rfl)
   ) (fun st hw => ?_)
  exact hk27 (a0, r32.op, r32.text, r32.other, r32.least, r32.most) h _ (hw.trans (Weak.sel [(100, 100), (101, 101)] [1, 3] (by kernel_rfl) (by kernel_rfl) (by kernel_rfl)))
 refine CO.ifF hc41 (by kernel_rfl) ?_
 refine cu Dk mix 1 102 (tl 61 [(2, V.b false)]) [] (by kernel_rfl) ?_
 refine CO.ret ?_
 have h := Option.some.inj h
 subst h
 exact Ends.gen [] (.inr rfl) (RetV.one rfl (OneR.tmp (t := 2) (r := V.b false) (by kernel_rfl))) (by kernel_rfl) (by kernel_rfl) (by kernel_rfl)

theorem m_impl_IsLvalue_ok (a0 : Int) {r : Bool} (h : m_impl_IsLvalue a0 = some r) :
    AC Tryz.prog (GS []) 131 [V.i a0] [] (V.b r) [] := by
 rw [m_impl_IsLvalue] at h
 refine AC.enter Tryz.func131 rfl ?_
 refine cu Dk mix 1 100 (tl 13 [(0, V.i a0)]) [] (by kernel_rfl) ?_
 obtain ⟨y1, hv3, h⟩ := bind_some h
 refine CO.cutR (tl 13 [(2, V.b y1)]) [] mix (by
  refine W.run Dk 3 100 (by kernel_rfl) ?_
  rcases cond_some hv3 with ⟨hc4, hv3⟩ | ⟨hc4, hv3⟩
  ·refine W.is 5 hc4 (by kernel_rfl) ?_
   refine W.run Dk 8 100 (by kernel_rfl) ?_
   have hv3 := Option.some.inj hv3
   subst hv3
   exact W.fs [] [2] (by kernel_rfl)
  refine W.is 5 hc4 (by kernel_rfl) ?_
  refine W.run Dk 4 100 (by kernel_rfl) ?_
  rcases cond_some hv3 with ⟨hc5, hv3⟩ | ⟨hc5, hv3⟩
  ·refine W.is 9 hc5 (by kernel_rfl) ?_
   refine W.run Dk 4 100 (by kernel_rfl) ?_
   have hv3 := Option.some.inj hv3
   subst hv3
   exact W.fs [] [2] (by kernel_rfl)
  refine W.is 9 hc5 (by kernel_rfl) ?_
  refine W.run Dk 4 100 (by kernel_rfl) ?_
  have hv3 := Option.some.inj hv3
  subst hv3
  exact W.fs [] [2] (by kernel_rfl)
  ) ?_
 refine CO.ret ?_
 have h := Option.some.inj h
 subst h
 exact Ends.gen [] (.inr rfl) (RetV.one rfl (OneR.tmp (t := 2) (r := V.b y1) (by kernel_rfl))) (by kernel_rfl) (by kernel_rfl) (by kernel_rfl)

theorem m_impl_isItem_ok (a0 : Int) {r : Bool} (h : m_impl_isItem a0 = some r) :
    AC Tryz.prog (GS []) 132 [V.i a0] [] (V.b r) [] := by
 rw [m_impl_isItem] at h
 refine AC.enter Tryz.func132 rfl ?_
 refine cu Dk mix 1 100 (tl 5 [(0, V.i a0)]) [] (by kernel_rfl) ?_
 obtain ⟨r2, hx2, h⟩ := bind_some h
 refine CO.cutR (tl 5 [(2, V.b r2)]) [] mix (by
  refine W.run Dk 1 100 (by kernel_rfl) ?_
  refine W.call0 (m_impl_within_ok a0 40 44 hx2) cok80 rfl (by kernel_rfl) ?_
  refine W.run Dk 1 100 (by kernel_rfl) ?_
  exact W.fi (by kernel_rfl)
  ) ?_
 refine CO.ret ?_
 have h := Option.some.inj h
 subst h
 exact Ends.gen [] (.inr rfl) (RetV.one rfl (OneR.tmp (t := 2) (r := V.b r2) (by kernel_rfl))) (by kernel_rfl) (by kernel_rfl) (by kernel_rfl)

theorem m_impl_kidOk_ok (a0 : SNode) (a1 : Int) (a2 : Int) {r : Bool} (h : m_impl_kidOk a0 a1 a2 = some r) :
    AC Tryz.prog (GS []) 94 [.agg [V.i a0.Kind, V.i a0.Op, V.s a0.Text, V.s a0.Other, .sl false false (a0.Kids.map encI)], V.i a1, V.i a2] [] (V.b r) [] := by
 rw [m_impl_kidOk] at h
 refine AC.enter Tryz.func94 rfl ?_
 refine cu Dk mix 2 100 (tl 99 [(1, V.i a1), (2, V.i a2), (3, .loc 100 0)]) [(100, .cells 53 [V.i a0.Kind, V.i a0.Op, V.s a0.Text, V.s a0.Other, .sl false false (a0.Kids.map encI)])] (by kernel_rfl) ?_
 refine CO.cutR (tl 99 [(1, V.i a1), (2, V.i a2), (3, .loc 100 0), (7, V.b (a1 == (IntKind.wrap .i64 ((a0.Kids.length : Int) - 1))))]) [(100, .cells 53 [V.i a0.Kind, V.i a0.Op, V.s a0.Text, V.s a0.Other, .sl false false (a0.Kids.map encI)])] mix (by
  refine W.run Dk 3 101 (by kernel_rfl) ?_
  refine W.len Dk encI a0.Kids [] (by kernel_rfl) (by kernel_rfl) ?_
  refine W.run Dk 3 101 (by kernel_rfl) ?_
  exact W.fi (by kernel_rfl)
  ) ?_
 refine cu Dk mix 1 101 (tl 99 [(1, V.i a1), (2, V.i a2), (3, .loc 100 0), (7, V.b (a1 == (IntKind.wrap .i64 ((a0.Kids.length : Int) - 1)))), (8, V.b false)]) [(100, .cells 53 [V.i a0.Kind, V.i a0.Op, V.s a0.Text, V.s a0.Other, .sl false false (a0.Kids.map encI)])] (by kernel_rfl) ?_
 refine CO.join (fun (⟨a2, y22⟩ : (Int × Bool)) => ⟨tl 99 [(2, V.i a2), (8, V.b y22)], []⟩) (fun i => m_impl_kidOk_k1 i = some r) ?_ ?_
 · rintro ⟨a2, y22⟩ h66
   rw [m_impl_kidOk_k1] at h66
   refine CO.seq' ?_
   refine cu Dk mix 1 101 (tl 99 [(2, V.i a2), (94, V.b y22)]) [] (by kernel_rfl) ?_
   rcases cond_some h66 with ⟨hc68, h66⟩ | ⟨hc68, h66⟩
   ·refine CO.ifT hc68 (by kernel_rfl) ?_
    refine cu Dk mix 3 101 (tl 99 [(6, V.b (a2 == 33))]) [] (by kernel_rfl) ?_
    refine CO.ret ?_
    have h66 := Option.some.inj h66
    subst h66
    exact Ends.gen [] (.inr rfl) (RetV.one rfl (OneR.tmp (t := 6) (r := V.b (a2 == 33)) (by kernel_rfl))) (by kernel_rfl) (by kernel_rfl) (by kernel_rfl)
   refine CO.ifF hc68 (by kernel_rfl) ?_
   refine CO.skip ?_
   obtain ⟨r24, hx70, h66⟩ := bind_some h66
   refine CO.cutR (tl 99 [(6, V.b r24)]) [] mix (by
    refine W.run Dk 1 101 (by kernel_rfl) ?_
    refine W.call0 (m_impl_IsExpr_ok a2 hx70) cok71 rfl (by kernel_rfl) ?_
    refine W.run Dk 1 101 (by kernel_rfl) ?_
    exact W.fi (by kernel_rfl)
    ) ?_
   refine CO.ret ?_
   have h66 := Option.some.inj h66
   subst h66
   exact Ends.gen [] (.inr rfl) (RetV.one rfl (OneR.tmp (t := 6) (r := V.b r24) (by kernel_rfl))) (by kernel_rfl) (by kernel_rfl) (by kernel_rfl)
 intro hk71
 refine cu Dk mix 2 101 (tl 99 [(1, V.i a1), (2, V.i a2), (3, .loc 100 0), (7, V.b (a1 == (IntKind.wrap .i64 ((a0.Kids.length : Int) - 1)))), (8, V.b false), (16, V.i a0.Kind)]) [(100, .cells 53 [V.i a0.Kind, V.i a0.Op, V.s a0.Text, V.s a0.Other, .sl false false (a0.Kids.map encI)])] (by kernel_rfl) ?_
 refine CO.block' ?_
 refine CO.join (fun (⟨a1, a2, a0, y25⟩ : (Int × Int × SNode × Bool)) => ⟨tl 99 [(1, V.i a1), (2, V.i a2), (3, .loc 100 0), (7, V.b (a1 == (IntKind.wrap .i64 ((a0.Kids.length : Int) - 1)))), (8, V.b false), (16, V.i a0.Kind), (17, V.b y25)], [(100, .cells 53 [V.i a0.Kind, V.i a0.Op, V.s a0.Text, V.s a0.Other, .sl false false (a0.Kids.map encI)])]⟩) (fun i => m_impl_kidOk_k2 i = some r) ?_ ?_
 · rintro ⟨a1, a2, a0, y25⟩ h73
   rw [m_impl_kidOk_k2] at h73
   rcases cond_some h73 with ⟨hc74, h73⟩ | ⟨hc74, h73⟩
   ·refine CO.ifT hc74 (by kernel_rfl) ?_
    obtain ⟨r27, hx76, h73⟩ := bind_some h73
    refine CO.cutR (tl 99 [(6, V.b r27)]) [] mix (by
     refine W.run Dk 1 101 (by kernel_rfl) ?_
     refine W.call0 (m_impl_IsLvalue_ok a2 hx76) cok131 rfl (by kernel_rfl) ?_
     refine W.run Dk 1 101 (by kernel_rfl) ?_
     exact W.fi (by kernel_rfl)
     ) ?_
    refine CO.ret ?_
    have h73 := Option.some.inj h73
    subst h73
    exact Ends.gen [] (.inr rfl) (RetV.one rfl (OneR.tmp (t := 6) (r := V.b r27) (by kernel_rfl))) (by kernel_rfl) (by kernel_rfl) (by kernel_rfl)
   refine CO.ifF hc74 (by kernel_rfl) ?_
   refine cu Dk mix 2 101 (tl 99 [(1, V.i a1), (2, V.i a2), (3, .loc 100 0), (7, V.b (a1 == (IntKind.wrap .i64 ((a0.Kids.length : Int) - 1)))), (8, V.b false), (16, V.i a0.Kind), (22, V.b (a0.Kind == 15))]) [(100, .cells 53 [V.i a0.Kind, V.i a0.Op, V.s a0.Text, V.s a0.Other, .sl false false (a0.Kids.map encI)])] (by kernel_rfl) ?_
   rcases cond_some h73 with ⟨hc77, h73⟩ | ⟨hc77, h73⟩
   ·refine CO.ifT hc77 (by kernel_rfl) ?_
    obtain ⟨y31, hv85, h73⟩ := bind_some h73
    refine CO.cutR (tl 99 [(6, V.b y31)]) [] mix (by
     refine W.run Dk 3 101 (by kernel_rfl) ?_
     rcases cond_some hv85 with ⟨hc86, hv85⟩ | ⟨hc86, hv85⟩
     ·refine W.is 26 hc86 (by kernel_rfl) ?_
      refine W.run Dk 1 101 (by kernel_rfl) ?_
      obtain ⟨r32, hx87, hv85⟩ := bind_some hv85
      refine W.call0 (m_impl_IsLvalue_ok a2 hx87) cok131 rfl (by kernel_rfl) ?_
      refine W.run Dk 2 101 (by kernel_rfl) ?_
      rcases cond_some hv85 with ⟨hc88, hv85⟩ | ⟨hc88, hv85⟩
      ·refine W.is 30 hc88 (by kernel_rfl) ?_
       refine W.run Dk 8 101 (by kernel_rfl) ?_
       have hv85 := Option.some.inj hv85
       subst hv85
       exact W.fs [] [6] (by kernel_rfl)
      refine W.is 30 hc88 (by kernel_rfl) ?_
      refine W.run Dk 3 101 (by kernel_rfl) ?_
      rcases cond_some hv85 with ⟨hc89, hv85⟩ | ⟨hc89, hv85⟩
      ·refine W.is 33 hc89 (by kernel_rfl) ?_
       refine W.run Dk 1 101 (by kernel_rfl) ?_
       obtain ⟨r33, hx90, hv85⟩ := bind_some hv85
       refine W.call0 (m_impl_IsExpr_ok a2 hx90) cok71 rfl (by kernel_rfl) ?_
       refine W.run Dk 3 101 (by kernel_rfl) ?_
       have hv85 := Option.some.inj hv85
       subst hv85
       exact W.fs [] [6] (by kernel_rfl)
      refine W.is 33 hc89 (by kernel_rfl) ?_
      refine W.run Dk 5 101 (by kernel_rfl) ?_
      have hv85 := Option.some.inj hv85
      subst hv85
      exact W.fs [] [6] (by kernel_rfl)
     refine W.is 26 hc86 (by kernel_rfl) ?_
     refine W.run Dk 7 101 (by kernel_rfl) ?_
     rcases cond_some hv85 with ⟨hc91, hv85⟩ | ⟨hc91, hv85⟩
     ·refine W.is 33 hc91 (by kernel_rfl) ?_
      refine W.run Dk 1 101 (by kernel_rfl) ?_
      obtain ⟨r34, hx92, hv85⟩ := bind_some hv85
      refine W.call0 (m_impl_IsExpr_ok a2 hx92) cok71 rfl (by kernel_rfl) ?_
      refine W.run Dk 3 101 (by kernel_rfl) ?_
      have hv85 := Option.some.inj hv85
      subst hv85
      exact W.fs [] [6] (by kernel_rfl)
     refine W.is 33 hc91 (by kernel_rfl) ?_
     refine W.run Dk 5 101 (by kernel_rfl) ?_
     have hv85 := Option.some.inj hv85
     subst hv85
     exact W.fs [] [6] (by kernel_rfl)
     ) ?_
    refine CO.ret ?_
    have h73 := Option.some.inj h73
    subst h73
    exact Ends.gen [] (.inr rfl) (RetV.one rfl (OneR.tmp (t := 6) (r := V.b y31) (by kernel_rfl))) (by kernel_rfl) (by kernel_rfl) (by kernel_rfl)
   refine CO.ifF hc77 (by kernel_rfl) ?_
   refine CO.join (fun (⟨a1, a2, a0, y35⟩ : (Int × Int × SNode × Bool)) => ⟨tl 99 [(1, V.i a1), (2, V.i a2), (3, .loc 100 0), (7, V.b (a1 == (IntKind.wrap .i64 ((a0.Kids.length : Int) - 1)))), (8, V.b false), (16, V.i a0.Kind), (38, V.b y35)], [(100, .cells 53 [V.i a0.Kind, V.i a0.Op, V.s a0.Text, V.s a0.Other, .sl false false (a0.Kids.map encI)])]⟩) (fun i => m_impl_kidOk_k3 i = some r) ?_ ?_
   · rintro ⟨a1, a2, a0, y35⟩ h94
     rw [m_impl_kidOk_k3] at h94
     rcases cond_some h94 with ⟨hc95, h94⟩ | ⟨hc95, h94⟩
     ·refine CO.ifT hc95 (by kernel_rfl) ?_
      refine ce Dk mix 3 101 (tl 99 [(2, V.i a2), (8, V.b (decide (a1 > 0)))]) [] (by kernel_rfl) (fun st hw => ?_)
      exact hk71 (a2, (decide (a1 > 0))) h94 _ (hw.trans (Weak.sel [] [2, 8] (by kernel_rfl) (by kernel_rfl) (by kernel_rfl)))
     refine CO.ifF hc95 (by kernel_rfl) ?_
     refine cu Dk mix 2 101 (tl 99 [(1, V.i a1), (2, V.i a2), (3, .loc 100 0), (7, V.b (a1 == (IntKind.wrap .i64 ((a0.Kids.length : Int) - 1)))), (8, V.b false), (16, V.i a0.Kind), (43, V.b (a0.Kind == 31))]) [(100, .cells 53 [V.i a0.Kind, V.i a0.Op, V.s a0.Text, V.s a0.Other, .sl false false (a0.Kids.map encI)])] (by kernel_rfl) ?_
     rcases cond_some h94 with ⟨hc96, h94⟩ | ⟨hc96, h94⟩
     ·refine CO.ifT hc96 (by kernel_rfl) ?_
      refine CO.seq' ?_
      obtain ⟨y37, hv102, h94⟩ := bind_some h94
      refine CO.cutR (tl 99 [(2, V.i a2), (7, V.b (a1 == (IntKind.wrap .i64 ((a0.Kids.length : Int) - 1)))), (50, V.b y37)]) [] mix (by
       refine W.run Dk 3 101 (by kernel_rfl) ?_
       rcases cond_some hv102 with ⟨hc103, hv102⟩ | ⟨hc103, hv102⟩
       ·refine W.is 47 hc103 (by kernel_rfl) ?_
        refine W.run Dk 3 101 (by kernel_rfl) ?_
        have hv102 := Option.some.inj hv102
        subst hv102
        exact W.fs [] [2, 7, 50] (by kernel_rfl)
       refine W.is 47 hc103 (by kernel_rfl) ?_
       refine W.run Dk 3 101 (by kernel_rfl) ?_
       have hv102 := Option.some.inj hv102
       subst hv102
       exact W.fs [] [2, 7, 50] (by kernel_rfl)
       ) ?_
      rcases cond_some h94 with ⟨hc104, h94⟩ | ⟨hc104, h94⟩
      ·refine CO.ifT hc104 (by kernel_rfl) ?_
       refine cu Dk mix 1 101 (tl 99 [(6, V.b true)]) [] (by kernel_rfl) ?_
       refine CO.ret ?_
       have h94 := Option.some.inj h94
       subst h94
       exact Ends.gen [] (.inr rfl) (RetV.one rfl (OneR.tmp (t := 6) (r := V.b true) (by kernel_rfl))) (by kernel_rfl) (by kernel_rfl) (by kernel_rfl)
      refine CO.ifF hc104 (by kernel_rfl) ?_
      refine CO.skip ?_
      refine ce Dk mix 2 101 (tl 99 [(2, V.i a2), (8, V.b (a1 == (IntKind.wrap .i64 ((a0.Kids.length : Int) - 1))))]) [] (by kernel_rfl) (fun st hw => ?_)
      exact hk71 (a2, (a1 == (IntKind.wrap .i64 ((a0.Kids.length : Int) - 1)))) h94 _ (hw.trans (Weak.sel [] [2, 8] (by kernel_rfl) (by kernel_rfl) (by kernel_rfl)))
     refine CO.ifF hc96 (by kernel_rfl) ?_
     refine cu Dk mix 2 101 (tl 99 [(1, V.i a1), (2, V.i a2), (3, .loc 100 0), (7, V.b (a1 == (IntKind.wrap .i64 ((a0.Kids.length : Int) - 1)))), (8, V.b false), (16, V.i a0.Kind), (52, V.b (a0.Kind == 30))]) [(100, .cells 53 [V.i a0.Kind, V.i a0.Op, V.s a0.Text, V.s a0.Other, .sl false false (a0.Kids.map encI)])] (by kernel_rfl) ?_
     rcases cond_some h94 with ⟨hc105, h94⟩ | ⟨hc105, h94⟩
     ·refine CO.ifT hc105 (by kernel_rfl) ?_
      refine ce Dk mix 3 101 (tl 99 [(2, V.i a2), (8, V.b (a1 == 0))]) [] (by kernel_rfl) (fun st hw => ?_)
      exact hk71 (a2, (a1 == 0)) h94 _ (hw.trans (Weak.sel [] [2, 8] (by kernel_rfl) (by kernel_rfl) (by kernel_rfl)))
     refine CO.ifF hc105 (by kernel_rfl) ?_
     refine CO.join (fun (⟨a2, a1, a0, y38⟩ : (Int × Int × SNode × Bool)) => ⟨tl 99 [(2, V.i a2), (3, .loc 100 0), (7, V.b (a1 == (IntKind.wrap .i64 ((a0.Kids.length : Int) - 1)))), (8, V.b false), (16, V.i a0.Kind), (56, V.b y38)], [(100, .cells 53 [V.i a0.Kind, V.i a0.Op, V.s a0.Text, V.s a0.Other, .sl false false (a0.Kids.map encI)])]⟩) (fun i => m_impl_kidOk_k4 i = some r) ?_ ?_
     · rintro ⟨a2, a1, a0, y38⟩ h108
       rw [m_impl_kidOk_k4] at h108
       rcases cond_some h108 with ⟨hc109, h108⟩ | ⟨hc109, h108⟩
       ·refine CO.ifT hc109 (by kernel_rfl) ?_
        refine ce Dk mix 1 101 (tl 99 [(2, V.i a2), (8, V.b true)]) [] (by kernel_rfl) (fun st hw => ?_)
        exact hk71 (a2, true) h108 _ (hw.trans (Weak.sel [] [2, 8] (by kernel_rfl) (by kernel_rfl) (by kernel_rfl)))
       refine CO.ifF hc109 (by kernel_rfl) ?_
       refine cu Dk mix 2 101 (tl 99 [(2, V.i a2), (3, .loc 100 0), (7, V.b (a1 == (IntKind.wrap .i64 ((a0.Kids.length : Int) - 1)))), (8, V.b false), (16, V.i a0.Kind), (60, V.b (a0.Kind == 33))]) [(100, .cells 53 [V.i a0.Kind, V.i a0.Op, V.s a0.Text, V.s a0.Other, .sl false false (a0.Kids.map encI)])] (by kernel_rfl) ?_
       rcases cond_some h108 with ⟨hc110, h108⟩ | ⟨hc110, h108⟩
       ·refine CO.ifT hc110 (by kernel_rfl) ?_
        obtain ⟨r40, hx112, h108⟩ := bind_some h108
        refine CO.cutR (tl 99 [(6, V.b r40)]) [] mix (by
         refine W.run Dk 1 101 (by kernel_rfl) ?_
         refine W.call0 (m_impl_IsStmt_ok a2 hx112) cok128 rfl (by kernel_rfl) ?_
         refine W.run Dk 1 101 (by kernel_rfl) ?_
         exact W.fi (by kernel_rfl)
         ) ?_
        refine CO.ret ?_
        have h108 := Option.some.inj h108
        subst h108
        exact Ends.gen [] (.inr rfl) (RetV.one rfl (OneR.tmp (t := 6) (r := V.b r40) (by kernel_rfl))) (by kernel_rfl) (by kernel_rfl) (by kernel_rfl)
       refine CO.ifF hc110 (by kernel_rfl) ?_
       refine cu Dk mix 2 101 (tl 99 [(2, V.i a2), (3, .loc 100 0), (7, V.b (a1 == (IntKind.wrap .i64 ((a0.Kids.length : Int) - 1)))), (8, V.b false), (16, V.i a0.Kind), (64, V.b (a0.Kind == 42))]) [(100, .cells 53 [V.i a0.Kind, V.i a0.Op, V.s a0.Text, V.s a0.Other, .sl false false (a0.Kids.map encI)])] (by kernel_rfl) ?_
       rcases cond_some h108 with ⟨hc113, h108⟩ | ⟨hc113, h108⟩
       ·refine CO.ifT hc113 (by kernel_rfl) ?_
        obtain ⟨y41, hv115, h108⟩ := bind_some h108
        refine CO.endR (tl 99 [(2, V.i a2), (8, V.b y41)]) [] mix (by
         refine W.run Dk 2 101 (by kernel_rfl) ?_
         rcases cond_some hv115 with ⟨hc116, hv115⟩ | ⟨hc116, hv115⟩
         ·refine W.is 67 hc116 (by kernel_rfl) ?_
          refine W.run Dk 5 101 (by kernel_rfl) ?_
          have hv115 := Option.some.inj hv115
          subst hv115
          exact W.fs [] [2, 8] (by kernel_rfl)
         refine W.is 67 hc116 (by kernel_rfl) ?_
         refine W.run Dk 5 101 (by kernel_rfl) ?_
         have hv115 := Option.some.inj hv115
         subst hv115
         exact W.fs [] [2, 8] (by kernel_rfl)
         ) (fun st hw => ?_)
        exact hk71 (a2, y41) h108 _ (hw.trans (Weak.sel [] [2, 8] (by kernel_rfl) (by kernel_rfl) (by kernel_rfl)))
       refine CO.ifF hc113 (by kernel_rfl) ?_
       refine cu Dk mix 2 101 (tl 99 [(2, V.i a2), (3, .loc 100 0), (7, V.b (a1 == (IntKind.wrap .i64 ((a0.Kids.length : Int) - 1)))), (8, V.b false), (16, V.i a0.Kind), (72, V.b (a0.Kind == 43))]) [(100, .cells 53 [V.i a0.Kind, V.i a0.Op, V.s a0.Text, V.s a0.Other, .sl false false (a0.Kids.map encI)])] (by kernel_rfl) ?_
       rcases cond_some h108 with ⟨hc117, h108⟩ | ⟨hc117, h108⟩
       ·refine CO.ifT hc117 (by kernel_rfl) ?_
        obtain ⟨y42, hv119, h108⟩ := bind_some h108
        refine CO.endR (tl 99 [(2, V.i a2), (8, V.b y42)]) [] mix (by
         refine W.run Dk 2 101 (by kernel_rfl) ?_
         rcases cond_some hv119 with ⟨hc120, hv119⟩ | ⟨hc120, hv119⟩
         ·refine W.is 75 hc120 (by kernel_rfl) ?_
          refine W.run Dk 5 101 (by kernel_rfl) ?_
          have hv119 := Option.some.inj hv119
          subst hv119
          exact W.fs [] [2, 8] (by kernel_rfl)
         refine W.is 75 hc120 (by kernel_rfl) ?_
         refine W.run Dk 5 101 (by kernel_rfl) ?_
         have hv119 := Option.some.inj hv119
         subst hv119
         exact W.fs [] [2, 8] (by kernel_rfl)
         ) (fun st hw => ?_)
        exact hk71 (a2, y42) h108 _ (hw.trans (Weak.sel [] [2, 8] (by kernel_rfl) (by kernel_rfl) (by kernel_rfl)))
       refine CO.ifF hc117 (by kernel_rfl) ?_
       refine cu Dk mix 2 101 (tl 99 [(2, V.i a2), (7, V.b (a1 == (IntKind.wrap .i64 ((a0.Kids.length : Int) - 1)))), (8, V.b false), (16, V.i a0.Kind), (80, V.b (a0.Kind == 44))]) [] (by kernel_rfl) ?_
       rcases cond_some h108 with ⟨hc121, h108⟩ | ⟨hc121, h108⟩
       ·refine CO.ifT hc121 (by kernel_rfl) ?_
        refine CO.seq' ?_
        refine cu Dk mix 2 101 (tl 99 [(2, V.i a2), (83, V.b (!(a1 == (IntKind.wrap .i64 ((a0.Kids.length : Int) - 1)))))]) [] (by kernel_rfl) ?_
        rcases cond_some h108 with ⟨hc123, h108⟩ | ⟨hc123, h108⟩
        ·refine CO.ifT hc123 (by kernel_rfl) ?_
         refine cu Dk mix 3 101 (tl 99 [(6, V.b (a2 == 1))]) [] (by kernel_rfl) ?_
         refine CO.ret ?_
         have h108 := Option.some.inj h108
         subst h108
         exact Ends.gen [] (.inr rfl) (RetV.one rfl (OneR.tmp (t := 6) (r := V.b (a2 == 1)) (by kernel_rfl))) (by kernel_rfl) (by kernel_rfl) (by kernel_rfl)
        refine CO.ifF hc123 (by kernel_rfl) ?_
        refine CO.skip ?_
        refine ce Dk mix 1 101 (tl 99 [(2, V.i a2), (8, V.b true)]) [] (by kernel_rfl) (fun st hw => ?_)
        exact hk71 (a2, true) h108 _ (hw.trans (Weak.sel [] [2, 8] (by kernel_rfl) (by kernel_rfl) (by kernel_rfl)))
       refine CO.ifF hc121 (by kernel_rfl) ?_
       refine cu Dk mix 2 101 (tl 99 [(2, V.i a2), (8, V.b false), (86, V.b (a0.Kind == 45))]) [] (by kernel_rfl) ?_
       rcases cond_some h108 with ⟨hc124, h108⟩ | ⟨hc124, h108⟩
       ·refine CO.ifT hc124 (by kernel_rfl) ?_
        obtain ⟨y44, hv127, h108⟩ := bind_some h108
        refine CO.cutR (tl 99 [(6, V.b y44)]) [] mix (by
         refine W.run Dk 1 101 (by kernel_rfl) ?_
         obtain ⟨r45, hx128, hv127⟩ := bind_some hv127
         refine W.call0 (m_impl_isItem_ok a2 hx128) cok132 rfl (by kernel_rfl) ?_
         refine W.run Dk 1 101 (by kernel_rfl) ?_
         rcases cond_some hv127 with ⟨hc129, hv127⟩ | ⟨hc129, hv127⟩
         ·refine W.is 90 hc129 (by kernel_rfl) ?_
          refine W.run Dk 4 101 (by kernel_rfl) ?_
          have hv127 := Option.some.inj hv127
          subst hv127
          exact W.fs [] [6] (by kernel_rfl)
         refine W.is 90 hc129 (by kernel_rfl) ?_
         refine W.run Dk 4 101 (by kernel_rfl) ?_
         have hv127 := Option.some.inj hv127
         subst hv127
         exact W.fs [] [6] (by kernel_rfl)
         ) ?_
        refine CO.ret ?_
        have h108 := Option.some.inj h108
        subst h108
        exact Ends.gen [] (.inr rfl) (RetV.one rfl (OneR.tmp (t := 6) (r := V.b y44) (by kernel_rfl))) (by kernel_rfl) (by kernel_rfl) (by kernel_rfl)
       refine CO.ifF hc124 (by kernel_rfl) ?_
       refine CO.skip ?_
       exact hk71 (a2, false) h108 _ (Weak.sel [] [2, 8] (by kernel_rfl) (by kernel_rfl) (by kernel_rfl))
     intro hk130
     refine cu Dk mix 2 101 (tl 99 [(2, V.i a2), (3, .loc 100 0), (7, V.b (a1 == (IntKind.wrap .i64 ((a0.Kids.length : Int) - 1)))), (8, V.b false), (16, V.i a0.Kind), (56, V.b (a0.Kind == 32))]) [(100, .cells 53 [V.i a0.Kind, V.i a0.Op, V.s a0.Text, V.s a0.Other, .sl false false (a0.Kids.map encI)])] (by kernel_rfl) ?_
     rcases cond_some h94 with ⟨hc131, h94⟩ | ⟨hc131, h94⟩
     ·refine CO.ifT hc131 (by kernel_rfl) ?_
      refine CO.skip ?_
      exact hk130 (a2, a1, a0, (a0.Kind == 32)) h94 _ (Weak.sel [(100, 100)] [2, 3, 7, 8, 16, 56] (by kernel_rfl) (by kernel_rfl) (by kernel_rfl))
     refine CO.ifF hc131 (by kernel_rfl) ?_
     refine cu Dk mix 2 101 (tl 99 [(2, V.i a2), (3, .loc 100 0), (7, V.b (a1 == (IntKind.wrap .i64 ((a0.Kids.length : Int) - 1)))), (8, V.b false), (16, V.i a0.Kind), (56, V.b (a0.Kind == 40))]) [(100, .cells 53 [V.i a0.Kind, V.i a0.Op, V.s a0.Text, V.s a0.Other, .sl false false (a0.Kids.map encI)])] (by kernel_rfl) ?_
     rcases cond_some h94 with ⟨hc132, h94⟩ | ⟨hc132, h94⟩
     ·refine CO.ifT hc132 (by kernel_rfl) ?_
      refine CO.skip ?_
      exact hk130 (a2, a1, a0, (a0.Kind == 40)) h94 _ (Weak.sel [(100, 100)] [2, 3, 7, 8, 16, 56] (by kernel_rfl) (by kernel_rfl) (by kernel_rfl))
     refine CO.ifF hc132 (by kernel_rfl) ?_
     refine ce Dk mix 2 101 (tl 99 [(2, V.i a2), (3, .loc 100 0), (7, V.b (a1 == (IntKind.wrap .i64 ((a0.Kids.length : Int) - 1)))), (8, V.b false), (16, V.i a0.Kind), (56, V.b (a0.Kind == 41))]) [(100, .cells 53 [V.i a0.Kind, V.i a0.Op, V.s a0.Text, V.s a0.Other, .sl false false (a0.Kids.map encI)])] (by kernel_rfl) (fun st hw => ?_)
     exact hk130 (a2, a1, a0, (a0.Kind == 41)) h94 _ (hw.trans (Weak.sel [(100, 100)] [2, 3, 7, 8, 16, 56] (by kernel_rfl) (by kernel_rfl) (by kernel_rfl)))
   intro hk133
   refine cu Dk mix 2 101 (tl 99 [(1, V.i a1), (2, V.i a2), (3, .loc 100 0), (7, V.b (a1 == (IntKind.wrap .i64 ((a0.Kids.length : Int) - 1)))), (8, V.b false), (16, V.i a0.Kind), (38, V.b (a0.Kind == 28))]) [(100, .cells 53 [V.i a0.Kind, V.i a0.Op, V.s a0.Text, V.s a0.Other, .sl false false (a0.Kids.map encI)])] (by kernel_rfl) ?_
   rcases cond_some h73 with ⟨hc134, h73⟩ | ⟨hc134, h73⟩
   ·refine CO.ifT hc134 (by kernel_rfl) ?_
    refine CO.skip ?_
    exact hk133 (a1, a2, a0, (a0.Kind == 28)) h73 _ (Weak.sel [(100, 100)] [1, 2, 3, 7, 8, 16, 38] (by kernel_rfl) (by kernel_rfl) (by kernel_rfl))
   refine CO.ifF hc134 (by kernel_rfl) ?_
   refine ce Dk mix 2 101 (tl 99 [(1, V.i a1), (2, V.i a2), (3, .loc 100 0), (7, V.b (a1 == (IntKind.wrap .i64 ((a0.Kids.length : Int) - 1)))), (8, V.b false), (16, V.i a0.Kind), (38, V.b (a0.Kind == 29))]) [(100, .cells 53 [V.i a0.Kind, V.i a0.Op, V.s a0.Text, V.s a0.Other, .sl false false (a0.Kids.map encI)])] (by kernel_rfl) (fun st hw => ?_)
   exact hk133 (a1, a2, a0, (a0.Kind == 29)) h73 _ (hw.trans (Weak.sel [(100, 100)] [1, 2, 3, 7, 8, 16, 38] (by kernel_rfl) (by kernel_rfl) (by kernel_rfl)))
 intro hk135
 refine cu Dk mix 2 101 (tl 99 [(1, V.i a1), (2, V.i a2), (3, .loc 100 0), (7, V.b (a1 == (IntKind.wrap .i64 ((a0.Kids.length : Int) - 1)))), (8, V.b false), (16, V.i a0.Kind), (17, V.b (a0.Kind == 9))]) [(100, .cells 53 [V.i a0.Kind, V.i a0.Op, V.s a0.Text, V.s a0.Other, .sl false false (a0.Kids.map encI)])] (by kernel_rfl) ?_
 rcases cond_some h with ⟨hc136, h⟩ | ⟨hc136, h⟩
 ·refine CO.ifT hc136 (by kernel_rfl) ?_
  refine CO.skip ?_
  exact hk135 (a1, a2, a0, (a0.Kind == 9)) h _ (Weak.sel [(100, 100)] [1, 2, 3, 7, 8, 16, 17] (by kernel_rfl) (by kernel_rfl) (by kernel_rfl))
 refine CO.ifF hc136 (by kernel_rfl) ?_
 refine ce Dk mix 2 101 (tl 99 [(1, V.i a1), (2, V.i a2), (3, .loc 100 0), (7, V.b (a1 == (IntKind.wrap .i64 ((a0.Kids.length : Int) - 1)))), (8, V.b false), (16, V.i a0.Kind), (17, V.b (a0.Kind == 10))]) [(100, .cells 53 [V.i a0.Kind, V.i a0.Op, V.s a0.Text, V.s a0.Other, .sl false false (a0.Kids.map encI)])] (by kernel_rfl) (fun st hw => ?_)
 exact hk135 (a1, a2, a0, (a0.Kind == 10)) h _ (hw.trans (Weak.sel [(100, 100)] [1, 2, 3, 7, 8, 16, 17] (by kernel_rfl) (by kernel_rfl) (by kernel_rfl)))

structure RecOk2 (R : Rec2) : Prop where
  m_impl_treeAt : ∀ (a0 : List SNode) (a1 : Int) (r : STree), R.m_impl_treeAt a0 a1 = some r → AC Tryz.prog (GS []) 73 [.sl false false (a0.map (eSN false)), V.i a1] [] (.agg [V.i r.kind, V.i r.op, V.s r.text, V.s r.other, .sl false false (r.kids.map eST)]) []

theorem m_impl_treeAt_F_ok (N : Nat) (R : Rec2) (HR : RecOk2 R) (a0 : List SNode) (a1 : Int) {r : STree} (h : m_impl_treeAt_F N R a0 a1 = some r) :
    AC Tryz.prog (GS []) 73 [.sl false false (a0.map (eSN false)), V.i a1] [] (.agg [V.i r.kind, V.i r.op, V.s r.text, V.s r.other, .sl false false (r.kids.map eST)]) [] := by
 rw [m_impl_treeAt_F] at h
 refine AC.enter Tryz.func73 rfl ?_
 refine cu Dk mix 1 100 (tl 39 [(0, .sl false false (a0.map (eSN false))), (1, V.i a1), (4, .loc 100 0)]) [(100, .cells 76 [V.i 0, V.i 0, V.s [], V.s [], .c (.slice none 0 0)])] (by kernel_rfl) ?_
 obtain ⟨e2, hx2, h⟩ := bind_some h
 refine CO.cutR (tl 39 [(0, .sl false false (a0.map (eSN false))), (4, .loc 100 0), (5, .loc 101 0)]) [(101, .cells 53 [V.i e2.Kind, V.i e2.Op, V.s e2.Text, V.s e2.Other, .sl false false (e2.Kids.map encI)]), (100, .cells 76 [V.i 0, V.i 0, V.s [], V.s [], .c (.slice none 0 0)])] mix (by
  refine W.run Dk 2 101 (by kernel_rfl) ?_
  refine W.ixD Dk (eSN false) hx2 5 (by kernel_rfl) (by kernel_rfl) ?_
  refine W.run Dk 3 101 (by kernel_rfl) ?_
  exact W.fi (by kernel_rfl)
  ) ?_
 refine cu Dk mix 11 102 (tl 39 [(0, .sl false false (a0.map (eSN false))), (4, .loc 100 0), (5, .loc 101 0), (6, .loc 102 0)]) [(102, .cells 76 [V.i e2.Kind, V.i e2.Op, V.s e2.Text, V.s e2.Other, .c (.slice none 0 0)]), (101, .cells 53 [V.i e2.Kind, V.i e2.Op, V.s e2.Text, V.s e2.Other, .sl false false (e2.Kids.map encI)]), (100, .cells 76 [V.i 0, V.i 0, V.s [], V.s [], .c (.slice none 0 0)])] (by kernel_rfl) ?_
 refine CO.seq' ?_
 refine CO.cutR (tl 39 [(0, .sl false false (a0.map (eSN false))), (4, .loc 100 0), (6, .loc 102 0), (23, .sl false false (e2.Kids.map encI)), (24, V.i (e2.Kids.length : Int)), (25, V.i 0)]) [(102, .cells 76 [V.i e2.Kind, V.i e2.Op, V.s e2.Text, V.s e2.Other, .c (.slice none 0 0)]), (100, .cells 76 [V.i 0, V.i 0, V.s [], V.s [], .c (.slice none 0 0)])] mix (by
  refine W.run Dk 2 103 (by kernel_rfl) ?_
  refine W.len Dk encI e2.Kids [] (by kernel_rfl) (by kernel_rfl) ?_
  refine W.run Dk 1 103 (by kernel_rfl) ?_
  exact W.fi (by kernel_rfl)
  ) ?_
 refine CO.block' ?_
 refine CO.loopJ (fun (⟨a0, e2, y63, y64⟩ : ((List SNode) × SNode × Int × (List STree))) => ⟨tl 39 [(0, .sl false false (a0.map (eSN false))), (4, .loc 100 0), (6, .loc 101 0), (23, .sl false false (e2.Kids.map encI)), (24, V.i (e2.Kids.length : Int)), (25, V.i y63)], [(100, .cells 76 [V.i 0, V.i 0, V.s [], V.s [], .c (.slice none 0 0)]), (101, .cells 76 [V.i e2.Kind, V.i e2.Op, V.s e2.Text, V.s e2.Other, .own 102]), (102, .vec false 76 5 (y64.map eST))]⟩) (fun n i => m_impl_treeAt_l1 N R n i = some r) (n0 := N) (i0 := (a0, e2, 0, [])) ((Weak.nilCell 102 4 103 76 5 (ety := 76) (cs := [V.i e2.Kind, V.i e2.Op, V.s e2.Text, V.s e2.Other, .c (.slice none 0 0)]) (by kernel_rfl) (by kernel_rfl) (by kernel_rfl)).trans (Weak.sel [(100, 100), (102, 101), (103, 102)] [0, 4, 6, 23, 24, 25] (by kernel_rfl) (by kernel_rfl) (by kernel_rfl))) h (fun i h => by simp [m_impl_treeAt_l1] at h) ?_
 rintro n1 ⟨a0, e2, y63, y64⟩ h83 ih84
 rw [m_impl_treeAt_l1] at h83
 refine cu Dk mix 1 168 (tl 39 [(0, .sl false false (a0.map (eSN false))), (4, .loc 100 0), (6, .loc 101 0), (23, .sl false false (e2.Kids.map encI)), (24, V.i (e2.Kids.length : Int)), (25, V.i y63), (26, V.b (decide (y63 < (e2.Kids.length : Int))))]) [(100, .cells 76 [V.i 0, V.i 0, V.s [], V.s [], .c (.slice none 0 0)]), (101, .cells 76 [V.i e2.Kind, V.i e2.Op, V.s e2.Text, V.s e2.Other, .own 102]), (102, .vec false 76 5 (y64.map eST))] (by kernel_rfl) ?_
 refine CO.seq' ?_
 rcases cond_some h83 with ⟨hc86, h83⟩ | ⟨hc86, h83⟩
 ·refine CO.ifT hc86 (by kernel_rfl) ?_
  refine CO.skip ?_
  refine CO.seq' ?_
  refine CO.block' ?_
  obtain ⟨e86, hx94, h83⟩ := bind_some h83
  refine CO.cutR (tl 39 [(0, .sl false false (a0.map (eSN false))), (4, .loc 100 0), (6, .loc 101 0), (8, V.i e86), (23, .sl false false (e2.Kids.map encI)), (24, V.i (e2.Kids.length : Int)), (25, V.i y63)]) [(100, .cells 76 [V.i 0, V.i 0, V.s [], V.s [], .c (.slice none 0 0)]), (101, .cells 76 [V.i e2.Kind, V.i e2.Op, V.s e2.Text, V.s e2.Other, .own 102]), (102, .vec false 76 5 (y64.map eST))] mix (by
   refine W.ixD Dk encI hx94 1 (by kernel_rfl) (by kernel_rfl) ?_
   refine W.run Dk 2 168 (by kernel_rfl) ?_
   exact W.fi (by kernel_rfl)
   ) ?_
  obtain ⟨r89, hx97, h83⟩ := bind_some h83
  obtain ⟨x90, hx98, h83⟩ := bind_some h83
  refine CO.endR (tl 39 [(0, .sl false false (a0.map (eSN false))), (4, .loc 100 0), (6, .loc 101 0), (23, .sl false false (e2.Kids.map encI)), (24, V.i (e2.Kids.length : Int)), (25, V.i y63)]) [(101, .cells 76 [V.i e2.Kind, V.i e2.Op, V.s e2.Text, V.s e2.Other, .own 169]), (169, .vec false 76 5 (x90.map eST)), (100, .cells 76 [V.i 0, V.i 0, V.s [], V.s [], .c (.slice none 0 0)])] mix (by
   refine W.run Dk 4 168 (by kernel_rfl) ?_
   refine W.call0 (HR.m_impl_treeAt a0 e86 _ hx97) cok73 rfl (by kernel_rfl) ?_
   refine W.layop Dk (show LayOk _ [] from trivial) (by kernel_rfl) 168 { v := .own 168, R := [], new := [(168, .vec true 76 5 [[V.i r89.kind, V.i r89.op, V.s r89.text, V.s r89.other, .sl false false (r89.kids.map eST)]])], N := [168] } (by kernel_rfl) ?_
   refine W.vecEq 168 (nn := true) (e := 76) (k := 5) (rows := [[V.i r89.kind, V.i r89.op, V.s r89.text, V.s r89.other, .sl false false (r89.kids.map eST)]]) (rows' := [r89].map eST) (by kernel_rfl) (by simp only [List.map_cons, List.map_nil, encSTree_eq]) ?_
   refine W.appO Dk eST (a := 102) (c := 168) (el := 76) (sz := 5) 72 hx98 rfl 169 (by kernel_rfl) ?_
   refine W.run Dk 2 170 (by kernel_rfl) ?_
   exact W.fi (by kernel_rfl)
   ) (fun st hw => ?_)
  refine CO.weak hw ?_
  refine ce Dk mix 2 170 (tl 39 [(0, .sl false false (a0.map (eSN false))), (4, .loc 100 0), (6, .loc 101 0), (23, .sl false false (e2.Kids.map encI)), (24, V.i (e2.Kids.length : Int)), (25, V.i (IntKind.wrap .i64 (y63 + 1)))]) [(101, .cells 76 [V.i e2.Kind, V.i e2.Op, V.s e2.Text, V.s e2.Other, .own 169]), (169, .vec false 76 5 (x90.map eST)), (100, .cells 76 [V.i 0, V.i 0, V.s [], V.s [], .c (.slice none 0 0)])] (by kernel_rfl) (fun st hw => ?_)
  exact ih84 (a0, e2, (IntKind.wrap .i64 (y63 + 1)), x90) h83 _ (hw.trans (Weak.sel [(100, 100), (101, 101), (169, 102)] [0, 4, 6, 23, 24, 25] (by kernel_rfl) (by kernel_rfl) (by kernel_rfl)))
 refine CO.ifF hc86 (by kernel_rfl) ?_
 refine CO.exit ?_
 refine cu Dk mix 2 168 (tl 39 [(4, .loc 100 0)]) [(100, .cells 76 [V.i e2.Kind, V.i e2.Op, V.s e2.Text, V.s e2.Other, .own 102]), (102, .vec false 76 5 (y64.map eST))] (by kernel_rfl) ?_
 refine CO.lay (tl 39 [(4, .loc 100 0)]) [(100, .cells 76 [V.i e2.Kind, V.i e2.Op, V.s e2.Text, V.s e2.Other, .sl false false (y64.map eST)])] (LayOk.cons (j := 102) eST eST y64 (by kernel_rfl) (share_encSTree) (show LayOk _ [] from trivial)) (by kernel_rfl) (by kernel_rfl) (by kernel_rfl) ?_
 refine CO.ret ?_
 have h83 := Option.some.inj h83
 subst h83
 exact Ends.gen [] (.inr rfl) (RetV.one rfl (OneR.cell Dk (r := .agg [V.i e2.Kind, V.i e2.Op, V.s e2.Text, V.s e2.Other, .sl false false (y64.map eST)]) (i := 100) (ety := 76) (cs := [V.i e2.Kind, V.i e2.Op, V.s e2.Text, V.s e2.Other, .sl false false (y64.map eST)]) (by kernel_rfl) (by kernel_rfl) (by kernel_rfl))) (by kernel_rfl) (by kernel_rfl) (by kernel_rfl)

theorem scc2_ok : ∀ N, RecOk2 (scc2 N)
  | 0 => ⟨fun _ _ _ h => (by cases h)⟩
  | N + 1 => ⟨fun a0 a1 _ h => m_impl_treeAt_F_ok N (scc2 N) (scc2_ok N) a0 a1 h⟩

theorem m_impl_treeAt_ok (N : Nat) (a0 : List SNode) (a1 : Int) {r : STree} (h : m_impl_treeAt N a0 a1 = some r) :
    AC Tryz.prog (GS []) 73 [.sl false false (a0.map (eSN false)), V.i a1] [] (.agg [V.i r.kind, V.i r.op, V.s r.text, V.s r.other, .sl false false (r.kids.map eST)]) [] :=
  (scc2_ok N).m_impl_treeAt a0 a1 r h

theorem m_impl_rootOf_ok (N : Nat) (a0 : List SNode) {r : STree} (h : m_impl_rootOf N a0 = some r) :
    AC Tryz.prog (GS []) 61 [.sl false false (a0.map (eSN false))] [] (.agg [V.i r.kind, V.i r.op, V.s r.text, V.s r.other, .sl false false (r.kids.map eST)]) [] := by
 rw [m_impl_rootOf] at h
 refine AC.enter Tryz.func61 rfl ?_
 refine cu Dk mix 1 100 (tl 8 [(0, .sl false false (a0.map (eSN false))), (2, .loc 100 0)]) [(100, .cells 76 [V.i 0, V.i 0, V.s [], V.s [], .c (.slice none 0 0)])] (by kernel_rfl) ?_
 obtain ⟨r2, hx2, h⟩ := bind_some h
 refine CO.cutR (tl 8 [(2, .loc 100 0)]) [(100, .cells 76 [V.i r2.kind, V.i r2.op, V.s r2.text, V.s r2.other, .sl false false (r2.kids.map eST)])] mix (by
  refine W.run Dk 2 101 (by kernel_rfl) ?_
  refine W.len Dk (eSN false) a0 [] (by kernel_rfl) (by kernel_rfl) ?_
  refine W.run Dk 1 101 (by kernel_rfl) ?_
  refine W.call0 (m_impl_treeAt_ok N a0 (IntKind.wrap .i64 ((a0.length : Int) - 1)) hx2) cok73 rfl (by kernel_rfl) ?_
  refine W.run Dk 1 101 (by kernel_rfl) ?_
  exact W.fi (by kernel_rfl)
  ) ?_
 refine CO.ret ?_
 have h := Option.some.inj h
 subst h
 exact Ends.gen [] (.inr rfl) (RetV.one rfl (OneR.cell Dk (r := .agg [V.i r2.kind, V.i r2.op, V.s r2.text, V.s r2.other, .sl false false (r2.kids.map eST)]) (i := 100) (ety := 76) (cs := [V.i r2.kind, V.i r2.op, V.s r2.text, V.s r2.other, .sl false false (r2.kids.map eST)]) (by kernel_rfl) (by kernel_rfl) (by kernel_rfl))) (by kernel_rfl) (by kernel_rfl) (by kernel_rfl)

structure RecOk3 (R : Rec3) : Prop where
  m_impl_tree__depth : ∀ (a0 : STree) (r : Int), R.m_impl_tree__depth a0 = some r → AC Tryz.prog (GS []) 95 [.agg [V.i a0.kind, V.i a0.op, V.s a0.text, V.s a0.other, .sl false false (a0.kids.map eST)]] [] (V.i r) []

theorem m_impl_tree__depth_F_ok (N : Nat) (R : Rec3) (HR : RecOk3 R) (a0 : STree) {r : Int} (h : m_impl_tree__depth_F N R a0 = some r) :
    AC Tryz.prog (GS []) 95 [.agg [V.i a0.kind, V.i a0.op, V.s a0.text, V.s a0.other, .sl false false (a0.kids.map eST)]] [] (V.i r) [] := by
 rw [m_impl_tree__depth_F] at h
 refine AC.enter Tryz.func95 rfl ?_
 refine cu Dk mix 2 100 (tl 20 [(1, .loc 100 0)]) [(100, .cells 76 [V.i a0.kind, V.i a0.op, V.s a0.text, V.s a0.other, .sl false false (a0.kids.map eST)])] (by kernel_rfl) ?_
 refine cu Dk mix 1 101 (tl 20 [(1, .loc 100 0), (3, V.i 0)]) [(100, .cells 76 [V.i a0.kind, V.i a0.op, V.s a0.text, V.s a0.other, .sl false false (a0.kids.map eST)])] (by kernel_rfl) ?_
 refine CO.seq' ?_
 refine CO.cutR (tl 20 [(3, V.i 0), (7, .sl false false (a0.kids.map eST)), (8, V.i (a0.kids.length : Int)), (9, V.i 0)]) [] mix (by
  refine W.run Dk 2 101 (by kernel_rfl) ?_
  refine W.len Dk eST a0.kids [] (by kernel_rfl) (by kernel_rfl) ?_
  refine W.run Dk 1 101 (by kernel_rfl) ?_
  exact W.fi (by kernel_rfl)
  ) ?_
 refine CO.block' ?_
 refine CO.loopJ (fun (⟨a0, y37, y38⟩ : (STree × Int × Int)) => ⟨tl 20 [(3, V.i y37), (7, .sl false false (a0.kids.map eST)), (8, V.i (a0.kids.length : Int)), (9, V.i y38)], []⟩) (fun n i => m_impl_tree__depth_l1 N R n i = some r) (n0 := N) (i0 := (a0, 0, 0)) (Weak.sel [] [3, 7, 8, 9] (by kernel_rfl) (by kernel_rfl) (by kernel_rfl)) h (fun i h => by simp [m_impl_tree__depth_l1] at h) ?_
 rintro n1 ⟨a0, y37, y38⟩ h53 ih54
 rw [m_impl_tree__depth_l1] at h53
 refine cu Dk mix 1 163 (tl 20 [(3, V.i y37), (7, .sl false false (a0.kids.map eST)), (8, V.i (a0.kids.length : Int)), (9, V.i y38), (10, V.b (decide (y38 < (a0.kids.length : Int))))]) [] (by kernel_rfl) ?_
 refine CO.seq' ?_
 rcases cond_some h53 with ⟨hc56, h53⟩ | ⟨hc56, h53⟩
 ·refine CO.ifT hc56 (by kernel_rfl) ?_
  refine CO.skip ?_
  refine CO.seq' ?_
  refine CO.block' ?_
  obtain ⟨e54, hx62, h53⟩ := bind_some h53
  refine CO.cutR (tl 20 [(3, V.i y37), (5, .loc 163 0), (7, .sl false false (a0.kids.map eST)), (8, V.i (a0.kids.length : Int)), (9, V.i y38)]) [(163, .cells 76 [V.i e54.kind, V.i e54.op, V.s e54.text, V.s e54.other, .sl false false (e54.kids.map eST)])] mix (by
   refine W.ixDr Dk eST hx62 5 (by kernel_rfl) (encSTree_eq e54) (by kernel_rfl) ?_
   refine W.run Dk 3 163 (by kernel_rfl) ?_
   exact W.fi (by kernel_rfl)
   ) ?_
  obtain ⟨r56, hx64, h53⟩ := bind_some h53
  refine CO.endR (tl 20 [(3, V.i (if r56 > y37 then r56 else y37)), (7, .sl false false (a0.kids.map eST)), (8, V.i (a0.kids.length : Int)), (9, V.i y38)]) [] mix (by
   refine W.run Dk 2 164 (by kernel_rfl) ?_
   refine W.call0 (HR.m_impl_tree__depth e54 _ hx64) cok95 rfl (by kernel_rfl) ?_
   refine W.run Dk 2 164 (by kernel_rfl) ?_
   exact W.fi (by kernel_rfl)
   ) (fun st hw => ?_)
  refine CO.weak hw ?_
  refine ce Dk mix 2 164 (tl 20 [(3, V.i (if r56 > y37 then r56 else y37)), (7, .sl false false (a0.kids.map eST)), (8, V.i (a0.kids.length : Int)), (9, V.i (IntKind.wrap .i64 (y38 + 1)))]) [] (by kernel_rfl) (fun st hw => ?_)
  exact ih54 (a0, (if r56 > y37 then r56 else y37), (IntKind.wrap .i64 (y38 + 1))) h53 _ (hw.trans (Weak.sel [] [3, 7, 8, 9] (by kernel_rfl) (by kernel_rfl) (by kernel_rfl)))
 refine CO.ifF hc56 (by kernel_rfl) ?_
 refine CO.exit ?_
 refine cu Dk mix 3 163 (tl 20 [(2, V.i (IntKind.wrap .i64 (y37 + 1)))]) [] (by kernel_rfl) ?_
 refine CO.ret ?_
 have h53 := Option.some.inj h53
 subst h53
 exact Ends.gen [] (.inr rfl) (RetV.one rfl (OneR.tmp (t := 2) (r := V.i (IntKind.wrap .i64 (y37 + 1))) (by kernel_rfl))) (by kernel_rfl) (by kernel_rfl) (by kernel_rfl)

theorem scc3_ok : ∀ N, RecOk3 (scc3 N)
  | 0 => ⟨fun _ _ h => (by cases h)⟩
  | N + 1 => ⟨fun a0 _ h => m_impl_tree__depth_F_ok N (scc3 N) (scc3_ok N) a0 h⟩

theorem m_impl_tree__depth_ok (N : Nat) (a0 : STree) {r : Int} (h : m_impl_tree__depth N a0 = some r) :
    AC Tryz.prog (GS []) 95 [.agg [V.i a0.kind, V.i a0.op, V.s a0.text, V.s a0.other, .sl false false (a0.kids.map eST)]] [] (V.i r) [] :=
  (scc3_ok N).m_impl_tree__depth a0 r h

theorem m_impl_TreeOk_ok (N : Nat) (a0 : List SNode) {r : Bool} (h : m_impl_TreeOk N a0 = some r) :
    AC Tryz.prog (GS [0, 1, 2]) 48 [.sl false false (a0.map (eSN false))] [] (V.b r) [] := by
 rw [m_impl_TreeOk] at h
 refine AC.enter Tryz.func48 rfl ?_
 refine cu Dk mix 1 100 (tl 42 [(0, .sl false false (a0.map (eSN false)))]) [] (by kernel_rfl) ?_
 refine CO.seq' ?_
 obtain ⟨r4, hx5, h⟩ := bind_some h
 refine CO.cutR (tl 42 [(0, .sl false false (a0.map (eSN false))), (9, V.b (!r4))]) [] mix (by
  refine W.run Dk 1 100 (by kernel_rfl) ?_
  refine W.call0 (AC.gs (m_impl_ShapeOk_ok N a0 hx5) (by decide)) cok92 rfl (by kernel_rfl) ?_
  refine W.run Dk 1 100 (by kernel_rfl) ?_
  exact W.fi (by kernel_rfl)
  ) ?_
 rcases cond_some h with ⟨hc6, h⟩ | ⟨hc6, h⟩
 ·refine CO.ifT hc6 (by kernel_rfl) ?_
  refine cu Dk mix 1 100 (tl 42 [(2, V.b false)]) [] (by kernel_rfl) ?_
  refine CO.ret ?_
  have h := Option.some.inj h
  subst h
  exact Ends.gen [] (.inr rfl) (RetV.one rfl (OneR.tmp (t := 2) (r := V.b false) (by kernel_rfl))) (by kernel_rfl) (by kernel_rfl) (by kernel_rfl)
 refine CO.ifF hc6 (by kernel_rfl) ?_
 refine CO.skip ?_
 refine CO.seq' ?_
 refine CO.cutR (tl 42 [(0, .sl false false (a0.map (eSN false))), (10, .sl false false (a0.map (eSN false))), (11, V.i (a0.length : Int)), (12, V.i 0)]) [] mix (by
  refine W.run Dk 1 100 (by kernel_rfl) ?_
  refine W.len Dk (eSN false) a0 [] (by kernel_rfl) (by kernel_rfl) ?_
  refine W.run Dk 1 100 (by kernel_rfl) ?_
  exact W.fi (by kernel_rfl)
  ) ?_
 refine CO.block' ?_
 refine CO.loopJ (fun (⟨a0, y359⟩ : ((List SNode) × Int)) => ⟨tl 42 [(0, .sl false false (a0.map (eSN false))), (10, .sl false false (a0.map (eSN false))), (11, V.i (a0.length : Int)), (12, V.i y359)], []⟩) (fun n i => m_impl_TreeOk_l1 N n i = some r) (n0 := N) (i0 := (a0, 0)) (Weak.sel [] [0, 10, 11, 12] (by kernel_rfl) (by kernel_rfl) (by kernel_rfl)) h (fun i h => by simp [m_impl_TreeOk_l1] at h) ?_
 rintro n1 ⟨a0, y359⟩ h599 ih600
 rw [m_impl_TreeOk_l1] at h599
 refine cu Dk mix 1 282 (tl 42 [(0, .sl false false (a0.map (eSN false))), (10, .sl false false (a0.map (eSN false))), (11, V.i (a0.length : Int)), (12, V.i y359), (13, V.b (decide (y359 < (a0.length : Int))))]) [] (by kernel_rfl) ?_
 refine CO.seq' ?_
 rcases cond_some h599 with ⟨hc602, h599⟩ | ⟨hc602, h599⟩
 ·refine CO.ifT hc602 (by kernel_rfl) ?_
  refine CO.skip ?_
  refine CO.seq' ?_
  refine CO.block' ?_
  obtain ⟨e494, hx662, h599⟩ := bind_some h599
  refine CO.cutR (tl 42 [(0, .sl false false (a0.map (eSN false))), (4, .loc 282 0), (10, .sl false false (a0.map (eSN false))), (11, V.i (a0.length : Int)), (12, V.i y359)]) [(282, .cells 53 [V.i e494.Kind, V.i e494.Op, V.s e494.Text, V.s e494.Other, .sl false false (e494.Kids.map encI)])] mix (by
   refine W.ixD Dk (eSN false) hx662 5 (by kernel_rfl) (by kernel_rfl) ?_
   refine W.run Dk 3 282 (by kernel_rfl) ?_
   exact W.fi (by kernel_rfl)
   ) ?_
  refine CO.seq' ?_
  obtain ⟨r498, hx667, h599⟩ := bind_some h599
  refine CO.cutR (tl 42 [(0, .sl false false (a0.map (eSN false))), (4, .loc 282 0), (10, .sl false false (a0.map (eSN false))), (11, V.i (a0.length : Int)), (12, V.i y359), (18, V.b (!r498))]) [(282, .cells 53 [V.i e494.Kind, V.i e494.Op, V.s e494.Text, V.s e494.Other, .sl false false (e494.Kids.map encI)])] mix (by
   refine W.run Dk 1 283 (by kernel_rfl) ?_
   refine W.call0 (m_impl_FieldsOk_ok N e494 hx667) cok93 rfl (by kernel_rfl) ?_
   refine W.run Dk 1 283 (by kernel_rfl) ?_
   exact W.fi (by kernel_rfl)
   ) ?_
  rcases cond_some h599 with ⟨hc668, h599⟩ | ⟨hc668, h599⟩
  ·refine CO.ifT hc668 (by kernel_rfl) ?_
   refine cu Dk mix 1 283 (tl 42 [(2, V.b false)]) [] (by kernel_rfl) ?_
   refine CO.ret ?_
   have h599 := Option.some.inj h599
   subst h599
   exact Ends.gen [] (.inr rfl) (RetV.one rfl (OneR.tmp (t := 2) (r := V.b false) (by kernel_rfl))) (by kernel_rfl) (by kernel_rfl) (by kernel_rfl)
  refine CO.ifF hc668 (by kernel_rfl) ?_
  refine CO.skip ?_
  refine CO.cutR (tl 42 [(0, .sl false false (a0.map (eSN false))), (4, .loc 282 0), (10, .sl false false (a0.map (eSN false))), (11, V.i (a0.length : Int)), (12, V.i y359), (20, .sl false false (e494.Kids.map encI)), (21, V.i (e494.Kids.length : Int)), (22, V.i 0)]) [(282, .cells 53 [V.i e494.Kind, V.i e494.Op, V.s e494.Text, V.s e494.Other, .sl false false (e494.Kids.map encI)])] mix (by
   refine W.run Dk 2 283 (by kernel_rfl) ?_
   refine W.len Dk encI e494.Kids [] (by kernel_rfl) (by kernel_rfl) ?_
   refine W.run Dk 1 283 (by kernel_rfl) ?_
   exact W.fi (by kernel_rfl)
   ) ?_
  refine CO.block' ?_
  refine CO.loopJ (fun (⟨a0, y359, e494, y511⟩ : ((List SNode) × Int × SNode × Int)) => ⟨tl 42 [(0, .sl false false (a0.map (eSN false))), (4, .loc 100 0), (10, .sl false false (a0.map (eSN false))), (11, V.i (a0.length : Int)), (12, V.i y359), (20, .sl false false (e494.Kids.map encI)), (21, V.i (e494.Kids.length : Int)), (22, V.i y511)], [(100, .cells 53 [V.i e494.Kind, V.i e494.Op, V.s e494.Text, V.s e494.Other, .sl false false (e494.Kids.map encI)])]⟩) (fun n i => m_impl_TreeOk_l2 N (m_impl_TreeOk_l1 N n1) n i = some r) (n0 := N) (i0 := (a0, y359, e494, 0)) (Weak.sel [(282, 100)] [0, 4, 10, 11, 12, 20, 21, 22] (by kernel_rfl) (by kernel_rfl) (by kernel_rfl)) h599 (fun i h => by simp [m_impl_TreeOk_l2] at h) ?_
  rintro n2 ⟨a0, y359, e494, y511⟩ h701 ih702
  rw [m_impl_TreeOk_l2] at h701
  refine cu Dk mix 1 343 (tl 42 [(0, .sl false false (a0.map (eSN false))), (4, .loc 100 0), (10, .sl false false (a0.map (eSN false))), (11, V.i (a0.length : Int)), (12, V.i y359), (20, .sl false false (e494.Kids.map encI)), (21, V.i (e494.Kids.length : Int)), (22, V.i y511), (23, V.b (decide (y511 < (e494.Kids.length : Int))))]) [(100, .cells 53 [V.i e494.Kind, V.i e494.Op, V.s e494.Text, V.s e494.Other, .sl false false (e494.Kids.map encI)])] (by kernel_rfl) ?_
  refine CO.seq' ?_
  rcases cond_some h701 with ⟨hc704, h701⟩ | ⟨hc704, h701⟩
  ·refine CO.ifT hc704 (by kernel_rfl) ?_
   refine CO.skip ?_
   refine CO.seq' ?_
   refine CO.block' ?_
   obtain ⟨e532, hx713, h701⟩ := bind_some h701
   refine CO.cutR (tl 42 [(0, .sl false false (a0.map (eSN false))), (4, .loc 100 0), (5, V.i y511), (6, V.i e532), (10, .sl false false (a0.map (eSN false))), (11, V.i (a0.length : Int)), (12, V.i y359), (20, .sl false false (e494.Kids.map encI)), (21, V.i (e494.Kids.length : Int)), (22, V.i y511)]) [(100, .cells 53 [V.i e494.Kind, V.i e494.Op, V.s e494.Text, V.s e494.Other, .sl false false (e494.Kids.map encI)])] mix (by
    refine W.run Dk 1 343 (by kernel_rfl) ?_
    refine W.ixD Dk encI hx713 1 (by kernel_rfl) (by kernel_rfl) ?_
    refine W.run Dk 3 343 (by kernel_rfl) ?_
    exact W.fi (by kernel_rfl)
    ) ?_
   obtain ⟨e535, hx716, h701⟩ := bind_some h701
   obtain ⟨r536, hx717, h701⟩ := bind_some h701
   refine CO.cutR (tl 42 [(0, .sl false false (a0.map (eSN false))), (4, .loc 100 0), (10, .sl false false (a0.map (eSN false))), (11, V.i (a0.length : Int)), (12, V.i y359), (20, .sl false false (e494.Kids.map encI)), (21, V.i (e494.Kids.length : Int)), (22, V.i y511), (35, V.b (!r536))]) [(100, .cells 53 [V.i e494.Kind, V.i e494.Op, V.s e494.Text, V.s e494.Other, .sl false false (e494.Kids.map encI)])] mix (by
    refine W.run Dk 4 343 (by kernel_rfl) ?_
    refine W.ixD Dk (eSN false) hx716 5 (by kernel_rfl) (by kernel_rfl) ?_
    refine W.run Dk 2 343 (by kernel_rfl) ?_
    refine W.call0 (AC.gs (m_impl_kidOk_ok e494 y511 e535.Kind hx717) (by decide)) cok94 rfl (by kernel_rfl) ?_
    refine W.run Dk 1 343 (by kernel_rfl) ?_
    exact W.fi (by kernel_rfl)
    ) ?_
   rcases cond_some h701 with ⟨hc718, h701⟩ | ⟨hc718, h701⟩
   ·refine CO.ifT hc718 (by kernel_rfl) ?_
    refine cu Dk mix 1 343 (tl 42 [(2, V.b false)]) [] (by kernel_rfl) ?_
    refine CO.ret ?_
    have h701 := Option.some.inj h701
    subst h701
    exact Ends.gen [] (.inr rfl) (RetV.one rfl (OneR.tmp (t := 2) (r := V.b false) (by kernel_rfl))) (by kernel_rfl) (by kernel_rfl) (by kernel_rfl)
   refine CO.ifF hc718 (by kernel_rfl) ?_
   refine CO.skip ?_
   refine ce Dk mix 2 343 (tl 42 [(0, .sl false false (a0.map (eSN false))), (4, .loc 100 0), (10, .sl false false (a0.map (eSN false))), (11, V.i (a0.length : Int)), (12, V.i y359), (20, .sl false false (e494.Kids.map encI)), (21, V.i (e494.Kids.length : Int)), (22, V.i (IntKind.wrap .i64 (y511 + 1)))]) [(100, .cells 53 [V.i e494.Kind, V.i e494.Op, V.s e494.Text, V.s e494.Other, .sl false false (e494.Kids.map encI)])] (by kernel_rfl) (fun st hw => ?_)
   exact ih702 (a0, y359, e494, (IntKind.wrap .i64 (y511 + 1))) h701 _ (hw.trans (Weak.sel [(100, 100)] [0, 4, 10, 11, 12, 20, 21, 22] (by kernel_rfl) (by kernel_rfl) (by kernel_rfl)))
  refine CO.ifF hc704 (by kernel_rfl) ?_
  refine CO.exit ?_
  refine ce Dk mix 2 343 (tl 42 [(0, .sl false false (a0.map (eSN false))), (10, .sl false false (a0.map (eSN false))), (11, V.i (a0.length : Int)), (12, V.i (IntKind.wrap .i64 (y359 + 1)))]) [] (by kernel_rfl) (fun st hw => ?_)
  exact ih600 (a0, (IntKind.wrap .i64 (y359 + 1))) h701 _ (hw.trans (Weak.sel [] [0, 10, 11, 12] (by kernel_rfl) (by kernel_rfl) (by kernel_rfl)))
 refine CO.ifF hc602 (by kernel_rfl) ?_
 refine CO.exit ?_
 obtain ⟨r539, hx721, h599⟩ := bind_some h599
 obtain ⟨r540, hx722, h599⟩ := bind_some h599
 refine CO.cutR (tl 42 [(2, V.b (decide (r540 ≤ 40)))]) [] mix (by
  refine W.run Dk 1 282 (by kernel_rfl) ?_
  refine W.call0 (AC.gs (m_impl_rootOf_ok N a0 hx721) (by decide)) cok61 rfl (by kernel_rfl) ?_
  refine W.call0 (AC.gs (m_impl_tree__depth_ok N r539 hx722) (by decide)) cok95 rfl (by kernel_rfl) ?_
  refine W.run Dk 2 282 (by kernel_rfl) ?_
  exact W.fi (by kernel_rfl)
  ) ?_
 refine CO.ret ?_
 have h599 := Option.some.inj h599
 subst h599
 exact Ends.gen [] (.inr rfl) (RetV.one rfl (OneR.tmp (t := 2) (r := V.b (decide (r540 ≤ 40))) (by kernel_rfl))) (by kernel_rfl) (by kernel_rfl) (by kernel_rfl)

theorem m_impl_tree__isNot_ok (a0 : STree) {r : Bool} (h : m_impl_tree__isNot a0 = some r) :
    AC Tryz.prog (GS []) 113 [.agg [V.i a0.kind, V.i a0.op, V.s a0.text, V.s a0.other, .sl false false (a0.kids.map eST)]] [] (V.b r) [] := by
 rw [m_impl_tree__isNot] at h
 refine AC.enter Tryz.func113 rfl ?_
 refine cu Dk mix 2 100 (tl 11 [(1, .loc 100 0)]) [(100, .cells 76 [V.i a0.kind, V.i a0.op, V.s a0.text, V.s a0.other, .sl false false (a0.kids.map eST)])] (by kernel_rfl) ?_
 obtain ⟨y1, hv2, h⟩ := bind_some h
 refine CO.cutR (tl 11 [(2, V.b y1)]) [] mix (by
  refine W.run Dk 4 101 (by kernel_rfl) ?_
  rcases cond_some hv2 with ⟨hc3, hv2⟩ | ⟨hc3, hv2⟩
  ·refine W.is 6 hc3 (by kernel_rfl) ?_
   refine W.run Dk 5 101 (by kernel_rfl) ?_
   have hv2 := Option.some.inj hv2
   subst hv2
   exact W.fs [] [2] (by kernel_rfl)
  refine W.is 6 hc3 (by kernel_rfl) ?_
  refine W.run Dk 5 101 (by kernel_rfl) ?_
  have hv2 := Option.some.inj hv2
  subst hv2
  exact W.fs [] [2] (by kernel_rfl)
  ) ?_
 refine CO.ret ?_
 have h := Option.some.inj h
 subst h
 exact Ends.gen [] (.inr rfl) (RetV.one rfl (OneR.tmp (t := 2) (r := V.b y1) (by kernel_rfl))) (by kernel_rfl) (by kernel_rfl) (by kernel_rfl)

theorem m_impl_opposite_ok (a0 : Int) {r : Int} (h : m_impl_opposite a0 = some r) :
    AC Tryz.prog (GS []) 117 [V.i a0] [] (V.i r) [] := by
 rw [m_impl_opposite] at h
 refine AC.enter Tryz.func117 rfl ?_
 refine cu Dk mix 1 100 (tl 20 [(0, V.i a0)]) [] (by kernel_rfl) ?_
 refine CO.seq' ?_
 refine cu Dk mix 1 100 (tl 20 [(3, V.i a0)]) [] (by kernel_rfl) ?_
 refine CO.block' ?_
 refine cu Dk mix 2 100 (tl 20 [(3, V.i a0), (4, V.b (a0 == 63))]) [] (by kernel_rfl) ?_
 rcases cond_some h with ⟨hc9, h⟩ | ⟨hc9, h⟩
 ·refine CO.ifT hc9 (by kernel_rfl) ?_
  refine cu Dk mix 1 100 (tl 20 [(2, V.i 49)]) [] (by kernel_rfl) ?_
  refine CO.ret ?_
  have h := Option.some.inj h
  subst h
  exact Ends.gen [] (.inr rfl) (RetV.one rfl (OneR.tmp (t := 2) (r := V.i 49) (by kernel_rfl))) (by kernel_rfl) (by kernel_rfl) (by kernel_rfl)
 refine CO.ifF hc9 (by kernel_rfl) ?_
 refine cu Dk mix 2 100 (tl 20 [(3, V.i a0), (6, V.b (a0 == 49))]) [] (by kernel_rfl) ?_
 rcases cond_some h with ⟨hc10, h⟩ | ⟨hc10, h⟩
 ·refine CO.ifT hc10 (by kernel_rfl) ?_
  refine cu Dk mix 1 100 (tl 20 [(2, V.i 63)]) [] (by kernel_rfl) ?_
  refine CO.ret ?_
  have h := Option.some.inj h
  subst h
  exact Ends.gen [] (.inr rfl) (RetV.one rfl (OneR.tmp (t := 2) (r := V.i 63) (by kernel_rfl))) (by kernel_rfl) (by kernel_rfl) (by kernel_rfl)
 refine CO.ifF hc10 (by kernel_rfl) ?_
 refine cu Dk mix 2 100 (tl 20 [(3, V.i a0), (8, V.b (a0 == 62))]) [] (by kernel_rfl) ?_
 rcases cond_some h with ⟨hc11, h⟩ | ⟨hc11, h⟩
 ·refine CO.ifT hc11 (by kernel_rfl) ?_
  refine cu Dk mix 1 100 (tl 20 [(2, V.i 48)]) [] (by kernel_rfl) ?_
  refine CO.ret ?_
  have h := Option.some.inj h
  subst h
  exact Ends.gen [] (.inr rfl) (RetV.one rfl (OneR.tmp (t := 2) (r := V.i 48) (by kernel_rfl))) (by kernel_rfl) (by kernel_rfl) (by kernel_rfl)
 refine CO.ifF hc11 (by kernel_rfl) ?_
 refine cu Dk mix 2 100 (tl 20 [(3, V.i a0), (10, V.b (a0 == 48))]) [] (by kernel_rfl) ?_
 rcases cond_some h with ⟨hc12, h⟩ | ⟨hc12, h⟩
 ·refine CO.ifT hc12 (by kernel_rfl) ?_
  refine cu Dk mix 1 100 (tl 20 [(2, V.i 62)]) [] (by kernel_rfl) ?_
  refine CO.ret ?_
  have h := Option.some.inj h
  subst h
  exact Ends.gen [] (.inr rfl) (RetV.one rfl (OneR.tmp (t := 2) (r := V.i 62) (by kernel_rfl))) (by kernel_rfl) (by kernel_rfl) (by kernel_rfl)
 refine CO.ifF hc12 (by kernel_rfl) ?_
 refine cu Dk mix 2 100 (tl 20 [(3, V.i a0), (12, V.b (a0 == 47))]) [] (by kernel_rfl) ?_
 rcases cond_some h with ⟨hc13, h⟩ | ⟨hc13, h⟩
 ·refine CO.ifT hc13 (by kernel_rfl) ?_
  refine cu Dk mix 1 100 (tl 20 [(2, V.i 50)]) [] (by kernel_rfl) ?_
  refine CO.ret ?_
  have h := Option.some.inj h
  subst h
  exact Ends.gen [] (.inr rfl) (RetV.one rfl (OneR.tmp (t := 2) (r := V.i 50) (by kernel_rfl))) (by kernel_rfl) (by kernel_rfl) (by kernel_rfl)
 refine CO.ifF hc13 (by kernel_rfl) ?_
 refine cu Dk mix 2 100 (tl 20 [(3, V.i a0), (14, V.b (a0 == 50))]) [] (by kernel_rfl) ?_
 rcases cond_some h with ⟨hc14, h⟩ | ⟨hc14, h⟩
 ·refine CO.ifT hc14 (by kernel_rfl) ?_
  refine cu Dk mix 1 100 (tl 20 [(2, V.i 47)]) [] (by kernel_rfl) ?_
  refine CO.ret ?_
  have h := Option.some.inj h
  subst h
  exact Ends.gen [] (.inr rfl) (RetV.one rfl (OneR.tmp (t := 2) (r := V.i 47) (by kernel_rfl))) (by kernel_rfl) (by kernel_rfl) (by kernel_rfl)
 refine CO.ifF hc14 (by kernel_rfl) ?_
 refine cu Dk mix 2 100 (tl 20 [(3, V.i a0), (16, V.b (a0 == 67))]) [] (by kernel_rfl) ?_
 rcases cond_some h with ⟨hc15, h⟩ | ⟨hc15, h⟩
 ·refine CO.ifT hc15 (by kernel_rfl) ?_
  refine cu Dk mix 1 100 (tl 20 [(2, V.i 46)]) [] (by kernel_rfl) ?_
  refine CO.ret ?_
  have h := Option.some.inj h
  subst h
  exact Ends.gen [] (.inr rfl) (RetV.one rfl (OneR.tmp (t := 2) (r := V.i 46) (by kernel_rfl))) (by kernel_rfl) (by kernel_rfl) (by kernel_rfl)
 refine CO.ifF hc15 (by kernel_rfl) ?_
 refine cu Dk mix 2 100 (tl 20 [(18, V.b (a0 == 46))]) [] (by kernel_rfl) ?_
 rcases cond_some h with ⟨hc16, h⟩ | ⟨hc16, h⟩
 ·refine CO.ifT hc16 (by kernel_rfl) ?_
  refine cu Dk mix 1 100 (tl 20 [(2, V.i 67)]) [] (by kernel_rfl) ?_
  refine CO.ret ?_
  have h := Option.some.inj h
  subst h
  exact Ends.gen [] (.inr rfl) (RetV.one rfl (OneR.tmp (t := 2) (r := V.i 67) (by kernel_rfl))) (by kernel_rfl) (by kernel_rfl) (by kernel_rfl)
 refine CO.ifF hc16 (by kernel_rfl) ?_
 refine CO.skip ?_
 refine cu Dk mix 1 100 (tl 20 [(2, V.i 0)]) [] (by kernel_rfl) ?_
 refine CO.ret ?_
 have h := Option.some.inj h
 subst h
 exact Ends.gen [] (.inr rfl) (RetV.one rfl (OneR.tmp (t := 2) (r := V.i 0) (by kernel_rfl))) (by kernel_rfl) (by kernel_rfl) (by kernel_rfl)

theorem m_impl_tree__isCompared_ok (a0 : STree) {r : Bool} (h : m_impl_tree__isCompared a0 = some r) :
    AC Tryz.prog (GS []) 114 [.agg [V.i a0.kind, V.i a0.op, V.s a0.text, V.s a0.other, .sl false false (a0.kids.map eST)]] [] (V.b r) [] := by
 rw [m_impl_tree__isCompared] at h
 refine AC.enter Tryz.func114 rfl ?_
 refine cu Dk mix 2 100 (tl 12 [(1, .loc 100 0)]) [(100, .cells 76 [V.i a0.kind, V.i a0.op, V.s a0.text, V.s a0.other, .sl false false (a0.kids.map eST)])] (by kernel_rfl) ?_
 obtain ⟨y2, hv3, h⟩ := bind_some h
 refine CO.cutR (tl 12 [(2, V.b y2)]) [] mix (by
  refine W.run Dk 4 101 (by kernel_rfl) ?_
  rcases cond_some hv3 with ⟨hc4, hv3⟩ | ⟨hc4, hv3⟩
  ·refine W.is 6 hc4 (by kernel_rfl) ?_
   refine W.run Dk 2 101 (by kernel_rfl) ?_
   obtain ⟨r3, hx5, hv3⟩ := bind_some hv3
   refine W.call0 (m_impl_opposite_ok a0.op hx5) cok117 rfl (by kernel_rfl) ?_
   refine W.run Dk 3 101 (by kernel_rfl) ?_
   have hv3 := Option.some.inj hv3
   subst hv3
   exact W.fs [] [2] (by kernel_rfl)
  refine W.is 6 hc4 (by kernel_rfl) ?_
  refine W.run Dk 6 101 (by kernel_rfl) ?_
  have hv3 := Option.some.inj hv3
  subst hv3
  exact W.fs [] [2] (by kernel_rfl)
  ) ?_
 refine CO.ret ?_
 have h := Option.some.inj h
 subst h
 exact Ends.gen [] (.inr rfl) (RetV.one rfl (OneR.tmp (t := 2) (r := V.b y2) (by kernel_rfl))) (by kernel_rfl) (by kernel_rfl) (by kernel_rfl)

theorem m_impl_tree__isLogic_ok (a0 : STree) {r : Bool} (h : m_impl_tree__isLogic a0 = some r) :
    AC Tryz.prog (GS []) 115 [.agg [V.i a0.kind, V.i a0.op, V.s a0.text, V.s a0.other, .sl false false (a0.kids.map eST)]] [] (V.b r) [] := by
 rw [m_impl_tree__isLogic] at h
 refine AC.enter Tryz.func115 rfl ?_
 refine cu Dk mix 2 100 (tl 16 [(1, .loc 100 0)]) [(100, .cells 76 [V.i a0.kind, V.i a0.op, V.s a0.text, V.s a0.other, .sl false false (a0.kids.map eST)])] (by kernel_rfl) ?_
 obtain ⟨y1, hv3, h⟩ := bind_some h
 refine CO.cutR (tl 16 [(2, V.b y1)]) [] mix (by
  refine W.run Dk 4 101 (by kernel_rfl) ?_
  rcases cond_some hv3 with ⟨hc4, hv3⟩ | ⟨hc4, hv3⟩
  ·refine W.is 6 hc4 (by kernel_rfl) ?_
   refine W.run Dk 4 101 (by kernel_rfl) ?_
   rcases cond_some hv3 with ⟨hc5, hv3⟩ | ⟨hc5, hv3⟩
   ·refine W.is 10 hc5 (by kernel_rfl) ?_
    refine W.run Dk 6 101 (by kernel_rfl) ?_
    have hv3 := Option.some.inj hv3
    subst hv3
    exact W.fs [] [2] (by kernel_rfl)
   refine W.is 10 hc5 (by kernel_rfl) ?_
   refine W.run Dk 6 101 (by kernel_rfl) ?_
   have hv3 := Option.some.inj hv3
   subst hv3
   exact W.fs [] [2] (by kernel_rfl)
  refine W.is 6 hc4 (by kernel_rfl) ?_
  refine W.run Dk 10 101 (by kernel_rfl) ?_
  have hv3 := Option.some.inj hv3
  subst hv3
  exact W.fs [] [2] (by kernel_rfl)
  ) ?_
 refine CO.ret ?_
 have h := Option.some.inj h
 subst h
 exact Ends.gen [] (.inr rfl) (RetV.one rfl (OneR.tmp (t := 2) (r := V.b y1) (by kernel_rfl))) (by kernel_rfl) (by kernel_rfl) (by kernel_rfl)

theorem m_impl_not_ok (a0 : STree) {r : STree} (h : m_impl_not a0 = some r) :
    AC Tryz.prog (GS []) 116 [.agg [V.i a0.kind, V.i a0.op, V.s a0.text, V.s a0.other, .sl false false (a0.kids.map eST)]] [] (.agg [V.i r.kind, V.i r.op, V.s r.text, V.s r.other, .sl false false (r.kids.map eST)]) [] := by
 rw [m_impl_not] at h
 refine AC.enter Tryz.func116 rfl ?_
 refine cu Dk mix 2 100 (tl 6 [(1, .loc 100 0), (2, .loc 101 0)]) [(101, .cells 76 [V.i 0, V.i 0, V.s [], V.s [], .c (.slice none 0 0)]), (100, .cells 76 [V.i a0.kind, V.i a0.op, V.s a0.text, V.s a0.other, .sl false false (a0.kids.map eST)])] (by kernel_rfl) ?_
 refine CO.cutR (tl 6 [(2, .loc 101 0)]) [(101, .cells 76 [V.i 11, V.i 61, V.s [], V.s [], .own 102]), (102, .vec false 76 5 ([a0].map eST))] mix (by
  refine W.run Dk 1 102 (by kernel_rfl) ?_
  refine W.layop Dk (show LayOk _ [] from trivial) (by kernel_rfl) 102 { v := .own 102, R := [], new := [(102, .vec true 76 5 [[V.i a0.kind, V.i a0.op, V.s a0.text, V.s a0.other, .sl false false (a0.kids.map eST)]])], N := [102] } (by kernel_rfl) ?_
  refine W.vecEq 102 (nn := true) (e := 76) (k := 5) (rows := [[V.i a0.kind, V.i a0.op, V.s a0.text, V.s a0.other, .sl false false (a0.kids.map eST)]]) (rows' := [a0].map eST) (by kernel_rfl) (by simp only [List.map_cons, List.map_nil, encSTree_eq]) ?_
  refine W.run Dk 2 103 (by kernel_rfl) ?_
  exact W.fi (by kernel_rfl)
  ) ?_
 refine CO.lay (tl 6 [(2, .loc 101 0)]) [(101, .cells 76 [V.i 11, V.i 61, V.s [], V.s [], .sl false false ([a0].map eST)])] (LayOk.cons (j := 102) eST eST ([a0] : List STree) (by kernel_rfl) (share_encSTree) (show LayOk _ [] from trivial)) (by kernel_rfl) (by kernel_rfl) (by kernel_rfl) ?_
 refine CO.ret ?_
 have h := Option.some.inj h
 subst h
 exact Ends.gen [] (.inr rfl) (RetV.one rfl (OneR.cell Dk (r := .agg [V.i 11, V.i 61, V.s [], V.s [], .sl false false ([a0].map eST)]) (i := 101) (ety := 76) (cs := [V.i 11, V.i 61, V.s [], V.s [], .sl false false ([a0].map eST)]) (by kernel_rfl) (by kernel_rfl) (by kernel_rfl))) (by kernel_rfl) (by kernel_rfl) (by kernel_rfl)

theorem m_impl_tree__with_ok (a0 : STree) (a1 : List STree) {r : STree} (h : m_impl_tree__with a0 a1 = some r) :
    AC Tryz.prog (GS []) 118 [.agg [V.i a0.kind, V.i a0.op, V.s a0.text, V.s a0.other, .sl false false (a0.kids.map eST)], .sl false false (a1.map eST)] [] (.agg [V.i r.kind, V.i r.op, V.s r.text, V.s r.other, .sl false false (r.kids.map eST)]) [] := by
 rw [m_impl_tree__with] at h
 refine AC.enter Tryz.func118 rfl ?_
 refine cu Dk mix 2 100 (tl 8 [(1, .sl false false (a1.map eST)), (2, .loc 100 0), (4, .loc 101 0)]) [(101, .cells 76 [V.i 0, V.i 0, V.s [], V.s [], .c (.slice none 0 0)]), (100, .cells 76 [V.i a0.kind, V.i a0.op, V.s a0.text, V.s a0.other, .sl false false (a0.kids.map eST)])] (by kernel_rfl) ?_
 refine cu Dk mix 3 102 (tl 8 [(2, .loc 100 0), (4, .loc 101 0)]) [(100, .cells 76 [V.i a0.kind, V.i a0.op, V.s a0.text, V.s a0.other, .sl false false (a1.map eST)]), (101, .cells 76 [V.i 0, V.i 0, V.s [], V.s [], .c (.slice none 0 0)])] (by kernel_rfl) ?_
 refine cu Dk mix 2 102 (tl 8 [(4, .loc 101 0)]) [(101, .cells 76 [V.i a0.kind, V.i a0.op, V.s a0.text, V.s a0.other, .sl false false (a1.map eST)])] (by kernel_rfl) ?_
 refine CO.ret ?_
 have h := Option.some.inj h
 subst h
 exact Ends.gen [] (.inr rfl) (RetV.one rfl (OneR.cell Dk (r := .agg [V.i a0.kind, V.i a0.op, V.s a0.text, V.s a0.other, .sl false false (a1.map eST)]) (i := 101) (ety := 76) (cs := [V.i a0.kind, V.i a0.op, V.s a0.text, V.s a0.other, .sl false false (a1.map eST)]) (by kernel_rfl) (by kernel_rfl) (by kernel_rfl))) (by kernel_rfl) (by kernel_rfl) (by kernel_rfl)

structure RecOk4 (R : Rec4) : Prop where
  m_impl_tree__negated : ∀ (a0 : STree) (r : STree), R.m_impl_tree__negated a0 = some r → AC Tryz.prog (GS []) 75 [.agg [V.i a0.kind, V.i a0.op, V.s a0.text, V.s a0.other, .sl false false (a0.kids.map eST)]] [] (.agg [V.i r.kind, V.i r.op, V.s r.text, V.s r.other, .sl false false (r.kids.map eST)]) []
  m_impl_tree__pushed : ∀ (a0 : STree) (r : STree), R.m_impl_tree__pushed a0 = some r → AC Tryz.prog (GS []) 77 [.agg [V.i a0.kind, V.i a0.op, V.s a0.text, V.s a0.other, .sl false false (a0.kids.map eST)]] [] (.agg [V.i r.kind, V.i r.op, V.s r.text, V.s r.other, .sl false false (r.kids.map eST)]) []

theorem m_impl_tree__negated_F_ok (N : Nat) (R : Rec4) (HR : RecOk4 R) (a0 : STree) {r : STree} (h : m_impl_tree__negated_F N R a0 = some r) :
    AC Tryz.prog (GS []) 75 [.agg [V.i a0.kind, V.i a0.op, V.s a0.text, V.s a0.other, .sl false false (a0.kids.map eST)]] [] (.agg [V.i r.kind, V.i r.op, V.s r.text, V.s r.other, .sl false false (r.kids.map eST)]) [] := by
 rw [m_impl_tree__negated_F] at h
 refine AC.enter Tryz.func75 rfl ?_
 refine cu Dk mix 2 100 (tl 63 [(1, .loc 100 0), (2, .loc 101 0)]) [(101, .cells 76 [V.i 0, V.i 0, V.s [], V.s [], .c (.slice none 0 0)]), (100, .cells 76 [V.i a0.kind, V.i a0.op, V.s a0.text, V.s a0.other, .sl false false (a0.kids.map eST)])] (by kernel_rfl) ?_
 refine CO.seq' ?_
 refine CO.block' ?_
 obtain ⟨r48, hx61, h⟩ := bind_some h
 refine CO.cutR (tl 63 [(1, .loc 100 0), (2, .loc 101 0), (6, V.b r48)]) [(101, .cells 76 [V.i 0, V.i 0, V.s [], V.s [], .c (.slice none 0 0)]), (100, .cells 76 [V.i a0.kind, V.i a0.op, V.s a0.text, V.s a0.other, .sl false false (a0.kids.map eST)])] mix (by
  refine W.run Dk 1 102 (by kernel_rfl) ?_
  refine W.call0 (m_impl_tree__isNot_ok a0 hx61) cok113 rfl (by kernel_rfl) ?_
  refine W.run Dk 1 102 (by kernel_rfl) ?_
  exact W.fi (by kernel_rfl)
  ) ?_
 rcases cond_some h with ⟨hc62, h⟩ | ⟨hc62, h⟩
 ·refine CO.ifT hc62 (by kernel_rfl) ?_
  obtain ⟨e50, hx64, h⟩ := bind_some h
  refine CO.cutR (tl 63 [(2, .loc 101 0), (3, .loc 102 0)]) [(102, .cells 76 [V.i e50.kind, V.i e50.op, V.s e50.text, V.s e50.other, .sl false false (e50.kids.map eST)]), (101, .cells 76 [V.i 0, V.i 0, V.s [], V.s [], .c (.slice none 0 0)])] mix (by
   refine W.run Dk 2 102 (by kernel_rfl) ?_
   refine W.ixDr Dk eST hx64 5 (by kernel_rfl) (encSTree_eq e50) (by kernel_rfl) ?_
   refine W.run Dk 3 102 (by kernel_rfl) ?_
   exact W.fi (by kernel_rfl)
   ) ?_
  refine CO.seq' ?_
  obtain ⟨y63, hv84, h⟩ := bind_some h
  refine CO.cutR (tl 63 [(2, .loc 100 0), (3, .loc 101 0), (22, V.b y63)]) [(100, .cells 76 [V.i 0, V.i 0, V.s [], V.s [], .c (.slice none 0 0)]), (101, .cells 76 [V.i e50.kind, V.i e50.op, V.s e50.text, V.s e50.other, .sl false false (e50.kids.map eST)])] mix (by
   refine W.run Dk 1 103 (by kernel_rfl) ?_
   obtain ⟨r64, hx85, hv84⟩ := bind_some hv84
   refine W.call0 (m_impl_tree__isNot_ok e50 hx85) cok113 rfl (by kernel_rfl) ?_
   refine W.run Dk 1 103 (by kernel_rfl) ?_
   rcases cond_some hv84 with ⟨hc86, hv84⟩ | ⟨hc86, hv84⟩
   ·refine W.is 15 hc86 (by kernel_rfl) ?_
    refine W.run Dk 7 103 (by kernel_rfl) ?_
    have hv84 := Option.some.inj hv84
    subst hv84
    exact W.fs [(101, 100), (102, 101)] [2, 3, 22] (by kernel_rfl)
   refine W.is 15 hc86 (by kernel_rfl) ?_
   refine W.run Dk 1 103 (by kernel_rfl) ?_
   obtain ⟨r65, hx87, hv84⟩ := bind_some hv84
   refine W.call0 (m_impl_tree__isCompared_ok e50 hx87) cok114 rfl (by kernel_rfl) ?_
   refine W.run Dk 2 103 (by kernel_rfl) ?_
   rcases cond_some hv84 with ⟨hc88, hv84⟩ | ⟨hc88, hv84⟩
   ·refine W.is 19 hc88 (by kernel_rfl) ?_
    refine W.run Dk 3 103 (by kernel_rfl) ?_
    have hv84 := Option.some.inj hv84
    subst hv84
    exact W.fs [(101, 100), (102, 101)] [2, 3, 22] (by kernel_rfl)
   refine W.is 19 hc88 (by kernel_rfl) ?_
   refine W.run Dk 1 103 (by kernel_rfl) ?_
   obtain ⟨r66, hx89, hv84⟩ := bind_some hv84
   refine W.call0 (m_impl_tree__isLogic_ok e50 hx89) cok115 rfl (by kernel_rfl) ?_
   refine W.run Dk 1 103 (by kernel_rfl) ?_
   have hv84 := Option.some.inj hv84
   subst hv84
   exact W.fs [(101, 100), (102, 101)] [2, 3, 22] (by kernel_rfl)
   ) ?_
  rcases cond_some h with ⟨hc90, h⟩ | ⟨hc90, h⟩
  ·refine CO.ifT hc90 (by kernel_rfl) ?_
   obtain ⟨r68, hx92, h⟩ := bind_some h
   refine CO.cutR (tl 63 [(2, .loc 100 0)]) [(100, .cells 76 [V.i r68.kind, V.i r68.op, V.s r68.text, V.s r68.other, .sl false false (r68.kids.map eST)])] mix (by
    refine W.run Dk 1 103 (by kernel_rfl) ?_
    refine W.call0 (HR.m_impl_tree__pushed e50 _ hx92) cok77 rfl (by kernel_rfl) ?_
    refine W.run Dk 1 103 (by kernel_rfl) ?_
    exact W.fi (by kernel_rfl)
    ) ?_
   refine CO.ret ?_
   have h := Option.some.inj h
   subst h
   exact Ends.gen [] (.inr rfl) (RetV.one rfl (OneR.cell Dk (r := .agg [V.i r68.kind, V.i r68.op, V.s r68.text, V.s r68.other, .sl false false (r68.kids.map eST)]) (i := 100) (ety := 76) (cs := [V.i r68.kind, V.i r68.op, V.s r68.text, V.s r68.other, .sl false false (r68.kids.map eST)]) (by kernel_rfl) (by kernel_rfl) (by kernel_rfl))) (by kernel_rfl) (by kernel_rfl) (by kernel_rfl)
  refine CO.ifF hc90 (by kernel_rfl) ?_
  refine CO.skip ?_
  obtain ⟨r72, hx96, h⟩ := bind_some h
  obtain ⟨r73, hx97, h⟩ := bind_some h
  obtain ⟨r74, hx98, h⟩ := bind_some h
  refine CO.cutR (tl 63 [(2, .loc 100 0)]) [(100, .cells 76 [V.i r74.kind, V.i r74.op, V.s r74.text, V.s r74.other, .sl false false (r74.kids.map eST)])] mix (by
   refine W.run Dk 1 103 (by kernel_rfl) ?_
   refine W.call0 (HR.m_impl_tree__pushed e50 _ hx96) cok77 rfl (by kernel_rfl) ?_
   refine W.call0 (m_impl_not_ok r72 hx97) cok116 rfl (by kernel_rfl) ?_
   refine W.call0 (m_impl_not_ok r73 hx98) cok116 rfl (by kernel_rfl) ?_
   refine W.run Dk 1 103 (by kernel_rfl) ?_
   exact W.fi (by kernel_rfl)
   ) ?_
  refine CO.ret ?_
  have h := Option.some.inj h
  subst h
  exact Ends.gen [] (.inr rfl) (RetV.one rfl (OneR.cell Dk (r := .agg [V.i r74.kind, V.i r74.op, V.s r74.text, V.s r74.other, .sl false false (r74.kids.map eST)]) (i := 100) (ety := 76) (cs := [V.i r74.kind, V.i r74.op, V.s r74.text, V.s r74.other, .sl false false (r74.kids.map eST)]) (by kernel_rfl) (by kernel_rfl) (by kernel_rfl))) (by kernel_rfl) (by kernel_rfl) (by kernel_rfl)
 refine CO.ifF hc62 (by kernel_rfl) ?_
 obtain ⟨r76, hx100, h⟩ := bind_some h
 refine CO.cutR (tl 63 [(1, .loc 100 0), (2, .loc 101 0), (29, V.b r76)]) [(101, .cells 76 [V.i 0, V.i 0, V.s [], V.s [], .c (.slice none 0 0)]), (100, .cells 76 [V.i a0.kind, V.i a0.op, V.s a0.text, V.s a0.other, .sl false false (a0.kids.map eST)])] mix (by
  refine W.run Dk 1 102 (by kernel_rfl) ?_
  refine W.call0 (m_impl_tree__isCompared_ok a0 hx100) cok114 rfl (by kernel_rfl) ?_
  refine W.run Dk 1 102 (by kernel_rfl) ?_
  exact W.fi (by kernel_rfl)
  ) ?_
 rcases cond_some h with ⟨hc101, h⟩ | ⟨hc101, h⟩
 ·refine CO.ifT hc101 (by kernel_rfl) ?_
  obtain ⟨r78, hx103, h⟩ := bind_some h
  refine CO.cutR (tl 63 [(1, .loc 100 0), (2, .loc 101 0), (4, .loc 102 0)]) [(102, .cells 76 [V.i r78.kind, V.i r78.op, V.s r78.text, V.s r78.other, .sl false false (r78.kids.map eST)]), (101, .cells 76 [V.i 0, V.i 0, V.s [], V.s [], .c (.slice none 0 0)]), (100, .cells 76 [V.i a0.kind, V.i a0.op, V.s a0.text, V.s a0.other, .sl false false (a0.kids.map eST)])] mix (by
   refine W.run Dk 1 102 (by kernel_rfl) ?_
   refine W.call0 (HR.m_impl_tree__pushed a0 _ hx103) cok77 rfl (by kernel_rfl) ?_
   refine W.run Dk 2 102 (by kernel_rfl) ?_
   exact W.fi (by kernel_rfl)
   ) ?_
  obtain ⟨r80, hx105, h⟩ := bind_some h
  refine CO.cutR (tl 63 [(2, .loc 101 0), (4, .loc 102 0)]) [(102, .cells 76 [V.i r78.kind, V.i r80, V.s r78.text, V.s r78.other, .sl false false (r78.kids.map eST)]), (101, .cells 76 [V.i 0, V.i 0, V.s [], V.s [], .c (.slice none 0 0)])] mix (by
   refine W.run Dk 2 103 (by kernel_rfl) ?_
   refine W.call0 (m_impl_opposite_ok a0.op hx105) cok117 rfl (by kernel_rfl) ?_
   refine W.run Dk 2 103 (by kernel_rfl) ?_
   exact W.fi (by kernel_rfl)
   ) ?_
  refine cu Dk mix 2 103 (tl 63 [(2, .loc 101 0)]) [(101, .cells 76 [V.i r78.kind, V.i r80, V.s r78.text, V.s r78.other, .sl false false (r78.kids.map eST)])] (by kernel_rfl) ?_
  refine CO.ret ?_
  have h := Option.some.inj h
  subst h
  exact Ends.gen [] (.inr rfl) (RetV.one rfl (OneR.cell Dk (r := .agg [V.i r78.kind, V.i r80, V.s r78.text, V.s r78.other, .sl false false (r78.kids.map eST)]) (i := 101) (ety := 76) (cs := [V.i r78.kind, V.i r80, V.s r78.text, V.s r78.other, .sl false false (r78.kids.map eST)]) (by kernel_rfl) (by kernel_rfl) (by kernel_rfl))) (by kernel_rfl) (by kernel_rfl) (by kernel_rfl)
 refine CO.ifF hc101 (by kernel_rfl) ?_
 obtain ⟨r82, hx107, h⟩ := bind_some h
 refine CO.cutR (tl 63 [(1, .loc 100 0), (2, .loc 101 0), (39, V.b r82)]) [(101, .cells 76 [V.i 0, V.i 0, V.s [], V.s [], .c (.slice none 0 0)]), (100, .cells 76 [V.i a0.kind, V.i a0.op, V.s a0.text, V.s a0.other, .sl false false (a0.kids.map eST)])] mix (by
  refine W.run Dk 1 102 (by kernel_rfl) ?_
  refine W.call0 (m_impl_tree__isLogic_ok a0 hx107) cok115 rfl (by kernel_rfl) ?_
  refine W.run Dk 1 102 (by kernel_rfl) ?_
  exact W.fi (by kernel_rfl)
  ) ?_
 rcases cond_some h with ⟨hc108, h⟩ | ⟨hc108, h⟩
 ·refine CO.ifT hc108 (by kernel_rfl) ?_
  obtain ⟨e88, hx114, h⟩ := bind_some h
  obtain ⟨r89, hx115, h⟩ := bind_some h
  obtain ⟨e90, hx116, h⟩ := bind_some h
  obtain ⟨r91, hx117, h⟩ := bind_some h
  obtain ⟨r92, hx118, h⟩ := bind_some h
  refine CO.cutR (tl 63 [(1, .loc 100 0), (2, .loc 101 0), (5, .loc 103 0)]) [(103, .cells 76 [V.i r92.kind, V.i r92.op, V.s r92.text, V.s r92.other, .sl false false (r92.kids.map eST)]), (101, .cells 76 [V.i 0, V.i 0, V.s [], V.s [], .c (.slice none 0 0)]), (100, .cells 76 [V.i a0.kind, V.i a0.op, V.s a0.text, V.s a0.other, .sl false false (a0.kids.map eST)])] mix (by
   refine W.run Dk 3 102 (by kernel_rfl) ?_
   refine W.ixDr Dk eST hx114 5 (by kernel_rfl) (encSTree_eq e88) (by kernel_rfl) ?_
   refine W.run Dk 1 102 (by kernel_rfl) ?_
   refine W.call0 (HR.m_impl_tree__negated e88 _ hx115) cok75 rfl (by kernel_rfl) ?_
   refine W.run Dk 2 102 (by kernel_rfl) ?_
   refine W.ixDr Dk eST hx116 5 (by kernel_rfl) (encSTree_eq e90) (by kernel_rfl) ?_
   refine W.run Dk 1 102 (by kernel_rfl) ?_
   refine W.call0 (HR.m_impl_tree__negated e90 _ hx117) cok75 rfl (by kernel_rfl) ?_
   refine W.layop Dk (show LayOk _ [] from trivial) (by kernel_rfl) 102 { v := .own 102, R := [], new := [(102, .vec true 76 5 [[V.i r89.kind, V.i r89.op, V.s r89.text, V.s r89.other, .sl false false (r89.kids.map eST)], [V.i r91.kind, V.i r91.op, V.s r91.text, V.s r91.other, .sl false false (r91.kids.map eST)]])], N := [102] } (by kernel_rfl) ?_
   refine W.vecEq 102 (nn := true) (e := 76) (k := 5) (rows := [[V.i r89.kind, V.i r89.op, V.s r89.text, V.s r89.other, .sl false false (r89.kids.map eST)], [V.i r91.kind, V.i r91.op, V.s r91.text, V.s r91.other, .sl false false (r91.kids.map eST)]]) (rows' := [r89, r91].map eST) (by kernel_rfl) (by simp only [List.map_cons, List.map_nil, encSTree_eq]) ?_
   refine W.call (m_impl_tree__with_ok a0 [r89, r91] hx118) cok118 [] [] [] (LayOk.cons (j := 102) eST eST ([r89, r91] : List STree) (by kernel_rfl) (share_encSTree) (show LayOk _ [] from trivial)) (by kernel_rfl) (by kernel_rfl) ?_
   refine W.run Dk 2 103 (by kernel_rfl) ?_
   exact W.fi (by kernel_rfl)
   ) ?_
  refine cu Dk mix 5 104 (tl 63 [(2, .loc 101 0), (5, .loc 103 0)]) [(103, .cells 76 [V.i r92.kind, V.i (IntKind.wrap .i64 (89 - a0.op)), V.s r92.text, V.s r92.other, .sl false false (r92.kids.map eST)]), (101, .cells 76 [V.i 0, V.i 0, V.s [], V.s [], .c (.slice none 0 0)])] (by kernel_rfl) ?_
  refine cu Dk mix 2 104 (tl 63 [(2, .loc 101 0)]) [(101, .cells 76 [V.i r92.kind, V.i (IntKind.wrap .i64 (89 - a0.op)), V.s r92.text, V.s r92.other, .sl false false (r92.kids.map eST)])] (by kernel_rfl) ?_
  refine CO.ret ?_
  have h := Option.some.inj h
  subst h
  exact Ends.gen [] (.inr rfl) (RetV.one rfl (OneR.cell Dk (r := .agg [V.i r92.kind, V.i (IntKind.wrap .i64 (89 - a0.op)), V.s r92.text, V.s r92.other, .sl false false (r92.kids.map eST)]) (i := 101) (ety := 76) (cs := [V.i r92.kind, V.i (IntKind.wrap .i64 (89 - a0.op)), V.s r92.text, V.s r92.other, .sl false false (r92.kids.map eST)]) (by kernel_rfl) (by kernel_rfl) (by kernel_rfl))) (by kernel_rfl) (by kernel_rfl) (by kernel_rfl)
 refine CO.ifF hc108 (by kernel_rfl) ?_
 refine CO.skip ?_
 obtain ⟨r95, hx121, h⟩ := bind_some h
 obtain ⟨r96, hx122, h⟩ := bind_some h
 refine CO.cutR (tl 63 [(2, .loc 101 0)]) [(101, .cells 76 [V.i r96.kind, V.i r96.op, V.s r96.text, V.s r96.other, .sl false false (r96.kids.map eST)])] mix (by
  refine W.run Dk 1 102 (by kernel_rfl) ?_
  refine W.call0 (HR.m_impl_tree__pushed a0 _ hx121) cok77 rfl (by kernel_rfl) ?_
  refine W.call0 (m_impl_not_ok r95 hx122) cok116 rfl (by kernel_rfl) ?_
  refine W.run Dk 1 102 (by kernel_rfl) ?_
  exact W.fi (by kernel_rfl)
  ) ?_
 refine CO.ret ?_
 have h := Option.some.inj h
 subst h
 exact Ends.gen [] (.inr rfl) (RetV.one rfl (OneR.cell Dk (r := .agg [V.i r96.kind, V.i r96.op, V.s r96.text, V.s r96.other, .sl false false (r96.kids.map eST)]) (i := 101) (ety := 76) (cs := [V.i r96.kind, V.i r96.op, V.s r96.text, V.s r96.other, .sl false false (r96.kids.map eST)]) (by kernel_rfl) (by kernel_rfl) (by kernel_rfl))) (by kernel_rfl) (by kernel_rfl) (by kernel_rfl)

theorem m_impl_tree__pushed_F_ok (N : Nat) (R : Rec4) (HR : RecOk4 R) (a0 : STree) {r : STree} (h : m_impl_tree__pushed_F N R a0 = some r) :
    AC Tryz.prog (GS []) 77 [.agg [V.i a0.kind, V.i a0.op, V.s a0.text, V.s a0.other, .sl false false (a0.kids.map eST)]] [] (.agg [V.i r.kind, V.i r.op, V.s r.text, V.s r.other, .sl false false (r.kids.map eST)]) [] := by
 rw [m_impl_tree__pushed_F] at h
 refine AC.enter Tryz.func77 rfl ?_
 refine cu Dk mix 2 100 (tl 30 [(1, .loc 100 0), (2, .loc 101 0)]) [(101, .cells 76 [V.i 0, V.i 0, V.s [], V.s [], .c (.slice none 0 0)]), (100, .cells 76 [V.i a0.kind, V.i a0.op, V.s a0.text, V.s a0.other, .sl false false (a0.kids.map eST)])] (by kernel_rfl) ?_
 refine CO.seq' ?_
 obtain ⟨r8, hx9, h⟩ := bind_some h
 refine CO.cutR (tl 30 [(1, .loc 100 0), (2, .loc 101 0), (7, V.b r8)]) [(101, .cells 76 [V.i 0, V.i 0, V.s [], V.s [], .c (.slice none 0 0)]), (100, .cells 76 [V.i a0.kind, V.i a0.op, V.s a0.text, V.s a0.other, .sl false false (a0.kids.map eST)])] mix (by
  refine W.run Dk 1 102 (by kernel_rfl) ?_
  refine W.call0 (m_impl_tree__isNot_ok a0 hx9) cok113 rfl (by kernel_rfl) ?_
  exact W.fi (by kernel_rfl)
  ) ?_
 rcases cond_some h with ⟨hc10, h⟩ | ⟨hc10, h⟩
 ·refine CO.ifT hc10 (by kernel_rfl) ?_
  obtain ⟨e11, hx13, h⟩ := bind_some h
  obtain ⟨r12, hx14, h⟩ := bind_some h
  refine CO.cutR (tl 30 [(2, .loc 101 0)]) [(101, .cells 76 [V.i r12.kind, V.i r12.op, V.s r12.text, V.s r12.other, .sl false false (r12.kids.map eST)])] mix (by
   refine W.run Dk 2 102 (by kernel_rfl) ?_
   refine W.ixDr Dk eST hx13 5 (by kernel_rfl) (encSTree_eq e11) (by kernel_rfl) ?_
   refine W.run Dk 1 102 (by kernel_rfl) ?_
   refine W.call0 (HR.m_impl_tree__negated e11 _ hx14) cok75 rfl (by kernel_rfl) ?_
   refine W.run Dk 1 102 (by kernel_rfl) ?_
   exact W.fi (by kernel_rfl)
   ) ?_
  refine CO.ret ?_
  have h := Option.some.inj h
  subst h
  exact Ends.gen [] (.inr rfl) (RetV.one rfl (OneR.cell Dk (r := .agg [V.i r12.kind, V.i r12.op, V.s r12.text, V.s r12.other, .sl false false (r12.kids.map eST)]) (i := 101) (ety := 76) (cs := [V.i r12.kind, V.i r12.op, V.s r12.text, V.s r12.other, .sl false false (r12.kids.map eST)]) (by kernel_rfl) (by kernel_rfl) (by kernel_rfl))) (by kernel_rfl) (by kernel_rfl) (by kernel_rfl)
 refine CO.ifF hc10 (by kernel_rfl) ?_
 refine CO.skip ?_
 refine CO.cutR (tl 30 [(1, .loc 100 0), (2, .loc 101 0), (3, .own 102)]) [(102, .vec false 76 5 ([].map eST)), (101, .cells 76 [V.i 0, V.i 0, V.s [], V.s [], .c (.slice none 0 0)]), (100, .cells 76 [V.i a0.kind, V.i a0.op, V.s a0.text, V.s a0.other, .sl false false (a0.kids.map eST)])] mix (by
  refine W.layop Dk (show LayOk _ [] from trivial) (by kernel_rfl) 102 { v := .own 102, R := [], new := [(102, .vec true 76 5 [])], N := [102] } (by kernel_rfl) ?_
  refine W.vecEq 102 (nn := true) (e := 76) (k := 5) (rows := []) (rows' := [].map eST) (by kernel_rfl) rfl ?_
  refine W.run Dk 1 103 (by kernel_rfl) ?_
  exact W.fi (by kernel_rfl)
  ) ?_
 refine CO.seq' ?_
 refine CO.cutR (tl 30 [(1, .loc 100 0), (2, .loc 101 0), (3, .own 102), (15, .sl false false (a0.kids.map eST)), (16, V.i (a0.kids.length : Int)), (17, V.i 0)]) [(102, .vec false 76 5 ([].map eST)), (101, .cells 76 [V.i 0, V.i 0, V.s [], V.s [], .c (.slice none 0 0)]), (100, .cells 76 [V.i a0.kind, V.i a0.op, V.s a0.text, V.s a0.other, .sl false false (a0.kids.map eST)])] mix (by
  refine W.run Dk 2 103 (by kernel_rfl) ?_
  refine W.len Dk eST a0.kids [] (by kernel_rfl) (by kernel_rfl) ?_
  refine W.run Dk 1 103 (by kernel_rfl) ?_
  exact W.fi (by kernel_rfl)
  ) ?_
 refine CO.block' ?_
 refine CO.loopJ (fun (⟨a0, y65, y66⟩ : (STree × Int × (List STree))) => ⟨tl 30 [(1, .loc 100 0), (2, .loc 101 0), (3, .own 102), (15, .sl false false (a0.kids.map eST)), (16, V.i (a0.kids.length : Int)), (17, V.i y65)], [(100, .cells 76 [V.i a0.kind, V.i a0.op, V.s a0.text, V.s a0.other, .sl false false (a0.kids.map eST)]), (101, .cells 76 [V.i 0, V.i 0, V.s [], V.s [], .c (.slice none 0 0)]), (102, .vec false 76 5 (y66.map eST))]⟩) (fun n i => m_impl_tree__pushed_l1 N R n i = some r) (n0 := N) (i0 := (a0, 0, [])) (Weak.sel [(100, 100), (101, 101), (102, 102)] [1, 2, 3, 15, 16, 17] (by kernel_rfl) (by kernel_rfl) (by kernel_rfl)) h (fun i h => by simp [m_impl_tree__pushed_l1] at h) ?_
 rintro n1 ⟨a0, y65, y66⟩ h87 ih88
 rw [m_impl_tree__pushed_l1] at h87
 refine cu Dk mix 1 169 (tl 30 [(1, .loc 100 0), (2, .loc 101 0), (3, .own 102), (15, .sl false false (a0.kids.map eST)), (16, V.i (a0.kids.length : Int)), (17, V.i y65), (18, V.b (decide (y65 < (a0.kids.length : Int))))]) [(100, .cells 76 [V.i a0.kind, V.i a0.op, V.s a0.text, V.s a0.other, .sl false false (a0.kids.map eST)]), (101, .cells 76 [V.i 0, V.i 0, V.s [], V.s [], .c (.slice none 0 0)]), (102, .vec false 76 5 (y66.map eST))] (by kernel_rfl) ?_
 refine CO.seq' ?_
 rcases cond_some h87 with ⟨hc90, h87⟩ | ⟨hc90, h87⟩
 ·refine CO.ifT hc90 (by kernel_rfl) ?_
  refine CO.skip ?_
  refine CO.seq' ?_
  refine CO.block' ?_
  obtain ⟨e88, hx98, h87⟩ := bind_some h87
  refine CO.cutR (tl 30 [(1, .loc 100 0), (2, .loc 101 0), (3, .own 102), (5, .loc 169 0), (15, .sl false false (a0.kids.map eST)), (16, V.i (a0.kids.length : Int)), (17, V.i y65)]) [(169, .cells 76 [V.i e88.kind, V.i e88.op, V.s e88.text, V.s e88.other, .sl false false (e88.kids.map eST)]), (100, .cells 76 [V.i a0.kind, V.i a0.op, V.s a0.text, V.s a0.other, .sl false false (a0.kids.map eST)]), (101, .cells 76 [V.i 0, V.i 0, V.s [], V.s [], .c (.slice none 0 0)]), (102, .vec false 76 5 (y66.map eST))] mix (by
   refine W.ixDr Dk eST hx98 5 (by kernel_rfl) (encSTree_eq e88) (by kernel_rfl) ?_
   refine W.run Dk 3 169 (by kernel_rfl) ?_
   exact W.fi (by kernel_rfl)
   ) ?_
  obtain ⟨r91, hx101, h87⟩ := bind_some h87
  obtain ⟨x92, hx102, h87⟩ := bind_some h87
  refine CO.endR (tl 30 [(1, .loc 100 0), (2, .loc 101 0), (3, .own 171), (15, .sl false false (a0.kids.map eST)), (16, V.i (a0.kids.length : Int)), (17, V.i y65)]) [(171, .vec false 76 5 (x92.map eST)), (100, .cells 76 [V.i a0.kind, V.i a0.op, V.s a0.text, V.s a0.other, .sl false false (a0.kids.map eST)]), (101, .cells 76 [V.i 0, V.i 0, V.s [], V.s [], .c (.slice none 0 0)])] mix (by
   refine W.run Dk 2 170 (by kernel_rfl) ?_
   refine W.call0 (HR.m_impl_tree__pushed e88 _ hx101) cok77 rfl (by kernel_rfl) ?_
   refine W.layop Dk (show LayOk _ [] from trivial) (by kernel_rfl) 170 { v := .own 170, R := [], new := [(170, .vec true 76 5 [[V.i r91.kind, V.i r91.op, V.s r91.text, V.s r91.other, .sl false false (r91.kids.map eST)]])], N := [170] } (by kernel_rfl) ?_
   refine W.vecEq 170 (nn := true) (e := 76) (k := 5) (rows := [[V.i r91.kind, V.i r91.op, V.s r91.text, V.s r91.other, .sl false false (r91.kids.map eST)]]) (rows' := [r91].map eST) (by kernel_rfl) (by simp only [List.map_cons, List.map_nil, encSTree_eq]) ?_
   refine W.appO Dk eST (a := 102) (c := 170) (el := 76) (sz := 5) 72 hx102 rfl 171 (by kernel_rfl) ?_
   refine W.run Dk 1 172 (by kernel_rfl) ?_
   exact W.fi (by kernel_rfl)
   ) (fun st hw => ?_)
  refine CO.weak hw ?_
  refine ce Dk mix 2 172 (tl 30 [(1, .loc 100 0), (2, .loc 101 0), (3, .own 171), (15, .sl false false (a0.kids.map eST)), (16, V.i (a0.kids.length : Int)), (17, V.i (IntKind.wrap .i64 (y65 + 1)))]) [(171, .vec false 76 5 (x92.map eST)), (100, .cells 76 [V.i a0.kind, V.i a0.op, V.s a0.text, V.s a0.other, .sl false false (a0.kids.map eST)]), (101, .cells 76 [V.i 0, V.i 0, V.s [], V.s [], .c (.slice none 0 0)])] (by kernel_rfl) (fun st hw => ?_)
  exact ih88 (a0, (IntKind.wrap .i64 (y65 + 1)), x92) h87 _ (hw.trans (Weak.sel [(100, 100), (101, 101), (171, 102)] [1, 2, 3, 15, 16, 17] (by kernel_rfl) (by kernel_rfl) (by kernel_rfl)))
 refine CO.ifF hc90 (by kernel_rfl) ?_
 refine CO.exit ?_
 obtain ⟨r94, hx104, h87⟩ := bind_some h87
 refine CO.cutR (tl 30 [(2, .loc 101 0)]) [(101, .cells 76 [V.i r94.kind, V.i r94.op, V.s r94.text, V.s r94.other, .sl false false (r94.kids.map eST)])] mix (by
  refine W.run Dk 2 169 (by kernel_rfl) ?_
  refine W.call (m_impl_tree__with_ok a0 y66 hx104) cok118 [] [] [] (LayOk.cons (j := 102) eST eST y66 (by kernel_rfl) (share_encSTree) (show LayOk _ [] from trivial)) (by kernel_rfl) (by kernel_rfl) ?_
  refine W.run Dk 1 169 (by kernel_rfl) ?_
  exact W.fi (by kernel_rfl)
  ) ?_
 refine CO.ret ?_
 have h87 := Option.some.inj h87
 subst h87
 exact Ends.gen [] (.inr rfl) (RetV.one rfl (OneR.cell Dk (r := .agg [V.i r94.kind, V.i r94.op, V.s r94.text, V.s r94.other, .sl false false (r94.kids.map eST)]) (i := 101) (ety := 76) (cs := [V.i r94.kind, V.i r94.op, V.s r94.text, V.s r94.other, .sl false false (r94.kids.map eST)]) (by kernel_rfl) (by kernel_rfl) (by kernel_rfl))) (by kernel_rfl) (by kernel_rfl) (by kernel_rfl)

theorem scc4_ok : ∀ N, RecOk4 (scc4 N)
  | 0 => ⟨fun _ _ h => (by cases h), fun _ _ h => (by cases h)⟩
  | N + 1 => ⟨fun a0 _ h => m_impl_tree__negated_F_ok N (scc4 N) (scc4_ok N) a0 h, fun a0 _ h => m_impl_tree__pushed_F_ok N (scc4 N) (scc4_ok N) a0 h⟩

theorem m_impl_tree__negated_ok (N : Nat) (a0 : STree) {r : STree} (h : m_impl_tree__negated N a0 = some r) :
    AC Tryz.prog (GS []) 75 [.agg [V.i a0.kind, V.i a0.op, V.s a0.text, V.s a0.other, .sl false false (a0.kids.map eST)]] [] (.agg [V.i r.kind, V.i r.op, V.s r.text, V.s r.other, .sl false false (r.kids.map eST)]) [] :=
  (scc4_ok N).m_impl_tree__negated a0 r h
theorem m_impl_tree__pushed_ok (N : Nat) (a0 : STree) {r : STree} (h : m_impl_tree__pushed N a0 = some r) :
    AC Tryz.prog (GS []) 77 [.agg [V.i a0.kind, V.i a0.op, V.s a0.text, V.s a0.other, .sl false false (a0.kids.map eST)]] [] (.agg [V.i r.kind, V.i r.op, V.s r.text, V.s r.other, .sl false false (r.kids.map eST)]) [] :=
  (scc4_ok N).m_impl_tree__pushed a0 r h

structure RecOk5 (R : Rec5) : Prop where
  m_impl_tree__add : ∀ (a0 : STree) (p0 : List SNode) (r : (List SNode)), R.m_impl_tree__add a0 p0 = some r → AC Tryz.prog (GS []) 103 [.agg [V.i a0.kind, V.i a0.op, V.s a0.text, V.s a0.other, .sl false false (a0.kids.map eST)], .own 0] [(0, .vec false 53 5 (p0.map (eSN true)))] (.own 100) [(100, .vec false 53 5 (r.map (eSN true)))]

theorem m_impl_tree__add_F_ok (N : Nat) (R : Rec5) (HR : RecOk5 R) (a0 : STree) (p0 : List SNode) {r : (List SNode)} (h : m_impl_tree__add_F N R a0 p0 = some r) :
    AC Tryz.prog (GS []) 103 [.agg [V.i a0.kind, V.i a0.op, V.s a0.text, V.s a0.other, .sl false false (a0.kids.map eST)], .own 0] [(0, .vec false 53 5 (p0.map (eSN true)))] (.own 100) [(100, .vec false 53 5 (r.map (eSN true)))] := by
 rw [m_impl_tree__add_F] at h
 refine AC.enter Tryz.func103 rfl ?_
 refine cu Dk mix 2 100 (tl 40 [(1, .own 0), (2, .loc 100 0)]) [(100, .cells 76 [V.i a0.kind, V.i a0.op, V.s a0.text, V.s a0.other, .sl false false (a0.kids.map eST)]), (0, .vec false 53 5 (p0.map (eSN true)))] (by kernel_rfl) ?_
 refine cu Dk mix 11 101 (tl 40 [(1, .own 0), (2, .loc 100 0), (5, .loc 101 0)]) [(101, .cells 53 [V.i a0.kind, V.i a0.op, V.s a0.text, V.s a0.other, .c (.slice none 0 0)]), (100, .cells 76 [V.i a0.kind, V.i a0.op, V.s a0.text, V.s a0.other, .sl false false (a0.kids.map eST)]), (0, .vec false 53 5 (p0.map (eSN true)))] (by kernel_rfl) ?_
 refine CO.seq' ?_
 refine CO.cutR (tl 40 [(1, .own 0), (5, .loc 101 0), (18, .sl false false (a0.kids.map eST)), (19, V.i (a0.kids.length : Int)), (20, V.i 0)]) [(101, .cells 53 [V.i a0.kind, V.i a0.op, V.s a0.text, V.s a0.other, .c (.slice none 0 0)]), (0, .vec false 53 5 (p0.map (eSN true)))] mix (by
  refine W.run Dk 2 102 (by kernel_rfl) ?_
  refine W.len Dk eST a0.kids [] (by kernel_rfl) (by kernel_rfl) ?_
  refine W.run Dk 1 102 (by kernel_rfl) ?_
  exact W.fi (by kernel_rfl)
  ) ?_
 refine CO.block' ?_
 refine CO.loopJ (fun (⟨a0, y59, y60, y61⟩ : (STree × Int × (List SNode) × (List Int))) => ⟨tl 40 [(1, .own 100), (5, .loc 101 0), (18, .sl false false (a0.kids.map eST)), (19, V.i (a0.kids.length : Int)), (20, V.i y59)], [(100, .vec false 53 5 (y60.map (eSN true))), (101, .cells 53 [V.i a0.kind, V.i a0.op, V.s a0.text, V.s a0.other, .own 102]), (102, .vec false 3 1 (y61.map encI))]⟩) (fun n i => m_impl_tree__add_l1 N R n i = some r) (n0 := N) (i0 := (a0, 0, p0, [])) ((Weak.nilCell 101 4 102 3 1 (ety := 53) (cs := [V.i a0.kind, V.i a0.op, V.s a0.text, V.s a0.other, .c (.slice none 0 0)]) (by kernel_rfl) (by kernel_rfl) (by kernel_rfl)).trans (Weak.sel [(0, 100), (101, 101), (102, 102)] [1, 5, 18, 19, 20] (by kernel_rfl) (by kernel_rfl) (by kernel_rfl))) h (fun i h => by simp [m_impl_tree__add_l1] at h) ?_
 rintro n1 ⟨a0, y59, y60, y61⟩ h77 ih78
 rw [m_impl_tree__add_l1] at h77
 refine cu Dk mix 1 171 (tl 40 [(1, .own 100), (5, .loc 101 0), (18, .sl false false (a0.kids.map eST)), (19, V.i (a0.kids.length : Int)), (20, V.i y59), (21, V.b (decide (y59 < (a0.kids.length : Int))))]) [(100, .vec false 53 5 (y60.map (eSN true))), (101, .cells 53 [V.i a0.kind, V.i a0.op, V.s a0.text, V.s a0.other, .own 102]), (102, .vec false 3 1 (y61.map encI))] (by kernel_rfl) ?_
 refine CO.seq' ?_
 rcases cond_some h77 with ⟨hc80, h77⟩ | ⟨hc80, h77⟩
 ·refine CO.ifT hc80 (by kernel_rfl) ?_
  refine CO.skip ?_
  refine CO.seq' ?_
  refine CO.block' ?_
  obtain ⟨e84, hx88, h77⟩ := bind_some h77
  refine CO.cutR (tl 40 [(1, .own 100), (5, .loc 101 0), (7, .loc 171 0), (18, .sl false false (a0.kids.map eST)), (19, V.i (a0.kids.length : Int)), (20, V.i y59)]) [(171, .cells 76 [V.i e84.kind, V.i e84.op, V.s e84.text, V.s e84.other, .sl false false (e84.kids.map eST)]), (100, .vec false 53 5 (y60.map (eSN true))), (101, .cells 53 [V.i a0.kind, V.i a0.op, V.s a0.text, V.s a0.other, .own 102]), (102, .vec false 3 1 (y61.map encI))] mix (by
   refine W.ixDr Dk eST hx88 5 (by kernel_rfl) (encSTree_eq e84) (by kernel_rfl) ?_
   refine W.run Dk 3 171 (by kernel_rfl) ?_
   exact W.fi (by kernel_rfl)
   ) ?_
  obtain ⟨r86, hx90, h77⟩ := bind_some h77
  refine CO.cutR (tl 40 [(1, .own 172), (5, .loc 101 0), (18, .sl false false (a0.kids.map eST)), (19, V.i (a0.kids.length : Int)), (20, V.i y59)]) [(172, .vec false 53 5 (r86.map (eSN true))), (101, .cells 53 [V.i a0.kind, V.i a0.op, V.s a0.text, V.s a0.other, .own 102]), (102, .vec false 3 1 (y61.map encI))] mix (by
   refine W.run Dk 2 172 (by kernel_rfl) ?_
   refine W.call (HR.m_impl_tree__add e84 y60 _ hx90) cok103 [(100, 0)] [(100, 172)] [172] (show LayOk _ [] from trivial) (by kernel_rfl) (by kernel_rfl) ?_
   refine W.run Dk 1 173 (by kernel_rfl) ?_
   exact W.fi (by kernel_rfl)
   ) ?_
  obtain ⟨x88, hx92, h77⟩ := bind_some h77
  refine CO.endR (tl 40 [(1, .own 172), (5, .loc 101 0), (18, .sl false false (a0.kids.map eST)), (19, V.i (a0.kids.length : Int)), (20, V.i y59)]) [(101, .cells 53 [V.i a0.kind, V.i a0.op, V.s a0.text, V.s a0.other, .own 174]), (174, .vec false 3 1 (x88.map encI)), (172, .vec false 53 5 (r86.map (eSN true)))] mix (by
   refine W.run Dk 3 173 (by kernel_rfl) ?_
   refine W.len Dk (eSN true) r86 [172] (by kernel_rfl) (by kernel_rfl) ?_
   refine W.run Dk 2 173 (by kernel_rfl) ?_
   refine W.appO Dk encI (a := 102) (c := 173) (el := 3) (sz := 1) 8 hx92 rfl 174 (by kernel_rfl) ?_
   refine W.run Dk 2 175 (by kernel_rfl) ?_
   exact W.fi (by kernel_rfl)
   ) (fun st hw => ?_)
  refine CO.weak hw ?_
  refine ce Dk mix 2 175 (tl 40 [(1, .own 172), (5, .loc 101 0), (18, .sl false false (a0.kids.map eST)), (19, V.i (a0.kids.length : Int)), (20, V.i (IntKind.wrap .i64 (y59 + 1)))]) [(101, .cells 53 [V.i a0.kind, V.i a0.op, V.s a0.text, V.s a0.other, .own 174]), (174, .vec false 3 1 (x88.map encI)), (172, .vec false 53 5 (r86.map (eSN true)))] (by kernel_rfl) (fun st hw => ?_)
  exact ih78 (a0, (IntKind.wrap .i64 (y59 + 1)), r86, x88) h77 _ (hw.trans (Weak.sel [(172, 100), (101, 101), (174, 102)] [1, 5, 18, 19, 20] (by kernel_rfl) (by kernel_rfl) (by kernel_rfl)))
 refine CO.ifF hc80 (by kernel_rfl) ?_
 refine CO.exit ?_
 obtain ⟨x90, hx94, h77⟩ := bind_some h77
 refine CO.cutR (tl 40 [(4, .own 172)]) [(172, .vec false 53 5 (x90.map (eSN true)))] mix (by
  refine W.run Dk 3 171 (by kernel_rfl) ?_
  refine W.appO Dk (eSN true) (a := 100) (c := 171) (el := 53) (sz := 5) 72 hx94 rfl 172 (by kernel_rfl) ?_
  refine W.run Dk 1 173 (by kernel_rfl) ?_
  exact W.fi (by kernel_rfl)
  ) ?_
 refine CO.ret ?_
 have h77 := Option.some.inj h77
 subst h77
 exact Ends.gen [(172, 100)] (.inr rfl) (RetV.one rfl (OneR.tmp (t := 4) (r := .own 172) (by kernel_rfl))) (by kernel_rfl) (by kernel_rfl) (by kernel_rfl)

theorem scc5_ok : ∀ N, RecOk5 (scc5 N)
  | 0 => ⟨fun _ _ _ h => (by cases h)⟩
  | N + 1 => ⟨fun a0 p0 _ h => m_impl_tree__add_F_ok N (scc5 N) (scc5_ok N) a0 p0 h⟩

theorem m_impl_tree__add_ok (N : Nat) (a0 : STree) (p0 : List SNode) {r : (List SNode)} (h : m_impl_tree__add N a0 p0 = some r) :
    AC Tryz.prog (GS []) 103 [.agg [V.i a0.kind, V.i a0.op, V.s a0.text, V.s a0.other, .sl false false (a0.kids.map eST)], .own 0] [(0, .vec false 53 5 (p0.map (eSN true)))] (.own 100) [(100, .vec false 53 5 (r.map (eSN true)))] :=
  (scc5_ok N).m_impl_tree__add a0 p0 r h

theorem m_impl_tree__list_ok (N : Nat) (a0 : STree) {r : (List SNode)} (h : m_impl_tree__list N a0 = some r) :
    AC Tryz.prog (GS []) 63 [.agg [V.i a0.kind, V.i a0.op, V.s a0.text, V.s a0.other, .sl false false (a0.kids.map eST)]] [] (.own 100) [(100, .vec false 53 5 (r.map (eSN true)))] := by
 rw [m_impl_tree__list] at h
 refine AC.enter Tryz.func63 rfl ?_
 refine cu Dk mix 2 100 (tl 5 [(1, .loc 100 0)]) [(100, .cells 76 [V.i a0.kind, V.i a0.op, V.s a0.text, V.s a0.other, .sl false false (a0.kids.map eST)])] (by kernel_rfl) ?_
 obtain ⟨r2, hx2, h⟩ := bind_some h
 refine CO.cutR (tl 5 [(2, .own 101)]) [(101, .vec false 53 5 (r2.map (eSN true)))] mix (by
  refine W.run Dk 1 101 (by kernel_rfl) ?_
  refine W.callK (AC.nilArg 1 0 53 5 (m_impl_tree__add_ok N a0 [] hx2) (by kernel_rfl) (by kernel_rfl) (by kernel_rfl) (by kernel_rfl) rfl) cok103 [] [(100, 101)] [1] [101] (show LayOk _ [] from trivial) (by kernel_rfl) (by kernel_rfl) ?_
  refine W.run Dk 1 102 (by kernel_rfl) ?_
  exact W.fi (by kernel_rfl)
  ) ?_
 refine CO.ret ?_
 have h := Option.some.inj h
 subst h
 exact Ends.gen [(101, 100)] (.inr rfl) (RetV.one rfl (OneR.tmp (t := 2) (r := .own 101) (by kernel_rfl))) (by kernel_rfl) (by kernel_rfl) (by kernel_rfl)

theorem m_slices_Clone_int_nil : AC Tryz.prog (GS []) 102 [.c (.slice none 0 0)] [] (.own 100) [(100, .vec false 3 1 (([] : List Int).map encI))] := by
  refine AC.enter Tryz.func102 rfl ?_
  refine CO.cutR (tl 8 [(0, .c (.slice none 0 0))]) [] mix (by
      refine W.run Dk 1 100 (by kernel_rfl) ?_
      exact W.fin (by decide) (by kernel_rfl) (Weak.sel [] [0] (by kernel_rfl) (by kernel_rfl) (by kernel_rfl))
      ) ?_
  refine CO.seq' ?_
  refine CO.cutR (tl 8 [(0, .c (.slice none 0 0)), (4, V.b true)]) [] mix (by
      refine W.run Dk 1 100 (by kernel_rfl) ?_
      refine W.nilEq Dk true (by kernel_rfl) ?_
      exact W.fin (by decide) (by kernel_rfl) (Weak.sel [] [0, 4] (by kernel_rfl) (by kernel_rfl) (by kernel_rfl))
      ) ?_
  refine CO.ifT (c := true) rfl (by kernel_rfl) ?_
  refine CO.cutR (tl 8 [(2, .c (.slice none 0 0))]) [] mix (by
      refine W.run Dk 1 100 (by kernel_rfl) ?_
      exact W.fin (by decide) (by kernel_rfl) (Weak.sel [] [2] (by kernel_rfl) (by kernel_rfl) (by kernel_rfl))
      ) ?_
  refine CO.weak (Weak.nil 2 101 3 1 (by kernel_rfl) (by kernel_rfl)) ?_
  refine CO.ret ?_
  exact Ends.gen [(101, 100)] (.inr rfl) (RetV.one rfl (OneR.tmp (t := 2) (r := .own 101) (by kernel_rfl))) (by kernel_rfl) (by kernel_rfl) (by kernel_rfl)

theorem m_slices_Clone_int_nn (a0 : List Int) {r : (List Int)} (hx2 : app 8 [] a0 = some r) :
    AC Tryz.prog (GS []) 102 [.sl true false (a0.map encI)] [] (.own 100) [(100, .vec false 3 1 (r.map encI))] := by
  refine AC.enter Tryz.func102 rfl ?_
  refine CO.cutR (tl 8 [(0, .sl true false (a0.map encI))]) [] mix (by
      refine W.run Dk 1 100 (by kernel_rfl) ?_
      exact W.fin (by decide) (by kernel_rfl) (Weak.sel [] [0] (by kernel_rfl) (by kernel_rfl) (by kernel_rfl))
      ) ?_
  refine CO.seq' ?_
  refine CO.cutR (tl 8 [(0, .sl true false (a0.map encI)), (4, V.b false)]) [] mix (by
      refine W.run Dk 1 100 (by kernel_rfl) ?_
      refine W.nilEq Dk false (by kernel_rfl) ?_
      exact W.fin (by decide) (by kernel_rfl) (Weak.sel [] [0, 4] (by kernel_rfl) (by kernel_rfl) (by kernel_rfl))
      ) ?_
  refine CO.ifF (c := false) rfl (by kernel_rfl) ?_
  refine CO.skip ?_
  refine CO.weak (st' := ⟨tl 8 [(0, .sl true false (a0.map encI)), (4, V.b false)], []⟩) (Weak.refl _) ?_
  refine CO.cutR (tl 8 [(2, .own 101)]) [(101, .vec false 3 1 (r.map encI))] mix (by
      refine W.run Dk 2 100 (by kernel_rfl) ?_
      refine W.appD Dk encI (a := 100) (el := 3) 8 hx2 rfl 101 1 (fun _ => by first | rfl | kernel_rfl) (by kernel_rfl) ?_
      refine W.run Dk 1 102 (by kernel_rfl) ?_
      exact W.fin (by decide) (by kernel_rfl) (Weak.sel [(101, 101)] [2] (by kernel_rfl) (by kernel_rfl) (by kernel_rfl))
      ) ?_
  refine CO.ret ?_
  exact Ends.gen [(101, 100)] (.inr rfl) (RetV.one rfl (OneR.tmp (t := 2) (r := .own 101) (by kernel_rfl))) (by kernel_rfl) (by kernel_rfl) (by kernel_rfl)

theorem m_slices_Clone_int_ok (a0 : List Int) {r : (List Int)} (h : m_slices_Clone_int a0 = some r) :
    AC Tryz.prog (GS []) 102 [.sl false false (a0.map encI)] [] (.own 100) [(100, .vec false 3 1 (r.map encI))] := by
  rw [m_slices_Clone_int] at h
  obtain ⟨x2, h2, h⟩ := bind_some h
  have h := Option.some.inj h
  subst h
  refine AC.slCase (fun h0 => ?_) (m_slices_Clone_int_nn a0 h2)
  have ha : a0 = [] := by simpa using h0
  subst ha
  have hr : x2 = [] := by
    rw [app_some (by simp)] at h2
    simpa using h2.symm
  subst hr
  exact m_slices_Clone_int_nil

theorem m_impl_copyNodes_ok (N : Nat) (a0 : List SNode) {r : (List SNode)} (h : m_impl_copyNodes N a0 = some r) :
    AC Tryz.prog (GS []) 60 [.sl false false (a0.map (eSN false))] [] (.own 100) [(100, .vec false 53 5 (r.map (eSN true)))] := by
 rw [m_impl_copyNodes] at h
 refine AC.enter Tryz.func60 rfl ?_
 refine cu Dk mix 1 100 (tl 23 [(0, .sl false false (a0.map (eSN false)))]) [] (by kernel_rfl) ?_
 refine cu Dk mix 2 100 (tl 23 [(0, .sl false false (a0.map (eSN false))), (3, .own 100)]) [(100, .vec false 53 5 ([].map (eSN true)))] (by kernel_rfl) ?_
 refine CO.seq' ?_
 refine CO.cutR (tl 23 [(3, .own 100), (7, .sl false false (a0.map (eSN false))), (8, V.i (a0.length : Int)), (9, V.i 0)]) [(100, .vec false 53 5 ([].map (eSN true)))] mix (by
  refine W.run Dk 1 101 (by kernel_rfl) ?_
  refine W.len Dk (eSN false) a0 [] (by kernel_rfl) (by kernel_rfl) ?_
  refine W.run Dk 1 101 (by kernel_rfl) ?_
  exact W.fi (by kernel_rfl)
  ) ?_
 refine CO.block' ?_
 refine CO.loopJ (fun (⟨a0, y53, y54⟩ : ((List SNode) × Int × (List SNode))) => ⟨tl 23 [(3, .own 100), (7, .sl false false (a0.map (eSN false))), (8, V.i (a0.length : Int)), (9, V.i y53)], [(100, .vec false 53 5 (y54.map (eSN true)))]⟩) (fun n i => m_impl_copyNodes_l1 N n i = some r) (n0 := N) (i0 := (a0, 0, [])) (Weak.sel [(100, 100)] [3, 7, 8, 9] (by kernel_rfl) (by kernel_rfl) (by kernel_rfl)) h (fun i h => by simp [m_impl_copyNodes_l1] at h) ?_
 rintro n1 ⟨a0, y53, y54⟩ h73 ih74
 rw [m_impl_copyNodes_l1] at h73
 refine cu Dk mix 1 169 (tl 23 [(3, .own 100), (7, .sl false false (a0.map (eSN false))), (8, V.i (a0.length : Int)), (9, V.i y53), (10, V.b (decide (y53 < (a0.length : Int))))]) [(100, .vec false 53 5 (y54.map (eSN true)))] (by kernel_rfl) ?_
 refine CO.seq' ?_
 rcases cond_some h73 with ⟨hc76, h73⟩ | ⟨hc76, h73⟩
 ·refine CO.ifT hc76 (by kernel_rfl) ?_
  refine CO.skip ?_
  refine CO.seq' ?_
  refine CO.block' ?_
  obtain ⟨e76, hx84, h73⟩ := bind_some h73
  refine CO.cutR (tl 23 [(3, .own 100), (5, .loc 169 0), (7, .sl false false (a0.map (eSN false))), (8, V.i (a0.length : Int)), (9, V.i y53)]) [(169, .cells 53 [V.i e76.Kind, V.i e76.Op, V.s e76.Text, V.s e76.Other, .sl false false (e76.Kids.map encI)]), (100, .vec false 53 5 (y54.map (eSN true)))] mix (by
   refine W.ixD Dk (eSN false) hx84 5 (by kernel_rfl) (by kernel_rfl) ?_
   refine W.run Dk 3 169 (by kernel_rfl) ?_
   exact W.fi (by kernel_rfl)
   ) ?_
  obtain ⟨r78, hx86, h73⟩ := bind_some h73
  refine CO.cutR (tl 23 [(3, .own 100), (5, .loc 169 0), (7, .sl false false (a0.map (eSN false))), (8, V.i (a0.length : Int)), (9, V.i y53)]) [(169, .cells 53 [V.i e76.Kind, V.i e76.Op, V.s e76.Text, V.s e76.Other, .own 170]), (170, .vec false 3 1 (r78.map encI)), (100, .vec false 53 5 (y54.map (eSN true)))] mix (by
   refine W.run Dk 2 170 (by kernel_rfl) ?_
   refine W.call (m_slices_Clone_int_ok e76.Kids hx86) cok102 [] [(100, 170)] [170] (show LayOk _ [] from trivial) (by kernel_rfl) (by kernel_rfl) ?_
   refine W.run Dk 2 171 (by kernel_rfl) ?_
   exact W.fi (by kernel_rfl)
   ) ?_
  obtain ⟨x80, hx88, h73⟩ := bind_some h73
  refine CO.endR (tl 23 [(3, .own 172), (7, .sl false false (a0.map (eSN false))), (8, V.i (a0.length : Int)), (9, V.i y53)]) [(172, .vec false 53 5 (x80.map (eSN true)))] mix (by
   refine W.run Dk 3 171 (by kernel_rfl) ?_
   refine W.appO Dk (eSN true) (a := 100) (c := 171) (el := 53) (sz := 5) 72 hx88 rfl 172 (by kernel_rfl) ?_
   refine W.run Dk 1 173 (by kernel_rfl) ?_
   exact W.fi (by kernel_rfl)
   ) (fun st hw => ?_)
  refine CO.weak hw ?_
  refine ce Dk mix 2 173 (tl 23 [(3, .own 172), (7, .sl false false (a0.map (eSN false))), (8, V.i (a0.length : Int)), (9, V.i (IntKind.wrap .i64 (y53 + 1)))]) [(172, .vec false 53 5 (x80.map (eSN true)))] (by kernel_rfl) (fun st hw => ?_)
  exact ih74 (a0, (IntKind.wrap .i64 (y53 + 1)), x80) h73 _ (hw.trans (Weak.sel [(172, 100)] [3, 7, 8, 9] (by kernel_rfl) (by kernel_rfl) (by kernel_rfl)))
 refine CO.ifF hc76 (by kernel_rfl) ?_
 refine CO.exit ?_
 refine cu Dk mix 2 169 (tl 23 [(2, .own 100)]) [(100, .vec false 53 5 (y54.map (eSN true)))] (by kernel_rfl) ?_
 refine CO.ret ?_
 have h73 := Option.some.inj h73
 subst h73
 exact Ends.gen [(100, 100)] (.inr rfl) (RetV.one rfl (OneR.tmp (t := 2) (r := .own 100) (by kernel_rfl))) (by kernel_rfl) (by kernel_rfl) (by kernel_rfl)

theorem m_impl_PushNot_ok (N : Nat) (a0 : List SNode) {r : (List SNode)} (h : m_impl_PushNot N a0 = some r) :
    AC Tryz.prog (GS [0, 1, 2]) 33 [.sl false false (a0.map (eSN false))] [] (.own 100) [(100, .vec false 53 5 (r.map (eSN true)))] := by
 rw [m_impl_PushNot] at h
 refine AC.enter Tryz.func33 rfl ?_
 refine cu Dk mix 1 100 (tl 17 [(0, .sl false false (a0.map (eSN false)))]) [] (by kernel_rfl) ?_
 refine CO.seq' ?_
 obtain ⟨r4, hx5, h⟩ := bind_some h
 refine CO.cutR (tl 17 [(0, .sl false false (a0.map (eSN false))), (6, V.b (!r4))]) [] mix (by
  refine W.run Dk 1 100 (by kernel_rfl) ?_
  refine W.call0 (m_impl_TreeOk_ok N a0 hx5) cok48 rfl (by kernel_rfl) ?_
  refine W.run Dk 1 100 (by kernel_rfl) ?_
  exact W.fi (by kernel_rfl)
  ) ?_
 rcases cond_some h with ⟨hc6, h⟩ | ⟨hc6, h⟩
 ·refine CO.ifT hc6 (by kernel_rfl) ?_
  refine cu Dk mix 1 100 (tl 17 [(2, .c (.slice none 0 0))]) [] (by kernel_rfl) ?_
  refine CO.weak (Weak.nil 2 100 53 5 (by kernel_rfl) (by kernel_rfl)) ?_
  refine CO.ret ?_
  have h := Option.some.inj h
  subst h
  exact Ends.gen [(100, 100)] (.inr rfl) (RetV.one rfl (OneR.tmp (t := 2) (r := .own 100) (by kernel_rfl))) (by kernel_rfl) (by kernel_rfl) (by kernel_rfl)
 refine CO.ifF hc6 (by kernel_rfl) ?_
 refine CO.skip ?_
 obtain ⟨r8, hx10, h⟩ := bind_some h
 obtain ⟨r9, hx11, h⟩ := bind_some h
 obtain ⟨r10, hx12, h⟩ := bind_some h
 refine CO.cutR (tl 17 [(0, .sl false false (a0.map (eSN false))), (3, .own 100)]) [(100, .vec false 53 5 (r10.map (eSN true)))] mix (by
  refine W.run Dk 1 100 (by kernel_rfl) ?_
  refine W.call0 (AC.gs (m_impl_rootOf_ok N a0 hx10) (by decide)) cok61 rfl (by kernel_rfl) ?_
  refine W.call0 (AC.gs (m_impl_tree__pushed_ok N r8 hx11) (by decide)) cok77 rfl (by kernel_rfl) ?_
  refine W.call (AC.gs (m_impl_tree__list_ok N r9 hx12) (by decide)) cok63 [] [(100, 100)] [100] (show LayOk _ [] from trivial) (by kernel_rfl) (by kernel_rfl) ?_
  refine W.run Dk 1 101 (by kernel_rfl) ?_
  exact W.fi (by kernel_rfl)
  ) ?_
 refine CO.seq' ?_
 obtain ⟨r16, hx19, h⟩ := bind_some h
 refine CO.cutR (tl 17 [(0, .sl false false (a0.map (eSN false))), (3, .own 100), (13, V.b (!r16))]) [(100, .vec false 53 5 (r10.map (eSN true)))] mix (by
  refine W.run Dk 1 101 (by kernel_rfl) ?_
  refine W.lend (m_impl_TreeOk_ok N r10 hx19) cok48 [] [] (LayOk.cons (j := 100) (eSN true) (eSN false) r10 (by kernel_rfl) (sh_eSN _) (show LayOk _ [] from trivial)) (.c _) .nil (by kernel_rfl) (by kernel_rfl) ?_
  refine W.run Dk 1 101 (by kernel_rfl) ?_
  exact W.fi (by kernel_rfl)
  ) ?_
 rcases cond_some h with ⟨hc20, h⟩ | ⟨hc20, h⟩
 ·refine CO.ifT hc20 (by kernel_rfl) ?_
  obtain ⟨r18, hx22, h⟩ := bind_some h
  refine CO.cutR (tl 17 [(2, .own 101)]) [(101, .vec false 53 5 (r18.map (eSN true)))] mix (by
   refine W.run Dk 1 101 (by kernel_rfl) ?_
   refine W.call (AC.gs (m_impl_copyNodes_ok N a0 hx22) (by decide)) cok60 [] [(100, 101)] [101] (show LayOk _ [] from trivial) (by kernel_rfl) (by kernel_rfl) ?_
   refine W.run Dk 1 102 (by kernel_rfl) ?_
   exact W.fi (by kernel_rfl)
   ) ?_
  refine CO.ret ?_
  have h := Option.some.inj h
  subst h
  exact Ends.gen [(101, 100)] (.inr rfl) (RetV.one rfl (OneR.tmp (t := 2) (r := .own 101) (by kernel_rfl))) (by kernel_rfl) (by kernel_rfl) (by kernel_rfl)
 refine CO.ifF hc20 (by kernel_rfl) ?_
 refine CO.skip ?_
 refine cu Dk mix 2 101 (tl 17 [(2, .own 100)]) [(100, .vec false 53 5 (r10.map (eSN true)))] (by kernel_rfl) ?_
 refine CO.ret ?_
 have h := Option.some.inj h
 subst h
 exact Ends.gen [(100, 100)] (.inr rfl) (RetV.one rfl (OneR.tmp (t := 2) (r := .own 100) (by kernel_rfl))) (by kernel_rfl) (by kernel_rfl) (by kernel_rfl)

theorem m_laws_eqIntS_ok (N : Nat) (a0 : List Int) (a1 : List Int) {r : Bool} (h : m_laws_eqIntS N a0 a1 = some r) :
    AC Tryz.prog (GS []) 27 [.sl false false (a0.map encI), .sl false false (a1.map encI)] [] (V.b r) [] := by
 rw [m_laws_eqIntS] at h
 refine AC.enter Tryz.func27 rfl ?_
 refine cu Dk mix 1 100 (tl 26 [(0, .sl false false (a0.map encI)), (1, .sl false false (a1.map encI))]) [] (by kernel_rfl) ?_
 refine CO.seq' ?_
 refine CO.cutR (tl 26 [(0, .sl false false (a0.map encI)), (1, .sl false false (a1.map encI)), (10, V.b ((a0.length : Int) != (a1.length : Int)))]) [] mix (by
  refine W.run Dk 1 100 (by kernel_rfl) ?_
  refine W.len Dk encI a0 [] (by kernel_rfl) (by kernel_rfl) ?_
  refine W.run Dk 1 100 (by kernel_rfl) ?_
  refine W.len Dk encI a1 [] (by kernel_rfl) (by kernel_rfl) ?_
  refine W.run Dk 1 100 (by kernel_rfl) ?_
  exact W.fi (by kernel_rfl)
  ) ?_
 rcases cond_some h with ⟨hc2, h⟩ | ⟨hc2, h⟩
 ·refine CO.ifT hc2 (by kernel_rfl) ?_
  refine cu Dk mix 1 100 (tl 26 [(4, V.b false)]) [] (by kernel_rfl) ?_
  refine CO.ret ?_
  have h := Option.some.inj h
  subst h
  exact Ends.gen [] (.inr rfl) (RetV.one rfl (OneR.tmp (t := 4) (r := V.b false) (by kernel_rfl))) (by kernel_rfl) (by kernel_rfl) (by kernel_rfl)
 refine CO.ifF hc2 (by kernel_rfl) ?_
 refine CO.skip ?_
 refine CO.seq' ?_
 refine cu Dk mix 1 100 (tl 26 [(0, .sl false false (a0.map encI)), (1, .sl false false (a1.map encI)), (5, V.i 0)]) [] (by kernel_rfl) ?_
 refine CO.block' ?_
 refine CO.loopJ (fun (⟨a0, a1, y35⟩ : ((List Int) × (List Int) × Int)) => ⟨tl 26 [(0, .sl false false (a0.map encI)), (1, .sl false false (a1.map encI)), (5, V.i y35)], []⟩) (fun n i => m_laws_eqIntS_l1 N n i = some r) (n0 := N) (i0 := (a0, a1, 0)) (Weak.sel [] [0, 1, 5] (by kernel_rfl) (by kernel_rfl) (by kernel_rfl)) h (fun i h => by simp [m_laws_eqIntS_l1] at h) ?_
 rintro n1 ⟨a0, a1, y35⟩ h65 ih66
 rw [m_laws_eqIntS_l1] at h65
 refine CO.seq' ?_
 refine CO.cutR (tl 26 [(0, .sl false false (a0.map encI)), (1, .sl false false (a1.map encI)), (5, V.i y35), (14, V.b (decide (y35 < (a0.length : Int))))]) [] mix (by
  refine W.run Dk 2 160 (by kernel_rfl) ?_
  refine W.len Dk encI a0 [] (by kernel_rfl) (by kernel_rfl) ?_
  refine W.run Dk 1 160 (by kernel_rfl) ?_
  exact W.fi (by kernel_rfl)
  ) ?_
 rcases cond_some h65 with ⟨hc68, h65⟩ | ⟨hc68, h65⟩
 ·refine CO.ifT hc68 (by kernel_rfl) ?_
  refine CO.skip ?_
  refine CO.seq' ?_
  refine CO.block' ?_
  obtain ⟨e51, hx76, h65⟩ := bind_some h65
  obtain ⟨e52, hx77, h65⟩ := bind_some h65
  refine CO.cutR (tl 26 [(0, .sl false false (a0.map encI)), (1, .sl false false (a1.map encI)), (5, V.i y35), (25, V.b (e51 != e52))]) [] mix (by
   refine W.run Dk 2 160 (by kernel_rfl) ?_
   refine W.ixD Dk encI hx76 1 (by kernel_rfl) (by kernel_rfl) ?_
   refine W.run Dk 3 160 (by kernel_rfl) ?_
   refine W.ixD Dk encI hx77 1 (by kernel_rfl) (by kernel_rfl) ?_
   refine W.run Dk 2 160 (by kernel_rfl) ?_
   exact W.fi (by kernel_rfl)
   ) ?_
  rcases cond_some h65 with ⟨hc78, h65⟩ | ⟨hc78, h65⟩
  ·refine CO.ifT hc78 (by kernel_rfl) ?_
   refine cu Dk mix 1 160 (tl 26 [(4, V.b false)]) [] (by kernel_rfl) ?_
   refine CO.ret ?_
   have h65 := Option.some.inj h65
   subst h65
   exact Ends.gen [] (.inr rfl) (RetV.one rfl (OneR.tmp (t := 4) (r := V.b false) (by kernel_rfl))) (by kernel_rfl) (by kernel_rfl) (by kernel_rfl)
  refine CO.ifF hc78 (by kernel_rfl) ?_
  refine CO.skip ?_
  refine ce Dk mix 3 160 (tl 26 [(0, .sl false false (a0.map encI)), (1, .sl false false (a1.map encI)), (5, V.i (IntKind.wrap .i64 (y35 + 1)))]) [] (by kernel_rfl) (fun st hw => ?_)
  exact ih66 (a0, a1, (IntKind.wrap .i64 (y35 + 1))) h65 _ (hw.trans (Weak.sel [] [0, 1, 5] (by kernel_rfl) (by kernel_rfl) (by kernel_rfl)))
 refine CO.ifF hc68 (by kernel_rfl) ?_
 refine CO.exit ?_
 refine cu Dk mix 1 160 (tl 26 [(4, V.b true)]) [] (by kernel_rfl) ?_
 refine CO.ret ?_
 have h65 := Option.some.inj h65
 subst h65
 exact Ends.gen [] (.inr rfl) (RetV.one rfl (OneR.tmp (t := 4) (r := V.b true) (by kernel_rfl))) (by kernel_rfl) (by kernel_rfl) (by kernel_rfl)

theorem m_laws_eqNode_ok (N : Nat) (a0 : SNode) (a1 : SNode) {r : Bool} (h : m_laws_eqNode N a0 a1 = some r) :
    AC Tryz.prog (GS []) 50 [.agg [V.i a0.Kind, V.i a0.Op, V.s a0.Text, V.s a0.Other, .sl false false (a0.Kids.map encI)], .agg [V.i a1.Kind, V.i a1.Op, V.s a1.Text, V.s a1.Other, .sl false false (a1.Kids.map encI)]] [] (V.b r) [] := by
 rw [m_laws_eqNode] at h
 refine AC.enter Tryz.func50 rfl ?_
 refine cu Dk mix 3 100 (tl 31 [(2, .loc 100 0), (3, .loc 101 0)]) [(101, .cells 53 [V.i a1.Kind, V.i a1.Op, V.s a1.Text, V.s a1.Other, .sl false false (a1.Kids.map encI)]), (100, .cells 53 [V.i a0.Kind, V.i a0.Op, V.s a0.Text, V.s a0.Other, .sl false false (a0.Kids.map encI)])] (by kernel_rfl) ?_
 refine CO.seq' ?_
 refine cu Dk mix 5 102 (tl 31 [(2, .loc 100 0), (3, .loc 101 0), (9, V.b (a0.Kind != a1.Kind))]) [(101, .cells 53 [V.i a1.Kind, V.i a1.Op, V.s a1.Text, V.s a1.Other, .sl false false (a1.Kids.map encI)]), (100, .cells 53 [V.i a0.Kind, V.i a0.Op, V.s a0.Text, V.s a0.Other, .sl false false (a0.Kids.map encI)])] (by kernel_rfl) ?_
 rcases cond_some h with ⟨hc2, h⟩ | ⟨hc2, h⟩
 ·refine CO.ifT hc2 (by kernel_rfl) ?_
  refine cu Dk mix 1 102 (tl 31 [(4, V.b false)]) [] (by kernel_rfl) ?_
  refine CO.ret ?_
  have h := Option.some.inj h
  subst h
  exact Ends.gen [] (.inr rfl) (RetV.one rfl (OneR.tmp (t := 4) (r := V.b false) (by kernel_rfl))) (by kernel_rfl) (by kernel_rfl) (by kernel_rfl)
 refine CO.ifF hc2 (by kernel_rfl) ?_
 refine CO.skip ?_
 refine CO.seq' ?_
 refine cu Dk mix 5 102 (tl 31 [(2, .loc 100 0), (3, .loc 101 0), (14, V.b (a0.Op != a1.Op))]) [(101, .cells 53 [V.i a1.Kind, V.i a1.Op, V.s a1.Text, V.s a1.Other, .sl false false (a1.Kids.map encI)]), (100, .cells 53 [V.i a0.Kind, V.i a0.Op, V.s a0.Text, V.s a0.Other, .sl false false (a0.Kids.map encI)])] (by kernel_rfl) ?_
 rcases cond_some h with ⟨hc4, h⟩ | ⟨hc4, h⟩
 ·refine CO.ifT hc4 (by kernel_rfl) ?_
  refine cu Dk mix 1 102 (tl 31 [(4, V.b false)]) [] (by kernel_rfl) ?_
  refine CO.ret ?_
  have h := Option.some.inj h
  subst h
  exact Ends.gen [] (.inr rfl) (RetV.one rfl (OneR.tmp (t := 4) (r := V.b false) (by kernel_rfl))) (by kernel_rfl) (by kernel_rfl) (by kernel_rfl)
 refine CO.ifF hc4 (by kernel_rfl) ?_
 refine CO.skip ?_
 refine CO.seq' ?_
 refine cu Dk mix 5 102 (tl 31 [(2, .loc 100 0), (3, .loc 101 0), (19, V.b (!(a0.Text == a1.Text)))]) [(101, .cells 53 [V.i a1.Kind, V.i a1.Op, V.s a1.Text, V.s a1.Other, .sl false false (a1.Kids.map encI)]), (100, .cells 53 [V.i a0.Kind, V.i a0.Op, V.s a0.Text, V.s a0.Other, .sl false false (a0.Kids.map encI)])] (by kernel_rfl) ?_
 rcases cond_some h with ⟨hc6, h⟩ | ⟨hc6, h⟩
 ·refine CO.ifT hc6 (by kernel_rfl) ?_
  refine cu Dk mix 1 102 (tl 31 [(4, V.b false)]) [] (by kernel_rfl) ?_
  refine CO.ret ?_
  have h := Option.some.inj h
  subst h
  exact Ends.gen [] (.inr rfl) (RetV.one rfl (OneR.tmp (t := 4) (r := V.b false) (by kernel_rfl))) (by kernel_rfl) (by kernel_rfl) (by kernel_rfl)
 refine CO.ifF hc6 (by kernel_rfl) ?_
 refine CO.skip ?_
 refine CO.seq' ?_
 refine cu Dk mix 5 102 (tl 31 [(2, .loc 100 0), (3, .loc 101 0), (24, V.b (!(a0.Other == a1.Other)))]) [(101, .cells 53 [V.i a1.Kind, V.i a1.Op, V.s a1.Text, V.s a1.Other, .sl false false (a1.Kids.map encI)]), (100, .cells 53 [V.i a0.Kind, V.i a0.Op, V.s a0.Text, V.s a0.Other, .sl false false (a0.Kids.map encI)])] (by kernel_rfl) ?_
 rcases cond_some h with ⟨hc8, h⟩ | ⟨hc8, h⟩
 ·refine CO.ifT hc8 (by kernel_rfl) ?_
  refine cu Dk mix 1 102 (tl 31 [(4, V.b false)]) [] (by kernel_rfl) ?_
  refine CO.ret ?_
  have h := Option.some.inj h
  subst h
  exact Ends.gen [] (.inr rfl) (RetV.one rfl (OneR.tmp (t := 4) (r := V.b false) (by kernel_rfl))) (by kernel_rfl) (by kernel_rfl) (by kernel_rfl)
 refine CO.ifF hc8 (by kernel_rfl) ?_
 refine CO.skip ?_
 refine CO.seq' ?_
 obtain ⟨r4, hx13, h⟩ := bind_some h
 refine CO.cutR (tl 31 [(30, V.b (!r4))]) [] mix (by
  refine W.run Dk 4 102 (by kernel_rfl) ?_
  refine W.call0 (m_laws_eqIntS_ok N a0.Kids a1.Kids hx13) cok27 rfl (by kernel_rfl) ?_
  refine W.run Dk 1 102 (by kernel_rfl) ?_
  exact W.fi (by kernel_rfl)
  ) ?_
 rcases cond_some h with ⟨hc14, h⟩ | ⟨hc14, h⟩
 ·refine CO.ifT hc14 (by kernel_rfl) ?_
  refine cu Dk mix 1 102 (tl 31 [(4, V.b false)]) [] (by kernel_rfl) ?_
  refine CO.ret ?_
  have h := Option.some.inj h
  subst h
  exact Ends.gen [] (.inr rfl) (RetV.one rfl (OneR.tmp (t := 4) (r := V.b false) (by kernel_rfl))) (by kernel_rfl) (by kernel_rfl) (by kernel_rfl)
 refine CO.ifF hc14 (by kernel_rfl) ?_
 refine CO.skip ?_
 refine cu Dk mix 1 102 (tl 31 [(4, V.b true)]) [] (by kernel_rfl) ?_
 refine CO.ret ?_
 have h := Option.some.inj h
 subst h
 exact Ends.gen [] (.inr rfl) (RetV.one rfl (OneR.tmp (t := 4) (r := V.b true) (by kernel_rfl))) (by kernel_rfl) (by kernel_rfl) (by kernel_rfl)

theorem m_laws_eqNodeS_ok (N : Nat) (a0 : List SNode) (a1 : List SNode) {r : Bool} (h : m_laws_eqNodeS N a0 a1 = some r) :
    AC Tryz.prog (GS []) 14 [.sl false false (a0.map (eSN false)), .sl false false (a1.map (eSN false))] [] (V.b r) [] := by
 rw [m_laws_eqNodeS] at h
 refine AC.enter Tryz.func14 rfl ?_
 refine cu Dk mix 1 100 (tl 27 [(0, .sl false false (a0.map (eSN false))), (1, .sl false false (a1.map (eSN false)))]) [] (by kernel_rfl) ?_
 refine CO.seq' ?_
 refine CO.cutR (tl 27 [(0, .sl false false (a0.map (eSN false))), (1, .sl false false (a1.map (eSN false))), (10, V.b ((a0.length : Int) != (a1.length : Int)))]) [] mix (by
  refine W.run Dk 1 100 (by kernel_rfl) ?_
  refine W.len Dk (eSN false) a0 [] (by kernel_rfl) (by kernel_rfl) ?_
  refine W.run Dk 1 100 (by kernel_rfl) ?_
  refine W.len Dk (eSN false) a1 [] (by kernel_rfl) (by kernel_rfl) ?_
  refine W.run Dk 1 100 (by kernel_rfl) ?_
  exact W.fi (by kernel_rfl)
  ) ?_
 rcases cond_some h with ⟨hc2, h⟩ | ⟨hc2, h⟩
 ·refine CO.ifT hc2 (by kernel_rfl) ?_
  refine cu Dk mix 1 100 (tl 27 [(4, V.b false)]) [] (by kernel_rfl) ?_
  refine CO.ret ?_
  have h := Option.some.inj h
  subst h
  exact Ends.gen [] (.inr rfl) (RetV.one rfl (OneR.tmp (t := 4) (r := V.b false) (by kernel_rfl))) (by kernel_rfl) (by kernel_rfl) (by kernel_rfl)
 refine CO.ifF hc2 (by kernel_rfl) ?_
 refine CO.skip ?_
 refine CO.seq' ?_
 refine cu Dk mix 1 100 (tl 27 [(0, .sl false false (a0.map (eSN false))), (1, .sl false false (a1.map (eSN false))), (5, V.i 0)]) [] (by kernel_rfl) ?_
 refine CO.block' ?_
 refine CO.loopJ (fun (⟨a0, a1, y51⟩ : ((List SNode) × (List SNode) × Int)) => ⟨tl 27 [(0, .sl false false (a0.map (eSN false))), (1, .sl false false (a1.map (eSN false))), (5, V.i y51)], []⟩) (fun n i => m_laws_eqNodeS_l1 N n i = some r) (n0 := N) (i0 := (a0, a1, 0)) (Weak.sel [] [0, 1, 5] (by kernel_rfl) (by kernel_rfl) (by kernel_rfl)) h (fun i h => by simp [m_laws_eqNodeS_l1] at h) ?_
 rintro n1 ⟨a0, a1, y51⟩ h85 ih86
 rw [m_laws_eqNodeS_l1] at h85
 refine CO.seq' ?_
 refine CO.cutR (tl 27 [(0, .sl false false (a0.map (eSN false))), (1, .sl false false (a1.map (eSN false))), (5, V.i y51), (14, V.b (decide (y51 < (a0.length : Int))))]) [] mix (by
  refine W.run Dk 2 160 (by kernel_rfl) ?_
  refine W.len Dk (eSN false) a0 [] (by kernel_rfl) (by kernel_rfl) ?_
  refine W.run Dk 1 160 (by kernel_rfl) ?_
  exact W.fi (by kernel_rfl)
  ) ?_
 rcases cond_some h85 with ⟨hc88, h85⟩ | ⟨hc88, h85⟩
 ·refine CO.ifT hc88 (by kernel_rfl) ?_
  refine CO.skip ?_
  refine CO.seq' ?_
  refine CO.block' ?_
  obtain ⟨e74, hx99, h85⟩ := bind_some h85
  obtain ⟨e75, hx100, h85⟩ := bind_some h85
  obtain ⟨r76, hx101, h85⟩ := bind_some h85
  refine CO.cutR (tl 27 [(0, .sl false false (a0.map (eSN false))), (1, .sl false false (a1.map (eSN false))), (5, V.i y51), (26, V.b (!r76))]) [] mix (by
   refine W.run Dk 2 160 (by kernel_rfl) ?_
   refine W.ixD Dk (eSN false) hx99 5 (by kernel_rfl) (by kernel_rfl) ?_
   refine W.run Dk 3 160 (by kernel_rfl) ?_
   refine W.ixD Dk (eSN false) hx100 5 (by kernel_rfl) (by kernel_rfl) ?_
   refine W.run Dk 1 160 (by kernel_rfl) ?_
   refine W.call0 (m_laws_eqNode_ok N e74 e75 hx101) cok50 rfl (by kernel_rfl) ?_
   refine W.run Dk 1 160 (by kernel_rfl) ?_
   exact W.fi (by kernel_rfl)
   ) ?_
  rcases cond_some h85 with ⟨hc102, h85⟩ | ⟨hc102, h85⟩
  ·refine CO.ifT hc102 (by kernel_rfl) ?_
   refine cu Dk mix 1 160 (tl 27 [(4, V.b false)]) [] (by kernel_rfl) ?_
   refine CO.ret ?_
   have h85 := Option.some.inj h85
   subst h85
   exact Ends.gen [] (.inr rfl) (RetV.one rfl (OneR.tmp (t := 4) (r := V.b false) (by kernel_rfl))) (by kernel_rfl) (by kernel_rfl) (by kernel_rfl)
  refine CO.ifF hc102 (by kernel_rfl) ?_
  refine CO.skip ?_
  refine ce Dk mix 3 160 (tl 27 [(0, .sl false false (a0.map (eSN false))), (1, .sl false false (a1.map (eSN false))), (5, V.i (IntKind.wrap .i64 (y51 + 1)))]) [] (by kernel_rfl) (fun st hw => ?_)
  exact ih86 (a0, a1, (IntKind.wrap .i64 (y51 + 1))) h85 _ (hw.trans (Weak.sel [] [0, 1, 5] (by kernel_rfl) (by kernel_rfl) (by kernel_rfl)))
 refine CO.ifF hc88 (by kernel_rfl) ?_
 refine CO.exit ?_
 refine cu Dk mix 1 160 (tl 27 [(4, V.b true)]) [] (by kernel_rfl) ?_
 refine CO.ret ?_
 have h85 := Option.some.inj h85
 subst h85
 exact Ends.gen [] (.inr rfl) (RetV.one rfl (OneR.tmp (t := 4) (r := V.b true) (by kernel_rfl))) (by kernel_rfl) (by kernel_rfl) (by kernel_rfl)

theorem m_laws_markText_ok (N : Nat) (a0 : Int) {r : (List UInt8)} (h : m_laws_markText N a0 = some r) :
    AC Tryz.prog (GS []) 51 [V.i a0] [] (V.s r) [] := by
 rw [m_laws_markText] at h
 refine AC.enter Tryz.func51 rfl ?_
 refine cu Dk mix 1 100 (tl 20 [(0, V.i a0)]) [] (by kernel_rfl) ?_
 refine CO.seq' ?_
 refine cu Dk mix 2 100 (tl 20 [(0, V.i a0), (5, V.b (decide (a0 ≤ 0)))]) [] (by kernel_rfl) ?_
 rcases cond_some h with ⟨hc2, h⟩ | ⟨hc2, h⟩
 ·refine CO.ifT hc2 (by kernel_rfl) ?_
  refine cu Dk mix 1 100 (tl 20 [(2, V.s [109, 48])]) [] (by kernel_rfl) ?_
  refine CO.ret ?_
  have h := Option.some.inj h
  subst h
  exact Ends.gen [] (.inr rfl) (RetV.one rfl (OneR.tmp (t := 2) (r := V.s [109, 48]) (by kernel_rfl))) (by kernel_rfl) (by kernel_rfl) (by kernel_rfl)
 refine CO.ifF hc2 (by kernel_rfl) ?_
 refine CO.skip ?_
 refine cu Dk mix 1 100 (tl 20 [(0, V.i a0), (3, V.s [])]) [] (by kernel_rfl) ?_
 refine CO.seq' ?_
 refine CO.block' ?_
 refine CO.loopJ (fun (⟨y13, y14⟩ : (Int × (List UInt8))) => ⟨tl 20 [(0, V.i y13), (3, V.s y14)], []⟩) (fun n i => m_laws_markText_l1 N n i = some r) (n0 := N) (i0 := (a0, [])) (Weak.sel [] [0, 3] (by kernel_rfl) (by kernel_rfl) (by kernel_rfl)) h (fun i h => by simp [m_laws_markText_l1] at h) ?_
 rintro n1 ⟨y13, y14⟩ h25 ih26
 rw [m_laws_markText_l1] at h25
 refine CO.seq' ?_
 refine cu Dk mix 2 162 (tl 20 [(0, V.i y13), (3, V.s y14), (7, V.b (decide (y13 > 0)))]) [] (by kernel_rfl) ?_
 rcases cond_some h25 with ⟨hc28, h25⟩ | ⟨hc28, h25⟩
 ·refine CO.ifT hc28 (by kernel_rfl) ?_
  refine CO.skip ?_
  refine CO.block' ?_
  obtain ⟨s20, hx30, h25⟩ := bind_some h25
  refine CO.cutR (tl 20 [(0, V.i y13), (3, V.s s20)]) [] mix (by
   refine W.run Dk 4 162 (by kernel_rfl) ?_
   refine W.run Dk 1 162 (by kernel_rfl) ?_
   refine W.vecEq 162 (nn := true) (e := 5) (k := 1) (rows := [[.c (.int .u8 (IntKind.wrap .u8 (IntKind.wrap .i64 (48 + (Int.tmod y13 10)))))]]) (rows' := [(bytI (IntKind.wrap .i64 (48 + (Int.tmod y13 10))))].map byteRow) (by kernel_rfl) (by first | (simp only [List.map_cons, List.map_nil, ← bytI_row]; done) | (simp only [List.map_cons, List.map_nil, ← bytI_row]; rfl)) ?_
   refine W.strO Dk ([(bytI (IntKind.wrap .i64 (48 + (Int.tmod y13 10))))] : List UInt8) (a := 162) (by kernel_rfl) ?_
   refine W.run Dk 1 163 (by kernel_rfl) ?_
   refine W.cat hx30 (by kernel_rfl) ?_
   refine W.run Dk 1 163 (by kernel_rfl) ?_
   exact W.fi (by kernel_rfl)
   ) ?_
  refine ce Dk mix 3 163 (tl 20 [(0, V.i (IntKind.wrap .i64 (Int.tdiv y13 10))), (3, V.s s20)]) [] (by kernel_rfl) (fun st hw => ?_)
  exact ih26 ((IntKind.wrap .i64 (Int.tdiv y13 10)), s20) h25 _ (hw.trans (Weak.sel [] [0, 3] (by kernel_rfl) (by kernel_rfl) (by kernel_rfl)))
 refine CO.ifF hc28 (by kernel_rfl) ?_
 refine CO.exit ?_
 obtain ⟨s22, hx32, h25⟩ := bind_some h25
 refine CO.cutR (tl 20 [(2, V.s s22)]) [] mix (by
  refine W.run Dk 1 162 (by kernel_rfl) ?_
  refine W.cat hx32 (by kernel_rfl) ?_
  refine W.run Dk 1 162 (by kernel_rfl) ?_
  exact W.fi (by kernel_rfl)
  ) ?_
 refine CO.ret ?_
 have h25 := Option.some.inj h25
 subst h25
 exact Ends.gen [] (.inr rfl) (RetV.one rfl (OneR.tmp (t := 2) (r := V.s s22) (by kernel_rfl))) (by kernel_rfl) (by kernel_rfl) (by kernel_rfl)

theorem m_laws_markIntS_ok (e0 : TypeId) (N : Nat) (a1 : Int) (p0 : List Int) {r : (Int × (List Int))} (h : m_laws_markIntS N a1 p0 = some r) :
    AC Tryz.prog (GS []) 28 [.own 0, V.i a1] [(0, .vec false e0 1 (p0.map encI))] (V.i r.1) [(0, .vec false e0 1 (r.2.map encI))] := by
 rw [m_laws_markIntS] at h
 refine AC.enter Tryz.func28 rfl ?_
 refine cu Dk mix 1 100 (tl 19 [(0, .own 0), (1, V.i a1)]) [(0, .vec false e0 1 (p0.map encI))] (by kernel_rfl) ?_
 refine CO.seq' ?_
 refine cu Dk mix 1 100 (tl 19 [(0, .own 0), (1, V.i a1), (5, V.i 0)]) [(0, .vec false e0 1 (p0.map encI))] (by kernel_rfl) ?_
 refine CO.block' ?_
 refine CO.loopJ (fun (⟨y39, y40, y41⟩ : (Int × Int × (List Int))) => ⟨tl 19 [(0, .own 0), (1, V.i y39), (5, V.i y40)], [(0, .vec false e0 1 (y41.map encI))]⟩) (fun n i => m_laws_markIntS_l1 N n i = some r) (n0 := N) (i0 := (a1, 0, p0)) (Weak.sel [(0, 0)] [0, 1, 5] (by kernel_rfl) (by kernel_rfl) (by kernel_rfl)) h (fun i h => by simp [m_laws_markIntS_l1] at h) ?_
 rintro n1 ⟨y39, y40, y41⟩ h53 ih54
 rw [m_laws_markIntS_l1] at h53
 refine CO.seq' ?_
 refine CO.cutR (tl 19 [(0, .own 0), (1, V.i y39), (5, V.i y40), (9, V.b (decide (y40 < (y41.length : Int))))]) [(0, .vec false e0 1 (y41.map encI))] mix (by
  refine W.run Dk 2 160 (by kernel_rfl) ?_
  refine W.len Dk encI y41 [0] (by kernel_rfl) (by kernel_rfl) ?_
  refine W.run Dk 1 160 (by kernel_rfl) ?_
  exact W.fi (by kernel_rfl)
  ) ?_
 rcases cond_some h53 with ⟨hc56, h53⟩ | ⟨hc56, h53⟩
 ·refine CO.ifT hc56 (by kernel_rfl) ?_
  refine CO.skip ?_
  refine CO.seq' ?_
  refine CO.block' ?_
  obtain ⟨e59, hx63, h53⟩ := bind_some h53
  obtain ⟨x60, hu64, h53⟩ := bind_some h53
  refine CO.cutR (tl 19 [(0, .own 0), (1, V.i y39), (5, V.i y40)]) [(0, .vec false e0 1 (x60.map encI))] mix (by
   refine W.run Dk 3 160 (by kernel_rfl) ?_
   refine W.ixO Dk encI hx63 0 1 (by kernel_rfl) ?_
   refine W.stO Dk encI (x' := y39) hx63 hu64 (j := 0) (nn := false) (ety := e0) (sz := 1) (b := 0) (ys := [V.i y39]) (C := []) (R := []) (by kernel_rfl) (by kernel_rfl) ?_
   exact W.fi (by kernel_rfl)
   ) ?_
  refine ce Dk mix 3 160 (tl 19 [(0, .own 0), (1, V.i (IntKind.wrap .i64 (y39 + 1))), (5, V.i y40)]) [(0, .vec false e0 1 (x60.map encI))] (by kernel_rfl) (fun st hw => ?_)
  refine CO.weak hw ?_
  refine ce Dk mix 3 160 (tl 19 [(0, .own 0), (1, V.i (IntKind.wrap .i64 (y39 + 1))), (5, V.i (IntKind.wrap .i64 (y40 + 1)))]) [(0, .vec false e0 1 (x60.map encI))] (by kernel_rfl) (fun st hw => ?_)
  exact ih54 ((IntKind.wrap .i64 (y39 + 1)), (IntKind.wrap .i64 (y40 + 1)), x60) h53 _ (hw.trans (Weak.sel [(0, 0)] [0, 1, 5] (by kernel_rfl) (by kernel_rfl) (by kernel_rfl)))
 refine CO.ifF hc56 (by kernel_rfl) ?_
 refine CO.exit ?_
 refine cu Dk mix 2 160 (tl 19 [(4, V.i y39)]) [(0, .vec false e0 1 (y41.map encI))] (by kernel_rfl) ?_
 refine CO.ret ?_
 have h53 := Option.some.inj h53
 subst h53
 exact Ends.gen [(0, 0)] (.inr rfl) (RetV.one rfl (OneR.tmp (t := 4) (r := V.i y39) (by kernel_rfl))) (by kernel_rfl) (by kernel_rfl) (by kernel_rfl)

theorem m_laws_markIntS_v2_ok (N : Nat) (a1 : Int) {r : Int} (h : m_laws_markIntS_v2 N a1 = some r) :
    AC Tryz.prog (GS []) 28 [.sl false false ([].map encI), V.i a1] [] (V.i r) [] := by
 rw [m_laws_markIntS_v2] at h
 refine AC.enter Tryz.func28 rfl ?_
 refine cu Dk mix 1 100 (tl 19 [(0, .sl false false ([].map encI)), (1, V.i a1)]) [] (by kernel_rfl) ?_
 refine CO.seq' ?_
 refine cu Dk mix 1 100 (tl 19 [(0, .sl false false ([].map encI)), (1, V.i a1), (5, V.i 0)]) [] (by kernel_rfl) ?_
 refine CO.block' ?_
 refine CO.loopJ (fun (a1 : Int) => ⟨tl 19 [(0, .sl false false ([].map encI)), (1, V.i a1), (5, V.i 0)], []⟩) (fun n i => m_laws_markIntS_v2_l1 N n i = some r) (n0 := N) (i0 := a1) (Weak.sel [] [0, 1, 5] (by kernel_rfl) (by kernel_rfl) (by kernel_rfl)) h (fun i h => by simp [m_laws_markIntS_v2_l1] at h) ?_
 rintro n1 a1 h3 ih4
 rw [m_laws_markIntS_v2_l1] at h3
 refine CO.seq' ?_
 refine CO.cutR (tl 19 [(0, .sl false false ([].map encI)), (1, V.i a1), (5, V.i 0), (9, V.b false)]) [] mix (by
  refine W.run Dk 2 120 (by kernel_rfl) ?_
  refine W.len Dk encI [] [] (by kernel_rfl) (by kernel_rfl) ?_
  refine W.run Dk 1 120 (by kernel_rfl) ?_
  exact W.fi (by kernel_rfl)
  ) ?_
 refine CO.ifF (c := false) rfl (by kernel_rfl) ?_
 refine CO.exit ?_
 refine cu Dk mix 2 120 (tl 19 [(4, V.i a1)]) [] (by kernel_rfl) ?_
 refine CO.ret ?_
 have h3 := Option.some.inj h3
 subst h3
 exact Ends.gen [] (.inr rfl) (RetV.one rfl (OneR.tmp (t := 4) (r := V.i a1) (by kernel_rfl))) (by kernel_rfl) (by kernel_rfl) (by kernel_rfl)

theorem m_laws_markIntS_nil (N : Nat) (k : Int) (l : List Int) {r : (Int × (List Int))} (h : m_laws_markIntS N k l = some r) (hl : l = []) :
    r.2.map encI = [] ∧ AC Tryz.prog (GS []) 28 [.sl false false [], V.i k] [] (V.i r.1) [] := by
  subst hl
  have h2 : r.2 = [] ∧ m_laws_markIntS_v2 N k = some r.1 := by
    cases N with
    | zero => simp [m_laws_markIntS_l1, m_laws_markIntS] at h
    | succ N =>
      simp [m_laws_markIntS_l1, m_laws_markIntS] at h
      subst h
      simp [m_laws_markIntS_v2_l1, m_laws_markIntS_v2]
  exact ⟨by rw [h2.1]; rfl, m_laws_markIntS_v2_ok N k h2.2⟩

end Go.Proofs.Tryz
